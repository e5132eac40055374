/- Parts of the proof of streamCards_card. -/
import Derived.OrdersHeld
import Derived.Test.YtgpjhbhdbjdlgaaGreatDoorBac
set_option linter.unusedVariables false
set_option linter.unusedSimpArgs false
set_option linter.unusedSectionVars false
namespace Go.Proofs.YtgpjhbhdbjdlgaaGreatDoor
open Tryz
set_option maxRecDepth 20000
set_option maxHeartbeats 4000000
section
open Go
section
variable {P:Program} [Tab P] {C:Ctx} {n:Nat} {env:Env} {H:Heap} {Q:aL->Env->Heap->Prop} {ops:Array Oper} {rest:List Oper} {G:Glo} {GL:List (Nat×List AVal)}
variable {eT:Option TypeId}
variable {d:Nat} {t:TypeId} {p:String} {af:Array Edge} {g:Option (Nat×Bool)} {b:Bool} {F:Prop}
variable {x y:Operand} {T:TypeId} {xT:TI} {tx ty:TypeId} {av:AVal}
theorem L5 {K:Heap->Prop}(hg:aQ ops env g=some (b,b))(h:B3 P env H T x y F K)
  (hF:F->au P C n ops ({dst:=none,op:=.store T x y,type:=t,pos:=p,after:=af,guard:=g}::rest) env H Q) (hK:∀H',K H'->au P C n ops rest env H' Q):
  au P C n ops ({dst:=none,op:=.store T x y,type:=t,pos:=p,after:=af,guard:=g}::rest) env H Q:=by
 unfold B3 at h
 split at h
 ·rename_i xT ht;split at h
  ·rename_i i b o a hx hy;split at h
   ·rename_i b' cs hi
    rcases rz h with h|⟨hp,h⟩
    ·exact hF h
    ·split at h
     ·rename_i h1 h2 h3
      obtain⟨rfl,h⟩:=h
      rw[cZ,bA] at h
      exact Fh hg hx hy hi ht (m_ h1) h2 hp h3 (by
       have e:=m_ h1
       exact hK _ h)
     ·exact hF h
   ·rename_i b' s cap hi
    split at h
    ·rename_i m h1
     obtain⟨⟨rfl,ho,h0,h2⟩,h⟩:=h
     rw[bA] at h
     have hsz:=m_ h1
     intro R act w hm hf
     obtain⟨hcap,_⟩:=hm.heap.holds _ (q_ hi)
     refine DH (H':=H.set i (.cells b' none (gp s cap))) (λR w hm=>NC hi hm) ?_ R act w hm hf
     refine Fh (av:=.int .u8 m) hg hx hy (qi hi) ht hsz.symm (Nat.ble_eq_true_of_le (by rw[Fg hcap,hsz];omega)) rfl rfl ?_
     rw[hsz]
     have e:(gp s cap).take o++AVal.cells (.int .u8 m)++(gp s cap).drop (o+1)=gp (s.set o (UInt8.ofNat m.toNat)) cap:=Py ho h0 h2
     rw[e,Kb]
     refine DH (H':=H.set i (.buf b' (s.set o (UInt8.ofNat m.toNat)) cap)) (λR w hm=> ?_) (hK _ h)
     have:=BE (by simpa using hcap) (qi hi) hm
     rwa [Kb] at this
    ·exact hF h
   ·rename_i v' _ sz n0 cs hi
    rcases rz h with h|⟨hp,h⟩
    ·exact hF h
    ·split at h
     ·rename_i h1 h2
      split at h
      ·rename_i hs1
       have e1:=m_ hs1
       rw[<-e1] at h
       obtain⟨⟨hr,ho,h0⟩,h⟩:=h
       rw[bA] at h
       exact sj hg hx hy hi hr h0 ht (m_ h1) ho hp h2 (hK _ h)
      ·obtain⟨⟨hr,ho,h0⟩,h⟩:=h
       rw[bA] at h
       exact sj hg hx hy hi hr h0 ht (m_ h1) ho hp h2 (hK _ h)
     ·exact hF h
   ·exact hF h
  ·exact hF h
 ·exact hF h
theorem zh {i sz m:Nat}{v:Value}{cs:List AVal}(hi:H[i]? =some (.row v eT sz m cs))(h:au P C n ops rest ((d,.own i v)::env) H Q):au P C n ops rest ((d,.raw v)::env) H Q:=
 λR a w hm hf=>fS (EO hm hi) h R a w hm hf
theorem ni {z:HEnt}:(H++[z])[H.length]? =some z:=by simp
theorem JL {K:AVal->Heap->Prop}(hg:aQ ops env g=some (b,b))(hdn:Nat.ble (d+1) n=true)(h:DF P env H T tx x y F K)
  (hF:F->au P C n ops ({dst:=some d,op:=.call {callee:=.builtin .append,args:=[x,y].toArray,argTypes:=[T,tx].toArray},type:=t,pos:=p,after:=af,guard:=g}::rest) env H Q)
  (hK:∀av H',K av H'->au P C n ops rest ((d,av)::env) H' Q):
  au P C n ops ({dst:=some d,op:=.call {callee:=.builtin .append,args:=[x,y].toArray,argTypes:=[T,tx].toArray},type:=t,pos:=p,after:=af,guard:=g}::rest) env H Q:=by
 unfold DF at h;split at h
 ·rename_i xT xx ht htx;split at h
  ·rename_i e e' hd hdx;split at h
   ·rename_i xe he;split at h
    ·rename_i z hz h1024 h1;split at h
     ·rename_i sz m f hzl hy;split at h
      ·rename_i hsz;have hsz:=m_ hsz;have hzl:=m_ hzl;subst hsz;split at h
       ·rename_i i v hx;split at h
        ·rename_i v' eT sz' n0 cs hi;split at h
         case h_2=>exact hF h
         rename_i hty;obtain⟨⟨rfl,rfl,hlen⟩,h⟩:=h;have hok:ax xe.size m f/\∀(va:Option Addr) (vk vc:Nat),G6 (n0+m) va vk->K (.own i (.slice va vk vc)) (H.set i (.row (.slice va vk vc) eT xe.size (n0+m) (cs++fa m f))):=by
          rcases h with⟨h1,h2⟩|⟨h1,h2⟩
          ·exact⟨lz h1,λva vk vc hv=>by have:=h2.h va vk vc hv;simp only[bA] at this;exact this⟩
          ·exact⟨h1,λva vk vc hv=>by have:=h2.h va vk vc hv;simp only[bA] at this;exact this⟩
         exact AO hg hdn hx hi hy ht hd he rfl h1 h1024 hz hzl (λR v hv=>En hv htx hdx hok.1) hlen (JX hty) (λv'=>mH (qi hi) λ⟨va,vk,vc,e,hv⟩=>by subst e;exact hK _ _ (hok.2 va vk vc hv))
        ·exact hF h
       ·rename_i hx;obtain⟨hlen,h⟩:=h;have hok:ax xe.size m f/\∀(va:Option Addr) (vk vc:Nat),G6 m va vk->K (.own H.length (.slice va vk vc)) (H++[.row (.slice va vk vc) none xe.size m (fa m f)]):=by
         rcases h with⟨h1,h2⟩|⟨h1,h2⟩
         ·exact⟨lz h1,λva vk vc hv=>by have:=h2.h va vk vc hv;simp only[bA] at this;exact this⟩
         ·exact⟨h1,λva vk vc hv=>by have:=h2.h va vk vc hv;simp only[bA] at this;exact this⟩
        refine DI (eT:=none) xe.size (mQ ?_);refine NK (i:=H.length) hg hdn hx ni hy ht hd he rfl h1 h1024 hz hzl (λR v hv=>En hv htx hdx hok.1) a_ (λ_ h=>nomatch h) (λv'=> ?_);have e2:(H++[HEnt.row (.slice none 0 0) none xe.size 0 []]).set H.length (.row v' none xe.size (0+m) ([]++(List.range m).flatMap λi=>(f i).cells))=H++[.row v' none xe.size m (fa m f)]:=by
         simp[fa]
        rw[e2];refine mH ni λ⟨va,vk,vc,e,hv⟩=> ?_;subst e;exact zh ni (hK _ _ (hok.2 va vk vc hv))
       ·exact hF h
      ·exact hF h
     ·exact hF h
    ·exact hF h
   ·exact hF h
  ·exact hF h
 ·exact hF h
theorem EG {S:TypeId}{xS:TI}{s:ω}(hx:ah env x=some (.str s))(h1:bj P S=some xS)(hd1:xS.desc= .string)(h2:bj P T=some xT)(hd2:xT.desc= .string):bE P C H env (.convert S T x) (.str s):=by
 intro R ρ w hm hf dst t p af g;refine⟨_,?_,aD.2 rfl⟩;simp only[execOp,aD.1 (hf _ _ hx),convert,e_,ao h1,ao h2,hd1,hd2,c_,h_]
theorem NJ {recv:Operand}{name:String}{args:List Operand}{ts:Array TypeId}{f:FuncId}{ty:TypeId}{a r:AVal}{avs:List AVal}{Qf:co->Heap->Prop}
  (hg:aQ ops env g=some (b,b)) (hdn:Nat.ble (d+1) n=true) (hfv:ah env recv=some (.iface ty a)) (ha:kH env args=some avs)
  (hmt:∀R v,bn R (mY a) v->∀w,∃u,(Go.method (P.types.size+Made.depth) ty v name).run P w= .ok (f,u) w/\bn R r u)
  (hs:ad P C.G f (r::jN avs) H Qf)
  (hret:∀v H',Qf (.ret v) H'->au P C n ops rest ((d,v)::env) H' Q)
  (hpan:∀v H',Qf (.panic v) H'->Q (.panic v) env H'):
  au P C n ops ({dst:=some d,op:=.call {callee:=.invoke recv name,args:=args.toArray,argTypes:=ts},type:=t,pos:=p,after:=af,guard:=g}::rest) env H Q:=by
 intro R act w hm hf;refine wpList_step λK hK=> ?_;rw[cE hf hg,if_pos (by simp)];obtain⟨v,e,hv1,hv2⟩:=bC (hf.eval hfv) rfl;simp only[o_,and_true] at e;obtain⟨u,hu,hru⟩:=hmt R v (tk a v ⟨hv1,hv2⟩) w;have hrel:dy R (r::jN avs) (#[u]++args.toArray.map act.eval).toList:=by
  have:=jM _ _ (i6 (λx av h=>hf.eval h) ha);have e9:(#[u]++args.toArray.map act.eval).toList=u::args.map act.eval:=by simp
  rw[e9];exact⟨u,_,rfl,⟨hru.1,hru.2⟩,this⟩
 have hrun:(execOp act.eval {dst:=some d,op:=.call {callee:=.invoke recv name,args:=args.toArray,argTypes:=ts},type:=t,pos:=p,after:=af,guard:=g:Oper}).run P w=
   (callFunc f (#[u]++args.toArray.map act.eval)).run P w:=by
  have e0:(#[Value.iface ty v]++args.toArray.map act.eval)[0]? =some (.iface ty v):=by simp
  have e1:(#[Value.iface ty v]++args.toArray.map act.eval).extract 1 (#[Value.iface ty v]++args.toArray.map act.eval).size=args.toArray.map act.eval:=by
   apply Array.ext';simp[List.extract_eq_take_drop];rw[u_ (by simp)]
  simp only[execOp,resolve,e,e_,h_,c_,invoke,e0,e1,callMethod,run_program,hu]
 have hent:MS ⟨w,R,eR H,C.G,hm.glo,[]⟩ R H w:=MS.enter (H1:=H) (H2:=[]) (by simpa using hm);have hms:∀{R' H' w'},MS ⟨w,R,eR H,C.G,hm.glo,[]⟩ R' H' w'->MS C R' H' w':=λh=>by
  have:=MS.call (H2:=[]) (by simpa using hm) h;simpa using this
 rcases hs R w _ hm.glo hent hrel with⟨h1,h2⟩|⟨x,w',h1,res,H',R',q,er,hm'⟩
 ·rw[Oper.wp,hrun,h1,Oper.upon_enter];refine h2.mono ?_;rintro en w' ⟨res,H',R',q,er,hm'⟩;have hf':=hf.mono hm'.ge;cases res with
  |ret x=>
   obtain⟨y,rfl,hr⟩:=er;exact hK _ _ (hret x H' q R' _ w' (hms hm') (hf'.put hdn hr))
  |panic x=>
   obtain⟨y,rfl,hr⟩:=er;exact⟨.panic x,env,_,R',hpan x H' q,⟨y,rfl,hr⟩,hms hm',hf'⟩
 ·rw[Oper.wp,hrun,h1,Oper.upon_value];have hf':=hf.mono hm'.ge;cases res with
  |ret v'=>
   obtain⟨y,e,hr⟩:=er;simp only[Ending.returned.injEq] at e;subst e;exact hK _ _ (hret v' H' q R' _ w' (hms hm') (hf'.put hdn hr))
  |panic v'=>obtain⟨y,e,_⟩:=er;cases e
theorem TD (hC:C.G=G)(hGL:ab G GL){op:Op}{Kp K:AVal->Heap->Prop}(hg:aQ ops env g=some (b,b))(hdn:Nat.ble (d+1) n=true)(h:TE P G GL env H op F Kp K)
  (hF:F->au P C n ops ({dst:=some d,op:=op,type:=t,pos:=p,after:=af,guard:=g}::rest) env H Q)
  (hp:∀v H',Kp v H'->Q (.panic v) env H') (hK:∀av H',K av H'->au P C n ops rest ((d,av)::env) H' Q):
  au P C n ops ({dst:=some d,op:=op,type:=t,pos:=p,after:=af,guard:=g}::rest) env H Q:=by
 subst hC;unfold TE at h;split at h
 ·rename_i T;split at h
  ·rename_i xT ht;split at h
   ·rename_i cs hc;refine R6 hg hdn ht hc (λbl=>mQ (fS (i:=H.length) rfl (hK _ _ ?_)));have:=h.h bl;simp only[cZ,bA] at this;exact this
   ·exact hF h
  ·exact hF h
 ·rename_i T x;split at h
  ·rename_i a hx;rcases rz h with h|⟨hpl,h|h⟩
   ·exact hF h
   ·exact Ai hg hdn hx hpl (hK _ _ h)
   ·refine X6 hg hdn hx hpl (λbl=>mQ (fS (i:=H.length) rfl (hK _ _ ?_)));have:=h.h bl;simp only[bA] at this;exact this
  ·exact hF h
 ·rename_i args ts;split at h
  ·rename_i x y T tx h1 h2;rw[dE h1,dE h2] at hF ⊢;exact JL hg hdn h hF hK
  ·exact hF h
 ·rename_i recv name args ts;split at h
  ·rename_i ty a avs h1 h2;obtain⟨f,r,hmt,hs⟩:=h;obtain⟨Qf,hs,hr,hpn⟩:=hs;have e:=dE (a:=args) rfl;rw[e];exact NJ hg hdn h1 h2 hmt hs (λv H' q=>hK _ _ (hr v H' q)) (λv H' q=>hp _ _ (hpn v H' q))
  ·exact hF h
 ·rename_i fv args ts;unfold VJ at h;split at h
  ·rename_i f l1 l2 avs h1 h2;rw[cZ] at h;obtain⟨Qf,hs,hr,hpn⟩:=h;have e:=dE (a:=args) rfl;rw[e];refine UU (H1:=H) (H2:=[]) (Qf:=Qf) hg hdn h1 h2 ?_ (by simp) (λv H' q=>by simpa using hK _ _ (hr v H' q)) (λv H' q=>by simpa using hp _ _ (hpn v H' q));intro R w args' hG hm ha;exact hs R w args' hG hm (jM _ _ ha)
  ·exact hF h
 ·rename_i S T x;split at h
  ·rename_i s hx;unfold RJ at h;split at h
   ·rename_i xS xT hS hT;split at h
    ·rename_i e hd1 hd2;split at h
     ·rename_i xe he;split at h
      ·rename_i hu;refine X5 hg hdn hx hS hd1 hT hd2 he hu (λbl cap hcap=> ?_);have h:=h.h bl cap hcap;simp only[bA] at h;refine mQ (fS (i:=H.length) rfl ?_);refine DH (H':=H++[.buf bl s cap]) (λR w hm=> ?_) (hK _ _ h);have:=BE hcap ni hm;simpa using this
      ·exact hF h
     ·exact hF h
    ·rename_i hd1 hd2;exact nu hg hdn (EG hx hS hd1 hT hd2) (hK _ _ h)
    ·exact hF h
   ·exact hF h
  ·exact LK hg hdn (vK hGL h) hF (λav h=>hK av H h)
 ·rename_i T m l;unfold LG at h;split at h
  ·rename_i xT ps ht hl;split at h
   ·rename_i e hd;split at h
    ·rename_i xe he;split at h
     ·rename_i z hz;split at h
      ·rename_i h5 h6 h7 h8 h9;have e2:=dE (a:=l) rfl;rw[e2];rcases h with h|h
       ·exact pG hg hdn hl ht hd he hz h5 h6 h7 h8 h9 (hK _ _ h)
       ·refine tb hg hdn hl ht hd he hz h5 h6 h7 h8 h9 (λv=>mQ (mH ni λ⟨va,vk,vc,e,hv⟩=> ?_));subst e;refine zh (i:=H.length) ni (hK _ _ ?_);have:=h.h va vk vc hv;simp only[cZ,bA] at this;exact this
      ·exact hF h
     ·exact hF h
    ·exact hF h
   ·exact hF h
  ·exact hF h
 ·rename_i T x;split at h
  ·rename_i xT s ht hx;split at h
   ·rename_i hd;refine DG hg hdn hx ht hd (λbl=>mQ (fS (i:=H.length) rfl (hK _ _ ?_)));have:=h.h bl;simp only[bA] at this;exact this
   ·exact hF h
  ·exact hF h
 ·rename_i x;split at h
  ·rename_i i b hx;split at h
   ·rename_i b' s pos hi;obtain⟨rfl,h1,h2⟩:=h;refine PB hg hdn hx hi (λhlt=>hK _ _ ?_) (λhlt=>hK _ _ (h2 hlt));have:=h1 hlt;rwa [bA] at this
   ·exact hF h
  ·exact hF h
 ·rename_i T;refine NI hg hdn (λbl=>mQ (fS (i:=H.length) rfl (hK _ _ ?_)));have:=h.h bl;simp only[bA] at this;exact this
 ·rename_i T x y ok;split at h
  ·rename_i xT i b k ht hx hy;split at h
   ·rename_i kt et b' es hd hi;split at h
    ·rename_i xk xe hk he;split at h
     ·rename_i z hkk hz;obtain⟨rfl,h⟩:=h;rcases FE h with h|⟨j,a,hj,h⟩|⟨hj,h⟩
      ·exact hF h
      ·refine nu hg hdn (EA ok hx hy hi ht hd hk hkk hj) (hK _ _ ?_);cases ok<;>exact h
      ·refine nu hg hdn (Cg ok hx hy hi ht hd hk hkk hj he hz) (hK _ _ ?_);cases ok<;>exact h
     ·exact hF h
    ·exact hF h
   ·exact hF h
  ·exact hF h
 ·exact LK hg hdn (vK hGL h) hF (λav h=>hK av H h)
theorem xZ {op:Op}{z:Operand}(hop:op= .mapUpdate T x y z\/op= .insert T x y z){K:Heap->Prop}(hg:aQ ops env g=some (b,b))(h:p9 P env H T x y z F K)
  (hF:F->au P C n ops ({dst:=none,op:=op,type:=t,pos:=p,after:=af,guard:=g}::rest) env H Q) (hK:∀H',K H'->au P C n ops rest env H' Q):
  au P C n ops ({dst:=none,op:=op,type:=t,pos:=p,after:=af,guard:=g}::rest) env H Q:=by
 unfold p9 at h;split at h
 ·rename_i xT i b k a ht hx hy hz;split at h
  ·rename_i kt et b' es hd hi;split at h
   ·rename_i xk hk;split at h
    ·rename_i hkk;obtain⟨rfl,h⟩:=h;rcases FE h with h|⟨j,a',hj,h⟩|⟨hj,h⟩
     ·exact hF h
     ·rw[bA] at h;exact BM hop hg hx hy hz hi ht hd hk hkk (.inl ⟨j,a',hj,hK _ h⟩)
     ·rw[bA] at h;exact BM hop hg hx hy hz hi ht hd hk hkk (.inr ⟨hj,hK _ h⟩)
    ·exact hF h
   ·exact hF h
  ·exact hF h
 ·exact hF h
theorem rD {o:Oper}{e:Nat}(hs:cJ ops o.guard=some e)(hv:Env.get env e=some (.raw undef))(hd:o.dst=none)
  (h:au P C n ops rest env H Q):au P C n ops (o::rest) env H Q:=by
 intro R a w hm hf;refine wpList_step λK hK=> ?_;have hw:Region.wanted o (yielded ops a.tmps)=false:=by
  unfold cJ at hs;unfold Region.wanted;split at hs
  ·rename_i j want h;rw[h];split at hs
   ·rename_i o' ho;obtain⟨x,hx,hr⟩:=hf.fr e _ hv;rw[aq.1 hr] at hx;simp[yielded,ho,hs,hx,undef]
   ·cases hs
  ·cases hs
 rw[hw,if_neg (by simp),hd];exact hK _ _ (h R _ w hm hf)
theorem fm (hC:C.G=G)(hGL:ab G GL):∀(l:List Oper) (env:Env) (H:Heap),mN P C n G GL ops Q l env H->au P C n ops l env H Q
 |[],env,H,h=>X3 h
 |o::rest,env,H,h=>by
  have ih:=fm hC hGL rest;replace h:OS P C n G GL ops o rest Q (mN P C n G GL ops Q rest) env H:=h;generalize mN P C n G GL ops Q rest=K at h ih;have run:∀env' b,aQ ops env' o.guard=some (b,b)->(match o.op with
   |.panic x=>match ah env' x with
    |some (.iface ty v)=>Q (.panic (.iface ty v)) env' H
    |_=>uD P C n ops (o::rest) env' H Q
   |op=>match o.dst with
    |some d=>match Nat.ble (d+1) n with
     |true=>TE P G GL env' H op (uD P C n ops (o::rest) env' H Q) (λv H'=>Q (.panic v) env' H') (λav H'=>K ((d,av)::env') H')
     |false=>uD P C n ops (o::rest) env' H Q
    |none=>match op with
     |.store T x y=>B3 P env' H T x y (uD P C n ops (o::rest) env' H Q) (λH'=>K env' H')
     |.mapUpdate T x y z=>p9 P env' H T x y z (uD P C n ops (o::rest) env' H Q) (λH'=>K env' H')
     |.insert T x y z=>p9 P env' H T x y z (uD P C n ops (o::rest) env' H Q) (λH'=>K env' H')
     |_=>uD P C n ops (o::rest) env' H Q)->au P C n ops (o::rest) env' H Q:=by
   intro env' b hg h
   obtain⟨dst,op,type,pos,after,guard⟩:=o
   dsimp only at h hg ⊢
   split at h
   ·rename_i x;split at h
    ·rename_i ty v hx;exact R5 hg hx h
    ·exact h.h
   ·split at h
    ·rename_i d;split at h
     ·rename_i hdn;exact TD hC hGL hg hdn h (λh=>h.h) (λv H' h=>h) (λav H' h=>ih _ _ h)
     ·exact h.h
    ·split at h
     ·exact L5 hg h (λh=>h.h) (λH' h=>ih _ _ h)
     ·exact xZ (.inl rfl) hg h (λh=>h.h) (λH' h=>ih _ _ h)
     ·exact xZ (.inr rfl) hg h (λh=>h.h) (λH' h=>ih _ _ h)
     ·exact h.h
  have skip:∀env',(∀d,o.dst=some d->Nat.ble (d+1) n=true->au P C n ops rest ((d,.raw undef)::env') H Q->au P C n ops (o::rest) env' H Q)->
    (o.dst=none->au P C n ops rest env' H Q->au P C n ops (o::rest) env' H Q)->(match o.dst with
   |some d=>match Nat.ble (d+1) n with
    |true=>K ((d,.raw undef)::env') H
    |false=>uD P C n ops (o::rest) env' H Q
   |none=>K env' H)->au P C n ops (o::rest) env' H Q:=by
   intro env' h1 h2 h
   split at h
   ·rename_i d hd;split at h
    ·rename_i hdn;exact h1 d hd hdn (ih _ _ h)
    ·exact h.h
   ·rename_i hd;exact h2 hd (ih _ _ h)
  simp only[OS,ui] at h;split at h
  ·rename_i hgn;exact run env true (by rw[hgn];rfl) h
  ·rename_i j want hgn;split at h
   ·rename_i o' ho;split at h
    ·rename_i e he;split at h
     ·rename_i b hb;have hgA:aQ ops env o.guard=some (b,want):=by rw[hgn];simp only[aQ,ho,he,hb]
      have hgS:cJ ops o.guard=some e:=by rw[hgn];simp only[cJ,ho,he]
      have hgT:∀v,aQ ops ((e,.bool v)::env) o.guard=some (v,want):=λv=>by rw[hgn];exact pg ho he
      split at h
      ·refine G1 hgA hgS hb (λhv=> ?_) (λhv=> ?_)
       ·exact run _ true (hgT true) (h.1 hv)
       ·exact skip _ (λd hd hdn k=>R4 (hgT false) hd hdn k) (λhd k=>ta (hgT false) rfl hd k) (h.2 hv)
      ·refine G1 hgA hgS hb (λhv=> ?_) (λhv=> ?_)
       ·exact skip _ (λd hd hdn k=>US (hgT true) hd hdn k) (λhd k=>ta (hgT true) rfl hd k) (h.1 hv)
       ·exact run _ false (hgT false) (h.2 hv)
     ·rename_i v hv;have hgS:cJ ops o.guard=some e:=by rw[hgn];simp only[cJ,ho,he]
      obtain⟨rfl,h⟩:=h;exact skip _ (λd hd hdn k=>Ah hgS hv hd hdn k) (λhd k=>rD hgS hv hd k) h
     ·exact h.h
    ·exact h.h
   ·exact h.h
theorem BI {id:Nat}{x:aL}{e:Env}{h:Heap}(q:Dv id Q x e h):Dx id Q x e h:=by
 cases x with
 |exit i=>
  simp only[Dv] at q;simp only[Dx];split at q
  ·rename_i hb;exact⟨λ_=>q,λhne=>absurd (m_ hb) hne⟩
  ·rename_i hb;exact⟨λhe=>(by subst he;rw[Nat.beq_refl] at hb;cases hb),λ_=>q⟩
 |normal=>exact q
 |goto i=>exact q
 |ret=>exact q
 |panic v=>exact q
theorem dg (hC:C.G=G)(hGL:ab G GL):∀(c:Code) (env:Env) (H:Heap) (Q:aL->Env->Heap->Prop),gV P C n G GL c env H Q->bJ P C n c env H Q
 |.skip,_,_,_,h=>UL h
 |.region id ops dr,env,H,Q,h=>by
  cases dr with
  |false=>
   replace h:mN P C n G GL ops Q ops.toList env H:=h;have e:=dE (a:=ops) rfl;have:=NG (id:=id) (l:=ops.toList) (by rw[<-e];exact fm hC hGL _ _ _ h);rwa [<-e] at this
  |true=>exact Dw.h h
 |.seq a b,env,H,Q,h=>by
  replace h:gV P C n G GL a env H (iT (λe h=>gV P C n G GL b e h Q) Q):=h;refine j7 ((dg hC hGL a env H _ h).mono ?_);intro x e h' q;cases x with
  |normal=>exact dg hC hGL b e h' Q q
  |exit i=>exact q
  |goto i=>exact q
  |ret=>exact q
  |panic v=>exact q
 |.cond c x y,env,H,Q,h=>by
  replace h:(match ah env c with
   |some (.bool b)=>Sc b (gV P C n G GL x env H Q) (gV P C n G GL y env H Q)
   |_=>Cd P C n (.cond c x y) env H Q):=h
  split at h
  ·rename_i b hb;exact UN hb (λe=>dg hC hGL x env H Q (h.1 e)) (λe=>dg hC hGL y env H Q (h.2 e))
  ·exact h.h
 |.block id c,env,H,Q,h=>mf ((dg hC hGL c env H _ h).mono λ_ _ _ q=>BI q)
 |.exit id,_,_,_,h=>UM h
 |.ret,_,_,_,h=>XW h
 |.loop c,_,_,_,h=>Lp.h h
 |.rangeFunc ..,_,_,_,h=>Cd.h h
 |.scope _,_,_,_,h=>Cd.h h
 |.label _,_,_,_,h=>Cd.h h
 |.goto _,_,_,_,h=>Cd.h h
 |.refuse _,_,_,_,h=>Cd.h h
structure Yi {X:Type} (I:X->Env) (J:X->Heap) (Inv:X->Prop) (μ:X->Nat) (x:X) (e:Env) (h:Heap):Prop where
 h:∃x',Inv x'/\μ x'<μ x/\Env.sub e (I x')/\(J x').Sublist h
theorem cQ {X:Type}{I:X->Env}{J:X->Heap}{Inv:X->Prop}{μ:X->Nat}{x:X}{e:Env}{h:Heap}(x':X)(h1:Inv x')(h2:μ x'<μ x)(h3:Env.sub e (I x'))(h4:h=J x'):Yi I J Inv μ x e h:=⟨⟨x',h1,h2,h3,h4▸At _⟩⟩
theorem fG {X:Type}{I:X->Env}{J:X->Heap}{Inv:X->Prop}{μ:X->Nat}{x:X}{e:Env}{h:Heap}(x':X)(h1:Inv x')(h2:μ x'<μ x)(h3:Env.sub e (I x'))(h4:(J x').Sublist h):Yi I J Inv μ x e h:=⟨⟨x',h1,h2,h3,h4⟩⟩
theorem pC {c:Code}{X:Type}(I:X->Env)(J:X->Heap)(Inv:X->Prop)(μ:X->Nat)(x0:X)(h0:Inv x0)(hs:Env.sub env (I x0))(hH:(J x0).Sublist H)
  (round:∀x,Inv x->bJ P C n c (I x) (J x) (iT (λe h=>∃x',Inv x'/\μ x'<μ x/\Env.sub e (I x')/\(J x').Sublist h) Q)):
  bJ P C n (.loop c) env H Q:=by
 intro R a w hm hf;refine wp_loop_ghost (λm a w=>∃x R,Inv x/\μ x=m/\MS C R (J x) w/\FS C.D n R (I x) a) (μ x0) ⟨x0,R,h0,rfl,hm.drop hH,hf.sub hs⟩ ?_;rintro m a w ⟨x,R,hx,rfl,hm,hf⟩;refine wp_mono (round x hx R a w hm hf) ?_;rintro e a' w' ⟨x',en,H',R',q,er,hm',hf'⟩;cases x' with
 |normal=>
  simp only[aG] at er;subst er;obtain⟨x',hx',hlt,hs',hsub⟩:=q;exact⟨μ x',hlt,x',R',hx',rfl,hm'.drop hsub,hf'.sub hs'⟩
 |exit i=>simp only[aG] at er;subst er;exact⟨.exit i,en,H',R',q,rfl,hm',hf'⟩
 |goto i=>simp only[aG] at er;subst er;exact⟨.goto i,en,H',R',q,rfl,hm',hf'⟩
 |ret=>simp only[aG] at er;subst er;exact⟨.ret,en,H',R',q,rfl,hm',hf'⟩
 |panic v=>obtain⟨y,rfl,hr⟩:=er;exact⟨.panic v,en,H',R',q,⟨y,rfl,hr⟩,hm',hf'⟩
theorem lp {c:Code}{X:Type}(hC:C.G=G)(hGL:ab G GL)(I:X->Env)(J:X->Heap)(Inv:X->Prop)(μ:X->Nat)(x0:X)(h0:Inv x0)(hs:Env.sub env (I x0))(hH:H=J x0)
  (round:∀x,Inv x->gV P C n G GL c (I x) (J x) (iT (λe h=>Yi I J Inv μ x e h) Q)):Lp P C n c env H Q:=
 ⟨pC I J Inv μ x0 h0 hs (hH▸At _) λx hx=>(dg hC hGL _ _ _ _ (round x hx)).mono λex e h q=>by
  cases ex with
  |normal=>exact Yi.h q
  |exit i=>exact q
  |goto i=>exact q
  |ret=>exact q
  |panic v=>exact q⟩
def Rds (P:Program)[Tab P](C:Ctx)(n:Nat)(G:Glo)(GL:List (Nat×List AVal))(c:Code)(Q:aL->Env->Heap->Prop):Nat->Env->Heap->Prop
 |0,_,_=>False
 |k+1,e,h=>gV P C n G GL c e h (iT (Rds P C n G GL c Q k) Q)
theorem rds {c:Code}(hC:C.G=G)(hGL:ab G GL)(k:Nat)(h:Rds P C n G GL c Q k env H):Lp P C n c env H Q:=by
 refine⟨NF k ?_⟩;induction k generalizing env H with
 |zero=>exact h
 |succ k ih=>
  refine UQ ((dg hC hGL _ _ _ _ h).mono ?_);intro x e h' q;cases x with
  |normal=>exact ih q
  |exit i=>exact q
  |goto i=>exact q
  |ret=>exact q
  |panic v=>exact q
inductive Rt (Qf:co->Heap->Prop) (v:AVal) (H:Heap):Prop
 |mk (H':Heap) (hs:H'.Sublist H) (hq:Qf (.ret v) H')
inductive Pn (Qf:co->Heap->Prop) (v:AVal) (H:Heap):Prop
 |mk (H':Heap) (hs:H'.Sublist H) (hq:Qf (.panic v) H')
def H4 (P:Program)[Tab P](env:Env)(H:Heap):List ResultVar->(List AVal->Prop)->Prop
 |[],k=>k []
 |.tmp t::rs,k=>match Env.get env t with
  |some v=>H4 P env H rs λvs=>k (v::vs)
  |none=>False
 |.cell a ty::rs,k=>match Env.get env a,bj P ty with
  |some (.own i (.pointer (some ⟨b,0,none⟩))),some x=>match H[i]? with
   |some (.cells b' eT cs)=>match Nat.beq x.size cs.length,cv x.desc with
    |true,true=>Sp (b'=b) (H4 P env H rs λvs=>k (.agg cs::vs))
    |true,false=>match cs with
     |[v]=>match v.isAgg with
      |false=>Sp (b'=b) (H4 P env H rs λvs=>k (v::vs))
      |true=>False
     |_=>False
    |false,_=>False
   |_=>False
  |_,_=>False
theorem r9:∀(rs:List ResultVar) (k:List AVal->Prop),H4 P env H rs k->∃vs,tG P env H rs vs/\k vs
 |[],k,h=>⟨[],rfl,h⟩
 |.tmp t::rs,k,h=>by
  simp only[H4] at h;split at h
  ·rename_i v hv;obtain⟨vs,h1,h2⟩:=r9 rs _ h;exact⟨v::vs,⟨v,vs,rfl,hv,h1⟩,h2⟩
  ·exact h.elim
 |.cell a ty::rs,k,h=>by
  simp only[H4] at h;split at h
  ·rename_i i b x ha hx
   split at h
   ·rename_i b' eT cs hi
    split at h
    ·rename_i h1 h2
     obtain⟨rfl,h⟩:=h
     obtain⟨vs,h3,h4⟩:=r9 rs _ h
     exact⟨_,⟨_,vs,rfl,⟨b',i,eT,cs,x,.inr ⟨i,ha⟩,hi,hx,m_ h1,.inl ⟨h2,rfl⟩⟩,h3⟩,h4⟩
    ·rename_i h1 h2
     split at h
     ·rename_i v
      split at h
      ·rename_i hv
       obtain⟨rfl,h⟩:=h
       obtain⟨vs,h3,h4⟩:=r9 rs _ h
       exact⟨_,⟨_,vs,rfl,⟨b',i,eT,_,x,.inr ⟨i,ha⟩,hi,hx,m_ h1,.inr ⟨h2,rfl,hv⟩⟩,h3⟩,h4⟩
      ·exact h.elim
     ·exact h.elim
    ·exact h.elim
   ·exact h.elim
  ·exact h.elim
def uC (P:Program)[Tab P](rs:List ResultVar)(Qf:co->Heap->Prop):aL->Env->Heap->Prop
 |.ret,env,H|.normal,env,H=>H4 P env H rs λvs=>match vs with
  |[v]=>Rt Qf v H
  |vs=>Rt Qf (.tuple vs) H
 |.panic v,_,H=>Pn Qf v H
 |_,_,_=>False
theorem kh {rs:List ResultVar}{Qf:co->Heap->Prop}{x:aL}{e:Env}{h:Heap}(q:uC P rs Qf x e h):UZ P rs Qf x e h:=by
 cases x with
 |ret=>
  obtain⟨vs,h1,h2⟩:=r9 rs _ q;have:Rt Qf (Cz vs) h:=by
   match vs with
   |[v]=>exact h2
   |[]=>exact h2
   |_::_::_=>exact h2
  obtain⟨H',h3,h4⟩:=this;exact⟨vs,H',h1,h3,h4⟩
 |normal=>
  obtain⟨vs,h1,h2⟩:=r9 rs _ q
  have:Rt Qf (Cz vs) h:=by
   match vs with
   |[v]=>exact h2
   |[]=>exact h2
   |_::_::_=>exact h2
  obtain⟨H',h3,h4⟩:=this
  exact⟨vs,H',h1,h3,h4⟩
 |panic v=>obtain⟨H',h2,h3⟩:=q;exact⟨H',h2,h3⟩
 |exit i=>exact q
 |goto i=>exact q
theorem vz {f:FuncId}{fn:Func}{c:Code}{avs:List AVal}{Qf:co->Heap->Prop}{rs:List ResultVar}(hf:P.funcs[f]? =some fn)
  (hc:∀args w,(callFunc f args).run P w= .ok (.enter f args) w) (hb:fn.body=some c) (hn:fn.ntmps=n) (hrs:fn.results=rs.toArray) (hlen:Nat.ble avs.length n=true) (hGL:ab G GL)
  (h:∀C:Ctx,C.G=G->gV P C n G GL c (fg 0 avs) H (uC P rs Qf)):ad P G f avs H Qf:=
 qk hf hb hc hn hrs hlen λw0 R0 hG=>(dg rfl hGL _ _ _ _ (h ⟨w0,R0,eR H,G,hG,[]⟩ rfl)).mono λ_ _ _ q=>kh q
theorem aw {f:FuncId}{fn:Func}{c:Code}{avs:List AVal}{Qf:co->Heap->Prop}{rs:List ResultVar}(hf:P.funcs[f]? =some fn)(hc:∀args w,(callFunc f args).run P w= .ok (.enter f args) w)
  (h:∀C:Ctx,C.G=G->ab G []->gV P C n G [] c (fg 0 avs) H (uC P rs Qf)) (hb:fn.body=some c:=by exact rfl) (hn:fn.ntmps=n:=by exact rfl) (hrs:fn.results=rs.toArray:=by exact rfl) (hlen:Nat.ble avs.length n=true:=by exact rfl):ad P G f avs H Qf:=
 vz hf hc hb hn hrs hlen al λC hC=>h C hC al
theorem xR {c:Code}{k:Nat}(i:Nat){v:Value}(hC:C.G=G)(hGL:ab G GL)(hv:dc v=false)(hk:Env.get env k=some (.raw v))(h:gV P C n G GL c ((k,.own i v)::env) H Q):bJ P C n c env H Q:=
 DC (λ_ _ hf=>uj hv hk hf) (dg hC hGL _ _ _ _ h)
theorem aj {v v':AVal}(h:v'=v):Rt (λx H=>x= .ret v/\H=[]) v' H:=⟨[],Ug _,by rw[h],rfl⟩
theorem xq {v v':AVal}{H0 H':Heap}(h:v'=v)(hs:H0.Sublist H'):Rt (λx H=>x= .ret v/\H=H0) v' H':=⟨H0,hs,by rw[h],rfl⟩
theorem Vg {v v':AVal}(h:v'=v):Pn (λx H=>x= .panic v/\H=[]) v' H:=⟨[],Ug _,by rw[h],rfl⟩
theorem dO {f:FuncId}{avs:List AVal}{H1:Heap}(H2:Heap){Qf:co->Heap->Prop}(h:ad P G f avs H1 Qf):ad P G f avs (H1++H2) (λr H'=>∃H1',Qf r H1'/\H'=H1'++H2):=by
 intro R w args hG hm ha;rcases h R w args hG hm.enter ha with⟨h1,h2⟩|⟨v,w',h1,res,H',R',q,er,hm'⟩
 ·exact .inl ⟨h1,h2.mono λe w' ⟨res,H',R',q,er,hm'⟩=>⟨res,H'++H2,R',⟨H',q,rfl⟩,er,MS.call hm hm'⟩⟩
 ·exact .inr ⟨v,w',h1,res,H'++H2,R',⟨H',q,rfl⟩,er,MS.call hm hm'⟩
theorem MS.blks_iff {w0 w:World}{R0 R:Seal}{B B':List Nat}{hG:G.p R0}(hb:∀k,k∈B↔k∈B')(h:MS ⟨w0,R0,B,G,hG,[]⟩ R H w):MS ⟨w0,R0,B',G,hG,[]⟩ R H w:=
 ⟨h.sealed,h.ge,λk hk=>by rcases h.fresh k hk with h1|h1|h1;exact .inl h1;exact .inr (.inl h1);exact .inr (.inr ((hb k).1 h1)),h.heap,
  λz hz k hk=>by rcases h.own z hz k hk with h1|h1;exact .inl h1;exact .inr ((hb k).1 h1),⟨h.ext.os,h.ext.tape,h.ext.output,h.ext.size,λk hk hn=>h.ext.block k hk (λhm=>hn ((hb k).1 hm))⟩⟩
theorem iD {f:FuncId}{avs:List AVal}{H1 H2:Heap}{Qf:co->Heap->Prop}(hp:H1.Perm H2)(h:ad P G f avs H1 Qf):ad P G f avs H2 Qf:=by
 have hb:∀k,k∈eR H2↔k∈eR H1:=λk=>by
  have:=(hp.filterMap HEnt.blk).mem_iff (a:=k);exact this.symm
 intro R w args hG hm ha
 rcases h R w args hG ((hm.perm hp.symm).blks_iff hb) ha with⟨h1,h2⟩|⟨v,w',h1,res,H',R',q,er,hm'⟩
 ·exact .inl ⟨h1,h2.mono λe w' ⟨res,H',R',q,er,hm'⟩=>⟨res,H',R',q,er,hm'.blks_iff λk=>(hb k).symm⟩⟩
 ·exact .inr ⟨v,w',h1,res,H',R',q,er,hm'.blks_iff λk=>(hb k).symm⟩
theorem iE {f:FuncId}{avs:List AVal}{Qf Qf':co->Heap->Prop}(h:ad P G f avs H Qf)(hq:∀r H',Qf r H'->∃H'',H'.Perm H''/\Qf' r H''):ad P G f avs H Qf':=by
 intro R w args hG hm ha;rcases h R w args hG hm ha with⟨h1,h2⟩|⟨v,w',h1,res,H',R',q,er,hm'⟩
 ·exact .inl ⟨h1,h2.mono λe w' ⟨res,H',R',q,er,hm'⟩=>let ⟨H'',hp,q'⟩:=hq _ _ q;⟨res,H'',R',q',er,hm'.perm hp⟩⟩
 ·obtain⟨H'',hp,q'⟩:=hq _ _ q;exact .inr ⟨v,w',h1,res,H'',R',q',er,hm'.perm hp⟩
variable {f:FuncId} {avs:List AVal} {K Kp:AVal->Heap->Prop}
theorem iv {ty:TypeId}{a:AVal}{name:String}(f:FuncId)(r:AVal)(hm:∀R v,bn R a v->∀w,∃u,(Go.method (P.types.size+Made.depth) ty v name).run P w= .ok (f,u) w/\bn R r u)(k:Cx P G f (r::avs) H K Kp):
  Iv P G ty a name avs H K Kp:=.mk f r hm k
theorem bG {v:AVal}(hs:ai P G f avs v)(k:K v H):Cx P G f avs H K Kp:=by
 refine⟨_,dO H hs,?_,?_⟩
 ·rintro v' H' ⟨H1',⟨e,rfl⟩,rfl⟩;cases e;exact k
 ·rintro v' H' ⟨H1',⟨e,rfl⟩,rfl⟩;cases e
theorem Xx {Qf:AVal->Prop}(hs:ad P G f avs [] (λr H=>(∃v,r= .ret v/\Qf v)/\H=[]))(k:∀v,Qf v->K v H):Cx P G f avs H K Kp:=by
 refine⟨_,dO H hs,?_,?_⟩
 ·rintro v' H' ⟨H1',⟨⟨v,e,q⟩,rfl⟩,rfl⟩;cases e;exact k _ q
 ·rintro v' H' ⟨H1',⟨⟨v,e,q⟩,rfl⟩,rfl⟩;cases e
theorem cd {v:AVal}(hs:ad P G f avs [] (λr H=>r= .panic v/\H=[]))(k:Kp v H):Cx P G f avs H K Kp:=by
 refine⟨_,dO H hs,?_,?_⟩
 ·rintro v' H' ⟨H1',⟨e,rfl⟩,rfl⟩;cases e
 ·rintro v' H' ⟨H1',⟨e,rfl⟩,rfl⟩;cases e;exact k
theorem kq {i:Nat}{x:HEnt}(y:HEnt)(hi:H[i]? =some x):([y]++H.eraseIdx i).Perm (H.set i y):=by
 have:=fd (qi (y:=y) hi);have e:(H.set i y).eraseIdx i=H.eraseIdx i:=List.eraseIdx_set_eq;rw[e] at this;exact this.symm
theorem aV {i:Nat}{x y:HEnt}{v:AVal}(hi:H[i]? =some x)(hs:ad P G f avs [x] (λr H=>r= .ret v/\H=[y]))(k:eD (H.set i y) (K v)):Cx P G f avs H K Kp:=by
 rw[bA] at k;have hp:=fd hi;refine⟨λr H'=>r= .ret v/\H'=H.set i y,iE (iD (H1:=[x]++H.eraseIdx i) (by simpa using hp.symm) (dO (H.eraseIdx i) hs)) ?_,?_,?_⟩
 ·rintro r H' ⟨H1',⟨rfl,rfl⟩,rfl⟩;exact⟨_,kq y hi,rfl,rfl⟩
 ·rintro v' H' ⟨e,rfl⟩;cases e;exact k
 ·rintro v' H' ⟨e,rfl⟩;cases e
end
theorem Sp.w {p k:Prop}(hk:k)(hp:p:=by first|exact rfl|omega|exact⟨rfl,rfl,a_⟩|exact⟨rfl,a_⟩|exact⟨rfl,a_,a_,a_⟩|exact⟨rfl,by simp,a_,a_⟩|exact⟨⟨_,rfl⟩,a_⟩|exact⟨⟨_,rfl⟩,a_,a_⟩|assumption|decide|(simp only[k_,i_,d_,F_,j_,E_,aR] at*;omega)|(simp;omega)):Sp p k:=⟨hp,hk⟩
theorem Ch.w {p k b:Prop}(hk:k)(hp:p:=by first|exact rfl|omega|exact⟨rfl,rfl,a_⟩|exact⟨rfl,a_⟩|exact⟨rfl,a_,a_,a_⟩|exact⟨rfl,by simp,a_,a_⟩|exact⟨⟨_,rfl⟩,a_⟩|exact⟨⟨_,rfl⟩,a_,a_⟩|assumption|decide|(simp only[k_,i_,d_,F_,j_,E_,aR] at*;omega)|(simp;omega)):Ch (Sp p k) b:=.inl ⟨hp,hk⟩
theorem Ch.v {p k a:Prop}(hk:k)(hp:p:=by first|assumption|decide|(intro i hi;exact⟨rfl,rfl,rfl⟩)):Ch a (Sp p k):=.inr ⟨hp,hk⟩
theorem dd {p q:Prop}(hp:p)(n:p->False:=by intro hb;first|omega|exact absurd rfl hb|exact absurd hb b_|exact absurd hb (by assumption)|exact absurd (by assumption) hb|(simp only[j_,E_,d_] at hb;omega)):q:=(n hp).elim
theorem Ix.w {i m:Nat}{K:Nat->Prop}(k:K i)(h:i<m:=by first|omega|(simp only[k_,i_,d_,F_,j_,E_] at*;omega)):Ix (i:Int) m K:=W1 h k
theorem Ix.v {i:Int}{m:Nat}{K:Nat->Prop}(k:K i.toNat)(h:0<=i/\i<m:=by first|omega|(simp only[k_,i_,d_,F_,j_,E_] at*;omega)):Ix i m K:=W2 h k
theorem Sd.w {i m:Nat}{K:Nat->Prop}(k:K i)(h:i<=m:=by first|omega|(simp only[k_,i_,d_,F_,j_,E_] at*;omega)):Sd (i:Int) m K:=Wc h k
theorem Sd.v {i:Int}{m:Nat}{K:Nat->Prop}(k:K i.toNat)(h:0<=i/\i<=m:=by first|omega|(simp only[k_,i_,d_,F_,j_,E_] at*;omega)):Sd i m K:=Wd h k
theorem Sl.w {i j m:Nat}{K:Nat->Nat->Prop}(k:K i j)(h:i<=j/\j<=m:=by first|omega|(simp only[k_,i_,d_,F_,j_,E_] at*;omega)):Sl (i:Int) (j:Int) m K:=V7 h k
theorem Sl.v {i j:Int}{m:Nat}{K:Nat->Nat->Prop}(k:K i.toNat j.toNat)(h:0<=i/\i<=j/\j<=m:=by first|omega|(simp only[k_,i_,d_,F_,j_,E_] at*;omega)):Sl i j m K:=V8 h k
theorem cP {v v':AVal}{H0 H':Heap}(h:v'=v:=by exact rfl)(hs:H0.Sublist H':=by repeat (first|exact Ug _|apply V_)):Rt (λx H=>x= .ret v/\H=H0) v' H':=xq h hs
theorem ae {a b:Env}(h:Env.sub a b:=by repeat (first|exact trivial|refine And.intro rfl ?_)):Env.sub a b:=h
theorem aA {a b:Heap}(h:a.Sublist b:=by repeat (first|exact Ug _|apply V_|apply List.Sublist.cons)):a.Sublist b:=h
theorem Sc.w {t f:Prop}(h:t):Sc true t f:=jp h
theorem Sc.v {t f:Prop}(h:f):Sc false t f:=eu h
class ScB (b:Bool) (p q:outParam Prop):Prop where
 t:b=true->p
 f:b=false->q
theorem uH {b:Bool}{p q:Prop}(h:∀{t f:Prop},(p->t)->(q->f)->Sc b t f):ScB b p q:=⟨λe=>by
 have:=h (t:=p) (f:=q) id id;exact this.1 e,λe=>by
 have:=h (t:=p) (f:=q) id id;exact this.2 e⟩
instance sb_lt {x y:Int}:ScB (nT x y) (x<y) (y<=x):=uH rT
instance sb_nlt {x y:Int}:ScB (!nT x y) (y<=x) (x<y):=uH nJ
instance sb_eq {x y:Int}:ScB (bV x y) (x=y) (x≠y):=uH rU
instance sb_neq {x y:Int}:ScB (!bV x y) (x≠y) (x=y):=uH nL
instance sb_seq {x y:ω}:ScB (aW x y) (x=y) (x≠y):=uH nI
instance sb_nseq {x y:ω}:ScB (!aW x y) (x≠y) (x=y):=uH lh
instance (priority:=high) sb_nil {x:ω}:ScB (aW x []) (x.length=0) (x.length≠0):=uH nK
instance (priority:=high) sb_nnil {x:ω}:ScB (!aW x []) (x.length≠0) (x.length=0):=uH li
theorem ez {b:Bool}{p q t f:Prop}[h:ScB b p q](ht:p->t)(hf:q->f):Sc b t f:=⟨λe=>ht (h.1 e),λe=>hf (h.2 e)⟩
theorem S7 {b:Bool}{p q t f:Prop}(ht:p->t)(hf:q->f)(h:ScB b p q:=by first|exact sb_lt|exact sb_nlt|exact sb_eq|exact sb_neq|exact sb_nil|exact sb_nnil):Sc b t f:=⟨λe=>ht (h.1 e),λe=>hf (h.2 e)⟩
theorem Ia.w {P:Program}{ty S T:TypeId}{a b:Prop}(k:a)(h:∀v w,(Instr.typeAssert (.iface ty v) S T true).run P w= .ok (.tuple #[.iface ty v,.bool true]) w:=by assumption):Ia P ty S T a b:=.hit h k
theorem Ia.v {P:Program}{ty S T:TypeId}{a b:Prop}(k:b)(h:∀v w,(Instr.typeAssert (.iface ty v) S T true).run P w= .ok (.tuple #[.nilIface,.bool false]) w:=by assumption):Ia P ty S T a b:=.miss h k
theorem Gt.w {cs:List AVal}{o:Nat}{K:AVal->Prop}{a:AVal}(k:K a)(h:cs[o]? =some a:=by assumption)(ha:a.isAgg=false:=by exact rfl):Gt cs o K:=.mk a h ha k
theorem Iv.w {P:Program}{G:Glo}{ty:TypeId}{a:AVal}{name:String}{avs:List AVal}{H:Heap}{K Kp:AVal->Heap->Prop}{f:FuncId}{r:AVal}(k:Cx P G f (r::avs) H K Kp)(hm:∀R v,bn R a v->∀w,∃u,(Go.method (P.types.size+Made.depth) ty v name).run P w= .ok (f,u) w/\bn R r u:=by assumption):Iv P G ty a name avs H K Kp:=.mk f r hm k
end
section
open Go
def oA (P:Program)(C:Ctx)(H:Heap)(env:Env)(op:Op)(av:AVal):Prop:=
 ∀(R:Seal) (ρ:Operand->Value),qU R env ρ->∃v,bn R av v/\∀(R':Seal) (w:World),R.le R'->MS C R' H w->∀(dst:Option Nat) (t:TypeId) (p:String) (af:Array Edge) (g:Option (Nat×Bool)),
  (execOp ρ {dst:=dst,op:=op,type:=t,pos:=p,after:=af,guard:=g}).run P w= .ok (.value v) w
structure Sb (P:Program) (C:Ctx) (n:Nat) (ops:Array Oper) (l:List Oper) (env:Env) (H:Heap) (K:Env->Prop):Prop where
 h:AQ P C n ops l env H K
inductive Cq (P:Program) (G:Glo) (f:FuncId) (avs:List AVal) (K:AVal->Prop):Prop
 |mk (v:AVal) (hc:∀args w,(callFunc f args).run P w= .ok (.enter f args) w) (hs:ai P G f avs v) (hd:v.det=true) (k:K v)
theorem cq {P:Program}{G:Glo}{f:FuncId}{avs:List AVal}{K:AVal->Prop}{v:AVal}(hc:∀args w,(callFunc f args).run P w= .ok (.enter f args) w)(hs:ai P G f avs v)(hd:v.det=true)(k:K v):Cq P G f avs K:=.mk v hc hs hd k
section
variable (P:Program) [Tab P] (C:Ctx) (n:Nat) (G:Glo) (GL:List (Nat×List AVal)) (H:Heap)
def B4 (env:Env):Op->Bool
 |.fieldAddr _ x _=>match ah env x with
  |some (.rop _ _)=>true
  |_=>false
 |.load _ x=>match ah env x with
  |some (.rop _ _)=>true
  |_=>false
 |.indexAddr _ x _=>match ah env x with
  |some (.list _ _ _)=>true
  |some (.rop _ _)=>true
  |_=>false
 |_=>false
def M3 (env:Env)(op:Op)(F:Prop):Xf:=λK=>
 match op with
 |.move x|.assign x=>match ah env x with
  |some av=>K av
  |none=>F
 |.extract x i=>match ah env x with
  |some (.tuple cs)=>match cs[i]? with
   |some av=>K av
   |none=>F
  |_=>F
 |.nilCheck x=>match ah env x with
  |some (.rop cs off)=>K (.rop cs off)
  |some (.own i (.pointer (some a)))=>K (.own i (.pointer (some a)))
  |_=>F
 |.pick c x y=>match ah env c,ah env x,ah env y with
  |some (.bool b),some a,some a'=>Sc b (K a) (K a')
  |_,_,_=>F
 |.build T l=>uv P env T l.toList F K
 |.makeInterface T x=>ug P env T x F K
 |op=>match B4 env op with
  |true=>D6 P [] env H op F K
  |false=>D6 P GL env H op F λav=>match av.det with
   |true=>K av
   |false=>F
def Ig (ops:Array Oper)(o:Oper)(rest:List Oper)(K:Env->Prop)(ih:Env->Prop)(env:Env):Prop:=
 ui ops env o.guard (Sb P C n ops (o::rest) env H K)
  (λenv'=>match o.dst with
   |some d=>match Nat.ble (d+1) n with
    |true=>match o.op with
     |.call ⟨.value fv,args,_⟩=>match ah env' fv,kH env' args.toList with
      |some (.func (.func f) [] []),some avs=>Cq P G f avs λv=>ih ((d,v)::env')
      |_,_=>Sb P C n ops (o::rest) env' H K
     |op=>M3 P GL H env' op (Sb P C n ops (o::rest) env' H K) λav=>ih ((d,av)::env')
    |false=>Sb P C n ops (o::rest) env' H K
   |none=>Sb P C n ops (o::rest) env' H K)
  (λenv'=>match o.dst with
   |some d=>match Nat.ble (d+1) n with
    |true=>ih ((d,.raw undef)::env')
    |false=>Sb P C n ops (o::rest) env' H K
   |none=>ih env')
noncomputable def Yd (ops:Array Oper)(K:Env->Prop)(l:List Oper):Env->Prop:=
 List.rec (motive:=λ_=>Env->Prop) K (λo rest ih=>Ig P C n G GL H ops o rest K ih) l
end
section
variable {P:Program} [Tab P] {C:Ctx} {n:Nat} {env:Env} {H:Heap} {Q:aL->Env->Heap->Prop} {K:Env->Prop} {ops:Array Oper} {rest:List Oper} {G:Glo} {GL:List (Nat×List AVal)} {F:Prop}
variable {d:Nat} {t:TypeId} {p:String} {af:Array Edge} {g:Option (Nat×Bool)} {b:Bool} {x:Operand} {av:AVal}
theorem EM {op:Op}(h:bE P C H env op av)(hd:av.det=true):oA P C H env op av:=by
 intro R ρ hf;refine⟨av.conc,vZ hd,λR' w hle hm dst t p af g=> ?_⟩;obtain⟨v,h1,h2⟩:=h R' ρ w hm (λx a hx=>fx hle (hf x a hx)) dst t p af g;rw[h1,Jl h2 hd]
theorem X1 {op:Op}(hg:aQ ops env g=some (b,b))(hdn:Nat.ble (d+1) n=true)(hx:oA P C H env op av)(h:AQ P C n ops rest ((d,av)::env) H K):
  AQ P C n ops ({dst:=some d,op:=op,type:=t,pos:=p,after:=af,guard:=g}::rest) env H K:=by
 intro R a hf;refine wpQuiet_step λX hX=> ?_;rw[cE hf hg,if_pos (by simp)];obtain⟨v,hv,hrun⟩:=hx R a.eval (λx a hx=>hf.eval hx);refine⟨v,?_,hX _ (h R _ (hf.put hdn hv))⟩;rintro w ⟨R',hle,hms⟩;show Oper.quietUpon P _ w _ ((execOp a.eval _).run P w);rw[hrun R' w hle hms];exact⟨rfl,rfl⟩
theorem Pa {T:TypeId}{xT:TI}{l:List (Nat×Operand)}{ps:List (Nat×AVal)}{fs:List Field}{pl:List (Nat×Nat)}{z cs:List AVal}
  (hl:jr env l=some ps) (h1:bj P T=some xT) (h2:xT.desc= .struct fs.toArray) (h3:nP P fs=some pl) (h4:bK xT.zero=some z) (h5:qQ pl z ps=some cs):oA P C H env (.build T l.toArray) (.agg cs):=by
 intro R ρ hf;obtain⟨v,hv,hr⟩:=dp (R:=R) h4;obtain⟨Cs,hC,hrC⟩:=nn (place:=(pl.toArray[·]?)) (λi x hi=>by simpa using hi) (jS hf hl) hr h5;refine⟨.agg Cs,⟨hrC,rfl⟩,λR' w _ hm dst t p af g=> ?_⟩;have hmap:(l.toArray.map λx=>(x.1,ρ x.2)).toList=l.map λx=>(x.1,ρ x.2):=by simp
 simp only[execOp,Instr.build,e_,dT h1 hv,c_,ao h1,h2,Array.mapM_eq_mapM_toList,Sem.run_map,oV h3];rw[show(Array.map (λx:Nat×Operand=>match x with|(i,x)=>(i,ρ x)) l.toArray).toList=l.map λx=>(x.1,ρ x.2) from hmap,hC];rfl
theorem Cv {T:TypeId}{xT:TI}{l:List (Nat×Operand)}{ps:List (Nat×AVal)}{m e:Nat}{xe:TI}{z cs:List AVal}
  (hl:jr env l=some ps) (h1:bj P T=some xT) (h2:xT.desc= .array m e) (h3:bj P e=some xe) (h4:bK xT.zero=some z) (h5:qQ (uZ m 0 xe.size) z ps=some cs):oA P C H env (.build T l.toArray) (.agg cs):=by
 intro R ρ hf;obtain⟨v,hv,hr⟩:=dp (R:=R) h4;obtain⟨Cs,hC,hrC⟩:=nn (place:=λi=>some (i*xe.size,xe.size)) (λi x hi=>by rw[zf hi,Nat.zero_add]) (jS hf hl) hr h5;refine⟨.agg Cs,⟨hrC,rfl⟩,λR' w _ hm dst t p af g=> ?_⟩;have hmap:(l.toArray.map λx=>(x.1,ρ x.2)).toList=l.map λx=>(x.1,ρ x.2):=by simp
 simp only[execOp,Instr.build,e_,dT h1 hv,c_,ao h1,h2,aM h3];rw[show(Array.map (λx:Nat×Operand=>match x with|(i,x)=>(i,ρ x)) l.toArray).toList=l.map λx=>(x.1,ρ x.2) from hmap,hC];rfl
theorem Ml {T:TypeId}{l:Array (Nat×Operand)}{F:Prop}{K:AVal->Prop}(h:uv P env T l.toList F K):F\/∃av,oA P C H env (.build T l) av/\K av:=by
 unfold uv at h;split at h
 ·rename_i xT ht;split at h
  ·rename_i fs hd;split at h
   ·rename_i ps pl z h1 h2 h3;split at h
    ·rename_i cs h4;rw[cZ] at h;have:=Pa (P:=P) (C:=C) (H:=H) (l:=l.toList) h1 ht (by simpa using hd) h2 h3 h4;exact .inr ⟨_,by simpa using this,h⟩
    ·exact .inl h
   ·exact .inl h
  ·rename_i m e hd;split at h
   ·rename_i ps xe z h1 h2 h3;split at h
    ·rename_i cs h4;rw[cZ] at h;have:=Cv (P:=P) (C:=C) (H:=H) (l:=l.toList) h1 ht hd h2 h3 h4;exact .inr ⟨_,by simpa using this,h⟩
    ·exact .inl h
   ·exact .inl h
  ·exact .inl h
 ·exact .inl h
theorem Mk {T:TypeId}{x:Operand}{F:Prop}{K:AVal->Prop}(h:ug P env T x F K):F\/∃av,oA P C H env (.makeInterface T x) av/\K av:=by
 unfold ug at h;split at h
 ·rename_i xT v ht hx;split at h
  ·rename_i h2;refine .inr ⟨_,λR ρ hf=>⟨.iface T (ρ x),AG (hf _ _ hx),λR' w _ hm dst t p af g=> ?_⟩,h⟩;simp only[execOp,Instr.makeInterface,e_,ao ht,c_];cases hd:xT.desc<;>first|rfl|(rw[hd] at h2;simp[gQ] at h2)
  ·exact .inl h
 ·exact .inl h
theorem Th (hx:ah env x=some av):oA P C H env (.move x) av:=λR ρ hf=>⟨ρ x,hf _ _ hx,λ_ _ _ _ _ _ _ _ _=>rfl⟩
theorem Mm (hx:ah env x=some av):oA P C H env (.assign x) av:=λR ρ hf=>⟨ρ x,hf _ _ hx,λ_ _ _ _ _ _ _ _ _=>rfl⟩
theorem Tg {c x y:Operand}{b:Bool}{a a':AVal}(hc:ah env c=some (.bool b))(hx:ah env x=some a)(hy:ah env y=some a'):oA P C H env (.pick c x y) (if b then a else a'):=by
 intro R ρ hf;have:=aO.1 (hf _ _ hc);cases b
 ·exact⟨ρ y,hf _ _ hy,λ_ _ _ _ _ _ _ _ _=>by simp only[execOp,this,asBool];rfl⟩
 ·exact⟨ρ x,hf _ _ hx,λ_ _ _ _ _ _ _ _ _=>by simp only[execOp,this,asBool];rfl⟩
theorem vn {cs:List AVal}{off:Nat}(hx:ah env x=some (.rop cs off)):oA P C H env (.nilCheck x) (.rop cs off):=by
 intro R ρ hf;have hr:=hf _ _ hx;obtain⟨bl,o,e1,ho,hs⟩:=iw hr;rw[e1] at hr;exact⟨_,hr,λ_ _ _ _ _ _ _ _ _=>by simp only[execOp,e1];rfl⟩
theorem HY {cs:List AVal}{i:Nat}(hx:ah env x=some (.tuple cs))(hi:cs[i]? =some av):oA P C H env (.extract x i) av:=by
 intro R ρ hf;have key:∀{l:List AVal} {vs:List Value} {i:Nat},dy R l vs->l[i]? =some av->∃v,vs[i]? =some v/\bn R av v:=by
  intro l;induction l with
  |nil=>intro vs i _ h;simp at h
  |cons c l ih=>
   rintro vs i ⟨v,t,rfl,h1,h2⟩ h;cases i with
   |zero=>simp only[I_,g_] at h;subst h;exact⟨v,rfl,h1⟩
   |succ i=>simp only[J_] at h ⊢;exact ih h2 h
 obtain⟨ws,e,hr⟩:=bC (hf _ _ hx) rfl;simp only[o_,and_true] at e;obtain⟨v,hv,hrv⟩:=key hr hi;refine⟨v,hrv,λ_ _ _ _ _ _ _ _ _=> ?_⟩;have hv':ws[i]? =some v:=by simpa using hv
 simp only[execOp,e,Instr.extract,e_,h_,c_,hv']
theorem Cu {k:Nat}{T:TypeId}{K:AVal->Prop}{cs0:List AVal}{off0:Nat}(hx:ah env x=some (.rop cs0 off0))(h:lX P env T x k F K):F\/∃av,oA P C H env (.fieldAddr T x k) av/\K av:=by
 unfold lX at h;split at h
 ·rename_i xT h1;split at h
  ·rename_i fs h2;split at h
   ·rename_i f h3;split at h
    ·rename_i xf h4;split at h
     ·rename_i h5;rw[hx] at h;refine .inr ⟨_,?_,h⟩;intro R ρ hf;have h5:=v_ h5;obtain⟨bl,o,e1,ho,hs⟩:=iw (hf _ _ hx);refine⟨.pointer (some ⟨bl,o+f.offset,none⟩),ik a_ (by rw[Nat.add_sub_add_right];exact hs),λR' w hle hm dst t p af g=> ?_⟩;simp only[execOp,e1,Instr.fieldAt,e_,ao h1,h2,c_,h3,Instr.sureAddr,h_,fieldPlace,aM h4];rw[if_neg a_];simp only[Addr.add];by_cases h0:f.offset=0
      ·simp[h0]
      ·simp[h0]
     ·exact .inl h
    ·exact .inl h
   ·exact .inl h
  ·exact .inl h
 ·exact .inl h
theorem Ti {T:TypeId}{K:AVal->Prop}{cs:List AVal}{off:Nat}(hx:ah env x=some (.rop cs off))(h:FF P [] env H T x F K):F\/∃av,oA P C H env (.load T x) av/\K av:=by
 unfold FF at h;split at h
 ·rename_i xT h1;split at h
  ·rename_i g;simp[ah] at hx
  ·rw[hx] at h;dsimp only at h;rcases sX h with h|⟨ha,hc,h⟩|⟨ha,av,hc,hav,h⟩
   ·exact .inl h
   ·refine .inr ⟨_,?_,h⟩;intro R ρ hf;obtain⟨bl,o,e1,ho,Cs,el,fz,hR,hl⟩:=iw (hf _ _ hx);have hlen:=aJ hl;simp only[i_,k_,r_] at hlen;refine⟨.agg ((Cs.toList.drop o).take xT.size).toArray,⟨?_,rfl⟩,λR' w hle hm dst t p af g=> ?_⟩
    ·have:=di xT.size (dz off hl);simp only[Value.cells,bI];rw[List.drop_take,Q_,Nat.sub_add_cancel ho,R_] at this;rw[Nat.min_eq_left a_] at this;simpa using this
    ·simp only[execOp,e1,Instr.loadAt,Instr.sureAddr,e_,h_,c_];by_cases hz:xT.size=0
     ·simp only[loadVar,e_,dX h1,ha,aap,aM h1,loadCells,hz,loadCellsFrom,c_];simp
     ·rw[pb h1 ha (hm.sealed _ _ (hle _ _ hR)) a_];simp
   ·refine .inr ⟨_,?_,h⟩;intro R ρ hf;obtain⟨bl,o,e1,ho,Cs,el,fz,hR,hl⟩:=iw (hf _ _ hx);obtain⟨v,hv,hr⟩:=fy hl hc;refine⟨v,cT hr hav,λR' w hle hm dst t p af g=> ?_⟩;have hcell:w.cell? ⟨bl,o,none⟩=some v:=by
     have hlt:off<cs.length:=(List.getElem?_eq_some_iff.1 hc).1;rw[List.getElem?_take_of_lt hlt,List.getElem?_drop,Nat.sub_add_cancel ho] at hv;simp only[World.cell?,hm.sealed bl _ (hle _ _ hR)];simpa using hv
    simp only[execOp,e1,Instr.loadAt,Instr.sureAddr,e_,h_,c_,iX h1 ha hcell]
 ·exact .inl h
theorem zE {y:Operand}{T e:TypeId}{xT xe:TI}{sz m:Nat}{f:Nat->AVal}{k:IntKind}{i:Int}
  (hx:ah env x=some (.list sz m f)) (hy:ah env y=some (.int k i)) (h1:bj P T=some xT) (h2:xT.desc= .slice e) (h3:bj P e=some xe) (h4:xe.size=sz)
  (hi0:0<=i) (hi:i<m) (hp:(f i.toNat).plain=true):oA P C H env (.indexAddr T x y) (.rop (f i.toNat).cells 0):=by
 intro R ρ hf;obtain⟨a,cap,e1,_,h5⟩:=bC (hf _ _ hx) rfl;simp only[o_,and_true] at e1;rcases h5 with h5|⟨bl,o,Cs,el,fz,rfl,hR,hall⟩
 ·omega
 have hr:=hall i.toNat a_;have hl:=lK hr hp;have hlen:=aJ hl;refine⟨.pointer (some ⟨bl,o+i.toNat*sz,none⟩),ik (Nat.zero_le _) ⟨Cs,el,fz,hR,?_⟩,λR' w hle hm dst t p af g=> ?_⟩
 ·rw[Nat.sub_zero,Ay hlen];exact hl
 ·simp only[execOp,e1,ap.1 (hf _ _ hy),Instr.indexAt,asIntOf,e_,h_,c_,ao h1,h2];rw[if_pos (show 0<=i/\i<(m:Int) from⟨hi0,hi⟩)];simp only[e_,aM h3,h4,c_,h_,Addr.add];by_cases h0:i.toNat*sz=0
  ·simp[h0]
  ·simp[h0]
theorem Cr {T:TypeId}{y:Operand}{K:AVal->Prop}{sz m:Nat}{f:Nat->AVal}(hx:ah env x=some (.list sz m f))(h:iI P [] env T x y F K):F\/∃av,oA P C H env (.indexAddr T x y) av/\K av:=by
 unfold iI at h;split at h
 ·rename_i xT ht;split at h
  ·rename_i e hd;split at h
   ·rename_i xe he;rw[hx] at h;dsimp only at h;split at h
    ·rename_i hs;rcases gP h with h|⟨k,i,hy,h,h'⟩
     ·exact .inl h
     ·rcases Gu h' with h'|⟨hp,h'⟩
      ·exact .inl h'
      ·exact .inr ⟨_,zE hx hy ht hd he (m_ hs) h.1 h.2 hp,h'⟩
    ·exact .inl h
   ·exact .inl h
  ·split at h
   ·split at h
    ·simp[ah] at hx
    ·rw[hx] at h;exact .inl h
   ·exact .inl h
  ·exact .inl h
 ·exact .inl h
theorem tF {T:TypeId}{y:Operand}{K:AVal->Prop}{cs:List AVal}{off:Nat}(hx:ah env x=some (.rop cs off))(h:iI P [] env T x y F K):F\/∃av,oA P C H env (.indexAddr T x y) av/\K av:=by
 unfold iI at h;split at h
 ·rename_i xT h1;split at h
  ·split at h
   ·rw[hx] at h;exact .inl h
   ·exact .inl h
  ·rename_i len e h2;split at h
   ·rename_i xe h3;split at h
    ·simp[ah] at hx
    ·rw[hx] at h;dsimp only at h;rcases gP h with h|⟨k,i,hy,h,h'⟩
     ·exact .inl h
     ·refine .inr ⟨_,?_,h'⟩;intro R ρ hf;obtain⟨bl,o,e1,ho,hs⟩:=iw (hf _ _ hx);refine⟨.pointer (some ⟨bl,o+i.toNat*xe.size,none⟩),ik a_ (by rw[Nat.add_sub_add_right];exact hs),λR' w hle hm dst t p af g=> ?_⟩;simp only[execOp,e1,ap.1 (hf _ _ hy),Instr.indexAt,asIntOf,e_,h_,c_,ao h1,h2,Instr.sureAddr];rw[if_pos (show 0<=i/\i<(len:Int) from⟨h.1,h.2⟩)];simp only[e_,aM h3,c_,h_,Addr.add];by_cases h0:i.toNat*xe.size=0
      ·simp[h0]
      ·simp[h0]
   ·exact .inl h
  ·exact .inl h
 ·exact .inl h
theorem OR {op:Op}{K:AVal->Prop}(hs:B4 env op=true)(h:D6 P [] env H op F K):F\/∃av,oA P C H env op av/\K av:=by
 unfold B4 at hs;split at hs
 ·split at hs
  ·rename_i hx;exact Cu hx h
  ·cases hs
 ·split at hs
  ·rename_i hx;exact Ti hx h
  ·cases hs
 ·split at hs
  ·rename_i hx;exact Cr hx h
  ·rename_i hx;exact tF hx h
  ·cases hs
 ·cases hs
theorem Ld (hGL:ab C.G GL){op:Op}{K:AVal->Prop}(h:M3 P GL H env op F K):F\/∃av,oA P C H env op av/\K av:=by
 unfold M3 at h;split at h
 ·split at h
  ·rename_i av hx;exact .inr ⟨_,Th hx,h⟩
  ·exact .inl h
 ·split at h
  ·rename_i av hx;exact .inr ⟨_,Mm hx,h⟩
  ·exact .inl h
 ·split at h
  ·rename_i cs hx;split at h
   ·rename_i av hi;exact .inr ⟨_,HY hx hi,h⟩
   ·exact .inl h
  ·exact .inl h
 ·split at h
  ·rename_i cs off hx;exact .inr ⟨_,vn hx,h⟩
  ·rename_i i a hx;rcases vK (P:=P) (C:=C) (H:=H) (env:=env) (op:=.nilCheck ‹Operand›) (F:=False) (K:=λv=>v= .own i (.pointer (some a))) hGL (by simp only[D6,p7,hx]) with h'|⟨av,h1,rfl⟩
   ·exact h'.elim
   ·exact .inr ⟨_,EM h1 rfl,h⟩
  ·exact .inl h
 ·split at h
  ·rename_i b a a' hc hx hy;refine .inr ⟨_,Tg hc hx hy,?_⟩;cases b
   ·exact h.2 rfl
   ·exact h.1 rfl
  ·exact .inl h
 ·exact Ml h
 ·exact Mk h
 ·split at h
  ·rename_i hs;exact OR hs h
  ·rcases vK hGL h with h|⟨av,h1,h2⟩
   ·exact .inl h
   ·split at h2
    ·rename_i hd;exact .inr ⟨_,EM h1 hd,h2⟩
    ·exact .inl h2
theorem RZ {l:List Oper}{env':Env}(hs:∀{D:List Deferred} R a,FS D n R env a->FS D n R env' a)(h:AQ P C n ops l env' H K):AQ P C n ops l env H K:=λR a hf=>h R a (hs R a hf)
theorem G0 {o:Oper}{b want:Bool}{d:Nat}{l:List Oper}(hv:Env.get env d=some (.bool b))
  (ht:b=true->AQ P C n ops l ((d,.bool true)::env) H K) (hf:b=false->AQ P C n ops l ((d,.bool false)::env) H K):AQ P C n ops l env H K:=by
 have key:∀x,b=x->∀{D:List Deferred} R a,FS D n R env a->FS D n R ((d,.bool x)::env) a:=by
  rintro x rfl D R a hfr;refine⟨λk v hk=> ?_,hfr.size,hfr.defers⟩;simp only[Env.get] at hk;cases hb:Nat.beq d k with
  |true=>
   rw[hb] at hk;have:=m_ hb;subst this;simp only[g_] at hk;subst hk;exact hfr.fr d _ hv
  |false=>rw[hb] at hk;exact hfr.fr k v hk
 cases hb:b with
 |true=>exact RZ (key true hb) (ht hb)
 |false=>exact RZ (key false hb) (hf hb)
theorem s6 {o:Oper}{b want:Bool}(hg:aQ ops env o.guard=some (b,want))(hb:(b==want)=false)(hd:o.dst=none)
  (h:AQ P C n ops rest env H K):AQ P C n ops (o::rest) env H K:=by
 intro R a hf;refine wpQuiet_step λX hX=> ?_;rw[cE hf hg,hb,if_neg (by simp),hd];exact hX _ (h R _ hf)
theorem qT {o:Oper}{e:Nat}(hs:cJ ops o.guard=some e)(hv:Env.get env e=some (.raw undef))
  (h:(∃d,o.dst=some d/\Nat.ble (d+1) n=true/\AQ P C n ops rest ((d,.raw undef)::env) H K)\/(o.dst=none/\AQ P C n ops rest env H K)):AQ P C n ops (o::rest) env H K:=by
 intro R a hf;refine wpQuiet_step λX hX=> ?_;have hw:Region.wanted o (yielded ops a.tmps)=false:=by
  unfold cJ at hs;unfold Region.wanted;split at hs
  ·rename_i j want h;rw[h];split at hs
   ·rename_i o' ho;obtain⟨x,hx,hr⟩:=hf.fr e _ hv;rw[aq.1 hr] at hx;simp[yielded,ho,hs,hx,undef]
   ·cases hs
  ·cases hs
 rw[hw,if_neg (by simp)];rcases h with⟨d,hd,hdn,h⟩|⟨hd,h⟩
 ·rw[hd];exact hX _ (h R _ (hf.put hdn (aq.2 rfl)))
 ·rw[hd];exact hX _ (h R _ hf)
theorem Kl (hGL:ab C.G GL):∀(l:List Oper) (env:Env),Yd P C n C.G GL H ops K l env->AQ P C n ops l env H K
 |[],env,h=>X0 h
 |o::rest,env,h=>by
  have ih:=Kl hGL rest;replace h:Ig P C n C.G GL H ops o rest K (Yd P C n C.G GL H ops K rest) env:=h;generalize Yd P C n C.G GL H ops K rest=X at h ih;have run:∀env' b,aQ ops env' o.guard=some (b,b)->(match o.dst with
   |some d=>match Nat.ble (d+1) n with
    |true=>match o.op with
     |.call ⟨.value fv,args,_⟩=>match ah env' fv,kH env' args.toList with
      |some (.func (.func f) [] []),some avs=>Cq P C.G f avs λv=>X ((d,v)::env')
      |_,_=>Sb P C n ops (o::rest) env' H K
     |op=>M3 P GL H env' op (Sb P C n ops (o::rest) env' H K) λav=>X ((d,av)::env')
    |false=>Sb P C n ops (o::rest) env' H K
   |none=>Sb P C n ops (o::rest) env' H K)->AQ P C n ops (o::rest) env' H K:=by
   intro env' b hg h
   obtain⟨dst,op,type,pos,after,guard⟩:=o
   dsimp only at h hg ⊢
   split at h
   ·rename_i d;split at h
    ·rename_i hdn;split at h
     ·rename_i fv args ts;split at h
      ·rename_i f avs h1 h2;obtain⟨v,hc,hs,hd,k⟩:=h;have e:=dE (a:=args) rfl;rw[e];exact R3 hg hdn h1 h2 hs hc hd (ih _ k)
      ·exact h.h
     ·rcases Ld hGL h with h|⟨av,h1,h2⟩
      ·exact h.h
      ·exact X1 hg hdn h1 (ih _ h2)
    ·exact h.h
   ·exact h.h
  have skip:∀env',(∀d,o.dst=some d->Nat.ble (d+1) n=true->AQ P C n ops rest ((d,.raw undef)::env') H K->AQ P C n ops (o::rest) env' H K)->
    (o.dst=none->AQ P C n ops rest env' H K->AQ P C n ops (o::rest) env' H K)->(match o.dst with
   |some d=>match Nat.ble (d+1) n with
    |true=>X ((d,.raw undef)::env')
    |false=>Sb P C n ops (o::rest) env' H K
   |none=>X env')->AQ P C n ops (o::rest) env' H K:=by
   intro env' h1 h2 h
   split at h
   ·rename_i d hd;split at h
    ·rename_i hdn;exact h1 d hd hdn (ih _ h)
    ·exact h.h
   ·rename_i hd;exact h2 hd (ih _ h)
  simp only[Ig,ui] at h;split at h
  ·rename_i hgn;exact run env true (by rw[hgn];rfl) h
  ·rename_i j want hgn;split at h
   ·rename_i o' ho;split at h
    ·rename_i e he;split at h
     ·rename_i b hb;have hgT:∀v,aQ ops ((e,.bool v)::env) o.guard=some (v,want):=λv=>by rw[hgn];exact pg ho he
      split at h
      ·refine G0 (o:=o) (want:=true) hb (λhv=> ?_) (λhv=> ?_)
       ·exact run _ true (hgT true) (h.1 hv)
       ·exact skip _ (λd hd hdn k=>RY (hgT false) hd hdn k) (λhd k=>s6 (hgT false) rfl hd k) (h.2 hv)
      ·refine G0 (o:=o) (want:=false) hb (λhv=> ?_) (λhv=> ?_)
       ·exact skip _ (λd hd hdn k=>UR (hgT true) hd hdn k) (λhd k=>s6 (hgT true) rfl hd k) (h.1 hv)
       ·exact run _ false (hgT false) (h.2 hv)
     ·rename_i v hv;have hgS:cJ ops o.guard=some e:=by rw[hgn];simp only[cJ,ho,he]
      obtain⟨rfl,h⟩:=h;exact skip _ (λd hd hdn k=>qT hgS hv (.inl ⟨d,hd,hdn,k⟩)) (λhd k=>qT hgS hv (.inr ⟨hd,k⟩)) h
     ·exact h.h
    ·exact h.h
   ·exact h.h
theorem Pp (hC:C.G=G)(hGL:ab G GL)(l:List Oper)(env:Env)(h:Yd P C n G GL H ops K l env):AQ P C n ops l env H K:=by subst hC;exact Kl hGL l env h
theorem ef {id:Nat}(hm:P.follows .mixedOrders=true)(hC:C.G=G)(hGL:ab G GL)(hB:Region.lexB .any ops=true)(h:Yd P C n G GL H ops (λe=>Q .normal e H) ops.toList env):Dw P C n id ops env H Q:=by
 have e:=dE (a:=ops) rfl
 have:=zc (P:=P) (C:=C) (n:=n) (env:=env) (H:=H) (Q:=Q) (id:=id) (l:=ops.toList) hm (by rw[<-e];exact hB) (by rw[<-e];exact Pp hC hGL _ _ h);rw[<-e] at this;exact⟨this⟩
end
theorem mixed:prog.follows .mixedOrders=true:=by kernel_rfl
end
section
open Go
section
variable {P:Program} [Tab P] {C:Ctx} {n:Nat} {env:Env} {H:Heap} {Q:aL->Env->Heap->Prop} {ops:Array Oper} {rest:List Oper} {G:Glo} {GL:List (Nat×List AVal)}
variable {eT:Option TypeId}
variable {d:Nat} {t:TypeId} {p:String} {af:Array Edge} {g:Option (Nat×Bool)} {b:Bool}
variable {x y:Operand} {T:TypeId} {xT:TI} {tx ty:TypeId} {av:AVal} {f:FuncId} {avs:List AVal}
theorem jX {c:Code}(k sz:Nat)(hk:Env.get env k=some (.raw (.slice none 0 0)))(h:Lp P C n c ((k,.own H.length (.slice none 0 0))::env) (H++[.row (.slice none 0 0) none sz 0 []]) Q):Lp P C n c env H Q:=by
 refine⟨DC (λ_ _ hf=>uj (i:=H.length) rfl hk hf) (oe (eT:=none) sz ?_)⟩
 intro R a w hm hf;exact h.h R a w (hm.perm (List.perm_append_singleton _ H).symm) hf
theorem n7 (mk:AVal->AVal)(hmk:∀R R' i v x sz n f,R.le R'->bn R (mk (.own i v)) x->bn R' (.list sz n f) v->bn R' (mk (.list sz n f)) x)
  {sz m:Nat} {cs:List AVal} (fl:Nat->AVal) (hf:∀i,i<m->(fl i).cells=(cs.drop (i*sz)).take sz/\(fl i).plain=true)
  (h:ad P G f avs [] (λr H=>∃i v,r= .ret (mk (.own i v))/\H=[.row v eT sz m cs])):ai P G f avs (mk (.list sz m fl)):=by
 intro R w args hG hm ha;have key:∀{res:co} {H':Heap} {R':Seal} {e:Ending} {w':World},(∃i v,res= .ret (mk (.own i v))/\H'=[.row v eT sz m cs])->iQ R' res e->MS ⟨w,R,eR [],G,hG,[]⟩ R' H' w'->
   ∃res H' R'',(res= .ret (mk (.list sz m fl))/\H'=[])/\iQ R'' res e/\MS ⟨w,R,eR [],G,hG,[]⟩ R'' H' w':=by
  rintro res H' R' e w' ⟨i,v,rfl,rfl⟩ ⟨x,rfl,hx⟩ hm';obtain⟨R2,hle,hm2,hr⟩:=hm'.seal_row hf;exact⟨_,[],R2,⟨rfl,rfl⟩,⟨x,rfl,hmk _ _ _ _ _ _ _ _ hle hx hr⟩,hm2⟩
 rcases h R w args hG hm ha with⟨h1,h2⟩|⟨v,w',h1,res,H',R',q,er,hm'⟩
 ·exact .inl ⟨h1,h2.mono λe w' ⟨res,H',R',q,er,hm'⟩=>key q er hm'⟩
 ·obtain⟨res,H'',R'',q',er',hm''⟩:=key q er hm';exact .inr ⟨v,w',h1,res,H'',R'',q',er',hm''⟩
theorem PX:∀(R R':Seal) (i:Nat) (v x:Value) (sz n:Nat) (f:Nat->AVal),R.le R'->bn R ((λa=>a) (AVal.own i v)) x->bn R' (.list sz n f) v->bn R' ((λa=>a) (AVal.list sz n f)) x:=by
 intro R R' i v x sz n f _ h k;obtain⟨rfl,_⟩:=aE.1 h;exact k
theorem CS (b:AVal):∀(R R':Seal) (i:Nat) (v x:Value) (sz n:Nat) (f:Nat->AVal),R.le R'->bn R ((λa=>AVal.tuple [a,b]) (AVal.own i v)) x->bn R' (.list sz n f) v->bn R' ((λa=>AVal.tuple [a,b]) (AVal.list sz n f)) x:=by
 rintro R R' i v x sz n f hle ⟨⟨ws,e,u,t,e1,hu,u2,t2,e2,hu2,rfl⟩,h2⟩ k;have:u=v:=(aE.1 (show bn R (.own i v) u from⟨hu.1,hu.2⟩)).1;subst this;have k2:=fx hle (show bn R b u2 from⟨hu2.1,hu2.2⟩);exact⟨⟨ws,e,_,_,e1,⟨k.1,k.2⟩,_,_,e2,⟨k2.1,k2.2⟩,rfl⟩,h2⟩
theorem aY {op:Op}(hC:C.G=G)(hGL:ab G GL)(hr:bE P C H env op av)(hg:aQ ops env g=some (b,b))(hdn:Nat.ble (d+1) n=true)
  (k:mN P C n G GL ops Q rest ((d,av)::env) H):uD P C n ops ({dst:=some d,op:=op,type:=t,pos:=p,after:=af,guard:=g}::rest) env H Q:=
 ⟨nu hg hdn hr (fm hC hGL _ _ _ k)⟩
theorem vM {k:IntKind}{m:Int}{S:TypeId}{xS:TI}(hx:ah env x=some (.int k m))(h1:bj P S=some xS)(h2:bj P T=some xT)(hd:xT.desc= .string):bE P C H env (.convert S T x) (.str (Utf8.encode m).data.toList):=by
 intro R ρ w hm hf dst t p af g;refine⟨.string (Utf8.encode m),?_,aD.2 rfl⟩;simp only[execOp,ap.1 (hf _ _ hx),convert,e_,ao h1,ao h2,hd,c_,h_];cases xS.desc<;>rfl
end
def gU (l:List Int):List AVal:=l.map λn=>.int .i64 n
def d8 (l:List Int)(i:Nat):AVal:=.int .i64 (l.getD i 0)
theorem yu (l:List Int):∀i,i<l.length->(d8 l i).cells=((gU l).drop (i*1)).take 1/\(d8 l i).plain=true:=by
 intro i hi;refine⟨?_,rfl⟩;have:i<(gU l).length:=by simpa[gU] using hi
 rw[Nat.mul_one,A_ this];simp[d8,AVal.cells,gU,List.getD,hi]
theorem yv (l:List Int)(n:Int):gU l++[.int .i64 n]=gU (l++[n]):=by simp[gU]
end
section
open Go
inductive DPlan
 |done
 |take (i:Nat) (p:DPlan)
 |br (i:Nat) (p q:DPlan)
 |nil
abbrev DPlan.t:=@DPlan.take
abbrev DPlan.b(n:Nat)(p:DPlan):DPlan:=.br n p .nil
abbrev DPlan.p0:DPlan:=.t 0 (.t 1 (.t 2 (.t 3 (.t 4 (.t 5 (.t 6 (.b 7 .done)))))))
abbrev DPlan.p1:DPlan:=.t 0 (.t 1 (.b 2 (.b 3 (.t 4 (.t 5 (.t 6 (.t 7 (.t 8 .done))))))))
abbrev DPlan.p2:DPlan:=.t 0 (.t 1 (.t 2 (.t 3 (.t 4 (.t 5 (.t 6 (.t 7 .done)))))))
abbrev DPlan.p3:DPlan:=.t 0 (.t 1 (.t 2 (.t 3 (.t 4 (.t 5 (.b 6 (.t 7 .done)))))))
abbrev DPlan.p4:DPlan:=.t 0 (.t 1 (.t 2 (.t 4 (.t 7 (.t 8 (.t 9 (.t 10 (.t 11 (.b 3 (.t 5 (.b 6 (.b 12 .done))))))))))))
abbrev DPlan.p5:DPlan:=.t 0 (.t 1 (.t 2 (.t 3 (.t 4 (.t 5 (.t 6 (.t 7 (.t 8 (.t 9 .done)))))))))
abbrev DPlan.p6:DPlan:=.t 0 (.t 2 (.br 1 (.b 3 (.b 4 (.b 5 (.t 6 (.b 7 .done))))) (.b 3 (.br 1 (.b 4 (.b 5 (.t 6 (.b 7 .done)))) (.b 4 (.b 1 (.b 5 (.t 6 (.b 7 .done)))))))))
abbrev DPlan.p7:DPlan:=.t 0 (.t 1 (.t 2 (.t 5 (.t 6 (.t 7 (.br 3 (.br 4 (.b 8 (.b 9 (.b 10 (.t 11 .done)))) (.b 8 (.br 4 (.b 9 (.b 10 (.t 11 .done))) (.b 9 (.b 4 (.b 10 (.t 11 .done))))))) (.b 8 (.br 3 (.br 4 (.b 9 (.b 10 (.t 11 .done))) (.b 9 (.b 4 (.b 10 (.t 11 .done))))) (.b 9 (.b 3 (.b 4 (.b 10 (.t 11 .done)))))))))))))
abbrev DPlan.p8:DPlan:=.br 0 (.br 1 (.b 2 (.b 3 .done)) (.b 2 (.b 1 (.b 3 .done)))) (.b 1 (.b 0 (.b 2 (.b 3 .done))))
abbrev DPlan.p9:DPlan:=.t 0 (.br 1 (.b 2 (.b 3 .done)) (.b 2 (.b 1 (.b 3 .done))))
abbrev DPlan.p10:DPlan:=.t 0 (.t 1 (.t 2 (.t 3 (.t 4 (.t 5 (.t 7 (.t 8 (.t 9 (.t 10 (.t 12 (.t 13 (.t 14 (.t 15 (.t 16 (.br 6 (.b 11 (.b 17 .done)) (.b 11 (.b 6 (.b 17 .done))))))))))))))))))
abbrev DPlan.p11:DPlan:=.t 0 (.t 5 (.b 1 (.b 2 (.b 3 (.b 4 (.b 6 .done))))))
abbrev DPlan.p12:DPlan:=.t 0 (.t 1 (.t 2 (.t 3 (.t 4 (.t 5 (.t 6 (.t 7 (.t 8 (.t 9 (.b 10 (.t 11 (.t 12 (.t 13 (.t 14 (.b 15 .done)))))))))))))))
abbrev DPlan.p13:DPlan:=.br 0 (.b 1 (.b 2 (.b 3 .done))) (.b 1 (.b 0 (.b 2 (.b 3 .done))))
abbrev DPlan.p14:DPlan:=.t 0 (.t 1 (.t 2 (.t 3 (.t 4 (.t 5 (.t 6 (.t 7 (.t 9 (.t 10 (.b 8 (.t 11 (.t 12 .done))))))))))))
abbrev DPlan.p15:DPlan:=.t 0 (.t 1 (.t 2 (.t 3 (.t 4 (.t 5 (.t 6 (.t 7 (.t 8 (.t 9 (.t 10 (.t 11 (.b 12 (.b 13 (.t 14 .done))))))))))))))
abbrev DPlan.p16:DPlan:=.t 0 (.t 1 (.t 2 (.t 3 (.t 4 (.t 5 (.t 8 (.t 9 (.t 10 (.t 11 (.t 12 (.t 13 (.br 6 (.br 7 (.b 14 (.b 15 (.t 16 (.t 17 .done)))) (.b 14 (.b 7 (.b 15 (.t 16 (.t 17 .done)))))) (.b 14 (.b 6 (.b 7 (.b 15 (.t 16 (.t 17 .done))))))))))))))))))
abbrev DPlan.p17:DPlan:=.t 0 (.t 1 (.t 2 (.t 3 (.t 4 (.t 5 (.b 6 (.t 7 (.t 8 (.t 9 .done)))))))))
abbrev DPlan.p18:DPlan:=.t 0 (.t 1 (.t 2 (.t 3 (.t 4 (.t 6 (.t 7 (.t 8 (.t 9 (.br 5 (.b 10 (.b 11 (.b 12 (.t 13 (.b 14 .done))))) (.b 10 (.br 5 (.b 11 (.b 12 (.t 13 (.b 14 .done)))) (.b 11 (.b 5 (.b 12 (.t 13 (.b 14 .done))))))))))))))))
abbrev DPlan.p19:DPlan:=.t 0 (.t 1 (.t 2 (.t 3 (.t 4 (.t 5 (.t 6 (.t 7 (.t 8 (.t 11 (.b 9 (.t 10 .done)))))))))))
abbrev DPlan.p20:DPlan:=.t 0 (.t 1 (.t 2 (.br 3 (.br 4 (.t 5 (.t 6 (.t 7 (.b 8 (.b 9 (.t 10 .done)))))) (.b 8 (.b 4 (.t 5 (.t 6 (.t 7 (.b 9 (.t 10 .done)))))))) (.b 8 (.b 3 (.b 4 (.t 5 (.t 6 (.t 7 (.b 9 (.t 10 .done)))))))))))
abbrev DPlan.p21:DPlan:=.t 0 (.t 1 (.t 3 (.t 4 (.b 2 (.b 5 (.t 6 (.br 7 (.t 8 (.b 9 (.t 10 .done))) (.b 9 (.b 7 (.t 8 (.t 10 .done)))))))))))
abbrev DPlan.p22:DPlan:=.t 0 (.t 1 (.t 2 (.t 3 (.t 4 (.t 5 (.br 6 (.t 7 (.b 8 (.t 9 .done))) (.b 8 (.b 6 (.t 7 (.t 9 .done))))))))))
abbrev DPlan.p23:DPlan:=.t 0 (.t 1 (.t 2 (.t 3 (.t 4 (.t 6 (.t 7 (.b 5 (.t 8 .done))))))))
abbrev DPlan.p24:DPlan:=.t 0 (.t 1 (.t 2 (.t 3 (.br 4 (.t 5 (.b 6 (.b 7 .done))) (.b 6 (.b 4 (.t 5 (.b 7 .done))))))))
def ng (ops:Array Oper):DPlan->Nat->Array Bool->List Nat->Bool
 |.done,_,l,acc=>acc.isEmpty&&(Region.ready .any ops l).isEmpty
 |.take _ _,0,_,_=>false
 |.take i p,k+1,l,acc=>acc.isEmpty&&(Region.free .any ops l i&&((Region.ready .any ops l).contains i&&ng ops p k (l.setIfInBounds i true) []))
 |.br _ _ _,0,_,_=>false
 |.br i p q,k+1,l,acc=>ng ops p k (l.setIfInBounds i true) []&&ng ops q (k+1) l (acc++[i])
 |.nil,_,l,acc=> !acc.isEmpty&&decide (Region.ready .any ops l=acc)
structure Yb (a b:Prop):Prop where
 l:a
 r:b
theorem pz {a b:Prop}(h:a)(k:b):Yb a b:=⟨h,k⟩
inductive R9 (ops:Array Oper) (i:Nat) (env:Env) (H:Heap):Prop
inductive Og (kf:Bool) (H h:Heap) (k:Prop):Prop
 |all (X:Heap) (e:h=H++X) (h:k)
 |none (e:kf=false) (h:k)
theorem oY {H h:Heap}{k:Prop}(hk:k):Og false H h k:=.none rfl hk
theorem oZ {H h:Heap}{k:Prop}(X:Heap)(e:h=H++X)(hk:k):Og true H h k:=.all X e hk
inductive Fie {X:Type} (I:X->Env) (J:X->Heap) (e:Env) (h:Heap):Prop
 |mk (x:X) (hs:Env.sub e (I x)) (hj:h=J x)
inductive Fis {X:Type} (I:X->Env) (J:X->Heap) (e:Env) (h:Heap):Prop
 |mk (x:X) (hs:Env.sub e (I x)) (hj:(J x).Sublist h)
section
structure Bc (G:Glo) (k:Ctx->Prop):Prop where
 h:∀C:Ctx,C.G=G->k C
theorem pB {G:Glo}{k:Ctx->Prop}(h:∀C:Ctx,C.G=G->k C):Bc G k:=⟨h⟩
variable (P:Program) [Tab P] (n:Nat) (G:Glo) (GL:List (Nat×List AVal))
def hk (kf:Bool)(H:Heap):Heap:=match kf with
 |true=>H
 |false=>[]
def OF (kf:Bool)(ops:Array Oper)(i:Nat)(ih:Env->Heap->Prop)(env:Env)(H:Heap):Prop:=
 match ops[i]? with
 |some o=>ui ops env o.guard (R9 ops i env H)
  (λenv'=>match o.dst with
   |some d=>match Nat.ble (d+1) n with
    |true=>M3 P GL (hk kf H) env' o.op (R9 ops i env' H) λav=>ih ((d,av)::env') H
    |false=>R9 ops i env' H
   |none=>R9 ops i env' H)
  (λenv'=>match o.dst with
   |some d=>match Nat.ble (d+1) n with
    |true=>ih ((d,.raw undef)::env') H
    |false=>R9 ops i env' H
   |none=>ih env' H)
 |none=>R9 ops i env H
@[reducible] def KE (E:Env)(K:Prop)(e:Env):Prop:=match E with
 |[]=>K
 |_::_=>K/\Env.sub e E
theorem ZR {E:Env}{K:Prop}{e:Env}(h:KE E K e):K:=by
 cases E with
 |nil=>exact h
 |cons x l=>exact h.1
theorem W0 {E:Env}{K:Prop}{e:Env}(h:KE E K e):Env.sub e E:=by
 cases E with
 |nil=>trivial
 |cons x l=>exact h.2
def mE (ops:Array Oper)(E:Env):Bool:=ops.toList.all λo=>match o.dst with
 |some d=>(Env.get E d).isNone
 |none=>true
def Zy (E:Env)(Kp:AVal->Heap->Prop)(kf:Bool)(ops:Array Oper)(i:Nat)(ih:Env->Heap->Prop)(env:Env)(H:Heap):Prop:=
 match ops[i]? with
 |some o=>Bc G λC=>mN P C n G GL ops (λx e h=>match x with
  |.normal=>Og kf H h (ih e h)
  |.panic v=>KE E (Kp v h) e
  |_=>False) [o] env H
 |none=>R9 ops i env H
noncomputable def Yg (E:Env)(Kp:AVal->Heap->Prop)(kf:Bool)(ops:Array Oper)(Q:Env->Heap->Prop)(p:DPlan):Env->Heap->Prop:=
 DPlan.rec (motive:=λ_=>Env->Heap->Prop) Q (λi _ ih=>OF P n GL kf ops i ih) (λi _ _ ihp ihq env H=>Yb (Zy P n G GL E Kp kf ops i ihp env H) (ihq env H)) (λ_ _=>True) p
end
theorem DW {P:Program}{ops:Array Oper}{Q:Exit->Act->World->Prop}{md:Region.Mode}{S S':World->Prop}(h:∀w,S' w->S w):∀(fuel:Nat) (listed:Array Bool) (a:Act) (w:World),wpAnyH P md ops Q S' fuel listed a w->wpAnyH P md ops Q S fuel listed a w
 |0,_,_,_,k=>k
 |fuel+1,_,_,_,k=>⟨k.1,λi hi=>wpOp_mono (λa' w' k'=>⟨h _ k'.1,DW h fuel _ a' w' k'.2⟩) (k.2 i hi)⟩
def Ki (C:Ctx)(R:Seal)(hR:C.R0.le R):Ctx:=⟨C.w0,R,C.B0,C.G,C.G.mono _ _ hR C.hG,C.D⟩
theorem MS.re {C:Ctx}{R:Seal}{H:Heap}{w:World}(h:MS C R H w):MS (Ki C R h.ge) R H w:=
 ⟨h.sealed,Seal.le_refl R,λb hb=>.inl hb,h.heap,h.own,h.ext⟩
theorem MS.back {C:Ctx}{R R':Seal}{H H':Heap}{w w':World}(h:MS C R H w)(k:MS (Ki C R h.ge) R' H' w'):MS C R' H' w':=
 ⟨k.sealed,Seal.le_trans h.ge k.ge,λb hb=>(k.fresh b hb).elim (h.fresh b) .inr,k.heap,k.own,k.ext⟩
section
variable {P:Program} [Tab P] {n:Nat} {env:Env} {H:Heap} {ops:Array Oper} {G:Glo} {GL:List (Nat×List AVal)} {kf:Bool}
def DS (C:Ctx)(kf:Bool)(R:Seal)(H:Heap)(w:World):Prop:=∃R' X,R.le R'/\MS C R' (hk kf H++X) w
theorem VA {C:Ctx}{R:Seal}{w:World}(h:MS C R H w):DS C kf R H w:=by
 cases kf with
 |true=>exact⟨R,[],Seal.le_refl R,by simpa[hk] using h⟩
 |false=>exact⟨R,H,Seal.le_refl R,by simpa[hk] using h⟩
def QN (E:Env)(Q:Env->Heap->Prop)(Kp:AVal->Heap->Prop):aL->Env->Heap->Prop
 |.normal,e,h=>Q e h
 |.panic v,e,h=>e=E/\Kp v h
 |_,_,_=>False
theorem WB {E:Env}{C:Ctx}{Q:Env->Heap->Prop}{Kp:AVal->Heap->Prop}{c:List PanicEntry}{a:Act}{w:World}{d:Option Nat}{v:Value}(hd:∀k,d=some k->Env.get E k=none)(hp:mg C n (QN E Q Kp) (.panic c) (a.put d v) w):mg C n (QN E Q Kp) (.panic c) a w:=by
 obtain⟨x,e,h,R,hq,hr,hm,hf⟩:=hp;cases x with
 |panic y=>
  obtain⟨rfl,hk⟩:=hq;refine⟨.panic y,_,h,R,⟨rfl,hk⟩,hr,hm,⟨λk u hk=> ?_,?_,?_⟩⟩
  ·obtain⟨y,hy,hr⟩:=hf.fr k u hk;refine⟨y,?_,hr⟩;cases d with
   |none=>exact hy
   |some d=>
    have hkd:d≠k:=λe=>by have:=hd d rfl;rw[e,hk] at this;cases this
    simpa[Act.put,Array.getElem?_setIfInBounds,hkd] using hy
  ·have:=hf.size;cases d with
   |none=>exact this
   |some d=>simpa[Act.put] using this
  ·have:=hf.defers;cases d with
   |none=>exact this
   |some d=>exact this
 |normal=>exact absurd (show Exit.panic c= .normal from hr) (by simp)
 |exit i=>exact hq.elim
 |goto i=>exact hq.elim
 |ret=>exact hq.elim
theorem Q7 {E:Env}(h:mE ops E=true){i:Nat}{o:Oper}(hi:ops[i]? =some o):∀k,o.dst=some k->Env.get E k=none:=λk hk=>by
 unfold mE at h;have:=List.all_eq_true.1 h o (Array.mem_toList_iff.2 (Array.mem_of_getElem? hi));rw[hk] at this;exact Option.isNone_iff_eq_none.1 this
theorem Lo:mE ops []=true:=by
 unfold mE;rw[Bw];intro o _;cases o.dst<;>rfl
def DA (P:Program)(G:Glo)(n:Nat)(ops:Array Oper)(kf:Bool)(E:Env)(Q:Env->Heap->Prop)(Kp:AVal->Heap->Prop)(fuel:Nat)(listed:Array Bool)(env:Env)(H:Heap):Prop:=
 ∀C:Ctx,C.G=G->∀R a w,MS C R H w->FS C.D n R env a->wpAnyH P .any ops (mg C n (QN E Q Kp)) (DS C kf R H) fuel listed a w
variable {E:Env} {Q:Env->Heap->Prop} {Kp:AVal->Heap->Prop} {fuel:Nat} {listed:Array Bool} {i:Nat} {o:Oper} {av:AVal}
theorem yT {env':Env}{C:Ctx}(hC:C.G=G){R:Seal}{a:Act}{w:World}(hm:MS C R H w)(hE:mE ops E=true)(hns:Region.noSelect ops=true)(hi:ops[i]? =some o)(hf:Region.free .any ops listed i=true)(hr:(Region.ready .any ops listed).contains i=true)
  (hy:∃x,YieldsIf P ops (DS C kf R H) o x a/\FS C.D n R env' (a.put o.dst x)) (h:DA P G n ops kf E Q Kp fuel (listed.setIfInBounds i true) env' H):wpAnyH P .any ops (mg C n (QN E Q Kp)) (DS C kf R H) (fuel+1) listed a w:=by
 obtain⟨x,h1,h2⟩:=hy;exact wpAnyH_take hi hns hf hr (λc a w hp=>WB (Q7 hE hi) hp) h1 (VA hm) (h C hC R _ w hm h2)
theorem Rg {env':Env}(hs:∀{D:List Deferred} R a,FS D n R env a->FS D n R env' a)(h:DA P G n ops kf E Q Kp fuel listed env' H):DA P G n ops kf E Q Kp fuel listed env H:=λC hC R a w hm hf=>h C hC R a w hm (hs R a hf)
theorem Gz {b:Bool}{d:Nat}(hv:Env.get env d=some (.bool b))
  (ht:b=true->DA P G n ops kf E Q Kp fuel listed ((d,.bool true)::env) H) (hf:b=false->DA P G n ops kf E Q Kp fuel listed ((d,.bool false)::env) H):DA P G n ops kf E Q Kp fuel listed env H:=by
 have key:∀x,b=x->∀{D:List Deferred} R a,FS D n R env a->FS D n R ((d,.bool x)::env) a:=by
  rintro x rfl D R a hfr;refine⟨λk v hk=> ?_,hfr.size,hfr.defers⟩
  simp only[Env.get] at hk
  cases hb:Nat.beq d k with
  |true=>
   rw[hb] at hk
   have:=m_ hb
   subst this
   simp only[g_] at hk
   subst hk
   exact hfr.fr d _ hv
  |false=>rw[hb] at hk;exact hfr.fr k v hk
 cases hb:b with
 |true=>exact Rg (key true hb) (ht hb)
 |false=>exact Rg (key false hb) (hf hb)
theorem rp {D:List Deferred}{R:Seal}{a:Act}{e:Nat}(hs:cJ ops o.guard=some e)(hv:Env.get env e=some (.raw undef))(hf:FS D n R env a):Region.wanted o (yielded ops a.tmps)=false:=by
 unfold cJ at hs;unfold Region.wanted;split at hs
 ·rename_i j want h;rw[h];split at hs
  ·rename_i o' ho;obtain⟨x,hx,hr⟩:=hf.fr e _ hv;rw[aq.1 hr] at hx;simp[yielded,ho,hs,hx,undef]
  ·cases hs
 ·cases hs
theorem SJ (hE:mE ops E=true)(hGL:ab G GL)(hns:Region.noSelect ops=true)(hf:Region.free .any ops listed i=true)(hr:(Region.ready .any ops listed).contains i=true){ih:Env->Heap->Prop}
  (hih:∀env H,ih env H->DA P G n ops kf E Q Kp fuel (listed.setIfInBounds i true) env H) (h:OF P n GL kf ops i ih env H):DA P G n ops kf E Q Kp (fuel+1) listed env H:=by
 unfold OF at h;split at h
 case h_2=>cases h
 rename_i o ho;have run:∀env' b,aQ ops env' o.guard=some (b,b)->(match o.dst with
   |some d=>match Nat.ble (d+1) n with
    |true=>M3 P GL (hk kf H) env' o.op (R9 ops i env' H) λav=>ih ((d,av)::env') H
    |false=>R9 ops i env' H
   |none=>R9 ops i env' H)->DA P G n ops kf E Q Kp (fuel+1) listed env' H:=by
  intro env' b hg h;split at h
  ·rename_i d hd;split at h
   ·rename_i hdn;intro C hC R a w hm hfs;rcases Ld (C:=C) (GL:=GL) (by rw[hC];exact hGL) h with h|⟨av,h1,h2⟩
    ·cases h
    ·refine yT (env':=(d,av)::env') hC hm hE hns ho hf hr ?_ (hih _ _ h2);obtain⟨x,hx,hrun⟩:=h1 R a.eval (λx a hx=>hfs.eval hx);refine⟨x,.inl ⟨by rw[cE hfs hg];simp,?_⟩,by rw[hd];exact hfs.put hdn hx⟩;rintro w' ⟨R',X,hle,hms⟩;exact hrun R' w' hle (hms.drop (List.sublist_append_left _ _)) o.dst o.type o.pos o.after o.guard
   ·cases h
  ·cases h
 have skip:∀env',(∀{D:List Deferred} R a,FS D n R env' a->Region.wanted o (yielded ops a.tmps)=false)->(match o.dst with
   |some d=>match Nat.ble (d+1) n with
    |true=>ih ((d,.raw undef)::env') H
    |false=>R9 ops i env' H
   |none=>ih env' H)->DA P G n ops kf E Q Kp (fuel+1) listed env' H:=by
  intro env' hw h;split at h
  ·rename_i d hd;split at h
   ·rename_i hdn;intro C hC R a w hm hfs;refine yT (env':=(d,.raw undef)::env') hC hm hE hns ho hf hr ⟨undef,.inr ⟨hw R a hfs,rfl⟩,?_⟩ (hih _ _ h);rw[hd];exact hfs.put hdn (aq.2 rfl)
   ·cases h
  ·rename_i hd;intro C hC R a w hm hfs;refine yT (env':=env') hC hm hE hns ho hf hr ⟨undef,.inr ⟨hw R a hfs,rfl⟩,?_⟩ (hih _ _ h);rw[hd];exact hfs
 unfold ui at h;split at h
 ·rename_i hgn;exact run env true (by rw[hgn];rfl) h
 ·rename_i j want hgn;split at h
  case h_2=>cases h
  rename_i o' ho';split at h
  case h_2=>cases h
  rename_i e he;split at h
  ·rename_i b hb;have hgT:∀v,aQ ops ((e,.bool v)::env) o.guard=some (v,want):=λv=>by rw[hgn];exact pg ho' he
   split at h
   ·refine Gz hb (λhv=> ?_) (λhv=> ?_)
    ·exact run _ true (hgT true) (h.1 hv)
    ·exact skip _ (λR a hfs=>by rw[cE hfs (hgT false)];rfl) (h.2 hv)
   ·refine Gz hb (λhv=> ?_) (λhv=> ?_)
    ·exact skip _ (λR a hfs=>by rw[cE hfs (hgT true)];rfl) (h.1 hv)
    ·exact run _ false (hgT false) (h.2 hv)
  ·rename_i v hv;have hgS:cJ ops o.guard=some e:=by rw[hgn];simp only[cJ,ho',he]
   obtain⟨rfl,h⟩:=h;exact skip _ (λR a hfs=>rp hgS hv hfs) h
  ·cases h
theorem BS {QP:Exit->Act->World->Prop}{K:Act->World->Prop}{Q':Exit->Act->World->Prop}{a:Act}{w:World}(hi:ops[i]? =some o)(hp:∀c a w,Q' (.panic c) a w->QP (.panic c) a w)(ho:∀a w,¬Q' .outgrown a w)(hK:∀a w,Q' .normal a w->K a w)
  (h:wpList P ops Q' [o] a w):wpOp P ops QP i K a w:=by
 unfold wpOp;rw[hi];simp only[wpList] at h;dsimp only
 split at h
 ·rename_i hw;rw[if_pos hw];rcases h with h|⟨_,a,w,h⟩
  ·refine .inl ?_;unfold Oper.wp at h ⊢;generalize (execOp a.eval o).run P w=r at h ⊢;cases r with
   |ok n w'=>
    cases n<;>simp only[Oper.upon] at h ⊢
    case value u=>exact hK _ _ h
    case skip=>exact hK _ _ h
    case defer d=>exact hK _ _ h
    case enter f args=>
     refine Calls.mono h λe w'' he=> ?_;cases e with
     |returned u=>exact hK _ _ he
     |panicked c=>exact hp _ _ _ he
     |outgrown=>obtain⟨a,w,he⟩:=he;exact absurd he (ho _ _)
    case row row args=>exact Rows.mono h λu w'' he=>hK _ _ he
   |halt x w'=>
    cases x<;>simp only[Oper.upon] at h ⊢
    case panic u=>exact hp _ _ _ h
  ·exact absurd h (ho _ _)
 ·rename_i hw;rw[if_neg hw];exact hK _ _ h
theorem Zh (hGL:ab G GL){ih:Env->Heap->Prop}(hih:∀env H,ih env H->DA P G n ops kf E Q Kp fuel (listed.setIfInBounds i true) env H)
  {C:Ctx} (hC:C.G=G) (h:Zy P n G GL E Kp kf ops i ih env H) {R:Seal} {a:Act} {w:World} (hm:MS C R H w) (hfs:FS C.D n R env a):
  wpOp P ops (mg C n (QN E Q Kp)) i (λa' w'=>DS C kf R H w'/\wpAnyH P .any ops (mg C n (QN E Q Kp)) (DS C kf R H) fuel (listed.setIfInBounds i true) a' w') a w:=by
 unfold Zy at h;split at h
 case h_2=>cases h
 rename_i o ho;have h1:=fm (C:=Ki C R hm.ge) (show(Ki C R hm.ge).G=G from hC) hGL _ _ _ (h.h _ hC) R a w hm.re hfs;refine BS ho ?_ ?_ ?_ h1
 ·rintro c a w ⟨x,e,h,R',hq,hr,hm',hf'⟩;cases x with
  |normal=>exact absurd (show Exit.panic c= .normal from hr) (by simp)
  |panic v=>exact⟨.panic v,E,h,R',⟨rfl,ZR hq⟩,hr,hm.back hm',hf'.sub (W0 hq)⟩
  |_=>exact hq.elim
 ·rintro a w ⟨x,e,h,R',hq,hr,_⟩;cases x with
  |normal=>exact absurd (show Exit.outgrown= .normal from hr) (by simp)
  |panic v=>obtain⟨y,hy,_⟩:=hr;cases hy
  |_=>exact hq.elim
 ·rintro a' w' ⟨x,e,h',R',hq,hr,hm',hf'⟩;have hle:R.le R':=hm'.ge;have hm2:=hm.back hm';have step:(∃X,hk kf h'=hk kf H++X)->ih e h'->DS C kf R H w'/\wpAnyH P .any ops (mg C n (QN E Q Kp)) (DS C kf R H) fuel (listed.setIfInBounds i true) a' w':=by
   rintro⟨X,hX⟩ k;have sub:∀w,DS C kf R' h' w->DS C kf R H w:=by
    rintro w ⟨R2,X2,hle2,hms⟩;rw[hX,An] at hms;exact⟨R2,X++X2,Seal.le_trans hle hle2,hms⟩
   exact⟨sub _ (VA hm2),DW sub _ _ _ _ (hih _ _ k C hC R' a' w' hm2 hf')⟩
  cases x with
  |normal=>
   cases hq with
   |all X e k=>
    refine step ?_ k;subst e;cases kf
    ·exact⟨[],rfl⟩
    ·exact⟨X,rfl⟩
   |none e k=>subst e;exact step ⟨[],rfl⟩ k
  |panic v=>obtain⟨y,hy,_⟩:=hr;cases hy
  |_=>exact hq.elim
theorem Q8 (hE:mE ops E=true)(hGL:ab G GL)(hns:Region.noSelect ops=true):∀(p:DPlan) (fuel:Nat) (listed:Array Bool) (acc:List Nat) (env:Env) (H:Heap),ng ops p fuel listed acc=true->Yg P n G GL E Kp kf ops Q p env H->
  (acc=[]->DA P G n ops kf E Q Kp fuel listed env H)/\(acc≠[]->∀C:Ctx,C.G=G->∀R a w,MS C R H w->FS C.D n R env a->∃f,(∀k,fuel=k+1->f=k)/\Region.ready .any ops listed≠[]/\
   ∀i∈Region.ready .any ops listed,i∈acc\/wpOp P ops (mg C n (QN E Q Kp)) i (λa' w'=>DS C kf R H w'/\wpAnyH P .any ops (mg C n (QN E Q Kp)) (DS C kf R H) f (listed.setIfInBounds i true) a' w') a w):=by
 intro p;induction p with
 |done=>
  intro fuel listed acc env H hp h;simp only[ng,l_,List.isEmpty_iff] at hp;refine⟨λ_ C hC R a w hm hfs=>wpAnyH_done hp.2 ⟨.normal,env,H,R,h,rfl,hm,hfs⟩ fuel,λha=>absurd hp.1 ha⟩
 |take i p ih=>
  intro fuel listed acc env H hp h;cases fuel with
  |zero=>simp[ng] at hp
  |succ fuel=>
   simp only[ng,l_,List.isEmpty_iff] at hp;obtain⟨h1,h2,h3,h4⟩:=hp;exact⟨λ_=>SJ hE hGL hns h2 h3 (λenv H k=>(ih fuel _ [] env H h4 k).1 rfl) h,λha=>absurd h1 ha⟩
 |br i p q ihp ihq=>
  intro fuel listed acc env H hp h;cases fuel with
  |zero=>simp[ng] at hp
  |succ fuel=>
   simp only[ng,l_] at hp;obtain⟨hl,hr⟩:Yb (Zy P n G GL E Kp kf ops i (Yg P n G GL E Kp kf ops Q p) env H) (Yg P n G GL E Kp kf ops Q q env H):=h;have hq:=(ihq (fuel+1) listed (acc++[i]) env H hp.2 hr).2 (by simp);have key:∀C:Ctx,C.G=G->∀R a w,MS C R H w->FS C.D n R env a->Region.ready .any ops listed≠[]/\
     ∀j∈Region.ready .any ops listed,j∈acc\/wpOp P ops (mg C n (QN E Q Kp)) j (λa' w'=>DS C kf R H w'/\wpAnyH P .any ops (mg C n (QN E Q Kp)) (DS C kf R H) fuel (listed.setIfInBounds j true) a' w') a w:=by
    intro C hC R a w hm hfs;obtain⟨f,hf,hne,hall⟩:=hq C hC R a w hm hfs;obtain rfl:=hf fuel rfl;refine⟨hne,λj hj=> ?_⟩;rcases hall j hj with hj'|hj'
    ·rcases List.mem_append.1 hj' with hj'|hj'
     ·exact .inl hj'
     ·rw[List.mem_singleton] at hj';subst hj';exact .inr (Zh hGL (λenv H k=>(ihp f _ [] env H hp.1 k).1 rfl) hC hl hm hfs)
    ·exact .inr hj'
   refine⟨λha C hC R a w hm hfs=> ?_,λ_ C hC R a w hm hfs=>⟨fuel,λk hk=>by omega,key C hC R a w hm hfs⟩⟩;obtain⟨hne,hall⟩:=key C hC R a w hm hfs;refine wpAnyH_all rfl hne λj hj=> ?_;rcases hall j hj with hj'|hj'
   ·rw[ha] at hj';cases hj'
   ·exact hj'
 |nil=>
  intro fuel listed acc env H hp h;simp only[ng,l_,Bool.not_eq_true',List.isEmpty_eq_false_iff,n_] at hp;obtain⟨h1,h2⟩:=hp;refine⟨λha=>absurd ha h1,λ_ C hC R a w hm hfs=>⟨fuel-1,λk hk=>by omega,by rw[h2];exact h1,λi hi=>.inl (by rw[h2] at hi;exact hi)⟩⟩
theorem cD {X:Type}{C:Ctx}{id:Nat}{QQ:aL->Env->Heap->Prop}(hm:P.follows .mixedOrders=true)(hC:C.G=G)(hGL:ab G GL)(kf:Bool)(Kp:AVal->Heap->Prop)(I:X->Env)(J:X->Heap)(plan:DPlan)
  (hB:(Region.noSelect ops&&ng ops plan ops.size (Array.replicate ops.size false) [])=true) (h:Yg P n G GL [] Kp kf ops (Fis I J) plan env H) (k:∀x,QQ .normal (I x) (J x)) (kp:∀v h,Kp v h->QQ (.panic v) [] h):Dw P C n id ops env H QQ:=by
 simp only[l_] at hB;have hd:=(Q8 Lo hGL hB.1 plan _ _ [] env H hB.2 h).1 rfl;refine⟨λR a w hms hfs=> ?_⟩;refine wp_mono (wp_region_held (S:=DS C kf R H) hm (hd C hC R a _ (hms.drawn _) hfs)) ?_;rintro ex a w ⟨x,e,h,R,hq,hr,hm',hf'⟩;cases x with
 |normal=>
  obtain⟨x0,hs,hj⟩:=hq;exact⟨.normal,I x0,J x0,R,k x0,hr,hm'.drop hj,hf'.sub hs⟩
 |panic v=>
  obtain⟨rfl,hq⟩:=hq;exact⟨.panic v,[],h,R,kp v h hq,hr,hm',hf'⟩
 |exit i=>exact hq.elim
 |goto i=>exact hq.elim
 |ret=>exact hq.elim
theorem Vz {X:Type}{C:Ctx}{id:Nat}{QQ:aL->Env->Heap->Prop}(E:Env)(hE:mE ops E=true)(hm:P.follows .mixedOrders=true)(hC:C.G=G)(hGL:ab G GL)(kf:Bool)(Kp:AVal->Heap->Prop)(I:X->Env)(J:X->Heap)(plan:DPlan)
  (hB:(Region.noSelect ops&&ng ops plan ops.size (Array.replicate ops.size false) [])=true) (h:Yg P n G GL E Kp kf ops (Fis I J) plan env H) (k:∀x,QQ .normal (I x) (J x)) (kp:∀v h,Kp v h->QQ (.panic v) E h):Dw P C n id ops env H QQ:=by
 simp only[l_] at hB;have hd:=(Q8 hE hGL hB.1 plan _ _ [] env H hB.2 h).1 rfl;refine⟨λR a w hms hfs=> ?_⟩;refine wp_mono (wp_region_held (S:=DS C kf R H) hm (hd C hC R a _ (hms.drawn _) hfs)) ?_;rintro ex a w ⟨x,e,hh,R,hq,hr,hm',hf'⟩;cases x with
 |normal=>
  obtain⟨x0,hs,hj⟩:=hq;exact⟨.normal,I x0,J x0,R,k x0,hr,hm'.drop hj,hf'.sub hs⟩
 |panic v=>
  obtain⟨rfl,hq⟩:=hq;exact⟨.panic v,_,hh,R,kp v hh hq,hr,hm',hf'⟩
 |exit i=>exact hq.elim
 |goto i=>exact hq.elim
 |ret=>exact hq.elim
theorem a7 {X:Type}{C:Ctx}{id:Nat}{QQ:aL->Env->Heap->Prop}(hm:P.follows .mixedOrders=true)(hC:C.G=G)(hGL:ab G GL)(kf:Bool)(I:X->Env)(J:X->Heap)(plan:DPlan)
  (hB:(Region.noSelect ops&&ng ops plan ops.size (Array.replicate ops.size false) [])=true) (h:Yg P n G GL [] (λ_ _=>False) kf ops (Fie I J) plan env H) (k:∀x,QQ .normal (I x) (J x)):Dw P C n id ops env H QQ:=by
 simp only[l_] at hB;have hd:=(Q8 Lo hGL hB.1 plan _ _ [] env H hB.2 h).1 rfl;refine⟨λR a w hms hfs=> ?_⟩;refine wp_mono (wp_region_held (S:=DS C kf R H) hm (hd C hC R a _ (hms.drawn _) hfs)) ?_;rintro ex a w ⟨x,e,h,R,hq,hr,hm',hf'⟩;cases x with
 |normal=>
  obtain⟨x0,hs,hj⟩:=hq;subst hj;exact⟨.normal,I x0,J x0,R,k x0,hr,hm',hf'.sub hs⟩
 |panic v=>exact hq.2.elim
 |exit i=>exact hq.elim
 |goto i=>exact hq.elim
 |ret=>exact hq.elim
end
end
section
open Go
structure Lf (Q:Prop):Prop where
 h:Q
structure Lc (a b:Prop):Prop where
 l:a
 r:b
inductive Le:Prop
 |n
inductive Lz:Prop->Prop
 |n:Lz Le
 |c {a b:Prop}:Lz b->Lz (Lc a b)
theorem Lf.l {a b:Prop}(q:Lf (Lc a b)):a:=q.h.l
theorem Lf.r {a b:Prop}(q:Lf (Lc a b)):Lf b:=⟨q.h.r⟩
structure Ct (I:Env) (J:Heap) (p:Prop) (e:Env) (h:Heap):Prop where
 p:p
 s:Env.sub e I
 j:h=J
theorem Ct.w {I:Env}{J:Heap}{p:Prop}{e:Env}{h:Heap}(hp:p:=by first|exact True.intro|assumption|omega)(hs:Env.sub e I:=by repeat (first|exact trivial|refine And.intro rfl ?_))(hj:h=J:=by rfl):Ct I J p e h:=⟨hp,hs,hj⟩
structure Cy {X:Type} (I:X->Env) (J:X->Heap) (Inv:X->Prop) (e:Env) (h:Heap):Prop where
 h:∃x,Inv x/\Env.sub e (I x)/\h=J x
theorem cy {X:Type}{I:X->Env}{J:X->Heap}{Inv:X->Prop}{e:Env}{h:Heap}(x:X)(hp:Inv x)(hs:Env.sub e (I x):=by repeat (first|exact trivial|refine And.intro rfl ?_))(hj:h=J x:=by rfl):Cy I J Inv e h:=⟨⟨x,hp,hs,hj⟩⟩
section
variable {P:Program} [Tab P] {C:Ctx} {n:Nat} {G:Glo} {GL:List (Nat×List AVal)} {env:Env} {H:Heap} {Q:aL->Env->Heap->Prop}
theorem I5 {f:FuncId}{fn:Func}{c:Code}{avs:List AVal}{Qf:co->Heap->Prop}{rs:List ResultVar}(hf:P.funcs[f]? =some fn)
  (hc:∀args w,(callFunc f args).run P w= .ok (.enter f args) w) (hb:fn.body=some c) (hn:fn.ntmps=n) (hrs:fn.results=rs.toArray) (hlen:Nat.ble avs.length n=true)
  (h:∀C:Ctx,C.G=G->bJ P C n c (fg 0 avs) H (uC P rs Qf)):ad P G f avs H Qf:=
 qk hf hb hc hn hrs hlen λw0 R0 hG=>(h ⟨w0,R0,eR H,G,hG,[]⟩ rfl).mono λ_ _ _ q=>kh q
theorem k7 {f:FuncId}{fn:Func}{c:Code}{avs:List AVal}{Qf:co->Heap->Prop}{rs:List ResultVar}(hf:P.funcs[f]? =some fn)(hc:∀args w,(callFunc f args).run P w= .ok (.enter f args) w)
  (h:∀C:Ctx,C.G=G->ab G []->bJ P C n c (fg 0 avs) H (uC P rs Qf)) (hb:fn.body=some c:=by exact rfl) (hn:fn.ntmps=n:=by exact rfl) (hrs:fn.results=rs.toArray:=by exact rfl) (hlen:Nat.ble avs.length n=true:=by exact rfl):ad P G f avs H Qf:=
 I5 hf hc hb hn hrs hlen λC hC=>h C hC al
theorem ar {c:Code}(hC:C.G=G)(hGL:ab G GL)(h:gV P C n G GL c env H Q):bJ P C n c env H Q:=dg hC hGL _ _ _ _ h
theorem gr {a b:Code}{X:Type}(hC:C.G=G)(hGL:ab G GL)(I:X->Env)(J:X->Heap)(Inv:X->Prop)(h1:gV P C n G GL a env H (iT (λe h=>Cy I J Inv e h) Q))(h2:∀x,Inv x->bJ P C n b (I x) (J x) Q):bJ P C n (.seq a b) env H Q:=
 j7 ((dg hC hGL _ _ _ _ h1).mono λx e h q=>by
  cases x with
  |normal=>
   obtain⟨y,hy,hs,rfl⟩:=q.h;exact RU hs (h2 y hy)
  |exit i=>exact q
  |goto i=>exact q
  |ret=>exact q
  |panic v=>exact q)
theorem cut {a b:Code}(hC:C.G=G)(hGL:ab G GL)(I:Env)(J:Heap)(p:Prop)(h1:gV P C n G GL a env H (iT (λe h=>Ct I J p e h) Q))(h2:p->bJ P C n b I J Q):bJ P C n (.seq a b) env H Q:=
 j7 ((dg hC hGL _ _ _ _ h1).mono λx e h q=>by
  cases x with
  |normal=>
   obtain⟨hp,hs,rfl⟩:=q;exact RU hs (h2 hp)
  |exit i=>exact q
  |goto i=>exact q
  |ret=>exact q
  |panic v=>exact q)
end
theorem bq {P:Prop}(h:P:=by
  repeat' (first
   |(conv=>whnf);first
    |refine .w ?_|refine .v ?_|apply jp|apply eu
    |(first|apply rT|apply nJ|apply rU|apply nL|apply nK|apply li|apply nI|apply lh)<;>(intro wb;try exact dd wb)
    |apply aT|apply bP|(apply cR<;>intro wb)
    |(apply cX;intro wb)|(apply lr;assumption;exact rfl)
    |(apply bG;first|assumption|(apply k1<;>omega)|(apply k2<;>omega)|(apply k3<;>omega))|(apply aV (i:=0) rfl;assumption)|(apply aV (i:=1) rfl;assumption)|(apply aV (i:=2) rfl;assumption)
    |(apply cY;intro wl)|(apply dv;intro wa wk wc wh)|(apply du;intro wv)|(apply dw;intro wl wq wb)
    |apply dP|(apply dq<;>intro wb)|(apply Ia.hit;assumption)|(apply Ia.miss;assumption)
    |(apply aj;exact rfl)|(show Rt _ _ _;exact cP)|(show Ct _ _ _ _ _;exact Ct.w)|(apply iv;assumption)
    |exact True.intro|(apply pB;intro wC whC)|apply pz|apply oY|(apply oZ;exact rfl)|apply ef mixed whC hGL be|apply ef mixed hC hGL be|(apply cq;assumption;(first|assumption|(apply k1<;>omega)|(apply k2<;>omega));exact rfl))
  all_goals (try conv=>whnf)):P:=h
theorem aH {P Q:Prop}(hQ:Q)(h:Lf Q->P:=by
  intro ww;repeat' (first
   |(conv=>whnf);first
    |refine .w ?_|refine .v ?_|apply jp|apply eu
    |(first|apply rT|apply nJ|apply rU|apply nL|apply nK|apply li|apply nI|apply lh)<;>(intro wb;try exact dd wb)
    |apply aT|apply bP|(apply cR<;>intro wb)
    |(apply cX;intro wb)|(apply lr;assumption;exact rfl)
    |(apply bG;first|assumption|(apply k1<;>omega)|(apply k2<;>omega)|(apply k3<;>omega))|(apply aV (i:=0) rfl;assumption)|(apply aV (i:=1) rfl;assumption)|(apply aV (i:=2) rfl;assumption)
    |(apply cY;intro wl)|(apply dv;intro wa wk wc wh)|(apply du;intro wv)|(apply dw;intro wl wq wb)
    |apply dP|(apply dq<;>intro wb)|(apply Ia.hit;assumption)|(apply Ia.miss;assumption)
    |(apply aj;exact rfl)|(show Rt _ _ _;exact cP)|(show Ct _ _ _ _ _;exact Ct.w)|(apply iv;assumption)
    |exact True.intro|(apply pB;intro wC whC)|apply pz|apply oY|(apply oZ;exact rfl)|apply ef mixed whC hGL be|apply ef mixed hC hGL be|(apply cq;assumption;(first|assumption|(apply k1<;>omega)|(apply k2<;>omega));exact rfl))
  all_goals (try conv=>whnf)
  all_goals (repeat (first|revert wb|revert wh|revert wc|revert wk|revert wa|revert wq|revert wl|revert wv|revert whC|revert wC))
  all_goals (apply Lf.h;apply ww)):P:=h ⟨hQ⟩
theorem xw {P Q:Prop}(hQ:Q)(h:Lf Q->P:=by
  intro ww;repeat' (first
   |(conv=>whnf);first
    |refine .w ?_|refine .v ?_|apply jp|apply eu
    |(first|apply rT|apply nJ|apply rU|apply nL|apply nK|apply li|apply nI|apply lh)<;>(intro wb;try exact dd wb)
    |apply aT|apply bP|(apply cR<;>intro wb)
    |(apply cX;intro wb)|(apply lr;assumption;exact rfl)
    |(apply bG;first|assumption|(apply k1<;>omega)|(apply k2<;>omega)|(apply k3<;>omega))|(apply aV (i:=0) rfl;assumption)|(apply aV (i:=1) rfl;assumption)|(apply aV (i:=2) rfl;assumption)
    |(apply cY;intro wl)|(apply dv;intro wa wk wc wh)|(apply du;intro wv)|(apply dw;intro wl wq wb)
    |apply dP|(apply dq<;>intro wb)|(apply Ia.hit;assumption)|(apply Ia.miss;assumption)
    |(apply aj;exact rfl)|(show Rt _ _ _;exact cP)|(show Ct _ _ _ _ _;exact Ct.w)|(apply iv;assumption)
    |exact True.intro|(apply pB;intro wC whC)|apply pz|apply oY|(apply oZ;exact rfl)|apply ef mixed whC hGL be|apply ef mixed hC hGL be|(apply cq;assumption;(first|assumption|(apply k1<;>omega)|(apply k2<;>omega));exact rfl))
  all_goals (try conv=>whnf)
  all_goals (repeat (first|revert wb|revert wh|revert wc|revert wk|revert wa|revert wq|revert wl|revert wv|revert whC|revert wC))
  all_goals (apply Lf.l;with_reducible (repeat (first|apply ww|apply Lf.r)))) (e:Lz Q:=by repeat (first|exact Lz.n|apply Lz.c)):P:=h ⟨hQ⟩
theorem eK {P:Prop}(h:P:=by
  repeat' (first
   |(conv=>whnf);first
    |refine .w ?_|refine .v ?_|apply jp|apply eu
    |(first|apply rT|apply nJ|apply rU|apply nL|apply nK|apply li|apply nI|apply lh)<;>(intro wb;try exact dd wb)
    |apply aT|apply bP|(apply cR<;>intro wb)
    |(apply cX;intro wb)|(apply lr;assumption;exact rfl)
    |(apply bG;first|assumption|(apply k1<;>omega)|(apply k2<;>omega)|(apply k3<;>omega))|(apply aV (i:=0) rfl;assumption)|(apply aV (i:=1) rfl;assumption)|(apply aV (i:=2) rfl;assumption)
    |(apply cY;intro wl)|(apply dv;intro wa wk wc wh)|(apply du;intro wv)|(apply dw;intro wl wq wb)
    |apply dP|(apply dq<;>intro wb)|(apply Ia.hit;assumption)|(apply Ia.miss;assumption)
    |(apply aj;exact rfl)|(show Rt _ _ _;exact cP)|(show Ct _ _ _ _ _;exact Ct.w)|(apply iv;assumption)
    |exact True.intro|(apply pB;intro wC whC)|apply pz|apply oY|(apply oZ;exact rfl))
  all_goals (try conv=>whnf)):P:=h
theorem an {P Q:Prop}(hQ:Q)(h:Lf Q->P:=by
  intro ww;repeat' (first
   |(conv=>whnf);first
    |refine .w ?_|refine .v ?_|apply jp|apply eu
    |(first|apply rT|apply nJ|apply rU|apply nL|apply nK|apply li|apply nI|apply lh)<;>(intro wb;try exact dd wb)
    |apply aT|apply bP|(apply cR<;>intro wb)
    |(apply cX;intro wb)|(apply lr;assumption;exact rfl)
    |(apply bG;first|assumption|(apply k1<;>omega)|(apply k2<;>omega)|(apply k3<;>omega))|(apply aV (i:=0) rfl;assumption)|(apply aV (i:=1) rfl;assumption)|(apply aV (i:=2) rfl;assumption)
    |(apply cY;intro wl)|(apply dv;intro wa wk wc wh)|(apply du;intro wv)|(apply dw;intro wl wq wb)
    |apply dP|(apply dq<;>intro wb)|(apply Ia.hit;assumption)|(apply Ia.miss;assumption)
    |(apply aj;exact rfl)|(show Rt _ _ _;exact cP)|(show Ct _ _ _ _ _;exact Ct.w)|(apply iv;assumption)
    |exact True.intro|(apply pB;intro wC whC)|apply pz|apply oY|(apply oZ;exact rfl))
  all_goals (try conv=>whnf)
  all_goals (repeat (first|revert wb|revert wh|revert wc|revert wk|revert wa|revert wq|revert wl|revert wv|revert whC|revert wC))
  all_goals (apply Lf.h;apply ww)):P:=h ⟨hQ⟩
theorem xn {P Q:Prop}(hQ:Q)(h:Lf Q->P:=by
  intro ww;repeat' (first
   |(conv=>whnf);first
    |refine .w ?_|refine .v ?_|apply jp|apply eu
    |(first|apply rT|apply nJ|apply rU|apply nL|apply nK|apply li|apply nI|apply lh)<;>(intro wb;try exact dd wb)
    |apply aT|apply bP|(apply cR<;>intro wb)
    |(apply cX;intro wb)|(apply lr;assumption;exact rfl)
    |(apply bG;first|assumption|(apply k1<;>omega)|(apply k2<;>omega)|(apply k3<;>omega))|(apply aV (i:=0) rfl;assumption)|(apply aV (i:=1) rfl;assumption)|(apply aV (i:=2) rfl;assumption)
    |(apply cY;intro wl)|(apply dv;intro wa wk wc wh)|(apply du;intro wv)|(apply dw;intro wl wq wb)
    |apply dP|(apply dq<;>intro wb)|(apply Ia.hit;assumption)|(apply Ia.miss;assumption)
    |(apply aj;exact rfl)|(show Rt _ _ _;exact cP)|(show Ct _ _ _ _ _;exact Ct.w)|(apply iv;assumption)
    |exact True.intro|(apply pB;intro wC whC)|apply pz|apply oY|(apply oZ;exact rfl))
  all_goals (try conv=>whnf)
  all_goals (repeat (first|revert wb|revert wh|revert wc|revert wk|revert wa|revert wq|revert wl|revert wv|revert whC|revert wC))
  all_goals (apply Lf.l;with_reducible (repeat (first|apply ww|apply Lf.r)))) (e:Lz Q:=by repeat (first|exact Lz.n|apply Lz.c)):P:=h ⟨hQ⟩
theorem Sg {P Q:Prop}(hQ:Q)(h:Lf Q->P:=by
  intro ww;repeat' (first
   |(conv=>whnf);first
    |refine .w ?_|refine .v ?_|apply jp|apply eu
    |(first|apply rT|apply nJ|apply rU|apply nL|apply nK|apply li|apply nI|apply lh)<;>(intro wb;try exact dd wb)
    |apply aT|apply bP|(apply cR<;>intro wb)
    |(apply cX;intro wb)|(apply lr;assumption;exact rfl)
    |(apply bG;first|assumption|(apply k1<;>omega)|(apply k2<;>omega)|(apply k3<;>omega))|(apply aV (i:=0) rfl;assumption)|(apply aV (i:=1) rfl;assumption)|(apply aV (i:=2) rfl;assumption)
    |(apply cY;intro wl)|(apply dv;intro wa wk wc wh)|(apply du;intro wv)|(apply dw;intro wl wq wb)
    |apply XQ|(apply dq<;>intro wb)|(apply Ia.hit;assumption)|(apply Ia.miss;assumption)
    |(apply aj;exact rfl)|(show Rt _ _ _;exact cP)|(show Ct _ _ _ _ _;exact Ct.w)|(apply iv;assumption)
    |exact True.intro|(apply pB;intro wC whC)|apply pz|apply oY|(apply oZ;exact rfl))
  all_goals (try conv=>whnf)
  all_goals (repeat (first|revert wb|revert wh|revert wc|revert wk|revert wa|revert wq|revert wl|revert wv|revert whC|revert wC))
  all_goals (apply Lf.h;apply ww)):P:=h ⟨hQ⟩
theorem xb {P Q:Prop}(hQ:Q)(h:Lf Q->P:=by
  intro ww;repeat' (first
   |(conv=>whnf);first
    |refine .w ?_|refine .v ?_|apply jp|apply eu
    |(first|apply rT|apply nJ|apply rU|apply nL|apply nK|apply li|apply nI|apply lh)<;>(intro wb;try exact dd wb)
    |apply aT|apply bP|(apply cR<;>intro wb)
    |(apply cX;intro wb)|(apply lr;assumption;exact rfl)
    |(apply bG;first|assumption|(apply k1<;>omega)|(apply k2<;>omega)|(apply k3<;>omega))|(apply aV (i:=0) rfl;assumption)|(apply aV (i:=1) rfl;assumption)|(apply aV (i:=2) rfl;assumption)
    |(apply cY;intro wl)|(apply dv;intro wa wk wc wh)|(apply du;intro wv)|(apply dw;intro wl wq wb)
    |apply XQ|(apply dq<;>intro wb)|(apply Ia.hit;assumption)|(apply Ia.miss;assumption)
    |(apply aj;exact rfl)|(show Rt _ _ _;exact cP)|(show Ct _ _ _ _ _;exact Ct.w)|(apply iv;assumption)
    |exact True.intro|(apply pB;intro wC whC)|apply pz|apply oY|(apply oZ;exact rfl))
  all_goals (try conv=>whnf)
  all_goals (repeat (first|revert wb|revert wh|revert wc|revert wk|revert wa|revert wq|revert wl|revert wv|revert whC|revert wC))
  all_goals (apply Lf.l;with_reducible (repeat (first|apply ww|apply Lf.r)))) (e:Lz Q:=by repeat (first|exact Lz.n|apply Lz.c)):P:=h ⟨hQ⟩
theorem xu {P:Prop}(h:P:=by
  refine xn ?_;repeat' first|exact .n|apply Lc.mk
  all_goals intros
  all_goals first|exact⟨(),ae,rfl⟩|exact⟨(),ae,aA⟩|exact⟨_,ae,rfl⟩|exact⟨(_,_,_),ae,rfl⟩):P:=h
end
end Go.Proofs.YtgpjhbhdbjdlgaaGreatDoor
