/- Parts of the proof of streamCards_card. -/
import Derived.Lib.Builder
import Derived.Lib.UnsafeStr
import Derived.Scope
import Derived.Lib.IndexAny
import Derived.Test.YtgpjhbhdbjdlgaaGreatDoorBai
import Derived.Test.YtgpjhbhdbjdlgaaGreatDoorBah
set_option linter.unusedVariables false
set_option linter.unusedSimpArgs false
set_option linter.unusedSectionVars false
namespace Go.Proofs.YtgpjhbhdbjdlgaaGreatDoor
open Go Go.RowKit
open Tryz
set_option maxRecDepth 20000
set_option maxHeartbeats 4000000
section
def eO (n:Int):ω:=cf [48+n/10,48+n%10]
def wo (n:Int):Bool:=decide (-840<=n/\n<=840)
theorem wn {n:Int}:wo n=true↔(-840<=n/\n<=840):=by simp[wo]
theorem U2 {n:Int}:wo n=false↔¬(-840<=n/\n<=840):=by simp[wo]
def kJ (n:Int):ω:=if wo n then(if n=0 then[90] else if n<0 then([45]++eO ((0-n)/60))++eO ((0-n)%60) else([43]++eO (n/60))++eO (n%60)) else[]
def mI (n:Int):Err:=if wo n then .none else .errno 2
attribute [local irreducible] bJ au aa ax aR ab ad wo
theorem qV {G:Glo}(n:Int):ai prog G 167 [.int .i64 n] (.bool (wo n)):=by
 refine aw func167 call167 λC hC hGL=> ?_;refine xw ?_;repeat' first|exact .n|apply Lc.mk
 all_goals intros
 all_goals (apply aj;refine congrArg AVal.bool ?_;rw[w_];simp only[wn,reduceCtorEq,false_iff,true_iff,Bool.not_eq_true',o8];omega)
theorem ka {G:Glo}(n:Int):ai prog G 138 [.int .i64 n] (.bool (wo n)):=by
 refine aw func138 call138 λC hC hGL=> ?_;have hw:=fN (G:=G) n (-840) 840;refine aH ?_;intros;apply aj;refine congrArg AVal.bool ?_;rw[w_,wn];simp
theorem NY {G:Glo}(n:Int)(h0:0<=n)(h1:n<100):ai prog G 233 [.int .i64 n] (.str (eO n)):=by
 refine aw func233 call233 λC hC hGL=> ?_;refine aH ?_;intros;refine aY hC hGL (gv [_,_] rfl (by intro v hv;simp only[p_,t_,or_false] at hv;omega) rfl rfl rfl rfl rfl rfl) rfl rfl ?_;exact bq
theorem kj (n:Int):(eO n).length=2:=rfl
attribute [local irreducible] eO
theorem wr {G:Glo}(n:Int):ai prog G 211 [.int .i64 n] (.tuple [.str (kJ n),(mI n).A]):=by
 refine aw func211 call211 λC hC hGL=> ?_;have h1:=qV (G:=G) n;have k2:=λk h0 h1=>NY (G:=G) k h0 h1;have l1:=kj ((0-n)/60);have l2:=kj ((0-n)%60)
 have l3:=kj (n/60)
 have l4:=kj (n%60)
 cases hz:wo n with
 |false=>
  rw[hz] at h1
  refine aH ?_
  intros
  apply aj
  rw[kJ,mI,hz]
  rfl
 |true=>
  rw[hz] at h1
  have hz2:=wn.1 hz
  refine xw ?_
  repeat' first|exact .n|apply Lc.mk
  all_goals intros
  ·apply aj
   rw[kJ,mI,hz,if_pos rfl,if_pos a_]
   rfl
  ·apply aj
   rw[kJ,mI,hz,if_pos rfl,if_neg a_,if_pos a_]
   rfl
  ·apply aj
   rw[kJ,mI,hz,if_pos rfl,if_neg a_,if_neg a_]
   rfl
theorem vx {G:Glo}(i:Nat)(hi:i<100):ai prog G 245 [.int .i64 (i:Int),.int .i64 10] (.str (Lib.decDigits i)):=by
 refine bO rfl call245 ?_;intro R args hr w _ _;obtain⟨x,t,e,hx,y,t',e',hy,rfl⟩:=hr;have hx:=ap.1 hx;have hy:=ap.1 hy;subst hx hy;obtain rfl:args=#[.int .i64 (i:Int),.int .i64 10]:=by cases args;simp_all
 refine(strconv_FormatInt_10_small i hi w).mono ?_;rintro e w' ⟨rfl,rfl⟩;exact⟨rfl,Below.refl _ _⟩
theorem mP {i:Nat}(h:i<10):Lib.decDigits i=[UInt8.ofNat (48+i)]:=by
 rw[Lib.decDigits,dif_pos h]
theorem mO {i:Nat}(h:10<=i)(h1:i<100):Lib.decDigits i=[UInt8.ofNat (48+i/10),UInt8.ofNat (48+i%10)]:=by
 rw[Lib.decDigits,dif_neg a_,mP a_];rfl
theorem Ov (i:Nat):eO (i:Int)=[UInt8.ofNat (48+i/10),UInt8.ofNat (48+i%10)]:=by
 unfold eO cf;simp only[List.map];rw[show(48+(i:Int)/10).toNat=48+i/10 by omega,show(48+(i:Int)%10).toNat=48+i%10 by omega]
theorem oS {G:Glo}(i:Nat)(h1:i<100):ai prog G 229 [.int .i64 (i:Int),.int .i64 10,.int .i64 2] (.str (eO i)):=by
 refine aw func229 call229 λC hC hGL=> ?_;have hf:=vx (G:=G) i h1;rw[Ov];by_cases h:i<10
 ·rw[mP h] at hf;refine aH ?_;intros;refine rds hC hGL 2 ?_;refine aH ?_;intros;apply aj;rw[show i/10=0 by omega,show i%10=i by omega];rfl
 ·rw[mO a_ h1] at hf;refine aH ?_;intros;refine rds hC hGL 1 ?_;exact bq
theorem qI {G:Glo}(n:Int):ai prog G 194 [.int .i64 n] (.tuple [.str (kJ n),.int .i64 (mI n).e]):=by
 refine aw func194 call194 λC hC hGL=> ?_;have h1:=ka (G:=G) n;have k2:=λ(k:Int) (h0:0<=k) (h1:k<100)=>(show ai prog G 229 [.int .i64 k,.int .i64 10,.int .i64 2] (.str (eO k)) by obtain⟨i,rfl⟩:=Int.eq_ofNat_of_zero_le h0;exact oS i a_);have l1:=kj ((0-n)/60);have l2:=kj ((0-n)%60);have l3:=kj (n/60);have l4:=kj (n%60);cases hz:wo n with
 |false=>
  rw[hz] at h1;refine aH ?_;intros;apply aj;rw[kJ,mI,hz];rfl
 |true=>
  rw[hz] at h1;have hz2:=wn.1 hz;refine xw ?_;repeat' first|exact .n|apply Lc.mk
  all_goals intros
  ·apply aj;rw[kJ,mI,hz,if_pos rfl,if_pos a_];rfl
  ·apply aj;rw[kJ,mI,hz,if_pos rfl,if_neg a_,if_pos a_];rfl
  ·apply aj;rw[kJ,mI,hz,if_pos rfl,if_neg a_,if_neg a_];rfl
end
section
def aZ (n:Int):Bool:=decide (n≠ -1)
theorem oG {n:Int}:aZ n=true↔n≠ -1:=by simp[aZ]
theorem Oz {n:Int}:aZ n=false↔n= -1:=by simp[aZ]
def Yf (b:Bool):UInt8:=if b then 57 else 45
def zl (a b c:Bool):ω:=[Yf a,Yf b,Yf c]
def nA:Bool->Bool->Bool->Int
 |false,false,false=>0
 |true,false,false=>1
 |true,true,false=>2
 |true,true,true=>3
 |false,true,false=>4
 |false,true,true=>5
 |false,false,true=>6
 |true,false,true=> -1
def vB (y m:Int):Int:=
 if m<1\/12<m then 0
 else if m=2 then(if y≠ -1/\(y.tmod 4≠0\/y.tmod 100=0/\y.tmod 400≠0) then 28 else 29)
 else if m=4\/m=6\/m=9\/m=11 then 30 else 31
def fM (n lo hi:Int):Bool:=decide (n= -1\/lo<=n/\n<=hi)
theorem wD {n lo hi:Int}:fM n lo hi=true↔(n= -1\/lo<=n/\n<=hi):=by simp[fM]
theorem VQ {n lo hi:Int}:fM n lo hi=false↔¬(n= -1\/lo<=n/\n<=hi):=by simp[fM]
structure Stm where
 y:Int
 m:Int
 d:Int
 h:Int
 i:Int
 s:Int
 z:Bool
 o:Int
def Stm.A (t:Stm):AVal:=.agg [.int .i64 t.y,.int .i64 t.m,.int .i64 t.d,.int .i64 t.h,.int .i64 t.i,.int .i64 t.s,.bool t.z,.int .i64 t.o]
def WI (d t:Int):Bool:=decide (0<=d/\0<=t/\¬(d=0/\t=0)/\(0<d/\0<t->(d=3\/d=5\/d=6)/\t<=3))
def Stm.dn (t:Stm):Int:=nA (aZ t.y) (aZ t.m) (aZ t.d)
def Stm.tn (t:Stm):Int:=nA (aZ t.h) (aZ t.i) (aZ t.s)
def Stm.frm (t:Stm):Bool:=WI t.dn t.tn&&(if t.z then aZ t.h else decide (t.o=0))
def Stm.day (t:Stm):Int:=if t.m= -1 then 31 else vB t.y t.m
def Stm.rng (t:Stm):Bool:=fM t.y 0 9999&&(fM t.m 1 12&&(fM t.d 1 t.day&&(fM t.h 0 23&&(fM t.i 0 59&&(fM t.s 0 59&&wo t.o)))))
def Stm.e (t:Stm):Int:=if t.frm then(if t.rng then 0 else 2) else 3
def Stm.E (t:Stm):Err:=if t.frm then(if t.rng then .none else .errno 2) else .errno 3
theorem Stm.E_e (t:Stm):t.E.e=t.e:=by unfold Stm.E Stm.e;(repeat' split)<;>rfl
theorem Stm.E_p (t:Stm):t.E.p= -1:=by unfold Stm.E;(repeat' split)<;>rfl
def k6 (n:Int):ω:=cf [48+n/1000,48+n/100%10,48+n/10%10,48+n%10]
def qR (a b c:Bool)(y m d:Int):ω:=match a,b,c with
 |true,false,false=>k6 y
 |true,true,false=>(k6 y++[45])++eO m
 |true,true,true=>(k6 y++eO m)++eO d
 |false,true,false=>[45,45]++eO m
 |false,true,true=>([45,45]++eO m)++eO d
 |false,false,true=>[45,45,45]++eO d
 |_,_,_=>[]
def oH (a b c:Bool)(h m s:Int):ω:=match a,b,c with
 |true,false,false=>[84]++eO h
 |true,true,false=>([84]++eO h)++eO m
 |true,true,true=>(([84]++eO h)++eO m)++eO s
 |false,true,false=>([84]++[45])++eO m
 |false,true,true=>(([84]++[45])++eO m)++eO s
 |false,false,true=>(([84]++[45])++[45])++eO s
 |_,_,_=>[]
def Stm.txt (t:Stm):ω:=qR (aZ t.y) (aZ t.m) (aZ t.d) t.y t.m t.d++oH (aZ t.h) (aZ t.i) (aZ t.s) t.h t.i t.s++(if t.z then kJ t.o else[])
def Stm.T (t:Stm):ω:=if t.frm then(if t.rng then t.txt else[]) else[]
def jK:ω->ω->ω
 |[],_=>[]
 |c::r,all=>if c=57 then(match all with|x::t=>x::jK r t|[]=>[]) else c::jK r all
end
section
theorem AA {c:UInt8}:∀{s:ω},c∉s->bW c s=[s]
 |[],_=>rfl
 |x::t,h=>by
  simp only[p_,not_or] at h;rw[bW,if_neg (Ne.symm h.1),AA h.2]
theorem wX {c:UInt8}:∀{u:ω} {v:ω},c∉u->∃p ps,bW c v=p::ps/\bW c (u++v)=(u++p)::ps
 |[],v,_=>by
  cases h:bW c v with
  |nil=>exact absurd h (pO c v)
  |cons p ps=>exact⟨p,ps,rfl,h⟩
 |x::u,v,h=>by
  simp only[p_,not_or] at h;obtain⟨p,ps,h1,h2⟩:=wX (v:=v) h.2;refine⟨p,ps,h1,?_⟩;rw[Lu,bW,if_neg (Ne.symm h.1),h2];rfl
theorem OU {c:UInt8}{u v:ω}(h:c∉u):bW c (u++c::v)=u::bW c v:=by
 obtain⟨p,ps,h1,h2⟩:=wX (v:=c::v) h;rw[bW,if_pos rfl] at h1;cases h1;rw[h2,Dc]
end
section
attribute [local irreducible] bJ au aa ax aR ab ad
abbrev db (b:Nat):Value:=.pointer (some ⟨b,0,none⟩)
abbrev cm (b:Nat)(p:Value)(j:Nat)(v:Value):HEnt:=.cells b (some 135) [.raw p,.own j v]
abbrev fH (v:Value)(s:ω):HEnt:=.row v (some 5) 1 s.length (gi s)
theorem sF {P:Program}[Tab P]{G:Glo}{GL:List (Nat×List AVal)}{n:Nat}{H:Heap}{v:Value}(i:Nat){f:FuncId}{fn:Func}{c:Code}{avs:List AVal}{Qf:co->Heap->Prop}{rs:List ResultVar}(hf:P.funcs[f]? =some fn)
  (hc:∀args w,(callFunc f args).run P w= .ok (.enter f args) w) (hb:fn.body=some c) (hn:fn.ntmps=n) (hrs:fn.results=rs.toArray) (hlen:Nat.ble (AVal.raw v::avs).length n=true) (hGL:ab G GL) (hv:dc v=false)
  (h:∀C:Ctx,C.G=G->gV P C n G GL c ((0,.own i v)::fg 0 (.raw v::avs)) H (uC P rs Qf)):ad P G f (.raw v::avs) H Qf:=
 qk hf hb hc hn hrs hlen λw0 R0 hG=>(xR (C:=⟨w0,R0,eR H,G,hG,[]⟩) (k:=0) i rfl hGL hv rfl (h ⟨w0,R0,eR H,G,hG,[]⟩ rfl)).mono λ_ _ _ q=>kh q
theorem tR {G:Glo}(b:Nat):ai prog G 178 [.raw (db b)] (.raw (db b)):=by
 refine ea func178 be be be (e:=Go.Extern.AbiNoEscape.same) be ?_;rintro R args ⟨x,t,e,h1,h2⟩ w;obtain rfl:t=[]:=h2;obtain⟨l⟩:=args;obtain rfl:l=[x]:=e;exact⟨x,rfl,h1⟩
theorem Fu {C:Ctx}{R:Seal}{H:Heap}{w:World}(hm:MS C R H w){i b:Nat}{e:TypeId}{cs:List AVal}(hi:H[i]? =some (.cells b (some e) cs)):w.shape? b=some (e,cs.length):=by
 obtain⟨Cs,el,fz,hb,hl,_,ht⟩:=lB hm hi;have:=aJ hl;simp only[r_] at this;simp[World.shape?,hb,this,ht e rfl]
section
variable {C:Ctx} {H:Heap} {env:Env} {x y:Operand} {i j b:Nat} {c0 c1:AVal}
theorem S8 (hx:ah env x=some (.own i (db b)))(hi:H[j]? =some (.cells b (some 135) [c0,c1])):bE prog C H env (.convert 133 198 x) (.own i (db b)):=by
 intro R ρ w hm hf dst t p af g;refine⟨db b,?_,aE.2 ⟨rfl,rfl⟩⟩;obtain⟨ie,hie,hs1,_⟩:=ii (P:=prog) (t:=135) rfl;have hr:=Lib.run_to_unsafe (P:=prog) w (src:=133) (dst:=198) (t:=135) (j:=ie) ⟨b,0,none⟩ underlying133 underlying198 hie (by rw[hs1];exact Nat.succ_ne_zero _) (Fu hm hi) (Nat.zero_lt_succ _);simp only[execOp,(aE.1 (hf _ _ hx)).1,e_,hr,c_,h_]
theorem Ta (hx:ah env x=some (.raw (db b)))(hi:H[j]? =some (.cells b (some 135) [c0,c1])):bE prog C H env (.convert 198 133 x) (.raw (db b)):=by
 intro R ρ w hm hf dst t p af g;refine⟨db b,?_,aq.2 rfl⟩;obtain⟨ie,hie,hs1,_⟩:=ii (P:=prog) (t:=135) rfl;have hr:=Lib.run_from_unsafe (P:=prog) w (src:=198) (dst:=133) (u:=135) (j:=ie) ⟨b,0,none⟩ underlying198 underlying133 hie (Fu hm hi) be;simp only[execOp,aq.1 (hf _ _ hx),e_,hr,c_,h_]
theorem O2 (hx:ah env x=some (.raw (db b)))(hy:ah env y=some (.own i (db b))):bE prog C H env (.binOp .neq 133 x y 133) (.bool false):=by
 intro R ρ w hm hf dst t p af g;refine⟨.bool false,?_,aO.2 rfl⟩;obtain⟨ie,hie,hs1,_⟩:=ii (P:=prog) (t:=135) rfl;have hr:=Lib.run_neq_ptr_same (P:=prog) w (tp:=133) (te:=135) (j:=ie) ⟨b,0,none⟩ underlying133 hie;have hg:(eqGuard BinOp.neq 133 x y (db b) (db b)).run prog w= .ok () w:=rfl;simp only[execOp,aq.1 (hf _ _ hx),(aE.1 (hf _ _ hy)).1,e_,hg,hr,c_,h_]
end
theorem Ae {G:Glo}(b:Nat)(j:Nat)(v:Value):ad prog G 124 [.raw (db b)] [cm b (.pointer none) j v] (λr H=>r= .ret (.tuple [])/\H=[cm b (db b) j v]):=by
 have hGL:ab G []:=al;refine sF 0 func124 call124 rfl rfl rfl rfl hGL rfl ?_;intro C hC;refine aH ?_;intros;refine aY hC hGL (S8 (j:=0) rfl rfl) rfl rfl ?_;repeat' (first|(conv=>whnf);first|refine .w ?_|refine .v ?_|refine ez ?_ ?_<;>(intro hb;try exact dd hb)|apply aT|apply bP|(apply cR<;>intro hb)|(apply cX;intro hbd)|(apply bG;exact tR _)|(apply aV (i:=0) rfl;exact tR _)|(apply cY;intro bl)|(apply dv;intro va vk vc hva)|(apply du;intro v)|(apply dw;intro bl cap hcap)|apply dP|(apply dq<;>intro hnx)|apply ef mixed hC hGL be|(apply cq;assumption;exact tR _;exact rfl)|(show Rt _ _ _;exact cP)|fail)
 all_goals try conv=>whnf
 refine aY hC hGL (Ta (j:=0) rfl rfl) rfl rfl ?_;exact bq
theorem Ad {G:Glo}(b:Nat)(j:Nat)(v:Value):ad prog G 124 [.raw (db b)] [cm b (db b) j v] (λr H=>r= .ret (.tuple [])/\H=[cm b (db b) j v]):=by
 have hGL:ab G []:=al;refine sF 0 func124 call124 rfl rfl rfl rfl hGL rfl ?_;intro C hC;refine aH ?_;intros;refine aY hC hGL (O2 rfl rfl) rfl rfl ?_;exact bq
def zk (b:Nat)(p:Value):Prop:=p= .pointer none\/p=db b
theorem gd {G:Glo}{b:Nat}{p:Value}(hp:zk b p)(j:Nat)(v:Value):ad prog G 124 [.raw (db b)] [cm b p j v] (λr H=>r= .ret (.tuple [])/\H=[cm b (db b) j v]):=by
 rcases hp with rfl|rfl
 ·exact Ae b j v
 ·exact Ad b j v
theorem GT (v:Value)(s t:ω):HEnt.row v (some 5) 1 (s.length+t.length) (gi s++gi t)=fH v (s++t):=by
 simp only[fH,gi,d_,Nm]
theorem wK {H:Heap}{i j:Nat}{x0 y0:HEnt}(hne:i≠j)(hi:H[i]? =some x0)(hj:H[j]? =some y0):∃rest:Heap,H.Perm ([x0,y0]++rest)/\∀x y,((H.set i x).set j y).Perm ([x,y]++rest):=by
 have key:∃rest:Heap,∀x y,((H.set i x).set j y).Perm ([x,y]++rest):=by
  rcases Nat.lt_or_gt_of_ne hne with h|h
  ·refine⟨(H.eraseIdx j).eraseIdx i,λx y=> ?_⟩;have h1:=kq (H:=H.set i x) (i:=j) (x:=y0) y (by rw[M_ a_];exact hj);rw[List.eraseIdx_set_gt h] at h1;have h2:=kq (H:=H.eraseIdx j) (i:=i) (x:=x0) x (by rw[List.getElem?_eraseIdx_of_lt h];exact hi);refine h1.symm.trans ?_
   refine(List.Perm.append_left [y] h2.symm).trans ?_
   exact List.Perm.swap x y _
  ·refine⟨(H.eraseIdx j).eraseIdx (i-1),λx y=> ?_⟩
   have h1:=kq (H:=H.set i x) (i:=j) (x:=y0) y (by rw[M_ a_];exact hj)
   rw[List.eraseIdx_set_lt h] at h1
   have h2:=kq (H:=H.eraseIdx j) (i:=i-1) (x:=x0) x (by rw[List.getElem?_eraseIdx_of_ge a_,show i-1+1=i by omega];exact hi)
   refine h1.symm.trans ?_
   refine(List.Perm.append_left [y] h2.symm).trans ?_
   exact List.Perm.swap x y _
 obtain⟨rest,h⟩:=key
 refine⟨rest,?_,h⟩
 have:=h x0 y0
 have e1:H.set i x0=H:=by
  obtain⟨hl,he⟩:=List.getElem?_eq_some_iff.1 hi
  rw[<-he];exact List.set_getElem_self hl
 have e2:H.set j y0=H:=by
  obtain⟨hl,he⟩:=List.getElem?_eq_some_iff.1 hj
  rw[<-he];exact List.set_getElem_self hl
 rw[e1,e2] at this
 exact this
theorem CR {C:Ctx}{R:Seal}{H:Heap}{w:World}{b j:Nat}{p v:Value}(k:Nat)(h:MS C R (cm b p j v::H) w):MS C R (cm b p k v::H) w:=
 h.swap (i:=0) (x:=cm b p j v) (y:=cm b p k v) rfl rfl (h.heap.holds (cm b p j v) z_)
theorem vX {P:Program}{G:Glo}{f:FuncId}{avs:List AVal}{H H0:Heap}{Qf Qf':co->Heap->Prop}(hb:∀k,k∈eR H↔k∈eR H0)(hpre:∀C R w,MS C R H0 w->MS C R H w)(h:ad P G f avs H Qf)
  (hq:∀r H',Qf r H'->∃H'',Qf' r H''/\∀C R w,MS C R H' w->MS C R H'' w):ad P G f avs H0 Qf':=by
 unfold ad at h ⊢;intro R w args hG hm ha;rcases h R w args hG ((hpre _ _ _ hm).blks_iff λk=>(hb k).symm) ha with⟨h1,h2⟩|⟨v,w',h1,res,H',R',q,er,hm'⟩
 ·exact .inl ⟨h1,h2.mono λe w' ⟨res,H',R',q,er,hm'⟩=>let ⟨H'',q',hc⟩:=hq _ _ q;⟨res,H'',R',q',er,hc _ _ _ (hm'.blks_iff hb)⟩⟩
 ·obtain⟨H'',q',hc⟩:=hq _ _ q;exact .inr ⟨v,w',h1,res,H'',R',q',er,hc _ _ _ (hm'.blks_iff hb)⟩
theorem Dg {P:Program}{G:Glo}{f:FuncId}{avs:List AVal}{b j k:Nat}{p v:Value}{H:Heap}{Qf Qf':co->Heap->Prop}(h:ad P G f avs (cm b p k v::H) Qf)
  (hq:∀r H',Qf r H'->∃H'',Qf' r H''/\∀C R w,MS C R H' w->MS C R H'' w):ad P G f avs (cm b p j v::H) Qf':=
 vX (H:=cm b p k v::H) (H0:=cm b p j v::H) (λ_=>Iff.rfl) (λ_ _ _ h=>CR k h) h hq
abbrev iK:HEnt:=.row (.slice none 0 0) none 1 0 []
theorem MS.spoil {C:Ctx}{R:Seal}{H:Heap}{w w':World}{i b:Nat}{x:HEnt}{o:Obj}(h:MS C R H w)(hi:H[i]? =some x)(hb:x.blk=some b)(hw:oj w b o w'):MS C R (H.set i iK) w':=by
 obtain⟨a,c,rfl,hset⟩:=pR (y:=iK) hi;rw[hset];have hx:x∈a++x::c:=by simp
 have hRb:=h.heap.apart x hx b hb;have hnd:=h.heap.nodup;rw[List.filterMap_append,List.filterMap_cons,hb] at hnd;have hd:=List.nodup_append.1 hnd;have hother:∀z,z∈a\/z∈c->∀k,z.blk=some k->k≠b:=by
  rintro z hz k hk rfl;rcases hz with hz|hz
  ·exact hd.2.2 k (List.mem_filterMap.2 ⟨z,hz,hk⟩) k (by simp) rfl
  ·exact(List.nodup_cons.1 hd.2.1).1 (List.mem_filterMap.2 ⟨z,hz,hk⟩)
 have hmem:∀z,z∈a++iK::c->z=iK\/((z∈a\/z∈c)/\z∈a++x::c):=by
  intro z hz;simp only[List.mem_append,p_] at hz ⊢;rcases hz with hz|hz|hz
  ·exact .inr ⟨.inl hz,.inl hz⟩
  ·exact .inl hz
  ·exact .inr ⟨.inr hz,.inr (.inr hz)⟩
 refine⟨?_,h.ge,h.fresh,⟨?_,?_,?_⟩,?_,?_⟩
 ·intro k o' hk;rw[hw.other k (by rintro rfl;rw[hRb] at hk;cases hk)];exact h.sealed k o' hk
 ·intro z hz;rcases hmem z hz with rfl|⟨hz',hz''⟩
  ·exact⟨rfl,.inl ⟨rfl,rfl⟩⟩
  ·exact HEnt.holds_mono (h.heap.holds z hz'') (Seal.le_refl R) λk hk=>hw.other k (hother z hz' k hk)
 ·rw[List.filterMap_append,List.filterMap_cons];refine List.nodup_append.2 ⟨hd.1,(List.nodup_cons.1 hd.2.1).2,λk hk l hl=>hd.2.2 k hk l (List.mem_cons_of_mem _ hl)⟩
 ·intro z hz k hk;rcases hmem z hz with rfl|⟨_,hz''⟩
  ·cases hk
  ·exact h.heap.apart z hz'' k hk
 ·intro z hz k hk;rcases hmem z hz with rfl|⟨_,hz''⟩
  ·cases hk
  ·exact h.own z hz'' k hk
 ·have hob:=h.own x hx b hb;refine⟨hw.os.trans h.ext.os,hw.tape.trans h.ext.tape,hw.output.trans h.ext.output,by rw[hw.size];exact h.ext.size,λk hk hB=> ?_⟩;rw[hw.other k (by rintro rfl;rcases hob with h1|h1;omega;exact hB h1)];exact h.ext.block k hk hB
theorem iM {P:Program}[Tab P]{G:Glo}{f:FuncId}{avs:List AVal}{H:Heap}{K Kp:AVal->Heap->Prop}{i j b:Nat}{p v:Value}{s s':ω}{r:AVal}(hi:H[i]? =some (cm b p j v))(hj:H[j]? =some (fH v s))(hne:i≠j)
  (hs:ad P G f avs [cm b p 1 v,fH v s] (λx H=>∃va vk vc,x= .ret r/\H=[cm b (db b) 1 (.slice va vk vc),fH (.slice va vk vc) s']))
  (k:∀va vk vc,eD ((H.set i (cm b (db b) j (.slice va vk vc))).set j (fH (.slice va vk vc) s')) (K r)):Cx P G f avs H K Kp:=by
 obtain⟨rest,hp,hp2⟩:=wK hne hi hj;have h1:ad P G f avs [cm b p j v,fH v s] (λx H=>∃va vk vc,x= .ret r/\H=[cm b (db b) j (.slice va vk vc),fH (.slice va vk vc) s']):=by
  refine Dg hs ?_;rintro x H' ⟨va,vk,vc,rfl,rfl⟩;exact⟨_,⟨va,vk,vc,rfl,rfl⟩,λC R w h=>CR j h⟩
 refine⟨λx H'=>∃va vk vc,x= .ret r/\H'=(H.set i (cm b (db b) j (.slice va vk vc))).set j (fH (.slice va vk vc) s'),iE (iD (H1:=[cm b p j v,fH v s]++rest) hp.symm (dO rest h1)) ?_,?_,?_⟩
 ·rintro x H' ⟨H1',⟨va,vk,vc,rfl,rfl⟩,rfl⟩;exact⟨_,(hp2 _ _).symm,va,vk,vc,rfl,rfl⟩
 ·rintro v' H' ⟨va,vk,vc,e,rfl⟩;cases e;have:=k va vk vc;rw[bA] at this;exact this
 ·rintro v' H' ⟨va,vk,vc,e,rfl⟩;cases e
theorem Xw {P:Program}[Tab P]{G:Glo}{f:FuncId}{avs:List AVal}{H:Heap}{K Kp:AVal->Heap->Prop}{i j b:Nat}{p v:Value}{s:ω}{r:AVal}(hi:H[i]? =some (cm b p j v))(hj:H[j]? =some (fH v s))(hne:i≠j)
  (hs:ad P G f avs [cm b p 1 v,fH v s] (λx H=>x= .ret r/\H=[]))
  (k:eD ((H.set i iK).set j iK) (K r)):Cx P G f avs H K Kp:=by
 obtain⟨rest,hp,hp2⟩:=wK hne hi hj;have h1:ad P G f avs [cm b p j v,fH v s] (λx H=>x= .ret r/\H=[iK,iK]):=by
  refine Dg hs ?_;rintro x H' ⟨rfl,rfl⟩;exact⟨_,⟨rfl,rfl⟩,λC R w h=>(h.ghost 1).ghost 1⟩
 refine⟨λx H'=>x= .ret r/\H'=(H.set i iK).set j iK,iE (iD (H1:=[cm b p j v,fH v s]++rest) hp.symm (dO rest h1)) ?_,?_,?_⟩
 ·rintro x H' ⟨H1',⟨rfl,rfl⟩,rfl⟩;exact⟨_,(hp2 _ _).symm,rfl,rfl⟩
 ·rintro v' H' ⟨e,rfl⟩;cases e;rw[bA] at k;exact k
 ·rintro v' H' ⟨e,rfl⟩;cases e
theorem dk {G:Glo}{b:Nat}{p:Value}(hp:zk b p)(v:Value)(s t:ω)(hl:s.length+t.length<=137438953472):ad prog G 59 [.raw (db b),.str t] [cm b p 1 v,fH v s]
  (λr H=>∃va vk vc,r= .ret (.tuple [.int .i64 t.length,.raw .nilIface])/\H=[cm b (db b) 1 (.slice va vk vc),fH (.slice va vk vc) (s++t)]):=by
 have hGL:ab G []:=al;refine sF 0 func59 call59 rfl rfl rfl rfl hGL rfl ?_;intro C hC;repeat' (first|(conv=>whnf);first|refine .w ?_|refine .v ?_|refine ez ?_ ?_<;>(intro hb;try exact dd hb)|apply aT|apply bP|(apply cR<;>intro hb)|(apply cX;intro hbd)|(apply bG;exact gd hp _ _)|(apply aV (i:=0) rfl;exact gd hp _ _)|(apply cY;intro bl)|(apply dv;intro va vk vc hva)|(apply du;intro v)|(apply dw;intro bl cap hcap)|apply dP|(apply dq<;>intro hnx)|apply ef mixed hC hGL be|(apply cq;assumption;exact gd hp _ _;exact rfl)|(show Rt _ _ _;exact cP)|fail)
 all_goals try conv=>whnf
 refine Fi hC hGL rfl rfl rfl rfl rfl rfl rfl rfl rfl rfl rfl rfl rfl rfl hl rfl ?_;intro va vk vc;refine aH ?_;intros;exact⟨_,At _,va,vk,vc,rfl,by rw[GT]⟩
theorem iR {G:Glo}{b:Nat}{p:Value}(hp:zk b p)(v:Value)(s:ω)(c:Int)(h0:0<=c)(h1:c<256)(hl:s.length+1<=137438953472):ad prog G 60 [.raw (db b),.int .u8 c] [cm b p 1 v,fH v s]
    (λr H=>∃va vk vc,r= .ret (.raw .nilIface)/\H=[cm b (db b) 1 (.slice va vk vc),fH (.slice va vk vc) (s++[UInt8.ofNat c.toNat])]):=by
  have hGL:ab G []:=al;refine sF 0 func60 call60 rfl rfl rfl rfl hGL rfl ?_;intro C hC;repeat' (first|(conv=>whnf);first|refine .w ?_|refine .v ?_|refine ez ?_ ?_<;>(intro hb;try exact dd hb)|apply aT|apply bP|(apply cR<;>intro hb)|(apply cX;intro hbd)|(apply bG;exact gd hp _ _)|(apply aV (i:=0) rfl;exact gd hp _ _)|(apply cY;intro bl)|(apply dv;intro va vk vc hva)|(apply du;intro v)|(apply dw;intro bl cap hcap)|apply dP|(apply dq<;>intro hnx)|apply ef mixed hC hGL be|(apply cq;assumption;exact gd hp _ _;exact rfl)|(show Rt _ _ _;exact cP)|fail)
  all_goals try conv=>whnf
  refine⟨_,At _,va,vk,vc,rfl,?_⟩;rw[<-GT];have e:c=((UInt8.ofNat c.toNat).toNat:Int):=by
    rw [UInt8.toNat_ofNat_of_lt' (by have:c.toNat<256:=by omega
                                     simpa using this)]
    omega
  show[_,HEnt.row _ _ 1 (s.length+1) (gi s++[AVal.int .u8 c])]=[_,HEnt.row _ _ 1 (s.length+1) (gi s++[AVal.int .u8 _])];rw[<-e]
theorem W9 {P:Program}{G:Glo}{f:FuncId}{avs:List AVal}{H:Heap}{Qf:co->Heap->Prop}{i sz m:Nat}{v:Value}{eT:Option TypeId}{cs:List AVal}(hi:H[i]? =some (.row v eT sz m cs))
  (h:((v= .slice none 0 0/\m=0)\/∃g cap,v= .slice (some ⟨g,0,none⟩) m cap/\m<=cap)->ad P G f avs H Qf):ad P G f avs H Qf:=by
 unfold ad at h ⊢;intro R w args hG hm ha;obtain⟨_,hh⟩:=hm.heap.holds _ (q_ hi);refine h ?_ R w args hG hm ha;rcases hh with⟨rfl,rfl⟩|⟨g,cap,_,_,_,rfl,_,_,hle,_⟩
 ·exact .inl ⟨rfl,rfl⟩
 ·exact .inr ⟨g,cap,rfl,hle⟩
section
variable {P:Program} [Tab P] {C:Ctx} {n:Nat} {env:Env} {H:Heap} {Q:aL->Env->Heap->Prop} {ops:Array Oper} {rest:List Oper} {G:Glo} {GL:List (Nat×List AVal)}
variable {d:Nat} {t:TypeId} {p:String} {af:Array Edge} {g:Option (Nat×Bool)} {b:Bool} {x y:Operand}
omit [Tab P] in
theorem O0 {i k c:Nat}{a:Addr}{ts:Array TypeId}(hx:ah env x=some (.own i (.slice (some a) k c)))(hc:c≠0):bE P C H env (.call {callee:=.builtin .unsafeSliceData,args:=#[x],argTypes:=ts}) (.raw (.pointer (some a))):=by
 intro R ρ w hm hf dst t p af g;refine⟨.pointer (some a),?_,aq.2 rfl⟩;have hr:=Lib.run_unsafeSliceData_row (P:=P) w ts t a k c hc;have e:(#[x].map ρ)=#[.slice (some a) k c]:=by simp[(aE.1 (hf _ _ hx)).1]
 simp only[execOp,resolve,e_,h_,c_,invoke,builtin,e,hr]
theorem PD {i0 gb cap:Nat}{s:ω}{pt it:TypeId}{e:TypeId}(hC:C.G=G)(hGL:ab G GL)(hg:aQ ops env g=some (b,b))(hdn:Nat.ble (d+1) n=true)
  (hx:ah env x=some (.raw (db gb))) (hy:ah env y=some (.int .i64 s.length)) (hi:H[i0]? =some (.row (.slice (some ⟨gb,0,none⟩) s.length cap) (some e) 1 s.length (gi s))) (hs:s≠[]) (hlen:s.length<=137438953472)
  (hp:P.underlying pt=some (.pointer e)) (hce:P.cellsOf e=1) (k:mN P C n G GL ops Q rest ((d,.str s)::env) (H.set i0 iK)):
  uD P C n ops ({dst:=some d,op:=.call {callee:=.builtin .unsafeString,args:=#[x,y],argTypes:=#[pt,it]},type:=t,pos:=p,after:=af,guard:=g}::rest) env H Q:=by
 refine⟨gR (X:=Unit) (av:=λ_=>.str s) (H':=λ_=>H.set i0 iK) hg rfl hdn (λR ρ w hm hf=> ?_) λ_=>fm hC hGL _ _ _ k⟩;obtain⟨_,hh⟩:=hm.heap.holds _ (q_ hi);rcases hh with⟨h,_⟩|⟨g',cap',Cs,el,fz,h,hb,hcs,hle,hl,hfz,ht⟩
 ·cases h
 ·cases h;obtain rfl:=ht e rfl;rw[Nat.mul_one] at hcs hl;have hcell:∀j x,s[j]? =some x->w.cell? ((⟨gb,0,none⟩:Addr).add j)=some (.int .u8 x.toNat):=by
   intro j x hj;obtain⟨hj1,hj2⟩:=List.getElem?_eq_some_iff.1 hj;have:=rA (s:=s) (o:=0) hb (by rw[aa_];exact hl) j hj1;rw[hj2] at this;exact this
  have hsh:w.shape? gb=some (el,Cs.size):=by simp[World.shape?,hb]
  have hr:=Lib.run_unsafeString_row (P:=P) w pt it t el hp hce gb Cs.size hsh s hs a_ a_ hcell;have e2:(#[x,y].map ρ)=#[db gb,.int .i64 s.length]:=by simp[aq.1 (hf _ _ hx),ap.1 (hf _ _ hy)]
  have hone:∃o,oj w gb o (w.freeze ⟨gb,0,none⟩ s.length):=by
   have h0:s.length≠0:=by simpa using hs
   unfold World.freeze;rw[if_neg h0];obtain⟨lo,hi⟩:=fz;refine⟨.cells Cs el (if lo==hi then(0,0+s.length) else(min lo 0,max hi (0+s.length))),rfl,rfl,rfl,by simp,?_,?_⟩
   ·simp[Array.getElem?_modify,hb]
   ·intro k hk;simp[Array.getElem?_modify,Ne.symm hk]
  obtain⟨o,hone⟩:=hone;refine⟨(),.string ⟨s.toArray⟩,w.freeze ⟨gb,0,none⟩ s.length,R,?_,Seal.le_refl R,aD.2 rfl,hm.spoil hi rfl hone⟩;simp only[execOp,resolve,e_,h_,c_,invoke,builtin,e2,hr]
omit [Tab P] in
theorem Wh {i k c:Nat}{ts:Array TypeId}(hx:ah env x=some (.own i (.slice none k c))):bE P C H env (.call {callee:=.builtin .unsafeSliceData,args:=#[x],argTypes:=ts}) (.raw (.pointer none)):=by
 intro R ρ w hm hf dst t p af g
 refine⟨.pointer none,?_,aq.2 rfl⟩
 have hr:=Lib.run_unsafeSliceData_nil (P:=P) w ts t k c;have e:(#[x].map ρ)=#[.slice none k c]:=by simp[(aE.1 (hf _ _ hx)).1]
 simp only[execOp,resolve,e_,h_,c_,invoke,builtin,e,hr]
omit [Tab P] in
theorem Cb {pt it:TypeId}{a:Option Addr}(hx:ah env x=some (.raw (.pointer a)))(hy:ah env y=some (.int .i64 0)):bE P C H env (.call {callee:=.builtin .unsafeString,args:=#[x,y],argTypes:=#[pt,it]}) (.str []):=by
 intro R ρ w hm hf dst t p af g
 refine⟨.string .empty,?_,aD.2 rfl⟩
 have hr:=Lib.run_unsafeString_none (P:=P) w pt it t a;have e:(#[x,y].map ρ)=#[.pointer a,.int .i64 0]:=by simp[aq.1 (hf _ _ hx),ap.1 (hf _ _ hy)]
 simp only[execOp,resolve,e_,h_,c_,invoke,builtin,e,hr]
theorem Tu {i0 i k gb:Nat}{ts:Array TypeId}{e:TypeId}{eT:Option TypeId}{cs:List AVal}(hC:C.G=G)(hGL:ab G GL)(hg:aQ ops env g=some (b,b))(hdn:Nat.ble (d+1) n=true)
  (hx:ah env x=some (.own i (.slice (some ⟨gb,0,none⟩) k 0))) (hi:H[i0]? =some (.row (.slice (some ⟨gb,0,none⟩) k 0) eT 1 k cs)) (hp:P.underlying t=some (.pointer e))
  (kk:∀bl,mN P C n G GL ops Q rest ((d,.raw (db bl))::env) H):
  uD P C n ops ({dst:=some d,op:=.call {callee:=.builtin .unsafeSliceData,args:=#[x],argTypes:=ts},type:=t,pos:=p,after:=af,guard:=g}::rest) env H Q:=by
 refine⟨gR (X:=Nat) (av:=λbl=>.raw (db bl)) (H':=λ_=>H) hg rfl hdn (λR ρ w hm hf=> ?_) λbl=>fm hC hGL _ _ _ (kk bl)⟩;obtain⟨_,hh⟩:=hm.heap.holds _ (q_ hi);rcases hh with⟨h,_⟩|⟨g',cap',Cs,el,fz,h,hb,hcs,hle,hl,hfz,ht⟩
 ·cases h
 ·cases h;have hr:=Lib.run_unsafeSliceData_zero (P:=P) w ts t e hp ⟨gb,0,none⟩ k (el,Cs.size) (by simp[World.shape?,hb]);have e2:(#[x].map ρ)=#[.slice (some ⟨gb,0,none⟩) k 0]:=by simp[(aE.1 (hf _ _ hx)).1]
  refine⟨w.heap.size,db w.heap.size,_,R.put w.heap.size (.view ⟨gb,0,none⟩ e),?_,Seal.put_le hm.seal_free,aq.2 rfl,hm.alloc_sealed _⟩;simp only[execOp,resolve,e_,h_,c_,invoke,builtin,e2,hr];rfl
end
theorem vI {G:Glo}{b:Nat}{p:Value}(g cap:Nat)(s:ω)(hs:s≠[])(hlen:s.length<=137438953472)(hc0:cap≠0):ad prog G 61 [.raw (db b)] [cm b p 1 (.slice (some ⟨g,0,none⟩) s.length cap),fH (.slice (some ⟨g,0,none⟩) s.length cap) s] (λr H=>r= .ret (.str s)/\H=[cm b p 1 (.slice (some ⟨g,0,none⟩) s.length cap)]):=by
 have hGL:ab G []:=al;refine sF 0 func61 call61 rfl rfl rfl rfl hGL rfl ?_;intro C hC;refine an ?_;intros;refine a7 mixed hC hGL false (λ(_:Unit)=>[(2,.str s)]) (λ_=>[cm b p 1 (.slice (some ⟨g,0,none⟩) s.length cap),iK]) .p7 be ?_ ?_
 ·refine xm ?_;repeat' first|exact .n|apply Lc.mk
  all_goals intros
  all_goals (apply aY;assumption;exact hGL;exact O0 rfl hc0;exact rfl;exact rfl)
  all_goals (
   refine je ?_
   intros
  )
  all_goals (apply PD (i0:=1) (s:=s) (cap:=cap) (gb:=g);assumption;exact hGL;exact rfl;exact rfl;exact rfl;exact rfl;exact rfl;exact hs;exact hlen;exact underlying210;kernel_rfl)
  all_goals (
   refine je ?_
   intros
  )
  all_goals (exact⟨(),⟨rfl,trivial⟩,rfl⟩)
 ·intro _;exact eK
theorem vH {G:Glo}{b:Nat}{p:Value}(g cap:Nat)(hc0:cap≠0):ad prog G 61 [.raw (db b)] [cm b p 1 (.slice (some ⟨g,0,none⟩) 0 cap),fH (.slice (some ⟨g,0,none⟩) 0 cap) []] (λr H=>r= .ret (.str [])/\H=[cm b p 1 (.slice (some ⟨g,0,none⟩) 0 cap)]):=by
 have hGL:ab G []:=al;refine sF 0 func61 call61 rfl rfl rfl rfl hGL rfl ?_;intro C hC;refine an ?_;intros;refine a7 mixed hC hGL false (λ(_:Unit)=>[(2,.str [])]) (λ_=>[cm b p 1 (.slice (some ⟨g,0,none⟩) 0 cap),fH (.slice (some ⟨g,0,none⟩) 0 cap) []]) .p7 be ?_ ?_
 ·refine xm ?_;repeat' first|exact .n|apply Lc.mk
  all_goals intros
  all_goals (apply aY;assumption;exact hGL;exact O0 rfl hc0;exact rfl;exact rfl)
  all_goals (
   refine je ?_
   intros
  )
  all_goals (apply aY;assumption;exact hGL;exact Cb rfl rfl;exact rfl;exact rfl)
  all_goals (
   refine je ?_
   intros
  )
  all_goals (exact⟨(),⟨rfl,trivial⟩,rfl⟩)
 ·intro _;exact eK
theorem vG {G:Glo}{b:Nat}{p:Value}:ad prog G 61 [.raw (db b)] [cm b p 1 (.slice none 0 0),fH (.slice none 0 0) []] (λr H=>r= .ret (.str [])/\H=[cm b p 1 (.slice none 0 0)]):=by
 have hGL:ab G []:=al;refine sF 0 func61 call61 rfl rfl rfl rfl hGL rfl ?_;intro C hC;refine an ?_;intros;refine a7 mixed hC hGL false (λ(_:Unit)=>[(2,.str [])]) (λ_=>[cm b p 1 (.slice none 0 0),fH (.slice none 0 0) []]) .p7 be ?_ ?_
 ·refine xm ?_;repeat' first|exact .n|apply Lc.mk
  all_goals intros
  all_goals (apply aY;assumption;exact hGL;exact Wh rfl;exact rfl;exact rfl)
  all_goals (
   refine je ?_
   intros
  )
  all_goals (apply aY;assumption;exact hGL;exact Cb rfl rfl;exact rfl;exact rfl)
  all_goals (
   refine je ?_
   intros
  )
  all_goals (exact⟨(),⟨rfl,trivial⟩,rfl⟩)
 ·intro _;exact eK
theorem vF {G:Glo}{b:Nat}{p:Value}(g:Nat):ad prog G 61 [.raw (db b)] [cm b p 1 (.slice (some ⟨g,0,none⟩) 0 0),fH (.slice (some ⟨g,0,none⟩) 0 0) []] (λr H=>r= .ret (.str [])/\H=[cm b p 1 (.slice (some ⟨g,0,none⟩) 0 0)]):=by
 have hGL:ab G []:=al;refine sF 0 func61 call61 rfl rfl rfl rfl hGL rfl ?_;intro C hC;refine an ?_;intros;refine a7 mixed hC hGL false (λ(_:Unit)=>[(2,.str [])]) (λ_=>[cm b p 1 (.slice (some ⟨g,0,none⟩) 0 0),fH (.slice (some ⟨g,0,none⟩) 0 0) []]) .p7 be ?_ ?_
 ·refine xm ?_;repeat' first|exact .n|apply Lc.mk
  all_goals intros
  all_goals (apply Tu (i0:=1);assumption;exact hGL;exact rfl;exact rfl;exact rfl;exact rfl;exact underlying210;intro bl)
  all_goals (
   refine je ?_
   intros
  )
  all_goals (apply aY;assumption;exact hGL;exact Cb rfl rfl;exact rfl;exact rfl)
  all_goals (
   refine je ?_
   intros
  )
  all_goals (exact⟨(),⟨rfl,trivial⟩,rfl⟩)
 ·intro _;exact eK
theorem s4 {G:Glo}{b:Nat}{p v:Value}(s:ω)(hlen:s.length<=137438953472):ad prog G 61 [.raw (db b)] [cm b p 1 v,fH v s] (λr H=>r= .ret (.str s)/\H=[cm b p 1 v]):=by
 refine W9 (i:=1) rfl ?_;rintro(⟨rfl,h0⟩|⟨g,cap,rfl,hc⟩)
 ·obtain rfl:s=[]:=s_ h0;exact vG
 ·by_cases hs:s=[]
  ·subst hs;by_cases hc0:cap=0
   ·subst hc0;exact vF g
   ·exact vH g cap hc0
  ·have h1:s.length≠0:=by simpa using hs
   exact vI g cap s hs hlen a_
theorem y9 {G:Glo}{b:Nat}{p v:Value}(s:ω)(hlen:s.length<=137438953472):ad prog G 61 [.raw (db b)] [cm b p 1 v,fH v s] (λr H=>r= .ret (.str s)/\H=[]):=
 vX (λ_=>Iff.rfl) (λ_ _ _ h=>h) (s4 s hlen) λr H' ⟨e,eH⟩=>⟨[],⟨e,rfl⟩,λ_ _ _ h=>h.drop (Ug _)⟩
end
section
attribute [local irreducible] bJ au aa ax aR ab ad aC dm kY eY fw gp nS
theorem wJ {G:Glo}(r:Int):ai prog G 88 [.int .i32 r] (.bool (nS r)):=by
 refine aw func88 call88 λC hC hGL=> ?_;refine xw ?_;repeat' first|exact .n|apply Lc.mk
 all_goals intros
 all_goals (apply aj;refine congrArg AVal.bool ?_)
 all_goals (rw[w_];simp[nR,oo,o8,Bool.not_eq_true']<;>omega)
theorem Lk {r:Int}(hz:0<=r/\r<=1114111/\(r<55296\/57343<r)):(Utf8.encode r).data.toList=
  if r.toNat<128 then[UInt8.ofNat r.toNat] else if r.toNat<2048 then[UInt8.ofNat (192+r.toNat/64),UInt8.ofNat (128+r.toNat%64)]
  else if r.toNat<65536 then[UInt8.ofNat (224+r.toNat/4096),UInt8.ofNat (128+r.toNat/64%64),UInt8.ofNat (128+r.toNat%64)]
  else[UInt8.ofNat (240+r.toNat/262144),UInt8.ofNat (128+r.toNat/4096%64),UInt8.ofNat (128+r.toNat/64%64),UInt8.ofNat (128+r.toNat%64)]:=by
 have hv:Utf8.valid r=true:=by simp[Utf8.valid];omega
 unfold Utf8.encode;simp only[hv,aap]
 (repeat' split)<;>first|rfl|omega
end
section
theorem TA {x:UInt8}{t:ω}(h:x.toNat<128):aC (x::t)=(x.toNat,1):=by
 unfold aC;simp[aa,h]
theorem q6 {x:UInt8}{t:ω}(h:x.toNat<128):fw (x::t)=x.toNat/\eY (x::t)=1:=by
 unfold fw eY;rw[TA h];simp
theorem Yx {a b:UInt8}(ha:a.toNat<128)(hb:b.toNat<128):fw [a,b]=a.toNat/\eY [a,b]=1/\fw [b]=b.toNat/\eY [b]=1:=⟨(q6 ha).1,(q6 ha).2,(q6 hb).1,(q6 hb).2⟩
theorem SC {a b:UInt8}:aa [a,b] 1=b.toNat:=rfl
def ZL (Q:aL->Env->Heap->Prop):aL->Env->Heap->Prop
 |.goto _,_,_=>False
 |x,e,h=>Q x e h
theorem mc {P:Program}[Tab P]{C:Ctx}{n:Nat}{env:Env}{H:Heap}{Q:aL->Env->Heap->Prop}{c:Code}{G:Glo}{GL:List (Nat×List AVal)}(hC:C.G=G)(hGL:ab G GL)(h:gV P C n G GL c env H (ZL Q)):Cd P C n (.scope c) env H Q:=by
 refine⟨λR a w hm hf=>wp_scope_straight (wp_mono (dg hC hGL c _ _ _ h R a w hm hf) ?_)⟩;rintro ex a w ⟨x,e,h,R,hq,hr,hm,hf⟩;cases x with
 |goto l=>exact hq.elim
 |normal=>simp only[aG] at hr;subst hr;exact⟨.normal,e,h,R,hq,rfl,hm,hf⟩
 |exit i=>simp only[aG] at hr;subst hr;exact⟨.exit i,e,h,R,hq,rfl,hm,hf⟩
 |ret=>simp only[aG] at hr;subst hr;exact⟨.ret,e,h,R,hq,rfl,hm,hf⟩
 |panic v=>
  obtain⟨x,rfl,hx⟩:=hr
  exact⟨.panic v,e,h,R,hq,⟨x,rfl,hx⟩,hm,hf⟩
attribute [local irreducible] bJ au aa ax aR ab ad aC dm kY eY fw gp nS
theorem Xm {r:Int}(h1:128<=r)(hv:nS r=true):∃e:ω,(Utf8.encode r).data.toList=e/\2<=e.length/\e.length<=4/\128<=aa e 1/\aa e 1<256:=by
 refine⟨_,rfl,?_⟩;rw[nR] at hv;rw[Lk hv];have hb:∀k:Nat,128<=((UInt8.ofNat (128+k%64)).toNat)/\((UInt8.ofNat (128+k%64)).toNat)<256:=by
  intro k;have e:128+k%64<256:=by omega
  rw[UInt8.toNat_ofNat_of_lt' (by simpa using e)];omega
 split
 ·omega
 ·split
  ·refine⟨by simp,by simp,?_⟩;simpa[aa] using hb _
  ·split
   ·refine⟨by simp,by simp,?_⟩;simpa[aa] using hb _
   ·refine⟨by simp,by simp,?_⟩;simpa[aa] using hb _
theorem C3 {G:Glo}{a b:UInt8}(ha:a.toNat<128)(hb':b.toNat<128)(r:Int)(h1:128<=r)(hv:nS r=true)(hne:r≠65533):ai prog G 42 [.str [a,b],.int .i32 r] (.int .i64 (-1)):=by
 refine aw func42 call42 λC hC hGL=> ?_;have hV:=wJ (G:=G) r;rw[hv] at hV;refine aH ?_;intros;apply mc hC hGL;refine aH ?_;intros;obtain⟨e,he,e1,e2,e3,e4⟩:=Xm h1 hv;refine aY hC hGL (vM rfl rfl rfl rfl) rfl rfl ?_;rw[he];refine aH ?_;intros;refine rds hC hGL 1 ?_;have hix:∀c:Int,0<=c->c<=255->ai prog G 32 [.str [],.int .u8 c] (.int .i64 (-1)):=λc h0 h1=>aK [] c h0 h1;repeat' (first|(conv=>whnf);first|refine .w ?_|refine .v ?_|refine ez ?_ ?_<;>(intro hb;try exact dd hb)|apply aT|apply bP|(apply cR<;>intro hb)|(apply cX;intro hbd)|(apply bG;first|exact hV|exact hix _ a_ a_)|(apply aV (i:=0) rfl;first|exact hV|exact hix _ a_ a_)|(apply cY;intro bl)|(apply dv;intro va vk vc hva)|(apply du;intro v)|(apply dw;intro bl cap hcap)|apply dP|(apply dq<;>intro hnx)|apply ef mixed hC hGL be|(apply cq;assumption;(first|exact hV|exact hix _ a_ a_);exact rfl)|(show Rt _ _ _;exact cP)|fail)
 all_goals try conv=>whnf
 have hl2:e.length=2:=by simp only[j_,E_] at hb;omega
 have ht1:((e.length:Int)-1).toNat=1:=by omega
 have ht2:((e.length:Int)-1+1).toNat=2:=by omega
 have hcall:=call32;have hix2:∀c:Int,0<=c->c<=255->ai prog G 32 [.str (List.drop ((e.length:Int)-1+1).toNat [a,b]),.int .u8 c] (.int .i64 (-1)):=by rw[ht2];exact hix
 have h10:aa [a,b] ((e.length:Int)-1).toNat=b.toNat:=by rw[ht1];exact SC
 have h128:128<=aa e ((e.length:Int)-1).toNat:=by rw[ht1];exact e3
 apply mc hC hGL;repeat' (first|(conv=>whnf);first|refine .w ?_|refine .v ?_|refine ez ?_ ?_<;>(intro hb;try exact dd hb)|apply aT|apply bP|(apply cR<;>intro hb)|(apply cX;intro hbd)|(apply bG;first|exact hV|exact hix2 _ a_ a_)|(apply aV (i:=0) rfl;first|exact hV|exact hix2 _ a_ a_)|(apply cY;intro bl)|(apply dv;intro va vk vc hva)|(apply du;intro v)|(apply dw;intro bl cap hcap)|apply dP|(apply dq<;>intro hnx)|apply ef mixed hC hGL be|(apply cq;assumption;(first|exact hV|exact hix2 _ a_ a_);exact rfl)|(show Rt _ _ _;exact cP)|fail)
 all_goals try conv=>whnf
theorem zT {G:Glo}{a b:UInt8}(ha:a.toNat<128)(hb':b.toNat<128):ai prog G 42 [.str [a,b],.int .i32 65533] (.int .i64 (-1)):=by
 refine aw func42 call42 λC hC hGL=> ?_;refine aH ?_;intros;refine rds hC hGL 3 ?_;refine xw ?_;repeat' first|exact .n|apply Lc.mk
 all_goals intros
 all_goals (
  exfalso
  obtain⟨f1,f2,f3,f4⟩:=Yx ha hb'
  simp only[aa_,f1,f2,Nat.zero_add,aab,f3,f4,j_,E_] at*
  omega)
theorem C1 {G:Glo}{a b:UInt8}(r:Int)(h0:0<=r)(h1:r<128):ai prog G 42 [.str [a,b],.int .i32 r] (.int .i64 (aS [a,b] r)):=by
 refine aw func42 call42 λC hC hGL=> ?_;have hI:=aK (G:=G) [a,b] r h0 a_;exact bq
end
section
theorem Fr (t:ω)(h:(aC t).2≠0):((aC t).1<128->(aC t).2=1/\aa t 0=(aC t).1)/\(128<=(aC t).1->∀j,j<(aC t).2->128<=aa t j)/\nS (aC t).1=true:=by
 have hb:=bB t 0;rw[nR];revert h
 unfold aC;repeat' split
 all_goals (intro h;try (exact absurd rfl h))
 all_goals (simp only[ca,ll,l_,Wk,n_,aad] at*)
 ·refine⟨λ_=>by simp,λh=>by omega,a_⟩
 ·refine⟨λh=>by omega,λ_ j hj=> ?_,a_⟩;obtain rfl|rfl:j=0\/j=1:=by omega
  all_goals omega
 ·refine⟨λh=>by omega,λ_ j hj=> ?_,a_⟩;obtain rfl|rfl|rfl:j=0\/j=1\/j=2:=by omega
  all_goals omega
 ·refine⟨λh=>by omega,λ_ j hj=> ?_,a_⟩;obtain rfl|rfl|rfl|rfl:j=0\/j=1\/j=2\/j=3:=by omega
  all_goals omega
theorem Ip (t:ω)(h:(aC t).2=0)(h0:t.length≠0):128<=aa t 0:=by
 rcases aaj (aa t 0) 128 with h1|h1
 ·exfalso;revert h
  unfold aC;rw[if_neg h0,if_pos h1];simp
 ·exact h1
theorem BW {a b:UInt8}(x:UInt8):([a,b]:ω).contains x=true↔(x.toNat=a.toNat\/x.toNat=b.toNat):=by
 simp only[List.contains_cons,List.contains_nil,Bool.or_false,Wk,aad];exact⟨λh=>h.imp (λh=>by rw[h]) (λh=>by rw[h]),λh=>h.imp UInt8.toNat_inj.1 UInt8.toNat_inj.1⟩
theorem JZ {a b:UInt8}{x:UInt8}(h:x.toNat≠a.toNat/\x.toNat≠b.toNat):([a,b]:ω).contains x=false:=by
 cases hc:([a,b]:ω).contains x with
 |false=>rfl
 |true=>rcases(BW x).1 hc with h1|h1;exact absurd h1 h.1;exact absurd h1 h.2
theorem dl {s:ω}{i:Nat}{x:UInt8}(h:s[i]? =some x):x.toNat=aa s i:=by simp[aa,List.getD,h]
attribute [local irreducible] bJ au aa ax aR ab ad aC dm kY eY fw gp nS
theorem w9 {G:Glo}(n:Int):ai prog G 43 [.int .i64 n] (.bool (nT 8 n)):=by
 refine aw func43 call43 λC hC hGL=> ?_;exact bq
theorem TU {a b:UInt8}(r:Int):(0<=aS [a,b] r↔r=a.toNat\/r=b.toNat):=by
 unfold aS;simp only[kE];split
 ·omega
 ·split<;>omega
theorem zW {G:Glo}{a b:UInt8}(ha:a.toNat<128)(hb':b.toNat<128)(r:Int)(hv:nS r=true):∃z:Int,ai prog G 42 [.str [a,b],.int .i32 r] (.int .i64 z)/\(0<=z↔r=a.toNat\/r=b.toNat):=by
 have hm:=hv;rw[nR] at hm;by_cases h1:r<128
 ·exact⟨_,C1 r hm.1 h1,TU r⟩
 ·by_cases h2:r=65533
  ·subst h2;exact⟨-1,zT ha hb',a_⟩
  ·exact⟨-1,C3 ha hb' r a_ hv h2,a_⟩
theorem tD (t:ω)(h0:t.length≠0):nS (fw t:Int)=true/\0<eY t/\eY t<=t.length/\((fw t:Int)<128->eY t=1/\(aa t 0:Int)=fw t)/\(128<=(fw t:Int)->∀j,j<eY t->128<=aa t j):=by
 have hle:=sm t;by_cases hn:(aC t).2=0
 ·have h1:=Ip t hn h0;unfold fw eY;rw[if_pos hn,if_pos hn];refine⟨by rw[nR];omega,a_,a_,λh=>by omega,λ_ j hj=>by rw[show j=0 by omega];exact h1⟩
 ·have h1:=Fr t hn;unfold fw eY;rw[if_neg hn,if_neg hn];refine⟨h1.2.2,a_,hle.1,λh=> ?_,λh=>h1.2.1 a_⟩;have:=h1.1 a_;omega
theorem yx {G:Glo}{a b:UInt8}(ha:a.toNat<128)(hb':b.toNat<128)(s:ω)(hl:s.length<=8):ai prog G 26 [.str s,.str [a,b]] (.int .i64 (Lib.indexAny s [a,b])):=by
 refine aw func26 call26 λC hC hGL=> ?_;have hS:=w9 (G:=G) s.length;have hlen2:([a,b]:ω).length=2:=rfl;repeat' (first|(conv=>whnf);first|refine .w ?_|refine .v ?_|refine ez ?_ ?_<;>(intro hb;try exact dd hb)|apply aT|apply bP|(apply cR<;>intro hb)|(apply cX;intro hbd)|(apply bG;exact hS)|(apply aV (i:=0) rfl;exact hS)|(apply cY;intro bl)|(apply dv;intro va vk vc hva)|(apply du;intro v)|(apply dw;intro bl cap hcap)|apply dP|(apply dq<;>intro hnx)|apply ef mixed hC hGL be|(apply cq;assumption;exact hS;exact rfl)|(show Rt _ _ _;exact cP)|fail)
 all_goals try conv=>whnf
 refine lp hC hGL (λ(i:Nat)=>[(1,.str [a,b]),(45,.own 0 (.pointer (some ⟨bl,0,none⟩)))]) (λi=>[.iter bl s i]) (λi=>i<=s.length/\Lib.NoAny s [a,b] i) (λi=>s.length-i) 0 ?_ ae rfl ?_
 ·exact⟨Nat.zero_le _,Lib.NoAny.zero _ _⟩
 rintro i ⟨hi,hno⟩;have hz:=λ(h:i<s.length)=>tD (s.drop i) (by rw[k_];omega);have hR:∃z:Int,i<s.length->ai prog G 42 [.str [a,b],.int .i32 (fw (s.drop i))] (.int .i64 z)/\(0<=z↔(fw (s.drop i):Int)=a.toNat\/(fw (s.drop i):Int)=b.toNat):=by
  by_cases h:i<s.length
  ·obtain⟨z,h1,h2⟩:=zW (G:=G) ha hb' (fw (s.drop i)) (hz h).1;exact⟨z,λ_=>⟨h1,h2⟩⟩
  ·exact⟨0,λh'=>absurd h' h⟩
 obtain⟨z,hR⟩:=hR;repeat' (first|(conv=>whnf);first|refine .w ?_|refine .v ?_|refine ez ?_ ?_<;>(intro hb;try exact dd hb)|apply aT|apply bP|(apply cR<;>intro hb)|(apply cX;intro hbd)|(apply bG;first|exact(hR a_).1)|(apply aV (i:=0) rfl;first|exact(hR a_).1)|(apply cY;intro bl)|(apply dv;intro va vk vc hva)|(apply du;intro v)|(apply dw;intro bl cap hcap)|apply dP|(apply dq<;>intro hnx)|apply ef mixed hC hGL be|(apply cq;assumption;(first|exact(hR a_).1);exact rfl)|(show Rt _ _ _;exact cP)|fail)
 all_goals try conv=>whnf
 ·obtain⟨z1,z2,z3,z4,z5⟩:=hz hnx;have hr:=(hR hnx).2.1 hb;have h1:=z4 a_;have hx:s[i]? =some s[i]:=y_ hnx;have h2:=dl hx;rw[ct,Nat.add_zero] at h1;refine aj ?_;rw[Lib.indexAny_hit hno hx ((BW _).2 a_)]
 ·obtain⟨z1,z2,z3,z4,z5⟩:=hz hnx;rw[k_] at z3;have hr:¬((fw (s.drop i):Int)=a.toNat\/(fw (s.drop i):Int)=b.toNat):=λh=>by have:=(hR hnx).2.2 h;omega
  refine cQ (i+eY (s.drop i)) ⟨a_,?_⟩ a_ ⟨rfl,rfl,trivial⟩ rfl;intro j x hj hx;by_cases h:j<i
  ·exact hno j x h hx
  ·have h2:=dl hx;apply JZ;by_cases h128:(fw (s.drop i):Int)<128
   ·have h3:=z4 h128;rw[ct,Nat.add_zero] at h3;have:j=i:=by omega
    subst this;omega
   ·have h3:=z5 a_ (j-i) a_;rw[ct,show i+(j-i)=j by omega] at h3;omega
 ·have:i=s.length:=by omega
  subst this;refine aj ?_;rw[Lib.indexAny_none hno];rfl
theorem zX {G:Glo}{a b:UInt8}(ha:a.toNat<128)(hb':b.toNat<128)(s:ω)(h8:8<s.length)(hl:s.length<100000):ai prog G 26 [.str s,.str [a,b]] (.int .i64 (Lib.indexAny s [a,b])):=by
 refine bO rfl call26 ?_;rintro R args ⟨x,t,e,hx,y,t',e',hy,rfl⟩ w _ _;obtain rfl:=aD.1 hx;obtain rfl:=aD.1 hy;subst e';obtain rfl:=fR e;refine(strings_IndexAny_long (λw=>by kernel_rfl) ⟨s.toArray⟩ ⟨#[a,b]⟩ w (by show 2<=2;omega) (by rw[bM];exact h8) (by rw[bM];omega) (by show 2<4294967281;omega) ?_).mono ?_
 ·intro j x hx
  match j with
  |0=>cases hx;exact ha
  |1=>cases hx;exact hb'
  |j+2=>simp at hx
 ·rintro e w' ⟨rfl,rfl⟩;exact⟨rfl,((Below.refl w.heap.size w).alloc (Nat.le_refl _) _).alloc (by show w.heap.size<=(w.heap.push _).size;simp) _⟩
theorem sw {G:Glo}{a b:UInt8}(ha:a.toNat<128)(hb':b.toNat<128)(s:ω)(hl:s.length<100000):ai prog G 26 [.str s,.str [a,b]] (.int .i64 (Lib.indexAny s [a,b])):=by
 by_cases h:s.length<=8
 ·exact yx ha hb' s h
 ·exact zX ha hb' s a_ hl
end
section
def fk (s:ω):Int:=Lib.indexAny s [13,10]
theorem Io {s:ω}{i:Nat}(h:Lib.NoAny s [13,10] i)(hi:i<s.length)(h1:aa s i≠10/\aa s i≠13):Lib.NoAny s [13,10] (i+1):=by
 intro j x hj hx;by_cases e:j=i
 ·subst e;have:=dl hx;exact JZ (by simp;omega)
 ·exact h j x a_ hx
theorem Ly {s:ω}{i:Nat}(h:Lib.NoAny s [13,10] i)(hi:i<s.length)(h1:aa s i=10\/aa s i=13):fk s=i:=by
 have hx:s[i]? =some s[i]:=y_ hi;have h2:=dl hx;unfold fk;exact Lib.indexAny_hit h hx ((BW _).2 (by simp;omega))
theorem GF {s:ω}(h:Lib.NoAny s [13,10] s.length):fk s= -1:=by
 unfold fk;exact Lib.indexAny_none h
attribute [local irreducible] bJ au aa ax aR ab ad
theorem yD {G:Glo}(s p:ω):ai prog G 27 [.str s,.str p] (.bool (p.isPrefixOf s)):=by
 refine bO rfl call27 ?_;rintro R args ⟨x,t,e,hx,y,t',e',hy,rfl⟩ w hG hs;obtain rfl:=aD.1 hx;obtain rfl:=aD.1 hy;subst e';obtain rfl:=fR e;refine(strings_HasPrefix ⟨s.toArray⟩ ⟨p.toArray⟩ w).mono ?_;rintro e w' ⟨rfl,rfl⟩;exact⟨by simp[Lib.hasPrefix,AVal.conc],Below.refl _ _⟩
end
section
def vR (first:Bool)(c:Int):Bool:=aU c&& !(first&&decide (c<=57))
def eP (first:Bool)(a:Nat)(x:ω):Err:=
 if 0<=gh (λc=> !vR first c) x then .atp 3 (a+gh (λc=> !vR first c) x) else if x.length=0 then .atp 7 a else if 8<x.length then .atp 4 a else .none
def Err.isNone:Err->Bool
 |.none=>true
 |_=>false
def fj:Bool->Nat->List ω->Err
 |_,_,[]=>.none
 |first,a,x::xs=>if(eP first a x).isNone then fj false (a+x.length+1) xs else eP first a x
def dJ (s:ω):Err:=fj true 0 (bW 45 s)
theorem rN {c:UInt8}:∀{s p:ω},p∈bW c s->c∉p
 |[],p,h=>by simp[bW] at h;subst h;simp
 |x::t,p,h=>by
  by_cases hx:x=c
  ·rw[bW,if_pos hx] at h;rcases List.mem_cons.1 h with rfl|h
   ·simp
   ·exact rN h
  ·rw[bW,if_neg hx] at h;cases h1:bW c t with
   |nil=>exact absurd h1 (pO c t)
   |cons q qs=>
    rw[h1] at h
    rcases List.mem_cons.1 h with rfl|h
    ·have:=rN (s:=t) (p:=q) (c:=c) (by rw[h1];simp)
     simp[this,Ne.symm hx]
    ·exact rN (s:=t) (by rw[h1];simp[h])
theorem S3 {c:UInt8}{u v:ω}{x:UInt8}(hu:c∉u)(hx:x≠c):∃q qs,bW c (u++x::v)=(u++x::q)::qs:=by
 obtain⟨p,ps,h1,h2⟩:=wX (v:=x::v) hu;rw[bW,if_neg hx] at h1;cases h3:bW c v with
 |nil=>exact absurd h3 (pO c v)
 |cons q qs=>
  rw[h3] at h1;cases h1;exact⟨_,_,h2⟩
theorem GR {u v:ω}{j:Nat}(h:j<u.length):aa (u++v) j=aa u j:=by
 unfold aa;simp[List.getD,List.getElem?_append,h]
theorem GQ {u v:ω}{j:Nat}(h:u.length<=j):aa (u++v) j=aa v (j-u.length):=by
 unfold aa;simp[List.getD,List.getElem?_append,show ¬j<u.length by omega]
theorem T9 {f:Int->Bool}{u q:ω}{x:UInt8}(hu:∀j,j<u.length->f (aa u j:Int)=false)(hx:f (x.toNat:Int)=true):gh f (u++x::q)=u.length:=by
 refine mB (by simp) ?_ (λj hj=>by rw[GR hj];exact hu j hj);rw[GQ (Nat.le_refl _),Nat.sub_self];exact hx
theorem yP (s:ω)(k i:Nat)(h1:k<=i)(h2:i<=s.length):s.drop k=(s.drop k).take (i-k)++s.drop i:=by
 have e:=(List.take_append_drop (i-k) (s.drop k)).symm;rw[Q_,show k+(i-k)=i by omega] at e;exact e
theorem Qi {s:ω}{k i:Nat}(h1:k<=i)(h2:i<s.length)(hg:∀j,k<=j->j<i->aa s j≠45/\vR (decide (k=0)) (aa s j:Int)=true)(hc:aa s i≠45)(hb:vR (decide (k=0)) (aa s i:Int)=false)(b:Bool)(hbk:b=decide (k=0)):
  fj b k (bW 45 (s.drop k))= .atp 3 i:=by
 subst hbk;have e:=yP s k i h1 a_;rw[A_ h2] at e;have hl:((s.drop k).take (i-k)).length=i-k:=by rw[i_,k_];omega
 have hba:∀j,j<i-k->aa ((s.drop k).take (i-k)) j=aa s (k+j):=λj hj=>by rw[fc hj,ct]
 have hu:(45:UInt8)∉(s.drop k).take (i-k):=by
  intro hm;obtain⟨j,hj,ej⟩:=D_ hm;rw[hl] at hj;have h3:=(hg (k+j) a_ a_).1;rw[<-hba j hj,bx a_,ej] at h3;exact h3 rfl
 have hx:s[i]≠45:=λh=>hc (by rw[bx h2,h];rfl);obtain⟨q,qs,hs⟩:=S3 (v:=s.drop (i+1)) hu hx;rw[<-e] at hs;rw[hs,fj];have hf:gh (λc=> !vR (decide (k=0)) c) ((s.drop k).take (i-k)++s[i]::q)=((i-k:Nat):Int):=by
  rw[T9 (f:=λc=> !vR (decide (k=0)) c),hl]
  ·intro j hj;rw[hl] at hj;rw[hba j hj,(hg (k+j) a_ a_).2];rfl
  ·rw[<-bx h2,hb];rfl
 have hp:eP (decide (k=0)) k ((s.drop k).take (i-k)++s[i]::q)= .atp 3 i:=by
  unfold eP;rw[hf,if_pos a_,show((k:Nat):Int)+((i-k:Nat):Int)=i by omega]
 rw[hp];rfl
theorem FM {s:ω}{k i:Nat}(h1:k<=i)(h2:i<=s.length)(hg:∀j,k<=j->j<i->aa s j≠45/\vR (decide (k=0)) (aa s j:Int)=true)(hc:i=s.length\/aa s i=45)(b:Bool)(hbk:b=decide (k=0)):
  fj b k (bW 45 (s.drop k))=if i=k then .atp 7 k else if 8<i-k then .atp 4 k else if i=s.length then .none else fj false (i+1) (bW 45 (s.drop (i+1))):=by
 subst hbk;have e:=yP s k i h1 a_;have hl:((s.drop k).take (i-k)).length=i-k:=by rw[i_,k_];omega
 have hba:∀j,j<i-k->aa ((s.drop k).take (i-k)) j=aa s (k+j):=λj hj=>by rw[fc hj,ct]
 have hu:(45:UInt8)∉(s.drop k).take (i-k):=by
  intro hm;obtain⟨j,hj,ej⟩:=D_ hm;rw[hl] at hj;have h3:=(hg (k+j) a_ a_).1;rw[<-hba j hj,bx a_,ej] at h3;exact h3 rfl
 have hs:bW 45 (s.drop k)=(s.drop k).take (i-k)::(if i=s.length then[] else bW 45 (s.drop (i+1))):=by
  by_cases hi:i=s.length
  ·rw[if_pos hi];rw[List.drop_eq_nil_of_le (show s.length<=i by omega),Dc] at e;have hu':(45:UInt8)∉s.drop k:=by rw[e];exact hu
   rw[AA hu'];exact congrArg (λz=>[z]) e
  ·rw[if_neg hi];have hc:=hc.resolve_left hi;have h2:i<s.length:=by omega
   rw[A_ h2] at e;have hx:s[i]=45:=UInt8.toNat_inj.1 (by rw[<-bx h2,hc];rfl);rw[hx] at e;generalize hw:(s.drop k).take (i-k)=w at*
   rw[e,OU hu]
 have hf:gh (λc=> !vR (decide (k=0)) c) ((s.drop k).take (i-k))= -1:=iZ λj hj=>by
  rw[hl] at hj;rw[hba j hj,(hg (k+j) a_ a_).2];rfl
 rw[hs,fj];have hp:eP (decide (k=0)) k ((s.drop k).take (i-k))=if i=k then .atp 7 k else if 8<i-k then .atp 4 k else .none:=by
  unfold eP;rw[hf,if_neg a_,hl];by_cases h3:i=k
  ·rw[if_pos a_,if_pos h3]
  ·rw[if_neg a_,if_neg h3]
 rw[hp,hl];by_cases h3:i=k
 ·rw[if_pos h3,if_pos h3];rfl
 ·rw[if_neg h3,if_neg h3];by_cases h4:8<i-k
  ·rw[if_pos h4,if_pos h4];rfl
  ·rw[if_neg h4,if_neg h4,if_pos (show Err.none.isNone=true from rfl),show k+(i-k)+1=i+1 by omega];by_cases h5:i=s.length
   ·rw[if_pos h5,if_pos h5];rfl
   ·rw[if_neg h5,if_neg h5]
theorem TT {s:ω}{i:Nat}(h:i<s.length):isS ((s.take (i+1)).drop i)=aU (aa s i):=by
 have hl:((s.take (i+1)).drop i).length=1:=by rw[k_,i_];omega
 have hb:aa ((s.take (i+1)).drop i) 0=aa s i:=by rw[ct,fc a_,Nat.add_zero]
 rw[w_,isS,hl];simp only[l_,uA,hl,n_];constructor
 ·intro h;rw[<-hb];exact h.1 0 a_
 ·intro h;exact⟨λj hj=>by rw[show j=0 by omega,hb];exact h,a_,a_⟩
theorem KP {b:Bool}{c:Int}:vR b c=true↔aU c=true/\(b=true->57<c):=by
 unfold vR;cases b<;>simp
theorem KQ {b:Bool}{c:Int}:vR b c=false↔(aU c=false\/(b=true/\c<=57)):=by
 unfold vR;cases b<;>cases aU c<;>simp
attribute [local irreducible] bJ au aa ax aR ab ad bW fj vR isS aU
theorem rm {G:Glo}(s:ω)(hl:s.length<=9223372036854775000):ai prog G 107 [.str s] (dJ s).A:=by
 refine aw func107 call107 λC hC hGL=> ?_;have hN:=λi (h:i<s.length)=>p8 (G:=G) ((s.take (i+1)).drop i) (by rw[k_,i_];omega);refine aH ?_;intros;refine lp hC hGL (λ(x:Nat×Nat)=>[(0,.str s),(3,.int .i64 x.2),(4,.int .i64 x.1)]) (λ_=>[]) (λx=>x.2<=x.1/\x.1<=s.length+1/\(x.1=s.length+1->x.2=s.length+1)/\(∀j,x.2<=j->j<x.1->aa s j≠45/\vR (decide (x.2=0)) (aa s j:Int)=true)/\dJ s=if x.2=s.length+1 then .none else fj (decide (x.2=0)) x.2 (bW 45 (s.drop x.2))) (λx=>s.length+1-x.1) (0,0) ?_ ae rfl ?_
 ·exact⟨Nat.le_refl _,Nat.zero_le _,λh=>by omega,λj _ h=>absurd h (Uf _),by rw[if_neg a_];rfl⟩
 rintro⟨i,k⟩ ⟨h1,h2,h3,h4,h5⟩;dsimp only at h1 h2 h3 h4 h5 ⊢;by_cases hi:i<s.length
 ·have hN:=hN i hi;rw[TT hi] at hN;have hE:=λh=>FM h1 a_ h4 (.inr h) _ rfl;have hB:=λhc hb=>Qi h1 hi h4 hc hb _ rfl;rw[if_neg a_] at h5;repeat' (first|(conv=>whnf);first|refine .w ?_|refine .v ?_|refine ez ?_ ?_<;>(intro hb;try exact dd hb)|apply aT|apply bP|(apply cR<;>intro hb)|(apply cX;intro hbd)|(apply bG;exact hN)|(apply aV (i:=0) rfl;exact hN)|(apply cY;intro bl)|(apply dv;intro va vk vc hva)|(apply du;intro v)|(apply dw;intro bl cap hcap)|apply dP|(apply dq<;>intro hnx)|apply ef mixed hC hGL be|(apply cq;assumption;exact hN;exact rfl)|(show Rt _ _ _;exact cP)|fail)
  all_goals try conv=>whnf
  ·apply aj;rw[h5,hB a_ (KQ.2 (.inr ⟨by simp;omega,a_⟩))];rfl
  ·refine cQ (i+1,k) ?_ ?_ ae rfl
   ·refine⟨a_,a_,λh=>by omega,λj g1 g2=> ?_,by rw[if_neg a_];exact h5⟩;by_cases g:j=i
    ·subst g;exact⟨a_,KP.2 ⟨by assumption,λ_=>by omega⟩⟩
    ·exact h4 j g1 a_
   ·dsimp only;omega
  ·refine cQ (i+1,k) ?_ ?_ ae rfl
   ·refine⟨a_,a_,λh=>by omega,λj g1 g2=> ?_,by rw[if_neg a_];exact h5⟩;by_cases g:j=i
    ·subst g;exact⟨a_,KP.2 ⟨by assumption,λh=>by simp at h;omega⟩⟩
    ·exact h4 j g1 a_
   ·dsimp only;omega
  ·apply aj;rw[h5,hB a_ (KQ.2 (.inl hb))];rfl
  ·apply aj;have hE:=hE a_;obtain rfl:i=k:=by omega
   rw[h5,hE,if_pos rfl];rfl
  ·apply aj;have hE:=hE a_;rw[h5,hE,if_neg a_,if_pos a_];rfl
  ·have hE:=hE a_;rw[if_neg a_,if_neg a_] at hE;refine cQ (i+1,i+1) ?_ ?_ ae rfl
   ·refine⟨Nat.le_refl _,a_,λ_=>by omega,λj g1 g2=>by omega,?_⟩;rw[h5,hE];dsimp only
    by_cases g:i=s.length
    ·rw[if_pos g,if_pos a_]
    ·rw[if_neg g,if_neg a_];simp
   ·dsimp only;omega
 ·have hE:=λh=>FM h1 h h4 (.inl a_) _ rfl;refine xw ?_;repeat' first|exact .n|apply Lc.mk
  all_goals intros
  ·apply aj;have hE:=hE a_;rw[if_neg a_] at h5;obtain rfl:i=k:=by omega
   rw[h5,hE,if_pos rfl];rfl
  ·apply aj;have hE:=hE a_;rw[if_neg a_] at h5;rw[h5,hE,if_neg a_,if_pos a_];rfl
  ·have hE:=hE a_;rw[if_neg a_] at h5;rw[if_neg a_,if_neg a_] at hE;refine cQ (i+1,i+1) ?_ ?_ ae rfl
   ·refine⟨Nat.le_refl _,a_,λ_=>by omega,λj g1 g2=>by omega,?_⟩;rw[h5,hE];dsimp only
    by_cases g:i=s.length
    ·rw[if_pos g,if_pos a_]
    ·rw[if_neg g,if_neg a_];simp
   ·dsimp only;omega
  ·apply aj;rw[h5,if_pos (h3 a_)];rfl
end
section
theorem Nv {s:ω}{j:Nat}(h:j<s.length):aa s j=s[j].toNat:=by
 simp[aa,List.getD,h]
theorem Yv {c:UInt8}{k:Nat}(hk:k<256):c=UInt8.ofNat k↔c.toNat=k:=by
 constructor
 ·rintro rfl;rw[UInt8.toNat_ofNat_of_lt' hk]
 ·intro h;rw[<-h,UInt8.ofNat_toNat]
def escF (c:UInt8):ω:=if c=92 then[92,92] else if c=44 then[92,44] else if c=59 then[92,59] else if c=10 then[92,110] else[c]
def escS (s:ω):ω:=s.flatMap escF
theorem Xe:escF 92=[92,92]:=rfl
theorem Xh:escF 44=[92,44]:=rfl
theorem Xg:escF 59=[92,59]:=rfl
theorem Xi:escF 10=[92,110]:=rfl
theorem Gm {c:UInt8}(h0:c.toNat≠92)(h1:c.toNat≠44)(h2:c.toNat≠59)(h3:c.toNat≠10):escF c=[c]:=by
 unfold escF;rw[if_neg (by rintro rfl;exact h0 rfl),if_neg (by rintro rfl;exact h1 rfl),if_neg (by rintro rfl;exact h2 rfl),if_neg (by rintro rfl;exact h3 rfl)]
theorem QU:escS []=[]:=rfl
theorem Na (c:UInt8)(s:ω):escS (c::s)=escF c++escS s:=rfl
theorem QW (s t:ω):escS (s++t)=escS s++escS t:=by simp[escS]
theorem QX (c:UInt8):1<=(escF c).length/\(escF c).length<=2:=by
 unfold escF
 (repeat' split)<;>simp
theorem sK (s:ω):s.length<=(escS s).length/\(escS s).length<=2*s.length:=by
 induction s with
 |nil=>exact⟨Nat.le_refl _,Nat.le_refl _⟩
 |cons c t ih=>
  have:=QX c;rw[Na,d_,j_];omega
theorem M9 {s:ω}{i:Nat}(h:i<s.length):escS (s.take (i+1))=escS (s.take i)++escF s[i]:=by
 rw[x_ h,QW];simp[escS]
def OM (N:Nat)(a0 a1 a2 a3 t:AVal):List AVal:=(((((List.replicate N (.raw (.slice none 0 0))).set 10 a0).set 59 a1).set 44 a2).set 92 a3)++[t]
def qr (a0 a1 a2 a3 t:AVal):List AVal:=OM 256 a0 a1 a2 a3 t
theorem OL (N:Nat)(a0 a1 a2 a3 t:AVal):(OM N a0 a1 a2 a3 t)[N]? =some t:=by
 unfold OM;rw[G_ (by simp)];simp
theorem Eg (a0 a1 a2 a3 t:AVal):(qr a0 a1 a2 a3 t)[256]? =some t:=OL 256 a0 a1 a2 a3 t
theorem OJ {N n:Nat}{a0 a1 a2 a3 t:AVal}(hn:n<N):(OM N a0 a1 a2 a3 t)[n]? =some (if n=92 then a3 else if n=44 then a2 else if n=59 then a1 else if n=10 then a0 else .raw (.slice none 0 0)):=by
 unfold OM;rw[H_ (by simpa using hn)];by_cases h3:n=92
 ·subst h3;rw[List.getElem?_set_self (by simpa using hn),if_pos rfl]
 ·rw[if_neg h3,M_ (Ne.symm h3)]
  by_cases h2:n=44
  ·subst h2;rw[List.getElem?_set_self (by simpa using hn),if_pos rfl]
  ·rw[if_neg h2,M_ (Ne.symm h2)]
   by_cases h1:n=59
   ·subst h1;rw[List.getElem?_set_self (by simpa using hn),if_pos rfl]
   ·rw[if_neg h1,M_ (Ne.symm h1)]
    by_cases h0:n=10
    ·subst h0;rw[List.getElem?_set_self (by simpa using hn),if_pos rfl]
    ·rw[if_neg h0,M_ (Ne.symm h0)]
     simp[hn]
theorem m6 {n:Nat}{a0 a1 a2 a3 t:AVal}(hn:n<256):(qr a0 a1 a2 a3 t)[n]? =some (if n=92 then a3 else if n=44 then a2 else if n=59 then a1 else if n=10 then a0 else .raw (.slice none 0 0)):=OJ (N:=256) hn
end
section
def joinT (l:List ω):ω:=Lib.join (l.map escS) [44]
def ss (l:List ω):Err:=if l=[] then .errno 8 else .none
theorem zt {l:List ω}{k:Nat}{f:ω->ω}(h:k<l.length):(l.map f).take (k+1)=(l.map f).take k++[f (l.getD k [])]:=by
 rw[x_ (by simpa using h),List.getElem_map,f_,y_ h];rfl
theorem Qh (l:List ω):Lib.lens (l.map escS)<=2*Lib.lens l:=by
 induction l with
 |nil=>exact Nat.le_refl _
 |cons x r ih=>
  have h1:=(sK x).2;have e1:Lib.lens (x::r)=x.length+Lib.lens r:=by simp[Lib.lens]
  have e2:Lib.lens ((x::r).map escS)=(escS x).length+Lib.lens (r.map escS):=by simp[Lib.lens]
  omega
theorem qb (l:List ω):(joinT l).length<=l.length+2*Lib.lens l:=by
 cases l with
 |nil=>simp[joinT,Lib.join_nil]
 |cons x r=>
  have h:=Qh (x::r);unfold joinT;rw[S_] at h ⊢;rw[Lib.join_length,Rf,C_,j_];omega
def eM (L:List (List ω)):Nat:=L.findIdx λl=>l.isEmpty
theorem sl (L:List (List ω)):eM L<=L.length:=List.findIdx_le_length
theorem tS {L:List (List ω)}{k:Nat}(h:k<L.length)(hk:k<=eM L)(hn:L.getD k []=[]):eM L=k:=by
 rcases aaj k (eM L) with h1|h1
 ·have:=List.not_of_lt_findIdx h1;rw[f_,y_ h] at hn;simp only[aam] at hn;rw[hn] at this;simp at this
 ·omega
theorem rh {L:List (List ω)}{k:Nat}(h:k<L.length)(hk:k<=eM L)(hn:L.getD k []≠[]):k+1<=eM L:=by
 rcases aaj k (eM L) with h1|h1
 ·exact h1
 ·exfalso;have e:eM L=k:=by omega
  have h2:L.findIdx (λl=>l.isEmpty)<L.length:=by show eM L<_;omega
  have:=List.findIdx_getElem (w:=h2);rw[f_,y_ h] at hn;apply hn;simp only[aam];have e2:L[L.findIdx λl=>l.isEmpty]=L[k]:=by congr 1
  rw[e2] at this;exact List.isEmpty_iff.1 this
def iH (L:List (List ω)):ω:=if eM L<L.length then[] else Lib.join (L.map joinT) [59]
def ju (L:List (List ω)):Err:=if L=[] then .errno 8 else if eM L<L.length then .atp 8 (eM L:Nat) else .none
def gX (L:List (List ω))(i:Nat):AVal:=.list 1 (L.getD i []).length (aB (L.getD i []))
structure Small (L:List (List ω)):Prop where
 n:L.length<=2000000
 k:∀k,(L.getD k []).length<=2000000/\Lib.lens (L.getD k [])<=2000000
theorem TO {xs:List ω}{M:Nat}(h:∀x,x∈xs->x.length<=M):Lib.lens xs<=xs.length*M:=by
 induction xs with
 |nil=>simp[Lib.lens]
 |cons x r ih=>
  have e1:Lib.lens (x::r)=x.length+Lib.lens r:=by simp[Lib.lens]
  have h1:=h x (by simp);have h2:=ih (λy hy=>h y (by simp[hy]));rw[j_,Nat.add_mul];omega
theorem yn {xs:List ω}{M:Nat}{c:UInt8}(h:∀x,x∈xs->x.length<=M)(hn:xs.length<=2000000)(hM:M<=6000000):(Lib.join xs [c]).length<=140737488355328:=by
 cases xs with
 |nil=>simp[Lib.join_nil]
 |cons x r=>
  have h1:=TO h;rw[Lib.join_length,Rf];have h2:(x::r).length*M<=2000000*6000000:=Nat.mul_le_mul hn hM;rw[j_] at hn;omega
theorem wZ {L:List (List ω)}(h:Small L):(Lib.join (L.map joinT) [59]).length<=140737488355328:=by
 refine yn (M:=6000000) (λx hx=> ?_) (by rw[C_];exact h.n) (Nat.le_refl _);obtain⟨l,hl,rfl⟩:=List.mem_map.1 hx;obtain⟨k,hk,rfl⟩:=D_ hl;have h1:=h.k k;rw[f_,y_ hk] at h1;simp only[aam] at h1;have:=qb L[k];omega
theorem oI {L:List (List ω)}{k:Nat}{f:List ω->ω}(h:k<L.length):(L.map f).take (k+1)=(L.map f).take k++[f (L.getD k [])]:=by
 rw[x_ (by simpa using h),List.getElem_map,f_,y_ h];rfl
end
section
def Err.b:Err->Err
 |.none=>.none
 |.errno e=>.errno e
 |.atp e _=>.errno e
theorem Err.b_e (x:Err):x.b.e=x.e:=by cases x<;>rfl
theorem Err.b_p (x:Err):x.b.p= -1:=by cases x<;>rfl
structure Vl where
 t:Int
 s:ω
 L:List (List ω)
 st:Stm
 n:Int
def Vl.A (v:Vl):AVal:=.agg [.int .i64 v.t,.str v.s,.list 1 v.L.length (gX v.L),.int .i64 v.st.y,.int .i64 v.st.m,.int .i64 v.st.d,.int .i64 v.st.h,.int .i64 v.st.i,.int .i64 v.st.s,.bool v.st.z,.int .i64 v.st.o,.int .i64 v.n]
def mV (t:Stm):Bool:=decide (t.y=0/\t.m=0/\t.d=0/\t.h=0/\t.i=0/\t.s=0/\t.z=false/\t.o=0)
def Vl.only (v:Vl):Bool:=decide ((v.s.length=0\/v.t=1\/v.t=4\/v.t=7\/v.t=8)/\(v.L.length=0\/v.t=2\/v.t=3)/\(mV v.st=true\/v.t=5)/\(v.n=0\/v.t=6))
def QA (L:List (List ω)):Bool:=L.all λl=>l.all (fo true)
def vp (t:Int)(L:List (List ω)):Err:=if L.length=0\/(t=2/\L.length≠1) then .errno 8 else if eM L<L.length then .errno 8 else if QA L then .none else .errno 3
def Vl.E (v:Vl):Err:=if v.t<1\/9<=v.t\/v.only=false then .errno 1
 else if v.t=2\/v.t=3 then vp v.t v.L
 else if v.t=4 then(gJ v.s).b
 else if v.t=5 then v.st.E
 else if v.t=6 then mI v.n
 else if v.t=7 then(dJ v.s).b
 else if fo (decide (v.t=1)) v.s then .none else .errno 3
def Vl.T (v:Vl):ω:=match v.E with
 |.none=>if v.t=1 then escS v.s else if v.t=2\/v.t=3 then iH v.L else if v.t=5 then v.st.T else if v.t=6 then kJ v.n else v.s
 |_=>[]
end
section
attribute [local irreducible] bJ au ax aR ab ad aa
abbrev OC (a b c:Int):AVal:=.list 1 3 (dH [(0,.int .i64 a),(1,.int .i64 b),(2,.int .i64 c)])
theorem pI {G:Glo}(a b c:Int):ai prog G 204 [OC a b c] (.str (zl (aZ a) (aZ b) (aZ c))):=by
 by_cases h1:a= -1;all_goals by_cases h2:b= -1
 all_goals by_cases h3:c= -1
 all_goals
  refine aw func204 call204 λC hC hGL=> ?_;refine aH ?_;intros;refine p6 (m:=3) hC hGL rfl rfl a_ rfl rfl rfl rfl rfl rfl rfl rfl (λbo=> ?_);refine aH ?_;intros;refine rds hC hGL 4 ?_;refine aH ?_;intros;refine oP ⟨rfl,rfl⟩ ?_;apply aj;simp only[aZ,h1,h2,h3,aan,aao,not_false_eq_true,decide_true,decide_false];rfl
theorem DX {G:Glo}(n lo hi:Int):ai prog G 206 [.int .i64 n,.int .i64 lo,.int .i64 hi] (.bool (fM n lo hi)):=by
 refine aw func206 call206 λC hC hGL=> ?_;refine xw ?_;repeat' first|exact .n|apply Lc.mk
 all_goals intros
 all_goals (apply aj;refine congrArg AVal.bool ?_;rw[w_];simp only[wD,reduceCtorEq,false_iff,true_iff,Bool.not_eq_true',o8];omega)
theorem LR {G:Glo}(y m:Int):ai prog G 205 [.int .i64 y,.int .i64 m] (.int .i64 (vB y m)):=by
 refine aw func205 call205 λC hC hGL=> ?_;refine xw ?_;repeat' first|exact .n|apply Lc.mk
 all_goals intros
 all_goals (apply aj;refine congrArg (AVal.int .i64) ?_;unfold vB;(repeat' split)<;>omega)
theorem N1 {G:Glo}(n:Int)(h0:0<=n)(h1:n<100):ai prog G 232 [.int .i64 n,.int .i64 2] (.str (eO n)):=by
 refine aw func232 call232 λC hC hGL=> ?_;refine aH ?_;intros;refine p6 (m:=2) hC hGL rfl rfl a_ rfl rfl rfl rfl rfl rfl rfl rfl (λbo=> ?_);refine aH ?_;intros;refine rds hC hGL 3 ?_;refine aH ?_;intros;refine oP ⟨rfl,rfl⟩ ?_;apply aj;refine congrArg AVal.str ?_;show[UInt8.ofNat (48+n/10%10).toNat,UInt8.ofNat (48+n%10).toNat]=eO n;rw[show n/10%10=n/10 by omega];rfl
theorem LP {G:Glo}(n:Int)(h0:0<=n)(h1:n<10000):ai prog G 232 [.int .i64 n,.int .i64 4] (.str (k6 n)):=by
 refine aw func232 call232 λC hC hGL=> ?_;refine aH ?_;intros;refine p6 (m:=4) hC hGL rfl rfl a_ rfl rfl rfl rfl rfl rfl rfl rfl (λbo=> ?_);refine aH ?_;intros;refine rds hC hGL 5 ?_;refine aH ?_;intros;refine oP ⟨rfl,rfl⟩ ?_;apply aj;refine congrArg AVal.str ?_;unfold k6 cf;rw[show n/1000=n/10/10/10%10 by omega,show n/100%10=n/10/10%10 by omega];rfl
theorem Pm {G:Glo}(y m:Int):ai prog G 190 [.int .i64 y,.int .i64 m] (.int .i64 (vB y m)):=by
 have hw:=fN (G:=G) m 1 12;have h4:y.tmod 400=0->y.tmod 4=0/\y.tmod 100=0:=λh=>by
  have hd:=Int.dvd_of_tmod_eq_zero h;exact⟨Int.tmod_eq_zero_of_dvd (Int.dvd_trans b_ hd),Int.tmod_eq_zero_of_dvd (Int.dvd_trans b_ hd)⟩
 by_cases hm:1<=m/\m<=12
 ·rw[show(decide (1<=m)&&decide (m<=12))=true by simp[hm]] at hw;rcases(show m=1\/m=2\/m=3\/m=4\/m=5\/m=6\/m=7\/m=8\/m=9\/m=10\/m=11\/m=12 by omega) with rfl|rfl|rfl|rfl|rfl|rfl|rfl|rfl|rfl|rfl|rfl|rfl
  all_goals
   refine aw func190 call190 λC hC hGL=> ?_;refine xw ?_;repeat' first|exact .n|apply Lc.mk
   all_goals intros
   all_goals (apply aj;refine congrArg (AVal.int .i64) ?_;unfold vB;(repeat' split)<;>first|rfl|omega)
 ·rw[show(decide (1<=m)&&decide (m<=12))=false by simp;omega] at hw;refine aw func190 call190 λC hC hGL=> ?_;refine aH ?_;intros;apply aj;refine congrArg (AVal.int .i64) ?_;unfold vB;rw[if_pos a_]
end
section
theorem jO {G:Glo}{m:Int}(hU:ab G (bQ m))(s t:ω)(hl:s.length<100000):ai prog G 146 [.str s,.str t] (.bool (Lib.contains s t)):=by
 refine bO rfl call146 ?_;rintro R args ⟨x,u,e,hx,y,u',e',hy,rfl⟩ w hG hs;obtain rfl:=aD.1 hx;obtain rfl:=aD.1 hy;subst e';obtain rfl:=fR e;refine(strings_Contains ⟨s.toArray⟩ ⟨t.toArray⟩ m w (by show s.toArray.size<_;simp;omega) (o7 hU hG hs)).mono ?_;rintro e w' ⟨rfl,rfl⟩;exact⟨by simp[AVal.conc],Below.refl _ _⟩
end
section
def Xv:ω:=[32,45,45,45,32,57,45,45,32,57,57,45,32,57,57,57,32,45,57,45,32,45,57,57,32,45,45,57,32]
def Zc:ω:=[32,57,57,57,32,45,57,57,32,45,45,57,32]
def Yy:ω:=[32,57,45,45,32,57,57,45,32,57,57,57,32]
def Ze (l:ω)(a b c:Bool):Bool:=Lib.contains l (([32]++zl a b c)++[32])
theorem cnA:∀a b c:Bool,Ze Xv a b c=decide (0<=nA a b c):=by decide
theorem cnD:∀a b c:Bool,Ze Zc a b c=decide (nA a b c=3\/nA a b c=5\/nA a b c=6):=by decide
theorem cnT:∀a b c:Bool,Ze Yy a b c=decide (1<=nA a b c/\nA a b c<=3):=by decide
theorem I6:∀a b c:Bool,zl a b c=[45,45,45]↔nA a b c=0:=by decide
theorem Vv:∀a b c d e f:Bool,zl a b c=zl d e f↔nA a b c=nA d e f:=by decide
theorem JR:∀a b c:Bool, -1<=nA a b c/\nA a b c<=6:=by decide
def Ak (d t:Int)(z:Bool)(h o:Int):Prop:=(0<=d/\0<=t/\¬(d=0/\t=0)/\(0<d/\0<t->(d=3\/d=5\/d=6)/\t<=3))/\(if z then h≠ -1 else o=0)
theorem mC (t:Stm):t.frm=true↔Ak t.dn t.tn t.z t.h t.o:=by
 unfold Stm.frm Ak WI;rw[l_,n_];refine and_congr Iff.rfl ?_;cases t.z<;>simp[oG]
theorem v7 {G:Glo}{m:Int}(hU:ab G (bQ m))(l:ω)(hl:l.length<100000)(a b c:Bool):ai prog G 146 [.str l,.str (([32]++zl a b c)++[32])] (.bool (Ze l a b c)):=jO hU l _ hl
theorem E_3 {t:Stm}(h:¬Ak t.dn t.tn t.z t.h t.o):t.E= .errno 3:=by
 unfold Stm.E;rw[if_neg (λk=>h ((mC t).1 k))]
theorem E_2 {t:Stm}(h:Ak t.dn t.tn t.z t.h t.o)(k:t.rng=false):t.E= .errno 2:=by
 unfold Stm.E;rw[if_pos ((mC t).2 h),k];rfl
theorem E_0 {t:Stm}(h:Ak t.dn t.tn t.z t.h t.o)(k:t.rng=true):t.E= .none:=by
 unfold Stm.E;rw[if_pos ((mC t).2 h),k];rfl
attribute [local irreducible] bJ au ax aR ab ad aa zl Ze fM aZ vB wo
theorem lF {G:Glo}{m:Int}(hU:ab G (bQ m))(t:Stm):ai prog G 158 [t.A] t.E.A:=by
 have h1:=pI (G:=G) t.y t.m t.d;have h2:=pI (G:=G) t.h t.i t.s;have h3a:=v7 (G:=G) hU Xv b_ (aZ t.y) (aZ t.m) (aZ t.d);have h3b:=v7 (G:=G) hU Zc b_ (aZ t.y) (aZ t.m) (aZ t.d);have h4a:=v7 (G:=G) hU Xv b_ (aZ t.h) (aZ t.i) (aZ t.s);have h4b:=v7 (G:=G) hU Yy b_ (aZ t.h) (aZ t.i) (aZ t.s);rw[cnA] at h3a h4a;rw[cnD] at h3b;rw[cnT] at h4b;have k1:=I6 (aZ t.y) (aZ t.m) (aZ t.d);have k2:=I6 (aZ t.h) (aZ t.i) (aZ t.s);have k3:=Vv (aZ t.y) (aZ t.m) (aZ t.d) (aZ t.h) (aZ t.i) (aZ t.s);have k4:=JR (aZ t.y) (aZ t.m) (aZ t.d);have k5:=JR (aZ t.h) (aZ t.i) (aZ t.s);have h5:=LR (G:=G) t.y t.m;have h6:=λn lo hi=>DX (G:=G) n lo hi;have h7:=qV (G:=G) t.o;have l1:(zl (aZ t.y) (aZ t.m) (aZ t.d)).length=3:=by unfold zl;rfl
 have l2:(zl (aZ t.h) (aZ t.i) (aZ t.s)).length=3:=by unfold zl;rfl
 refine aw func158 call158 λC hC hGL=> ?_;refine an ?_;intros;refine a7 mixed hC hGL false (λ(_:Unit)=>[(1,.rop [.int .i64 t.y,.int .i64 t.m,.int .i64 t.d,.int .i64 t.h,.int .i64 t.i,.int .i64 t.s,.bool t.z,.int .i64 t.o] 0),(2,.raw .nilIface),(3,.str (zl (aZ t.y) (aZ t.m) (aZ t.d))),(4,.str (zl (aZ t.h) (aZ t.i) (aZ t.s)))]) (λ_=>[]) .p16 be ?_ ?_
 ·refine xn ?_;repeat' first|exact .n|apply Lc.mk
  all_goals intros
  all_goals exact⟨(),⟨rfl,rfl,rfl,rfl,trivial⟩,rfl⟩
 intro _;clear h1 h2;have hE3:=λh=>E_3 (t:=t) h;have hE2:=λh k=>E_2 (t:=t) h k;have hE0:=λh k=>E_0 (t:=t) h k;unfold Ak Stm.dn Stm.tn at hE3 hE2 hE0;unfold Stm.rng Stm.day at hE2 hE0;cases hz:t.z;all_goals
  rw[hz] at hE3 hE2 hE0;simp only[Bu,aaq,aap] at hE3 hE2 hE0;repeat' (first|(conv=>whnf);first|refine .w ?_|refine .v ?_|refine ez ?_ ?_<;>(intro hb;try exact dd hb)|apply aT|apply bP|(apply cR<;>intro hb)|(apply cX;intro hbd)|(apply bG;first|exact h3a|exact h3b|exact h4a|exact h4b|exact h5|exact h6 _ _ _|exact h7)|(apply aV (i:=0) rfl;first|exact h3a|exact h3b|exact h4a|exact h4b|exact h5|exact h6 _ _ _|exact h7)|(apply cY;intro bl)|(apply dv;intro va vk vc hva)|(apply du;intro v)|(apply dw;intro bl cap hcap)|apply dP|(apply dq<;>intro hnx)|exact True.intro|(apply pB;intro C hC)|apply pz|apply oY|(apply oZ;exact rfl)|(show Rt _ _ _;exact cP)|fail)
  all_goals try conv=>whnf
  all_goals
   clear h3a h3b h4a h4b h5 h6 h7;simp only[aan,I6,Vv,n_,aaf] at*
   apply aj;generalize nA (aZ t.y) (aZ t.m) (aZ t.d)=dn at*
   generalize nA (aZ t.h) (aZ t.i) (aZ t.s)=tn at*
   generalize wo t.o=zr at*
   first|rw[if_neg (by assumption)] at hE2 hE0|rw[if_pos (by assumption)] at hE2 hE0|skip
   generalize fM t.m 1 12=w1 at*
   generalize fM t.d 1 (vB t.y t.m)=w2 at*
   generalize fM t.d 1 31=w8 at*
   generalize fM t.h 0 23=w3 at*
   generalize fM t.i 0 59=w4 at*
   generalize fM t.s 0 59=w5 at*
   generalize fM t.y 0 9999=w6 at*
   first
    |(rw[hE3 a_];rfl)
    |(rw[hE2 a_ (by simp[*])];rfl)
    |(rw[hE0 a_ (by simp[*])];rfl)
end
section
set_option maxHeartbeats 8000000
attribute [local irreducible] bJ au ax aR ab ad
theorem Gb (n:Int):(k6 n).length=4:=rfl
theorem jh (n:Int):(eO n).length=2:=rfl
theorem JP (n:Int):(kJ n).length<=100:=by
 unfold kJ
 (repeat' split)<;>simp[jh]
theorem wP {t:Stm}(hf:t.frm=true){P:Prop}(h:WI (nA (aZ t.y) (aZ t.m) (aZ t.d)) (nA (aZ t.h) (aZ t.i) (aZ t.s))=true->(t.z=true->aZ t.h=true)->P):P:=by
 unfold Stm.frm at hf;rw[l_] at hf;refine h hf.1 λhz=> ?_;have:=hf.2;rw[hz] at this;exact this
theorem YM {d t:Int}(h:WI d t=true):0<=d:=by
 unfold WI at h;exact(of_decide_eq_true h).1
theorem YL {d t:Int}(h:WI d t=true):0<=t:=by
 unfold WI at h;exact(of_decide_eq_true h).2.1
theorem Re (t:Stm):(qR (aZ t.y) (aZ t.m) (aZ t.d) t.y t.m t.d).length<=8:=by
 cases aZ t.y<;>cases aZ t.m<;>cases aZ t.d<;>simp[qR,k6,eO,cf]
theorem OA (t:Stm):(oH (aZ t.h) (aZ t.i) (aZ t.s) t.h t.i t.s).length<=8:=by
 cases aZ t.h<;>cases aZ t.i<;>cases aZ t.s<;>simp[oH,eO,cf]
def Stm.R (t:Stm):List AVal:=[.int .i64 t.y,.int .i64 t.m,.int .i64 t.d,.int .i64 t.h,.int .i64 t.i,.int .i64 t.s,.bool t.z,.int .i64 t.o]
attribute [local irreducible] k6 eO kJ
theorem zn {G:Glo}{m:Int}(hU:ab G (bQ m))(t:Stm)(hf:t.frm=true)(hr:t.rng=true)(hE:t.E= .none):ai prog G 210 [t.A] (.tuple [.str t.txt,Err.none.A]):=by
 have h0:=lF (G:=G) hU t;rw[hE] at h0
 have h1:=pI (G:=G) t.y t.m t.d
 have h2:=pI (G:=G) t.h t.i t.s
 have h3:=wr (G:=G) t.o
 have hc:=call232
 have k1:=λn a b=>LP (G:=G) n a b
 have k2:=λn a b=>N1 (G:=G) n a b
 have l1:=Gb t.y
 have l2:=jh t.m
 have l3:=jh t.d
 have l4:=jh t.h
 have l5:=jh t.i
 have l6:=jh t.s
 have l7:=JP t.o
 have r:=hr
 unfold Stm.rng at r
 simp only[l_,wD] at r
 obtain⟨r1,r2,r3,r4,r5,r6, -⟩:=r
 have r3':t.d= -1\/1<=t.d/\t.d<=31:=by
  refine r3.imp_right λh=>⟨h.1,?_⟩
  have:=h.2
  unfold Stm.day vB at this
  (repeat' split at this)<;>omega
 clear r3
 have hx:t.txt=qR (aZ t.y) (aZ t.m) (aZ t.d) t.y t.m t.d++oH (aZ t.h) (aZ t.i) (aZ t.s) t.h t.i t.s++(if t.z then kJ t.o else[]):=rfl
 have hD:=Re t
 have hT:=OA t
 refine wP hf λk kz=> ?_
 refine k7 func210 call210 λC hC hGL=> ?_
 refine cut hC hGL [(1,.rop t.R 0)] [] True ?_ λ_=> ?_
 ·exact bq
 refine cut hC hGL [(1,.rop t.R 0)] [] True ?_ λ_=> ?_
 ·exact bq
 refine cut hC hGL [(1,.rop t.R 0),(5,.str [])] [] True ?_ λ_=> ?_
 ·exact bq
 refine cut hC hGL [(1,.rop t.R 0),(5,.str (qR (aZ t.y) (aZ t.m) (aZ t.d) t.y t.m t.d))] [] True ?_ λ_=> ?_
 ·clear h0 h2 h3 hx hD hT kz l4 l5 l6 l7 r4 r5 r6
  cases e1:aZ t.y
  all_goals cases e2:aZ t.m
  all_goals cases e3:aZ t.d
  all_goals rw[e1,e2,e3] at k h1
  all_goals try exact absurd (YM k) b_
  all_goals clear k
  all_goals simp only[zl,Yf,aap,Bu,aaq] at h1
  all_goals simp only[oG,Oz] at e1 e2 e3
  all_goals exact bq
 generalize qR (aZ t.y) (aZ t.m) (aZ t.d) t.y t.m t.d=D at*
 clear h0 h1 l1 l2 l3 r1 r2 r3'
 refine cut hC hGL [(1,.rop t.R 0),(5,.str D),(6,.str (zl (aZ t.h) (aZ t.i) (aZ t.s)))] [] True ?_ λ_=> ?_
 ·exact bq
 refine cut hC hGL [(1,.rop t.R 0),(5,.str D),(6,.str (zl (aZ t.h) (aZ t.i) (aZ t.s)))] [] (zl (aZ t.h) (aZ t.i) (aZ t.s)≠[45,45,45]) ?_ λhn=> ?_
 ·refine xw ?_
  repeat' first|exact .n|apply Lc.mk
  all_goals intros
  all_goals first
   |contradiction
   |(apply aj;refine congrArg (λl=>AVal.tuple [.str l,Err.none.A]) ?_;have hq:=(show zl (aZ t.h) (aZ t.i) (aZ t.s)=[45,45,45] by assumption);rw[hx];revert hq kz;cases aZ t.h<;>cases aZ t.i<;>cases aZ t.s<;>simp[zl,Yf,oH]<;>(intro a b;rw[a] at b;cases b))
 refine cut hC hGL [(1,.rop t.R 0),(5,.str (D++[84])),(6,.str (zl (aZ t.h) (aZ t.i) (aZ t.s)))] [] True ?_ λ_=> ?_
 ·exact bq
 refine cut hC hGL [(1,.rop t.R 0),(5,.str (D++[84])),(6,.str (zl (aZ t.h) (aZ t.i) (aZ t.s))),(7,.bool false)] [] True ?_ λ_=> ?_
 ·exact bq
 refine gr hC hGL (λq:ω=>[(1,.rop t.R 0),(5,.str q)]) (λ_=>[]) (λq=>q=D++oH (aZ t.h) (aZ t.i) (aZ t.s) t.h t.i t.s) ?_ λq hq=> ?_
 ·clear hx kz hT h3
  cases e4:aZ t.h
  all_goals cases e5:aZ t.i
  all_goals cases e6:aZ t.s
  all_goals rw[e4,e5,e6] at k hn
  all_goals try exact absurd (YL k) b_
  all_goals try exact absurd rfl hn
  all_goals clear k hn
  all_goals simp only[oG,Oz] at e4 e5 e6
  all_goals simp only[zl,Yf,aap,Bu,aaq]
  all_goals
   refine aH ?_
   refine rds hC hGL 4 ?_
   refine aH ?_
   intros
   refine aY hC hGL (nb (i:=0) rfl rfl rfl rfl rfl rfl rfl (show _<3 by decide) rfl rfl) rfl rfl ?_
   refine aH ?_
   intros
   refine aY hC hGL (nb (i:=1) rfl rfl rfl rfl rfl rfl rfl (show _<3 by decide) rfl rfl) rfl rfl ?_
   refine aH ?_
   intros
   refine aY hC hGL (nb (i:=2) rfl rfl rfl rfl rfl rfl rfl (show _<3 by decide) rfl rfl) rfl rfl ?_
   refine aH ?_
   intros
   refine cy _ ?_
   simp only[oH,An]
 subst hq
 refine gr hC hGL (λq:ω=>[(1,.rop t.R 0),(5,.str q)]) (λ_=>[]) (λq=>q=t.txt) ?_ λq hq=> ?_
 ·rw[hx]
  refine xw ?_
  repeat' first|exact .n|apply Lc.mk
  all_goals intros
  all_goals first
   |(refine cy _ ?_;rw[if_pos (by assumption)])
   |(refine cy _ ?_;rw[if_neg (by rw[show t.z=false by assumption];decide),Dc])
 subst hq
 exact ar hC hGL bq
theorem Hk {G:Glo}{m:Int}(hU:ab G (bQ m))(t:Stm):ai prog G 210 [t.A] (.tuple [.str t.T,t.E.A]):=by
 cases hf:t.frm with
 |true=>
  cases hr:t.rng with
  |true=>
   have hE:t.E= .none:=by unfold Stm.E;rw[hf,hr];rfl
   rw[hE,show t.T=t.txt by unfold Stm.T;rw[hf,hr];rfl];exact zn hU t hf hr hE
  |false=>
   have h0:=lF (G:=G) hU t;have hE:t.E= .errno 2:=by unfold Stm.E;rw[hf,hr];rfl
   rw[hE] at h0 ⊢;rw[show t.T=[] by unfold Stm.T;rw[hf,hr];rfl];refine aw func210 call210 λC hC hGL=> ?_;exact bq
 |false=>
  have h0:=lF (G:=G) hU t;have hE:t.E= .errno 3:=by unfold Stm.E;rw[hf];rfl
  rw[hE] at h0 ⊢;rw[show t.T=[] by unfold Stm.T;rw[hf];rfl];refine aw func210 call210 λC hC hGL=> ?_;exact bq
end
section
def kn (i:Nat):ω:=[[],[97],[97,98],[97,98,99],[98],[98,99],[99]].getD i []
def bT (i:Nat):ω:=[[],[57,57,57,57],[57,57,57,57,45,57,57],[57,57,57,57,57,57,57,57],[45,45,57,57],[45,45,57,57,57,57],[45,45,45,57,57]].getD i []
def aX (i:Nat):ω:=[[],[57,57],[57,57,57,57],[57,57,57,57,57,57],[45,57,57],[45,57,57,57,57],[45,45,57,57]].getD i []
def lg (i:Nat):AVal:=.agg [.str (kn i),.str (bT i),.str (aX i)]
def shapesTy:List (Nat×List AVal):=[(1,[.list 3 7 lg])]
set_option maxHeartbeats 8000000
attribute [local irreducible] bJ au ax aR ab ad
theorem pU {G:Glo}(hGL:ab G shapesTy)(a b c:Int):ai prog G 189 [OC a b c] (.int .i64 (nA (aZ a) (aZ b) (aZ c))):=by
 by_cases h1:a= -1;all_goals by_cases h2:b= -1
 all_goals by_cases h3:c= -1
 all_goals
  refine vz func189 call189 rfl rfl rfl rfl hGL ?_;intro C hC;refine aH ?_;intros;refine rds hC hGL 4 ?_;refine aH ?_;intros;refine rds hC hGL 8 ?_;refine xw ?_;repeat' first|exact .n|apply Lc.mk
  all_goals intros
  all_goals (apply aj;simp only[aZ,h1,h2,h3,aan,aao,not_false_eq_true,decide_true,decide_false];rfl)
end
end Go.Proofs.YtgpjhbhdbjdlgaaGreatDoor
