/- Parts of the proof of cardParses_card. -/
import Derived.Lib.Builder
import Derived.Lib.UnsafeStr
import Derived.Scope
import Derived.Lib.IndexAny
import Derived.Test.YtnbaflecdkgihaaGreatDoorBai
import Derived.Test.YtnbaflecdkgihaaGreatDoorBah
set_option linter.unusedVariables false
set_option linter.unusedSimpArgs false
set_option linter.unusedSectionVars false
namespace Go.Proofs.YtnbaflecdkgihaaGreatDoor
open Go Go.RowKit
open Tryz
set_option maxRecDepth 20000
set_option maxHeartbeats 4000000
section
def eB (n:Int):List UInt8:=cb [48+n/10,48+n%10]
def vK (n:Int):Bool:=decide (-840<=n/\n<=840)
theorem vJ {n:Int}:vK n=true↔(-840<=n/\n<=840):=by simp[vK]
theorem TO {n:Int}:vK n=false↔¬(-840<=n/\n<=840):=by simp[vK]
def ko (n:Int):List UInt8:=if vK n then(if n=0 then[90] else if n<0 then([45]++eB ((0-n)/60))++eB ((0-n)%60) else([43]++eB (n/60))++eB (n%60)) else[]
def mo (n:Int):Err:=if vK n then .none else .errno 2
attribute [local irreducible] bG au aa az aR ab ad
attribute [local irreducible] vK
theorem qG {G:Glo}(n:Int):ak prog G 166 [.int .i64 n] (.bool (vK n)):=by
 refine ax func166 call166 λC hC hGL=> ?_;refine xw ?_;repeat' first|exact .n|apply Lc.mk
 all_goals intros
 all_goals (apply aj;refine congrArg AVal.bool ?_;rw[w_];simp only[vJ,reduceCtorEq,false_iff,true_iff,Bool.not_eq_true',oP];omega)
theorem jR {G:Glo}(n:Int):ak prog G 137 [.int .i64 n] (.bool (vK n)):=by
 refine ax func137 call137 λC hC hGL=> ?_;have hw:=fF (G:=G) n (-840) 840;refine aK ?_;intros;apply aj;refine congrArg AVal.bool ?_;rw[w_,vJ];simp
theorem M4 {G:Glo}(n:Int)(h0:0<=n)(h1:n<100):ak prog G 232 [.int .i64 n] (.str (eB n)):=by
 refine ax func232 call232 λC hC hGL=> ?_;refine aK ?_;intros;refine aZ hC hGL (gk [_,_] rfl (by intro v hv;simp only[p_,t_,or_false] at hv;omega) rfl rfl rfl rfl rfl rfl) rfl rfl ?_;exact bB
theorem jZ (n:Int):(eB n).length=2:=rfl
attribute [local irreducible] eB
theorem vL {G:Glo}(n:Int):ak prog G 210 [.int .i64 n] (.tuple [.str (ko n),(mo n).A]):=by
 refine ax func210 call210 λC hC hGL=> ?_;have h1:=qG (G:=G) n;have k2:=λk h0 h1=>M4 (G:=G) k h0 h1;have l1:=jZ ((0-n)/60);have l2:=jZ ((0-n)%60)
 have l3:=jZ (n/60)
 have l4:=jZ (n%60)
 cases hz:vK n with
 |false=>
  rw[hz] at h1
  refine aK ?_
  intros
  apply aj
  rw[ko,mo,hz]
  rfl
 |true=>
  rw[hz] at h1
  have hz2:=vJ.1 hz
  refine xw ?_
  repeat' first|exact .n|apply Lc.mk
  all_goals intros
  ·apply aj
   rw[ko,mo,hz,if_pos rfl,if_pos a_]
   rfl
  ·apply aj
   rw[ko,mo,hz,if_pos rfl,if_neg a_,if_pos a_]
   rfl
  ·apply aj
   rw[ko,mo,hz,if_pos rfl,if_neg a_,if_neg a_]
   rfl
theorem uX {G:Glo}(i:Nat)(hi:i<100):ak prog G 244 [.int .i64 (i:Int),.int .i64 10] (.str (Lib.decDigits i)):=by
 refine bK rfl call244 ?_;intro R args hr w _ _;obtain⟨x,t,e,hx,y,t',e',hy,rfl⟩:=hr;have hx:=aq.1 hx;have hy:=aq.1 hy;subst hx hy;obtain rfl:args=#[.int .i64 (i:Int),.int .i64 10]:=by cases args;simp_all
 refine(strconv_FormatInt_10_small i hi w).mono ?_;rintro e w' ⟨rfl,rfl⟩;exact⟨rfl,Below.refl _ _⟩
theorem mv {i:Nat}(h:i<10):Lib.decDigits i=[UInt8.ofNat (48+i)]:=by
 rw[Lib.decDigits,dif_pos h]
theorem mu {i:Nat}(h:10<=i)(h1:i<100):Lib.decDigits i=[UInt8.ofNat (48+i/10),UInt8.ofNat (48+i%10)]:=by
 rw[Lib.decDigits,dif_neg a_,mv a_];rfl
theorem Ny (i:Nat):eB (i:Int)=[UInt8.ofNat (48+i/10),UInt8.ofNat (48+i%10)]:=by
 unfold eB cb;simp only[List.map];rw[show(48+(i:Int)/10).toNat=48+i/10 by omega,show(48+(i:Int)%10).toNat=48+i%10 by omega]
theorem oD {G:Glo}(i:Nat)(h1:i<100):ak prog G 228 [.int .i64 (i:Int),.int .i64 10,.int .i64 2] (.str (eB i)):=by
 refine ax func228 call228 λC hC hGL=> ?_;have hf:=uX (G:=G) i h1;rw[Ny];by_cases h:i<10
 ·rw[mv h] at hf;refine aK ?_;intros;refine mQ hC hGL 2 ?_;refine aK ?_;intros;apply aj;rw[show i/10=0 by omega,show i%10=i by omega];rfl
 ·rw[mu a_ h1] at hf;refine aK ?_;intros;refine mQ hC hGL 1 ?_;exact bB
theorem qt {G:Glo}(n:Int):ak prog G 193 [.int .i64 n] (.tuple [.str (ko n),.int .i64 (mo n).e]):=by
 refine ax func193 call193 λC hC hGL=> ?_;have h1:=jR (G:=G) n;have k2:=λ(k:Int) (h0:0<=k) (h1:k<100)=>(show ak prog G 228 [.int .i64 k,.int .i64 10,.int .i64 2] (.str (eB k)) by obtain⟨i,rfl⟩:=Int.eq_ofNat_of_zero_le h0;exact oD i a_);have l1:=jZ ((0-n)/60);have l2:=jZ ((0-n)%60);have l3:=jZ (n/60);have l4:=jZ (n%60);cases hz:vK n with
 |false=>
  rw[hz] at h1;refine aK ?_;intros;apply aj;rw[ko,mo,hz];rfl
 |true=>
  rw[hz] at h1;have hz2:=vJ.1 hz;refine xw ?_;repeat' first|exact .n|apply Lc.mk
  all_goals intros
  ·apply aj;rw[ko,mo,hz,if_pos rfl,if_pos a_];rfl
  ·apply aj;rw[ko,mo,hz,if_pos rfl,if_neg a_,if_pos a_];rfl
  ·apply aj;rw[ko,mo,hz,if_pos rfl,if_neg a_,if_neg a_];rfl
end
section
def a6 (n:Int):Bool:=decide (n≠ -1)
theorem oo {n:Int}:a6 n=true↔n≠ -1:=by simp[a6]
theorem NC {n:Int}:a6 n=false↔n= -1:=by simp[a6]
def W1 (b:Bool):UInt8:=if b then 57 else 45
def yP (a b c:Bool):List UInt8:=[W1 a,W1 b,W1 c]
def nf:Bool->Bool->Bool->Int
 |false,false,false=>0
 |true,false,false=>1
 |true,true,false=>2
 |true,true,true=>3
 |false,true,false=>4
 |false,true,true=>5
 |false,false,true=>6
 |true,false,true=> -1
def u5 (y m:Int):Int:=
 if m<1\/12<m then 0
 else if m=2 then(if y≠ -1/\(y.tmod 4≠0\/y.tmod 100=0/\y.tmod 400≠0) then 28 else 29)
 else if m=4\/m=6\/m=9\/m=11 then 30 else 31
def fE (n lo hi:Int):Bool:=decide (n= -1\/lo<=n/\n<=hi)
theorem vS {n lo hi:Int}:fE n lo hi=true↔(n= -1\/lo<=n/\n<=hi):=by simp[fE]
theorem UD {n lo hi:Int}:fE n lo hi=false↔¬(n= -1\/lo<=n/\n<=hi):=by simp[fE]
structure Stm where
 y:Int
 m:Int
 d:Int
 h:Int
 i:Int
 s:Int
 z:Bool
 o:Int
def Stm.A (t:Stm):AVal:=.agg [.int .i64 t.y,.int .i64 t.m,.int .i64 t.d,.int .i64 t.h,.int .i64 t.i,.int .i64 t.s,.bool t.z,.int .i64 t.o]
def Vu (d t:Int):Bool:=decide (0<=d/\0<=t/\¬(d=0/\t=0)/\(0<d/\0<t->(d=3\/d=5\/d=6)/\t<=3))
def Stm.dn (t:Stm):Int:=nf (a6 t.y) (a6 t.m) (a6 t.d)
def Stm.tn (t:Stm):Int:=nf (a6 t.h) (a6 t.i) (a6 t.s)
def Stm.frm (t:Stm):Bool:=Vu t.dn t.tn&&(if t.z then a6 t.h else decide (t.o=0))
def Stm.day (t:Stm):Int:=if t.m= -1 then 31 else u5 t.y t.m
def Stm.rng (t:Stm):Bool:=fE t.y 0 9999&&(fE t.m 1 12&&(fE t.d 1 t.day&&(fE t.h 0 23&&(fE t.i 0 59&&(fE t.s 0 59&&vK t.o)))))
def Stm.e (t:Stm):Int:=if t.frm then(if t.rng then 0 else 2) else 3
def Stm.E (t:Stm):Err:=if t.frm then(if t.rng then .none else .errno 2) else .errno 3
theorem Stm.E_e (t:Stm):t.E.e=t.e:=by unfold Stm.E Stm.e;(repeat' split)<;>rfl
theorem Stm.E_p (t:Stm):t.E.p= -1:=by unfold Stm.E;(repeat' split)<;>rfl
def kK (n:Int):List UInt8:=cb [48+n/1000,48+n/100%10,48+n/10%10,48+n%10]
def qC (a b c:Bool)(y m d:Int):List UInt8:=match a,b,c with
 |true,false,false=>kK y
 |true,true,false=>(kK y++[45])++eB m
 |true,true,true=>(kK y++eB m)++eB d
 |false,true,false=>[45,45]++eB m
 |false,true,true=>([45,45]++eB m)++eB d
 |false,false,true=>[45,45,45]++eB d
 |_,_,_=>[]
def oq (a b c:Bool)(h m s:Int):List UInt8:=match a,b,c with
 |true,false,false=>[84]++eB h
 |true,true,false=>([84]++eB h)++eB m
 |true,true,true=>(([84]++eB h)++eB m)++eB s
 |false,true,false=>([84]++[45])++eB m
 |false,true,true=>(([84]++[45])++eB m)++eB s
 |false,false,true=>(([84]++[45])++[45])++eB s
 |_,_,_=>[]
def Stm.txt (t:Stm):List UInt8:=qC (a6 t.y) (a6 t.m) (a6 t.d) t.y t.m t.d++oq (a6 t.h) (a6 t.i) (a6 t.s) t.h t.i t.s++(if t.z then ko t.o else[])
def Stm.T (t:Stm):List UInt8:=if t.frm then(if t.rng then t.txt else[]) else[]
def jy:List UInt8->List UInt8->List UInt8
 |[],_=>[]
 |c::r,all=>if c=57 then(match all with|x::t=>x::jy r t|[]=>[]) else c::jy r all
end
section
theorem zT {c:UInt8}:∀{s:List UInt8},c∉s->bS c s=[s]
 |[],_=>rfl
 |x::t,h=>by
  simp only[p_,not_or] at h;rw[bS,if_neg (Ne.symm h.1),zT h.2]
theorem wm {c:UInt8}:∀{u:List UInt8} {v:List UInt8},c∉u->∃p ps,bS c v=p::ps/\bS c (u++v)=(u++p)::ps
 |[],v,_=>by
  cases h:bS c v with
  |nil=>exact absurd h (pA c v)
  |cons p ps=>exact⟨p,ps,rfl,h⟩
 |x::u,v,h=>by
  simp only[p_,not_or] at h;obtain⟨p,ps,h1,h2⟩:=wm (v:=v) h.2;refine⟨p,ps,h1,?_⟩;rw[Lu,bS,if_neg (Ne.symm h.1),h2];rfl
theorem NW {c:UInt8}{u v:List UInt8}(h:c∉u):bS c (u++c::v)=u::bS c v:=by
 obtain⟨p,ps,h1,h2⟩:=wm (v:=c::v) h;rw[bS,if_pos rfl] at h1;cases h1;rw[h2,Dc]
end
section
attribute [local irreducible] bG au aa az aR ab ad
abbrev db (b:Nat):Value:=.pointer (some ⟨b,0,none⟩)
abbrev cj (b:Nat)(p:Value)(j:Nat)(v:Value):HEnt:=.cells b (some 129) [.raw p,.own j v]
abbrev fx (v:Value)(s:List UInt8):HEnt:=.row v (some 5) 1 s.length (fY s)
theorem si {P:Program}[Tab P]{G:Glo}{GL:List (Nat×List AVal)}{n:Nat}{H:Heap}{v:Value}(i:Nat){f:FuncId}{fn:Func}{c:Code}{avs:List AVal}{Qf:ct->Heap->Prop}{rs:List ResultVar}(hf:P.funcs[f]? =some fn)
  (hc:∀args w,(callFunc f args).run P w= .ok (.enter f args) w) (hb:fn.body=some c) (hn:fn.ntmps=n) (hrs:fn.results=rs.toArray) (hlen:Nat.ble (AVal.raw v::avs).length n=true) (hGL:ab G GL) (hv:dc v=false)
  (h:∀C:Ctx,C.G=G->gK P C n G GL c ((0,.own i v)::eY 0 (.raw v::avs)) H (ue P rs Qf)):ad P G f (.raw v::avs) H Qf:=
 p7 hf hb hc hn hrs hlen λw0 R0 hG=>(xi (C:=⟨w0,R0,eG H,G,hG,[]⟩) (k:=0) i rfl hGL hv rfl (h ⟨w0,R0,eG H,G,hG,[]⟩ rfl)).mono λ_ _ _ q=>jX q
theorem tr {G:Glo}(b:Nat):ak prog G 177 [.raw (db b)] (.raw (db b)):=by
 refine dU func177 be be be (e:=Go.Extern.AbiNoEscape.same) be ?_;rintro R args ⟨x,t,e,h1,h2⟩ w;obtain rfl:t=[]:=h2;obtain⟨l⟩:=args;obtain rfl:l=[x]:=e;exact⟨x,rfl,h1⟩
theorem EL {C:Ctx}{R:Seal}{H:Heap}{w:World}(hm:MS C R H w){i b:Nat}{e:TypeId}{cs:List AVal}(hi:H[i]? =some (.cells b (some e) cs)):w.shape? b=some (e,cs.length):=by
 obtain⟨Cs,el,fz,hb,hl,_,ht⟩:=lg hm hi;have:=aJ hl;simp only[r_] at this;simp[World.shape?,hb,this,ht e rfl]
section
variable {C:Ctx} {H:Heap} {env:Env} {x y:Operand} {i j b:Nat} {c0 c1:AVal}
theorem RY (hx:ai env x=some (.own i (db b)))(hi:H[j]? =some (.cells b (some 129) [c0,c1])):bA prog C H env (.convert 127 193 x) (.own i (db b)):=by
 intro R ρ w hm hf dst t p af g;refine⟨db b,?_,aG.2 ⟨rfl,rfl⟩⟩;obtain⟨ie,hie,hs1,_⟩:=gQ (P:=prog) (t:=129) rfl;have hr:=Lib.run_to_unsafe (P:=prog) w (src:=127) (dst:=193) (t:=129) (j:=ie) ⟨b,0,none⟩ underlying127 underlying193 hie (by rw[hs1];exact Nat.succ_ne_zero _) (EL hm hi) (Nat.zero_lt_succ _);simp only[execOp,(aG.1 (hf _ _ hx)).1,e_,hr,c_,h_]
theorem R3 (hx:ai env x=some (.raw (db b)))(hi:H[j]? =some (.cells b (some 129) [c0,c1])):bA prog C H env (.convert 193 127 x) (.raw (db b)):=by
 intro R ρ w hm hf dst t p af g;refine⟨db b,?_,ar.2 rfl⟩;obtain⟨ie,hie,hs1,_⟩:=gQ (P:=prog) (t:=129) rfl;have hr:=Lib.run_from_unsafe (P:=prog) w (src:=193) (dst:=127) (u:=129) (j:=ie) ⟨b,0,none⟩ underlying193 underlying127 hie (EL hm hi) be;simp only[execOp,ar.1 (hf _ _ hx),e_,hr,c_,h_]
theorem N5 (hx:ai env x=some (.raw (db b)))(hy:ai env y=some (.own i (db b))):bA prog C H env (.binOp .neq 127 x y 127) (.bool false):=by
 intro R ρ w hm hf dst t p af g;refine⟨.bool false,?_,aO.2 rfl⟩;obtain⟨ie,hie,hs1,_⟩:=gQ (P:=prog) (t:=129) rfl;have hr:=Lib.run_neq_ptr_same (P:=prog) w (tp:=127) (te:=129) (j:=ie) ⟨b,0,none⟩ underlying127 hie;have hg:(eqGuard BinOp.neq 127 x y (db b) (db b)).run prog w= .ok () w:=rfl;simp only[execOp,ar.1 (hf _ _ hx),(aG.1 (hf _ _ hy)).1,e_,hg,hr,c_,h_]
end
theorem zB {G:Glo}(b:Nat)(j:Nat)(v:Value):ad prog G 123 [.raw (db b)] [cj b (.pointer none) j v] (λr H=>r= .ret (.tuple [])/\H=[cj b (db b) j v]):=by
 have hGL:ab G []:=al;refine si 0 func123 call123 rfl rfl rfl rfl hGL rfl ?_;intro C hC;refine aK ?_;intros;refine aZ hC hGL (RY (j:=0) rfl rfl) rfl rfl ?_;repeat' (first|(conv=>whnf);first|refine .w ?_|refine .v ?_|refine eh ?_ ?_<;>(intro hb;try exact dd hb)|apply aT|apply bM|(apply cR<;>intro hb)|(apply cX;intro hbd)|(apply bD;exact tr _)|(apply aV (i:=0) rfl;exact tr _)|(apply cY;intro bl)|(apply dv;intro va vk vc hva)|(apply du;intro v)|(apply dw;intro bl cap hcap)|apply dI|(apply dq<;>intro hnx)|apply d8 mixed hC hGL be|(apply cq;assumption;exact tr _;exact rfl)|(show Rt _ _ _;exact cP)|fail)
 all_goals try conv=>whnf
 refine aZ hC hGL (R3 (j:=0) rfl rfl) rfl rfl ?_;exact bB
theorem zA {G:Glo}(b:Nat)(j:Nat)(v:Value):ad prog G 123 [.raw (db b)] [cj b (db b) j v] (λr H=>r= .ret (.tuple [])/\H=[cj b (db b) j v]):=by
 have hGL:ab G []:=al;refine si 0 func123 call123 rfl rfl rfl rfl hGL rfl ?_;intro C hC;refine aK ?_;intros;refine aZ hC hGL (N5 rfl rfl) rfl rfl ?_;exact bB
def yO (b:Nat)(p:Value):Prop:=p= .pointer none\/p=db b
theorem fV {G:Glo}{b:Nat}{p:Value}(hp:yO b p)(j:Nat)(v:Value):ad prog G 123 [.raw (db b)] [cj b p j v] (λr H=>r= .ret (.tuple [])/\H=[cj b (db b) j v]):=by
 rcases hp with rfl|rfl
 ·exact zB b j v
 ·exact zA b j v
theorem F5 (v:Value)(s t:List UInt8):HEnt.row v (some 5) 1 (s.length+t.length) (fY s++fY t)=fx v (s++t):=by
 simp only[fx,fY,d_,Nm]
theorem vY {H:Heap}{i j:Nat}{x0 y0:HEnt}(hne:i≠j)(hi:H[i]? =some x0)(hj:H[j]? =some y0):∃rest:Heap,H.Perm ([x0,y0]++rest)/\∀x y,((H.set i x).set j y).Perm ([x,y]++rest):=by
 have key:∃rest:Heap,∀x y,((H.set i x).set j y).Perm ([x,y]++rest):=by
  rcases Nat.lt_or_gt_of_ne hne with h|h
  ·refine⟨(H.eraseIdx j).eraseIdx i,λx y=> ?_⟩;have h1:=j5 (H:=H.set i x) (i:=j) (x:=y0) y (by rw[M_ a_];exact hj);rw[List.eraseIdx_set_gt h] at h1;have h2:=j5 (H:=H.eraseIdx j) (i:=i) (x:=x0) x (by rw[List.getElem?_eraseIdx_of_lt h];exact hi);refine h1.symm.trans ?_
   refine(List.Perm.append_left [y] h2.symm).trans ?_
   exact List.Perm.swap x y _
  ·refine⟨(H.eraseIdx j).eraseIdx (i-1),λx y=> ?_⟩
   have h1:=j5 (H:=H.set i x) (i:=j) (x:=y0) y (by rw[M_ a_];exact hj)
   rw[List.eraseIdx_set_lt h] at h1
   have h2:=j5 (H:=H.eraseIdx j) (i:=i-1) (x:=x0) x (by rw[List.getElem?_eraseIdx_of_ge a_,show i-1+1=i by omega];exact hi)
   refine h1.symm.trans ?_
   refine(List.Perm.append_left [y] h2.symm).trans ?_
   exact List.Perm.swap x y _
 obtain⟨rest,h⟩:=key
 refine⟨rest,?_,h⟩
 have:=h x0 y0
 have e1:H.set i x0=H:=by
  obtain⟨hl,he⟩:=List.getElem?_eq_some_iff.1 hi
  rw[<-he];exact List.set_getElem_self hl
 have e2:H.set j y0=H:=by
  obtain⟨hl,he⟩:=List.getElem?_eq_some_iff.1 hj
  rw[<-he];exact List.set_getElem_self hl
 rw[e1,e2] at this
 exact this
theorem B7 {C:Ctx}{R:Seal}{H:Heap}{w:World}{b j:Nat}{p v:Value}(k:Nat)(h:MS C R (cj b p j v::H) w):MS C R (cj b p k v::H) w:=
 h.swap (i:=0) (x:=cj b p j v) (y:=cj b p k v) rfl rfl (h.heap.holds (cj b p j v) z_)
theorem vw {P:Program}{G:Glo}{f:FuncId}{avs:List AVal}{H H0:Heap}{Qf Qf':ct->Heap->Prop}(hb:∀k,k∈eG H↔k∈eG H0)(hpre:∀C R w,MS C R H0 w->MS C R H w)(h:ad P G f avs H Qf)
  (hq:∀r H',Qf r H'->∃H'',Qf' r H''/\∀C R w,MS C R H' w->MS C R H'' w):ad P G f avs H0 Qf':=by
 unfold ad at h ⊢;intro R w args hG hm ha;rcases h R w args hG ((hpre _ _ _ hm).blks_iff λk=>(hb k).symm) ha with⟨h1,h2⟩|⟨v,w',h1,res,H',R',q,er,hm'⟩
 ·exact .inl ⟨h1,h2.mono λe w' ⟨res,H',R',q,er,hm'⟩=>let ⟨H'',q',hc⟩:=hq _ _ q;⟨res,H'',R',q',er,hc _ _ _ (hm'.blks_iff hb)⟩⟩
 ·obtain⟨H'',q',hc⟩:=hq _ _ q;exact .inr ⟨v,w',h1,res,H'',R',q',er,hc _ _ _ (hm'.blks_iff hb)⟩
theorem Cw {P:Program}{G:Glo}{f:FuncId}{avs:List AVal}{b j k:Nat}{p v:Value}{H:Heap}{Qf Qf':ct->Heap->Prop}(h:ad P G f avs (cj b p k v::H) Qf)
  (hq:∀r H',Qf r H'->∃H'',Qf' r H''/\∀C R w,MS C R H' w->MS C R H'' w):ad P G f avs (cj b p j v::H) Qf':=
 vw (H:=cj b p k v::H) (H0:=cj b p j v::H) (λ_=>Iff.rfl) (λ_ _ _ h=>B7 k h) h hq
abbrev iy:HEnt:=.row (.slice none 0 0) none 1 0 []
theorem MS.spoil {C:Ctx}{R:Seal}{H:Heap}{w w':World}{i b:Nat}{x:HEnt}{o:Obj}(h:MS C R H w)(hi:H[i]? =some x)(hb:x.blk=some b)(hw:nU w b o w'):MS C R (H.set i iy) w':=by
 obtain⟨a,c,rfl,hset⟩:=pD (y:=iy) hi;rw[hset];have hx:x∈a++x::c:=by simp
 have hRb:=h.heap.apart x hx b hb;have hnd:=h.heap.nodup;rw[List.filterMap_append,List.filterMap_cons,hb] at hnd;have hd:=List.nodup_append.1 hnd;have hother:∀z,z∈a\/z∈c->∀k,z.blk=some k->k≠b:=by
  rintro z hz k hk rfl;rcases hz with hz|hz
  ·exact hd.2.2 k (List.mem_filterMap.2 ⟨z,hz,hk⟩) k (by simp) rfl
  ·exact(List.nodup_cons.1 hd.2.1).1 (List.mem_filterMap.2 ⟨z,hz,hk⟩)
 have hmem:∀z,z∈a++iy::c->z=iy\/((z∈a\/z∈c)/\z∈a++x::c):=by
  intro z hz;simp only[List.mem_append,p_] at hz ⊢;rcases hz with hz|hz|hz
  ·exact .inr ⟨.inl hz,.inl hz⟩
  ·exact .inl hz
  ·exact .inr ⟨.inr hz,.inr (.inr hz)⟩
 refine⟨?_,h.ge,h.fresh,⟨?_,?_,?_⟩,?_,?_⟩
 ·intro k o' hk;rw[hw.other k (by rintro rfl;rw[hRb] at hk;cases hk)];exact h.sealed k o' hk
 ·intro z hz;rcases hmem z hz with rfl|⟨hz',hz''⟩
  ·exact⟨rfl,.inl ⟨rfl,rfl⟩⟩
  ·exact HEnt.holds_mono (h.heap.holds z hz'') (Seal.le_refl R) λk hk=>hw.other k (hother z hz' k hk)
 ·rw[List.filterMap_append,List.filterMap_cons];refine List.nodup_append.2 ⟨hd.1,(List.nodup_cons.1 hd.2.1).2,λk hk l hl=>hd.2.2 k hk l (List.mem_cons_of_mem _ hl)⟩
 ·intro z hz k hk;rcases hmem z hz with rfl|⟨_,hz''⟩
  ·cases hk
  ·exact h.heap.apart z hz'' k hk
 ·intro z hz k hk;rcases hmem z hz with rfl|⟨_,hz''⟩
  ·cases hk
  ·exact h.own z hz'' k hk
 ·have hob:=h.own x hx b hb;refine⟨hw.os.trans h.ext.os,hw.tape.trans h.ext.tape,hw.output.trans h.ext.output,by rw[hw.size];exact h.ext.size,λk hk hB=> ?_⟩;rw[hw.other k (by rintro rfl;rcases hob with h1|h1;omega;exact hB h1)];exact h.ext.block k hk hB
theorem iA {P:Program}[Tab P]{G:Glo}{f:FuncId}{avs:List AVal}{H:Heap}{K Kp:AVal->Heap->Prop}{i j b:Nat}{p v:Value}{s s':List UInt8}{r:AVal}(hi:H[i]? =some (cj b p j v))(hj:H[j]? =some (fx v s))(hne:i≠j)
  (hs:ad P G f avs [cj b p 1 v,fx v s] (λx H=>∃va vk vc,x= .ret r/\H=[cj b (db b) 1 (.slice va vk vc),fx (.slice va vk vc) s']))
  (k:∀va vk vc,ep ((H.set i (cj b (db b) j (.slice va vk vc))).set j (fx (.slice va vk vc) s')) (K r)):Cx P G f avs H K Kp:=by
 obtain⟨rest,hp,hp2⟩:=vY hne hi hj;have h1:ad P G f avs [cj b p j v,fx v s] (λx H=>∃va vk vc,x= .ret r/\H=[cj b (db b) j (.slice va vk vc),fx (.slice va vk vc) s']):=by
  refine Cw hs ?_;rintro x H' ⟨va,vk,vc,rfl,rfl⟩;exact⟨_,⟨va,vk,vc,rfl,rfl⟩,λC R w h=>B7 j h⟩
 refine⟨λx H'=>∃va vk vc,x= .ret r/\H'=(H.set i (cj b (db b) j (.slice va vk vc))).set j (fx (.slice va vk vc) s'),im (il (H1:=[cj b p j v,fx v s]++rest) hp.symm (dH rest h1)) ?_,?_,?_⟩
 ·rintro x H' ⟨H1',⟨va,vk,vc,rfl,rfl⟩,rfl⟩;exact⟨_,(hp2 _ _).symm,va,vk,vc,rfl,rfl⟩
 ·rintro v' H' ⟨va,vk,vc,e,rfl⟩;cases e;have:=k va vk vc;rw[bq] at this;exact this
 ·rintro v' H' ⟨va,vk,vc,e,rfl⟩;cases e
theorem Wh {P:Program}[Tab P]{G:Glo}{f:FuncId}{avs:List AVal}{H:Heap}{K Kp:AVal->Heap->Prop}{i j b:Nat}{p v:Value}{s:List UInt8}{r:AVal}(hi:H[i]? =some (cj b p j v))(hj:H[j]? =some (fx v s))(hne:i≠j)
  (hs:ad P G f avs [cj b p 1 v,fx v s] (λx H=>x= .ret r/\H=[]))
  (k:ep ((H.set i iy).set j iy) (K r)):Cx P G f avs H K Kp:=by
 obtain⟨rest,hp,hp2⟩:=vY hne hi hj;have h1:ad P G f avs [cj b p j v,fx v s] (λx H=>x= .ret r/\H=[iy,iy]):=by
  refine Cw hs ?_;rintro x H' ⟨rfl,rfl⟩;exact⟨_,⟨rfl,rfl⟩,λC R w h=>(h.ghost 1).ghost 1⟩
 refine⟨λx H'=>x= .ret r/\H'=(H.set i iy).set j iy,im (il (H1:=[cj b p j v,fx v s]++rest) hp.symm (dH rest h1)) ?_,?_,?_⟩
 ·rintro x H' ⟨H1',⟨rfl,rfl⟩,rfl⟩;exact⟨_,(hp2 _ _).symm,rfl,rfl⟩
 ·rintro v' H' ⟨e,rfl⟩;cases e;rw[bq] at k;exact k
 ·rintro v' H' ⟨e,rfl⟩;cases e
theorem dk {G:Glo}{b:Nat}{p:Value}(hp:yO b p)(v:Value)(s t:List UInt8)(hl:s.length+t.length<=137438953472):ad prog G 57 [.raw (db b),.str t] [cj b p 1 v,fx v s]
  (λr H=>∃va vk vc,r= .ret (.tuple [.int .i64 t.length,.raw .nilIface])/\H=[cj b (db b) 1 (.slice va vk vc),fx (.slice va vk vc) (s++t)]):=by
 have hGL:ab G []:=al;refine si 0 func57 call57 rfl rfl rfl rfl hGL rfl ?_;intro C hC;repeat' (first|(conv=>whnf);first|refine .w ?_|refine .v ?_|refine eh ?_ ?_<;>(intro hb;try exact dd hb)|apply aT|apply bM|(apply cR<;>intro hb)|(apply cX;intro hbd)|(apply bD;exact fV hp _ _)|(apply aV (i:=0) rfl;exact fV hp _ _)|(apply cY;intro bl)|(apply dv;intro va vk vc hva)|(apply du;intro v)|(apply dw;intro bl cap hcap)|apply dI|(apply dq<;>intro hnx)|apply d8 mixed hC hGL be|(apply cq;assumption;exact fV hp _ _;exact rfl)|(show Rt _ _ _;exact cP)|fail)
 all_goals try conv=>whnf
 refine EB hC hGL rfl rfl rfl rfl rfl rfl rfl rfl rfl rfl rfl rfl rfl rfl hl rfl ?_;intro va vk vc;refine aK ?_;intros;exact⟨_,At _,va,vk,vc,rfl,by rw[F5]⟩
theorem iE {G:Glo}{b:Nat}{p:Value}(hp:yO b p)(v:Value)(s:List UInt8)(c:Int)(h0:0<=c)(h1:c<256)(hl:s.length+1<=137438953472):ad prog G 58 [.raw (db b),.int .u8 c] [cj b p 1 v,fx v s]
    (λr H=>∃va vk vc,r= .ret (.raw .nilIface)/\H=[cj b (db b) 1 (.slice va vk vc),fx (.slice va vk vc) (s++[UInt8.ofNat c.toNat])]):=by
  have hGL:ab G []:=al;refine si 0 func58 call58 rfl rfl rfl rfl hGL rfl ?_;intro C hC;repeat' (first|(conv=>whnf);first|refine .w ?_|refine .v ?_|refine eh ?_ ?_<;>(intro hb;try exact dd hb)|apply aT|apply bM|(apply cR<;>intro hb)|(apply cX;intro hbd)|(apply bD;exact fV hp _ _)|(apply aV (i:=0) rfl;exact fV hp _ _)|(apply cY;intro bl)|(apply dv;intro va vk vc hva)|(apply du;intro v)|(apply dw;intro bl cap hcap)|apply dI|(apply dq<;>intro hnx)|apply d8 mixed hC hGL be|(apply cq;assumption;exact fV hp _ _;exact rfl)|(show Rt _ _ _;exact cP)|fail)
  all_goals try conv=>whnf
  refine⟨_,At _,va,vk,vc,rfl,?_⟩;rw[<-F5];have e:c=((UInt8.ofNat c.toNat).toNat:Int):=by
    rw [UInt8.toNat_ofNat_of_lt' (by have:c.toNat<256:=by omega
                                     simpa using this)]
    omega
  show[_,HEnt.row _ _ 1 (s.length+1) (fY s++[AVal.int .u8 c])]=[_,HEnt.row _ _ 1 (s.length+1) (fY s++[AVal.int .u8 _])];rw[<-e]
theorem VU {P:Program}{G:Glo}{f:FuncId}{avs:List AVal}{H:Heap}{Qf:ct->Heap->Prop}{i sz m:Nat}{v:Value}{eT:Option TypeId}{cs:List AVal}(hi:H[i]? =some (.row v eT sz m cs))
  (h:((v= .slice none 0 0/\m=0)\/∃g cap,v= .slice (some ⟨g,0,none⟩) m cap/\m<=cap)->ad P G f avs H Qf):ad P G f avs H Qf:=by
 unfold ad at h ⊢;intro R w args hG hm ha;obtain⟨_,hh⟩:=hm.heap.holds _ (q_ hi);refine h ?_ R w args hG hm ha;rcases hh with⟨rfl,rfl⟩|⟨g,cap,_,_,_,rfl,_,_,hle,_⟩
 ·exact .inl ⟨rfl,rfl⟩
 ·exact .inr ⟨g,cap,rfl,hle⟩
section
variable {P:Program} [Tab P] {C:Ctx} {n:Nat} {env:Env} {H:Heap} {Q:aM->Env->Heap->Prop} {ops:Array Oper} {rest:List Oper} {G:Glo} {GL:List (Nat×List AVal)}
variable {d:Nat} {t:TypeId} {p:String} {af:Array Edge} {g:Option (Nat×Bool)} {b:Bool} {x y:Operand}
omit [Tab P] in
theorem N3 {i k c:Nat}{a:Addr}{ts:Array TypeId}(hx:ai env x=some (.own i (.slice (some a) k c)))(hc:c≠0):bA P C H env (.call {callee:=.builtin .unsafeSliceData,args:=#[x],argTypes:=ts}) (.raw (.pointer (some a))):=by
 intro R ρ w hm hf dst t p af g;refine⟨.pointer (some a),?_,ar.2 rfl⟩;have hr:=Lib.run_unsafeSliceData_row (P:=P) w ts t a k c hc;have e:(#[x].map ρ)=#[.slice (some a) k c]:=by simp[(aG.1 (hf _ _ hx)).1]
 simp only[execOp,resolve,e_,h_,c_,invoke,builtin,e,hr]
theorem OG {i0 gb cap:Nat}{s:List UInt8}{pt it:TypeId}{e:TypeId}(hC:C.G=G)(hGL:ab G GL)(hg:aQ ops env g=some (b,b))(hdn:Nat.ble (d+1) n=true)
  (hx:ai env x=some (.raw (db gb))) (hy:ai env y=some (.int .i64 s.length)) (hi:H[i0]? =some (.row (.slice (some ⟨gb,0,none⟩) s.length cap) (some e) 1 s.length (fY s))) (hs:s≠[]) (hlen:s.length<=137438953472)
  (hp:P.underlying pt=some (.pointer e)) (hce:P.cellsOf e=1) (k:mt P C n G GL ops Q rest ((d,.str s)::env) (H.set i0 iy)):
  uf P C n ops ({dst:=some d,op:=.call {callee:=.builtin .unsafeString,args:=#[x,y],argTypes:=#[pt,it]},type:=t,pos:=p,after:=af,guard:=g}::rest) env H Q:=by
 refine⟨gF (X:=Unit) (av:=λ_=>.str s) (H':=λ_=>H.set i0 iy) hg rfl hdn (λR ρ w hm hf=> ?_) λ_=>fc hC hGL _ _ _ k⟩;obtain⟨_,hh⟩:=hm.heap.holds _ (q_ hi);rcases hh with⟨h,_⟩|⟨g',cap',Cs,el,fz,h,hb,hcs,hle,hl,hfz,ht⟩
 ·cases h
 ·cases h;obtain rfl:=ht e rfl;rw[Nat.mul_one] at hcs hl;have hcell:∀j x,s[j]? =some x->w.cell? ((⟨gb,0,none⟩:Addr).add j)=some (.int .u8 x.toNat):=by
   intro j x hj;obtain⟨hj1,hj2⟩:=List.getElem?_eq_some_iff.1 hj;have:=rg (s:=s) (o:=0) hb (by rw[YO];exact hl) j hj1;rw[hj2] at this;exact this
  have hsh:w.shape? gb=some (el,Cs.size):=by simp[World.shape?,hb]
  have hr:=Lib.run_unsafeString_row (P:=P) w pt it t el hp hce gb Cs.size hsh s hs a_ a_ hcell;have e2:(#[x,y].map ρ)=#[db gb,.int .i64 s.length]:=by simp[ar.1 (hf _ _ hx),aq.1 (hf _ _ hy)]
  have hone:∃o,nU w gb o (w.freeze ⟨gb,0,none⟩ s.length):=by
   have h0:s.length≠0:=by simpa using hs
   unfold World.freeze;rw[if_neg h0];obtain⟨lo,hi⟩:=fz;refine⟨.cells Cs el (if lo==hi then(0,0+s.length) else(min lo 0,max hi (0+s.length))),rfl,rfl,rfl,by simp,?_,?_⟩
   ·simp[Array.getElem?_modify,hb]
   ·intro k hk;simp[Array.getElem?_modify,Ne.symm hk]
  obtain⟨o,hone⟩:=hone;refine⟨(),.string ⟨s.toArray⟩,w.freeze ⟨gb,0,none⟩ s.length,R,?_,Seal.le_refl R,aD.2 rfl,hm.spoil hi rfl hone⟩;simp only[execOp,resolve,e_,h_,c_,invoke,builtin,e2,hr]
omit [Tab P] in
theorem U2 {i k c:Nat}{ts:Array TypeId}(hx:ai env x=some (.own i (.slice none k c))):bA P C H env (.call {callee:=.builtin .unsafeSliceData,args:=#[x],argTypes:=ts}) (.raw (.pointer none)):=by
 intro R ρ w hm hf dst t p af g
 refine⟨.pointer none,?_,ar.2 rfl⟩
 have hr:=Lib.run_unsafeSliceData_nil (P:=P) w ts t k c;have e:(#[x].map ρ)=#[.slice none k c]:=by simp[(aG.1 (hf _ _ hx)).1]
 simp only[execOp,resolve,e_,h_,c_,invoke,builtin,e,hr]
omit [Tab P] in
theorem Bz {pt it:TypeId}{a:Option Addr}(hx:ai env x=some (.raw (.pointer a)))(hy:ai env y=some (.int .i64 0)):bA P C H env (.call {callee:=.builtin .unsafeString,args:=#[x,y],argTypes:=#[pt,it]}) (.str []):=by
 intro R ρ w hm hf dst t p af g
 refine⟨.string .empty,?_,aD.2 rfl⟩
 have hr:=Lib.run_unsafeString_none (P:=P) w pt it t a;have e:(#[x,y].map ρ)=#[.pointer a,.int .i64 0]:=by simp[ar.1 (hf _ _ hx),aq.1 (hf _ _ hy)]
 simp only[execOp,resolve,e_,h_,c_,invoke,builtin,e,hr]
theorem Sm {i0 i k gb:Nat}{ts:Array TypeId}{e:TypeId}{eT:Option TypeId}{cs:List AVal}(hC:C.G=G)(hGL:ab G GL)(hg:aQ ops env g=some (b,b))(hdn:Nat.ble (d+1) n=true)
  (hx:ai env x=some (.own i (.slice (some ⟨gb,0,none⟩) k 0))) (hi:H[i0]? =some (.row (.slice (some ⟨gb,0,none⟩) k 0) eT 1 k cs)) (hp:P.underlying t=some (.pointer e))
  (kk:∀bl,mt P C n G GL ops Q rest ((d,.raw (db bl))::env) H):
  uf P C n ops ({dst:=some d,op:=.call {callee:=.builtin .unsafeSliceData,args:=#[x],argTypes:=ts},type:=t,pos:=p,after:=af,guard:=g}::rest) env H Q:=by
 refine⟨gF (X:=Nat) (av:=λbl=>.raw (db bl)) (H':=λ_=>H) hg rfl hdn (λR ρ w hm hf=> ?_) λbl=>fc hC hGL _ _ _ (kk bl)⟩;obtain⟨_,hh⟩:=hm.heap.holds _ (q_ hi);rcases hh with⟨h,_⟩|⟨g',cap',Cs,el,fz,h,hb,hcs,hle,hl,hfz,ht⟩
 ·cases h
 ·cases h;have hr:=Lib.run_unsafeSliceData_zero (P:=P) w ts t e hp ⟨gb,0,none⟩ k (el,Cs.size) (by simp[World.shape?,hb]);have e2:(#[x].map ρ)=#[.slice (some ⟨gb,0,none⟩) k 0]:=by simp[(aG.1 (hf _ _ hx)).1]
  refine⟨w.heap.size,db w.heap.size,_,R.put w.heap.size (.view ⟨gb,0,none⟩ e),?_,Seal.put_le hm.seal_free,ar.2 rfl,hm.alloc_sealed _⟩;simp only[execOp,resolve,e_,h_,c_,invoke,builtin,e2,hr];rfl
end
theorem ve {G:Glo}{b:Nat}{p:Value}(g cap:Nat)(s:List UInt8)(hs:s≠[])(hlen:s.length<=137438953472)(hc0:cap≠0):ad prog G 59 [.raw (db b)] [cj b p 1 (.slice (some ⟨g,0,none⟩) s.length cap),fx (.slice (some ⟨g,0,none⟩) s.length cap) s] (λr H=>r= .ret (.str s)/\H=[cj b p 1 (.slice (some ⟨g,0,none⟩) s.length cap)]):=by
 have hGL:ab G []:=al;refine si 0 func59 call59 rfl rfl rfl rfl hGL rfl ?_;intro C hC;refine ao ?_;intros;refine bh mixed hC hGL false (λ(_:Unit)=>[(2,.str s)]) (λ_=>[cj b p 1 (.slice (some ⟨g,0,none⟩) s.length cap),iy]) .p8 be ?_ ?_
 ·refine xm ?_;repeat' first|exact .n|apply Lc.mk
  all_goals intros
  all_goals (apply aZ;assumption;exact hGL;exact N3 rfl hc0;exact rfl;exact rfl)
  all_goals (
   refine iS ?_
   intros
  )
  all_goals (apply OG (i0:=1) (s:=s) (cap:=cap) (gb:=g);assumption;exact hGL;exact rfl;exact rfl;exact rfl;exact rfl;exact rfl;exact hs;exact hlen;exact underlying205;kernel_rfl)
  all_goals (
   refine iS ?_
   intros
  )
  all_goals (exact⟨(),⟨rfl,trivial⟩,rfl⟩)
 ·intro _;exact eK
theorem u9 {G:Glo}{b:Nat}{p:Value}(g cap:Nat)(hc0:cap≠0):ad prog G 59 [.raw (db b)] [cj b p 1 (.slice (some ⟨g,0,none⟩) 0 cap),fx (.slice (some ⟨g,0,none⟩) 0 cap) []] (λr H=>r= .ret (.str [])/\H=[cj b p 1 (.slice (some ⟨g,0,none⟩) 0 cap)]):=by
 have hGL:ab G []:=al;refine si 0 func59 call59 rfl rfl rfl rfl hGL rfl ?_;intro C hC;refine ao ?_;intros;refine bh mixed hC hGL false (λ(_:Unit)=>[(2,.str [])]) (λ_=>[cj b p 1 (.slice (some ⟨g,0,none⟩) 0 cap),fx (.slice (some ⟨g,0,none⟩) 0 cap) []]) .p8 be ?_ ?_
 ·refine xm ?_;repeat' first|exact .n|apply Lc.mk
  all_goals intros
  all_goals (apply aZ;assumption;exact hGL;exact N3 rfl hc0;exact rfl;exact rfl)
  all_goals (
   refine iS ?_
   intros
  )
  all_goals (apply aZ;assumption;exact hGL;exact Bz rfl rfl;exact rfl;exact rfl)
  all_goals (
   refine iS ?_
   intros
  )
  all_goals (exact⟨(),⟨rfl,trivial⟩,rfl⟩)
 ·intro _;exact eK
theorem u7 {G:Glo}{b:Nat}{p:Value}:ad prog G 59 [.raw (db b)] [cj b p 1 (.slice none 0 0),fx (.slice none 0 0) []] (λr H=>r= .ret (.str [])/\H=[cj b p 1 (.slice none 0 0)]):=by
 have hGL:ab G []:=al;refine si 0 func59 call59 rfl rfl rfl rfl hGL rfl ?_;intro C hC;refine ao ?_;intros;refine bh mixed hC hGL false (λ(_:Unit)=>[(2,.str [])]) (λ_=>[cj b p 1 (.slice none 0 0),fx (.slice none 0 0) []]) .p8 be ?_ ?_
 ·refine xm ?_;repeat' first|exact .n|apply Lc.mk
  all_goals intros
  all_goals (apply aZ;assumption;exact hGL;exact U2 rfl;exact rfl;exact rfl)
  all_goals (
   refine iS ?_
   intros
  )
  all_goals (apply aZ;assumption;exact hGL;exact Bz rfl rfl;exact rfl;exact rfl)
  all_goals (
   refine iS ?_
   intros
  )
  all_goals (exact⟨(),⟨rfl,trivial⟩,rfl⟩)
 ·intro _;exact eK
theorem u6 {G:Glo}{b:Nat}{p:Value}(g:Nat):ad prog G 59 [.raw (db b)] [cj b p 1 (.slice (some ⟨g,0,none⟩) 0 0),fx (.slice (some ⟨g,0,none⟩) 0 0) []] (λr H=>r= .ret (.str [])/\H=[cj b p 1 (.slice (some ⟨g,0,none⟩) 0 0)]):=by
 have hGL:ab G []:=al;refine si 0 func59 call59 rfl rfl rfl rfl hGL rfl ?_;intro C hC;refine ao ?_;intros;refine bh mixed hC hGL false (λ(_:Unit)=>[(2,.str [])]) (λ_=>[cj b p 1 (.slice (some ⟨g,0,none⟩) 0 0),fx (.slice (some ⟨g,0,none⟩) 0 0) []]) .p8 be ?_ ?_
 ·refine xm ?_;repeat' first|exact .n|apply Lc.mk
  all_goals intros
  all_goals (apply Sm (i0:=1);assumption;exact hGL;exact rfl;exact rfl;exact rfl;exact rfl;exact underlying205;intro bl)
  all_goals (
   refine iS ?_
   intros
  )
  all_goals (apply aZ;assumption;exact hGL;exact Bz rfl rfl;exact rfl;exact rfl)
  all_goals (
   refine iS ?_
   intros
  )
  all_goals (exact⟨(),⟨rfl,trivial⟩,rfl⟩)
 ·intro _;exact eK
theorem sB {G:Glo}{b:Nat}{p v:Value}(s:List UInt8)(hlen:s.length<=137438953472):ad prog G 59 [.raw (db b)] [cj b p 1 v,fx v s] (λr H=>r= .ret (.str s)/\H=[cj b p 1 v]):=by
 refine VU (i:=1) rfl ?_;rintro(⟨rfl,h0⟩|⟨g,cap,rfl,hc⟩)
 ·obtain rfl:s=[]:=s_ h0;exact u7
 ·by_cases hs:s=[]
  ·subst hs;by_cases hc0:cap=0
   ·subst hc0;exact u6 g
   ·exact u9 g cap hc0
  ·have h1:s.length≠0:=by simpa using hs
   exact ve g cap s hs hlen a_
theorem yD {G:Glo}{b:Nat}{p v:Value}(s:List UInt8)(hlen:s.length<=137438953472):ad prog G 59 [.raw (db b)] [cj b p 1 v,fx v s] (λr H=>r= .ret (.str s)/\H=[]):=
 vw (λ_=>Iff.rfl) (λ_ _ _ h=>h) (sB s hlen) λr H' ⟨e,eH⟩=>⟨[],⟨e,rfl⟩,λ_ _ _ h=>h.drop (Ug _)⟩
end
section
attribute [local irreducible] bG au aa az aR ab ad
attribute [local irreducible] aC dm kH eN fk gg nA
theorem vX {G:Glo}(r:Int):ak prog G 86 [.int .i32 r] (.bool (nA r)):=by
 refine ax func86 call86 λC hC hGL=> ?_;refine xw ?_;repeat' first|exact .n|apply Lc.mk
 all_goals intros
 all_goals (apply aj;refine congrArg AVal.bool ?_)
 all_goals (rw[w_];simp[nz,nX,oP,Bool.not_eq_true']<;>omega)
theorem Kr {r:Int}(hz:0<=r/\r<=1114111/\(r<55296\/57343<r)):(Utf8.encode r).data.toList=
  if r.toNat<128 then[UInt8.ofNat r.toNat] else if r.toNat<2048 then[UInt8.ofNat (192+r.toNat/64),UInt8.ofNat (128+r.toNat%64)]
  else if r.toNat<65536 then[UInt8.ofNat (224+r.toNat/4096),UInt8.ofNat (128+r.toNat/64%64),UInt8.ofNat (128+r.toNat%64)]
  else[UInt8.ofNat (240+r.toNat/262144),UInt8.ofNat (128+r.toNat/4096%64),UInt8.ofNat (128+r.toNat/64%64),UInt8.ofNat (128+r.toNat%64)]:=by
 have hv:Utf8.valid r=true:=by simp[Utf8.valid];omega
 unfold Utf8.encode;simp only[hv,Zc]
 (repeat' split)<;>first|rfl|omega
end
section
theorem St {x:UInt8}{t:List UInt8}(h:x.toNat<128):aC (x::t)=(x.toNat,1):=by
 unfold aC;simp[aa,h]
theorem qL {x:UInt8}{t:List UInt8}(h:x.toNat<128):fk (x::t)=x.toNat/\eN (x::t)=1:=by
 unfold fk eN;rw[St h];simp
theorem Xk {a b:UInt8}(ha:a.toNat<128)(hb:b.toNat<128):fk [a,b]=a.toNat/\eN [a,b]=1/\fk [b]=b.toNat/\eN [b]=1:=⟨(qL ha).1,(qL ha).2,(qL hb).1,(qL hb).2⟩
theorem Rv {a b:UInt8}:aa [a,b] 1=b.toNat:=rfl
def Yx (Q:aM->Env->Heap->Prop):aM->Env->Heap->Prop
 |.goto _,_,_=>False
 |x,e,h=>Q x e h
theorem lN {P:Program}[Tab P]{C:Ctx}{n:Nat}{env:Env}{H:Heap}{Q:aM->Env->Heap->Prop}{c:Code}{G:Glo}{GL:List (Nat×List AVal)}(hC:C.G=G)(hGL:ab G GL)(h:gK P C n G GL c env H (Yx Q)):Cd P C n (.scope c) env H Q:=by
 refine⟨λR a w hm hf=>wp_scope_straight (wp_mono (dg hC hGL c _ _ _ h R a w hm hf) ?_)⟩;rintro ex a w ⟨x,e,h,R,hq,hr,hm,hf⟩;cases x with
 |goto l=>exact hq.elim
 |normal=>simp only[aH] at hr;subst hr;exact⟨.normal,e,h,R,hq,rfl,hm,hf⟩
 |exit i=>simp only[aH] at hr;subst hr;exact⟨.exit i,e,h,R,hq,rfl,hm,hf⟩
 |ret=>simp only[aH] at hr;subst hr;exact⟨.ret,e,h,R,hq,rfl,hm,hf⟩
 |panic v=>
  obtain⟨x,rfl,hx⟩:=hr
  exact⟨.panic v,e,h,R,hq,⟨x,rfl,hx⟩,hm,hf⟩
attribute [local irreducible] bG au aa az aR ab ad
attribute [local irreducible] aC dm kH eN fk gg nA
theorem V6 {r:Int}(h1:128<=r)(hv:nA r=true):∃e:List UInt8,(Utf8.encode r).data.toList=e/\2<=e.length/\e.length<=4/\128<=aa e 1/\aa e 1<256:=by
 refine⟨_,rfl,?_⟩;rw[nz] at hv;rw[Kr hv];have hb:∀k:Nat,128<=((UInt8.ofNat (128+k%64)).toNat)/\((UInt8.ofNat (128+k%64)).toNat)<256:=by
  intro k;have e:128+k%64<256:=by omega
  rw[UInt8.toNat_ofNat_of_lt' (by simpa using e)];omega
 split
 ·omega
 ·split
  ·refine⟨by simp,by simp,?_⟩;simpa[aa] using hb _
  ·split
   ·refine⟨by simp,by simp,?_⟩;simpa[aa] using hb _
   ·refine⟨by simp,by simp,?_⟩;simpa[aa] using hb _
theorem Cj {G:Glo}{a b:UInt8}(ha:a.toNat<128)(hb':b.toNat<128)(r:Int)(h1:128<=r)(hv:nA r=true)(hne:r≠65533):ak prog G 40 [.str [a,b],.int .i32 r] (.int .i64 (-1)):=by
 refine ax func40 call40 λC hC hGL=> ?_;have hV:=vX (G:=G) r;rw[hv] at hV;refine aK ?_;intros;apply lN hC hGL;refine aK ?_;intros;obtain⟨e,he,e1,e2,e3,e4⟩:=V6 h1 hv;refine aZ hC hGL (vi rfl rfl rfl rfl) rfl rfl ?_;rw[he];refine aK ?_;intros;refine mQ hC hGL 1 ?_;have hix:∀c:Int,0<=c->c<=255->ak prog G 30 [.str [],.int .u8 c] (.int .i64 (-1)):=λc h0 h1=>aL [] c h0 h1;repeat' (first|(conv=>whnf);first|refine .w ?_|refine .v ?_|refine eh ?_ ?_<;>(intro hb;try exact dd hb)|apply aT|apply bM|(apply cR<;>intro hb)|(apply cX;intro hbd)|(apply bD;first|exact hV|exact hix _ a_ a_)|(apply aV (i:=0) rfl;first|exact hV|exact hix _ a_ a_)|(apply cY;intro bl)|(apply dv;intro va vk vc hva)|(apply du;intro v)|(apply dw;intro bl cap hcap)|apply dI|(apply dq<;>intro hnx)|apply d8 mixed hC hGL be|(apply cq;assumption;(first|exact hV|exact hix _ a_ a_);exact rfl)|(show Rt _ _ _;exact cP)|fail)
 all_goals try conv=>whnf
 have hl2:e.length=2:=by simp only[j_,E_] at hb;omega
 have ht1:((e.length:Int)-1).toNat=1:=by omega
 have ht2:((e.length:Int)-1+1).toNat=2:=by omega
 have hcall:=call30;have hix2:∀c:Int,0<=c->c<=255->ak prog G 30 [.str (List.drop ((e.length:Int)-1+1).toNat [a,b]),.int .u8 c] (.int .i64 (-1)):=by rw[ht2];exact hix
 have h10:aa [a,b] ((e.length:Int)-1).toNat=b.toNat:=by rw[ht1];exact Rv
 have h128:128<=aa e ((e.length:Int)-1).toNat:=by rw[ht1];exact e3
 apply lN hC hGL;repeat' (first|(conv=>whnf);first|refine .w ?_|refine .v ?_|refine eh ?_ ?_<;>(intro hb;try exact dd hb)|apply aT|apply bM|(apply cR<;>intro hb)|(apply cX;intro hbd)|(apply bD;first|exact hV|exact hix2 _ a_ a_)|(apply aV (i:=0) rfl;first|exact hV|exact hix2 _ a_ a_)|(apply cY;intro bl)|(apply dv;intro va vk vc hva)|(apply du;intro v)|(apply dw;intro bl cap hcap)|apply dI|(apply dq<;>intro hnx)|apply d8 mixed hC hGL be|(apply cq;assumption;(first|exact hV|exact hix2 _ a_ a_);exact rfl)|(show Rt _ _ _;exact cP)|fail)
 all_goals try conv=>whnf
theorem zn {G:Glo}{a b:UInt8}(ha:a.toNat<128)(hb':b.toNat<128):ak prog G 40 [.str [a,b],.int .i32 65533] (.int .i64 (-1)):=by
 refine ax func40 call40 λC hC hGL=> ?_;refine aK ?_;intros;refine mQ hC hGL 3 ?_;refine xw ?_;repeat' first|exact .n|apply Lc.mk
 all_goals intros
 all_goals (
  exfalso
  obtain⟨f1,f2,f3,f4⟩:=Xk ha hb'
  simp only[YO,f1,f2,Nat.zero_add,YQ,f3,f4,j_,E_] at*
  omega)
theorem Ci {G:Glo}{a b:UInt8}(r:Int)(h0:0<=r)(h1:r<128):ak prog G 40 [.str [a,b],.int .i32 r] (.int .i64 (aS [a,b] r)):=by
 refine ax func40 call40 λC hC hGL=> ?_;have hI:=aL (G:=G) [a,b] r h0 a_;exact bB
end
section
theorem EI (t:List UInt8)(h:(aC t).2≠0):((aC t).1<128->(aC t).2=1/\aa t 0=(aC t).1)/\(128<=(aC t).1->∀j,j<(aC t).2->128<=aa t j)/\nA (aC t).1=true:=by
 have hb:=bu t 0;rw[nz];revert h
 unfold aC;repeat' split
 all_goals (intro h;try (exact absurd rfl h))
 all_goals (simp only[bW,kY,l_,Wk,n_,YS] at*)
 ·refine⟨λ_=>by simp,λh=>by omega,a_⟩
 ·refine⟨λh=>by omega,λ_ j hj=> ?_,a_⟩;obtain rfl|rfl:j=0\/j=1:=by omega
  all_goals omega
 ·refine⟨λh=>by omega,λ_ j hj=> ?_,a_⟩;obtain rfl|rfl|rfl:j=0\/j=1\/j=2:=by omega
  all_goals omega
 ·refine⟨λh=>by omega,λ_ j hj=> ?_,a_⟩;obtain rfl|rfl|rfl|rfl:j=0\/j=1\/j=2\/j=3:=by omega
  all_goals omega
theorem Hy (t:List UInt8)(h:(aC t).2=0)(h0:t.length≠0):128<=aa t 0:=by
 rcases YY (aa t 0) 128 with h1|h1
 ·exfalso;revert h
  unfold aC;rw[if_neg h0,if_pos h1];simp
 ·exact h1
theorem Bl {a b:UInt8}(x:UInt8):([a,b]:List UInt8).contains x=true↔(x.toNat=a.toNat\/x.toNat=b.toNat):=by
 simp only[List.contains_cons,List.contains_nil,Bool.or_false,Wk,YS];exact⟨λh=>h.imp (λh=>by rw[h]) (λh=>by rw[h]),λh=>h.imp UInt8.toNat_inj.1 UInt8.toNat_inj.1⟩
theorem I8 {a b:UInt8}{x:UInt8}(h:x.toNat≠a.toNat/\x.toNat≠b.toNat):([a,b]:List UInt8).contains x=false:=by
 cases hc:([a,b]:List UInt8).contains x with
 |false=>rfl
 |true=>rcases(Bl x).1 hc with h1|h1;exact absurd h1 h.1;exact absurd h1 h.2
theorem dl {s:List UInt8}{i:Nat}{x:UInt8}(h:s[i]? =some x):x.toNat=aa s i:=by simp[aa,List.getD,h]
attribute [local irreducible] bG au aa az aR ab ad
attribute [local irreducible] aC dm kH eN fk gg nA
theorem wu {G:Glo}(n:Int):ak prog G 41 [.int .i64 n] (.bool (nY 8 n)):=by
 refine ax func41 call41 λC hC hGL=> ?_;exact bB
theorem SL {a b:UInt8}(r:Int):(0<=aS [a,b] r↔r=a.toNat\/r=b.toNat):=by
 unfold aS;simp only[kh];split
 ·omega
 ·split<;>omega
theorem zq {G:Glo}{a b:UInt8}(ha:a.toNat<128)(hb':b.toNat<128)(r:Int)(hv:nA r=true):∃z:Int,ak prog G 40 [.str [a,b],.int .i32 r] (.int .i64 z)/\(0<=z↔r=a.toNat\/r=b.toNat):=by
 have hm:=hv;rw[nz] at hm;by_cases h1:r<128
 ·exact⟨_,Ci r hm.1 h1,SL r⟩
 ·by_cases h2:r=65533
  ·subst h2;exact⟨-1,zn ha hb',a_⟩
  ·exact⟨-1,Cj ha hb' r a_ hv h2,a_⟩
theorem s7 (t:List UInt8)(h0:t.length≠0):nA (fk t:Int)=true/\0<eN t/\eN t<=t.length/\((fk t:Int)<128->eN t=1/\(aa t 0:Int)=fk t)/\(128<=(fk t:Int)->∀j,j<eN t->128<=aa t j):=by
 have hle:=rZ t;by_cases hn:(aC t).2=0
 ·have h1:=Hy t hn h0;unfold fk eN;rw[if_pos hn,if_pos hn];refine⟨by rw[nz];omega,a_,a_,λh=>by omega,λ_ j hj=>by rw[show j=0 by omega];exact h1⟩
 ·have h1:=EI t hn;unfold fk eN;rw[if_neg hn,if_neg hn];refine⟨h1.2.2,a_,hle.1,λh=> ?_,λh=>h1.2.1 a_⟩;have:=h1.1 a_;omega
theorem xR {G:Glo}{a b:UInt8}(ha:a.toNat<128)(hb':b.toNat<128)(s:List UInt8)(hl:s.length<=8):ak prog G 24 [.str s,.str [a,b]] (.int .i64 (Lib.indexAny s [a,b])):=by
 refine ax func24 call24 λC hC hGL=> ?_;have hS:=wu (G:=G) s.length;have hlen2:([a,b]:List UInt8).length=2:=rfl;repeat' (first|(conv=>whnf);first|refine .w ?_|refine .v ?_|refine eh ?_ ?_<;>(intro hb;try exact dd hb)|apply aT|apply bM|(apply cR<;>intro hb)|(apply cX;intro hbd)|(apply bD;exact hS)|(apply aV (i:=0) rfl;exact hS)|(apply cY;intro bl)|(apply dv;intro va vk vc hva)|(apply du;intro v)|(apply dw;intro bl cap hcap)|apply dI|(apply dq<;>intro hnx)|apply d8 mixed hC hGL be|(apply cq;assumption;exact hS;exact rfl)|(show Rt _ _ _;exact cP)|fail)
 all_goals try conv=>whnf
 refine lp hC hGL (λ(i:Nat)=>[(1,.str [a,b]),(45,.own 0 (.pointer (some ⟨bl,0,none⟩)))]) (λi=>[.iter bl s i]) (λi=>i<=s.length/\Lib.NoAny s [a,b] i) (λi=>s.length-i) 0 ?_ ah rfl ?_
 ·exact⟨Nat.zero_le _,Lib.NoAny.zero _ _⟩
 rintro i ⟨hi,hno⟩;have hz:=λ(h:i<s.length)=>s7 (s.drop i) (by rw[k_];omega);have hR:∃z:Int,i<s.length->ak prog G 40 [.str [a,b],.int .i32 (fk (s.drop i))] (.int .i64 z)/\(0<=z↔(fk (s.drop i):Int)=a.toNat\/(fk (s.drop i):Int)=b.toNat):=by
  by_cases h:i<s.length
  ·obtain⟨z,h1,h2⟩:=zq (G:=G) ha hb' (fk (s.drop i)) (hz h).1;exact⟨z,λ_=>⟨h1,h2⟩⟩
  ·exact⟨0,λh'=>absurd h' h⟩
 obtain⟨z,hR⟩:=hR;repeat' (first|(conv=>whnf);first|refine .w ?_|refine .v ?_|refine eh ?_ ?_<;>(intro hb;try exact dd hb)|apply aT|apply bM|(apply cR<;>intro hb)|(apply cX;intro hbd)|(apply bD;first|exact(hR a_).1)|(apply aV (i:=0) rfl;first|exact(hR a_).1)|(apply cY;intro bl)|(apply dv;intro va vk vc hva)|(apply du;intro v)|(apply dw;intro bl cap hcap)|apply dI|(apply dq<;>intro hnx)|apply d8 mixed hC hGL be|(apply cq;assumption;(first|exact(hR a_).1);exact rfl)|(show Rt _ _ _;exact cP)|fail)
 all_goals try conv=>whnf
 ·obtain⟨z1,z2,z3,z4,z5⟩:=hz hnx;have hr:=(hR hnx).2.1 hb;have h1:=z4 a_;have hx:s[i]? =some s[i]:=y_ hnx;have h2:=dl hx;rw[cm,Nat.add_zero] at h1;refine aj ?_;rw[Lib.indexAny_hit hno hx ((Bl _).2 a_)]
 ·obtain⟨z1,z2,z3,z4,z5⟩:=hz hnx;rw[k_] at z3;have hr:¬((fk (s.drop i):Int)=a.toNat\/(fk (s.drop i):Int)=b.toNat):=λh=>by have:=(hR hnx).2.2 h;omega
  refine cQ (i+eN (s.drop i)) ⟨a_,?_⟩ a_ ⟨rfl,rfl,trivial⟩ rfl;intro j x hj hx;by_cases h:j<i
  ·exact hno j x h hx
  ·have h2:=dl hx;apply I8;by_cases h128:(fk (s.drop i):Int)<128
   ·have h3:=z4 h128;rw[cm,Nat.add_zero] at h3;have:j=i:=by omega
    subst this;omega
   ·have h3:=z5 a_ (j-i) a_;rw[cm,show i+(j-i)=j by omega] at h3;omega
 ·have:i=s.length:=by omega
  subst this;refine aj ?_;rw[Lib.indexAny_none hno];rfl
theorem zt {G:Glo}{a b:UInt8}(ha:a.toNat<128)(hb':b.toNat<128)(s:List UInt8)(h8:8<s.length)(hl:s.length<100000):ak prog G 24 [.str s,.str [a,b]] (.int .i64 (Lib.indexAny s [a,b])):=by
 refine bK rfl call24 ?_;rintro R args ⟨x,t,e,hx,y,t',e',hy,rfl⟩ w _ _;obtain rfl:=aD.1 hx;obtain rfl:=aD.1 hy;subst e';obtain rfl:=fK e;refine(strings_IndexAny_long (λw=>by kernel_rfl) ⟨s.toArray⟩ ⟨#[a,b]⟩ w (by show 2<=2;omega) (by rw[bH];exact h8) (by rw[bH];omega) (by show 2<4294967281;omega) ?_).mono ?_
 ·intro j x hx
  match j with
  |0=>cases hx;exact ha
  |1=>cases hx;exact hb'
  |j+2=>simp at hx
 ·rintro e w' ⟨rfl,rfl⟩;exact⟨rfl,((Below.refl w.heap.size w).alloc (Nat.le_refl _) _).alloc (by show w.heap.size<=(w.heap.push _).size;simp) _⟩
theorem sd {G:Glo}{a b:UInt8}(ha:a.toNat<128)(hb':b.toNat<128)(s:List UInt8)(hl:s.length<100000):ak prog G 24 [.str s,.str [a,b]] (.int .i64 (Lib.indexAny s [a,b])):=by
 by_cases h:s.length<=8
 ·exact xR ha hb' s h
 ·exact zt ha hb' s a_ hl
end
section
def fb (s:List UInt8):Int:=Lib.indexAny s [13,10]
theorem Hx {s:List UInt8}{i:Nat}(h:Lib.NoAny s [13,10] i)(hi:i<s.length)(h1:aa s i≠10/\aa s i≠13):Lib.NoAny s [13,10] (i+1):=by
 intro j x hj hx;by_cases e:j=i
 ·subst e;have:=dl hx;exact I8 (by simp;omega)
 ·exact h j x a_ hx
theorem Kz {s:List UInt8}{i:Nat}(h:Lib.NoAny s [13,10] i)(hi:i<s.length)(h1:aa s i=10\/aa s i=13):fb s=i:=by
 have hx:s[i]? =some s[i]:=y_ hi;have h2:=dl hx;unfold fb;exact Lib.indexAny_hit h hx ((Bl _).2 (by simp;omega))
theorem FR {s:List UInt8}(h:Lib.NoAny s [13,10] s.length):fb s= -1:=by
 unfold fb;exact Lib.indexAny_none h
attribute [local irreducible] bG au aa az aR ab ad
theorem xZ {G:Glo}(s p:List UInt8):ak prog G 25 [.str s,.str p] (.bool (p.isPrefixOf s)):=by
 refine bK rfl call25 ?_;rintro R args ⟨x,t,e,hx,y,t',e',hy,rfl⟩ w hG hs;obtain rfl:=aD.1 hx;obtain rfl:=aD.1 hy;subst e';obtain rfl:=fK e;refine(strings_HasPrefix ⟨s.toArray⟩ ⟨p.toArray⟩ w).mono ?_;rintro e w' ⟨rfl,rfl⟩;exact⟨by simp[Lib.hasPrefix,AVal.conc],Below.refl _ _⟩
end
section
def vo (first:Bool)(c:Int):Bool:=aU c&& !(first&&decide (c<=57))
def eC (first:Bool)(a:Nat)(x:List UInt8):Err:=
 if 0<=fX (λc=> !vo first c) x then .at 3 (a+fX (λc=> !vo first c) x) else if x.length=0 then .at 7 a else if 8<x.length then .at 4 a else .none
def Err.isNone:Err->Bool
 |.none=>true
 |_=>false
def fa:Bool->Nat->List (List UInt8)->Err
 |_,_,[]=>.none
 |first,a,x::xs=>if(eC first a x).isNone then fa false (a+x.length+1) xs else eC first a x
def dG (s:List UInt8):Err:=fa true 0 (bS 45 s)
theorem rz {c:UInt8}:∀{s p:List UInt8},p∈bS c s->c∉p
 |[],p,h=>by simp[bS] at h;subst h;simp
 |x::t,p,h=>by
  by_cases hx:x=c
  ·rw[bS,if_pos hx] at h;rcases List.mem_cons.1 h with rfl|h
   ·simp
   ·exact rz h
  ·rw[bS,if_neg hx] at h;cases h1:bS c t with
   |nil=>exact absurd h1 (pA c t)
   |cons q qs=>
    rw[h1] at h
    rcases List.mem_cons.1 h with rfl|h
    ·have:=rz (s:=t) (p:=q) (c:=c) (by rw[h1];simp)
     simp[this,Ne.symm hx]
    ·exact rz (s:=t) (by rw[h1];simp[h])
theorem RT {c:UInt8}{u v:List UInt8}{x:UInt8}(hu:c∉u)(hx:x≠c):∃q qs,bS c (u++x::v)=(u++x::q)::qs:=by
 obtain⟨p,ps,h1,h2⟩:=wm (v:=x::v) hu;rw[bS,if_neg hx] at h1;cases h3:bS c v with
 |nil=>exact absurd h3 (pA c v)
 |cons q qs=>
  rw[h3] at h1;cases h1;exact⟨_,_,h2⟩
theorem F3 {u v:List UInt8}{j:Nat}(h:j<u.length):aa (u++v) j=aa u j:=by
 unfold aa;simp[List.getD,List.getElem?_append,h]
theorem F2 {u v:List UInt8}{j:Nat}(h:u.length<=j):aa (u++v) j=aa v (j-u.length):=by
 unfold aa;simp[List.getD,List.getElem?_append,show ¬j<u.length by omega]
theorem SW {f:Int->Bool}{u q:List UInt8}{x:UInt8}(hu:∀j,j<u.length->f (aa u j:Int)=false)(hx:f (x.toNat:Int)=true):fX f (u++x::q)=u.length:=by
 refine mf (by simp) ?_ (λj hj=>by rw[F3 hj];exact hu j hj);rw[F2 (Nat.le_refl _),Nat.sub_self];exact hx
theorem ym (s:List UInt8)(k i:Nat)(h1:k<=i)(h2:i<=s.length):s.drop k=(s.drop k).take (i-k)++s.drop i:=by
 have e:=(List.take_append_drop (i-k) (s.drop k)).symm;rw[Q_,show k+(i-k)=i by omega] at e;exact e
theorem Pk {s:List UInt8}{k i:Nat}(h1:k<=i)(h2:i<s.length)(hg:∀j,k<=j->j<i->aa s j≠45/\vo (decide (k=0)) (aa s j:Int)=true)(hc:aa s i≠45)(hb:vo (decide (k=0)) (aa s i:Int)=false)(b:Bool)(hbk:b=decide (k=0)):
  fa b k (bS 45 (s.drop k))= .at 3 i:=by
 subst hbk;have e:=ym s k i h1 a_;rw[A_ h2] at e;have hl:((s.drop k).take (i-k)).length=i-k:=by rw[i_,k_];omega
 have hba:∀j,j<i-k->aa ((s.drop k).take (i-k)) j=aa s (k+j):=λj hj=>by rw[eQ hj,cm]
 have hu:(45:UInt8)∉(s.drop k).take (i-k):=by
  intro hm;obtain⟨j,hj,ej⟩:=D_ hm;rw[hl] at hj;have h3:=(hg (k+j) a_ a_).1;rw[<-hba j hj,bn a_,ej] at h3;exact h3 rfl
 have hx:s[i]≠45:=λh=>hc (by rw[bn h2,h];rfl);obtain⟨q,qs,hs⟩:=RT (v:=s.drop (i+1)) hu hx;rw[<-e] at hs;rw[hs,fa];have hf:fX (λc=> !vo (decide (k=0)) c) ((s.drop k).take (i-k)++s[i]::q)=((i-k:Nat):Int):=by
  rw[SW (f:=λc=> !vo (decide (k=0)) c),hl]
  ·intro j hj;rw[hl] at hj;rw[hba j hj,(hg (k+j) a_ a_).2];rfl
  ·rw[<-bn h2,hb];rfl
 have hp:eC (decide (k=0)) k ((s.drop k).take (i-k)++s[i]::q)= .at 3 i:=by
  unfold eC;rw[hf,if_pos a_,show((k:Nat):Int)+((i-k:Nat):Int)=i by omega]
 rw[hp];rfl
theorem E3 {s:List UInt8}{k i:Nat}(h1:k<=i)(h2:i<=s.length)(hg:∀j,k<=j->j<i->aa s j≠45/\vo (decide (k=0)) (aa s j:Int)=true)(hc:i=s.length\/aa s i=45)(b:Bool)(hbk:b=decide (k=0)):
  fa b k (bS 45 (s.drop k))=if i=k then .at 7 k else if 8<i-k then .at 4 k else if i=s.length then .none else fa false (i+1) (bS 45 (s.drop (i+1))):=by
 subst hbk;have e:=ym s k i h1 a_;have hl:((s.drop k).take (i-k)).length=i-k:=by rw[i_,k_];omega
 have hba:∀j,j<i-k->aa ((s.drop k).take (i-k)) j=aa s (k+j):=λj hj=>by rw[eQ hj,cm]
 have hu:(45:UInt8)∉(s.drop k).take (i-k):=by
  intro hm;obtain⟨j,hj,ej⟩:=D_ hm;rw[hl] at hj;have h3:=(hg (k+j) a_ a_).1;rw[<-hba j hj,bn a_,ej] at h3;exact h3 rfl
 have hs:bS 45 (s.drop k)=(s.drop k).take (i-k)::(if i=s.length then[] else bS 45 (s.drop (i+1))):=by
  by_cases hi:i=s.length
  ·rw[if_pos hi];rw[List.drop_eq_nil_of_le (show s.length<=i by omega),Dc] at e;have hu':(45:UInt8)∉s.drop k:=by rw[e];exact hu
   rw[zT hu'];exact congrArg (λz=>[z]) e
  ·rw[if_neg hi];have hc:=hc.resolve_left hi;have h2:i<s.length:=by omega
   rw[A_ h2] at e;have hx:s[i]=45:=UInt8.toNat_inj.1 (by rw[<-bn h2,hc];rfl);rw[hx] at e;generalize hw:(s.drop k).take (i-k)=w at*
   rw[e,NW hu]
 have hf:fX (λc=> !vo (decide (k=0)) c) ((s.drop k).take (i-k))= -1:=iM λj hj=>by
  rw[hl] at hj;rw[hba j hj,(hg (k+j) a_ a_).2];rfl
 rw[hs,fa];have hp:eC (decide (k=0)) k ((s.drop k).take (i-k))=if i=k then .at 7 k else if 8<i-k then .at 4 k else .none:=by
  unfold eC;rw[hf,if_neg a_,hl];by_cases h3:i=k
  ·rw[if_pos a_,if_pos h3]
  ·rw[if_neg a_,if_neg h3]
 rw[hp,hl];by_cases h3:i=k
 ·rw[if_pos h3,if_pos h3];rfl
 ·rw[if_neg h3,if_neg h3];by_cases h4:8<i-k
  ·rw[if_pos h4,if_pos h4];rfl
  ·rw[if_neg h4,if_neg h4,if_pos (show Err.none.isNone=true from rfl),show k+(i-k)+1=i+1 by omega];by_cases h5:i=s.length
   ·rw[if_pos h5,if_pos h5];rfl
   ·rw[if_neg h5,if_neg h5]
theorem SK {s:List UInt8}{i:Nat}(h:i<s.length):isS ((s.take (i+1)).drop i)=aU (aa s i):=by
 have hl:((s.take (i+1)).drop i).length=1:=by rw[k_,i_];omega
 have hb:aa ((s.take (i+1)).drop i) 0=aa s i:=by rw[cm,eQ a_,Nat.add_zero]
 rw[w_,isS,hl];simp only[l_,ub,hl,n_];constructor
 ·intro h;rw[<-hb];exact h.1 0 a_
 ·intro h;exact⟨λj hj=>by rw[show j=0 by omega,hb];exact h,a_,a_⟩
theorem JW {b:Bool}{c:Int}:vo b c=true↔aU c=true/\(b=true->57<c):=by
 unfold vo;cases b<;>simp
theorem JX {b:Bool}{c:Int}:vo b c=false↔(aU c=false\/(b=true/\c<=57)):=by
 unfold vo;cases b<;>cases aU c<;>simp
attribute [local irreducible] bG au aa az aR ab ad
attribute [local irreducible] bS fa vo isS aU
theorem qV {G:Glo}(s:List UInt8)(hl:s.length<=9223372036854775000):ak prog G 106 [.str s] (dG s).A:=by
 refine ax func106 call106 λC hC hGL=> ?_;have hN:=λi (h:i<s.length)=>pQ (G:=G) ((s.take (i+1)).drop i) (by rw[k_,i_];omega);refine aK ?_;intros;refine lp hC hGL (λ(x:Nat×Nat)=>[(0,.str s),(3,.int .i64 x.2),(4,.int .i64 x.1)]) (λ_=>[]) (λx=>x.2<=x.1/\x.1<=s.length+1/\(x.1=s.length+1->x.2=s.length+1)/\(∀j,x.2<=j->j<x.1->aa s j≠45/\vo (decide (x.2=0)) (aa s j:Int)=true)/\dG s=if x.2=s.length+1 then .none else fa (decide (x.2=0)) x.2 (bS 45 (s.drop x.2))) (λx=>s.length+1-x.1) (0,0) ?_ ah rfl ?_
 ·exact⟨Nat.le_refl _,Nat.zero_le _,λh=>by omega,λj _ h=>absurd h (Uf _),by rw[if_neg a_];rfl⟩
 rintro⟨i,k⟩ ⟨h1,h2,h3,h4,h5⟩;dsimp only at h1 h2 h3 h4 h5 ⊢;by_cases hi:i<s.length
 ·have hN:=hN i hi;rw[SK hi] at hN;have hE:=λh=>E3 h1 a_ h4 (.inr h) _ rfl;have hB:=λhc hb=>Pk h1 hi h4 hc hb _ rfl;rw[if_neg a_] at h5;repeat' (first|(conv=>whnf);first|refine .w ?_|refine .v ?_|refine eh ?_ ?_<;>(intro hb;try exact dd hb)|apply aT|apply bM|(apply cR<;>intro hb)|(apply cX;intro hbd)|(apply bD;exact hN)|(apply aV (i:=0) rfl;exact hN)|(apply cY;intro bl)|(apply dv;intro va vk vc hva)|(apply du;intro v)|(apply dw;intro bl cap hcap)|apply dI|(apply dq<;>intro hnx)|apply d8 mixed hC hGL be|(apply cq;assumption;exact hN;exact rfl)|(show Rt _ _ _;exact cP)|fail)
  all_goals try conv=>whnf
  ·apply aj;rw[h5,hB a_ (JX.2 (.inr ⟨by simp;omega,a_⟩))];rfl
  ·refine cQ (i+1,k) ?_ ?_ ah rfl
   ·refine⟨a_,a_,λh=>by omega,λj g1 g2=> ?_,by rw[if_neg a_];exact h5⟩;by_cases g:j=i
    ·subst g;exact⟨a_,JW.2 ⟨by assumption,λ_=>by omega⟩⟩
    ·exact h4 j g1 a_
   ·dsimp only;omega
  ·refine cQ (i+1,k) ?_ ?_ ah rfl
   ·refine⟨a_,a_,λh=>by omega,λj g1 g2=> ?_,by rw[if_neg a_];exact h5⟩;by_cases g:j=i
    ·subst g;exact⟨a_,JW.2 ⟨by assumption,λh=>by simp at h;omega⟩⟩
    ·exact h4 j g1 a_
   ·dsimp only;omega
  ·apply aj;rw[h5,hB a_ (JX.2 (.inl hb))];rfl
  ·apply aj;have hE:=hE a_;obtain rfl:i=k:=by omega
   rw[h5,hE,if_pos rfl];rfl
  ·apply aj;have hE:=hE a_;rw[h5,hE,if_neg a_,if_pos a_];rfl
  ·have hE:=hE a_;rw[if_neg a_,if_neg a_] at hE;refine cQ (i+1,i+1) ?_ ?_ ah rfl
   ·refine⟨Nat.le_refl _,a_,λ_=>by omega,λj g1 g2=>by omega,?_⟩;rw[h5,hE];dsimp only
    by_cases g:i=s.length
    ·rw[if_pos g,if_pos a_]
    ·rw[if_neg g,if_neg a_];simp
   ·dsimp only;omega
 ·have hE:=λh=>E3 h1 h h4 (.inl a_) _ rfl;refine xw ?_;repeat' first|exact .n|apply Lc.mk
  all_goals intros
  ·apply aj;have hE:=hE a_;rw[if_neg a_] at h5;obtain rfl:i=k:=by omega
   rw[h5,hE,if_pos rfl];rfl
  ·apply aj;have hE:=hE a_;rw[if_neg a_] at h5;rw[h5,hE,if_neg a_,if_pos a_];rfl
  ·have hE:=hE a_;rw[if_neg a_] at h5;rw[if_neg a_,if_neg a_] at hE;refine cQ (i+1,i+1) ?_ ?_ ah rfl
   ·refine⟨Nat.le_refl _,a_,λ_=>by omega,λj g1 g2=>by omega,?_⟩;rw[h5,hE];dsimp only
    by_cases g:i=s.length
    ·rw[if_pos g,if_pos a_]
    ·rw[if_neg g,if_neg a_];simp
   ·dsimp only;omega
  ·apply aj;rw[h5,if_pos (h3 a_)];rfl
end
section
theorem MA {s:List UInt8}{j:Nat}(h:j<s.length):aa s j=s[j].toNat:=by
 simp[aa,List.getD,h]
theorem Xi {c:UInt8}{k:Nat}(hk:k<256):c=UInt8.ofNat k↔c.toNat=k:=by
 constructor
 ·rintro rfl;rw[UInt8.toNat_ofNat_of_lt' hk]
 ·intro h;rw[<-h,UInt8.ofNat_toNat]
def escF (c:UInt8):List UInt8:=if c=92 then[92,92] else if c=44 then[92,44] else if c=59 then[92,59] else if c=10 then[92,110] else[c]
def escS (s:List UInt8):List UInt8:=s.flatMap escF
theorem VZ:escF 92=[92,92]:=rfl
theorem V1:escF 44=[92,44]:=rfl
theorem V0:escF 59=[92,59]:=rfl
theorem V2:escF 10=[92,110]:=rfl
theorem FD {c:UInt8}(h0:c.toNat≠92)(h1:c.toNat≠44)(h2:c.toNat≠59)(h3:c.toNat≠10):escF c=[c]:=by
 unfold escF;rw[if_neg (by rintro rfl;exact h0 rfl),if_neg (by rintro rfl;exact h1 rfl),if_neg (by rintro rfl;exact h2 rfl),if_neg (by rintro rfl;exact h3 rfl)]
theorem PV:escS []=[]:=rfl
theorem Mg (c:UInt8)(s:List UInt8):escS (c::s)=escF c++escS s:=rfl
theorem PX (s t:List UInt8):escS (s++t)=escS s++escS t:=by simp[escS]
theorem PY (c:UInt8):1<=(escF c).length/\(escF c).length<=2:=by
 unfold escF
 (repeat' split)<;>simp
theorem sl (s:List UInt8):s.length<=(escS s).length/\(escS s).length<=2*s.length:=by
 induction s with
 |nil=>exact⟨Nat.le_refl _,Nat.le_refl _⟩
 |cons c t ih=>
  have:=PY c;rw[Mg,d_,j_];omega
theorem Mf {s:List UInt8}{i:Nat}(h:i<s.length):escS (s.take (i+1))=escS (s.take i)++escF s[i]:=by
 rw[x_ h,PX];simp[escS]
def NP (N:Nat)(a0 a1 a2 a3 t:AVal):List AVal:=(((((List.replicate N (.raw (.slice none 0 0))).set 10 a0).set 59 a1).set 44 a2).set 92 a3)++[t]
def qe (a0 a1 a2 a3 t:AVal):List AVal:=NP 256 a0 a1 a2 a3 t
theorem NO (N:Nat)(a0 a1 a2 a3 t:AVal):(NP N a0 a1 a2 a3 t)[N]? =some t:=by
 unfold NP;rw[G_ (by simp)];simp
theorem Dx (a0 a1 a2 a3 t:AVal):(qe a0 a1 a2 a3 t)[256]? =some t:=NO 256 a0 a1 a2 a3 t
theorem NM {N n:Nat}{a0 a1 a2 a3 t:AVal}(hn:n<N):(NP N a0 a1 a2 a3 t)[n]? =some (if n=92 then a3 else if n=44 then a2 else if n=59 then a1 else if n=10 then a0 else .raw (.slice none 0 0)):=by
 unfold NP;rw[H_ (by simpa using hn)];by_cases h3:n=92
 ·subst h3;rw[List.getElem?_set_self (by simpa using hn),if_pos rfl]
 ·rw[if_neg h3,M_ (Ne.symm h3)]
  by_cases h2:n=44
  ·subst h2;rw[List.getElem?_set_self (by simpa using hn),if_pos rfl]
  ·rw[if_neg h2,M_ (Ne.symm h2)]
   by_cases h1:n=59
   ·subst h1;rw[List.getElem?_set_self (by simpa using hn),if_pos rfl]
   ·rw[if_neg h1,M_ (Ne.symm h1)]
    by_cases h0:n=10
    ·subst h0;rw[List.getElem?_set_self (by simpa using hn),if_pos rfl]
    ·rw[if_neg h0,M_ (Ne.symm h0)]
     simp[hn]
theorem mI {n:Nat}{a0 a1 a2 a3 t:AVal}(hn:n<256):(qe a0 a1 a2 a3 t)[n]? =some (if n=92 then a3 else if n=44 then a2 else if n=59 then a1 else if n=10 then a0 else .raw (.slice none 0 0)):=NM (N:=256) hn
end
section
def joinT (l:List (List UInt8)):List UInt8:=Lib.join (l.map escS) [44]
def sb (l:List (List UInt8)):Err:=if l=[] then .errno 8 else .none
theorem yW {l:List (List UInt8)}{k:Nat}{f:List UInt8->List UInt8}(h:k<l.length):(l.map f).take (k+1)=(l.map f).take k++[f (l.getD k [])]:=by
 rw[x_ (by simpa using h),List.getElem_map,f_,y_ h];rfl
theorem Pj (l:List (List UInt8)):Lib.lens (l.map escS)<=2*Lib.lens l:=by
 induction l with
 |nil=>exact Nat.le_refl _
 |cons x r ih=>
  have h1:=(sl x).2;have e1:Lib.lens (x::r)=x.length+Lib.lens r:=by simp[Lib.lens]
  have e2:Lib.lens ((x::r).map escS)=(escS x).length+Lib.lens (r.map escS):=by simp[Lib.lens]
  omega
theorem pT (l:List (List UInt8)):(joinT l).length<=l.length+2*Lib.lens l:=by
 cases l with
 |nil=>simp[joinT,Lib.join_nil]
 |cons x r=>
  have h:=Pj (x::r);unfold joinT;rw[S_] at h ⊢;rw[Lib.join_length,Rf,C_,j_];omega
def eA (L:List (List (List UInt8))):Nat:=L.findIdx λl=>l.isEmpty
theorem rY (L:List (List (List UInt8))):eA L<=L.length:=List.findIdx_le_length
theorem tt {L:List (List (List UInt8))}{k:Nat}(h:k<L.length)(hk:k<=eA L)(hn:L.getD k []=[]):eA L=k:=by
 rcases YY k (eA L) with h1|h1
 ·have:=List.not_of_lt_findIdx h1;rw[f_,y_ h] at hn;simp only[Z_] at hn;rw[hn] at this;simp at this
 ·omega
theorem qQ {L:List (List (List UInt8))}{k:Nat}(h:k<L.length)(hk:k<=eA L)(hn:L.getD k []≠[]):k+1<=eA L:=by
 rcases YY k (eA L) with h1|h1
 ·exact h1
 ·exfalso;have e:eA L=k:=by omega
  have h2:L.findIdx (λl=>l.isEmpty)<L.length:=by show eA L<_;omega
  have:=List.findIdx_getElem (w:=h2);rw[f_,y_ h] at hn;apply hn;simp only[Z_];have e2:L[L.findIdx λl=>l.isEmpty]=L[k]:=by congr 1
  rw[e2] at this;exact List.isEmpty_iff.1 this
def iq (L:List (List (List UInt8))):List UInt8:=if eA L<L.length then[] else Lib.join (L.map joinT) [59]
def jf (L:List (List (List UInt8))):Err:=if L=[] then .errno 8 else if eA L<L.length then .at 8 (eA L:Nat) else .none
def gM (L:List (List (List UInt8)))(i:Nat):AVal:=.list 1 (L.getD i []).length (aB (L.getD i []))
structure Small (L:List (List (List UInt8))):Prop where
 n:L.length<=2000000
 k:∀k,(L.getD k []).length<=2000000/\Lib.lens (L.getD k [])<=2000000
theorem SF {xs:List (List UInt8)}{M:Nat}(h:∀x,x∈xs->x.length<=M):Lib.lens xs<=xs.length*M:=by
 induction xs with
 |nil=>simp[Lib.lens]
 |cons x r ih=>
  have e1:Lib.lens (x::r)=x.length+Lib.lens r:=by simp[Lib.lens]
  have h1:=h x (by simp);have h2:=ih (λy hy=>h y (by simp[hy]));rw[j_,Nat.add_mul];omega
theorem xJ {xs:List (List UInt8)}{M:Nat}{c:UInt8}(h:∀x,x∈xs->x.length<=M)(hn:xs.length<=2000000)(hM:M<=6000000):(Lib.join xs [c]).length<=140737488355328:=by
 cases xs with
 |nil=>simp[Lib.join_nil]
 |cons x r=>
  have h1:=SF h;rw[Lib.join_length,Rf];have h2:(x::r).length*M<=2000000*6000000:=Nat.mul_le_mul hn hM;rw[j_] at hn;omega
theorem wo {L:List (List (List UInt8))}(h:Small L):(Lib.join (L.map joinT) [59]).length<=140737488355328:=by
 refine xJ (M:=6000000) (λx hx=> ?_) (by rw[C_];exact h.n) (Nat.le_refl _);obtain⟨l,hl,rfl⟩:=List.mem_map.1 hx;obtain⟨k,hk,rfl⟩:=D_ hl;have h1:=h.k k;rw[f_,y_ hk] at h1;simp only[Z_] at h1;have:=pT L[k];omega
theorem ot {L:List (List (List UInt8))}{k:Nat}{f:List (List UInt8)->List UInt8}(h:k<L.length):(L.map f).take (k+1)=(L.map f).take k++[f (L.getD k [])]:=by
 rw[x_ (by simpa using h),List.getElem_map,f_,y_ h];rfl
end
section
def Err.b:Err->Err
 |.none=>.none
 |.errno e=>.errno e
 |.at e _=>.errno e
theorem Err.b_e (x:Err):x.b.e=x.e:=by cases x<;>rfl
theorem Err.b_p (x:Err):x.b.p= -1:=by cases x<;>rfl
structure Vl where
 t:Int
 s:List UInt8
 L:List (List (List UInt8))
 st:Stm
 n:Int
def Vl.A (v:Vl):AVal:=.agg [.int .i64 v.t,.str v.s,.list 1 v.L.length (gM v.L),.int .i64 v.st.y,.int .i64 v.st.m,.int .i64 v.st.d,.int .i64 v.st.h,.int .i64 v.st.i,.int .i64 v.st.s,.bool v.st.z,.int .i64 v.st.o,.int .i64 v.n]
def mC (t:Stm):Bool:=decide (t.y=0/\t.m=0/\t.d=0/\t.h=0/\t.i=0/\t.s=0/\t.z=false/\t.o=0)
def Vl.only (v:Vl):Bool:=decide ((v.s.length=0\/v.t=1\/v.t=4\/v.t=7\/v.t=8)/\(v.L.length=0\/v.t=2\/v.t=3)/\(mC v.st=true\/v.t=5)/\(v.n=0\/v.t=6))
def PD (L:List (List (List UInt8))):Bool:=L.all λl=>l.all (fd true)
def uT (t:Int)(L:List (List (List UInt8))):Err:=if L.length=0\/(t=2/\L.length≠1) then .errno 8 else if eA L<L.length then .errno 8 else if PD L then .none else .errno 3
def Vl.E (v:Vl):Err:=if v.t<1\/9<=v.t\/v.only=false then .errno 1
 else if v.t=2\/v.t=3 then uT v.t v.L
 else if v.t=4 then(gx v.s).b
 else if v.t=5 then v.st.E
 else if v.t=6 then mo v.n
 else if v.t=7 then(dG v.s).b
 else if fd (decide (v.t=1)) v.s then .none else .errno 3
def Vl.T (v:Vl):List UInt8:=match v.E with
 |.none=>if v.t=1 then escS v.s else if v.t=2\/v.t=3 then iq v.L else if v.t=5 then v.st.T else if v.t=6 then ko v.n else v.s
 |_=>[]
end
section
attribute [local irreducible] bG au az aR ab ad aa
abbrev NF (a b c:Int):AVal:=.list 1 3 (bT [(0,.int .i64 a),(1,.int .i64 b),(2,.int .i64 c)])
theorem pr {G:Glo}(a b c:Int):ak prog G 203 [NF a b c] (.str (yP (a6 a) (a6 b) (a6 c))):=by
 by_cases h1:a= -1;all_goals by_cases h2:b= -1
 all_goals by_cases h3:c= -1
 all_goals
  refine ax func203 call203 λC hC hGL=> ?_;refine aK ?_;intros;refine pO (m:=3) hC hGL rfl rfl a_ rfl rfl rfl rfl rfl rfl rfl rfl (λbo=> ?_);refine aK ?_;intros;refine mQ hC hGL 4 ?_;refine aK ?_;intros;refine oA ⟨rfl,rfl⟩ ?_;apply aj;simp only[a6,h1,h2,h3,Za,Zb,not_false_eq_true,decide_true,decide_false];rfl
theorem De {G:Glo}(n lo hi:Int):ak prog G 205 [.int .i64 n,.int .i64 lo,.int .i64 hi] (.bool (fE n lo hi)):=by
 refine ax func205 call205 λC hC hGL=> ?_;refine xw ?_;repeat' first|exact .n|apply Lc.mk
 all_goals intros
 all_goals (apply aj;refine congrArg AVal.bool ?_;rw[w_];simp only[vS,reduceCtorEq,false_iff,true_iff,Bool.not_eq_true',oP];omega)
theorem KT {G:Glo}(y m:Int):ak prog G 204 [.int .i64 y,.int .i64 m] (.int .i64 (u5 y m)):=by
 refine ax func204 call204 λC hC hGL=> ?_;refine xw ?_;repeat' first|exact .n|apply Lc.mk
 all_goals intros
 all_goals (apply aj;refine congrArg (AVal.int .i64) ?_;unfold u5;(repeat' split)<;>omega)
theorem M7 {G:Glo}(n:Int)(h0:0<=n)(h1:n<100):ak prog G 231 [.int .i64 n,.int .i64 2] (.str (eB n)):=by
 refine ax func231 call231 λC hC hGL=> ?_;refine aK ?_;intros;refine pO (m:=2) hC hGL rfl rfl a_ rfl rfl rfl rfl rfl rfl rfl rfl (λbo=> ?_);refine aK ?_;intros;refine mQ hC hGL 3 ?_;refine aK ?_;intros;refine oA ⟨rfl,rfl⟩ ?_;apply aj;refine congrArg AVal.str ?_;show[UInt8.ofNat (48+n/10%10).toNat,UInt8.ofNat (48+n%10).toNat]=eB n;rw[show n/10%10=n/10 by omega];rfl
theorem KR {G:Glo}(n:Int)(h0:0<=n)(h1:n<10000):ak prog G 231 [.int .i64 n,.int .i64 4] (.str (kK n)):=by
 refine ax func231 call231 λC hC hGL=> ?_;refine aK ?_;intros;refine pO (m:=4) hC hGL rfl rfl a_ rfl rfl rfl rfl rfl rfl rfl rfl (λbo=> ?_);refine aK ?_;intros;refine mQ hC hGL 5 ?_;refine aK ?_;intros;refine oA ⟨rfl,rfl⟩ ?_;apply aj;refine congrArg AVal.str ?_;unfold kK cb;rw[show n/1000=n/10/10/10%10 by omega,show n/100%10=n/10/10%10 by omega];rfl
theorem Oo {G:Glo}(y m:Int):ak prog G 189 [.int .i64 y,.int .i64 m] (.int .i64 (u5 y m)):=by
 have hw:=fF (G:=G) m 1 12;have h4:y.tmod 400=0->y.tmod 4=0/\y.tmod 100=0:=λh=>by
  have hd:=Int.dvd_of_tmod_eq_zero h;exact⟨Int.tmod_eq_zero_of_dvd (Int.dvd_trans b_ hd),Int.tmod_eq_zero_of_dvd (Int.dvd_trans b_ hd)⟩
 by_cases hm:1<=m/\m<=12
 ·rw[show(decide (1<=m)&&decide (m<=12))=true by simp[hm]] at hw;rcases(show m=1\/m=2\/m=3\/m=4\/m=5\/m=6\/m=7\/m=8\/m=9\/m=10\/m=11\/m=12 by omega) with rfl|rfl|rfl|rfl|rfl|rfl|rfl|rfl|rfl|rfl|rfl|rfl
  all_goals
   refine ax func189 call189 λC hC hGL=> ?_;refine xw ?_;repeat' first|exact .n|apply Lc.mk
   all_goals intros
   all_goals (apply aj;refine congrArg (AVal.int .i64) ?_;unfold u5;(repeat' split)<;>first|rfl|omega)
 ·rw[show(decide (1<=m)&&decide (m<=12))=false by simp;omega] at hw;refine ax func189 call189 λC hC hGL=> ?_;refine aK ?_;intros;apply aj;refine congrArg (AVal.int .i64) ?_;unfold u5;rw[if_pos a_]
end
section
theorem jB {G:Glo}{m:Int}(hU:ab G (bP m))(s t:List UInt8)(hl:s.length<100000):ak prog G 145 [.str s,.str t] (.bool (Lib.contains s t)):=by
 refine bK rfl call145 ?_;rintro R args ⟨x,u,e,hx,y,u',e',hy,rfl⟩ w hG hs;obtain rfl:=aD.1 hx;obtain rfl:=aD.1 hy;subst e';obtain rfl:=fK e;refine(strings_Contains ⟨s.toArray⟩ ⟨t.toArray⟩ m w (by show s.toArray.size<_;simp;omega) (oO hU hG hs)).mono ?_;rintro e w' ⟨rfl,rfl⟩;exact⟨by simp[AVal.conc],Below.refl _ _⟩
end
section
def Wf:List UInt8:=[32,45,45,45,32,57,45,45,32,57,57,45,32,57,57,57,32,45,57,45,32,45,57,57,32,45,45,57,32]
def XZ:List UInt8:=[32,57,57,57,32,45,57,57,32,45,45,57,32]
def Xl:List UInt8:=[32,57,45,45,32,57,57,45,32,57,57,57,32]
def X1 (l:List UInt8)(a b c:Bool):Bool:=Lib.contains l (([32]++yP a b c)++[32])
theorem cnA:∀a b c:Bool,X1 Wf a b c=decide (0<=nf a b c):=by decide
theorem cnD:∀a b c:Bool,X1 XZ a b c=decide (nf a b c=3\/nf a b c=5\/nf a b c=6):=by decide
theorem cnT:∀a b c:Bool,X1 Xl a b c=decide (1<=nf a b c/\nf a b c<=3):=by decide
theorem If:∀a b c:Bool,yP a b c=[45,45,45]↔nf a b c=0:=by decide
theorem Ue:∀a b c d e f:Bool,yP a b c=yP d e f↔nf a b c=nf d e f:=by decide
theorem IZ:∀a b c:Bool, -1<=nf a b c/\nf a b c<=6:=by decide
def zH (d t:Int)(z:Bool)(h o:Int):Prop:=(0<=d/\0<=t/\¬(d=0/\t=0)/\(0<d/\0<t->(d=3\/d=5\/d=6)/\t<=3))/\(if z then h≠ -1 else o=0)
theorem mg (t:Stm):t.frm=true↔zH t.dn t.tn t.z t.h t.o:=by
 unfold Stm.frm zH Vu;rw[l_,n_];refine and_congr Iff.rfl ?_;cases t.z<;>simp[oo]
theorem vA {G:Glo}{m:Int}(hU:ab G (bP m))(l:List UInt8)(hl:l.length<100000)(a b c:Bool):ak prog G 145 [.str l,.str (([32]++yP a b c)++[32])] (.bool (X1 l a b c)):=jB hU l _ hl
theorem E_3 {t:Stm}(h:¬zH t.dn t.tn t.z t.h t.o):t.E= .errno 3:=by
 unfold Stm.E;rw[if_neg (λk=>h ((mg t).1 k))]
theorem E_2 {t:Stm}(h:zH t.dn t.tn t.z t.h t.o)(k:t.rng=false):t.E= .errno 2:=by
 unfold Stm.E;rw[if_pos ((mg t).2 h),k];rfl
theorem E_0 {t:Stm}(h:zH t.dn t.tn t.z t.h t.o)(k:t.rng=true):t.E= .none:=by
 unfold Stm.E;rw[if_pos ((mg t).2 h),k];rfl
attribute [local irreducible] bG au az aR ab ad aa
attribute [local irreducible] yP X1 fE a6 u5 vK
theorem ll {G:Glo}{m:Int}(hU:ab G (bP m))(t:Stm):ak prog G 157 [t.A] t.E.A:=by
 have h1:=pr (G:=G) t.y t.m t.d;have h2:=pr (G:=G) t.h t.i t.s;have h3a:=vA (G:=G) hU Wf b_ (a6 t.y) (a6 t.m) (a6 t.d);have h3b:=vA (G:=G) hU XZ b_ (a6 t.y) (a6 t.m) (a6 t.d);have h4a:=vA (G:=G) hU Wf b_ (a6 t.h) (a6 t.i) (a6 t.s);have h4b:=vA (G:=G) hU Xl b_ (a6 t.h) (a6 t.i) (a6 t.s);rw[cnA] at h3a h4a;rw[cnD] at h3b;rw[cnT] at h4b;have k1:=If (a6 t.y) (a6 t.m) (a6 t.d);have k2:=If (a6 t.h) (a6 t.i) (a6 t.s);have k3:=Ue (a6 t.y) (a6 t.m) (a6 t.d) (a6 t.h) (a6 t.i) (a6 t.s);have k4:=IZ (a6 t.y) (a6 t.m) (a6 t.d);have k5:=IZ (a6 t.h) (a6 t.i) (a6 t.s);have h5:=KT (G:=G) t.y t.m;have h6:=λn lo hi=>De (G:=G) n lo hi;have h7:=qG (G:=G) t.o;have l1:(yP (a6 t.y) (a6 t.m) (a6 t.d)).length=3:=by unfold yP;rfl
 have l2:(yP (a6 t.h) (a6 t.i) (a6 t.s)).length=3:=by unfold yP;rfl
 refine ax func157 call157 λC hC hGL=> ?_;refine ao ?_;intros;refine bh mixed hC hGL false (λ(_:Unit)=>[(1,.rop [.int .i64 t.y,.int .i64 t.m,.int .i64 t.d,.int .i64 t.h,.int .i64 t.i,.int .i64 t.s,.bool t.z,.int .i64 t.o] 0),(2,.raw .nilIface),(3,.str (yP (a6 t.y) (a6 t.m) (a6 t.d))),(4,.str (yP (a6 t.h) (a6 t.i) (a6 t.s)))]) (λ_=>[]) .p17 be ?_ ?_
 ·refine xn ?_;repeat' first|exact .n|apply Lc.mk
  all_goals intros
  all_goals exact⟨(),⟨rfl,rfl,rfl,rfl,trivial⟩,rfl⟩
 intro _;clear h1 h2;have hE3:=λh=>E_3 (t:=t) h;have hE2:=λh k=>E_2 (t:=t) h k;have hE0:=λh k=>E_0 (t:=t) h k;unfold zH Stm.dn Stm.tn at hE3 hE2 hE0;unfold Stm.rng Stm.day at hE2 hE0;cases hz:t.z;all_goals
  rw[hz] at hE3 hE2 hE0;simp only[Bu,Zd,Zc] at hE3 hE2 hE0;repeat' (first|(conv=>whnf);first|refine .w ?_|refine .v ?_|refine eh ?_ ?_<;>(intro hb;try exact dd hb)|apply aT|apply bM|(apply cR<;>intro hb)|(apply cX;intro hbd)|(apply bD;first|exact h3a|exact h3b|exact h4a|exact h4b|exact h5|exact h6 _ _ _|exact h7)|(apply aV (i:=0) rfl;first|exact h3a|exact h3b|exact h4a|exact h4b|exact h5|exact h6 _ _ _|exact h7)|(apply cY;intro bl)|(apply dv;intro va vk vc hva)|(apply du;intro v)|(apply dw;intro bl cap hcap)|apply dI|(apply dq<;>intro hnx)|exact True.intro|(apply pk;intro C hC)|apply pi|apply oJ|(apply oK;exact rfl)|(show Rt _ _ _;exact cP)|fail)
  all_goals try conv=>whnf
  all_goals
   clear h3a h3b h4a h4b h5 h6 h7;simp only[Za,If,Ue,n_,YU] at*
   apply aj;generalize nf (a6 t.y) (a6 t.m) (a6 t.d)=dn at*
   generalize nf (a6 t.h) (a6 t.i) (a6 t.s)=tn at*
   generalize vK t.o=zr at*
   first|rw[if_neg (by assumption)] at hE2 hE0|rw[if_pos (by assumption)] at hE2 hE0|skip
   generalize fE t.m 1 12=w1 at*
   generalize fE t.d 1 (u5 t.y t.m)=w2 at*
   generalize fE t.d 1 31=w8 at*
   generalize fE t.h 0 23=w3 at*
   generalize fE t.i 0 59=w4 at*
   generalize fE t.s 0 59=w5 at*
   generalize fE t.y 0 9999=w6 at*
   first
    |(rw[hE3 a_];rfl)
    |(rw[hE2 a_ (by simp[*])];rfl)
    |(rw[hE0 a_ (by simp[*])];rfl)
end
section
set_option maxHeartbeats 8000000
attribute [local irreducible] bG au az aR ab ad
theorem Ft (n:Int):(kK n).length=4:=rfl
theorem iW (n:Int):(eB n).length=2:=rfl
theorem IX (n:Int):(ko n).length<=100:=by
 unfold ko
 (repeat' split)<;>simp[iW]
theorem v8 {t:Stm}(hf:t.frm=true){P:Prop}(h:Vu (nf (a6 t.y) (a6 t.m) (a6 t.d)) (nf (a6 t.h) (a6 t.i) (a6 t.s))=true->(t.z=true->a6 t.h=true)->P):P:=by
 unfold Stm.frm at hf;rw[l_] at hf;refine h hf.1 λhz=> ?_;have:=hf.2;rw[hz] at this;exact this
theorem XA {d t:Int}(h:Vu d t=true):0<=d:=by
 unfold Vu at h;exact(of_decide_eq_true h).1
theorem Xz {d t:Int}(h:Vu d t=true):0<=t:=by
 unfold Vu at h;exact(of_decide_eq_true h).2.1
theorem Qg (t:Stm):(qC (a6 t.y) (a6 t.m) (a6 t.d) t.y t.m t.d).length<=8:=by
 cases a6 t.y<;>cases a6 t.m<;>cases a6 t.d<;>simp[qC,kK,eB,cb]
theorem ND (t:Stm):(oq (a6 t.h) (a6 t.i) (a6 t.s) t.h t.i t.s).length<=8:=by
 cases a6 t.h<;>cases a6 t.i<;>cases a6 t.s<;>simp[oq,eB,cb]
def Stm.R (t:Stm):List AVal:=[.int .i64 t.y,.int .i64 t.m,.int .i64 t.d,.int .i64 t.h,.int .i64 t.i,.int .i64 t.s,.bool t.z,.int .i64 t.o]
attribute [local irreducible] kK eB ko
theorem yS {G:Glo}{m:Int}(hU:ab G (bP m))(t:Stm)(hf:t.frm=true)(hr:t.rng=true)(hE:t.E= .none):ak prog G 209 [t.A] (.tuple [.str t.txt,Err.none.A]):=by
 have h0:=ll (G:=G) hU t;rw[hE] at h0
 have h1:=pr (G:=G) t.y t.m t.d
 have h2:=pr (G:=G) t.h t.i t.s
 have h3:=vL (G:=G) t.o
 have hc:=call231
 have k1:=λn a b=>KR (G:=G) n a b
 have k2:=λn a b=>M7 (G:=G) n a b
 have l1:=Ft t.y
 have l2:=iW t.m
 have l3:=iW t.d
 have l4:=iW t.h
 have l5:=iW t.i
 have l6:=iW t.s
 have l7:=IX t.o
 have r:=hr
 unfold Stm.rng at r
 simp only[l_,vS] at r
 obtain⟨r1,r2,r3,r4,r5,r6, -⟩:=r
 have r3':t.d= -1\/1<=t.d/\t.d<=31:=by
  refine r3.imp_right λh=>⟨h.1,?_⟩
  have:=h.2
  unfold Stm.day u5 at this
  (repeat' split at this)<;>omega
 clear r3
 have hx:t.txt=qC (a6 t.y) (a6 t.m) (a6 t.d) t.y t.m t.d++oq (a6 t.h) (a6 t.i) (a6 t.s) t.h t.i t.s++(if t.z then ko t.o else[]):=rfl
 have hD:=Qg t
 have hT:=ND t
 refine v8 hf λk kz=> ?_
 refine mh func209 call209 λC hC hGL=> ?_
 refine cut hC hGL [(1,.rop t.R 0)] [] True ?_ λ_=> ?_
 ·exact bB
 refine cut hC hGL [(1,.rop t.R 0)] [] True ?_ λ_=> ?_
 ·exact bB
 refine cut hC hGL [(1,.rop t.R 0),(5,.str [])] [] True ?_ λ_=> ?_
 ·exact bB
 refine cut hC hGL [(1,.rop t.R 0),(5,.str (qC (a6 t.y) (a6 t.m) (a6 t.d) t.y t.m t.d))] [] True ?_ λ_=> ?_
 ·clear h0 h2 h3 hx hD hT kz l4 l5 l6 l7 r4 r5 r6
  cases e1:a6 t.y
  all_goals cases e2:a6 t.m
  all_goals cases e3:a6 t.d
  all_goals rw[e1,e2,e3] at k h1
  all_goals try exact absurd (XA k) b_
  all_goals clear k
  all_goals simp only[yP,W1,Zc,Bu,Zd] at h1
  all_goals simp only[oo,NC] at e1 e2 e3
  all_goals exact bB
 generalize qC (a6 t.y) (a6 t.m) (a6 t.d) t.y t.m t.d=D at*
 clear h0 h1 l1 l2 l3 r1 r2 r3'
 refine cut hC hGL [(1,.rop t.R 0),(5,.str D),(6,.str (yP (a6 t.h) (a6 t.i) (a6 t.s)))] [] True ?_ λ_=> ?_
 ·exact bB
 refine cut hC hGL [(1,.rop t.R 0),(5,.str D),(6,.str (yP (a6 t.h) (a6 t.i) (a6 t.s)))] [] (yP (a6 t.h) (a6 t.i) (a6 t.s)≠[45,45,45]) ?_ λhn=> ?_
 ·refine xw ?_
  repeat' first|exact .n|apply Lc.mk
  all_goals intros
  all_goals first
   |contradiction
   |(apply aj;refine congrArg (λl=>AVal.tuple [.str l,Err.none.A]) ?_;have hq:=(show yP (a6 t.h) (a6 t.i) (a6 t.s)=[45,45,45] by assumption);rw[hx];revert hq kz;cases a6 t.h<;>cases a6 t.i<;>cases a6 t.s<;>simp[yP,W1,oq]<;>(intro a b;rw[a] at b;cases b))
 refine cut hC hGL [(1,.rop t.R 0),(5,.str (D++[84])),(6,.str (yP (a6 t.h) (a6 t.i) (a6 t.s)))] [] True ?_ λ_=> ?_
 ·exact bB
 refine cut hC hGL [(1,.rop t.R 0),(5,.str (D++[84])),(6,.str (yP (a6 t.h) (a6 t.i) (a6 t.s))),(7,.bool false)] [] True ?_ λ_=> ?_
 ·exact bB
 refine gu hC hGL (λq:List UInt8=>[(1,.rop t.R 0),(5,.str q)]) (λ_=>[]) (λq=>q=D++oq (a6 t.h) (a6 t.i) (a6 t.s) t.h t.i t.s) ?_ λq hq=> ?_
 ·clear hx kz hT h3
  cases e4:a6 t.h
  all_goals cases e5:a6 t.i
  all_goals cases e6:a6 t.s
  all_goals rw[e4,e5,e6] at k hn
  all_goals try exact absurd (Xz k) b_
  all_goals try exact absurd rfl hn
  all_goals clear k hn
  all_goals simp only[oo,NC] at e4 e5 e6
  all_goals simp only[yP,W1,Zc,Bu,Zd]
  all_goals
   refine aK ?_
   refine mQ hC hGL 4 ?_
   refine aK ?_
   intros
   refine aZ hC hGL (mN (i:=0) rfl rfl rfl rfl rfl rfl rfl (show _<3 by decide) rfl rfl) rfl rfl ?_
   refine aK ?_
   intros
   refine aZ hC hGL (mN (i:=1) rfl rfl rfl rfl rfl rfl rfl (show _<3 by decide) rfl rfl) rfl rfl ?_
   refine aK ?_
   intros
   refine aZ hC hGL (mN (i:=2) rfl rfl rfl rfl rfl rfl rfl (show _<3 by decide) rfl rfl) rfl rfl ?_
   refine aK ?_
   intros
   refine cy _ ?_
   simp only[oq,An]
 subst hq
 refine gu hC hGL (λq:List UInt8=>[(1,.rop t.R 0),(5,.str q)]) (λ_=>[]) (λq=>q=t.txt) ?_ λq hq=> ?_
 ·rw[hx]
  refine xw ?_
  repeat' first|exact .n|apply Lc.mk
  all_goals intros
  all_goals first
   |(refine cy _ ?_;rw[if_pos (by assumption)])
   |(refine cy _ ?_;rw[if_neg (by rw[show t.z=false by assumption];decide),Dc])
 subst hq
 exact ay hC hGL bB
theorem Gz {G:Glo}{m:Int}(hU:ab G (bP m))(t:Stm):ak prog G 209 [t.A] (.tuple [.str t.T,t.E.A]):=by
 cases hf:t.frm with
 |true=>
  cases hr:t.rng with
  |true=>
   have hE:t.E= .none:=by unfold Stm.E;rw[hf,hr];rfl
   rw[hE,show t.T=t.txt by unfold Stm.T;rw[hf,hr];rfl];exact yS hU t hf hr hE
  |false=>
   have h0:=ll (G:=G) hU t;have hE:t.E= .errno 2:=by unfold Stm.E;rw[hf,hr];rfl
   rw[hE] at h0 ⊢;rw[show t.T=[] by unfold Stm.T;rw[hf,hr];rfl];refine ax func209 call209 λC hC hGL=> ?_;exact bB
 |false=>
  have h0:=ll (G:=G) hU t;have hE:t.E= .errno 3:=by unfold Stm.E;rw[hf];rfl
  rw[hE] at h0 ⊢;rw[show t.T=[] by unfold Stm.T;rw[hf];rfl];refine ax func209 call209 λC hC hGL=> ?_;exact bB
end
section
def j3 (i:Nat):List UInt8:=[[],[97],[97,98],[97,98,99],[98],[98,99],[99]].getD i []
def bQ (i:Nat):List UInt8:=[[],[57,57,57,57],[57,57,57,57,45,57,57],[57,57,57,57,57,57,57,57],[45,45,57,57],[45,45,57,57,57,57],[45,45,45,57,57]].getD i []
def aX (i:Nat):List UInt8:=[[],[57,57],[57,57,57,57],[57,57,57,57,57,57],[45,57,57],[45,57,57,57,57],[45,45,57,57]].getD i []
def kT (i:Nat):AVal:=.agg [.str (j3 i),.str (bQ i),.str (aX i)]
def shapesTy:List (Nat×List AVal):=[(1,[.list 3 7 kT])]
set_option maxHeartbeats 8000000
attribute [local irreducible] bG au az aR ab ad
theorem pH {G:Glo}(hGL:ab G shapesTy)(a b c:Int):ak prog G 188 [NF a b c] (.int .i64 (nf (a6 a) (a6 b) (a6 c))):=by
 by_cases h1:a= -1;all_goals by_cases h2:b= -1
 all_goals by_cases h3:c= -1
 all_goals
  refine uZ func188 call188 rfl rfl rfl rfl hGL ?_;intro C hC;refine aK ?_;intros;refine mQ hC hGL 4 ?_;refine aK ?_;intros;refine mQ hC hGL 8 ?_;refine xw ?_;repeat' first|exact .n|apply Lc.mk
  all_goals intros
  all_goals (apply aj;simp only[a6,h1,h2,h3,Za,Zb,not_false_eq_true,decide_true,decide_false];rfl)
end
end Go.Proofs.YtnbaflecdkgihaaGreatDoor
