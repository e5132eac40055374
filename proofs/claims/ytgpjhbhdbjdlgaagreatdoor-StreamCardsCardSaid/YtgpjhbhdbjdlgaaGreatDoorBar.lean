/- Parts of the proof of streamCards_card. -/
import Derived.Deep.DeepHandedRow
import Derived.Test.YtgpjhbhdbjdlgaaGreatDoorBaq
set_option linter.unusedVariables false
set_option linter.unusedSimpArgs false
set_option linter.unusedSectionVars false
namespace Go.Proofs.YtgpjhbhdbjdlgaaGreatDoor
open Go Go.RowKit
open Go.Proofs.Tryz Go.Proofs.YtgpjhbhdbjdlgaaGreatDoor.Tryz
set_option maxRecDepth 20000
set_option maxHeartbeats 4000000
section
set_option maxHeartbeats 8000000
attribute [local irreducible] bJ au ax aR ab ad aa
theorem rM {G:Glo}(hP:fF G)(n:Nat)(hn:n≤9223372036854775807):ai prog G 245 [.int .i64 (n:Int),.int .i64 10] (.str (Lib.decDigits n)):=by
 refine bO rfl call245 ?_
 intro R args hr w hG hs
 obtain⟨x,t,e,hx,y,t',e',hy,rfl⟩:=hr
 have hx:=ap.1 hx
 have hy:=ap.1 hy
 subst hx hy
 obtain rfl:args=#[.int .i64 (n:Int),.int .i64 10]:=by cases args;simp_all
 have ht:Lib.TabIs prog w "internal/strconv.uint64pow10" .u64 Lib.pow10Tab:=by
  obtain⟨e,fz,hR⟩:=hP R hG
  have hg:prog.globalNamed "internal/strconv.uint64pow10" =some 10:=by kernel_rfl
  show w.var? prog "internal/strconv.uint64pow10" =_
  simp only[World.var?,hg,Option.bind_some,hs _ _ hR]
 refine(strconv_FormatInt_10 n a_ a_ w ht).mono ?_
 rintro e w' ⟨rfl,k,os,rfl⟩
 refine⟨?_,⟨rfl,rfl,rfl,?_,fun b hb=> ?_⟩⟩
 ·have:Lib.itoa (n:Int)=Lib.decDigits n:=by unfold Lib.itoa;rw[if_neg a_];rfl
  rw[this]
  rfl
 ·show w.heap.size≤(w.heap++os).size
  rw[Array.size_append];omega
 ·show(w.heap++os)[b]? =w.heap[b]?
  rw[Array.getElem?_append_left hb]
theorem ou {i:Nat}(h:100<=i)(h1:i<1000):Lib.decDigits i=[UInt8.ofNat (48+i/100),UInt8.ofNat (48+i/10%10),UInt8.ofNat (48+i%10)]:=by
 rw[Lib.decDigits,dif_neg a_,mO a_ a_,show i/10/10=i/100 by omega];rfl
theorem yR {i:Nat}(h:1000<=i)(h1:i<10000):Lib.decDigits i=[UInt8.ofNat (48+i/1000),UInt8.ofNat (48+i/100%10),UInt8.ofNat (48+i/10%10),UInt8.ofNat (48+i%10)]:=by
 rw[Lib.decDigits,dif_neg a_,ou a_ a_,show i/10/10%10=i/100%10 by omega,show i/10/100=i/1000 by omega];rfl
theorem M0 (i:Nat):k6 (i:Int)=[UInt8.ofNat (48+i/1000),UInt8.ofNat (48+i/100%10),UInt8.ofNat (48+i/10%10),UInt8.ofNat (48+i%10)]:=by
 unfold k6 cf;simp only[List.map];rw[show(48+(i:Int)/1000).toNat=48+i/1000 by omega,show(48+(i:Int)/100%10).toNat=48+i/100%10 by omega,show(48+(i:Int)/10%10).toNat=48+i/10%10 by omega,show(48+(i:Int)%10).toNat=48+i%10 by omega]
theorem vo {G:Glo}(hP:fF G)(i:Nat)(h1:i<10000):ai prog G 229 [.int .i64 (i:Int),.int .i64 10,.int .i64 4] (.str (k6 i)):=by
 have hf:=rM (G:=G) hP i a_;rw[M0];by_cases h2:i<10
 ·rw[mP h2] at hf;refine aw func229 call229 λC hC hGL=> ?_;refine aH ?_;intros;refine rds hC hGL 4 ?_;refine aH ?_;intros;apply aj;rw[show i/1000=0 by omega,show i/100%10=0 by omega,show i/10%10=0 by omega,show i%10=i by omega];rfl
 by_cases h3:i<100
 ·rw[mO a_ h3] at hf;refine aw func229 call229 λC hC hGL=> ?_;refine aH ?_;intros;refine rds hC hGL 3 ?_;refine aH ?_;intros;apply aj;rw[show i/1000=0 by omega,show i/100%10=0 by omega,show i/10%10=i/10 by omega];rfl
 by_cases h4:i<1000
 ·rw[ou a_ h4] at hf;refine aw func229 call229 λC hC hGL=> ?_;refine aH ?_;intros;refine rds hC hGL 2 ?_;refine aH ?_;intros;apply aj;rw[show i/1000=0 by omega,show i/100%10=i/100 by omega];rfl
 ·rw[yR a_ h1] at hf;refine aw func229 call229 λC hC hGL=> ?_;refine aH ?_;intros;refine rds hC hGL 1 ?_;exact bq
end
section
set_option maxHeartbeats 8000000
def pd:ω->Nat
 |[]=>0
 |c::r=>if c=57 then pd r+1 else pd r
theorem ql {form:ω}{i:Nat}(h:i<form.length):form.drop i=form[i]::form.drop (i+1):=A_ h
theorem Bi {form:ω}{i:Nat}(h:i<form.length)(hc:form[i]=57):pd (form.drop i)=pd (form.drop (i+1))+1:=by
 rw[ql h,pd,if_pos hc]
theorem MV {form:ω}{i:Nat}(h:i<form.length)(hc:form[i]≠57):pd (form.drop i)=pd (form.drop (i+1)):=by
 rw[ql h,pd,if_neg hc]
theorem I8 {form all:ω}{i:Nat}(h:i<form.length)(hc:form[i]=57)(ha:0<all.length):jK (form.drop i) all=cf [(aa all 0:Int)]++jK (form.drop (i+1)) (all.drop 1):=by
 rw[ql h];cases all with
 |nil=>cases ha
 |cons x t=>
  rw[jK,if_pos hc];have:cf [(aa (x::t) 0:Int)]=[x]:=by
   show[UInt8.ofNat x.toNat]=[x];rw[UInt8.ofNat_toNat]
  rw[this];rfl
theorem I9 {form all:ω}{i:Nat}(h:i<form.length)(hc:form[i]≠57):jK (form.drop i) all=cf [(aa form i:Int)]++jK (form.drop (i+1)) all:=by
 rw[ql h];have e:jK (form[i]::form.drop (i+1)) all=form[i]::jK (form.drop (i+1)) all:=by simp only[jK,if_neg hc]
 rw[e];have:cf [(aa form i:Int)]=[form[i]]:=by
  rw[bx h];show[UInt8.ofNat form[i].toNat]=_;rw[UInt8.ofNat_toNat]
 rw[this];rfl
theorem XZ {form:ω}{i:Nat}(h:i<form.length):form[i]=57↔(aa form i:Int)=57:=by
 rw[bx h,<-UInt8.toNat_inj];constructor
 ·intro k;rw[k];rfl
 ·intro k;have:form[i].toNat=57:=by omega
  rw[this];rfl
theorem YN {t:Stm}(hf:t.frm=true):0<=nA (aZ t.y) (aZ t.m) (aZ t.d)/\nA (aZ t.y) (aZ t.m) (aZ t.d)<7:=by
 have:=((mC t).1 hf).1;have h2:=JR (aZ t.y) (aZ t.m) (aZ t.d);unfold Stm.dn Stm.tn at this;omega
theorem YK {t:Stm}(hf:t.frm=true):0<=nA (aZ t.h) (aZ t.i) (aZ t.s)/\nA (aZ t.h) (aZ t.i) (aZ t.s)<7:=by
 have:=((mC t).1 hf).1;have h2:=JR (aZ t.h) (aZ t.i) (aZ t.s);unfold Stm.dn Stm.tn at this;omega
theorem Nk (i:Nat):(bT i).length<=8:=by
 match i with
 |0|1|2|3|4|5|6=>decide
 |n+7=>exact Nat.zero_le _
theorem RB (i:Nat):(aX i).length<=6:=by
 match i with
 |0|1|2|3|4|5|6=>decide
 |n+7=>exact Nat.zero_le _
def Fl (t:Stm):Nat->Int
 |0=>t.m
 |1=>t.d
 |2=>t.h
 |3=>t.i
 |_=>t.s
def mR (t:Stm):Nat->ω
 |0=>if t.y= -1 then[] else k6 t.y
 |k+1=>if Fl t k= -1 then mR t k else mR t k++eO (Fl t k)
theorem X9 {t:Stm}{A:ω}{k:Nat}(hA:A=mR t k)(h:Fl t k≠ -1):A++eO (Fl t k)=mR t (k+1):=by
 rw[mR,if_neg h,hA]
theorem UW {t:Stm}{A:ω}{k:Nat}(hA:A=mR t k)(h:Fl t k= -1):A=mR t (k+1):=by
 rw[mR,if_pos h,hA]
theorem JM (t:Stm):∀k,(mR t k).length<=4+2*k
 |0=>by
  unfold mR;split
  ·exact Nat.zero_le _
  ·exact Nat.le_refl _
 |k+1=>by
  have:=JM t k;unfold mR;split
  ·omega
  ·rw[d_,show(eO (Fl t k)).length=2 from rfl];omega
def td (form A:ω)(i:Nat)(out all:ω):Prop:=i<=form.length/\out.length=i/\all.length<=100/\pd (form.drop i)<=all.length/\out++jK (form.drop i) all=jK form A
theorem M5 {form A:ω}(h:pd form<=A.length)(hl:A.length<=4+2*5):td form A 0 [] A:=⟨Nat.zero_le _,rfl,a_,by rw[aa_];exact h,by rw[aa_];rfl⟩
theorem Gk {form A:ω}{i:Nat}{out all:ω}(h:td form A i out all)(hb:i<form.length/\(aa form i:Int)=57):0<all.length:=by
 have h4:=h.2.2.2.1;rw[Bi hb.1 ((XZ hb.1).2 hb.2)] at h4;omega
theorem M6 {form A:ω}{i:Nat}{out all:ω}(h:td form A i out all)(h1:i<form.length)(hb:(aa form i:Int)=57):td form A (i+1) (out++cf [(aa all 0:Int)]) (all.drop 1):=by
 have hp:=Gk h ⟨h1,hb⟩;obtain⟨a,b,c,d,e⟩:=h;have hc:=(XZ h1).2 hb;rw[Bi h1 hc] at d;rw[I8 h1 hc hp,<-An] at e;refine⟨h1,?_,?_,?_,e⟩
 ·rw[d_,b];rfl
 ·rw[k_];omega
 ·rw[k_];omega
theorem M7 {form A:ω}{i:Nat}{out all:ω}(h:td form A i out all)(h1:i<form.length)(hb:(aa form i:Int)≠57):td form A (i+1) (out++cf [(aa form i:Int)]) all:=by
 obtain⟨a,b,c,d,e⟩:=h;have hc:form[i]≠57:=λk=>hb ((XZ h1).1 k);rw[MV h1 hc] at d;rw[I9 h1 hc,<-An] at e;refine⟨h1,?_,c,d,e⟩;rw[d_,b];rfl
theorem QT {form A:ω}{i:Nat}{out all:ω}(h:td form A i out all)(h1:form.length<=i):out=jK form A:=by
 obtain⟨a,b,c,d,e⟩:=h;rw[List.drop_of_length_le h1] at e;rw[<-e];simp[jK]
def TN (t:Stm):ω:=bT (nA (aZ t.y) (aZ t.m) (aZ t.d)).toNat++if 0<nA (aZ t.h) (aZ t.i) (aZ t.s) then[84]++aX (nA (aZ t.h) (aZ t.i) (aZ t.s)).toNat else[]
theorem Ud {t:Stm}(hf:t.frm=true):pd (TN t)<=(mR t 5).length/\jK (TN t) (mR t 5)=qR (aZ t.y) (aZ t.m) (aZ t.d) t.y t.m t.d++oH (aZ t.h) (aZ t.i) (aZ t.s) t.h t.i t.s:=by
 unfold TN;refine wP hf λk kz=> ?_;clear kz;revert k
 cases e1:aZ t.y<;>cases e2:aZ t.m<;>cases e3:aZ t.d<;>cases e4:aZ t.h<;>cases e5:aZ t.i<;>cases e6:aZ t.s<;>intro k<;>first|exact absurd k b_|(simp only[oG,Oz] at e1 e2 e3 e4 e5 e6;simp only[mR,Fl,e1,e2,e3,e4,e5,e6,aap,aaq];exact⟨Nat.le_refl _,rfl⟩)
theorem Kz {P:Program}[Tab P]{C:Ctx}{n:Nat}{env:Env}{H:Heap}{Q:aL->Env->Heap->Prop}{ops:Array Oper}{rest:List Oper}{G:Glo}{GL:List (Nat×List AVal)}{d:Nat}{t S T e:TypeId}{xS xT xe:TI}{x:Operand}{p:String}{af:Array Edge}{g:Option (Nat×Bool)}{b:Bool}{s:ω}{i:Nat}(hC:C.G=G)(hGL:ab G GL)
  (k:mN P C n G GL ops Q rest ((d,.str (cf [(aa s i:Int)]))::env) H) (hx:ah env x=some (.list 1 1 (dH (Fc 0 [(aa s i:Int)]))):=by rfl) (h1:bj P S=some xS:=by rfl) (h2:xS.desc= .slice e:=by rfl) (h5:bj P e=some xe:=by rfl) (h6:xe.desc= .int .u8:=by rfl) (h3:bj P T=some xT:=by rfl) (h4:xT.desc= .string:=by rfl) (hg:aQ ops env g=some (b,b):=by rfl) (hdn:Nat.ble (d+1) n=true:=by rfl):
  uD P C n ops ({dst:=some d,op:=.convert S T x,type:=t,pos:=p,after:=af,guard:=g}::rest) env H Q:=
 aY hC hGL (gv [_] hx (by intro v hv;obtain rfl:=List.mem_singleton.1 hv;exact⟨Int.natCast_nonneg _,by exact_mod_cast bB _ _⟩) h1 h2 h5 h6 h3 h4) hg hdn k
abbrev ZH (t:Stm):List AVal:=[.int .i64 t.y,.int .i64 t.m,.int .i64 t.d,.int .i64 t.h,.int .i64 t.i,.int .i64 t.s,.bool t.z,.int .i64 t.o]
abbrev S0 (t:Stm)(A:ω):Env:=[(1,.rop (ZH t) 0),(3,.str A)]
attribute [local irreducible] bJ au ax aR ab ad aa k6 eO kJ jK
theorem BT {G:Glo}(k:Int)(h0:0<=k)(h1:k<100):ai prog G 229 [.int .i64 k,.int .i64 10,.int .i64 2] (.str (eO k)):=by
 obtain⟨i,rfl⟩:=Int.eq_ofNat_of_zero_le h0;exact oS i a_
theorem zm {G:Glo}(hP:fF G)(k:Int)(h0:0<=k)(h1:k<10000):ai prog G 229 [.int .i64 k,.int .i64 10,.int .i64 4] (.str (k6 k)):=by
 obtain⟨i,rfl⟩:=Int.eq_ofNat_of_zero_le h0;exact vo hP i a_
theorem CA {G:Glo}(hGL:ab G shapesTy)(hP:fF G)(t:Stm)(hf:t.frm=true)(hr:t.rng=true):ai prog G 228 [t.A] (.str t.txt):=by
 have h1:=pU hGL t.y t.m t.d;have h2:=pU hGL t.h t.i t.s;have h3:=qI (G:=G) t.o;have kd:0<=nA (aZ t.y) (aZ t.m) (aZ t.d)/\nA (aZ t.y) (aZ t.m) (aZ t.d)<7:=YN hf;have kt:=YK hf;have hc:=call189;have l1:=Gb t.y;have l2:=jh t.m;have l3:=jh t.d;have l4:=jh t.h;have l5:=jh t.i;have l6:=jh t.s;have l7:=JP t.o;have l8:=Nk (nA (aZ t.y) (aZ t.m) (aZ t.d)).toNat;have l9:=RB (nA (aZ t.h) (aZ t.i) (aZ t.s)).toNat;have r:=hr;unfold Stm.rng at r;simp only[l_,wD] at r;obtain⟨r1,r2,r3,r4,r5,r6, -⟩:=r;have r3':t.d= -1\/1<=t.d/\t.d<=31:=by
  refine r3.imp_right λh=>⟨h.1,?_⟩;have:=h.2;unfold Stm.day vB at this
  (repeat' split at this)<;>omega
 refine wP hf λk kz=> ?_;unfold Stm.txt;have hG:=Ud hf;have hl:=JM t 5;have hLF:(TN t).length<=15:=by
  unfold TN;split<;>(try simp only[d_,j_,E_])<;>omega
 refine I5 func228 call228 rfl rfl rfl rfl λC hC=> ?_;refine cut hC hGL [(1,.rop (ZH t) 0)] [] True eK λ_=> ?_;refine cut hC hGL (S0 t []) [] True eK λ_=> ?_;refine cut hC hGL (S0 t (mR t 0)) [] True ?_ λ_=> ?_
 ·have k1:=λn=>zm (G:=G) hP n;unfold mR;by_cases hy:t.y= -1
  ·rw[if_pos hy];exact eK
  ·rw[if_neg hy];exact eK
 refine cut hC hGL (S0 t (mR t 5)) [] True ?_ λ_=> ?_
 ·have k1:=λn=>BT (G:=G) n;refine an ?_;intros;refine lp hC hGL (λx:Nat×ω=>S0 t x.2++[(29,.list 1 5 (dH [(0,.int .i64 t.m),(1,.int .i64 t.d),(2,.int .i64 t.h),(3,.int .i64 t.i),(4,.int .i64 t.s)])),(30,.int .i64 5),(31,.int .i64 (x.1:Nat))]) (λ_=>[]) (λx=>x.1<=5/\x.2=mR t x.1) (λx=>5-x.1) (0,mR t 0) ⟨Nat.zero_le _,rfl⟩ ae rfl ?_;rintro⟨k',A⟩ ⟨hk,hA⟩;have hk:k'<=5:=hk;have hA:A=mR t k':=hA;have hl:=JM t k';rw[<-hA] at hl;rcases(show k'=0\/k'=1\/k'=2\/k'=3\/k'=4\/k'=5 by omega) with rfl|rfl|rfl|rfl|rfl|rfl
  iterate 5
   ·refine xm ?_;repeat' first|exact .n|apply Lc.mk
    all_goals intros
    all_goals first
     |exact fG (_,A++eO (Fl t _)) ⟨v_ rfl,X9 hA (by assumption)⟩ (v_ rfl) ae aA
     |exact fG (_,A) ⟨v_ rfl,UW hA (by assumption)⟩ (v_ rfl) ae aA
  subst hA;exact eK
 generalize mR t 5=A at*
 refine cut hC hGL (S0 t A++[(6,.str (bT (nA (aZ t.y) (aZ t.m) (aZ t.d)).toNat))]) [] True ?_ λ_=> ?_
 ·refine an ?_;intros;refine a7 mixed hC hGL false (λ_:Unit=>S0 t A++[(6,.str (bT (nA (aZ t.y) (aZ t.m) (aZ t.d)).toNat))]) (λ_=>[]) (.t 1 (.t 2 (.t 3 (.t 4 (.t 5 (.t 6 (.br 0 (.b 7 (.b 8 (.t 9 (.t 10 (.t 11 (.t 12 .done)))))) (.b 7 (.br 0 (.b 8 (.t 9 (.t 10 (.t 11 (.t 12 .done))))) (.b 8 (.b 0 (.t 9 (.t 10 (.t 11 (.t 12 .done))))))))))))))) be xu ?_;intro _;exact eK
 refine cut hC hGL (S0 t A++[(6,.str (TN t))]) [] True ?_ λ_=> ?_
 ·unfold TN;by_cases h:0<nA (aZ t.h) (aZ t.i) (aZ t.s)
  ·rw[if_pos h];exact eK
  ·rw[if_neg h,Dc];exact eK
 refine cut hC hGL (S0 t A++[(6,.str (TN t)),(8,.str [])]) [] True eK λ_=> ?_;generalize TN t=F at*
 refine Dp (λ_:Unit=>[(1,.rop (ZH t) 0),(8,.str (jK F A))]) (λ_=>[]) (λ_=>(jK F A).length<=15) (ar hC hGL ?_) ?_
 ·refine an ?_;intro bl cap;intros;refine lp hC hGL (λx:Nat×ω×ω=>S0 t x.2.2++[(8,.str x.2.1),(73,.own 0 (.slice (some ⟨bl,0,none⟩) F.length cap)),(74,.int .i64 (F.length:Nat)),(75,.int .i64 (x.1:Nat))]) (λ_=>[.buf bl F cap]) (λx=>td F A x.1 x.2.1 x.2.2) (λx=>F.length-x.1) (0,[],A) (M5 hG.1 hl) ae rfl ?_;rintro⟨i,out,all⟩ hI;have hI:td F A i out all:=hI;have hI1:=hI.1;have hI2:=hI.2.1;have hI3:=hI.2.2.1;have hI0:=λh=>Gk hI h;refine xw ?_;repeat' first|exact .n|apply Lc.mk
  all_goals intros
  ·refine Kz hC hGL ?_;refine je ?_;intros;refine oP (show out.length+1<=9223372036854775807 by omega) ?_;refine je ?_;intros;exact cQ (i+1,out++cf [(aa all 0:Int)],all.drop 1) (M6 hI a_ (by assumption)) (by show _-(i+1)<_-i;omega) ae rfl
  ·refine Kz hC hGL ?_;refine je ?_;intros;refine oP (show out.length+1<=9223372036854775807 by omega) ?_;refine je ?_;intros;exact cQ (i+1,out++cf [(aa F i:Int)],all) (M7 hI a_ (by assumption)) (by show _-(i+1)<_-i;omega) ae rfl
  ·have e:=QT hI a_;subst e;exact Hf () a_ (bi ae aA)
 intro _ hn;rw[hG.2] at hn ⊢;refine ar hC hGL (xw ?_);repeat' first|exact .n|apply Lc.mk
 all_goals intros
 ·exact aj (by rw[if_pos (by assumption)])
 ·exact aj (by rw[if_neg (by simp only[W_];assumption),Dc])
end
section
set_option maxHeartbeats 8000000
theorem Stm.three (t:Stm):(t.frm=true/\t.rng=true/\t.E= .none/\t.e=0/\t.T=t.txt)\/(t.E= .errno 2/\t.e=2/\t.T=[])\/(t.E= .errno 3/\t.e=3/\t.T=[]):=by
 unfold Stm.E Stm.e Stm.T;cases t.frm<;>cases t.rng<;>simp
attribute [local irreducible] bJ au ax aR ab ad aa Stm.txt vB
theorem zF {G:Glo}(hS:ab G shapesTy)(hP:fF G)(t:Stm):ai prog G 193 [t.A] (.tuple [.str t.T,.int .i64 t.e]):=by
 have h1:=kb hS t;rcases Stm.three t with⟨hf,hr,h2,h3,h4⟩|⟨h2,h3,h4⟩|⟨h2,h3,h4⟩
 ·have h5:=CA hS hP t hf hr;rw[h3] at h1;rw[h3,h4];refine aw func193 call193 λC hC hGL=> ?_;exact bq
 ·rw[h3] at h1;rw[h3,h4];refine aw func193 call193 λC hC hGL=> ?_;exact bq
 ·rw[h3] at h1;rw[h3,h4];refine aw func193 call193 λC hC hGL=> ?_;exact bq
end
section
theorem W8 (n:ω):(aW (am 65 90 32 n) (am 65 90 32 [98,101,103,105,110])||(aW (am 65 90 32 n) (am 65 90 32 [101,110,100])||aW (am 65 90 32 n) (am 65 90 32 [118,101,114,115,105,111,110])))=MZ n:=by
 rw[gC,gC,gC];rfl
theorem VY (n:ω):aW (am 65 90 32 n) (am 65 90 32 [116,121,112,101])=aW (am 97 122 (-32) n) nTYP:=by
 rw[gC];rfl
attribute [local irreducible] bJ au aa ax aR ab ad am eb Pr.fit Ln.E Ln.T Vl.E Vl.T jH cC j4
theorem Wx {G:Glo}{m:Int}(hU:ab G utfTy)(hM:ab G (bQ m))(hH:ab G shapesTy)(hP:fF G)(x:Vl)(hs:x.s.length<=10000)(hL:Small x.L)(hv:x.OK):ai prog G 149 [x.A] (.tuple [.str x.T,.int .i64 x.E.e]):=
 xA x (oT hU hM x hv a_ (kb hH x.st)) (xE x.s a_) (zM x.L hL) (zF hH hP x.st) x.E_zero
theorem H6 {G:Glo}{m:Int}(hU:ab G utfTy)(hM:ab G (bQ m))(hH:ab G shapesTy)(hP:fF G)(v:Int)(x:Itm)(hx:x.OK 10000):ai prog G 87 [KV x,.int .i64 v] (.str (x.L v)):=by
 have h1:=Wx hU hM hH hP x.2 hx.s hx.L hx.v;have h2:=zJ hU x.ln (bV v 4) (Itm.fit hx)
 unfold Itm.L
 unfold Vl.A at h1
 unfold Ln.A at h2
 unfold KV
 obtain⟨⟨g,n,ps,vv⟩,u⟩:=x
 unfold Itm.ln at h2 ⊢
 dsimp only at*
 generalize Ln.E (bV v 4) ⟨g,n,ps,u.T⟩=eL at*
 generalize Ln.T (bV v 4) ⟨g,n,ps,u.T⟩=tL at*
 generalize u.E=eV at*
 generalize u.T=tV at*
 refine aw func87 call87 λC hC hGL=> ?_
 exact bq
theorem Mo {G:Glo}{m:Int}(hU:ab G utfTy)(hM:ab G (bQ m))(hH:ab G shapesTy)(hP:fF G)(v:Int)(hv:v=3\/v=4)(x:Itm)(hx:x.OK 10000):ai prog G 39 [KV x,.int .i64 v] (.int .i64 (x.w v)):=by
 have h1:=qK hU x.p (bV v 4) hx.p.fit;have h4:=λe p=>np (G:=G) e p;have hn:x.1.n.length<=10000:=hx.p.n;have hps:x.1.ps.length<=10000:=hx.p.ps;have hq:∀k,(x.1.ps.getD k Pr.z).n.length<=1100000/\(x.1.ps.getD k Pr.z).vs.length<=10000/\Lib.lens (x.1.ps.getD k Pr.z).vs<=10000:=hx.p.q;have hvl:∀k j,((x.1.ps.getD k Pr.z).vs.getD j []).length<=10000:=λk j=>by
  have:=iA (l:=(x.1.ps.getD k Pr.z).vs) (k:=j);have:=(hq k).2.2;omega
 have b1:=gw (G:=G) x.1.n [98,101,103,105,110] a_ b_;have b2:=gw (G:=G) x.1.n [101,110,100] a_ b_;have b3:=gw (G:=G) x.1.n [118,101,114,115,105,111,110] a_ b_;have hfr:=W8 x.1.n;generalize aW (am 65 90 32 x.1.n) (am 65 90 32 [98,101,103,105,110])=f1 at*
 generalize aW (am 65 90 32 x.1.n) (am 65 90 32 [101,110,100])=f2 at*
 generalize aW (am 65 90 32 x.1.n) (am 65 90 32 [118,101,114,115,105,111,110])=f3 at*
 have hve:eX v= .none:=by unfold eX;rw[if_pos hv]
 have hT:=EV (G:=G) v x.1.n x.1.ps a_ a_ (λk=>by have:=(hq k).1;omega) (λk=>⟨by have:=(hq k).2.1;omega,by have:=hvl k 0;omega⟩);have hV:=oT hU hM x.2 hx.v (by have:=hx.s;omega) (kb hH x.2.st);have hR:=sf (G:=G) v x.1.n a_;have hrp:=Wv v x.1.n;have hlo:=H6 hU hM hH hP v x hx;have hw:∀(_:x.p.E (bV v 4)= .none) (_:MZ x.1.n=false),(rc x.1.ps≠0->x.w v=rc x.1.ps)/\(rc x.1.ps=0->(x.k v≠x.2.t->x.w v=1)/\(x.k v=x.2.t->(x.2.E≠ .none->x.w v=x.2.E.e)/\(x.2.E= .none->x.w v=x.r v))):=λa b=>⟨U7 a b,λc=>⟨U8 a b c,λd=>⟨U6 a b c d,w_r a b c d⟩⟩⟩;have hwl:=λa=>VS (v:=v) (x:=x) a;have hwf:=λa b=>Yr (v:=v) (x:=x) a b;have hz:=Vl.E_zero x.2;have hok:∀k,x.p.E (bV v 4)= .none->k<x.1.ps.length->isS (x.1.ps.getD k Pr.z).n=true:=λk h hk=>by
  have h1:lV (bV v 4) x.p.ps 0= .none:=by
   unfold Ln.E at h;split at h
   ·cases h
   ·split at h
    ·cases h
    ·cases hf:lV (bV v 4) x.p.ps 0 with
     |none=>rfl
     |errno e=>rw[hf] at h;cases h
     | atp e q=>rw[hf] at h;cases h
  have h2:=yL h1 (x.1.ps.getD k Pr.z) (by rw[f_,y_ hk];exact K_ hk);cases hn:isS (x.1.ps.getD k Pr.z).n with
  |true=>rfl
  |false=>rw[E3 hn] at h2;cases h2
 rw[hve] at hT hR;generalize x.w v=W at*
 unfold Itm.r at hw;generalize x.L v=tL at*
 unfold Itm.k at hw;obtain⟨⟨g,n,ps,vv⟩,u⟩:=x;unfold KV at hlo ⊢;unfold Vl.A at hV;unfold Itm.p at h1 hw hwl hwf hok;dsimp only at*
 generalize jH v n ps=K at*
 generalize cC v n=r at*
 unfold Rl.A at hR;obtain⟨r0,r1,r2,r3⟩:=r;dsimp only at*
 generalize u.E=eV at*
 generalize hE0:Ln.E (bV v 4) ⟨g,n,ps,[]⟩=e0 at*
 have hfin:e0≠ .none->e0.e≠0:=λh h2=>by
  have:=ZB (v:=v) (x:=(⟨g,n,ps,vv⟩,u));unfold Itm.p at this;dsimp only at this;rw[hE0] at this;refine h (this ?_);rw[VS (by unfold Itm.p;dsimp only;rw[hE0];exact h)];unfold Itm.p;dsimp only
  rw[hE0];exact h2
 by_cases he:e0= .none
 ·subst he;simp only[Err.e,Err.p] at h1;have h4:=h4 0 (-1);cases hf:MZ n with
  |true=>
   rw[hwf rfl hf];rw[hf] at hfr;refine aw func39 call39 λC hC hGL=> ?_;refine xw ?_;repeat' first|exact .n|apply Lc.mk
   all_goals intros
   all_goals (first|exact aj rfl|(exfalso;revert hfr;simp[*];done))
  |false=>
   rw[hf] at hfr;have hw:=hw rfl hf;simp only[Bool.or_eq_false_iff] at hfr;obtain⟨rfl,rfl,rfl⟩:=hfr;refine aw func39 call39 λC hC hGL=> ?_;refine aH ?_;intro b5;intros;refine lp hC hGL (λk:Nat=>[(1,.int .i64 v),(2,.rop (df (⟨g,n,ps,vv⟩,u)) 0),(44,.list 2 ps.length (gg ps)),(45,.int .i64 (ps.length:Nat)),(46,.int .i64 (k:Nat))]) (λ_=>[.cells b5 (some 25) [.int .i64 0,.int .i64 (-1)]]) (λk=>k<=ps.length/\∀j,j<k->pE ps j=0) (λk=>ps.length-k) 0 ⟨Nat.zero_le _,λj h=>absurd h (Uf _)⟩ ae rfl ?_;rintro k ⟨k1,k2⟩;by_cases hk:k<ps.length
   ·have hqk:=hq k;have hfi:=Pj hP hM (ps.getD k Pr.z) (hok k rfl hk) a_ a_ (λj=>by have:=hvl k j;omega);have hsa:=gw (G:=G) (ps.getD k Pr.z).n [116,121,112,101] a_ b_;rw[VY] at hsa;cases hf:(ps.getD k Pr.z).fit with
    |false=>
     rw[hf] at hfi;have e:=YF hf;rw[hw.1 (by rw[mu hk k2 (by rw[e];decide),e];decide),mu hk k2 (by rw[e];decide),e];exact bq
    |true=>
     rw[hf] at hfi;refine aH ?_;intro b7;intros;refine lp hC hGL (λj:Nat=>[(1,.int .i64 v),(2,.rop (df (⟨g,n,ps,vv⟩,u)) 0),(7,.own 1 (.pointer (some ⟨b7,0,none⟩))),(44,.list 2 ps.length (gg ps)),(45,.int .i64 (ps.length:Nat)),(46,.int .i64 (k:Nat)),(57,.list 2 k (gg ps)),(58,.int .i64 (k:Nat)),(59,.int .i64 (j:Nat))]) (λ_=>[.cells b5 (some 25) [.int .i64 0,.int .i64 (-1)],.cells b7 (some 69) [.str (ps.getD k Pr.z).n,.list 1 (ps.getD k Pr.z).vs.length (aB (ps.getD k Pr.z).vs)]]) (λj=>j<=k/\∀i,i<j->(aW (am 97 122 (-32) (ps.getD k Pr.z).n) (am 97 122 (-32) (ps.getD i Pr.z).n)&& !aW (am 97 122 (-32) (ps.getD k Pr.z).n) nTYP)=false) (λj=>k-j) 0 ⟨Nat.zero_le _,λj h=>absurd h (Uf _)⟩ ae rfl ?_;rintro j ⟨j1,j2⟩;by_cases hj:j<k
     ·have hqj:=hq j;have hss:=gw (G:=G) (ps.getD k Pr.z).n (ps.getD j Pr.z).n a_ a_;rw[gC] at hss;obtain⟨bt,hbt⟩:∃b,aW (am 97 122 (-32) (ps.getD k Pr.z).n) nTYP=b:=⟨_,rfl⟩;cases bt with
      |true=>
       rw[hbt] at hsa;have e:(aW (am 97 122 (-32) (ps.getD k Pr.z).n) (am 97 122 (-32) (ps.getD j Pr.z).n)&& !aW (am 97 122 (-32) (ps.getD k Pr.z).n) nTYP)=false:=by rw[hbt,Bool.not_true,Bool.and_false]
       obtain⟨bs,hsm⟩:∃b,aW (am 97 122 (-32) (ps.getD k Pr.z).n) (am 97 122 (-32) (ps.getD j Pr.z).n)=b:=⟨_,rfl⟩;cases bs with
       |true=>
        rw[hsm] at hss;refine aH ?_;intros;exact fG (j+1) ⟨hj,λi hi=>by
         rcases Nat.lt_or_eq_of_le (Nat.le_of_lt_succ hi) with g|rfl
         ·exact j2 i g
         ·exact e⟩ a_ ae aA
       |false=>
        rw[hsm] at hss;refine aH ?_;intros;exact fG (j+1) ⟨hj,λi hi=>by
         rcases Nat.lt_or_eq_of_le (Nat.le_of_lt_succ hi) with g|rfl
         ·exact j2 i g
         ·exact e⟩ a_ ae aA
      |false=>
       rw[hbt] at hsa;obtain⟨bs,hsm⟩:∃b,aW (am 97 122 (-32) (ps.getD k Pr.z).n) (am 97 122 (-32) (ps.getD j Pr.z).n)=b:=⟨_,rfl⟩;cases bs with
       |true=>
        rw[hsm] at hss;have hd:eb (ps.getD k Pr.z).n ps 0<(k:Int):=(Bs hk).2 ⟨j,hj,(ce.1 hsm).symm⟩;have e:=YE hf (kM.1 hbt) hd;rw[hw.1 (by rw[mu hk k2 (by rw[e];decide),e];decide),mu hk k2 (by rw[e];decide),e];exact bq
       |false=>
        rw[hsm] at hss;refine aH ?_;intros;exact fG (j+1) ⟨hj,λi hi=>by
         rcases Nat.lt_or_eq_of_le (Nat.le_of_lt_succ hi) with g|rfl
         ·exact j2 i g
         ·rw[hsm,Bool.false_and]⟩ a_ ae aA
     ·obtain rfl:j=k:=by omega
      have e:pE ps j=0:=WH hf (λh=>by
       obtain⟨i,hi,hs⟩:=(Bs hk).1 h.2;have:=j2 i hi;rw[ce.2 hs.symm,kM.2 h.1] at this;cases this)
      refine aH ?_;intros;exact fG (j+1) ⟨a_,bL k2 e⟩ a_ ae aA
   ·have hw:=hw.2 (Pw a_ k2);by_cases hK:K=u.t
    ·have hw:=hw.2 hK;by_cases hV0:eV.e=0
     ·obtain rfl:=hz hV0;have hw:=hw.2 rfl;simp only[Err.e] at hV;subst hw;by_cases ha:u.t=3/\0<r3/\r3≠(u.L.length:Int)
      ·rw[if_pos ha];obtain⟨a1,a2,a3⟩:=ha;have a4:r3≠0:=by omega
       exact bq
      ·rw[if_neg ha];by_cases a1:u.t=3
       ·by_cases a2:r3=0
        ·by_cases hl:1500<tL.length
         ·rw[if_pos hl];exact bq
         ·rw[if_neg hl];exact bq
        ·have a3:r3=(u.L.length:Int):=by omega
         by_cases hl:1500<tL.length
         ·rw[if_pos hl];exact bq
         ·rw[if_neg hl];exact bq
       ·by_cases hl:1500<tL.length
        ·rw[if_pos hl];exact bq
        ·rw[if_neg hl];exact bq
     ·rw[hw.1 (λh=>hV0 (by rw[h];rfl))];exact bq
    ·rw[hw.1 hK];exact bq
 ·have h0:=hfin he;rw[hwl he];have h4:=h4 e0.e e0.p;generalize e0.e=ee at*
  generalize e0.p=pp at*
  rw[show bV ee 0=false from k9.2 h0] at h4;refine aw func39 call39 λC hC hGL=> ?_;exact bq
end
section
attribute [local irreducible] bJ au aa ax aR ab ad am cC j4 aF Itm.w lO KR
theorem AI {G:Glo}(v:Int)(l:List Itm)(h70:l.length<=1000000)(ho:∀x∈l,Itm.OK 10000 x)(s:ω)(hs:s.length<=1000000)(n:Nat)(hn:n<=l.length):ai prog G 40 [.str s,.int .i64 (n:Int),.rop [.int .i64 v,.list 15 l.length (dK l)] 0] (.int .i64 (j4 l (am 97 122 (-32) s) n:Nat)):=by
 have hGL:ab G []:=al;refine vz func40 call40 rfl rfl rfl rfl hGL ?_;intro C hC;refine aH ?_;intros;refine lp hC hGL (λk:Nat=>[(0,.str s),(6,.int .i64 (j4 l (am 97 122 (-32) s) k:Nat)),(12,.list 15 n (dK l)),(13,.int .i64 (n:Nat)),(14,.int .i64 (k:Nat))]) (λ_=>[]) (λk=>k<=n) (λk=>n-k) 0 (Nat.zero_le _) (by rw[BD];exact ae) rfl ?_;intro k k1;have k1:k<=n:=k1;have hcl:=sV l (am 97 122 (-32) s) k;by_cases hk:k<n
 ·have hkl:k<l.length:=by omega
  have hnl:(l.getD k Itm.z).1.n.length<=10000:=(ud ho hkl).p.n;have hS:=gw (G:=G) (l.getD k Itm.z).1.n s a_ a_;have hsu:=ur (s:=am 97 122 (-32) s) hkl;rw[gC] at hS;generalize am 97 122 (-32) s=U at*
  cases hb:aW (am 97 122 (-32) (l.getD k Itm.z).1.n) U with
  |true=>
   rw[hb] at hS hsu;rw[if_pos rfl] at hsu;have e:((j4 l U k:Nat):Int)+1=((j4 l U (k+1):Nat):Int):=by omega
   refine aH ?_;intros;exact fG (k+1) hk a_ (by refine⟨rfl,?_,rfl,rfl,rfl,trivial⟩;exact congrArg (λz=>some (AVal.int .i64 z)) e) aA
  |false=>
   rw[hb] at hS hsu;rw[if_neg b_,Nat.add_zero] at hsu;refine aH ?_;intros;exact fG (k+1) hk a_ (by rw[hsu];exact ae) aA
 ·obtain rfl:k=n:=by omega
  exact bq
theorem zN {G:Glo}{m:Int}(hU:ab G utfTy)(hM:ab G (bQ m))(hH:ab G shapesTy)(hP:fF G)(c:Crd)(hf:c.ok):ai prog G 25 [c.A] (.agg [.int .i64 c.E.e,.int .i64 c.E.p]):=by
 obtain⟨v,l⟩:=c;obtain⟨h70,ho⟩:=hf;dsimp only at h70 ho;have q1:=call40;have hN:=zI (G:=G) v;have hB:=λe=>il (G:=G) e;have hG:=fb (G:=G);by_cases hv:v=3\/v=4
 ·have hve:eX v= .none:=by unfold eX;rw[if_pos hv]
  rw[hve] at hN;simp only[Err.e] at hN;by_cases h60:60<l.length
  ·rw[VE hv h60];have hB:=hB 4;simp only[Err.e,Err.p];refine aw func25 call25 λC hC hGL=> ?_;exact bq
  ·have hone:∀k,k<l.length->ai prog G 39 [KV (l.getD k Itm.z),.int .i64 v] (.int .i64 ((l.getD k Itm.z).w v)):=λk hk=>Mo hU hM hH hP v hv _ (ud ho hk);refine aw func25 call25 λC hC hGL=> ?_;refine aH ?_;intro bl;intros;refine lp hC hGL (λk:Nat=>[(1,.rop [.int .i64 v,.list 15 l.length (dK l)] 0),(2,.own 0 (.pointer (some ⟨bl,0,none⟩))),(3,.list 1 (aF v).length (aB (aF v))),(33,.list 15 l.length (dK l)),(34,.int .i64 (l.length:Nat)),(35,.int .i64 (k:Nat))]) (λ_=>[.cells bl (some 25) [.int .i64 0,.int .i64 0]]) (λk=>k<=l.length/\∀j,j<k->(l.getD j Itm.z).w v=0) (λk=>l.length-k) 0 ⟨Nat.zero_le _,λj h=>absurd h (Uf _)⟩ ae rfl ?_;rintro k ⟨k1,k2⟩;by_cases hk:k<l.length
   ·have h1:=hone k hk;unfold KV at h1;by_cases hw:(l.getD k Itm.z).w v=0
    ·rw[hw] at h1;refine aH ?_;intros;exact fG (k+1) ⟨hk,bL k2 hw⟩ a_ ae aA
    ·rw[VB hv h60 hk k2 hw];simp only[Err.e,Err.p];exact bq
   ·obtain rfl:k=l.length:=by omega
    refine aH ?_;intros;refine lp hC hGL (λk:Nat=>[(1,.rop [.int .i64 v,.list 15 l.length (dK l)] 0),(2,.own 0 (.pointer (some ⟨bl,0,none⟩))),(3,.list 1 (aF v).length (aB (aF v))),(8,.func (.func 40) [] [.rop [.int .i64 v,.list 15 l.length (dK l)] 0]),(52,.list 15 l.length (dK l)),(53,.int .i64 (l.length:Nat)),(54,.int .i64 (k:Nat))]) (λ_=>[.cells bl (some 25) [.int .i64 0,.int .i64 0]]) (λk=>k<=l.length/\∀j,j<k->lO v l j=0) (λk=>l.length-k) 0 ⟨Nat.zero_le _,λj h=>absurd h (Uf _)⟩ ae rfl ?_;rintro k ⟨k1,km⟩;by_cases hk:k<l.length
    ·have hnl:(l.getD k Itm.z).1.n.length<=10000:=(ud ho hk).p.n;have hR:=sf (G:=G) v (l.getD k Itm.z).1.n a_;have hA:=AI (G:=G) v l h70 ho (l.getD k Itm.z).1.n a_ k k1;have hcl:=sV l (am 97 122 (-32) (l.getD k Itm.z).1.n) k;have h9:=PV (v:=v) (l:=l) (i:=k);have h0:=PW (v:=v) (l:=l) (i:=k);have hcm:=λh=>VC (v:=v) hv h60 k2 hk km h;rw[hve] at hR;unfold Rl.A at hR;simp only[Err.e] at hR;generalize cC v (l.getD k Itm.z).1.n=r at*
     obtain⟨r0,r1,r2,r3⟩:=r;dsimp only at*
     generalize j4 l (am 97 122 (-32) (l.getD k Itm.z).1.n) k=N at*
     by_cases hb:0<r2
     ·by_cases hc:r2<=(N:Int)
      ·have h9:=h9 hb hc;rw[h9] at hcm;rw[hcm b_];simp only[Err.e,Err.p];refine an ?_;intros;refine dC (ak (az (i:=2) (k:=11) rfl rfl) (az (i:=1) (k:=10) rfl rfl)) ?_;refine a7 mixed hC hGL false (λ_:Unit=>[(1,.rop [.int .i64 v,.list 15 l.length (dK l)] 0),(2,.own 0 (.pointer (some ⟨bl,0,none⟩))),(3,.list 1 (aF v).length (aB (aF v))),(8,.func (.func 40) [] [.rop [.int .i64 v,.list 15 l.length (dK l)] 0]),(9,.int .i64 (k:Nat)),(52,.list 15 l.length (dK l)),(53,.int .i64 (l.length:Nat)),(54,.int .i64 (k:Nat)),(79,.bool (!nT (N:Int) r2))]) (λ_=>[.cells bl (some 25) [.int .i64 0,.int .i64 0],eB,eB]) .p14 be xu ?_;intro _;exact bq
      ·have h0:=h0 (λh=>hc h.2);refine an ?_;intros;refine dC (ak (az (i:=2) (k:=11) rfl rfl) (az (i:=1) (k:=10) rfl rfl)) ?_;refine a7 mixed hC hGL false (λ_:Unit=>[(1,.rop [.int .i64 v,.list 15 l.length (dK l)] 0),(2,.own 0 (.pointer (some ⟨bl,0,none⟩))),(3,.list 1 (aF v).length (aB (aF v))),(8,.func (.func 40) [] [.rop [.int .i64 v,.list 15 l.length (dK l)] 0]),(9,.int .i64 (k:Nat)),(52,.list 15 l.length (dK l)),(53,.int .i64 (l.length:Nat)),(54,.int .i64 (k:Nat)),(79,.bool (!nT (N:Int) r2))]) (λ_=>[.cells bl (some 25) [.int .i64 0,.int .i64 0],eB,eB]) .p14 be xu ?_;intro _;refine aH ?_;intros;exact fG (k+1) ⟨hk,bL km h0⟩ a_ ae aA
     ·have h0:=h0 (λh=>hb h.1);refine an ?_;intros;refine dC (ak (az (i:=2) (k:=11) rfl rfl) (az (i:=1) (k:=10) rfl rfl)) ?_;refine a7 mixed hC hGL false (λ_:Unit=>[(1,.rop [.int .i64 v,.list 15 l.length (dK l)] 0),(2,.own 0 (.pointer (some ⟨bl,0,none⟩))),(3,.list 1 (aF v).length (aB (aF v))),(8,.func (.func 40) [] [.rop [.int .i64 v,.list 15 l.length (dK l)] 0]),(9,.int .i64 (k:Nat)),(52,.list 15 l.length (dK l)),(53,.int .i64 (l.length:Nat)),(54,.int .i64 (k:Nat)),(79,.bool false)]) (λ_=>[.cells bl (some 25) [.int .i64 0,.int .i64 0],eB,eB]) .p14 be xu ?_;intro _;refine aH ?_;intros;exact fG (k+1) ⟨hk,bL km h0⟩ a_ ae aA
    ·obtain rfl:k=l.length:=by omega
     rw[VD hv h60 k2 km];refine aH ?_;intros;refine lp hC hGL (λk:Nat=>[(1,.rop [.int .i64 v,.list 15 l.length (dK l)] 0),(2,.own 0 (.pointer (some ⟨bl,0,none⟩))),(8,.func (.func 40) [] [.rop [.int .i64 v,.list 15 l.length (dK l)] 0]),(83,.list 1 (aF v).length (aB (aF v))),(84,.int .i64 ((aF v).length:Nat)),(85,.int .i64 (k:Nat))]) (λ_=>[.cells bl (some 25) [.int .i64 0,.int .i64 0]]) (λk=>k<=(aF v).length/\∀j,j<k->KR v l j=0) (λk=>(aF v).length-k) 0 ⟨Nat.zero_le _,λj h=>absurd h (Uf _)⟩ ae rfl ?_;rintro k ⟨k1,kl⟩;by_cases hk:k<(aF v).length
     ·have hnn:=Fs hk;have hnl:=AX v;have hR:=sf (G:=G) v ((aF v).getD k []) a_;have hA:=AI (G:=G) v l h70 ho ((aF v).getD k []) a_ l.length (Nat.le_refl _);have hcl:=sV l ((aF v).getD k []) l.length;have hB:=hB 7;rw[hnn.1] at hA;rw[hve] at hR;unfold Rl.A at hR;simp only[Err.e] at hR;have h7:=YV (v:=v) (l:=l) (i:=k);have h0:=YW (v:=v) (l:=l) (i:=k);have hf7:=λh=>vW (f:=KR v l) hk kl h;generalize cC v ((aF v).getD k [])=r at*
      obtain⟨r0,r1,r2,r3⟩:=r;dsimp only at*
      generalize j4 l ((aF v).getD k []) l.length=N at*
      by_cases hb:(N:Int)<r1
      ·have h7:=h7 hb;rw[h7] at hf7;rw[hf7 b_,if_neg b_];simp only[Err.e,Err.p];refine an ?_;intros;refine dC (az (i:=1) (k:=15) rfl rfl) ?_;refine a7 mixed hC hGL false (λ_:Unit=>[(1,.rop [.int .i64 v,.list 15 l.length (dK l)] 0),(2,.own 0 (.pointer (some ⟨bl,0,none⟩))),(8,.func (.func 40) [] [.rop [.int .i64 v,.list 15 l.length (dK l)] 0]),(83,.list 1 (aF v).length (aB (aF v))),(84,.int .i64 ((aF v).length:Nat)),(85,.int .i64 (k:Nat)),(104,.bool (nT (N:Int) r1))]) (λ_=>[.cells bl (some 25) [.int .i64 0,.int .i64 0],eB]) .p23 be xu ?_;intro _;exact bq
      ·have h0:=h0 hb;refine an ?_;intros;refine dC (az (i:=1) (k:=15) rfl rfl) ?_;refine a7 mixed hC hGL false (λ_:Unit=>[(1,.rop [.int .i64 v,.list 15 l.length (dK l)] 0),(2,.own 0 (.pointer (some ⟨bl,0,none⟩))),(8,.func (.func 40) [] [.rop [.int .i64 v,.list 15 l.length (dK l)] 0]),(83,.list 1 (aF v).length (aB (aF v))),(84,.int .i64 ((aF v).length:Nat)),(85,.int .i64 (k:Nat)),(104,.bool (nT (N:Int) r1))]) (λ_=>[.cells bl (some 25) [.int .i64 0,.int .i64 0],eB]) .p23 be xu ?_;intro _;refine aH ?_;intros;exact fG (k+1) ⟨hk,bL kl h0⟩ a_ ae aA
     ·obtain rfl:k=(aF v).length:=by omega
      rw[nk (f:=KR v l) kl,if_pos rfl];simp only[Err.e,Err.p];exact bq
 ·rw[VF hv];have hve:eX v= .errno 1:=by unfold eX;rw[if_neg hv]
  rw[hve] at hN;have hB:=hB 1;simp only[Err.e,Err.p] at hN ⊢;refine aw func25 call25 λC hC hGL=> ?_;exact bq
end
section
abbrev WA:ω:=[118,101,114,115,105,111,110,58,51,46,48]
abbrev Yc:ω:=[118,101,114,115,105,111,110,58,52,46,48]
abbrev KG (b:Nat):HEnt:=.mp b [(.str WA,.int .i64 3),(.str Yc,.int .i64 4)]
abbrev YB:ω:=[98,101,103,105,110,58,118,99,97,114,100]
abbrev Tn:ω:=[101,110,100,58,118,99,97,114,100]
theorem Wz (t:ω):aW (am 65 90 32 t) WA=aW (qz t) cpV3:=by
 rw[show WA=am 65 90 32 WA by decide,gC];rfl
theorem Wy (t:ω):aW (am 65 90 32 t) Yc=aW (qz t) cpV4:=by
 rw[show Yc=am 65 90 32 Yc by decide,gC];rfl
theorem RC {v:Int}{l:LineS}(h:(jd v l).e=0):jd v l= .none:=by
 by_cases hv:v=3\/v=4
 ·have h2:=Oa (jb (bV v 4) l.t).v (NX v l.t);change (y6 v l.t).2.e=0->(y6 v l.t).2= .none at h2;unfold jd at h ⊢;rw[if_pos hv] at h ⊢;rcases hq:rE (bV v 4) l.t with _|e|⟨e,p⟩
  ·rw[hq] at h;dsimp only at h ⊢;generalize (y6 v l.t).2=x at*
   rcases x with _|e|⟨e,p⟩
   ·rfl
   ·have:=h2 h;cases this
   ·have:=h2 h;cases this
  ·exact absurd hq (Iz _ _ _)
  ·rw[hq] at h;exact absurd h (Vm hq)
 ·unfold jd at h;rw[if_neg hv] at h;cases h
attribute [local irreducible] bJ au aa ax aR ab ad jd px am Crd.E su gg
theorem EY {G:Glo}{m:Int}(hU:ab G utfTy)(hM:ab G (bQ m))(hH:ab G shapesTy)(hP:fF G)(t:ω)(L:List LineS)(e:Nat)(ht:t.length<=20100)(hL:L.length<=20100)(hb:∀l∈L,me t l)(he:e<=20100):
  ad prog G 13 [.list 3 L.length (a6 L),.int .i64 (e:Int)] [] (XJ (od L e) (.agg [.int .i64 (fY L e).e,.int .i64 (fY L e).p])):=by
 by_cases h3:L.length<3
 ·rw[v8 (by rw[GI h3];exact λh=>by cases h),GI h3];simp only[Err.e,Err.p];refine aw func13 call13 λC hC hGL=> ?_;refine aH ?_;intros;exact⟨[],Ug _,iN,rfl,rfl,.inl ⟨rfl,rfl⟩⟩
 have hbl:∀i,i<L.length->me t (bS L i):=λi hi=>by
  show me t (L.getD i ⟨[],0,[]⟩);rw[f_,y_ hi];exact hb _ (K_ hi)
 have s0:=gw (G:=G) (bS L 0).t YB (by have:=(hbl 0 a_).2.1;omega) b_;have s1:=pX (G:=G) (bS L 1).t (by have:=(hbl 1 a_).2.1;omega);have s9:=gw (G:=G) (bS L (L.length-1)).t Tn (by have:=(hbl (L.length-1) a_).2.1;omega) b_;have r3:=Wz (bS L 1).t;have r4:=Wy (bS L 1).t;rw[gC] at s0 s9;rw[show am 97 122 (-32) YB=ma by decide+kernel] at s0;rw[show am 97 122 (-32) Tn=kG by decide+kernel] at s9;change ai _ _ _ _ (.bool (aW (qz (bS L 0).t) ma)) at s0;change ai _ _ _ _ (.bool (aW (qz (bS L (L.length-1)).t) kG)) at s9;generalize am 65 90 32 (bS L 1).t=lw at*
 have hit:=λi (hi:i<L.length) v=>CE hU hM hH v t (bS L i) (hbl i hi).2.1 ht (hbl i hi);have hFI:=λe p=>np (G:=G) e p;have hGd:=fb (G:=G);have c7:=Rw (L:=L) (e:=e) h3;have c8:=Rv (L:=L) (e:=e) h3;have c9:=λk=>VH (L:=L) (e:=e) (k:=k) h3;have c10:=VI (L:=L) (e:=e) h3;have c11:=VG (L:=L) (e:=e) h3;have cno:=v8 (L:=L) (e:=e);have cok:=LB (L:=L) (e:=e);have hok:=IN (v:=ny (bS L 1).t) (n:=L.length-3) hb;have ke:(vD L).l.length=L.length-3:=jv _ _ _;generalize fY L e=E at*
 generalize od L e=Cc at*
 refine k7 func13 call13 λC hC hGL=> ?_;refine gr hC hGL (λx:Nat×Nat=>[(0,.list 3 L.length (a6 L)),(1,.int .i64 (e:Int)),(4,.own 0 (eh x.1)),(5,.own 1 (eh x.2))]) (λx=>[jL x.1 0 iN,jy x.2 0 0]) (λ_=>True) ?_ ?_
 ·refine an ?_;intro b b';intros;exact cy (b,b') trivial
 rintro⟨b4,b5⟩ _;dsimp only
 refine cut hC hGL [(0,.list 3 L.length (a6 L)),(1,.int .i64 (e:Int)),(4,.own 0 (eh b4)),(5,.own 1 (eh b5))] [jL b4 0 iN,jy b5 0 0] True ?_ λ_=> ?_
 ·exact eK
 cases hB:aW (qz (bS L 0).t) ma with
 |false=>
  rw[hB] at s0;have c7:=c7 hB;subst c7;rw[cno (λh=>by cases h)];simp only[Err.e,Err.p];refine ar hC hGL (an ?_);intros;refine a7 mixed hC hGL false (λ_:Unit=>[(4,.own 0 (eh b4)),(5,.own 1 (eh b5))]) (λ_=>[jL b4 0 iN,jy b5 3 (bS L 0).a]) .p24 be xu ?_;intro _;refine an ?_;intros;exact⟨[],Ug _,iN,rfl,rfl,.inl ⟨rfl,rfl⟩⟩
 |true=>
  rw[hB] at s0;refine cut hC hGL [(0,.list 3 L.length (a6 L)),(1,.int .i64 (e:Int)),(4,.own 0 (eh b4)),(5,.own 1 (eh b5))] [jL b4 0 iN,jy b5 0 0] True ?_ λ_=> ?_
  ·exact eK
  have v3:lw=WA->ny (bS L 1).t=3:=λh=>by unfold ny;rw[<-r3,if_pos (ce.2 h)]
  have v4:lw≠WA->lw=Yc->ny (bS L 1).t=4:=λh h'=>by unfold ny;rw[<-r3,if_neg (by rw[kM.2 h];decide),<-r4,if_pos (ce.2 h')]
  have v0:lw≠WA->lw≠Yc->ny (bS L 1).t=0:=λh h'=>by unfold ny;rw[<-r3,if_neg (by rw[kM.2 h];decide),<-r4,if_neg (by rw[kM.2 h'];decide)]
  clear r3 r4;refine gr hC hGL (λx:Nat×Nat=>[(0,.list 3 L.length (a6 L)),(1,.int .i64 (e:Int)),(4,.own 0 (eh b4)),(5,.own 1 (eh b5)),(6,.own 3 (eh x.2))]) (λx=>[jL b4 0 iN,jy b5 0 0,KG x.1,jL x.2 (ny (bS L 1).t) iN]) (λ_=>True) ?_ ?_
  ·refine xn ?_;repeat' first|exact .n|apply Lc.mk
   all_goals intros
   ·intros;rename_i bm b6 _ h1;rw[v3 h1];exact cy (bm,b6) trivial
   ·intros;rename_i bm b6 _ h1 h2;rw[v4 h1 h2];exact cy (bm,b6) trivial
   ·intros;rename_i bm b6 _ h1 h2;rw[v0 h1 h2];exact cy (bm,b6) trivial
  rintro⟨bm,b6⟩ _;dsimp only
  by_cases hv0:ny (bS L 1).t=0
  ·have c8:=c8 hB hv0;subst c8;rw[cno (λh=>by cases h),hv0];simp only[Err.e,Err.p];refine ar hC hGL (an ?_);intros;refine a7 mixed hC hGL false (λ_:Unit=>[(4,.own 0 (eh b4)),(5,.own 1 (eh b5))]) (λ_=>[jL b4 0 iN,jy b5 3 (bS L 1).a,KG bm,jL b6 0 iN]) .p24 be xu ?_;intro _;refine an ?_;intros;exact⟨[],Ug _,iN,rfl,rfl,.inl ⟨rfl,rfl⟩⟩
  ·have hv34:=Oh hv0;have c9:=λk=>c9 k hB hv0;have c10:=c10 hB hv0;have c11:=c11 hB hv0;have hD:vD L=⟨ny (bS L 1).t,lm (ny (bS L 1).t) L (L.length-3)⟩:=rfl;clear v3 v4 v0 c7 c8 s0;generalize ny (bS L 1).t=v at*
   refine cut hC hGL [(0,.list 3 L.length (a6 L)),(4,.own 0 (eh b4)),(5,.own 1 (eh b5)),(6,.own 3 (eh b6))] [jL b4 0 iN,jy b5 0 0,KG bm,jL b6 v iN] True ?_ λ_=> ?_
   ·rcases hv34 with rfl|rfl<;>exact eK
   refine cut hC hGL [(0,.list 3 L.length (a6 L)),(4,.own 0 (eh b4)),(5,.own 1 (eh b5)),(6,.own 3 (eh b6)),(7,.int .i64 ((L.length:Int)-1))] [jL b4 0 iN,jy b5 0 0,KG bm,jL b6 v iN] True ?_ λ_=> ?_
   ·exact eK
   refine gr hC hGL (λx:Value=>[(0,.list 3 L.length (a6 L)),(4,.own 0 (eh b4)),(5,.own 1 (eh b5)),(6,.own 3 (eh b6)),(7,.int .i64 ((L.length:Int)-1))]) (λx=>[jL b4 0 iN,jy b5 0 0,KG bm,jL b6 v (.own 4 x),HP x (lm v L (L.length-3))]) (λ_=>∀j,j<L.length-3->jd v (bS L (j+2))= .none) ?_ ?_
   ·refine an ?_;intros;refine FD (ak (ep 15) (ak (iq (i:=3) (p:=1) (x:=jL b6 v iN) (a':=.own 4 (.slice none 0 0)) rfl (λR=>.cells rfl λ_=>iy)) (nB))) ?_;have hi0:lm v L 0=[]:=rfl;refine lp hC hGL (λz:Nat×Value=>[(0,.list 3 L.length (a6 L)),(4,.own 0 (eh b4)),(5,.own 1 (eh b5)),(6,.own 3 (eh b6)),(7,.int .i64 ((L.length:Int)-1)),(8,.int .i64 ((z.1+2:Nat):Int))]) (λz=>[jL b4 0 iN,jy b5 0 0,KG bm,jL b6 v (.own 4 z.2),HP z.2 (lm v L z.1)]) (λz=>z.1<=L.length-3/\∀j,j<z.1->jd v (bS L (j+2))= .none) (λz=>L.length-3-z.1) (0,.slice none 0 0) ⟨Nat.zero_le _,λj h=>absurd h (Uf _)⟩ ?_ ?_ ?_
    ·exact⟨rfl,rfl,rfl,rfl,rfl,rfl,trivial⟩
    ·show _=[jL b4 0 iN,jy b5 0 0,KG bm,jL b6 v (.own 4 (.slice none 0 0)),HP (.slice none 0 0) (lm v L 0)];rw[hi0];unfold HP;rw[FT];rfl
    rintro⟨k,x⟩ ⟨k1,k2⟩;dsimp only at k1 k2 ⊢;by_cases hk:k<L.length-3
    ·have h1:=hit (k+2) a_ v;have hs:=FU v L k;have hlk:=jv v L k;have c9:=c9 k hk k2;have hF:=hFI (jd v (bS L (k+2))).e (jd v (bS L (k+2))).p;rw[KW] at h1;refine an ?_;intros;refine a7 mixed hC hGL false (λy:Bool×Nat×Nat=>[(0,.list 3 L.length (a6 L)),(4,.own 0 (eh b4)),(5,.own 1 (eh b5)),(6,.own 3 (eh b6)),(7,.int .i64 ((L.length:Int)-1)),(8,.int .i64 ((k+2:Nat):Int)),(9,.own (if y.1 then 5 else 6) (eh y.2.1)),(10,.own (if y.1 then 6 else 5) (eh y.2.2))]) (λy=>[jL b4 0 iN,jy b5 0 0,KG bm,jL b6 v (.own 4 x),HP x (lm v L k)]++if y.1 then[.cells y.2.1 (some 65) (df (px v (bS L (k+2)))),jy y.2.2 (jd v (bS L (k+2))).e (jd v (bS L (k+2))).p] else[jy y.2.2 (jd v (bS L (k+2))).e (jd v (bS L (k+2))).p,.cells y.2.1 (some 65) (df (px v (bS L (k+2))))]) (.t 0 (.t 1 (.t 2 (.t 3 (.t 4 (.br 5 (.br 6 (.t 7 (.t 8 (.t 9 (.br 10 (.b 11 (.b 12 (.b 13 .done))) (.b 11 (.b 10 (.b 12 (.b 13 .done)))))))) (.br 10 (.br 6 (.t 7 (.t 8 (.t 9 (.b 11 (.b 12 (.b 13 .done)))))) (.b 11 (.b 6 (.t 7 (.t 8 (.t 9 (.b 12 (.b 13 .done)))))))) (.b 11 (.br 6 (.t 7 (.t 8 (.t 9 (.b 10 (.b 12 (.b 13 .done)))))) (.b 10 (.b 6 (.t 7 (.t 8 (.t 9 (.b 12 (.b 13 .done))))))))))) (.br 10 (.br 5 (.br 6 (.t 7 (.t 8 (.t 9 (.b 11 (.b 12 (.b 13 .done)))))) (.b 11 (.b 6 (.t 7 (.t 8 (.t 9 (.b 12 (.b 13 .done)))))))) (.b 11 (.b 5 (.b 6 (.t 7 (.t 8 (.t 9 (.b 12 (.b 13 .done))))))))) (.b 11 (.br 5 (.br 6 (.t 7 (.t 8 (.t 9 (.b 10 (.b 12 (.b 13 .done)))))) (.b 10 (.b 6 (.t 7 (.t 8 (.t 9 (.b 12 (.b 13 .done)))))))) (.b 10 (.b 5 (.b 6 (.t 7 (.t 8 (.t 9 (.b 12 (.b 13 .done))))))))))))))))) be ?_ ?_
     ·refine xn ?_;repeat' first|exact .n|apply Lc.mk
      all_goals intros
      all_goals first
       |exact⟨(true,_,_),⟨rfl,rfl,rfl,rfl,rfl,rfl,rfl,rfl,trivial⟩,rfl⟩
       |exact⟨(false,_,_),⟨rfl,rfl,rfl,rfl,rfl,rfl,rfl,rfl,trivial⟩,rfl⟩
     ·rintro⟨o,b9,b10⟩;dsimp only
      by_cases h0:jd v (bS L (k+2))= .none
      ·rw[h0] at hF;rw[h0];simp only[Err.e,Err.p] at hF ⊢;rw[show bV 0 0=true from fJ.2 rfl] at hF;generalize px v (bS L (k+2))=X at*
       have e2:(lm v L k).length+1=(lm v L (k+1)).length:=by rw[jv,jv]
       cases o<;>
       ·refine an ?_;intro va vk vc hva;intros;refine fG (k+1,.slice va vk vc) ⟨hk,λj hj=> ?_⟩ (by dsimp only;omega) ae ?_
        ·rcases aaj j k with h|h
         ·exact k2 j h
         ·dsimp only at hj;obtain rfl:j=k:=by omega
          exact h0
        ·dsimp only
         rw[e2];refine V_ _ (V_ _ (V_ _ (V_ _ ?_)));show[HP (.slice va vk vc) (lm v L (k+1))].Sublist (HEnt.row (.slice va vk vc) none 15 (lm v L (k+1)).length (su (lm v L k)++df X)::_);rw[Bf,<-hs];exact V_ _ (Ug _)
      ·have hne:(jd v (bS L (k+2))).e≠0:=λh=>h0 (RC h);rw[show bV (jd v (bS L (k+2))).e 0=false from k9.2 hne] at hF;have c9:=c9 h0;subst c9;rw[cno h0];cases o
       ·refine an ?_;intros;refine a7 mixed hC hGL false (λ_:Unit=>[(4,.own 0 (eh b4)),(5,.own 1 (eh b5))]) (λ_=>[jL b4 0 iN,jy b5 (jd v (bS L (k+2))).e (jd v (bS L (k+2))).p,KG bm,jL b6 v (.own 4 x),HP x (lm v L k),jy b10 (jd v (bS L (k+2))).e (jd v (bS L (k+2))).p,.cells b9 (some 65) (df (px v (bS L (k+2))))]) .p9 be xu ?_;intro _;refine an ?_;intros;exact⟨[],Ug _,iN,rfl,rfl,.inl ⟨rfl,rfl⟩⟩
       ·refine an ?_;intros;refine a7 mixed hC hGL false (λ_:Unit=>[(4,.own 0 (eh b4)),(5,.own 1 (eh b5))]) (λ_=>[jL b4 0 iN,jy b5 (jd v (bS L (k+2))).e (jd v (bS L (k+2))).p,KG bm,jL b6 v (.own 4 x),HP x (lm v L k),.cells b9 (some 65) (df (px v (bS L (k+2)))),jy b10 (jd v (bS L (k+2))).e (jd v (bS L (k+2))).p]) .p9 be xu ?_;intro _;refine an ?_;intros;exact⟨[],Ug _,iN,rfl,rfl,.inl ⟨rfl,rfl⟩⟩
    ·obtain rfl:k=L.length-3:=by omega
     refine an ?_;intros;exact cy x k2
   ·intro x hci;have hci2:=c10 hci;have hci3:=c11 hci;have hlen:=jv v L (L.length-3);have e9:((L.length:Int)-1).toNat=L.length-1:=by omega
    rw[<-e9] at s9 hci2 hci3;cases hB9:aW (qz (bS L ((L.length:Int)-1).toNat).t) kG with
    |false=>
     rw[hB9] at s9;have c10:=hci2 hB9;subst c10;rw[cno (λh=>by cases h)];simp only[Err.e,Err.p];refine ar hC hGL (an ?_);intros;refine a7 mixed hC hGL false (λ_:Unit=>[(4,.own 0 (eh b4)),(5,.own 1 (eh b5))]) (λ_=>[jL b4 0 iN,jy b5 3 (bS L ((L.length:Int)-1).toNat).a,KG bm,jL b6 v (.own 4 x),HP x (lm v L (L.length-3))]) (.t 0 (.t 1 (.t 2 (.t 3 (.t 4 (.br 5 (.t 6 (.b 7 (.b 8 .done))) (.b 7 (.b 5 (.t 6 (.b 8 .done)))))))))) be xu ?_;intro _;refine an ?_;intros;exact⟨[],Ug _,iN,rfl,rfl,.inl ⟨rfl,rfl⟩⟩
    |true=>
     rw[hB9] at s9;have c11:=hci3 hB9;refine RT (ji (i:=4) (k:=3) (p:=1) (dK (lm v L (L.length-3))) rfl rfl (KT _) (λR hr=>.cells (a:=.own 4 x) rfl λ_=>ck hr)) ?_;rw[hD] at c11 cok;have hR:=zN hU hM hH hP ⟨v,lm v L (L.length-3)⟩ ⟨by show(lm v L (L.length-3)).length<=_;omega,λx hx=>(hok x hx).mono b_⟩;have hp:=λe p=>LA (c:=⟨v,lm v L (L.length-3)⟩) (e:=e) (p:=p);have he0:=Ro ⟨v,lm v L (L.length-3)⟩;dsimp only at hp;change ai _ _ _ [.agg [.int .i64 v,.list 15 (lm v L (L.length-3)).length (dK (lm v L (L.length-3)))]] _ at hR;clear hD ke hok hit c10 c9 hci hci2 hci3;generalize lm v L (L.length-3)=I at*
     have hF:=hFI (Crd.E ⟨v,I⟩).e (Crd.E ⟨v,I⟩).p;cases hce:Crd.E ⟨v,I⟩ with
     |none=>
      rw[hce] at hR c11 hF;subst c11;rw[cok rfl];simp only[Err.e,Err.p] at hR hF ⊢;rw[show bV 0 0=true from fJ.2 rfl] at hF;refine ar hC hGL (an ?_);intro b11;intros;refine a7 mixed hC hGL false (λ_:Unit=>[(4,.own 0 (eh b4)),(5,.own 1 (eh b5))]) (λ_=>[jL b4 v (.list 15 I.length (dK I)),jy b5 0 (-1),KG bm,jL b6 v (.list 15 I.length (dK I)),jy b11 0 (-1)]) .p13 be xu ?_;intro _;refine an ?_;intros;exact⟨[],Ug _,_,rfl,rfl,.inr rfl⟩
     |errno e1=>
      have hne:e1≠0:=by
       rw[hce] at he0;rcases he0 with h|h
       ·cases h
       ·exact h.1
      rw[hce] at hR c11 hF;subst c11;rw[cno (λh=>by cases h)];simp only[Err.e,Err.p,Jq] at hR hF ⊢;rw[show bV e1 0=false from k9.2 hne] at hF;refine ar hC hGL (an ?_);intro b11;intros;refine a7 mixed hC hGL false (λ_:Unit=>[(4,.own 0 (eh b4)),(5,.own 1 (eh b5))]) (λ_=>[jL b4 0 iN,jy b5 e1 (-1),KG bm,jL b6 v (.list 15 I.length (dK I)),jy b11 e1 (-1)]) .p9 be xu ?_;intro _;refine an ?_;intros;exact⟨[],Ug _,iN,rfl,rfl,.inl ⟨rfl,rfl⟩⟩
     | atp e1 p1=>
      have hne:e1≠0:=by
       rw[hce] at he0;rcases he0 with h|h
       ·cases h
       ·exact h.1
      obtain⟨p2,p3⟩:=hp _ _ hce;rw[hce] at hR c11 hF;subst c11;rw[cno (λh=>by cases h)];have e8:p1.toNat+2=(p1+2).toNat:=by omega
      simp only[Err.e,Err.p,Jq] at hR hF ⊢;rw[show bV e1 0=false from k9.2 hne] at hF;rw[e8];refine ar hC hGL (an ?_);intro b11;intros;refine a7 mixed hC hGL false (λ_:Unit=>[(4,.own 0 (eh b4)),(5,.own 1 (eh b5))]) (λ_=>[jL b4 0 iN,jy b5 e1 (bS L (p1+2).toNat).a,KG bm,jL b6 v (.list 15 I.length (dK I)),jy b11 e1 (bS L (p1+2).toNat).a]) .p9 be xu ?_;intro _;refine an ?_;intros;exact⟨[],Ug _,iN,rfl,rfl,.inl ⟨rfl,rfl⟩⟩
theorem If {G:Glo}{m:Int}(hU:ab G utfTy)(hM:ab G (bQ m))(hH:ab G shapesTy)(hP:fF G)(t:ω)(L:List LineS)(e:Nat)(ht:t.length<=20100)(hL:L.length<=20100)(hb:∀l∈L,me t l)(he:e<=20100):
  ai prog G 13 [.list 3 L.length (a6 L),.int .i64 (e:Int)] (.tuple [(od L e).A,.agg [.int .i64 (fY L e).e,.int .i64 (fY L e).p]]):=
 dB (EY hU hM hH hP t L e ht hL hb he) λ_ _ h=>GH h
end
section
theorem UX {L:List LineS}{p:ω}{a:Nat}:(oi L p a).1.e=0->(oi L p a).1= .none:=by
 unfold oi
 (repeat' split)<;>intro h<;>first
  |rfl
  |exact absurd h (show(10:Int)≠0 by decide)
  |exact absurd h (show(4:Int)≠0 by decide)
theorem A4 {t:ω}:∀(k:Nat) {a:Nat} {L:List LineS},t.length-a<=k->(cz t a L).1.e=0->(cz t a L).1= .none
 |k,a,L,hk,h=>by
  rw[cz] at h ⊢;by_cases h1:a<t.length
  ·rw[dif_pos h1] at h ⊢;by_cases h2:fk (t.drop a)<0
   ·rw[if_pos h2] at h;exact absurd h (by decide:(7:Int)≠0)
   ·rw[if_neg h2] at h ⊢;by_cases h3:iO t (a+(fk (t.drop a)).toNat)=true
    ·rw[if_pos h3] at h ⊢;have h4:=UX (L:=L) (p:=(t.drop a).take (fk (t.drop a)).toNat) (a:=a);generalize oi L ((t.drop a).take (fk (t.drop a)).toNat) a=q at*
     obtain⟨e,L'⟩:=q;rcases e with _|e|⟨e,p⟩
     ·cases k with
      |zero=>omega
      |succ k=>exact A4 k a_ h
     ·exact h4 h
     ·exact h4 h
    ·rw[if_neg h3] at h;exact absurd h (by decide:(3:Int)≠0)
  ·rw[dif_neg h1]
theorem MN {t:ω}(h:(cA t).e=0):cA t= .none:=by
 unfold cA at h ⊢;by_cases h1:20000<t.length
 ·rw[if_pos h1] at h;exact absurd h (by decide:(4:Int)≠0)
 ·rw[if_neg h1] at h ⊢;exact A4 _ (Nat.le_refl _) h
end
section
def zP (l:List Nat):List AVal:=l.map λ(n:Nat)=>.int .i64 (n:Int)
def Iq (l:List Nat)(i:Nat):AVal:=.int .i64 ((l.getD i 0:Nat):Int)
theorem TB (l:List Nat):∀i,i<l.length->(Iq l i).cells=((zP l).drop (i*1)).take 1/\(Iq l i).plain=true:=by
 intro i hi;refine⟨?_,rfl⟩;have:i<(zP l).length:=by simpa[zP] using hi
 rw[Nat.mul_one,A_ this];simp[Iq,AVal.cells,zP,List.getD,hi]
theorem AW (l:List Nat)(n:Nat):zP l++[.int .i64 (n:Int)]=zP (l++[n]):=by simp[zP]
theorem Un {L:List LineS}{k:Nat}(hk:k<L.length){A:List Nat}(h:mD 0 L=A++mD k (L.drop k)):mD 0 L=(if Hg (bS L k)=true\/k+1=L.length then A++[k+1] else A)++mD (k+1) (L.drop (k+1)):=by
 have e:L.drop k=bS L k::L.drop (k+1):=by
  rw[A_ hk];show _=L.getD k _::_;rw[f_,y_ hk];rfl
 rw[e,mD] at h
 have e2:(L.drop (k+1)).length=0↔k+1=L.length:=by rw[k_];omega
 rw[h]
 by_cases h1:Hg (bS L k)=true\/k+1=L.length
 ·rw[if_pos h1,if_pos (h1.imp id e2.2)];simp
 ·rw[if_neg h1,if_neg (λh=>h1 (h.imp id e2.1))]
theorem EX {G:Glo}{m:Int}(hU:ab G utfTy)(hM:ab G (bQ m))(hH:ab G shapesTy)(hP:fF G)(t:ω)(L:List LineS)(a b e:Nat)(ht:t.length<=20100)(hL:L.length<=20100)(hb:∀l∈L,me t l)(he:e<=20100)(hbl:b<=L.length):
  ai prog G 13 [.list 3 (b-a) (λi=>a6 L (a+i)),.int .i64 (e:Int)] (.tuple [(od ((L.take b).drop a) e).A,.agg [.int .i64 (fY ((L.take b).drop a) e).e,.int .i64 (fY ((L.take b).drop a) e).p]]):=by
 have hl:((L.take b).drop a).length=b-a:=by rw[k_,i_];omega
 refine Dh (If hU hM hH hP t ((L.take b).drop a) e ht a_ (λl h=>hb l (List.mem_of_mem_take (List.mem_of_mem_drop h))) he) λR vs h=> ?_;rw[hl];refine Mn (k:=0) (n:=b-a) (f:=λi=>a6 L (a+i)) (g:=a6 ((L.take b).drop a)) (λi hi vs h=> ?_) rfl h;have e1:a6 ((L.take b).drop a) i=a6 L (a+i):=by
  unfold a6;congr 1
  rw[f_,f_,List.getElem?_drop,List.getElem?_take_of_lt a_]
 rw[e1];exact h
theorem Ql {v:Int}{L:List LineS}:∀{n:Nat},(Qn v L n).e=0->Qn v L n= .none
 |0,_=>rfl
 |n+1,h=>by
  have ih:=Ql (v:=v) (L:=L) (n:=n);rw[Qn] at h ⊢;generalize Qn v L n=X at*
  rcases X with _|e|⟨e,p⟩
  ·exact RC h
  ·cases ih h
  ·cases ih h
theorem XI {L:List LineS}{e:Nat}(h:(fY L e).e=0):fY L e= .none:=by
  by_cases h3:L.length<3
  · rw[GI h3] at h;exact absurd h (show(7:Int)≠0 by decide)
  cases h1:aW (qz (bS L 0).t) ma with
  | false=>
    rw[Rw h3 h1] at h;exact absurd h (show(3:Int)≠0 by decide)
  | true=>
    by_cases h2:ny (bS L 1).t=0
    · rw[Rv h3 h1 h2] at h;exact absurd h (show(3:Int)≠0 by decide)
    · unfold fY at h ⊢;rw[if_neg h3,if_neg (by rw[h1];decide),if_neg h2] at h ⊢;have hi:=Ql (v:=ny (bS L 1).t) (L:=L) (n:=L.length-3);generalize Qn (ny (bS L 1).t) L (L.length-3)=X at*
      rcases X with _|e1|⟨e1,p1⟩
      · dsimp only at h ⊢;by_cases h9:aW (qz (bS L (L.length-1)).t) kG=false
        · rw[if_pos h9] at h;exact absurd h (show(3:Int)≠0 by decide)
        · rw[if_neg h9] at h ⊢;rcases Ro (vD L) with h5|⟨h5,_⟩
          · rw[h5];rfl
          · exact absurd (by have:(Jq L (vD L).E).e=(vD L).E.e:=by cases (vD L).E<;>rfl
                             rw[<-this];exact h) h5
      · cases hi h
      · cases hi h
attribute [local irreducible] bJ au aa ax aR ab ad aN mL mK fY od qu am Sj xi kS mD zP sE dK
theorem Ie {G:Glo}{m:Int}(hU:ab G utfTy)(hM:ab G (bQ m))(hH:ab G shapesTy)(hP:fF G)(t:ω)(ht:t.length<=20100):ad prog G 4 [.str t] [] (Xz (mL t) (.agg [.int .i64 (mK t).e,.int .i64 (mK t).p])):=by
 have hB:=so t;have hs:=pN t;have h1:=CD (G:=G) t a_;have hF:=λe p=>np (G:=G) e p;have hBr:=il (G:=G) 4;have hGd:=fb (G:=G);have eE:mK t=match cA t with|.none=>if 20<(bH t).length then .errno 4 else Sj t (bH t) (bH t).length|x=>x:=by unfold mK;rfl
 have eC:mL t=match mK t with|.none=>xi t (bH t) (bH t).length|_=>[]:=by unfold mL;rfl
 have hno:mK t≠ .none->mL t=[]:=λh=>by
  rw[eC];split
  ·rename_i k;exact absurd k h
  ·rfl
 by_cases hl:cA t= .none
 ·rw[hl] at h1 eE;simp only[Err.e,Err.p] at h1;dsimp only at eE;have hF0:=hF 0 (-1);rw[show bV 0 0=true from fJ.2 rfl] at hF0;have hE0:tf t=mD 0 (bD t):=rfl;have hcut:=λk=>Lm (t:=t) (k:=k);have hend:=λk=>Uo (t:=t) (k:=k);have hlen:=sP t;have hf0:sE t 0=0:=by unfold sE;rfl
  have hfs:=yK t;generalize bD t=L at*
  have hbl:∀i,i<L.length->me t (bS L i):=λi hi=>by
   exact hB.1 _ (sA hi)
  refine k7 func4 call4 λC hC hGL=> ?_;refine gr hC hGL (λb:Nat=>[(0,.str t),(3,.own 0 (eh b))]) (λb=>[jy b 0 0]) (λ_=>True) ?_ ?_
  ·refine an ?_;intro b;intros;exact cy b trivial
  intro b3 _;refine Dp (λ_:Unit=>[(0,.str t),(3,.own 0 (eh b3)),(4,.list 3 L.length (a6 L)),(5,.rop [.int .i64 0,.int .i64 (-1)] 0)]) (λ_=>[jy b3 0 0]) (λ_=>True) ?_ λ_ _=> ?_
  ·refine ar hC hGL (an ?_);intro b5;intros;exact Hf () trivial (ak (az (i:=1) (k:=5) rfl rfl) (bi ae aA))
  refine cut hC hGL [(0,.str t),(3,.own 0 (eh b3)),(4,.list 3 L.length (a6 L))] [jy b3 0 0] True bq λ_=> ?_;refine cut hC hGL [(0,.str t),(3,.own 0 (eh b3)),(4,.list 3 L.length (a6 L)),(6,.raw gz)] [jy b3 0 0] True bq λ_=> ?_;refine Dp (λ_:Unit=>[(0,.str t),(3,.own 0 (eh b3)),(4,.list 3 L.length (a6 L)),(6,.list 1 (tf t).length (Iq (tf t)))]) (λ_=>[jy b3 0 0]) (λ_=>True) ?_ λ_ _=> ?_
  ·refine ar hC hGL (aH ?_);intros;refine jX 6 1 rfl ?_;refine lp hC hGL (λz:Nat×List Nat×Value=>[(0,.str t),(3,.own 0 (eh b3)),(4,.list 3 L.length (a6 L)),(6,.own 1 z.2.2),(25,.list 3 L.length (a6 L)),(26,.int .i64 (L.length:Nat)),(27,.int .i64 (z.1:Nat))]) (λz=>[jy b3 0 0,.row z.2.2 none 1 z.2.1.length (zP z.2.1)]) (λz=>z.1<=L.length/\z.2.1.length<=z.1/\mD 0 L=z.2.1++mD z.1 (L.drop z.1)) (λz=>L.length-z.1) (0,[],gz) ⟨Nat.zero_le _,Nat.zero_le _,rfl⟩ ae (by unfold zP;rfl) ?_;rintro⟨k,A,v⟩ ⟨k1,k2,k3⟩;dsimp only at k1 k2 k3 ⊢;by_cases hk:k<L.length
   ·have hst:=Un hk k3;have s0:=gw (G:=G) (bS L k).t Tn (by have:=(hbl k hk).2.1;omega) b_;rw[gC,show am 97 122 (-32) Tn=kG by decide+kernel] at s0;change ai _ _ _ _ (.bool (Hg (bS L k))) at s0;by_cases hc:Hg (bS L k)=true\/k+1=L.length
    ·rw[if_pos hc] at hst;cases hc1:Hg (bS L k) with
     |true=>
      rw[hc1] at s0;refine an ?_;intros;rename_i va vk vc _ _;refine fG (k+1,A++[k+1],.slice va vk vc) ⟨hk,by simp;omega,hst⟩ (by dsimp only;omega) ae ?_;dsimp only
      rw[<-AW,d_];exact aA
     |false=>
      rw[hc1] at s0 hc;have hq:k+1=L.length:=hc.elim (λh=>by cases h) id;refine an ?_;intros;rename_i va vk vc _ _ _;refine fG (k+1,A++[k+1],.slice va vk vc) ⟨hk,by simp;omega,hst⟩ (by dsimp only;omega) ae ?_;dsimp only
      rw[<-AW,d_];exact aA
    ·rw[if_neg hc] at hst;have hc1:Hg (bS L k)=false:=by
      cases h:Hg (bS L k) with
      |true=>exact absurd (.inl h) hc
      |false=>rfl
     rw[hc1] at s0;have hq:k+1≠L.length:=λh=>hc (.inr h);refine an ?_;intros;exact fG (k+1,A,v) ⟨hk,by dsimp only;omega,hst⟩ (by dsimp only;omega) ae aA
   ·obtain rfl:k=L.length:=by omega
    rw[List.drop_length,show mD L.length []=[] by unfold mD;rfl,Dc,<-hE0] at k3;subst k3;refine an ?_;intros;exact Hf () trivial (ak (wO (i:=1) (k:=6) (j:=1) (Iq (tf t)) rfl (TB _) rfl) (bi ae aA))
  by_cases h20:20<(bH t).length
  ·rw[if_pos h20] at eE;rw[hno (by rw[eE];exact λh=>by cases h),eE];simp only[Err.e,Err.p];refine ar hC hGL (aH ?_);intros;exact⟨[],Ug _,.inl ⟨rfl,rfl,rfl⟩⟩
  ·rw[if_neg h20] at eE;refine cut hC hGL [(0,.str t),(3,.own 0 (eh b3)),(4,.list 3 L.length (a6 L)),(6,.list 1 (tf t).length (Iq (tf t)))] [jy b3 0 0] True bq λ_=> ?_;refine ar hC hGL (aH ?_);intros;refine jX 9 2 rfl ?_;have hz:xi t (bH t) 0=[]:=by unfold xi;rfl
   have hz2:qu []=[]:=by unfold qu;rfl
   refine lp hC hGL (λz:Nat×Value=>[(0,.str t),(3,.own 0 (eh b3)),(4,.list 3 L.length (a6 L)),(9,.own 1 z.2),(10,.int .i64 ((sE t z.1:Nat):Int)),(52,.list 1 (tf t).length (Iq (tf t))),(53,.int .i64 ((tf t).length:Nat)),(54,.int .i64 (z.1:Nat))]) (λz=>[jy b3 0 0,Wg z.2 (xi t (bH t) z.1)]) (λz=>z.1<=(bH t).length/\∀j,j<z.1->fY ((bH t).getD j []) (kS t (bH t) j)= .none) (λz=>(bH t).length-z.1) (0,gz) ⟨Nat.zero_le _,λj h=>absurd h (Uf _)⟩ ?_ ?_ ?_
   ·dsimp only;rw[hf0];exact ae
   ·dsimp only[Wg];rw[hz,hz2];rfl
   rintro⟨k,v⟩ ⟨k1,k2⟩;dsimp only at k1 k2 ⊢;have hsl:=Ca (t:=t) (G:=bH t) k;by_cases hk:k<(bH t).length
   ·have hk':k<(tf t).length:=by omega
    obtain⟨c1,c2,c3⟩:=hcut k hk';have c4:=hend k hk';have hsn:=Eu (t:=t) (G:=bH t) k;have hat:=HN (t:=t) (G:=bH t) hk k2;rw[<-eE] at hat;have hfs:=hfs k;have hen:kS t (bH t) k<=20100:=by
     rw[c4];split
     ·have:=(hbl ((tf t).getD k 0) (by assumption)).1;omega
     ·exact ht
    have h2:=EX (G:=G) hU hM hH hP t L (sE t k) ((tf t).getD k 0) (kS t (bH t) k) ht a_ hB.1 hen c2;rw[c1] at h2;have hz:=XI (L:=(bH t).getD k []) (e:=kS t (bH t) k);obtain⟨E,hX⟩:∃E,fY ((bH t).getD k []) (kS t (bH t) k)=E:=⟨_,rfl⟩;rw[hX] at h2 hat hz;generalize od ((bH t).getD k []) (kS t (bH t) k)=X at*
    rw[c4] at h2;unfold Crd.A at h2;have hFE:=hF E.e E.p;by_cases hE:E= .none
    ·subst hE;have k3:=bL k2 hX;simp only[Err.e,Err.p] at h2;by_cases hk2:(tf t).getD k 0<L.length;all_goals
      first|rw[if_pos hk2] at h2|rw[if_neg hk2] at h2
      refine an ?_;intros;rename_i va vk vc _ _ _ _;refine fG (k+1,.slice va vk vc) ⟨hk,k3⟩ (by dsimp only;omega) (by dsimp only;rw[hfs];exact ae) ?_;dsimp only
      rw[show Wg (.slice va vk vc) (xi t (bH t) (k+1))= .row (.slice va vk vc) none 2 ((xi t (bH t) k).length+1) (qu (xi t (bH t) k)++[.int .i64 X.v,.list 15 X.l.length (dK X.l)]) by show HEnt.row _ _ _ _ _=_;rw[hsn,d_,<-Bz];rfl];exact aA
    ·have hat:=hat hE;have hne:E.e≠0:=λh=>hE (hz h);rw[hno (by rw[hat];exact hE),hat];rw[show bV E.e 0=false from k9.2 hne] at hFE;generalize E.e=e1 at*
     generalize E.p=p1 at*
     by_cases hk2:(tf t).getD k 0<L.length;all_goals
      first|rw[if_pos hk2] at h2|rw[if_neg hk2] at h2
      refine an ?_;intro b14 b15;intros;refine dC (ak (az (i:=3) (k:=15) rfl rfl) (bi (e':=[(3,.own 0 (eh b3)),(15,.rop [.int .i64 e1,.int .i64 p1] 0)]) (h':=[jy b3 0 0]) ae aA)) ?_;refine a7 mixed hC hGL false (λ_:Unit=>[(2,.raw gz),(3,.own 0 (eh b3))]) (λ_=>[jy b3 e1 p1]) (.t 0 (.t 1 (.b 2 .done))) be xu ?_;intro _;refine an ?_;intros;exact⟨[],Ug _,.inl ⟨rfl,rfl,rfl⟩⟩
   ·obtain rfl:k=(bH t).length:=by omega
    have eN:=rV k2;rw[eN] at eE;rw[eE] at eC ⊢;dsimp only at eC;rw[eC];simp only[Err.e,Err.p];refine an ?_;intros;exact⟨_,List.Sublist.cons _ (At _),.inr ⟨1,v,rfl,rfl⟩⟩
 ·have hne:(cA t).e≠0:=λh=>hl (MN h);have e3:mK t=cA t:=by
   rw[eE];split
   ·rename_i h;exact absurd h hl
   ·rfl
  rw[hno (by rw[e3];exact hl),e3];have hF:=hF (cA t).e (cA t).p;rw[show bV (cA t).e 0=false from k9.2 hne] at hF;generalize (cA t).e=e at*
  generalize (cA t).p=p at*
  refine k7 func4 call4 λC hC hGL=> ?_;refine ar hC hGL (an ?_);intro b3 b5;intros;refine dC (az (i:=1) (k:=5) rfl rfl) ?_;refine a7 mixed hC hGL false (λ_:Unit=>[(2,.raw gz),(3,.own 0 (eh b3))]) (λ_=>[jy b3 e p,eB]) (.t 0 (.t 1 (.b 2 .done))) be xu ?_;intro _;refine an ?_;intros;exact⟨[],Ug _,.inl ⟨rfl,rfl,rfl⟩⟩
theorem Mx {G:Glo}{m:Int}(hU:ab G utfTy)(hM:ab G (bQ m))(hH:ab G shapesTy)(hP:fF G)(t:ω)(ht:t.length<=20100):ai prog G 4 [.str t] (.tuple [.list 2 (mL t).length (vC (mL t)),.agg [.int .i64 (mK t).e,.int .i64 (mK t).p]]):=
 dB (Ie hU hM hH hP t ht) λ_ _ h=>GD h
end
section
attribute [local irreducible] bJ au aa ax aR ab ad
theorem qH {G:Glo}(l:List ω)(hl:l.length<=2000000):ai prog G 19 [.list 1 l.length (aB l),.list 1 l.length (aB l)] (.bool true):=by
 refine aw func19 call19 λC hC hGL=> ?_;refine aH ?_;intros;refine lp hC hGL (λk:Nat=>[(0,.list 1 l.length (aB l)),(1,.list 1 l.length (aB l)),(12,.int .i64 (l.length:Int)),(13,.int .i64 (k:Int))]) (λ_=>[]) (λk=>k<=l.length) (λk=>l.length-k) 0 (Nat.zero_le _) ?_ ?_ ?_
 ·exact ae
 ·rfl
 intro k hk;by_cases h:k<l.length
 ·refine aH ?_;intros;exact fG (k+1) h a_ ae aA
 ·exact bq
abbrev Vy (b:Nat):Value:=.pointer (some ⟨b,0,none⟩)
abbrev zo (x:Itm):List AVal:=[.int .i64 x.2.t,.str x.2.s,.list 1 x.2.L.length (gX x.2.L),.int .i64 x.2.st.y,.int .i64 x.2.st.m,.int .i64 x.2.st.d,.int .i64 x.2.st.h,.int .i64 x.2.st.i,.int .i64 x.2.st.s,.bool x.2.st.z,.int .i64 x.2.st.o,.int .i64 x.2.n]
abbrev tg (v:Int)(l:List Itm):AVal:=.rop [.int .i64 v,.list 15 l.length (dK l)] 0
def Crd.okE (c:Crd):Prop:=c.l.length<=1000000/\∀x∈c.l,Small x.2.L/\x.1.ps.length<=10000/\∀j,(x.1.ps.getD j Pr.z).vs.length<=2000000
theorem Crd.ok.E {c:Crd}(h:c.ok):c.okE:=⟨h.1,λx hx=>⟨(h.2 x hx).L,(h.2 x hx).p.ps,λj=>by have:=((h.2 x hx).p.q j).2.1;have:(x.1.ps.getD j Pr.z).vs.length<=10000:=this;omega⟩⟩
theorem Ic {G:Glo}(c:Crd)(hf:c.okE):ai prog G 8 [c.A,c.A] (.bool true):=by
 obtain⟨v,l⟩:=c;obtain⟨h70,ho⟩:=hf;dsimp only at h70 ho;unfold Crd.A;dsimp only
 refine k7 func8 call8 λC hC hGL=> ?_;refine cut hC hGL [(2,tg v l),(3,tg v l)] [] True ?_ λ_=> ?_
 ·exact eK
 refine cut hC hGL [(2,tg v l),(3,tg v l)] [] True ?_ λ_=> ?_
 ·exact eK
 have hcl:=call19;refine cut hC hGL [] [] True ?_ λ_=>ar hC hGL eK;refine an ?_;intros;refine lpA hC hGL (λk:Nat=>[(2,tg v l),(3,tg v l),(28,.int .i64 (l.length:Int)),(29,.int .i64 (k:Int))]) (λ_=>[]) (λk=>k<=l.length) (λk=>l.length-k) 0 (Nat.zero_le _) ae rfl ?_;intro k hk;by_cases h:k<l.length;case neg=>exact ar hC hGL eK
 have hO:=ud ho h;have hL:=hO.1;have hz:=HG (l.getD k Itm.z).2.st;refine j7 (ar hC hGL (an ?_));refine j7 (ar hC hGL (an ?_));intros;refine j7 (mf ?_);refine cut hC hGL [(2,tg v l),(3,tg v l),(28,.int .i64 (l.length:Int)),(29,.int .i64 (k:Int)),(5,.int .i64 (k:Int))] [] True eK λ_=> ?_;refine Dp (λ_:Unit=>[(2,tg v l),(3,tg v l),(28,.int .i64 (l.length:Int)),(29,.int .i64 (k:Int)),(6,.rop (df (l.getD k Itm.z)) 0),(7,.rop (df (l.getD k Itm.z)) 0)]) (λ_=>[]) (λ_=>True) (ar hC hGL ?_) ?_
 ·refine an ?_;refine a7 mixed hC hGL false (λy:Bool×Nat×Nat=>[(2,tg v l),(3,tg v l),(28,.int .i64 (l.length:Int)),(29,.int .i64 (k:Int)),(6,if y.1 then .own 0 (Vy y.2.1) else .own 1 (Vy y.2.2)),(7,if y.1 then .own 1 (Vy y.2.2) else .own 0 (Vy y.2.1))]) (λy=>[.cells y.2.1 (some 65) (df (l.getD k Itm.z)),.cells y.2.2 (some 65) (df (l.getD k Itm.z))]) (.t 0 (.t 1 (.t 2 (.t 3 (.t 4 (.t 5 (.t 6 (.t 7 (.t 8 (.t 9 (.br 10 (.b 11 (.b 12 (.b 13 .done))) (.b 11 (.b 10 (.b 12 (.b 13 .done))))))))))))))) be ?_ ?_
  ·refine xn ?_;repeat' first|exact .n|apply Lc.mk
   all_goals intros
   all_goals first
    |exact⟨(true,_,_),⟨rfl,rfl,rfl,rfl,rfl,rfl,trivial⟩,rfl⟩
    |exact⟨(false,_,_),⟨rfl,rfl,rfl,rfl,rfl,rfl,trivial⟩,rfl⟩
  rintro⟨o,b6,b7⟩;cases o
  ·exact Hf () trivial (ak (az (i:=1) (k:=6) rfl rfl) (ak (az (i:=0) (k:=7) rfl rfl) (bi ae aA)))
  ·exact Hf () trivial (ak (az (i:=0) (k:=6) rfl rfl) (ak (az (i:=1) (k:=7) rfl rfl) (bi ae aA)))
 intro _ _;generalize l.getD k Itm.z=x at*
 refine Dp (λ_:Unit=>[(2,tg v l),(3,tg v l),(28,.int .i64 (l.length:Int)),(29,.int .i64 (k:Int)),(6,.rop (df x) 0),(7,.rop (df x) 0),(8,.rop (zo x) 0),(9,.rop (zo x) 0)]) (λ_=>[]) (λ_=>True) (ar hC hGL ?_) ?_
 ·refine an ?_;refine a7 mixed hC hGL false (λy:Bool×Nat×Nat=>[(2,tg v l),(3,tg v l),(28,.int .i64 (l.length:Int)),(29,.int .i64 (k:Int)),(6,.rop (df x) 0),(7,.rop (df x) 0),(8,if y.1 then .own 0 (Vy y.2.1) else .own 1 (Vy y.2.2)),(9,if y.1 then .own 1 (Vy y.2.2) else .own 0 (Vy y.2.1))]) (λy=>[.cells y.2.1 (some 63) (zo x),.cells y.2.2 (some 63) (zo x)]) (.t 0 (.t 1 (.t 2 (.t 3 (.br 4 (.b 5 (.b 6 (.b 7 .done))) (.b 5 (.b 4 (.b 6 (.b 7 .done))))))))) be ?_ ?_
  ·refine xn ?_;repeat' first|exact .n|apply Lc.mk
   all_goals intros
   all_goals first
    |exact⟨(true,_,_),⟨rfl,rfl,rfl,rfl,rfl,rfl,rfl,rfl,trivial⟩,rfl⟩
    |exact⟨(false,_,_),⟨rfl,rfl,rfl,rfl,rfl,rfl,rfl,rfl,trivial⟩,rfl⟩
  rintro⟨o,b6,b7⟩;cases o
  ·exact Hf () trivial (ak (az (i:=1) (k:=8) rfl rfl) (ak (az (i:=0) (k:=9) rfl rfl) (bi ae aA)))
  ·exact Hf () trivial (ak (az (i:=0) (k:=8) rfl rfl) (ak (az (i:=1) (k:=9) rfl rfl) (bi ae aA)))
 intro _ _;refine cut hC hGL [(2,tg v l),(3,tg v l),(28,.int .i64 (l.length:Int)),(29,.int .i64 (k:Int)),(6,.rop (df x) 0),(7,.rop (df x) 0),(8,.rop (zo x) 0),(9,.rop (zo x) 0)] [] True ?_ λ_=> ?_
 ·refine an ?_;intros;refine aY hC hGL (tt true rfl rfl rfl rfl be be be rfl hz) rfl rfl ?_;exact eK
 have hst:=λj=>qH (G:=G) (x.2.L.getD j []) (hL.k j).1;have hsp:=λj=>qH (G:=G) (x.1.ps.getD j Pr.z).vs (hO.2.2 j);have hLn:=hL.n;have hpn:x.1.ps.length<=10000:=hO.2.1;refine cut hC hGL [(2,tg v l),(3,tg v l),(28,.int .i64 (l.length:Int)),(29,.int .i64 (k:Int)),(6,.rop (df x) 0),(7,.rop (df x) 0)] [] True ?_ λ_=> ?_
 ·refine an ?_;intros;refine lp hC hGL (λj:Nat=>[(2,tg v l),(3,tg v l),(28,.int .i64 (l.length:Int)),(29,.int .i64 (k:Int)),(6,.rop (df x) 0),(7,.rop (df x) 0),(8,.rop (zo x) 0),(9,.rop (zo x) 0),(106,.int .i64 (x.2.L.length:Nat)),(107,.int .i64 (j:Nat))]) (λ_=>[]) (λj=>j<=x.2.L.length) (λj=>x.2.L.length-j) 0 (Nat.zero_le _) ae rfl ?_;intro j hj;by_cases hjl:j<x.2.L.length
  ·have hst:=hst j;refine an ?_;intros;refine a7 mixed hC hGL false (λ_:Unit=>[(2,tg v l),(3,tg v l),(28,.int .i64 (l.length:Int)),(29,.int .i64 (k:Int)),(6,.rop (df x) 0),(7,.rop (df x) 0),(8,.rop (zo x) 0),(9,.rop (zo x) 0),(106,.int .i64 (x.2.L.length:Nat)),(107,.int .i64 (j:Nat)),(121,.bool false)]) (λ_=>[]) (.t 0 (.t 1 (.t 2 (.t 3 (.t 4 (.t 5 (.t 6 (.t 7 (.t 8 (.t 9 (.b 10 (.t 11 .done)))))))))))) be xu ?_;intro _;refine an ?_;intros;exact fG (j+1) hjl a_ ae aA
  ·exact eK
 refine ar hC hGL (an ?_);intros;refine lp hC hGL (λj:Nat=>[(2,tg v l),(3,tg v l),(28,.int .i64 (l.length:Int)),(29,.int .i64 (k:Int)),(6,.rop (df x) 0),(7,.rop (df x) 0),(125,.int .i64 (x.1.ps.length:Nat)),(126,.int .i64 (j:Nat))]) (λ_=>[]) (λj=>j<=x.1.ps.length) (λj=>x.1.ps.length-j) 0 (Nat.zero_le _) ae rfl ?_;intro j hj;by_cases hjl:j<x.1.ps.length
 ·have hsp:=hsp j;refine an ?_;intros;refine a7 mixed hC hGL false (λ_:Unit=>[(2,tg v l),(3,tg v l),(28,.int .i64 (l.length:Int)),(29,.int .i64 (k:Int)),(6,.rop (df x) 0),(7,.rop (df x) 0),(125,.int .i64 (x.1.ps.length:Nat)),(126,.int .i64 (j:Nat)),(157,.bool false)]) (λ_=>[]) (.t 0 (.t 1 (.t 2 (.t 3 (.t 4 (.t 5 (.t 6 (.t 7 (.t 8 (.t 9 (.t 10 (.t 11 (.t 12 (.t 13 (.t 14 (.t 15 (.t 16 (.t 17 (.t 18 (.t 19 (.t 20 (.t 21 (.t 22 (.t 23 (.t 24 (.t 25 (.b 26 (.t 27 (.t 28 .done))))))))))))))))))))))))))))) be xu ?_;intro _;refine an ?_;intros;exact fG (j+1) hjl a_ ae aA
 ·refine an ?_;intros;refine ar hC hGL (an ?_);intros;exact fG (k+1) h a_ ae aA
theorem Mw {G:Glo}(c:Crd)(hf:c.ok):ai prog G 8 [c.A,c.A] (.bool true):=Ic c hf.E
end
section
theorem SV (t:ω)(ht:t.length<=20100):∀c∈mL t,c.ok:=by
 have hB:=so t;have hs:=pN t;unfold mL;split
 ·intro c hc;unfold xi at hc;obtain⟨i,hi,rfl⟩:=List.mem_map.1 hc;have hi:=List.mem_range.1 hi;have h1:=hs.2 ((bH t).getD i []) (by rw[f_,y_ hi];exact K_ hi);exact Rx (λl hl=>hB.1 l (h1.2.2 l hl)) a_
 ·intro c hc;cases hc
theorem OQ (t:ω):(mL t).length<=(bD t).length:=by
 have hs:=pN t;unfold mL;split
 ·rw[Ca];exact hs.1
 ·exact Nat.zero_le _
attribute [local irreducible] bJ au aa ax aR ab ad mL mK dK
theorem vE {G:Glo}(L:List Crd)(hn:L.length<=1000000)(ho:∀c∈L,c.ok):ai prog G 7 [.list 2 L.length (vC L),.list 2 L.length (vC L),.func (.func 8) [] []] (.bool true):=by
 refine aw func7 call7 λC hC hGL=> ?_;refine aH ?_;intros;refine lp hC hGL (λ(k:Nat)=>[(1,.list 2 L.length (vC L)),(2,.func (.func 8) [] []),(15,.list 2 L.length (vC L)),(16,.int .i64 L.length),(17,.int .i64 k)]) (λ_=>[]) (λk=>k<=L.length) (λk=>L.length-k) 0 ?_ ae rfl ?_
 ·exact Nat.zero_le _
 intro k hk;have hk:k<=L.length:=hk;by_cases hk2:k<L.length
 ·have h1:=Mw (G:=G) (L.getD k Crd.z) (XA ho hk2);have hcl:=call8;change ai _ _ _ [vC L k,vC L k] _ at h1;refine aH ?_;intros;refine fG (k+1) (show k+1<=_ by omega) a_ ⟨rfl,rfl,rfl,rfl,rfl,trivial⟩ (Ug _)
 ·exact bq
theorem vu {G:Glo}{m:Int}(hU:ab G utfTy)(hE:ab G errTy)(hE2:pH G)(hP:fF G)(hM:ab G (bQ m))(hH:ab G shapesTy)(hS:qw G)(t:ω)(hl:t.length<=9223372036854775807):ai prog G 3 [.str t] (.bool true):=by
 by_cases hb:5000<t.length
 ·refine aw func3 call3 λC hC hGL=> ?_;exact bq
 have ht:t.length<=20100:=by omega
 have h1:=Mx (G:=G) hU hM hH hP t ht;have h2:=BZ (G:=G) hE hE2 hU hP hM hS t ht;have h4:=OQ t;have h5:=(so t).2;have h3:=vE (G:=G) (mL t) a_ (SV t ht);have hpl:=MB (G:=G) hE (mK t);have hc1:=call6;have hc2:=call7;generalize mK t=e at*
 generalize mL t=c at*
 refine aw func3 call3 λC hC hGL=> ?_;cases e<;>simp only[Err.A,Err.e,Err.p,ls,th] at h1 h2 hpl
 all_goals exact bq
end
section
open Go Go.ChangeShapes Go.WideShapes
theorem y7 {W:World}{a:Addr}{v:Value}(h:W.cell? a=some v):∃b o C e fz,a=⟨b,o,none⟩/\W.heap[b]? =some (.cells C e fz):=by
 obtain⟨b,o,sp⟩:=a;unfold World.cell? at h;dsimp only at h;cases hW:W.heap[b]? with
 |none=>rw[hW] at h;cases h
 |some ob=>
  cases ob with
  |cells C e fz=>
   rw[hW] at h;cases sp with
   |some s=>simp at h
   |none=>exact⟨b,o,C,e,fz,rfl,hW⟩
  |_=>rw[hW] at h;cases h
theorem G2 (b o i:Nat):(⟨b,o,none⟩:Addr).add i=⟨b,o+i,none⟩:=by
 unfold Addr.add;split
 ·rename_i h;rw[h];rfl
 ·rfl
theorem UB {W:World}{b o:Nat}{C:Array Value}{e:TypeId}{fz:Nat×Nat}(hW:W.heap[b]? =some (.cells C e fz)):W.cell? ⟨b,o,none⟩=C.toList[o]? :=by
 unfold World.cell?;simp[hW]
theorem Jv {W:World}{base b o n:Nat}{C:Array Value}{e:TypeId}{fz:Nat×Nat}(hW:W.heap[b]? =some (.cells C e fz)){cs:List Value}(h:W.cells? base ⟨b,o,none⟩ n=some cs):(C.toList.drop o).take n=cs:=by
 obtain⟨_,hl,hi⟩:=World.cells?_some h;have hx:∀i,i<n->C.toList[o+i]? =cs[i]? :=λi k=>by
  have:=hi i k;rwa [G2,UB hW] at this
 apply List.ext_getElem?;intro i;by_cases k:i<n
 ·rw[List.getElem?_take_of_lt k,List.getElem?_drop,hx i k]
 ·rw[P_ (by rw[i_];omega),P_ a_]
theorem ER {R:Seal}{x y z:ω}{cs:List Value}{s0 s1 s2:ByteArray}(h:cs=[.string s0,.string s1,.string s2])(h0:s0.data.toList=x)(h1:s1.data.toList=y)(h2:s2.data.toList=z):bI R (.agg [.str x,.str y,.str z]) cs:=by
 subst h h0 h1 h2;exact⟨_,_,rfl,by rw[bI,B2],_,_,rfl,by rw[bI,B2],_,_,rfl,by rw[bI,B2],rfl⟩
theorem OB {α:Type}{l:List α}(h:l.length=3):∃a b c,l=[a,b,c]:=by
 match l,h with
 |[a,b,c],_=>exact⟨a,b,c,rfl⟩
def xd {H:Type}(i:Nat):DataW H:=.agg [.lit (.string (kn i)),.lit (.string (bT i)),.lit (.string (aX i))]
theorem Et {W:World}{laid:List (String×DataW Unit)}(hL:laidMetH prog laid W)(hm:("visitingcard/visitingcardref.shapes",Rows.laid_visitingcard_visitingcardref_shapes)∈laid):dR (cj W W.heap.size) 1 0 [.list 3 7 lg]:=by
 obtain⟨C0,e0,fz0,fuel,p,hW0,hd⟩:=n5 hL hm be (g:=1) (t:=220) be be
 rcases Go.Deep.open_slice underlying220 hd with⟨_,hx⟩|⟨a,len,cap,m,n,D,Pl,hv,_,hl,_,hm2,hx,hi⟩
 ·cases hx
 have e1:(List.range 7).map (fun i=>(xd i:DataW Unit))=(List.range len).map D:=by
  have:=(DataW.slice.inj (Prod.mk.inj hx).1).1
  rw[←this]
  rfl
 have hlen:len=7:=by
  have:=congrArg List.length e1
  simpa using this.symm
 subst hlen
 have hD:∀i,i<7→D i=xd i:=fun i k=>by
  have h1:((List.range 7).map D)[i]? =some (D i):=by simp[k]
  have h2:((List.range 7).map (fun i=>(xd i:DataW Unit)))[i]? =some (xd i):=by simp[k]
  rw[e1,h1] at h2
  exact Option.some.inj h2
 have hm7:7≤m:=by rw[hm2];split<;>omega
 have hc3:prog.cellsOf 221=3:=by kernel_rfl
 have hc1:prog.cellsOf 9=1:=by kernel_rfl
 rw[hc3] at hi
 obtain⟨c0,hc0,_⟩:=hi 0 a_
 have hcell:∃v,W.cell? a=some v:=by
  obtain⟨_,h1,h2⟩:=World.cells?_some hc0
  have h3:=h2 0 b_
  rw[Nat.zero_mul,show(a.add 0).add 0=a from rfl,y_ a_] at h3
  exact⟨_,h3⟩
 obtain⟨v,hv0⟩:=hcell
 obtain⟨b,o,C,e,fz,rfl,hWb⟩:=y7 hv0
 refine jo (pA hW0) hW0 ?_
 rw[hv]
 refine⟨_,_,rfl,⟨some ⟨b,o,none⟩,cap,rfl,hl,.inr ⟨b,o,C,e,fz,rfl,?_,fun i k=> ?_⟩⟩,rfl⟩
 ·unfold cj
  rw[if_pos (pA hWb)]
  exact hWb
 ·obtain⟨cs,h1,h2⟩:=hi i a_
  rw[G2] at h1
  have h3:=Jv hWb h1
  rw[h3]
  rw[hD i k] at h2
  obtain⟨y0,y1,y2,n2,hy,hcl,g0,g1,g2⟩:=Go.Deep.trod_struct3 underlying221 h2
  rw[hc3] at hcl
  obtain⟨s0,q0,r0,_⟩:=DataW.trod_string underlying9 g0
  obtain⟨s1,q1,r1,_⟩:=DataW.trod_string underlying9 g1
  obtain⟨s2,q2,r2,_⟩:=DataW.trod_string underlying9 g2
  have hy1:=(Prod.mk.inj hy).1
  rw[r0,r1,r2] at hy1
  unfold xd at hy1
  simp only[DataW.agg.injEq,o_,DataW.lit.injEq,Lit.string.injEq,and_true] at hy1
  refine ER (s0:=s0) (s1:=s1) (s2:=s2) ?_ hy1.1.symm hy1.2.1.symm hy1.2.2.symm
  obtain⟨u0,u1,u2,rfl⟩:=OB hcl
  have q0:([u0,u1,u2].drop 0).take (prog.cellsOf 9)=[.string s0]:=q0
  have q1:([u0,u1,u2].drop 1).take (prog.cellsOf 9)=[.string s1]:=q1
  have q2:([u0,u1,u2].drop 2).take (prog.cellsOf 9)=[.string s2]:=q2
  rw[hc1] at q0 q1 q2
  simp at q0 q1 q2
  rw[q0,q1,q2]
theorem UA {W:World}{g:Nat}{v:Value}(h:W.cell? ⟨g,0,none⟩=some v):g<W.heap.size:=by
 obtain⟨b,o,C,e,fz,ha,hW⟩:=y7 h;cases ha;exact pA hW
end
section
open Go Go.ChangeShapes Go.WideShapes
def Vt:Glo:=⟨λR=>∃e fz,R 3=some (.cells (Lib.asciiSpaceTab.map λz=>Value.int .u8 z).toArray e fz),λ_ _ hle ⟨e,fz,h⟩=>⟨e,fz,hle _ _ h⟩⟩
theorem S4 {W:World}{k:Nat}(hk:3<k){laid:List (String×DataW Unit)}(hL:laidMetH prog laid W)(hm:("strings.asciiSpace",Rows.laid_strings_asciiSpace)∈laid):Vt.p (cj W k):=by
 obtain⟨C,e,fz,fuel,p,hW,hd⟩:=n5 hL hm be (g:=3) (t:=241) be be
 have e0:(Rows.laid_strings_asciiSpace:DataW Unit)= .agg (((List.range 256).map fun i=>if Lib.isSp (UInt8.ofNat i) then 1 else 0).map fun x:Nat=>.lit (.int .u8 (x:Int))):=by kernel_rfl
 rw[e0] at hd
 have hc:=tl (n:=256) underlying241 underlying5 be be hd (by rw[C_,List.length_range])
 have e1:C=(Lib.asciiSpaceTab.map fun z=>Value.int .u8 z).toArray:=by
  apply Array.ext'
  rw[hc]
  kernel_rfl
 refine⟨e,fz,?_⟩
 unfold cj
 rw[if_pos hk,hW,e1]
end
section
open Go Go.ChangeShapes Go.WideShapes Go.ChangeAt Go.RowKit Go.WideMaps Go.WideElems
theorem Oy {H:Type}{enc:TypeId×Value->H}{P:Program}{W:World}{base:Nat}{spare:Nat->Bool}{fuel:Nat}{t:TypeId}{ms:Array (String×TypeId)}{cs:List Value}{nm:String}{x:DataW H}{p:List MemPlace}(ht:P.underlying t=some (.interface ms))(h:DataW.trod enc P W base spare false fuel t cs=some (.iface nm x,p)):∃u v,cs=[.iface u v]:=by
 cases fuel with
 |zero=>simp[DataW.trod] at h
 |succ n=>
  rcases cs with _|⟨c,_|⟨c2,r⟩⟩
  ·simp[DataW.trod,ht] at h
  ·cases c with
   |iface u v=>exact⟨_,_,rfl⟩
   |_=>simp[DataW.trod,ht] at h
  ·simp[DataW.trod,ht] at h
theorem Gn {W:World}{laid:List (String×DataW Unit)}(hL:laidMetH prog laid W){n nm:String}{x:DataW Unit}(hm:(n,.iface nm x)∈laid)(hn:(DataW.iface nm x).handleName?.isNone=true){g:Nat}(hg:prog.globalNamed n=some g)(ht:(prog.globals[g]?).map (·.type)=some 29):BP g (cj W W.heap.size):=by
 obtain⟨C,e,fz,fuel,p,hW,hd⟩:=n5 hL hm hn hg ht;obtain⟨u,v,h⟩:=Oy underlying29 hd;refine⟨u,v,e,fz,?_⟩;unfold cj;rw[if_pos (pA hW),hW];obtain⟨l⟩:=C;obtain rfl:=h;rfl
def T5:Glo:=⟨λR=>BP 8 R/\BP 9 R,λ_ _ hle ⟨⟨t,v,e,fz,h⟩,⟨t2,v2,e2,fz2,h2⟩⟩=>⟨⟨t,v,e,fz,hle _ _ h⟩,⟨t2,v2,e2,fz2,hle _ _ h2⟩⟩⟩
noncomputable def uU (m:Int):Glo:=C8 (Vu (utfTy++errTy++bQ m++shapesTy)) (C8 QG (C8 T5 Vt))
theorem XB {m:Int}:ab (uU m) utfTy:=sy (qh λx h=>List.mem_append_left _ (List.mem_append_left _ (List.mem_append_left _ h)))
theorem XF {m:Int}:ab (uU m) errTy:=sy (qh λx h=>List.mem_append_left _ (List.mem_append_left _ (List.mem_append_right _ h)))
theorem XE {m:Int}:ab (uU m) (bQ m):=sy (qh λx h=>List.mem_append_left _ (List.mem_append_right _ h))
theorem XC {m:Int}:ab (uU m) shapesTy:=sy (qh λx h=>List.mem_append_right _ h)
theorem XD {m:Int}:fF (uU m):=λ_ h=>h.2.1
theorem Uw {m:Int}:pH (uU m):=λ_ h=>h.2.2.1
theorem Zd {m:Int}:qw (uU m):=λ_ h=>h.2.2.2
theorem W3 {W:World}{m:Int}(hm:W.cell? ⟨2,0,none⟩=some (.int .i64 m)){laid:List (String×DataW Unit)}(h0:("unicode/utf8.first",Rows.laid_unicode_utf8_first)∈laid)(h4:("unicode/utf8.acceptRanges",Rows.laid_unicode_utf8_acceptRanges)∈laid)(h1:("errors.errorType",Rows.laid_errors_errorType)∈laid)
  (h3:("visitingcard/visitingcardref.shapes",Rows.laid_visitingcard_visitingcardref_shapes)∈laid) (h2:("strings.asciiSpace",Rows.laid_strings_asciiSpace)∈laid) (h5:("internal/strconv.uint64pow10",Rows.laid_internal_strconv_uint64pow10)∈laid) (h6:("strconv.ErrSyntax",Rows.laid_strconv_ErrSyntax)∈laid) (h7:("strconv.ErrRange",Rows.laid_strconv_ErrRange)∈laid) (hL:laidMetH prog laid W):(uU m).p (cj W W.heap.size):=by
 refine⟨fun x hx=> ?_,Ps (vS hL h5 be (g:=10) (t:=377) be be) hL h5,⟨Gn hL h6 be be be,Gn hL h7 be be be⟩,S4 (vS hL h2 be (g:=3) (t:=241) be be) hL h2⟩
 simp only[Lu,L_,p_,t_,or_false] at hx
 rcases hx with rfl|rfl|rfl|rfl|hx
 ·exact I7 (vS hL h0 be (g:=6) (t:=241) be be) hL h0
 ·exact G3 (vS hL h4 be (g:=7) (t:=300) be be) hL h4
 ·exact Jf (Xk hL h1) hL h1
 ·exact Is (UA hm) hm
 ·obtain rfl:=List.mem_singleton.1 (show x∈[(1,[AVal.list 3 7 lg])] from hx)
  exact Et hL h3
end
end Go.Proofs.YtgpjhbhdbjdlgaaGreatDoor
