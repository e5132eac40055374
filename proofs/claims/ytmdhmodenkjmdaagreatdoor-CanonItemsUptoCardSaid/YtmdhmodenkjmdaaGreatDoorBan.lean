/- Parts of the proof of canonItems_card. -/
import Derived.Deep.DeepHandedRow
import Derived.Test.YtmdhmodenkjmdaaGreatDoorBam
set_option linter.unusedVariables false
set_option linter.unusedSimpArgs false
set_option linter.unusedSectionVars false
namespace Go.Proofs.YtmdhmodenkjmdaaGreatDoor
open Go Go.RowKit
open Go.Proofs.Tryz Go.Proofs.YtmdhmodenkjmdaaGreatDoor.Tryz
set_option maxRecDepth 20000
set_option maxHeartbeats 4000000
section
set_option maxHeartbeats 8000000
def jW:List UInt8->Nat
 |[]=>0
 |c::r=>if c=57 then jW r+1 else jW r
theorem lD {form:List UInt8}{i:Nat}(h:i<form.length):form.drop i=form[i]::form.drop (i+1):=List.drop_eq_getElem_cons h
theorem un {form:List UInt8}{i:Nat}(h:i<form.length)(hc:form[i]=57):jW (form.drop i)=jW (form.drop (i+1))+1:=by
 rw[lD h,jW,if_pos hc]
theorem EL {form:List UInt8}{i:Nat}(h:i<form.length)(hc:form[i]≠57):jW (form.drop i)=jW (form.drop (i+1)):=by
 rw[lD h,jW,if_neg hc]
theorem Bs {form all:List UInt8}{i:Nat}(h:i<form.length)(hc:form[i]=57)(ha:0<all.length):fR (form.drop i) all=bw [(aa all 0:Int)]++fR (form.drop (i+1)) (all.drop 1):=by
 rw[lD h];cases all with
 |nil=>cases ha
 |cons x t=>
  rw[fR,if_pos hc];have:bw [(aa (x::t) 0:Int)]=[x]:=by
   show[UInt8.ofNat x.toNat]=[x];rw[UInt8.ofNat_toNat]
  rw[this];rfl
theorem Bt {form all:List UInt8}{i:Nat}(h:i<form.length)(hc:form[i]≠57):fR (form.drop i) all=bw [(aa form i:Int)]++fR (form.drop (i+1)) all:=by
 rw[lD h];have e:fR (form[i]::form.drop (i+1)) all=form[i]::fR (form.drop (i+1)) all:=by simp only[fR,if_neg hc]
 rw[e];have:bw [(aa form i:Int)]=[form[i]]:=by
  rw[bU h];show[UInt8.ofNat form[i].toNat]=_;rw[UInt8.ofNat_toNat]
 rw[this];rfl
theorem M9 {form:List UInt8}{i:Nat}(h:i<form.length):form[i]=57↔(aa form i:Int)=57:=by
 rw[bU h,<-UInt8.toNat_inj];constructor
 ·intro k;rw[k];rfl
 ·intro k;have:form[i].toNat=57:=by omega
  rw[this];rfl
theorem NK {t:Stm}(hf:t.frm=true):0<=cZ (ar t.y) (ar t.m) (ar t.d)/\cZ (ar t.y) (ar t.m) (ar t.d)<7:=by
 have:=((il t).1 hf).1;have h2:=Cb (ar t.y) (ar t.m) (ar t.d);unfold Stm.dn Stm.tn at this;omega
theorem NH {t:Stm}(hf:t.frm=true):0<=cZ (ar t.h) (ar t.i) (ar t.s)/\cZ (ar t.h) (ar t.i) (ar t.s)<7:=by
 have:=((il t).1 hf).1;have h2:=Cb (ar t.h) (ar t.i) (ar t.s);unfold Stm.dn Stm.tn at this;omega
theorem EY (i:Nat):(bX i).length<=8:=by
 match i with
 |0|1|2|3|4|5|6=>decide
 |n+7=>exact Nat.zero_le _
theorem Ic (i:Nat):(fB i).length<=6:=by
 match i with
 |0|1|2|3|4|5|6=>decide
 |n+7=>exact Nat.zero_le _
def j7 (t:Stm):Nat->Int
 |0=>t.m
 |1=>t.d
 |2=>t.h
 |3=>t.i
 |_=>t.s
def iH (t:Stm):Nat->List UInt8
 |0=>if t.y= -1 then[] else fQ t.y
 |k+1=>if j7 t k= -1 then iH t k else iH t k++cg (j7 t k)
theorem iG {t:Stm}{A:List UInt8}{k:Nat}(hA:A=iH t k)(h:j7 t k≠ -1):A++cg (j7 t k)=iH t (k+1):=by
 rw[iH,if_neg h,hA]
theorem fH {t:Stm}{A:List UInt8}{k:Nat}(hA:A=iH t k)(h:j7 t k= -1):A=iH t (k+1):=by
 rw[iH,if_pos h,hA]
theorem B5 (t:Stm):∀k,(iH t k).length<=4+2*k
 |0=>by
  unfold iH;split
  ·exact Nat.zero_le _
  ·exact Nat.le_refl _
 |k+1=>by
  have:=B5 t k;unfold iH;split
  ·omega
  ·rw[List.length_append,show(cg (j7 t k)).length=2 from rfl];omega
def gY (form A:List UInt8)(i:Nat)(out all:List UInt8):Prop:=i<=form.length/\out.length=i/\all.length<=100/\jW (form.drop i)<=all.length/\out++fR (form.drop i) all=fR form A
theorem lF {form A:List UInt8}(h:jW form<=A.length)(hl:A.length<=4+2*5):gY form A 0 [] A:=⟨Nat.zero_le _,rfl,by omega,by rw[List.drop_zero];exact h,by rw[List.drop_zero];rfl⟩
theorem kR {form A:List UInt8}{i:Nat}{out all:List UInt8}(h:gY form A i out all)(hb:i<form.length/\(aa form i:Int)=57):0<all.length:=by
 have h4:=h.2.2.2.1;rw[un hb.1 ((M9 hb.1).2 hb.2)] at h4;omega
theorem lG {form A:List UInt8}{i:Nat}{out all:List UInt8}(h:gY form A i out all)(h1:i<form.length)(hb:(aa form i:Int)=57):gY form A (i+1) (out++bw [(aa all 0:Int)]) (all.drop 1):=by
 have hp:=kR h ⟨h1,hb⟩;obtain⟨a,b,c,d,e⟩:=h;have hc:=(M9 h1).2 hb;rw[un h1 hc] at d;rw[Bs h1 hc hp,<-List.append_assoc] at e;refine⟨h1,?_,?_,?_,e⟩
 ·rw[List.length_append,b];rfl
 ·rw[List.length_drop];omega
 ·rw[List.length_drop];omega
theorem lH {form A:List UInt8}{i:Nat}{out all:List UInt8}(h:gY form A i out all)(h1:i<form.length)(hb:(aa form i:Int)≠57):gY form A (i+1) (out++bw [(aa form i:Int)]) all:=by
 obtain⟨a,b,c,d,e⟩:=h;have hc:form[i]≠57:=λk=>hb ((M9 h1).1 k);rw[EL h1 hc] at d;rw[Bt h1 hc,<-List.append_assoc] at e;refine⟨h1,?_,c,d,e⟩;rw[List.length_append,b];rfl
theorem nE {form A:List UInt8}{i:Nat}{out all:List UInt8}(h:gY form A i out all)(h1:form.length<=i):out=fR form A:=by
 obtain⟨a,b,c,d,e⟩:=h;rw[List.drop_of_length_le h1] at e;rw[<-e];simp[fR]
theorem uy {t:Stm}(hf:t.frm=true)(h:0<cZ (ar t.h) (ar t.i) (ar t.s)):jW (bX (cZ (ar t.y) (ar t.m) (ar t.d)).toNat++([84]++fB (cZ (ar t.h) (ar t.i) (ar t.s)).toNat))<=(iH t 5).length/\fR (bX (cZ (ar t.y) (ar t.m) (ar t.d)).toNat++([84]++fB (cZ (ar t.h) (ar t.i) (ar t.s)).toNat)) (iH t 5)=kT (ar t.y) (ar t.m) (ar t.d) t.y t.m t.d++jT (ar t.h) (ar t.i) (ar t.s) t.h t.i t.s:=by
 refine mU hf λk kz=> ?_;clear kz;revert h k
 cases e1:ar t.y<;>cases e2:ar t.m<;>cases e3:ar t.d<;>cases e4:ar t.h<;>cases e5:ar t.i<;>cases e6:ar t.s<;>intro h k<;>first|exact absurd k (by decide)|exact absurd h (by decide)|(simp only[jS,Cm] at e1 e2 e3 e4 e5 e6;simp only[iH,j7,e1,e2,e3,e4,e5,e6,if_true,if_false];exact⟨Nat.le_refl _,rfl⟩)
theorem uz {t:Stm}(hf:t.frm=true)(h:cZ (ar t.h) (ar t.i) (ar t.s)<=0):jW (bX (cZ (ar t.y) (ar t.m) (ar t.d)).toNat)<=(iH t 5).length/\fR (bX (cZ (ar t.y) (ar t.m) (ar t.d)).toNat) (iH t 5)=kT (ar t.y) (ar t.m) (ar t.d) t.y t.m t.d++jT (ar t.h) (ar t.i) (ar t.s) t.h t.i t.s:=by
 refine mU hf λk kz=> ?_;clear kz;revert h k
 cases e1:ar t.y<;>cases e2:ar t.m<;>cases e3:ar t.d<;>cases e4:ar t.h<;>cases e5:ar t.i<;>cases e6:ar t.s<;>intro h k<;>first|exact absurd k (by decide)|exact absurd h (by decide)|(simp only[jS,Cm] at e1 e2 e3 e4 e5 e6;simp only[iH,j7,e1,e2,e3,e4,e5,e6,if_true,if_false];exact⟨Nat.le_refl _,rfl⟩)
attribute [local irreducible] bI ap az aW ab ad aa fQ cg fY fR
theorem cf {G:Glo}(k:Int)(h0:0<=k)(h1:k<100):an prog G 134 [.int .i64 k,.int .i64 10,.int .i64 2] (.str (cg k)):=by
 obtain⟨i,rfl⟩:=Int.eq_ofNat_of_zero_le h0;exact kx i (by omega)
theorem lU {G:Glo}(hP:ew G)(k:Int)(h0:0<=k)(h1:k<10000):an prog G 134 [.int .i64 k,.int .i64 10,.int .i64 4] (.str (fQ k)):=by
 obtain⟨i,rfl⟩:=Int.eq_ofNat_of_zero_le h0;exact pD hP i (by omega)
theorem vE {G:Glo}(hGL:ab G shapesTy)(hP:ew G)(t:Stm)(hf:t.frm=true)(hr:t.rng=true):an prog G 133 [t.A] (.str t.txt):=by
 have h1:=lm hGL t.y t.m t.d;have h2:=lm hGL t.h t.i t.s;have h3:=lZ (G:=G) t.o;have kd:0<=cZ (ar t.y) (ar t.m) (ar t.d)/\cZ (ar t.y) (ar t.m) (ar t.d)<7:=NK hf;have kt:=NH hf;have hc:=call130;have l1:=zc t.y;have l2:=eY t.m;have l3:=eY t.d;have l4:=eY t.h;have l5:=eY t.i;have l6:=eY t.s;have l7:=Ca t.o;have l8:=EY (cZ (ar t.y) (ar t.m) (ar t.d)).toNat;have l9:=Ic (cZ (ar t.h) (ar t.i) (ar t.s)).toNat;have r:=hr;unfold Stm.rng at r;simp only[Bool.and_eq_true,qk] at r;obtain⟨r1,r2,r3,r4,r5,r6, -⟩:=r;have r3':t.d= -1\/1<=t.d/\t.d<=31:=by
  refine r3.imp_right λh=>⟨h.1,?_⟩;have:=h.2;unfold Stm.day pL at this
  (repeat' split at this)<;>omega
 refine mU hf λk kz=> ?_;unfold Stm.txt;refine pK func133 call133 rfl rfl rfl rfl hGL ?_;intro C hC;by_cases hy:t.y= -1
 ·have k1:=λn=>lU (G:=G) hP n;refine aT ?_;intros;refine lp hC hGL (λ(x:Nat×List UInt8)=>[(1,.rop [.int .i64 t.y,.int .i64 t.m,.int .i64 t.d,.int .i64 t.h,.int .i64 t.i,.int .i64 t.s,.bool t.z,.int .i64 t.o] 0),(3,.str x.2),(29,.list 1 5 (df [(0,.int .i64 t.m),(1,.int .i64 t.d),(2,.int .i64 t.h),(3,.int .i64 t.i),(4,.int .i64 t.s)])),(30,.int .i64 5),(31,.int .i64 (x.1:Nat))]) (λ_=>[]) (λx=>x.1<=5/\x.2=iH t x.1) (λx=>5-x.1) (0,[]) ⟨show 0<=5 by decide,(if_pos hy).symm⟩ ai rfl ?_;rintro⟨k',A⟩ ⟨hk,hA⟩;have hk:k'<=5:=hk;have hA:A=iH t k':=hA;have hl:=B5 t k';rw[<-hA] at hl;rcases(show k'=0\/k'=1\/k'=2\/k'=3\/k'=4\/k'=5 by omega) with rfl|rfl|rfl|rfl|rfl|rfl
  ·have k1:=λn=>cf (G:=G) n;refine xm ?_;repeat' first|exact .n|apply Lc.mk
   all_goals intros
   ·refine eg (1,A++cg (j7 t 0)) ⟨show(1:Nat)<=5 by decide,iG hA (by assumption)⟩ (show 5-1<5-0 by decide) ai aH
   ·refine eg (1,A) ⟨show(1:Nat)<=5 by decide,fH hA (by assumption)⟩ (show 5-1<5-0 by decide) ai aH
  ·have k1:=λn=>cf (G:=G) n;refine xm ?_;repeat' first|exact .n|apply Lc.mk
   all_goals intros
   ·refine eg (2,A++cg (j7 t 1)) ⟨show(2:Nat)<=5 by decide,iG hA (by assumption)⟩ (show 5-2<5-1 by decide) ai aH
   ·refine eg (2,A) ⟨show(2:Nat)<=5 by decide,fH hA (by assumption)⟩ (show 5-2<5-1 by decide) ai aH
  ·have k1:=λn=>cf (G:=G) n;refine xm ?_;repeat' first|exact .n|apply Lc.mk
   all_goals intros
   ·refine eg (3,A++cg (j7 t 2)) ⟨show(3:Nat)<=5 by decide,iG hA (by assumption)⟩ (show 5-3<5-2 by decide) ai aH
   ·refine eg (3,A) ⟨show(3:Nat)<=5 by decide,fH hA (by assumption)⟩ (show 5-3<5-2 by decide) ai aH
  ·have k1:=λn=>cf (G:=G) n;refine xm ?_;repeat' first|exact .n|apply Lc.mk
   all_goals intros
   ·refine eg (4,A++cg (j7 t 3)) ⟨show(4:Nat)<=5 by decide,iG hA (by assumption)⟩ (show 5-4<5-3 by decide) ai aH
   ·refine eg (4,A) ⟨show(4:Nat)<=5 by decide,fH hA (by assumption)⟩ (show 5-4<5-3 by decide) ai aH
  ·have k1:=λn=>cf (G:=G) n;refine xm ?_;repeat' first|exact .n|apply Lc.mk
   all_goals intros
   ·refine eg (5,A++cg (j7 t 4)) ⟨show(5:Nat)<=5 by decide,iG hA (by assumption)⟩ (show 5-5<5-4 by decide) ai aH
   ·refine eg (5,A) ⟨show(5:Nat)<=5 by decide,fH hA (by assumption)⟩ (show 5-5<5-4 by decide) ai aH
  refine oS ?_;intros;refine dz mixed hC hGL false (λ(_:Unit)=>[(1,.rop [.int .i64 t.y,.int .i64 t.m,.int .i64 t.d,.int .i64 t.h,.int .i64 t.i,.int .i64 t.s,.bool t.z,.int .i64 t.o] 0),(3,.str A),(6,.str (bX (cZ (ar t.y) (ar t.m) (ar t.d)).toNat))]) (λ_=>[]) .p7 (by kernel_rfl) ?_ ?_
  ·refine xn ?_;repeat' first|exact .n|apply Lc.mk
   all_goals intros
   all_goals exact⟨(),⟨rfl,rfl,rfl,trivial⟩,rfl⟩
  intro _;repeat' (first|(conv=>whnf);first|refine .w ?_|refine .v ?_|refine bu ?_ ?_<;>(intro hb;try exact dd hb)|apply au|apply aM|(apply a6<;>intro hb)|(apply ba;intro hbd)|(apply aJ;first|exact h2|exact h3)|(apply ax (i:=0) rfl;first|exact h2|exact h3)|(apply bc;intro bl)|(apply bh;intro va vk vc hva)|(apply bg;intro v)|(apply bj;intro bl cap hcap)|apply bx|(apply bf<;>intro hnx)|exact True.intro|(apply cW;intro C hC)|apply cV|apply cT|(apply cU;exact rfl)|(show Rt _ _ _;exact a7)|fail)
  all_goals try conv=>whnf
  ·have hG:=uy hf (by assumption);have hLF:(bX (cZ (ar t.y) (ar t.m) (ar t.d)).toNat++([84]++fB (cZ (ar t.h) (ar t.i) (ar t.s)).toNat)).length<=15:=by first|(rw[List.length_append,List.length_append,List.length_singleton];omega)|omega
   rw[<-hA] at hG;refine lp hC hGL (λ(x:Nat×List UInt8×List UInt8)=>[(1,.rop [.int .i64 t.y,.int .i64 t.m,.int .i64 t.d,.int .i64 t.h,.int .i64 t.i,.int .i64 t.s,.bool t.z,.int .i64 t.o] 0),(3,.str x.2.2),(8,.str x.2.1),(73,.own 0 (.slice (some ⟨bl,0,none⟩) (bX (cZ (ar t.y) (ar t.m) (ar t.d)).toNat++([84]++fB (cZ (ar t.h) (ar t.i) (ar t.s)).toNat)).length cap)),(74,.int .i64 ((bX (cZ (ar t.y) (ar t.m) (ar t.d)).toNat++([84]++fB (cZ (ar t.h) (ar t.i) (ar t.s)).toNat)).length:Nat)),(75,.int .i64 (x.1:Nat))]) (λ_=>[.buf bl (bX (cZ (ar t.y) (ar t.m) (ar t.d)).toNat++([84]++fB (cZ (ar t.h) (ar t.i) (ar t.s)).toNat)) cap]) (λx=>gY (bX (cZ (ar t.y) (ar t.m) (ar t.d)).toNat++([84]++fB (cZ (ar t.h) (ar t.i) (ar t.s)).toNat)) A x.1 x.2.1 x.2.2) (λx=>(bX (cZ (ar t.y) (ar t.m) (ar t.d)).toNat++([84]++fB (cZ (ar t.h) (ar t.i) (ar t.s)).toNat)).length-x.1) (0,[],A) (lF hG.1 hl) ai rfl ?_;rintro⟨i,out,all⟩ hI;have hI:gY (bX (cZ (ar t.y) (ar t.m) (ar t.d)).toNat++([84]++fB (cZ (ar t.h) (ar t.i) (ar t.s)).toNat)) A i out all:=hI;have hI1:=hI.1;have hI2:=hI.2.1;have hI3:=hI.2.2.1;have hI0:=λh=>kR hI h;refine xw ?_;repeat' first|exact .n|apply Lc.mk
   all_goals intros
   ·refine aO hC hGL (cb [_] rfl (by intro v hv;obtain rfl:=List.mem_singleton.1 hv;exact⟨Int.natCast_nonneg _,by exact_mod_cast bG _ _⟩) rfl rfl rfl rfl rfl rfl) rfl rfl ?_;refine oS ?_;intros;refine kp (show out.length+1<=9223372036854775807 by omega) ?_;refine oS ?_;intros;refine db (i+1,out++bw [(aa all 0:Int)],all.drop 1) ?_ ?_ ai rfl
    ·exact lG hI (by omega) (by assumption)
    ·show _-(i+1)<_-i;omega
   ·refine aO hC hGL (cb [_] rfl (by intro v hv;obtain rfl:=List.mem_singleton.1 hv;exact⟨Int.natCast_nonneg _,by exact_mod_cast bG _ _⟩) rfl rfl rfl rfl rfl rfl) rfl rfl ?_;refine oS ?_;intros;refine kp (show out.length+1<=9223372036854775807 by omega) ?_;refine oS ?_;intros;refine db (i+1,out++bw [(aa (bX (cZ (ar t.y) (ar t.m) (ar t.d)).toNat++([84]++fB (cZ (ar t.h) (ar t.i) (ar t.s)).toNat)) i:Int)],all) ?_ ?_ ai rfl
    ·exact lH hI (by omega) (by assumption)
    ·show _-(i+1)<_-i;omega
   all_goals
    apply aj;refine congrArg AVal.str ?_;have e:=nE hI (by omega);rw[hG.2] at e;first
     |(rw[if_pos (by assumption),<-e])
     |(rw[if_neg (by simp only[Bool.not_eq_true];assumption),<-e,List.append_nil])
  ·have hG:=uz hf (by assumption);have hLF:(bX (cZ (ar t.y) (ar t.m) (ar t.d)).toNat).length<=15:=by first|(rw[List.length_append,List.length_append,List.length_singleton];omega)|omega
   rw[<-hA] at hG;refine lp hC hGL (λ(x:Nat×List UInt8×List UInt8)=>[(1,.rop [.int .i64 t.y,.int .i64 t.m,.int .i64 t.d,.int .i64 t.h,.int .i64 t.i,.int .i64 t.s,.bool t.z,.int .i64 t.o] 0),(3,.str x.2.2),(8,.str x.2.1),(73,.own 0 (.slice (some ⟨bl,0,none⟩) (bX (cZ (ar t.y) (ar t.m) (ar t.d)).toNat).length cap)),(74,.int .i64 ((bX (cZ (ar t.y) (ar t.m) (ar t.d)).toNat).length:Nat)),(75,.int .i64 (x.1:Nat))]) (λ_=>[.buf bl (bX (cZ (ar t.y) (ar t.m) (ar t.d)).toNat) cap]) (λx=>gY (bX (cZ (ar t.y) (ar t.m) (ar t.d)).toNat) A x.1 x.2.1 x.2.2) (λx=>(bX (cZ (ar t.y) (ar t.m) (ar t.d)).toNat).length-x.1) (0,[],A) (lF hG.1 hl) ai rfl ?_;rintro⟨i,out,all⟩ hI;have hI:gY (bX (cZ (ar t.y) (ar t.m) (ar t.d)).toNat) A i out all:=hI;have hI1:=hI.1;have hI2:=hI.2.1;have hI3:=hI.2.2.1;have hI0:=λh=>kR hI h;refine xw ?_;repeat' first|exact .n|apply Lc.mk
   all_goals intros
   ·refine aO hC hGL (cb [_] rfl (by intro v hv;obtain rfl:=List.mem_singleton.1 hv;exact⟨Int.natCast_nonneg _,by exact_mod_cast bG _ _⟩) rfl rfl rfl rfl rfl rfl) rfl rfl ?_;refine oS ?_;intros;refine kp (show out.length+1<=9223372036854775807 by omega) ?_;refine oS ?_;intros;refine db (i+1,out++bw [(aa all 0:Int)],all.drop 1) ?_ ?_ ai rfl
    ·exact lG hI (by omega) (by assumption)
    ·show _-(i+1)<_-i;omega
   ·refine aO hC hGL (cb [_] rfl (by intro v hv;obtain rfl:=List.mem_singleton.1 hv;exact⟨Int.natCast_nonneg _,by exact_mod_cast bG _ _⟩) rfl rfl rfl rfl rfl rfl) rfl rfl ?_;refine oS ?_;intros;refine kp (show out.length+1<=9223372036854775807 by omega) ?_;refine oS ?_;intros;refine db (i+1,out++bw [(aa (bX (cZ (ar t.y) (ar t.m) (ar t.d)).toNat) i:Int)],all) ?_ ?_ ai rfl
    ·exact lH hI (by omega) (by assumption)
    ·show _-(i+1)<_-i;omega
   all_goals
    apply aj;refine congrArg AVal.str ?_;have e:=nE hI (by omega);rw[hG.2] at e;first
     |(rw[if_pos (by assumption),<-e])
     |(rw[if_neg (by simp only[Bool.not_eq_true];assumption),<-e,List.append_nil])
 ·have k1:=λn=>lU (G:=G) hP n;refine aT ?_;intros;refine lp hC hGL (λ(x:Nat×List UInt8)=>[(1,.rop [.int .i64 t.y,.int .i64 t.m,.int .i64 t.d,.int .i64 t.h,.int .i64 t.i,.int .i64 t.s,.bool t.z,.int .i64 t.o] 0),(3,.str x.2),(29,.list 1 5 (df [(0,.int .i64 t.m),(1,.int .i64 t.d),(2,.int .i64 t.h),(3,.int .i64 t.i),(4,.int .i64 t.s)])),(30,.int .i64 5),(31,.int .i64 (x.1:Nat))]) (λ_=>[]) (λx=>x.1<=5/\x.2=iH t x.1) (λx=>5-x.1) (0,fQ t.y) ⟨show 0<=5 by decide,(if_neg hy).symm⟩ ai rfl ?_;rintro⟨k',A⟩ ⟨hk,hA⟩;have hk:k'<=5:=hk;have hA:A=iH t k':=hA;have hl:=B5 t k';rw[<-hA] at hl;rcases(show k'=0\/k'=1\/k'=2\/k'=3\/k'=4\/k'=5 by omega) with rfl|rfl|rfl|rfl|rfl|rfl
  ·have k1:=λn=>cf (G:=G) n;refine xm ?_;repeat' first|exact .n|apply Lc.mk
   all_goals intros
   ·refine eg (1,A++cg (j7 t 0)) ⟨show(1:Nat)<=5 by decide,iG hA (by assumption)⟩ (show 5-1<5-0 by decide) ai aH
   ·refine eg (1,A) ⟨show(1:Nat)<=5 by decide,fH hA (by assumption)⟩ (show 5-1<5-0 by decide) ai aH
  ·have k1:=λn=>cf (G:=G) n;refine xm ?_;repeat' first|exact .n|apply Lc.mk
   all_goals intros
   ·refine eg (2,A++cg (j7 t 1)) ⟨show(2:Nat)<=5 by decide,iG hA (by assumption)⟩ (show 5-2<5-1 by decide) ai aH
   ·refine eg (2,A) ⟨show(2:Nat)<=5 by decide,fH hA (by assumption)⟩ (show 5-2<5-1 by decide) ai aH
  ·have k1:=λn=>cf (G:=G) n;refine xm ?_;repeat' first|exact .n|apply Lc.mk
   all_goals intros
   ·refine eg (3,A++cg (j7 t 2)) ⟨show(3:Nat)<=5 by decide,iG hA (by assumption)⟩ (show 5-3<5-2 by decide) ai aH
   ·refine eg (3,A) ⟨show(3:Nat)<=5 by decide,fH hA (by assumption)⟩ (show 5-3<5-2 by decide) ai aH
  ·have k1:=λn=>cf (G:=G) n;refine xm ?_;repeat' first|exact .n|apply Lc.mk
   all_goals intros
   ·refine eg (4,A++cg (j7 t 3)) ⟨show(4:Nat)<=5 by decide,iG hA (by assumption)⟩ (show 5-4<5-3 by decide) ai aH
   ·refine eg (4,A) ⟨show(4:Nat)<=5 by decide,fH hA (by assumption)⟩ (show 5-4<5-3 by decide) ai aH
  ·have k1:=λn=>cf (G:=G) n;refine xm ?_;repeat' first|exact .n|apply Lc.mk
   all_goals intros
   ·refine eg (5,A++cg (j7 t 4)) ⟨show(5:Nat)<=5 by decide,iG hA (by assumption)⟩ (show 5-5<5-4 by decide) ai aH
   ·refine eg (5,A) ⟨show(5:Nat)<=5 by decide,fH hA (by assumption)⟩ (show 5-5<5-4 by decide) ai aH
  refine oS ?_;intros;refine dz mixed hC hGL false (λ(_:Unit)=>[(1,.rop [.int .i64 t.y,.int .i64 t.m,.int .i64 t.d,.int .i64 t.h,.int .i64 t.i,.int .i64 t.s,.bool t.z,.int .i64 t.o] 0),(3,.str A),(6,.str (bX (cZ (ar t.y) (ar t.m) (ar t.d)).toNat))]) (λ_=>[]) .p7 (by kernel_rfl) ?_ ?_
  ·refine xn ?_;repeat' first|exact .n|apply Lc.mk
   all_goals intros
   all_goals exact⟨(),⟨rfl,rfl,rfl,trivial⟩,rfl⟩
  intro _;repeat' (first|(conv=>whnf);first|refine .w ?_|refine .v ?_|refine bu ?_ ?_<;>(intro hb;try exact dd hb)|apply au|apply aM|(apply a6<;>intro hb)|(apply ba;intro hbd)|(apply aJ;first|exact h2|exact h3)|(apply ax (i:=0) rfl;first|exact h2|exact h3)|(apply bc;intro bl)|(apply bh;intro va vk vc hva)|(apply bg;intro v)|(apply bj;intro bl cap hcap)|apply bx|(apply bf<;>intro hnx)|exact True.intro|(apply cW;intro C hC)|apply cV|apply cT|(apply cU;exact rfl)|(show Rt _ _ _;exact a7)|fail)
  all_goals try conv=>whnf
  ·have hG:=uy hf (by assumption);have hLF:(bX (cZ (ar t.y) (ar t.m) (ar t.d)).toNat++([84]++fB (cZ (ar t.h) (ar t.i) (ar t.s)).toNat)).length<=15:=by first|(rw[List.length_append,List.length_append,List.length_singleton];omega)|omega
   rw[<-hA] at hG;refine lp hC hGL (λ(x:Nat×List UInt8×List UInt8)=>[(1,.rop [.int .i64 t.y,.int .i64 t.m,.int .i64 t.d,.int .i64 t.h,.int .i64 t.i,.int .i64 t.s,.bool t.z,.int .i64 t.o] 0),(3,.str x.2.2),(8,.str x.2.1),(73,.own 0 (.slice (some ⟨bl,0,none⟩) (bX (cZ (ar t.y) (ar t.m) (ar t.d)).toNat++([84]++fB (cZ (ar t.h) (ar t.i) (ar t.s)).toNat)).length cap)),(74,.int .i64 ((bX (cZ (ar t.y) (ar t.m) (ar t.d)).toNat++([84]++fB (cZ (ar t.h) (ar t.i) (ar t.s)).toNat)).length:Nat)),(75,.int .i64 (x.1:Nat))]) (λ_=>[.buf bl (bX (cZ (ar t.y) (ar t.m) (ar t.d)).toNat++([84]++fB (cZ (ar t.h) (ar t.i) (ar t.s)).toNat)) cap]) (λx=>gY (bX (cZ (ar t.y) (ar t.m) (ar t.d)).toNat++([84]++fB (cZ (ar t.h) (ar t.i) (ar t.s)).toNat)) A x.1 x.2.1 x.2.2) (λx=>(bX (cZ (ar t.y) (ar t.m) (ar t.d)).toNat++([84]++fB (cZ (ar t.h) (ar t.i) (ar t.s)).toNat)).length-x.1) (0,[],A) (lF hG.1 hl) ai rfl ?_;rintro⟨i,out,all⟩ hI;have hI:gY (bX (cZ (ar t.y) (ar t.m) (ar t.d)).toNat++([84]++fB (cZ (ar t.h) (ar t.i) (ar t.s)).toNat)) A i out all:=hI;have hI1:=hI.1;have hI2:=hI.2.1;have hI3:=hI.2.2.1;have hI0:=λh=>kR hI h;refine xw ?_;repeat' first|exact .n|apply Lc.mk
   all_goals intros
   ·refine aO hC hGL (cb [_] rfl (by intro v hv;obtain rfl:=List.mem_singleton.1 hv;exact⟨Int.natCast_nonneg _,by exact_mod_cast bG _ _⟩) rfl rfl rfl rfl rfl rfl) rfl rfl ?_;refine oS ?_;intros;refine kp (show out.length+1<=9223372036854775807 by omega) ?_;refine oS ?_;intros;refine db (i+1,out++bw [(aa all 0:Int)],all.drop 1) ?_ ?_ ai rfl
    ·exact lG hI (by omega) (by assumption)
    ·show _-(i+1)<_-i;omega
   ·refine aO hC hGL (cb [_] rfl (by intro v hv;obtain rfl:=List.mem_singleton.1 hv;exact⟨Int.natCast_nonneg _,by exact_mod_cast bG _ _⟩) rfl rfl rfl rfl rfl rfl) rfl rfl ?_;refine oS ?_;intros;refine kp (show out.length+1<=9223372036854775807 by omega) ?_;refine oS ?_;intros;refine db (i+1,out++bw [(aa (bX (cZ (ar t.y) (ar t.m) (ar t.d)).toNat++([84]++fB (cZ (ar t.h) (ar t.i) (ar t.s)).toNat)) i:Int)],all) ?_ ?_ ai rfl
    ·exact lH hI (by omega) (by assumption)
    ·show _-(i+1)<_-i;omega
   all_goals
    apply aj;refine congrArg AVal.str ?_;have e:=nE hI (by omega);rw[hG.2] at e;first
     |(rw[if_pos (by assumption),<-e])
     |(rw[if_neg (by simp only[Bool.not_eq_true];assumption),<-e,List.append_nil])
  ·have hG:=uz hf (by assumption);have hLF:(bX (cZ (ar t.y) (ar t.m) (ar t.d)).toNat).length<=15:=by first|(rw[List.length_append,List.length_append,List.length_singleton];omega)|omega
   rw[<-hA] at hG;refine lp hC hGL (λ(x:Nat×List UInt8×List UInt8)=>[(1,.rop [.int .i64 t.y,.int .i64 t.m,.int .i64 t.d,.int .i64 t.h,.int .i64 t.i,.int .i64 t.s,.bool t.z,.int .i64 t.o] 0),(3,.str x.2.2),(8,.str x.2.1),(73,.own 0 (.slice (some ⟨bl,0,none⟩) (bX (cZ (ar t.y) (ar t.m) (ar t.d)).toNat).length cap)),(74,.int .i64 ((bX (cZ (ar t.y) (ar t.m) (ar t.d)).toNat).length:Nat)),(75,.int .i64 (x.1:Nat))]) (λ_=>[.buf bl (bX (cZ (ar t.y) (ar t.m) (ar t.d)).toNat) cap]) (λx=>gY (bX (cZ (ar t.y) (ar t.m) (ar t.d)).toNat) A x.1 x.2.1 x.2.2) (λx=>(bX (cZ (ar t.y) (ar t.m) (ar t.d)).toNat).length-x.1) (0,[],A) (lF hG.1 hl) ai rfl ?_;rintro⟨i,out,all⟩ hI;have hI:gY (bX (cZ (ar t.y) (ar t.m) (ar t.d)).toNat) A i out all:=hI;have hI1:=hI.1;have hI2:=hI.2.1;have hI3:=hI.2.2.1;have hI0:=λh=>kR hI h;refine xw ?_;repeat' first|exact .n|apply Lc.mk
   all_goals intros
   ·refine aO hC hGL (cb [_] rfl (by intro v hv;obtain rfl:=List.mem_singleton.1 hv;exact⟨Int.natCast_nonneg _,by exact_mod_cast bG _ _⟩) rfl rfl rfl rfl rfl rfl) rfl rfl ?_;refine oS ?_;intros;refine kp (show out.length+1<=9223372036854775807 by omega) ?_;refine oS ?_;intros;refine db (i+1,out++bw [(aa all 0:Int)],all.drop 1) ?_ ?_ ai rfl
    ·exact lG hI (by omega) (by assumption)
    ·show _-(i+1)<_-i;omega
   ·refine aO hC hGL (cb [_] rfl (by intro v hv;obtain rfl:=List.mem_singleton.1 hv;exact⟨Int.natCast_nonneg _,by exact_mod_cast bG _ _⟩) rfl rfl rfl rfl rfl rfl) rfl rfl ?_;refine oS ?_;intros;refine kp (show out.length+1<=9223372036854775807 by omega) ?_;refine oS ?_;intros;refine db (i+1,out++bw [(aa (bX (cZ (ar t.y) (ar t.m) (ar t.d)).toNat) i:Int)],all) ?_ ?_ ai rfl
    ·exact lH hI (by omega) (by assumption)
    ·show _-(i+1)<_-i;omega
   all_goals
    apply aj;refine congrArg AVal.str ?_;have e:=nE hI (by omega);rw[hG.2] at e;first
     |(rw[if_pos (by assumption),<-e])
     |(rw[if_neg (by simp only[Bool.not_eq_true];assumption),<-e,List.append_nil])
end
section
set_option maxHeartbeats 8000000
theorem Stm.three (t:Stm):(t.frm=true/\t.rng=true/\t.E= .none/\t.e=0/\t.T=t.txt)\/(t.E= .errno 2/\t.e=2/\t.T=[])\/(t.E= .errno 3/\t.e=3/\t.T=[]):=by
 unfold Stm.E Stm.e Stm.T;cases t.frm<;>cases t.rng<;>simp
attribute [local irreducible] bI ap az aW ab ad aa Stm.txt pL
theorem sN {G:Glo}(hS:ab G shapesTy)(hP:ew G)(t:Stm):an prog G 80 [t.A] (.tuple [.str t.T,.int .i64 t.e]):=by
 have h1:=iA hS t;rcases Stm.three t with⟨hf,hr,h2,h3,h4⟩|⟨h2,h3,h4⟩|⟨h2,h3,h4⟩
 ·have h5:=vE hS hP t hf hr;rw[h3] at h1;rw[h3,h4];refine aw func80 call80 λC hC hGL=> ?_;exact bK
 ·rw[h3] at h1;rw[h3,h4];refine aw func80 call80 λC hC hGL=> ?_;exact bK
 ·rw[h3] at h1;rw[h3,h4];refine aw func80 call80 λC hC hGL=> ?_;exact bK
end
section
theorem Mv (n:List UInt8):(ca (ao 65 90 32 n) (ao 65 90 32 [98,101,103,105,110])||(ca (ao 65 90 32 n) (ao 65 90 32 [101,110,100])||ca (ao 65 90 32 n) (ao 65 90 32 [118,101,114,115,105,111,110])))=Db n:=by
 rw[jh,jh,jh];rfl
theorem Ls (n:List UInt8):ca (ao 65 90 32 n) (ao 65 90 32 [116,121,112,101])=ca (ao 97 122 (-32) n) nTYP:=by
 rw[jh];rfl
attribute [local irreducible] bI ap aa az aW ab ad
attribute [local irreducible] ao cD Pr.fit Ln.E Ln.T Vl.E Vl.T eK bO E2
theorem L3 {G:Glo}{m:Int}(hU:ab G utfTy)(hM:ab G (cw m))(hH:ab G shapesTy)(hP:ew G)(x:Vl)(hs:x.s.length<=10000)(hL:Small x.L)(hv:x.OK):an prog G 36 [x.A] (.tuple [.str x.T,.int .i64 x.E.e]):=
 qM x (ky hU hM x hv (by omega) (iA hH x.st)) (qP x.s (by omega)) (sQ x.L hL) (sN hH hP x.st) x.E_zero
theorem qL {G:Glo}{m:Int}(hU:ab G utfTy)(hM:ab G (cw m))(hH:ab G shapesTy)(hP:ew G)(v:Int)(x:Itm)(hx:x.OK 10000):an prog G 13 [ij x,.int .i64 v] (.str (x.L v)):=by
 have h1:=L3 hU hM hH hP x.2 hx.s hx.L hx.v;have h2:=sO hU x.ln (cY v 4) (Itm.fit hx)
 unfold Itm.L
 unfold Vl.A at h1
 unfold Ln.A at h2
 unfold ij
 obtain⟨⟨g,n,ps,vv⟩,u⟩:=x
 unfold Itm.ln at h2 ⊢
 dsimp only at*
 generalize Ln.E (cY v 4) ⟨g,n,ps,u.T⟩=eL at*
 generalize Ln.T (cY v 4) ⟨g,n,ps,u.T⟩=tL at*
 generalize u.E=eV at*
 generalize u.T=tV at*
 refine aw func13 call13 λC hC hGL=> ?_
 exact bK
theorem Ed {G:Glo}{m:Int}(hU:ab G utfTy)(hM:ab G (cw m))(hH:ab G shapesTy)(hP:ew G)(v:Int)(hv:v=3\/v=4)(x:Itm)(hx:x.OK 10000):an prog G 12 [ij x,.int .i64 v] (.int .i64 (x.w v)):=by
 have h1:=l0 hU x.p (cY v 4) hx.p.fit;have h4:=λe p=>HE (G:=G) e p;have hn:x.1.n.length<=10000:=hx.p.n;have hps:x.1.ps.length<=10000:=hx.p.ps;have hq:∀k,(x.1.ps.getD k Pr.z).n.length<=1100000/\(x.1.ps.getD k Pr.z).vs.length<=10000/\Lib.lens (x.1.ps.getD k Pr.z).vs<=10000:=hx.p.q;have hvl:∀k j,((x.1.ps.getD k Pr.z).vs.getD j []).length<=10000:=λk j=>by
  have:=cR (l:=(x.1.ps.getD k Pr.z).vs) (k:=j);have:=(hq k).2.2;omega
 have b1:=gH (G:=G) x.1.n [98,101,103,105,110] (by omega) (by decide);have b2:=gH (G:=G) x.1.n [101,110,100] (by omega) (by decide);have b3:=gH (G:=G) x.1.n [118,101,114,115,105,111,110] (by omega) (by decide);have hfr:=Mv x.1.n;generalize ca (ao 65 90 32 x.1.n) (ao 65 90 32 [98,101,103,105,110])=f1 at*
 generalize ca (ao 65 90 32 x.1.n) (ao 65 90 32 [101,110,100])=f2 at*
 generalize ca (ao 65 90 32 x.1.n) (ao 65 90 32 [118,101,114,115,105,111,110])=f3 at*
 have hve:fK v= .none:=by unfold fK;rw[if_pos hv]
 have hT:=Gq (G:=G) v x.1.n x.1.ps (by omega) (by omega) (λk=>by have:=(hq k).1;omega) (λk=>⟨by have:=(hq k).2.1;omega,by have:=hvl k 0;omega⟩);have hV:=ky hU hM x.2 hx.v (by have:=hx.s;omega) (iA hH x.2.st);have hR:=qN (G:=G) v x.1.n (by omega);have hrp:=L1 v x.1.n;have hlo:=qL hU hM hH hP v x hx;have hw:∀(_:x.p.E (cY v 4)= .none) (_:Db x.1.n=false),(kG x.1.ps≠0->x.w v=kG x.1.ps)/\(kG x.1.ps=0->(x.k v≠x.2.t->x.w v=1)/\(x.k v=x.2.t->(x.2.E≠ .none->x.w v=x.2.E.e)/\(x.2.E= .none->x.w v=x.r v))):=λa b=>⟨Fz a b,λc=>⟨FA a b c,λd=>⟨KH a b c d,w_r a b c d⟩⟩⟩;have hwl:=λa=>IV (v:=v) (x:=x) a;have hwf:=λa b=>Lj (v:=v) (x:=x) a b;have hz:=Vl.E_zero x.2;have hok:∀k,x.p.E (cY v 4)= .none->k<x.1.ps.length->isS (x.1.ps.getD k Pr.z).n=true:=λk h hk=>by
  have h1:gM (cY v 4) x.p.ps 0= .none:=by
   unfold Ln.E at h;split at h
   ·cases h
   ·split at h
    ·cases h
    ·cases hf:gM (cY v 4) x.p.ps 0 with
     |none=>rfl
     |errno e=>rw[hf] at h;cases h
     | «at» e q=>rw[hf] at h;cases h
  have h2:=rO h1 (x.1.ps.getD k Pr.z) (by rw[List.getD_eq_getElem?_getD,List.getElem?_eq_getElem hk];exact List.getElem_mem hk);cases hn:isS (x.1.ps.getD k Pr.z).n with
  |true=>rfl
  |false=>rw[yv hn] at h2;cases h2
 rw[hve] at hT hR;generalize x.w v=W at*
 unfold Itm.r at hw;generalize x.L v=tL at*
 unfold Itm.k at hw;obtain⟨⟨g,n,ps,vv⟩,u⟩:=x;unfold ij at hlo ⊢;unfold Vl.A at hV;unfold Itm.p at h1 hw hwl hwf hok;dsimp only at*
 generalize eK v n ps=K at*
 generalize bO v n=r at*
 unfold Rl.A at hR;obtain⟨r0,r1,r2,r3⟩:=r;dsimp only at*
 generalize u.E=eV at*
 generalize hE0:Ln.E (cY v 4) ⟨g,n,ps,[]⟩=e0 at*
 have hfin:e0≠ .none->e0.e≠0:=λh h2=>by
  have:=Lh (v:=v) (x:=(⟨g,n,ps,vv⟩,u));unfold Itm.p at this;dsimp only at this;rw[hE0] at this;refine h (this ?_);rw[IV (by unfold Itm.p;dsimp only;rw[hE0];exact h)];unfold Itm.p;dsimp only
  rw[hE0];exact h2
 by_cases he:e0= .none
 ·subst he;simp only[Err.e,Err.p] at h1;have h4:=h4 0 (-1);cases hf:Db n with
  |true=>
   rw[hwf rfl hf];rw[hf] at hfr;refine aw func12 call12 λC hC hGL=> ?_;refine xw ?_;repeat' first|exact .n|apply Lc.mk
   all_goals intros
   all_goals (first|exact aj rfl|(exfalso;revert hfr;simp[*];done))
  |false=>
   rw[hf] at hfr;have hw:=hw rfl hf;simp only[Bool.or_eq_false_iff] at hfr;obtain⟨rfl,rfl,rfl⟩:=hfr;refine aw func12 call12 λC hC hGL=> ?_;refine aZ ?_;intro b5;intros;refine lp hC hGL (λk:Nat=>[(1,.int .i64 v),(2,.rop (bR (⟨g,n,ps,vv⟩,u)) 0),(44,.list 2 ps.length (dM ps)),(45,.int .i64 (ps.length:Nat)),(46,.int .i64 (k:Nat))]) (λ_=>[.cells b5 (some 59) [.int .i64 0,.int .i64 (-1)]]) (λk=>k<=ps.length/\∀j,j<k->pE ps j=0) (λk=>ps.length-k) 0 ⟨Nat.zero_le _,λj h=>absurd h (Nat.not_lt_zero _)⟩ ai rfl ?_;rintro k ⟨k1,k2⟩;by_cases hk:k<ps.length
   ·have hqk:=hq k;have hfi:=Gw hP hM (ps.getD k Pr.z) (hok k rfl hk) (by omega) (by omega) (λj=>by have:=hvl k j;omega);have hsa:=gH (G:=G) (ps.getD k Pr.z).n [116,121,112,101] (by omega) (by decide);rw[Ls] at hsa;cases hf:(ps.getD k Pr.z).fit with
    |false=>
     rw[hf] at hfi;have e:=L6 hf;rw[hw.1 (by rw[ig hk k2 (by rw[e];decide),e];decide),ig hk k2 (by rw[e];decide),e];exact bK
    |true=>
     rw[hf] at hfi;refine aZ ?_;intro b7;intros;refine lp hC hGL (λj:Nat=>[(1,.int .i64 v),(2,.rop (bR (⟨g,n,ps,vv⟩,u)) 0),(7,.own 1 (.pointer (some ⟨b7,0,none⟩))),(44,.list 2 ps.length (dM ps)),(45,.int .i64 (ps.length:Nat)),(46,.int .i64 (k:Nat)),(57,.list 2 k (dM ps)),(58,.int .i64 (k:Nat)),(59,.int .i64 (j:Nat))]) (λ_=>[.cells b5 (some 59) [.int .i64 0,.int .i64 (-1)],.cells b7 (some 64) [.str (ps.getD k Pr.z).n,.list 1 (ps.getD k Pr.z).vs.length (aE (ps.getD k Pr.z).vs)]]) (λj=>j<=k/\∀i,i<j->(ca (ao 97 122 (-32) (ps.getD k Pr.z).n) (ao 97 122 (-32) (ps.getD i Pr.z).n)&& !ca (ao 97 122 (-32) (ps.getD k Pr.z).n) nTYP)=false) (λj=>k-j) 0 ⟨Nat.zero_le _,λj h=>absurd h (Nat.not_lt_zero _)⟩ ai rfl ?_;rintro j ⟨j1,j2⟩;by_cases hj:j<k
     ·have hqj:=hq j;have hss:=gH (G:=G) (ps.getD k Pr.z).n (ps.getD j Pr.z).n (by omega) (by omega);rw[jh] at hss;obtain⟨bt,hbt⟩:∃b,ca (ao 97 122 (-32) (ps.getD k Pr.z).n) nTYP=b:=⟨_,rfl⟩;cases bt with
      |true=>
       rw[hbt] at hsa;have e:(ca (ao 97 122 (-32) (ps.getD k Pr.z).n) (ao 97 122 (-32) (ps.getD j Pr.z).n)&& !ca (ao 97 122 (-32) (ps.getD k Pr.z).n) nTYP)=false:=by rw[hbt,Bool.not_true,Bool.and_false]
       obtain⟨bs,hsm⟩:∃b,ca (ao 97 122 (-32) (ps.getD k Pr.z).n) (ao 97 122 (-32) (ps.getD j Pr.z).n)=b:=⟨_,rfl⟩;cases bs with
       |true=>
        rw[hsm] at hss;refine aZ ?_;intros;exact eg (j+1) ⟨hj,λi hi=>by
         rcases Nat.lt_or_eq_of_le (Nat.le_of_lt_succ hi) with g|rfl
         ·exact j2 i g
         ·exact e⟩ (by omega) ai aH
       |false=>
        rw[hsm] at hss;refine aZ ?_;intros;exact eg (j+1) ⟨hj,λi hi=>by
         rcases Nat.lt_or_eq_of_le (Nat.le_of_lt_succ hi) with g|rfl
         ·exact j2 i g
         ·exact e⟩ (by omega) ai aH
      |false=>
       rw[hbt] at hsa;obtain⟨bs,hsm⟩:∃b,ca (ao 97 122 (-32) (ps.getD k Pr.z).n) (ao 97 122 (-32) (ps.getD j Pr.z).n)=b:=⟨_,rfl⟩;cases bs with
       |true=>
        rw[hsm] at hss;have hd:cD (ps.getD k Pr.z).n ps 0<(k:Int):=(oM hk).2 ⟨j,hj,(dE.1 hsm).symm⟩;have e:=NF hf (kq.1 hbt) hd;rw[hw.1 (by rw[ig hk k2 (by rw[e];decide),e];decide),ig hk k2 (by rw[e];decide),e];exact bK
       |false=>
        rw[hsm] at hss;refine aZ ?_;intros;exact eg (j+1) ⟨hj,λi hi=>by
         rcases Nat.lt_or_eq_of_le (Nat.le_of_lt_succ hi) with g|rfl
         ·exact j2 i g
         ·rw[hsm,Bool.false_and]⟩ (by omega) ai aH
     ·obtain rfl:j=k:=by omega
      have e:pE ps j=0:=L7 hf (λh=>by
       obtain⟨i,hi,hs⟩:=(oM hk).1 h.2;have:=j2 i hi;rw[dE.2 hs.symm,kq.2 h.1] at this;cases this)
      refine aZ ?_;intros;exact eg (j+1) ⟨by omega,dl k2 e⟩ (by omega) ai aH
   ·have hw:=hw.2 (GE (by omega) k2);by_cases hK:K=u.t
    ·have hw:=hw.2 hK;by_cases hV0:eV.e=0
     ·obtain rfl:=hz hV0;have hw:=hw.2 rfl;simp only[Err.e] at hV;subst hw;by_cases ha:u.t=3/\0<r3/\r3≠(u.L.length:Int)
      ·rw[if_pos ha];obtain⟨a1,a2,a3⟩:=ha;have a4:r3≠0:=by omega
       exact bK
      ·rw[if_neg ha];by_cases a1:u.t=3
       ·by_cases a2:r3=0
        ·by_cases hl:1500<tL.length
         ·rw[if_pos hl];exact bK
         ·rw[if_neg hl];exact bK
        ·have a3:r3=(u.L.length:Int):=by omega
         by_cases hl:1500<tL.length
         ·rw[if_pos hl];exact bK
         ·rw[if_neg hl];exact bK
       ·by_cases hl:1500<tL.length
        ·rw[if_pos hl];exact bK
        ·rw[if_neg hl];exact bK
     ·rw[hw.1 (λh=>hV0 (by rw[h];rfl))];exact bK
    ·rw[hw.1 hK];exact bK
 ·have h0:=hfin he;rw[hwl he];have h4:=h4 e0.e e0.p;generalize e0.e=ee at*
  generalize e0.p=pp at*
  rw[show cY ee 0=false from rQ.2 h0] at h4;refine aw func12 call12 λC hC hGL=> ?_;exact bK
end
section
attribute [local irreducible] bI ap aa az aW ab ad
attribute [local irreducible] ao bO E2 ri Itm.w GW OB
theorem vI {G:Glo}{m:Int}(hU:ab G utfTy)(hM:ab G (cw m))(hH:ab G shapesTy)(hP:ew G)(v:Int)(x:Itm)(hx:x.OK 10000):an prog G 5 [ij x,.int .i64 v] (.tuple [.str (x.lT v),.int .i64 (x.lE v).e]):=by
 have hlo:=qL hU hM hH hP v x hx;have ho:∀_:v=3\/v=4,an prog G 12 [ij x,.int .i64 v] (.int .i64 (x.w v)):=λhv=>Ed hU hM hH hP v hv x hx;unfold Itm.lT Itm.lE;unfold ij at hlo ho ⊢;generalize x.w v=W at*
 generalize x.L v=tL at*
 by_cases hv:v=3\/v=4
 ·have ho:=ho hv;rw[if_pos hv,if_pos hv];by_cases hw:W=0
  ·subst hw;simp only[if_true,Err.e];refine aw func5 call5 λC hC hGL=> ?_;rcases hv with rfl|rfl<;>exact bK
  ·rw[if_neg hw,if_neg hw];simp only[Err.e];refine aw func5 call5 λC hC hGL=> ?_;rcases hv with rfl|rfl<;>exact bK
 ·rw[if_neg hv,if_neg hv];simp only[Err.e];have hv1:v≠3:=λh=>hv (.inl h);have hv2:v≠4:=λh=>hv (.inr h);refine aw func5 call5 λC hC hGL=> ?_;exact bK
end
section
attribute [local irreducible] bI ap aa az aW ab ad
theorem JL {G:Glo}(c:wV)(ho:∀x∈c.l,Itm.OK 1048576 x)(hl:c.l.length<=1048576):ad prog G 4 [c.A] [] (λr H=>(∃a,r= .ret a/\∃b,a= .bool b/\(b=false->c.fine))/\H=[]):=by
 obtain⟨v,l⟩:=c;dsimp only at ho hl;refine aw func4 call4 λC hC hGL=> ?_;refine xw ?_;repeat' first|exact .n|apply Lc.mk
 all_goals intros
 ·exact⟨[],List.nil_sublist _,⟨_,rfl,true,rfl,λh=>by cases h⟩,rfl⟩
 have h70:l.length<=70:=by
  have:(l.length:Int)<=70:=by assumption
  omega
 refine lp hC hGL (λk:Nat=>[(10,.list 15 l.length (Hh l)),(11,.int .i64 (l.length:Nat)),(12,.int .i64 (k:Nat))]) (λ_=>[]) (λk=>k<=l.length/\∀j,j<k->Itm.OK 2500 (l.getD j Itm.z)) (λk=>l.length-k) 0 ⟨Nat.zero_le _,λj h=>absurd h (Nat.not_lt_zero _)⟩ ai rfl ?_;rintro k ⟨h1,h2⟩;by_cases hk:k<l.length
 ·have hx:=Hi ho hk;have hw:=Hb (G:=G) (l.getD k Itm.z).p hx.p;have ht:=Ey (G:=G) (l.getD k Itm.z).2 (by have:=hx.s;omega) hx.L;refine aZ ?_;intros;refine rU hw ?_;rintro _ ⟨b,rfl,hb⟩;cases b with
  |true=>
   refine aZ ?_;exact⟨[],List.nil_sublist _,⟨_,rfl,true,rfl,λh=>by cases h⟩,rfl⟩
  |false=>
   refine aZ ?_;refine rU ht ?_;rintro _ ⟨b,rfl,hb2⟩;cases b with
   |true=>
    refine aZ ?_;exact⟨[],List.nil_sublist _,⟨_,rfl,true,rfl,λh=>by cases h⟩,rfl⟩
   |false=>
    refine aZ ?_;intros;refine eg (k+1) ⟨hk,λj hj=> ?_⟩ (by omega) ai aH;rcases Nat.lt_or_eq_of_le (Nat.le_of_lt_succ hj) with h|rfl
    ·exact h2 j h
    ·exact⟨hb rfl,hb2 rfl,hx.L⟩
 ·refine aZ ?_;intros;exact⟨[],List.nil_sublist _,⟨_,rfl,false,rfl,λ_=>⟨h70,JO λj hj=>h2 j (by dsimp only at hj;omega)⟩⟩,rfl⟩
end
section
abbrev GN (cs:List AVal):AVal:=.agg [.int .i64 0,.list 15 1 (df [(0,.agg cs)])]
theorem vR {R:Seal}{cs:List AVal}{x:Itm}(h:∀vs,aV R (.agg cs) vs->aV R (ij x) vs){u:Value}(hu:bD R (GN cs) u):bD R (wV.A ⟨0,[x]⟩) u:=
 k8 (p:=1) (a':=.list 15 1 (Hh [x])) (Seal.le_refl R) hu rfl λu=>Et λi hi vs hv=>by
  obtain rfl:i=0:=by omega
  exact h vs hv
theorem EE {R:Seal}{vs:List Value}(h:aV R (.agg (vY Itm.z cr cr)) vs):aV R (ij Itm.z) vs:=
 iY (p:=5) (a':=.list 1 0 (bF [])) (λ_=>nk) (iY (p:=2) (a':=.list 2 0 (dM [])) (λ_=>nk) h rfl) rfl
theorem Kk {G:Glo}(x:Itm)(hx:x.OK 1048576):ad prog G 4 [GN (bR x)] [] (λr H=>(∃a,r= .ret a/\∃b,a= .bool b/\(b=false->x.OK 2500))/\H=[]):=by
 refine(wo (JL (G:=G) ⟨0,[x]⟩ (λy hy=>by obtain rfl:=List.mem_singleton.1 hy;exact hx) (by show 1<=1048576;decide)) (avs':=[GN (bR x)]) ?_).mono ?_
 ·rintro R vs ⟨u,us,rfl,hu,e⟩;have r:=vR (x:=x) (λ_ h=>h) (show bD R _ u from hu);exact⟨u,us,rfl,⟨r.1,r.2⟩,e⟩
 ·rintro r H ⟨⟨a,e,b,e2,h⟩,eH⟩;exact⟨⟨a,e,b,e2,λhb=>(h hb).2 x (List.mem_singleton.2 rfl)⟩,eH⟩
theorem xJ {G:Glo}(y:Itm)(cs1 cs2:List AVal)(h1:∀R vs,aV R (.agg cs1) vs->aV R (ij y) vs)(h2:∀R vs,aV R (.agg cs2) vs->aV R (ij y) vs)(hy:Small y.2.L/\y.1.ps.length<=10000/\∀j,(y.1.ps.getD j Pr.z).vs.length<=2000000):an prog G 9 [GN cs1,GN cs2] (.bool true):=by
 refine wo (AU (G:=G) ⟨0,[y]⟩ ⟨by show 1<=1000000;decide,λz hz=>by obtain rfl:=List.mem_singleton.1 hz;exact hy⟩) ?_;rintro R vs ⟨u,us,rfl,hu,u2,us2,rfl,hu2,e⟩;have r1:=vR (h1 R) (show bD R _ u from hu);have r2:=vR (h2 R) (show bD R _ u2 from hu2);exact⟨u,_,rfl,⟨r1.1,r1.2⟩,u2,us2,rfl,⟨r2.1,r2.2⟩,e⟩
attribute [local irreducible] bI ap aa az aW ab ad
attribute [local irreducible] Itm.can Hh
theorem rq {G:Glo}{m:Int}(hU:ab G utfTy)(hE:ab G errTy)(hE2:mn G)(hP:ew G)(hM:ab G (cw m))(hH:ab G shapesTy)(hS:kb G)(v:Int)(x:Itm)(hx:x.OK 1048576):an prog G 3 [ij x,.int .i64 v] (.bool true):=by
 have h0:=Kk (G:=G) x hx;have hc1:=call8;have hc2:=call9;have h1:=λhx:x.OK 10000=>vI hU hM hH hP v x hx;have h2:=λhx:x.OK 10000=>BM hE hE2 hP hM hS v x hx;have h3:=λhx hw=>sR hM hS v x hx hw;have hg:=λhx hw=>Kg (v:=v) (x:=x) hx hw;have hpl:=Km (G:=G) hE (x.lE v) (by unfold Itm.lE;(repeat' split)<;>rfl);have bad:∀e:Int,e≠0->x.lE v= .errno e->x.canR v=Itm.z->an prog G 3 [ij x,.int .i64 v] (.bool true):=by
  intro e he0 he hz;rw[he] at h1 h2 hpl;rw[hz] at h2;have hS1:=xJ (G:=G) Itm.z (bR Itm.z) (vY Itm.z cr cr) (λ_ _ h=>h) (λ_ _ h=>EE h) ⟨⟨Nat.zero_le _,λk=>⟨by show(([]:List (List (List UInt8))).getD k []).length<=2000000;simp,by show Lib.lens (([]:List (List (List UInt8))).getD k [])<=2000000;simp[Lib.lens]⟩⟩,Nat.zero_le _,λj=>by show((([]:List Pr).getD j Pr.z).vs).length<=2000000;simp[Pr.z]⟩;simp only[Err.A,Err.e,kS] at h1 h2 hpl;generalize x.lT v=t at*
  unfold ij at*
  refine aw func3 call3 λC hC hGL=> ?_;refine aZ ?_;intros;refine rU h0 ?_;rintro _ ⟨b,rfl,hb⟩;cases b with
  |true=>exact bK
  |false=>
   have hx:=(hb rfl).mono (M:=10000) (by decide);have h1:=h1 hx;have h2:=h2 hx;exact bK
 by_cases hv:v=3\/v=4;case neg=>exact bad 1 (by decide) (by unfold Itm.lE;rw[if_neg hv]) (by unfold Itm.canR;rw[if_neg hv])
 by_cases hw:x.w v=0;case neg=>exact bad (x.w v) hw (by unfold Itm.lE;rw[if_pos hv,if_neg hw]) (by unfold Itm.canR;rw[if_pos hv,if_neg hw])
 clear bad;have hlE:x.lE v= .none:=by unfold Itm.lE;rw[if_pos hv,if_pos hw]
 have hcR:x.canR v=x.can v:=by unfold Itm.canR;rw[if_pos hv,if_pos hw]
 rw[hlE] at h1 h2 hpl;rw[hcR] at h2;simp only[Err.A,Err.e,kS] at h1 h2 hpl;have hS1:=λhx=>xJ (G:=G) (x.can v) (bR (x.can v)) (bR (x.can v)) (λ_ _ h=>h) (λ_ _ h=>h) (hg hx hw);have h3:=λhx=>h3 hx hw;generalize x.lT v=t at*
 clear hg hcR hlE;generalize x.can v=y at*
 unfold ij at*
 refine aw func3 call3 λC hC hGL=> ?_;refine aZ ?_;intros;refine rU h0 ?_;rintro _ ⟨b,rfl,hb⟩;cases b with
 |true=>exact bK
 |false=>
  have hx:=(hb rfl).mono (M:=10000) (by decide);have h1:=h1 hx;have h2:=h2 hx;have h3:=h3 hx;have hS1:=hS1 hx;exact bK
end
section
open Go.ChangeShapes Go.WideShapes Go.ChangeAt Go.RowKit Go.WideMaps Go.WideElems
theorem Il {H:Type}(d:DataW H):1<=Rows.uptoBulk d:=by
 cases d with
 |lit l=>cases l<;>simp[Rows.uptoBulk]
 |_=>simp[Rows.uptoBulk]
theorem sf {H:Type}:∀l:List (DataW H),l.length<=Rows.uptoBulkAll l
 |[]=>Nat.zero_le _
 |x::r=>by
  have h1:=Il x;have h2:=sf r;simp only[Rows.uptoBulkAll,List.length_cons];omega
theorem se {H:Type}{d:DataW H}:∀{l:List (DataW H)},d∈l->Rows.uptoBulk d<=Rows.uptoBulkAll l
 |[],h=>by cases h
 |x::r,h=>by
  simp only[Rows.uptoBulkAll];rcases List.mem_cons.1 h with rfl|h
  ·omega
  ·have:=se h;omega
theorem uK {H:Type}:∀l:List (List UInt8),Rows.uptoBulkAll (H:=H) (l.map λs=>.lit (.string s))=Lib.lens l+l.length
 |[]=>rfl
 |s::r=>by
  have e1:Lib.lens (s::r)=s.length+Lib.lens r:=by simp[Lib.lens]
  have h:=uK (H:=H) r;simp only[List.map_cons,Rows.uptoBulkAll,Rows.uptoBulk,h,e1,List.length_cons];omega
section
variable {H:Type} {enc:TypeId×Value->H} {W:World}
theorem yj {m:Nat}{f:Nat->AVal}{a:Addr}{cap:Nat}(hm:m<=cap){V:Nat->Value}(hV:∀i,i<m->W.cell? (a.add i)=some (V i)/\aV (aL W W.heap.size) (f i) [V i]):
  bD (aL W W.heap.size) (.list 1 m f) (.slice (some a) m cap):=by
 refine⟨⟨some a,cap,rfl,hm,?_⟩,rfl⟩;rcases Nat.eq_zero_or_pos m with h0|h0
 ·exact .inl h0
 ·refine .inr ?_;obtain⟨b,o,sp⟩:=a;have h1:=(hV 0 h0).1;rw[show(⟨b,o,sp⟩:Addr).add 0=⟨b,o,sp⟩ from rfl] at h1;unfold World.cell? at h1;dsimp only at h1;cases hW:W.heap[b]? with
  |none=>rw[hW] at h1;cases h1
  |some ob=>
   cases ob with
   |cells C e fz=>
    rw[hW] at h1;cases sp with
    |some s=>simp at h1
    |none=>
     refine⟨b,o,C,e,fz,rfl,?_,λi hi=> ?_⟩
     ·unfold aL;rw[if_pos (Array.getElem?_eq_some_iff.1 hW).1];exact hW
     ·obtain⟨h2,h3⟩:=hV i hi;have ha:(⟨b,o,none⟩:Addr).add i=⟨b,o+i,none⟩:=by
       unfold Addr.add;split
       ·rename_i h;rw[h];rfl
       ·rfl
      rw[ha] at h2;have hci:C[o+i]? =some (V i):=by
       unfold World.cell? at h2;simpa[hW] using h2
      have hlt:o+i<C.toList.length:=by simpa using(Array.getElem?_eq_some_iff.1 hci).1
      have e1:(C.toList.drop (o+i*1)).take 1=[V i]:=by
       rw[Nat.mul_one,List.drop_eq_getElem_cons hlt,List.take_succ_cons,List.take_zero];have:C.toList[o+i]? =some (V i):=by rw[Array.getElem?_toList];exact hci
       rw[List.getElem?_eq_getElem hlt] at this;rw[Option.some.inj this]
      rw[e1];exact h3
   |_=>rw[hW] at h1;cases h1
theorem yi {fuel:Nat}{spare:Nat->Bool}{held:Bool}{v:Value}{x:DataW H×List MemPlace}(h:DataW.trod enc prog W 0 spare held fuel 55 [v]=some x):
  ∃l:List (List UInt8),bD (aL W W.heap.size) (.list 1 l.length (aE l)) v/\l.length<=Rows.uptoBulk x.1/\Lib.lens l<=Rows.uptoBulk x.1:=by
 rcases Go.Deep.open_strs underlying55 underlying9 (by kernel_rfl) h with⟨hv,rfl⟩|⟨a,len,cap,m,Sx,hv,_,hl,_,hm,rfl,hx⟩
 ·obtain rfl:v= .slice none 0 0:=by simpa using hv
  exact⟨[],⟨⟨none,0,rfl,Nat.le_refl _,.inl rfl⟩,rfl⟩,Nat.zero_le _,Nat.zero_le _⟩
 ·obtain rfl:v= .slice (some a) len cap:=by simpa using hv
  have hlm:len<=m:=by rw[hm];split<;>omega
  let l:List (List UInt8):=(List.range len).map λi=>(Sx i).data.toList
  have hll:l.length=len:=by simp[l]
  have hget:∀i,i<len->l.getD i []=(Sx i).data.toList:=λi hi=>by simp[l,List.getD,hi]
  refine⟨l,?_,?_⟩
  ·rw[hll];refine yj hl (V:=λi=>.string (Sx i)) (λi hi=>⟨(hx i (by omega)).1,?_⟩);have:=(aF (R:=aL W W.heap.size) (s:=l.getD i []) (v:=.string (Sx i))).2 (by rw[hget i hi,km]);exact this.1
  ·have e1:((List.range len).map λi=>(DataW.lit (.string (Sx i).data.toList):DataW H))=l.map λs=>.lit (.string s):=by simp[l,List.map_map,Function.comp_def]
   have h1:=uK (H:=H) l;simp only[Rows.uptoBulk];rw[e1,h1];omega
theorem D9 {fuel:Nat}{spare:Nat->Bool}{held:Bool}{v:Value}{x:DataW H×List MemPlace}(h:DataW.trod enc prog W 0 spare held fuel 23 [v]=some x)(hb:Rows.uptoBulk x.1<=1048576):
  ∃L:List (List (List UInt8)),bD (aL W W.heap.size) (.list 1 L.length (bF L)) v/\Small L:=by
 rcases Go.Deep.open_slice1 underlying23 (by kernel_rfl) h with⟨hv,rfl⟩|⟨a,len,cap,m,n,V,D,Pl,hv,_,hl,_,hm,rfl,hx⟩
 ·obtain rfl:v= .slice none 0 0:=by simpa using hv
  refine⟨[],⟨⟨none,0,rfl,Nat.le_refl _,.inl rfl⟩,rfl⟩,⟨by simp,λk=> ?_⟩⟩;rw[List.getD_nil];exact⟨by simp,by simp[Lib.lens]⟩
 ·obtain rfl:v= .slice (some a) len cap:=by simpa using hv
  have hlm:len<=m:=by rw[hm];split<;>omega
  obtain⟨Lx,hLx⟩:=Go.Deep.choose_lt (α:=List (List UInt8)) (n:=len) (p:=λi l=>bD (aL W W.heap.size) (.list 1 l.length (aE l)) (V i)/\l.length<=Rows.uptoBulk (D i)/\Lib.lens l<=Rows.uptoBulk (D i)) (λi hi=>yi (hx i (by omega)).2)
  let L:List (List (List UInt8)):=(List.range len).map Lx
  have hll:L.length=len:=by simp[L]
  have hget:∀i,i<len->L.getD i []=Lx i:=λi hi=>by simp[L,List.getD,hi]
  simp only[Rows.uptoBulk] at hb;have h1:=sf ((List.range len).map D);rw[List.length_map,List.length_range] at h1;refine⟨L,?_,⟨by omega,λk=> ?_⟩⟩
  ·rw[hll];refine yj hl (V:=V) (λi hi=>⟨(hx i (by omega)).1,?_⟩);have h2:=(hLx i hi).1;unfold bF;rw[hget i hi];have h3:=h2.1;obtain⟨c,cp,e,h4⟩:=h3;have e2:[V i]=[.slice c (Lx i).length cp]:=by
    obtain⟨c2,cp2,e3,_⟩:=aR h2 rfl;have e4:V i= .slice c2 (Lx i).length cp2:=by simpa using e3
    rw[e4] at e ⊢;exact e
   exact⟨c,cp,e2,h4⟩
  ·by_cases hk:k<len
   ·rw[hget k hk];have h2:=(hLx k hk).2;have h3:=se (d:=D k) (l:=(List.range len).map D) (List.mem_map.2 ⟨k,List.mem_range.2 hk,rfl⟩);omega
   ·rw[List.getD_eq_getElem?_getD,List.getElem?_eq_none (by omega)];exact⟨by simp,by simp[Lib.lens]⟩
end
end
section
open Go Go.ChangeShapes Go.WideShapes Go.ChangeAt Go.RowKit Go.WideMaps Go.WideElems
theorem FI {α:Type}{l:List α}(h:l.length=2):∃a b,l=[a,b]:=by
 match l,h with
 |[a,b],_=>exact⟨a,b,rfl⟩
theorem JZ {α:Type}{l:List α}(h:l.length=4):∃a b c d,l=[a,b,c,d]:=by
 match l,h with
 |[a,b,c,d],_=>exact⟨a,b,c,d,rfl⟩
theorem zQ (b o n:Nat):(⟨b,o,none⟩:Addr).add n=⟨b,o+n,none⟩:=by
 unfold Addr.add;split
 ·rename_i h;rw[h];rfl
 ·rfl
theorem E3 {W:World}{b o:Nat}{C:Array Value}{e:TypeId}{fz:Nat×Nat}(h:W.heap[b]? =some (.cells C e fz)):W.cell? ⟨b,o,none⟩=C[o]? :=by
 unfold World.cell?;simp[h]
section
variable {H:Type} {enc:TypeId×Value->H} {W:World}
theorem Eb {sz m:Nat}(hz:0<sz){f:Nat->AVal}{a:Addr}{cap:Nat}(hm:m<=cap){cs:Nat->List Value}(hV:∀i,i<m->W.cells? 0 (a.add (i*sz)) sz=some (cs i)/\aV (aL W W.heap.size) (f i) (cs i)):
  bD (aL W W.heap.size) (.list sz m f) (.slice (some a) m cap):=by
 refine⟨⟨some a,cap,rfl,hm,?_⟩,rfl⟩;rcases Nat.eq_zero_or_pos m with h0|h0
 ·exact .inl h0
 ·refine .inr ?_;obtain⟨b,o,sp⟩:=a;obtain⟨_,hl0,hc0⟩:=World.cells?_some (hV 0 h0).1;have h1:=hc0 0 hz;rw[Nat.zero_mul,show(⟨b,o,sp⟩:Addr).add 0=⟨b,o,sp⟩ from rfl,show(⟨b,o,sp⟩:Addr).add 0=⟨b,o,sp⟩ from rfl,List.getElem?_eq_getElem (by omega)] at h1;unfold World.cell? at h1;dsimp only at h1;cases hW:W.heap[b]? with
  |none=>rw[hW] at h1;cases h1
  |some ob=>
   cases ob with
   |cells C e fz=>
    rw[hW] at h1;cases sp with
    |some s=>simp at h1
    |none=>
     refine⟨b,o,C,e,fz,rfl,?_,λi hi=> ?_⟩
     ·unfold aL;rw[if_pos (Array.getElem?_eq_some_iff.1 hW).1];exact hW
     ·obtain⟨h2,h3⟩:=hV i hi;obtain⟨_,hl,hc⟩:=World.cells?_some h2;have e1:(C.toList.drop (o+i*sz)).take sz=cs i:=by
       refine List.ext_getElem? λk=> ?_;by_cases hk:k<sz
       ·have h4:=hc k hk;rw[zQ,zQ,E3 hW] at h4;rw[<-h4,List.getElem?_take_of_lt hk,List.getElem?_drop,Array.getElem?_toList]
       ·rw[List.getElem?_eq_none (by rw[List.length_take];omega),List.getElem?_eq_none (by omega)]
      rw[e1];exact h3
   |_=>rw[hW] at h1;cases h1
theorem Ea {fuel:Nat}{spare:Nat->Bool}{held:Bool}{cs:List Value}{x:DataW H×List MemPlace}(h:DataW.trod enc prog W 0 spare held fuel 64 cs=some x):
  ∃q:Pr,aV (aL W W.heap.size) (.agg [.str q.n,.list 1 q.vs.length (aE q.vs)]) cs/\q.n.length<=Rows.uptoBulk x.1/\q.vs.length<=Rows.uptoBulk x.1/\Lib.lens q.vs<=Rows.uptoBulk x.1:=by
 obtain⟨xs,n,_,hx,hl,hxl,hf⟩:=DataW.trod_struct underlying64 h;have hc:prog.cellsOf 64=2:=by kernel_rfl
 have hcs:prog.cellsOf 9=1:=by kernel_rfl
 have hcp:prog.cellsOf 55=1:=by kernel_rfl
 rw[hc] at hl;have hxl:xs.length=2:=hxl;obtain⟨x0,x1,rfl⟩:=FI hxl;obtain⟨u0,u1,rfl⟩:=FI hl;have g0:DataW.trod enc prog W 0 spare held n 9 (([u0,u1].drop 0).take (prog.cellsOf 9))=some x0:=hf 0 _ rfl;have g1:DataW.trod enc prog W 0 spare held n 55 (([u0,u1].drop 1).take (prog.cellsOf 55))=some x1:=hf 1 _ rfl;rw[hcs] at g0;rw[hcp] at g1;simp only[List.drop_zero,List.drop_succ_cons,List.take_succ_cons,List.take_zero] at g0 g1;obtain⟨s0,q0,e0,_⟩:=DataW.trod_string underlying9 g0;obtain⟨l,r1,hb1,hb2⟩:=yi g1;obtain rfl:=List.singleton_inj.1 q0;rw[hx];simp only[List.map_cons,List.map_nil,Rows.uptoBulk,Rows.uptoBulkAll];refine⟨⟨s0.data.toList,l⟩,⟨_,_,rfl,by rw[aV,km],_,_,rfl,aR r1 rfl,rfl⟩,?_,by dsimp only;omega,by dsimp only;omega⟩;rw[e0];simp only[Rows.uptoBulk];omega
theorem AP {fuel:Nat}{spare:Nat->Bool}{held:Bool}{v:Value}{x:DataW H×List MemPlace}(h:DataW.trod enc prog W 0 spare held fuel 22 [v]=some x):
  ∃L:List Pr,bD (aL W W.heap.size) (.list 2 L.length (dM L)) v/\L.length<=Rows.uptoBulk x.1/\∀k,(L.getD k Pr.z).n.length<=Rows.uptoBulk x.1/\(L.getD k Pr.z).vs.length<=Rows.uptoBulk x.1/\Lib.lens (L.getD k Pr.z).vs<=Rows.uptoBulk x.1:=by
 have hc:prog.cellsOf 64=2:=by kernel_rfl
 rcases Go.Deep.open_slice underlying22 h with⟨hv,rfl⟩|⟨a,len,cap,m,n,D,Pl,hv,_,hl,_,hm,rfl,hx⟩
 ·obtain rfl:v= .slice none 0 0:=by simpa using hv
  refine⟨[],⟨⟨none,0,rfl,Nat.le_refl _,.inl rfl⟩,rfl⟩,Nat.zero_le _,λk=> ?_⟩;rw[List.getD_nil];exact⟨by simp[Pr.z],by simp[Pr.z],by simp[Pr.z,Lib.lens]⟩
 ·obtain rfl:v= .slice (some a) len cap:=by simpa using hv
  rw[hc] at hx;have hlm:len<=m:=by rw[hm];split<;>omega
  obtain⟨Cx,hCx⟩:=Go.Deep.choose_lt (α:=List Value) (n:=len) (p:=λi cs=>W.cells? 0 (a.add (i*2)) 2=some cs/\DataW.trod enc prog W 0 spare held n 64 cs=some (D i,Pl i)) (λi hi=>hx i (by omega));obtain⟨Lx,hLx⟩:=Go.Deep.choose_lt (α:=Pr) (n:=len) (p:=λi q=>aV (aL W W.heap.size) (.agg [.str q.n,.list 1 q.vs.length (aE q.vs)]) (Cx i)/\q.n.length<=Rows.uptoBulk (D i)/\q.vs.length<=Rows.uptoBulk (D i)/\Lib.lens q.vs<=Rows.uptoBulk (D i)) (λi hi=>Ea (hCx i hi).2)
  let L:List Pr:=(List.range len).map Lx
  have hll:L.length=len:=by simp[L]
  have hget:∀i,i<len->L.getD i Pr.z=Lx i:=λi hi=>by simp[L,List.getD,hi]
  have h1:=sf ((List.range len).map D);rw[List.length_map,List.length_range] at h1;simp only[Rows.uptoBulk];refine⟨L,?_,by omega,λk=> ?_⟩
  ·rw[hll];refine Eb (by decide) hl (cs:=Cx) (λi hi=>⟨(hCx i hi).1,?_⟩);unfold dM;rw[hget i hi];exact(hLx i hi).1
  ·by_cases hk:k<len
   ·rw[hget k hk];have h2:=(hLx k hk).2;have h3:=se (d:=D k) (l:=(List.range len).map D) (List.mem_map.2 ⟨k,List.mem_range.2 hk,rfl⟩);omega
   ·rw[List.getD_eq_getElem?_getD,List.getElem?_eq_none (by omega)];exact⟨by simp[Pr.z],by simp[Pr.z],by simp[Pr.z,Lib.lens]⟩
end
end
section
open Go Go.ChangeShapes Go.WideShapes
theorem rZ {W:World}{a:Addr}{v:Value}(h:W.cell? a=some v):∃b o C e fz,a=⟨b,o,none⟩/\W.heap[b]? =some (.cells C e fz):=by
 obtain⟨b,o,sp⟩:=a;unfold World.cell? at h;dsimp only at h;cases hW:W.heap[b]? with
 |none=>rw[hW] at h;cases h
 |some ob=>
  cases ob with
  |cells C e fz=>
   rw[hW] at h;cases sp with
   |some s=>simp at h
   |none=>exact⟨b,o,C,e,fz,rfl,hW⟩
  |_=>rw[hW] at h;cases h
theorem zR (b o i:Nat):(⟨b,o,none⟩:Addr).add i=⟨b,o+i,none⟩:=by
 unfold Addr.add;split
 ·rename_i h;rw[h];rfl
 ·rfl
theorem Kd {W:World}{b o:Nat}{C:Array Value}{e:TypeId}{fz:Nat×Nat}(hW:W.heap[b]? =some (.cells C e fz)):W.cell? ⟨b,o,none⟩=C.toList[o]? :=by
 unfold World.cell?;simp[hW]
theorem BJ {W:World}{base b o n:Nat}{C:Array Value}{e:TypeId}{fz:Nat×Nat}(hW:W.heap[b]? =some (.cells C e fz)){cs:List Value}(h:W.cells? base ⟨b,o,none⟩ n=some cs):(C.toList.drop o).take n=cs:=by
 obtain⟨_,hl,hi⟩:=World.cells?_some h;have hx:∀i,i<n->C.toList[o+i]? =cs[i]? :=λi k=>by
  have:=hi i k;rwa [zR,Kd hW] at this
 apply List.ext_getElem?;intro i;by_cases k:i<n
 ·rw[List.getElem?_take_of_lt k,List.getElem?_drop,hx i k]
 ·rw[List.getElem?_eq_none (by rw[List.length_take];omega),List.getElem?_eq_none (by omega)]
theorem yh {R:Seal}{x y z:List UInt8}{cs:List Value}{s0 s1 s2:ByteArray}(h:cs=[.string s0,.string s1,.string s2])(h0:s0.data.toList=x)(h1:s1.data.toList=y)(h2:s2.data.toList=z):aV R (.agg [.str x,.str y,.str z]) cs:=by
 subst h h0 h1 h2;exact⟨_,_,rfl,by rw[aV,km],_,_,rfl,by rw[aV,km],_,_,rfl,by rw[aV,km],rfl⟩
theorem FM {α:Type}{l:List α}(h:l.length=3):∃a b c,l=[a,b,c]:=by
 match l,h with
 |[a,b,c],_=>exact⟨a,b,c,rfl⟩
theorem zp {α:Type}{l:List α}(h:l.length=8):∃a b c d e f g i,l=[a,b,c,d,e,f,g,i]:=by
 match l,h with
 |[a,b,c,d,e,f,g,i],_=>exact⟨a,b,c,d,e,f,g,i,rfl⟩
def qy {H:Type}(i:Nat):DataW H:=.agg [.lit (.string (KI i)),.lit (.string (bX i)),.lit (.string (fB i))]
theorem xI {W:World}{laid:List (String×DataW Unit)}(hL:laidMetH prog laid W)(hm:("visitingcard/visitingcardref.shapes",Rows.laid_visitingcard_visitingcardref_shapes)∈laid):di (aL W W.heap.size) 4 0 [.list 3 7 vh]:=by
 obtain⟨C0,e0,fz0,fuel,p,hW0,hd⟩:=jJ hL hm (by kernel_rfl) (g:=4) (t:=230) (by kernel_rfl) (by kernel_rfl)
 rcases Go.Deep.open_slice underlying230 hd with⟨_,hx⟩|⟨a,len,cap,m,n,D,Pl,hv,_,hl,_,hm2,hx,hi⟩
 ·cases hx
 have e1:(List.range 7).map (fun i=>(qy i:DataW Unit))=(List.range len).map D:=by
  have:=(DataW.slice.inj (Prod.mk.inj hx).1).1
  rw[←this]
  rfl
 have hlen:len=7:=by
  have:=congrArg List.length e1
  simpa using this.symm
 subst hlen
 have hD:∀i,i<7→D i=qy i:=fun i k=>by
  have h1:((List.range 7).map D)[i]? =some (D i):=by simp[k]
  have h2:((List.range 7).map (fun i=>(qy i:DataW Unit)))[i]? =some (qy i):=by simp[k]
  rw[e1,h1] at h2
  exact Option.some.inj h2
 have hm7:7≤m:=by rw[hm2];split<;>omega
 have hc3:prog.cellsOf 231=3:=by kernel_rfl
 have hc1:prog.cellsOf 9=1:=by kernel_rfl
 rw[hc3] at hi
 obtain⟨c0,hc0,_⟩:=hi 0 (by omega)
 have hcell:∃v,W.cell? a=some v:=by
  obtain⟨_,h1,h2⟩:=World.cells?_some hc0
  have h3:=h2 0 (by decide)
  rw[Nat.zero_mul,show(a.add 0).add 0=a from rfl,List.getElem?_eq_getElem (by omega)] at h3
  exact⟨_,h3⟩
 obtain⟨v,hv0⟩:=hcell
 obtain⟨b,o,C,e,fz,rfl,hWb⟩:=rZ hv0
 refine e7 (kZ hW0) hW0 ?_
 rw[hv]
 refine⟨_,_,rfl,⟨some ⟨b,o,none⟩,cap,rfl,hl,.inr ⟨b,o,C,e,fz,rfl,?_,fun i k=> ?_⟩⟩,rfl⟩
 ·unfold aL
  rw[if_pos (kZ hWb)]
  exact hWb
 ·obtain⟨cs,h1,h2⟩:=hi i (by omega)
  rw[zR] at h1
  have h3:=BJ hWb h1
  rw[h3]
  rw[hD i k] at h2
  obtain⟨y0,y1,y2,n2,hy,hcl,g0,g1,g2⟩:=Go.Deep.trod_struct3 underlying231 h2
  rw[hc3] at hcl
  obtain⟨s0,q0,r0,_⟩:=DataW.trod_string underlying9 g0
  obtain⟨s1,q1,r1,_⟩:=DataW.trod_string underlying9 g1
  obtain⟨s2,q2,r2,_⟩:=DataW.trod_string underlying9 g2
  have hy1:=(Prod.mk.inj hy).1
  rw[r0,r1,r2] at hy1
  unfold qy at hy1
  simp only[DataW.agg.injEq,List.cons.injEq,DataW.lit.injEq,Lit.string.injEq,and_true] at hy1
  refine yh (s0:=s0) (s1:=s1) (s2:=s2) ?_ hy1.1.symm hy1.2.1.symm hy1.2.2.symm
  obtain⟨u0,u1,u2,rfl⟩:=FM hcl
  have q0:([u0,u1,u2].drop 0).take (prog.cellsOf 9)=[.string s0]:=q0
  have q1:([u0,u1,u2].drop 1).take (prog.cellsOf 9)=[.string s1]:=q1
  have q2:([u0,u1,u2].drop 2).take (prog.cellsOf 9)=[.string s2]:=q2
  rw[hc1] at q0 q1 q2
  simp at q0 q1 q2
  rw[q0,q1,q2]
theorem D8 {H:Type}{enc:TypeId×Value->H}{W:World}{base:Nat}{spare:Nat->Bool}{held:Bool}{R:Seal}{v:Value}{d:DataW H}{ps:List MemPlace}(h:DataW.Trod enc prog W base spare held 25 v d ps):
  ∃t:Stm,bD R t.A v:=by
 obtain⟨fuel,h⟩:=h
 obtain⟨xs,n,_,hx,hl,hxl,hf⟩:=DataW.trod_struct underlying25 h
 have hc:prog.cellsOf 25=8:=by kernel_rfl
 have hci:prog.cellsOf 3=1:=by kernel_rfl
 have hcb:prog.cellsOf 4=1:=by kernel_rfl
 rw[hc] at hl
 have hxl:xs.length=8:=hxl
 obtain⟨x0,x1,x2,x3,x4,x5,x6,x7,rfl⟩:=zp hxl
 obtain⟨u0,u1,u2,u3,u4,u5,u6,u7,hu⟩:=zp hl
 rw[hu] at hf
 have g0:DataW.trod enc prog W base spare held n 3 (([u0,u1,u2,u3,u4,u5,u6,u7].drop 0).take (prog.cellsOf 3))=some x0:=hf 0 _ rfl
 have g1:DataW.trod enc prog W base spare held n 3 (([u0,u1,u2,u3,u4,u5,u6,u7].drop 1).take (prog.cellsOf 3))=some x1:=hf 1 _ rfl
 have g2:DataW.trod enc prog W base spare held n 3 (([u0,u1,u2,u3,u4,u5,u6,u7].drop 2).take (prog.cellsOf 3))=some x2:=hf 2 _ rfl
 have g3:DataW.trod enc prog W base spare held n 3 (([u0,u1,u2,u3,u4,u5,u6,u7].drop 3).take (prog.cellsOf 3))=some x3:=hf 3 _ rfl
 have g4:DataW.trod enc prog W base spare held n 3 (([u0,u1,u2,u3,u4,u5,u6,u7].drop 4).take (prog.cellsOf 3))=some x4:=hf 4 _ rfl
 have g5:DataW.trod enc prog W base spare held n 3 (([u0,u1,u2,u3,u4,u5,u6,u7].drop 5).take (prog.cellsOf 3))=some x5:=hf 5 _ rfl
 have g6:DataW.trod enc prog W base spare held n 4 (([u0,u1,u2,u3,u4,u5,u6,u7].drop 6).take (prog.cellsOf 4))=some x6:=hf 6 _ rfl
 have g7:DataW.trod enc prog W base spare held n 3 (([u0,u1,u2,u3,u4,u5,u6,u7].drop 7).take (prog.cellsOf 3))=some x7:=hf 7 _ rfl
 rw[hci] at g0 g1 g2 g3 g4 g5 g7
 rw[hcb] at g6
 simp only[List.drop_zero,List.drop_succ_cons,List.take_succ_cons,List.take_zero] at g0 g1 g2 g3 g4 g5 g6 g7
 obtain⟨n0,q0,_,_⟩:=DataW.trod_int underlying3 g0
 obtain⟨n1,q1,_,_⟩:=DataW.trod_int underlying3 g1
 obtain⟨n2,q2,_,_⟩:=DataW.trod_int underlying3 g2
 obtain⟨n3,q3,_,_⟩:=DataW.trod_int underlying3 g3
 obtain⟨n4,q4,_,_⟩:=DataW.trod_int underlying3 g4
 obtain⟨n5,q5,_,_⟩:=DataW.trod_int underlying3 g5
 obtain⟨n6,q6,_⟩:=DataW.trod_bool underlying4 g6
 obtain⟨n7,q7,_,_⟩:=DataW.trod_int underlying3 g7
 refine⟨⟨n0,n1,n2,n3,n4,n5,n6,n7⟩,?_,?_⟩
 ·rw[hu]
  obtain rfl:=List.singleton_inj.1 q0
  obtain rfl:=List.singleton_inj.1 q1
  obtain rfl:=List.singleton_inj.1 q2
  obtain rfl:=List.singleton_inj.1 q3
  obtain rfl:=List.singleton_inj.1 q4
  obtain rfl:=List.singleton_inj.1 q5
  obtain rfl:=List.singleton_inj.1 q6
  obtain rfl:=List.singleton_inj.1 q7
  exact⟨_,_,rfl,rfl,_,_,rfl,rfl,_,_,rfl,rfl,_,_,rfl,rfl,_,_,rfl,rfl,_,_,rfl,rfl,_,_,rfl,rfl,_,_,rfl,rfl,rfl⟩
 ·cases v with
  |agg cs=>rfl
  |_=>exact absurd (congrArg List.length hu) (by simp[Value.cells])
theorem Kc {W:World}{g:Nat}{v:Value}(h:W.cell? ⟨g,0,none⟩=some v):g<W.heap.size:=by
 obtain⟨b,o,C,e,fz,ha,hW⟩:=rZ h;cases ha;exact kZ hW
end
section
open Go Go.ChangeShapes Go.WideShapes
theorem J0 {α:Type}{l:List α}(h:l.length=5):∃a b c d e,l=[a,b,c,d,e]:=by
 match l,h with
 |[a,b,c,d,e],_=>exact⟨a,b,c,d,e,rfl⟩
theorem DC {α:Type}{l:List α}(h:l.length=12):∃a b c d e f g i j k m n,l=[a,b,c,d,e,f,g,i,j,k,m,n]:=by
 match l,h with
 |[a,b,c,d,e,f,g,i,j,k,m,n],_=>exact⟨a,b,c,d,e,f,g,i,j,k,m,n,rfl⟩
theorem G9 {l:List (List UInt8)}{j:Nat}:(l.getD j []).length<=Lib.lens l:=cR
theorem D7 {H:Type}{enc:TypeId×Value->H}{W:World}{spare:Nat->Bool}{held:Bool}{v:Value}{d:DataW H}{ps:List MemPlace}(h:DataW.Trod enc prog W 0 spare held 27 v d ps)(hb:Rows.uptoBulk d<=1048576):
  ∃u:Vl,bD (aL W W.heap.size) u.A v/\u.s.length<=1048576/\Small u.L/\u.OK:=by
 obtain⟨fuel,h⟩:=h;obtain⟨xs,n,_,hx,hl,hxl,hf⟩:=DataW.trod_struct underlying27 h
 have hc:prog.cellsOf 27=12:=by kernel_rfl
 have hci:prog.cellsOf 3=1:=by kernel_rfl
 have hcs:prog.cellsOf 9=1:=by kernel_rfl
 have hcp:prog.cellsOf 23=1:=by kernel_rfl
 have hct:prog.cellsOf 25=8:=by kernel_rfl
 rw[hc] at hl
 have hxl:xs.length=5:=hxl
 obtain⟨x0,x1,x2,x3,x4,rfl⟩:=J0 hxl
 obtain⟨u0,u1,u2,u3,u4,u5,u6,u7,u8,u9,u10,u11,hu⟩:=DC hl
 rw[hu] at hf
 have g0:DataW.trod enc prog W 0 spare held n 3 (([u0,u1,u2,u3,u4,u5,u6,u7,u8,u9,u10,u11].drop 0).take (prog.cellsOf 3))=some x0:=hf 0 _ rfl
 have g1:DataW.trod enc prog W 0 spare held n 9 (([u0,u1,u2,u3,u4,u5,u6,u7,u8,u9,u10,u11].drop 1).take (prog.cellsOf 9))=some x1:=hf 1 _ rfl
 have g2:DataW.trod enc prog W 0 spare held n 23 (([u0,u1,u2,u3,u4,u5,u6,u7,u8,u9,u10,u11].drop 2).take (prog.cellsOf 23))=some x2:=hf 2 _ rfl
 have g3:DataW.trod enc prog W 0 spare held n 25 (([u0,u1,u2,u3,u4,u5,u6,u7,u8,u9,u10,u11].drop 3).take (prog.cellsOf 25))=some x3:=hf 3 _ rfl
 have g4:DataW.trod enc prog W 0 spare held n 3 (([u0,u1,u2,u3,u4,u5,u6,u7,u8,u9,u10,u11].drop 11).take (prog.cellsOf 3))=some x4:=hf 4 _ rfl
 rw[hci] at g0 g4
 rw[hcs] at g1
 rw[hcp] at g2
 rw[hct] at g3
 simp only[List.drop_zero,List.drop_succ_cons,List.take_succ_cons,List.take_zero] at g0 g1 g2 g3 g4
 obtain rfl:d= .agg ([x0,x1,x2,x3,x4].map (·.1)):=(Prod.mk.inj hx).1
 simp only[List.map_cons,List.map_nil,Rows.uptoBulk,Rows.uptoBulkAll] at hb
 obtain⟨n0,q0,_,_⟩:=DataW.trod_int underlying3 g0
 obtain⟨n4,q4,_,_⟩:=DataW.trod_int underlying3 g4
 obtain⟨s1,q1,e1,_⟩:=DataW.trod_string underlying9 g1
 obtain⟨L,r2,hs⟩:=D9 g2 (by omega)
 obtain⟨t,r3⟩:=D8 (R:=aL W W.heap.size) (v:=.agg #[u3,u4,u5,u6,u7,u8,u9,u10]) (d:=x3.1) (ps:=x3.2) ⟨n,g3⟩
 have hbs:s1.data.toList.length<=1048576:=by
  rw[e1] at hb
  simp only[Rows.uptoBulk] at hb
  omega
 have hLk:=hs.k
 refine⟨⟨n0,s1.data.toList,L,t,n4⟩,⟨?_,?_⟩,hbs,hs,⟨by dsimp only;omega,hs.n,λk=>(hLk k).1,λk j=>by have h1:=G9 (l:=L.getD k []) (j:=j);have h2:=(hLk k).2;dsimp only;omega⟩⟩
 ·rw[hu]
  obtain rfl:=List.singleton_inj.1 q0
  obtain rfl:=List.singleton_inj.1 q1
  obtain rfl:=List.singleton_inj.1 q4
  have h3:bA (aL W W.heap.size) _ [u3,u4,u5,u6,u7,u8,u9,u10]:=r3.1
  exact⟨_,_,rfl,rfl,_,_,rfl,by rw[aV,km],_,_,rfl,aR r2 rfl,bE h3 ⟨_,_,rfl,rfl,rfl⟩⟩
 ·cases v with
  |agg cs=>rfl
  |_=>exact absurd (congrArg List.length hu) (by simp[Value.cells])
end
section
open Go Go.ChangeShapes Go.WideShapes Go.ChangeAt Go.RowKit Go.WideMaps Go.WideElems
section
variable {H:Type} {enc:TypeId×Value->H} {W:World}
theorem FP {α:Type}{l:List α}{n:Nat}(h:l.length=n):l.take n=l:=by rw[<-h,List.take_length]
theorem Gm {fuel:Nat}{spare:Nat->Bool}{held:Bool}{cs:List Value}{x:DataW H×List MemPlace}(h:DataW.trod enc prog W 0 spare held fuel 29 cs=some x)(hb:Rows.uptoBulk x.1<=1048576):
  ∃u:Itm,aV (aL W W.heap.size) (ij u) cs/\Itm.OK 1048576 u:=by
 obtain⟨xs,n,_,hx,hl,hxl,hf⟩:=DataW.trod_struct underlying29 h;have hc:prog.cellsOf 29=15:=by kernel_rfl
 have hcs:prog.cellsOf 9=1:=by kernel_rfl
 have hcp:prog.cellsOf 22=1:=by kernel_rfl
 have hcv:prog.cellsOf 27=12:=by kernel_rfl
 rw[hc] at hl
 have hxl:xs.length=4:=hxl
 obtain⟨x0,x1,x2,x3,rfl⟩:=JZ hxl
 obtain⟨u0,u1,u2,cv,hu⟩:∃u0 u1 u2 cv,cs=u0::u1::u2::cv:=by
  rcases cs with _|⟨u0,_|⟨u1,_|⟨u2,cv⟩⟩⟩
  ·simp at hl
  ·simp at hl
  ·simp at hl
  ·exact⟨u0,u1,u2,cv,rfl⟩
 rw[hu] at hf hl
 have hlv:cv.length=12:=by simpa using hl
 have g0:DataW.trod enc prog W 0 spare held n 9 (((u0::u1::u2::cv).drop 0).take (prog.cellsOf 9))=some x0:=hf 0 _ rfl
 have g1:DataW.trod enc prog W 0 spare held n 9 (((u0::u1::u2::cv).drop 1).take (prog.cellsOf 9))=some x1:=hf 1 _ rfl
 have g2:DataW.trod enc prog W 0 spare held n 22 (((u0::u1::u2::cv).drop 2).take (prog.cellsOf 22))=some x2:=hf 2 _ rfl
 have g3:DataW.trod enc prog W 0 spare held n 27 (((u0::u1::u2::cv).drop 3).take (prog.cellsOf 27))=some x3:=hf 3 _ rfl
 rw[hcs] at g0 g1
 rw[hcp] at g2
 rw[hcv] at g3
 simp only[List.drop_zero,List.drop_succ_cons,List.take_succ_cons,List.take_zero] at g0 g1 g2 g3
 rw[FP hlv] at g3
 obtain⟨d,pl⟩:=x
 obtain rfl:d= .agg ([x0,x1,x2,x3].map (·.1)):=(Prod.mk.inj hx).1
 simp only[List.map_cons,List.map_nil,Rows.uptoBulk,Rows.uptoBulkAll] at hb
 obtain⟨s0,q0,e0,_⟩:=DataW.trod_string underlying9 g0
 obtain⟨s1,q1,e1,_⟩:=DataW.trod_string underlying9 g1
 obtain⟨L,r2,hn,hk⟩:=AP g2
 obtain⟨u,r3,h1,h2,_⟩:=D7 (v:=.agg cv.toArray) (d:=x3.1) (ps:=x3.2) ⟨n,by simpa[Value.cells] using g3⟩ (by omega)
 rw[e0,e1] at hb
 simp only[Rows.uptoBulk] at hb
 refine⟨(⟨s0.data.toList,s1.data.toList,L,[]⟩,u),?_,⟨⟨?_,?_,Nat.zero_le _,?_,λk=> ?_⟩,h1,h2⟩⟩
 ·rw[hu]
  obtain rfl:=List.singleton_inj.1 q0
  obtain rfl:=List.singleton_inj.1 q1
  have r3':aV (aL W W.heap.size) u.A cv:=by
   have:=r3.1
   rwa [show(Value.agg cv.toArray).cells.toList=cv by simp[Value.cells]] at this
  exact⟨_,_,rfl,by rw[aV,km],_,_,rfl,by rw[aV,km],_,_,rfl,aR r2 rfl,r3'⟩
 ·show s0.data.toList.length<=_;omega
 ·show s1.data.toList.length<=_;omega
 ·show L.length<=_;omega
 ·have:=hk k
  show(L.getD k Pr.z).n.length<=_/\(L.getD k Pr.z).vs.length<=_/\Lib.lens (L.getD k Pr.z).vs<=_
  omega
end
end
section
open Go Go.ChangeShapes Go.WideShapes Go.ChangeAt Go.RowKit Go.WideMaps Go.WideElems
theorem Ec {H:Type}{enc:TypeId×Value->H}{W:World}{spare:Nat->Bool}{held:Bool}{v:Value}{d:DataW H}{ps:List MemPlace}(h:DataW.Trod enc prog W 0 spare held 29 v d ps)(hb:Rows.uptoBulk d<=1048576):
  ∃x:Itm,bD (aL W W.heap.size) (ij x) v/\x.OK 1048576:=by
 obtain⟨fuel,h⟩:=h;obtain⟨x,hr,ho⟩:=Gm h hb;have hl:v.cells.toList.length=15:=by
  obtain⟨xs,n,_,hx,hl,hxl,hf⟩:=DataW.trod_struct underlying29 h;have hc:prog.cellsOf 29=15:=by kernel_rfl
  rw[hc] at hl;exact hl
 refine⟨x,⟨hr,?_⟩,ho⟩;cases v with
 |agg cs=>rfl
 |_=>exact absurd hl (by simp[Value.cells])
end
section
open Go Go.ChangeShapes Go.WideShapes
def KT:Glo:=⟨λR=>∃e fz,R 0=some (.cells (Lib.asciiSpaceTab.map λz=>Value.int .u8 z).toArray e fz),λ_ _ hle ⟨e,fz,h⟩=>⟨e,fz,hle _ _ h⟩⟩
theorem Jc {W:World}{k:Nat}(hk:0<k){laid:List (String×DataW Unit)}(hL:laidMetH prog laid W)(hm:("strings.asciiSpace",Rows.laid_strings_asciiSpace)∈laid):KT.p (aL W k):=by
 obtain⟨C,e,fz,fuel,p,hW,hd⟩:=jJ hL hm (by kernel_rfl) (g:=0) (t:=164) (by kernel_rfl) (by kernel_rfl)
 have e0:(Rows.laid_strings_asciiSpace:DataW Unit)= .agg (((List.range 256).map fun i=>if Lib.isSp (UInt8.ofNat i) then 1 else 0).map fun x:Nat=>.lit (.int .u8 (x:Int))):=by kernel_rfl
 rw[e0] at hd
 have hc:=nY (n:=256) underlying164 underlying5 (by kernel_rfl) (by kernel_rfl) hd (by rw[List.length_map,List.length_range])
 have e1:C=(Lib.asciiSpaceTab.map fun z=>Value.int .u8 z).toArray:=by
  apply Array.ext'
  rw[hc]
  kernel_rfl
 refine⟨e,fz,?_⟩
 unfold aL
 rw[if_pos hk,hW,e1]
end
section
open Go Go.ChangeShapes Go.WideShapes Go.ChangeAt Go.RowKit Go.WideMaps Go.WideElems
theorem FK {H:Type}{enc:TypeId×Value->H}{P:Program}{W:World}{base:Nat}{spare:Nat->Bool}{fuel:Nat}{t:TypeId}{ms:Array (String×TypeId)}{cs:List Value}{nm:String}{x:DataW H}{p:List MemPlace}(ht:P.underlying t=some (.interface ms))(h:DataW.trod enc P W base spare false fuel t cs=some (.iface nm x,p)):∃u v,cs=[.iface u v]:=by
 cases fuel with
 |zero=>simp[DataW.trod] at h
 |succ n=>
  rcases cs with _|⟨c,_|⟨c2,r⟩⟩
  ·simp[DataW.trod,ht] at h
  ·cases c with
   |iface u v=>exact⟨_,_,rfl⟩
   |_=>simp[DataW.trod,ht] at h
  ·simp[DataW.trod,ht] at h
theorem zl {W:World}{laid:List (String×DataW Unit)}(hL:laidMetH prog laid W){n nm:String}{x:DataW Unit}(hm:(n,.iface nm x)∈laid)(hn:(DataW.iface nm x).handleName?.isNone=true){g:Nat}(hg:prog.globalNamed n=some g)(ht:(prog.globals[g]?).map (·.type)=some 38):uU g (aL W W.heap.size):=by
 obtain⟨C,e,fz,fuel,p,hW,hd⟩:=jJ hL hm hn hg ht;obtain⟨u,v,h⟩:=FK underlying38 hd;refine⟨u,v,e,fz,?_⟩;unfold aL;rw[if_pos (kZ hW),hW];obtain⟨l⟩:=C;obtain rfl:=h;rfl
def JU:Glo:=⟨λR=>uU 8 R/\uU 9 R,λ_ _ hle ⟨⟨t,v,e,fz,h⟩,⟨t2,v2,e2,fz2,h2⟩⟩=>⟨⟨t,v,e,fz,hle _ _ h⟩,⟨t2,v2,e2,fz2,hle _ _ h2⟩⟩⟩
noncomputable def pd (m:Int):Glo:=wd (KU (utfTy++errTy++cw m++shapesTy)) (wd Hv (wd JU KT))
theorem MR {m:Int}:ab (pd m) utfTy:=nv (lz λx h=>List.mem_append_left _ (List.mem_append_left _ (List.mem_append_left _ h)))
theorem MW {m:Int}:ab (pd m) errTy:=nv (lz λx h=>List.mem_append_left _ (List.mem_append_left _ (List.mem_append_right _ h)))
theorem MV {m:Int}:ab (pd m) (cw m):=nv (lz λx h=>List.mem_append_left _ (List.mem_append_right _ h))
theorem MT {m:Int}:ab (pd m) shapesTy:=nv (lz λx h=>List.mem_append_right _ h)
theorem MU {m:Int}:ew (pd m):=λ_ h=>h.2.1
theorem Ka {m:Int}:mn (pd m):=λ_ h=>h.2.2.1
theorem N6 {m:Int}:kb (pd m):=λ_ h=>h.2.2.2
theorem Mq {W:World}{m:Int}(hm:W.cell? ⟨1,0,none⟩=some (.int .i64 m)){laid:List (String×DataW Unit)}(h0:("unicode/utf8.first",Rows.laid_unicode_utf8_first)∈laid)(h4:("unicode/utf8.acceptRanges",Rows.laid_unicode_utf8_acceptRanges)∈laid)(h1:("errors.errorType",Rows.laid_errors_errorType)∈laid)
  (h3:("visitingcard/visitingcardref.shapes",Rows.laid_visitingcard_visitingcardref_shapes)∈laid) (h2:("strings.asciiSpace",Rows.laid_strings_asciiSpace)∈laid) (h5:("internal/strconv.uint64pow10",Rows.laid_internal_strconv_uint64pow10)∈laid) (h6:("strconv.ErrSyntax",Rows.laid_strconv_ErrSyntax)∈laid) (h7:("strconv.ErrRange",Rows.laid_strconv_ErrRange)∈laid) (hL:laidMetH prog laid W):(pd m).p (aL W W.heap.size):=by
 refine⟨fun x hx=> ?_,GC (pY hL h5 (by kernel_rfl) (g:=10) (t:=340) (by kernel_rfl) (by kernel_rfl)) hL h5,⟨zl hL h6 (by kernel_rfl) (by kernel_rfl) (by kernel_rfl),zl hL h7 (by kernel_rfl) (by kernel_rfl) (by kernel_rfl)⟩,Jc (pY hL h2 (by kernel_rfl) (g:=0) (t:=164) (by kernel_rfl) (by kernel_rfl)) hL h2⟩
 simp only[List.cons_append,List.nil_append,List.mem_cons,List.not_mem_nil,or_false] at hx
 rcases hx with rfl|rfl|rfl|rfl|hx
 ·exact Br (pY hL h0 (by kernel_rfl) (g:=6) (t:=164) (by kernel_rfl) (by kernel_rfl)) hL h0
 ·exact zS (pY hL h4 (by kernel_rfl) (g:=7) (t:=305) (by kernel_rfl) (by kernel_rfl)) hL h4
 ·exact BB (MF hL h1) hL h1
 ·exact A3 (Kc hm) hm
 ·obtain rfl:=List.mem_singleton.1 (show x∈[(4,[AVal.list 3 7 vh])] from hx)
  exact xI hL h3
end
end Go.Proofs.YtmdhmodenkjmdaaGreatDoor
