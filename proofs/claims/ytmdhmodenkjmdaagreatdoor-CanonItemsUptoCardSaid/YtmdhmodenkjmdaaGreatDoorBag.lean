/- Parts of the proof of canonItems_card. -/
import Derived.Defers
import Derived.Recover
import Derived.RangeFuncRecord
import Derived.RangeFuncSeq
import Derived.OrdersIn
import Derived.LoopNIn
import Derived.Lib.Fields
import Derived.Test.YtmdhmodenkjmdaaGreatDoorBaf
set_option linter.unusedVariables false
set_option linter.unusedSimpArgs false
set_option linter.unusedSectionVars false
namespace Go.Proofs.YtmdhmodenkjmdaaGreatDoor
open Go Go.RowKit
open Tryz
set_option maxRecDepth 20000
set_option maxHeartbeats 4000000
section
def pX (first:Bool)(c:Int):Bool:=bY c&& !(first&&decide (c<=57))
def cQ (first:Bool)(a:Nat)(x:List UInt8):Err:=
 if 0<=fP (λc=> !pX first c) x then .at 3 (a+fP (λc=> !pX first c) x) else if x.length=0 then .at 7 a else if 8<x.length then .at 4 a else .none
def Err.isNone:Err->Bool
 |.none=>true
 |_=>false
def dp:Bool->Nat->List (List UInt8)->Err
 |_,_,[]=>.none
 |first,a,x::xs=>if(cQ first a x).isNone then dp false (a+x.length+1) xs else cQ first a x
def bM (s:List UInt8):Err:=dp true 0 (bq 45 s)
theorem m0 {c:UInt8}:∀{s p:List UInt8},p∈bq c s->c∉p
 |[],p,h=>by simp[bq] at h;subst h;simp
 |x::t,p,h=>by
  by_cases hx:x=c
  ·rw[bq,if_pos hx] at h;rcases List.mem_cons.1 h with rfl|h
   ·simp
   ·exact m0 h
  ·rw[bq,if_neg hx] at h;cases h1:bq c t with
   |nil=>exact absurd h1 (mZ c t)
   |cons q qs=>
    rw[h1] at h;rcases List.mem_cons.1 h with rfl|h
    ·have:=m0 (s:=t) (p:=q) (c:=c) (by rw[h1];simp);simp[this,Ne.symm hx]
    ·exact m0 (s:=t) (by rw[h1];simp[h])
theorem Jb {c:UInt8}{u v:List UInt8}{x:UInt8}(hu:c∉u)(hx:x≠c):∃q qs,bq c (u++x::v)=(u++x::q)::qs:=by
 obtain⟨p,ps,h1,h2⟩:=qv (v:=x::v) hu;rw[bq,if_neg hx] at h1;cases h3:bq c v with
 |nil=>exact absurd h3 (mZ c v)
 |cons q qs=>
  rw[h3] at h1;cases h1;exact⟨_,_,h2⟩
theorem zI {u v:List UInt8}{j:Nat}(h:j<u.length):aa (u++v) j=aa u j:=by
 unfold aa;simp[List.getD,List.getElem?_append,h]
theorem zH {u v:List UInt8}{j:Nat}(h:u.length<=j):aa (u++v) j=aa v (j-u.length):=by
 unfold aa;simp[List.getD,List.getElem?_append,show ¬j<u.length by omega]
theorem JY {f:Int->Bool}{u q:List UInt8}{x:UInt8}(hu:∀j,j<u.length->f (aa u j:Int)=false)(hx:f (x.toNat:Int)=true):fP f (u++x::q)=u.length:=by
 refine jN (by simp) ?_ (λj hj=>by rw[zI hj];exact hu j hj);rw[zH (Nat.le_refl _),Nat.sub_self];exact hx
theorem rR (s:List UInt8)(k i:Nat)(h1:k<=i)(h2:i<=s.length):s.drop k=(s.drop k).take (i-k)++s.drop i:=by
 have e:=(List.take_append_drop (i-k) (s.drop k)).symm;rw[List.drop_drop,show k+(i-k)=i by omega] at e;exact e
theorem Hd {s:List UInt8}{k i:Nat}(h1:k<=i)(h2:i<s.length)(hg:∀j,k<=j->j<i->aa s j≠45/\pX (decide (k=0)) (aa s j:Int)=true)(hc:aa s i≠45)(hb:pX (decide (k=0)) (aa s i:Int)=false)(b:Bool)(hbk:b=decide (k=0)):
  dp b k (bq 45 (s.drop k))= .at 3 i:=by
 subst hbk;have e:=rR s k i h1 (by omega);rw[List.drop_eq_getElem_cons h2] at e;have hl:((s.drop k).take (i-k)).length=i-k:=by rw[List.length_take,List.length_drop];omega
 have hba:∀j,j<i-k->aa ((s.drop k).take (i-k)) j=aa s (k+j):=λj hj=>by rw[ip hj,dC]
 have hu:(45:UInt8)∉(s.drop k).take (i-k):=by
  intro hm;obtain⟨j,hj,ej⟩:=List.getElem_of_mem hm;rw[hl] at hj;have h3:=(hg (k+j) (by omega) (by omega)).1;rw[<-hba j hj,bU (by omega),ej] at h3;exact h3 rfl
 have hx:s[i]≠45:=λh=>hc (by rw[bU h2,h];rfl);obtain⟨q,qs,hs⟩:=Jb (v:=s.drop (i+1)) hu hx;rw[<-e] at hs;rw[hs,dp];have hf:fP (λc=> !pX (decide (k=0)) c) ((s.drop k).take (i-k)++s[i]::q)=((i-k:Nat):Int):=by
  rw[JY (f:=λc=> !pX (decide (k=0)) c),hl]
  ·intro j hj;rw[hl] at hj;rw[hba j hj,(hg (k+j) (by omega) (by omega)).2];rfl
  ·rw[<-bU h2,hb];rfl
 have hp:cQ (decide (k=0)) k ((s.drop k).take (i-k)++s[i]::q)= .at 3 i:=by
  unfold cQ;rw[hf,if_pos (by omega),show((k:Nat):Int)+((i-k:Nat):Int)=i by omega]
 rw[hp];rfl
theorem yS {s:List UInt8}{k i:Nat}(h1:k<=i)(h2:i<=s.length)(hg:∀j,k<=j->j<i->aa s j≠45/\pX (decide (k=0)) (aa s j:Int)=true)(hc:i=s.length\/aa s i=45)(b:Bool)(hbk:b=decide (k=0)):
  dp b k (bq 45 (s.drop k))=if i=k then .at 7 k else if 8<i-k then .at 4 k else if i=s.length then .none else dp false (i+1) (bq 45 (s.drop (i+1))):=by
 subst hbk;have e:=rR s k i h1 (by omega);have hl:((s.drop k).take (i-k)).length=i-k:=by rw[List.length_take,List.length_drop];omega
 have hba:∀j,j<i-k->aa ((s.drop k).take (i-k)) j=aa s (k+j):=λj hj=>by rw[ip hj,dC]
 have hu:(45:UInt8)∉(s.drop k).take (i-k):=by
  intro hm;obtain⟨j,hj,ej⟩:=List.getElem_of_mem hm;rw[hl] at hj;have h3:=(hg (k+j) (by omega) (by omega)).1;rw[<-hba j hj,bU (by omega),ej] at h3;exact h3 rfl
 have hs:bq 45 (s.drop k)=(s.drop k).take (i-k)::(if i=s.length then[] else bq 45 (s.drop (i+1))):=by
  by_cases hi:i=s.length
  ·rw[if_pos hi];rw[List.drop_eq_nil_of_le (show s.length<=i by omega),List.append_nil] at e;have hu':(45:UInt8)∉s.drop k:=by rw[e];exact hu
   rw[tA hu'];exact congrArg (λz=>[z]) e
  ·rw[if_neg hi];have hc:=hc.resolve_left hi;have h2:i<s.length:=by omega
   rw[List.drop_eq_getElem_cons h2] at e;have hx:s[i]=45:=UInt8.toNat_inj.1 (by rw[<-bU h2,hc];rfl);rw[hx] at e;generalize hw:(s.drop k).take (i-k)=w at*
   rw[e,F2 hu]
 have hf:fP (λc=> !pX (decide (k=0)) c) ((s.drop k).take (i-k))= -1:=fA λj hj=>by
  rw[hl] at hj;rw[hba j hj,(hg (k+j) (by omega) (by omega)).2];rfl
 rw[hs,dp];have hp:cQ (decide (k=0)) k ((s.drop k).take (i-k))=if i=k then .at 7 k else if 8<i-k then .at 4 k else .none:=by
  unfold cQ;rw[hf,if_neg (by omega),hl];by_cases h3:i=k
  ·rw[if_pos (by omega),if_pos h3]
  ·rw[if_neg (by omega),if_neg h3]
 rw[hp,hl];by_cases h3:i=k
 ·rw[if_pos h3,if_pos h3];rfl
 ·rw[if_neg h3,if_neg h3];by_cases h4:8<i-k
  ·rw[if_pos h4,if_pos h4];rfl
  ·rw[if_neg h4,if_neg h4,if_pos (show Err.none.isNone=true from rfl),show k+(i-k)+1=i+1 by omega];by_cases h5:i=s.length
   ·rw[if_pos h5,if_pos h5];rfl
   ·rw[if_neg h5,if_neg h5]
theorem JQ {s:List UInt8}{i:Nat}(h:i<s.length):isS ((s.take (i+1)).drop i)=bY (aa s i):=by
 have hl:((s.take (i+1)).drop i).length=1:=by rw[List.length_drop,List.length_take];omega
 have hb:aa ((s.take (i+1)).drop i) 0=aa s i:=by rw[dC,ip (by omega),Nat.add_zero]
 rw[Bool.eq_iff_iff,isS,hl];simp only[Bool.and_eq_true,sx,hl,decide_eq_true_eq];constructor
 ·intro h;rw[<-hb];exact h.1 0 (by omega)
 ·intro h;exact⟨λj hj=>by rw[show j=0 by omega,hb];exact h,by omega,by omega⟩
theorem CU {b:Bool}{c:Int}:pX b c=true↔bY c=true/\(b=true->57<c):=by
 unfold pX;cases b<;>simp
theorem CV {b:Bool}{c:Int}:pX b c=false↔(bY c=false\/(b=true/\c<=57)):=by
 unfold pX;cases b<;>cases bY c<;>simp
attribute [local irreducible] bI ap aa az aW ab ad
attribute [local irreducible] bq dp pX isS bY
theorem mF {G:Glo}(s:List UInt8)(hl:s.length<=9223372036854775000):an prog G 52 [.str s] (bM s).A:=by
 refine aw func52 call52 λC hC hGL=> ?_;have hN:=λi (h:i<s.length)=>np (G:=G) ((s.take (i+1)).drop i) (by rw[List.length_drop,List.length_take];omega);refine aZ ?_;intros;refine lp hC hGL (λ(x:Nat×Nat)=>[(0,.str s),(3,.int .i64 x.2),(4,.int .i64 x.1)]) (λ_=>[]) (λx=>x.2<=x.1/\x.1<=s.length+1/\(x.1=s.length+1->x.2=s.length+1)/\(∀j,x.2<=j->j<x.1->aa s j≠45/\pX (decide (x.2=0)) (aa s j:Int)=true)/\bM s=if x.2=s.length+1 then .none else dp (decide (x.2=0)) x.2 (bq 45 (s.drop x.2))) (λx=>s.length+1-x.1) (0,0) ?_ ai rfl ?_
 ·exact⟨Nat.le_refl _,Nat.zero_le _,λh=>by omega,λj _ h=>absurd h (Nat.not_lt_zero _),by rw[if_neg (by omega)];rfl⟩
 rintro⟨i,k⟩ ⟨h1,h2,h3,h4,h5⟩;dsimp only at h1 h2 h3 h4 h5 ⊢;by_cases hi:i<s.length
 ·have hN:=hN i hi;rw[JQ hi] at hN;have hE:=λh=>yS h1 (by omega) h4 (.inr h) _ rfl;have hB:=λhc hb=>Hd h1 hi h4 hc hb _ rfl;rw[if_neg (by omega)] at h5;repeat' (first|(conv=>whnf);first|refine .w ?_|refine .v ?_|refine bu ?_ ?_<;>(intro hb;try exact dd hb)|apply au|apply aM|(apply a6<;>intro hb)|(apply ba;intro hbd)|(apply aJ;exact hN)|(apply ax (i:=0) rfl;exact hN)|(apply bc;intro bl)|(apply bh;intro va vk vc hva)|(apply bg;intro v)|(apply bj;intro bl cap hcap)|apply bx|(apply bf<;>intro hnx)|apply ct mixed hC hGL (by kernel_rfl)|(apply cq;assumption;exact hN;exact rfl)|(show Rt _ _ _;exact a7)|fail)
  all_goals try conv=>whnf
  ·apply aj;rw[h5,hB (by omega) (CV.2 (.inr ⟨by simp;omega,by omega⟩))];rfl
  ·refine db (i+1,k) ?_ ?_ ai rfl
   ·refine⟨by omega,by omega,λh=>by omega,λj g1 g2=> ?_,by rw[if_neg (by omega)];exact h5⟩;by_cases g:j=i
    ·subst g;exact⟨by omega,CU.2 ⟨by assumption,λ_=>by omega⟩⟩
    ·exact h4 j g1 (by omega)
   ·dsimp only;omega
  ·refine db (i+1,k) ?_ ?_ ai rfl
   ·refine⟨by omega,by omega,λh=>by omega,λj g1 g2=> ?_,by rw[if_neg (by omega)];exact h5⟩;by_cases g:j=i
    ·subst g;exact⟨by omega,CU.2 ⟨by assumption,λh=>by simp at h;omega⟩⟩
    ·exact h4 j g1 (by omega)
   ·dsimp only;omega
  ·apply aj;rw[h5,hB (by omega) (CV.2 (.inl hb))];rfl
  ·apply aj;have hE:=hE (by omega);obtain rfl:i=k:=by omega
   rw[h5,hE,if_pos rfl];rfl
  ·apply aj;have hE:=hE (by omega);rw[h5,hE,if_neg (by omega),if_pos (by omega)];rfl
  ·have hE:=hE (by omega);rw[if_neg (by omega),if_neg (by omega)] at hE;refine db (i+1,i+1) ?_ ?_ ai rfl
   ·refine⟨Nat.le_refl _,by omega,λ_=>by omega,λj g1 g2=>by omega,?_⟩;rw[h5,hE];dsimp only
    by_cases g:i=s.length
    ·rw[if_pos g,if_pos (by omega)]
    ·rw[if_neg g,if_neg (by omega)];simp
   ·dsimp only;omega
 ·have hE:=λh=>yS h1 h h4 (.inl (by omega)) _ rfl;refine xw ?_;repeat' first|exact .n|apply Lc.mk
  all_goals intros
  ·apply aj;have hE:=hE (by omega);rw[if_neg (by omega)] at h5;obtain rfl:i=k:=by omega
   rw[h5,hE,if_pos rfl];rfl
  ·apply aj;have hE:=hE (by omega);rw[if_neg (by omega)] at h5;rw[h5,hE,if_neg (by omega),if_pos (by omega)];rfl
  ·have hE:=hE (by omega);rw[if_neg (by omega)] at h5;rw[if_neg (by omega),if_neg (by omega)] at hE;refine db (i+1,i+1) ?_ ?_ ai rfl
   ·refine⟨Nat.le_refl _,by omega,λ_=>by omega,λj g1 g2=>by omega,?_⟩;rw[h5,hE];dsimp only
    by_cases g:i=s.length
    ·rw[if_pos g,if_pos (by omega)]
    ·rw[if_neg g,if_neg (by omega)];simp
   ·dsimp only;omega
  ·apply aj;rw[h5,if_pos (h3 (by omega))];rfl
end
section
theorem E5 {s:List UInt8}{j:Nat}(h:j<s.length):aa s j=s[j].toNat:=by
 simp[aa,List.getD,h]
theorem Nu {c:UInt8}{k:Nat}(hk:k<256):c=UInt8.ofNat k↔c.toNat=k:=by
 constructor
 ·rintro rfl;rw[UInt8.toNat_ofNat_of_lt' hk]
 ·intro h;rw[<-h,UInt8.ofNat_toNat]
def escF (c:UInt8):List UInt8:=if c=92 then[92,92] else if c=44 then[92,44] else if c=59 then[92,59] else if c=10 then[92,110] else[c]
def escS (s:List UInt8):List UInt8:=s.flatMap escF
theorem MA:escF 92=[92,92]:=rfl
theorem MC:escF 44=[92,44]:=rfl
theorem MB:escF 59=[92,59]:=rfl
theorem MD:escF 10=[92,110]:=rfl
theorem zk {c:UInt8}(h0:c.toNat≠92)(h1:c.toNat≠44)(h2:c.toNat≠59)(h3:c.toNat≠10):escF c=[c]:=by
 unfold escF;rw[if_neg (by rintro rfl;exact h0 rfl),if_neg (by rintro rfl;exact h1 rfl),if_neg (by rintro rfl;exact h2 rfl),if_neg (by rintro rfl;exact h3 rfl)]
theorem HF:escS []=[]:=rfl
theorem ET (c:UInt8)(s:List UInt8):escS (c::s)=escF c++escS s:=rfl
theorem HH (s t:List UInt8):escS (s++t)=escS s++escS t:=by simp[escS]
theorem HI (c:UInt8):1<=(escF c).length/\(escF c).length<=2:=by
 unfold escF
 (repeat' split)<;>simp
theorem nF (s:List UInt8):s.length<=(escS s).length/\(escS s).length<=2*s.length:=by
 induction s with
 |nil=>exact⟨Nat.le_refl _,Nat.le_refl _⟩
 |cons c t ih=>
  have:=HI c;rw[ET,List.length_append,List.length_cons];omega
theorem ES {s:List UInt8}{i:Nat}(h:i<s.length):escS (s.take (i+1))=escS (s.take i)++escF s[i]:=by
 rw[List.take_succ_eq_append_getElem h,HH];simp[escS]
def FV (N:Nat)(a0 a1 a2 a3 t:AVal):List AVal:=(((((List.replicate N (.raw (.slice none 0 0))).set 10 a0).set 59 a1).set 44 a2).set 92 a3)++[t]
def lN (a0 a1 a2 a3 t:AVal):List AVal:=FV 256 a0 a1 a2 a3 t
theorem FU (N:Nat)(a0 a1 a2 a3 t:AVal):(FV N a0 a1 a2 a3 t)[N]? =some t:=by
 unfold FV;rw[List.getElem?_append_right (by simp)];simp
theorem xr (a0 a1 a2 a3 t:AVal):(lN a0 a1 a2 a3 t)[256]? =some t:=FU 256 a0 a1 a2 a3 t
theorem FT {N n:Nat}{a0 a1 a2 a3 t:AVal}(hn:n<N):(FV N a0 a1 a2 a3 t)[n]? =some (if n=92 then a3 else if n=44 then a2 else if n=59 then a1 else if n=10 then a0 else .raw (.slice none 0 0)):=by
 unfold FV;rw[List.getElem?_append_left (by simpa using hn)];by_cases h3:n=92
 ·subst h3;rw[List.getElem?_set_self (by simpa using hn),if_pos rfl]
 ·rw[if_neg h3,List.getElem?_set_ne (Ne.symm h3)]
  by_cases h2:n=44
  ·subst h2;rw[List.getElem?_set_self (by simpa using hn),if_pos rfl]
  ·rw[if_neg h2,List.getElem?_set_ne (Ne.symm h2)]
   by_cases h1:n=59
   ·subst h1;rw[List.getElem?_set_self (by simpa using hn),if_pos rfl]
   ·rw[if_neg h1,List.getElem?_set_ne (Ne.symm h1)]
    by_cases h0:n=10
    ·subst h0;rw[List.getElem?_set_self (by simpa using hn),if_pos rfl]
    ·rw[if_neg h0,List.getElem?_set_ne (Ne.symm h0)]
     simp[hn]
theorem iR {n:Nat}{a0 a1 a2 a3 t:AVal}(hn:n<256):(lN a0 a1 a2 a3 t)[n]? =some (if n=92 then a3 else if n=44 then a2 else if n=59 then a1 else if n=10 then a0 else .raw (.slice none 0 0)):=FT (N:=256) hn
end
section
theorem cR {l:List (List UInt8)}{k:Nat}:(l.getD k []).length<=Lib.lens l:=by
 rw[List.getD_eq_getElem?_getD];cases h:l[k]? with
 |none=>simp
 |some x=>
  have h1:=Lib.lens_take_succ l k x h
  have h2:=Lib.lens_take_le l (k+1)
  simp only[Option.getD_some]
  omega
end
section
def joinT (l:List (List UInt8)):List UInt8:=Lib.join (l.map escS) [44]
def ns (l:List (List UInt8)):Err:=if l=[] then .errno 8 else .none
theorem sF {l:List (List UInt8)}{k:Nat}{f:List UInt8->List UInt8}(h:k<l.length):(l.map f).take (k+1)=(l.map f).take k++[f (l.getD k [])]:=by
 rw[List.take_succ_eq_append_getElem (by simpa using h),List.getElem_map,List.getD_eq_getElem?_getD,List.getElem?_eq_getElem h];rfl
theorem Ha (l:List (List UInt8)):Lib.lens (l.map escS)<=2*Lib.lens l:=by
 induction l with
 |nil=>exact Nat.le_refl _
 |cons x r ih=>
  have h1:=(nF x).2;have e1:Lib.lens (x::r)=x.length+Lib.lens r:=by simp[Lib.lens]
  have e2:Lib.lens ((x::r).map escS)=(escS x).length+Lib.lens (r.map escS):=by simp[Lib.lens]
  omega
theorem lw (l:List (List UInt8)):(joinT l).length<=l.length+2*Lib.lens l:=by
 cases l with
 |nil=>simp[joinT,Lib.join_nil]
 |cons x r=>
  have h:=Ha (x::r);unfold joinT;rw[List.map_cons] at h ⊢;rw[Lib.join_length,List.length_singleton,List.length_map,List.length_cons];omega
def cX (L:List (List (List UInt8))):Nat:=L.findIdx λl=>l.isEmpty
theorem nl (L:List (List (List UInt8))):cX L<=L.length:=List.findIdx_le_length
theorem oC {L:List (List (List UInt8))}{k:Nat}(h:k<L.length)(hk:k<=cX L)(hn:L.getD k []=[]):cX L=k:=by
 rcases Nat.lt_or_ge k (cX L) with h1|h1
 ·have:=List.not_of_lt_findIdx h1;rw[List.getD_eq_getElem?_getD,List.getElem?_eq_getElem h] at hn;simp only[Option.getD_some] at hn;rw[hn] at this;simp at this
 ·omega
theorem mB {L:List (List (List UInt8))}{k:Nat}(h:k<L.length)(hk:k<=cX L)(hn:L.getD k []≠[]):k+1<=cX L:=by
 rcases Nat.lt_or_ge k (cX L) with h1|h1
 ·exact h1
 ·exfalso;have e:cX L=k:=by omega
  have h2:L.findIdx (λl=>l.isEmpty)<L.length:=by show cX L<_;omega
  have:=List.findIdx_getElem (w:=h2);rw[List.getD_eq_getElem?_getD,List.getElem?_eq_getElem h] at hn;apply hn;simp only[Option.getD_some];have e2:L[L.findIdx λl=>l.isEmpty]=L[k]:=by congr 1
  rw[e2] at this;exact List.isEmpty_iff.1 this
def eC (L:List (List (List UInt8))):List UInt8:=if cX L<L.length then[] else Lib.join (L.map joinT) [59]
def fd (L:List (List (List UInt8))):Err:=if L=[] then .errno 8 else if cX L<L.length then .at 8 (cX L:Nat) else .none
def bF (L:List (List (List UInt8)))(i:Nat):AVal:=.list 1 (L.getD i []).length (aE (L.getD i []))
structure Small (L:List (List (List UInt8))):Prop where
 n:L.length<=2000000
 k:∀k,(L.getD k []).length<=2000000/\Lib.lens (L.getD k [])<=2000000
theorem JI {xs:List (List UInt8)}{M:Nat}(h:∀x,x∈xs->x.length<=M):Lib.lens xs<=xs.length*M:=by
 induction xs with
 |nil=>simp[Lib.lens]
 |cons x r ih=>
  have e1:Lib.lens (x::r)=x.length+Lib.lens r:=by simp[Lib.lens]
  have h1:=h x (by simp);have h2:=ih (λy hy=>h y (by simp[hy]));rw[List.length_cons,Nat.add_mul];omega
theorem rA {xs:List (List UInt8)}{M:Nat}{c:UInt8}(h:∀x,x∈xs->x.length<=M)(hn:xs.length<=2000000)(hM:M<=6000000):(Lib.join xs [c]).length<=140737488355328:=by
 cases xs with
 |nil=>simp[Lib.join_nil]
 |cons x r=>
  have h1:=JI h;rw[Lib.join_length,List.length_singleton];have h2:(x::r).length*M<=2000000*6000000:=Nat.mul_le_mul hn hM;rw[List.length_cons] at hn;omega
theorem qw {L:List (List (List UInt8))}(h:Small L):(Lib.join (L.map joinT) [59]).length<=140737488355328:=by
 refine rA (M:=6000000) (λx hx=> ?_) (by rw[List.length_map];exact h.n) (Nat.le_refl _);obtain⟨l,hl,rfl⟩:=List.mem_map.1 hx;obtain⟨k,hk,rfl⟩:=List.getElem_of_mem hl;have h1:=h.k k;rw[List.getD_eq_getElem?_getD,List.getElem?_eq_getElem hk] at h1;simp only[Option.getD_some] at h1;have:=lw L[k];omega
theorem ki {L:List (List (List UInt8))}{k:Nat}{f:List (List UInt8)->List UInt8}(h:k<L.length):(L.map f).take (k+1)=(L.map f).take k++[f (L.getD k [])]:=by
 rw[List.take_succ_eq_append_getElem (by simpa using h),List.getElem_map,List.getD_eq_getElem?_getD,List.getElem?_eq_getElem h];rfl
end
section
def lR (lines:Bool)(c:Int):Bool:=decide ((c<32/\c≠9/\(c≠10\/lines=false))\/c=127)
def dR (lines:Bool)(s:List UInt8):Bool:=decide (fp s<0/\fP (lR lines) s<0)
end
section
def Err.b:Err->Err
 |.none=>.none
 |.errno e=>.errno e
 |.at e _=>.errno e
theorem Err.b_e (x:Err):x.b.e=x.e:=by cases x<;>rfl
theorem Err.b_p (x:Err):x.b.p= -1:=by cases x<;>rfl
structure Vl where
 t:Int
 s:List UInt8
 L:List (List (List UInt8))
 st:Stm
 n:Int
def Vl.A (v:Vl):AVal:=.agg [.int .i64 v.t,.str v.s,.list 1 v.L.length (bF v.L),.int .i64 v.st.y,.int .i64 v.st.m,.int .i64 v.st.d,.int .i64 v.st.h,.int .i64 v.st.i,.int .i64 v.st.s,.bool v.st.z,.int .i64 v.st.o,.int .i64 v.n]
def iL (t:Stm):Bool:=decide (t.y=0/\t.m=0/\t.d=0/\t.h=0/\t.i=0/\t.s=0/\t.z=false/\t.o=0)
def Vl.only (v:Vl):Bool:=decide ((v.s.length=0\/v.t=1\/v.t=4\/v.t=7\/v.t=8)/\(v.L.length=0\/v.t=2\/v.t=3)/\(iL v.st=true\/v.t=5)/\(v.n=0\/v.t=6))
def Hs (L:List (List (List UInt8))):Bool:=L.all λl=>l.all (dR true)
def pF (t:Int)(L:List (List (List UInt8))):Err:=if L.length=0\/(t=2/\L.length≠1) then .errno 8 else if cX L<L.length then .errno 8 else if Hs L then .none else .errno 3
def Vl.E (v:Vl):Err:=if v.t<1\/9<=v.t\/v.only=false then .errno 1
 else if v.t=2\/v.t=3 then pF v.t v.L
 else if v.t=4 then(fZ v.s).b
 else if v.t=5 then v.st.E
 else if v.t=6 then iw v.n
 else if v.t=7 then(bM v.s).b
 else if dR (decide (v.t=1)) v.s then .none else .errno 3
def Vl.T (v:Vl):List UInt8:=match v.E with
 |.none=>if v.t=1 then escS v.s else if v.t=2\/v.t=3 then eC v.L else if v.t=5 then v.st.T else if v.t=6 then fY v.n else v.s
 |_=>[]
end
section
def Vd (s:List UInt8):Prop:=gt s=none
theorem FB:Vd []:=rfl
theorem Cc {s:List UInt8}(h0:s.length≠0)(h:(aA s).2≠0):Vd s↔Vd (s.drop (aA s).2):=by
 unfold Vd gt;obtain⟨k,hk⟩:=Nat.exists_eq_succ_of_ne_zero h0
 conv=>lhs;rw[hk]
 simp only[s7]
 rw[if_neg h0,if_neg h,uO k (s.drop (aA s).2) (by rw[List.length_drop];omega)]
 cases s7 (s.drop (aA s).2).length (s.drop (aA s).2)<;>simp
theorem Nr {s:List UInt8}(h0:s.length≠0)(h:Vd s):(aA s).2≠0:=by
 intro hn;unfold Vd gt at h;obtain⟨k,hk⟩:=Nat.exists_eq_succ_of_ne_zero h0;rw[hk] at h;simp only[s7] at h;rw[if_neg h0,if_pos hn] at h;cases h
theorem dK {a b:List UInt8}{k:Nat}(h:k<a.length):aa (a++b) k=aa a k:=by
 unfold aa;rw[List.getD_eq_getElem?_getD,List.getD_eq_getElem?_getD,List.getElem?_append_left h]
theorem jj {a b:List UInt8}{k:Nat}(h:bH a k=true):bH (a++b) k=true:=by
 unfold bH at h ⊢;rw[Bool.and_eq_true,decide_eq_true_eq] at h;rw[dK h.1,h.2,Bool.and_true,decide_eq_true_eq,List.length_append];omega
theorem eB {a:List UInt8}{k:Nat}(h:bH a k=true):k<a.length/\128<=aa a k:=by
 unfold bH at h;rw[Bool.and_eq_true,decide_eq_true_eq] at h;have:=eq_of_beq h.2;exact⟨h.1,by omega⟩
inductive Ft (s:List UInt8):Nat->Prop
 |one:s.length≠0->aa s 0<128->Ft s 1
 |two:s.length≠0->¬aa s 0<128->aa s 0/32=6->bH s 1=true->128<=cp2 s->gp (cp2 s)=true->Ft s 2
 |three:s.length≠0->¬aa s 0<128->aa s 0/16=14->bH s 1=true->bH s 2=true->2048<=uD s->gp (uD s)=true->Ft s 3
 |four:s.length≠0->¬aa s 0<128->aa s 0/8=30->bH s 1=true->bH s 2=true->bH s 3=true->65536<=uC s->gp (uC s)=true->Ft s 4
theorem NM {s:List UInt8}(h:(aA s).2≠0):Ft s (aA s).2:=by
 by_cases h0:s.length=0
 ·exact absurd (by unfold aA;rw[if_pos h0]) h
 by_cases h1:aa s 0<128
 ·have e:aA s=(aa s 0,1):=by unfold aA;rw[if_neg h0,if_pos h1]
  rw[e];exact .one h0 h1
 by_cases h2:aa s 0/32=6
 ·have e:aA s=if bH s 1&&decide (128<=cp2 s)&&gp (cp2 s) then(cp2 s,2) else(0,0):=by unfold aA;rw[if_neg h0,if_neg h1,if_pos h2]
  rw[e] at h ⊢
  split at h
  ·rename_i hc
   rw[if_pos hc]
   simp only[Bool.and_eq_true,decide_eq_true_eq] at hc
   exact .two h0 h1 h2 hc.1.1 hc.1.2 hc.2
  ·exact absurd rfl h
 by_cases h3:aa s 0/16=14
 ·have e:aA s=if bH s 1&&bH s 2&&decide (2048<=uD s)&&gp (uD s) then(uD s,3) else(0,0):=by unfold aA;rw[if_neg h0,if_neg h1,if_neg h2,if_pos h3]
  rw[e] at h ⊢
  split at h
  ·rename_i hc
   rw[if_pos hc]
   simp only[Bool.and_eq_true,decide_eq_true_eq] at hc
   exact .three h0 h1 h3 hc.1.1.1 hc.1.1.2 hc.1.2 hc.2
  ·exact absurd rfl h
 by_cases h4:aa s 0/8=30
 ·have e:aA s=if bH s 1&&bH s 2&&bH s 3&&decide (65536<=uC s)&&gp (uC s) then(uC s,4) else(0,0):=by unfold aA;rw[if_neg h0,if_neg h1,if_neg h2,if_neg h3,if_pos h4]
  rw[e] at h ⊢
  split at h
  ·rename_i hc
   rw[if_pos hc]
   simp only[Bool.and_eq_true,decide_eq_true_eq] at hc
   exact .four h0 h1 h4 hc.1.1.1.1 hc.1.1.1.2 hc.1.1.2 hc.1.2 hc.2
  ·exact absurd rfl h
 ·exact absurd (by unfold aA;rw[if_neg h0,if_neg h1,if_neg h2,if_neg h3,if_neg h4]) h
theorem NL {s:List UInt8}{n:Nat}(h:Ft s n):(aA s).2=n:=by
 cases h with
 |one h0 h1=>unfold aA;rw[if_neg h0,if_pos h1]
 |two h0 h1 h2 c1 p m=>unfold aA;rw[if_neg h0,if_neg h1,if_pos h2,if_pos (by simp[c1,p,m])]
 |three h0 h1 h3 c1 c2 p m=>
  unfold aA;rw[if_neg h0,if_neg h1,if_neg (by omega),if_pos h3,if_pos (by simp[c1,c2,p,m])]
 |four h0 h1 h4 c1 c2 c3 p m=>
  unfold aA;rw[if_neg h0,if_neg h1,if_neg (by omega),if_neg (by omega),if_pos h4,if_pos (by simp[c1,c2,c3,p,m])]
theorem L9 {a b:List UInt8}{n:Nat}(h:Ft a n):Ft (a++b) n:=by
 have hl:a.length≠0->(a++b).length≠0:=λh=>by rw[List.length_append];omega
 cases h with
 |one h0 h1=>exact .one (hl h0) (by rwa [dK (by omega)])
 |two h0 h1 h2 c1 p m=>
  have e0:=dK (b:=b) (show 0<a.length by omega)
  have e1:=dK (b:=b) (eB c1).1
  have e:cp2 (a++b)=cp2 a:=by unfold cp2;rw[e0,e1]
  exact .two (hl h0) (by rwa [e0]) (by rwa [e0]) (jj c1) (by rwa [e]) (by rwa [e])
 |three h0 h1 h2 c1 c2 p m=>
  have e0:=dK (b:=b) (show 0<a.length by omega)
  have e:uD (a++b)=uD a:=by unfold uD;rw[e0,dK (eB c1).1,dK (eB c2).1]
  exact .three (hl h0) (by rwa [e0]) (by rwa [e0]) (jj c1) (jj c2) (by rwa [e]) (by rwa [e])
 |four h0 h1 h2 c1 c2 c3 p m=>
  have e0:=dK (b:=b) (show 0<a.length by omega)
  have e:uC (a++b)=uC a:=by unfold uC;rw[e0,dK (eB c1).1,dK (eB c2).1,dK (eB c3).1]
  exact .four (hl h0) (by rwa [e0]) (by rwa [e0]) (jj c1) (jj c2) (jj c3) (by rwa [e]) (by rwa [e])
theorem CL {a:List UInt8}{n:Nat}(h:Ft a n):0<n/\n<=a.length/\(n=1->aa a 0<128)/\(n≠1->∀k,k<n->128<=aa a k):=by
 cases h with
 |one h0 h1=>exact⟨by omega,by omega,λ_=>h1,λh=>absurd rfl h⟩
 |two h0 h1 h2 c1 p m=>
  have:=eB c1;exact⟨by omega,by omega,λh=>by omega,λ_ k hk=>by match k,hk with|0,_=>omega|1,_=>exact this.2⟩
 |three h0 h1 h2 c1 c2 p m=>
  have:=eB c1;have:=eB c2;exact⟨by omega,by omega,λh=>by omega,λ_ k hk=>by match k,hk with|0,_=>omega|1,_=>omega|2,_=>omega⟩
 |four h0 h1 h2 c1 c2 c3 p m=>
  have:=eB c1;have:=eB c2;have:=eB c3;exact⟨by omega,by omega,λh=>by omega,λ_ k hk=>by match k,hk with|0,_=>omega|1,_=>omega|2,_=>omega|3,_=>omega⟩
theorem JA {a:List UInt8}{n:Nat}(h:Ft a n):Ft (a.take n) n:=by
 have hle:=CL h;have hl:(a.take n).length=n:=by rw[List.length_take];omega
 have hb:∀k,k<n->aa (a.take n) k=aa a k:=λk hk=>by
  conv=>rhs;rw[<-List.take_append_drop n a]
  rw[dK (by omega)]
 have hc:∀k,k<n->bH a k=true->bH (a.take n) k=true:=λk hk h=>by
  unfold bH at h ⊢;rw[Bool.and_eq_true] at h;rw[hb k hk,h.2,hl,Bool.and_true,decide_eq_true_eq];exact hk
 cases h with
 |one h0 h1=>exact .one (by omega) (by rwa [hb 0 (by omega)])
 |two h0 h1 h2 c1 p m=>
  have e:cp2 (a.take 2)=cp2 a:=by unfold cp2;rw[hb 0 (by omega),hb 1 (by omega)]
  exact .two (by omega) (by rwa [hb 0 (by omega)]) (by rwa [hb 0 (by omega)]) (hc 1 (by omega) c1) (by rwa [e]) (by rwa [e])
 |three h0 h1 h2 c1 c2 p m=>
  have e:uD (a.take 3)=uD a:=by unfold uD;rw[hb 0 (by omega),hb 1 (by omega),hb 2 (by omega)]
  exact .three (by omega) (by rwa [hb 0 (by omega)]) (by rwa [hb 0 (by omega)]) (hc 1 (by omega) c1) (hc 2 (by omega) c2) (by rwa [e]) (by rwa [e])
 |four h0 h1 h2 c1 c2 c3 p m=>
  have e:uC (a.take 4)=uC a:=by unfold uC;rw[hb 0 (by omega),hb 1 (by omega),hb 2 (by omega),hb 3 (by omega)]
  exact .four (by omega) (by rwa [hb 0 (by omega)]) (by rwa [hb 0 (by omega)]) (hc 1 (by omega) c1) (hc 2 (by omega) c2) (hc 3 (by omega) c3) (by rwa [e]) (by rwa [e])
theorem FC {p:List UInt8->Prop}(h0:p [])(h1:∀a b:List UInt8,Ft a a.length->Vd b->p b->p (a++b)):∀s,Vd s->p s:=by
 intro s;induction hn:s.length using Nat.strongRecOn generalizing s with
 |_ n ih=>
  intro hv;by_cases hz:s.length=0
  ·rw[List.length_eq_zero_iff.1 hz];exact h0
  have hne:=Nr hz hv;have hx:=NM hne;have hle:=CL hx;have hd:=(Cc hz hne).1 hv;have:=h1 (s.take (aA s).2) (s.drop (aA s).2) (by rw[List.length_take,Nat.min_eq_left hle.2.1];exact JA hx) hd (ih _ (by rw[List.length_drop];omega) _ rfl hd);rwa [List.take_append_drop] at this
theorem uW {a b:List UInt8}(h:Ft a a.length)(hb:Vd b):Vd (a++b):=by
 have hx:=NL (L9 (b:=b) h);have hle:=CL h;refine(Cc (by rw[List.length_append];omega) (by omega)).2 ?_;rw[hx,List.drop_left];exact hb
theorem FD {a b:List UInt8}(ha:Vd a)(hb:Vd b):Vd (a++b):=by
 refine FC (p:=λa=>Vd (a++b)) hb (λx y hx _ ih=> ?_) a ha;rw[List.append_assoc];exact uW hx ih
theorem ql:∀{s:List UInt8},(∀c∈s,c.toNat<128)->Vd s
 |[],_=>FB
 |c::t,h=>uW (a:=[c]) (.one (by simp) (h c (List.mem_cons_self ..))) (ql λx hx=>h x (List.mem_cons_of_mem _ hx))
theorem BA {c:UInt8}(h:c.toNat<128):∀x∈escF c,x.toNat<128:=by
 unfold escF;intro x hx;split at hx
 ·simp only[List.mem_cons,List.not_mem_nil,or_false] at hx;rcases hx with rfl|rfl<;>decide
 split at hx
 ·simp only[List.mem_cons,List.not_mem_nil,or_false] at hx;rcases hx with rfl|rfl<;>decide
 split at hx
 ·simp only[List.mem_cons,List.not_mem_nil,or_false] at hx;rcases hx with rfl|rfl<;>decide
 split at hx
 ·simp only[List.mem_cons,List.not_mem_nil,or_false] at hx;rcases hx with rfl|rfl<;>decide
 ·simp only[List.mem_cons,List.not_mem_nil,or_false] at hx;rw[hx];exact h
theorem J3 {c:UInt8}(h:128<=c.toNat):escF c=[c]:=by
 unfold escF;rw[if_neg (λe=>by rw[e] at h;exact absurd h (by decide)),if_neg (λe=>by rw[e] at h;exact absurd h (by decide)),if_neg (λe=>by rw[e] at h;exact absurd h (by decide)),if_neg (λe=>by rw[e] at h;exact absurd h (by decide))]
theorem Di:∀{s:List UInt8},(∀c∈s,128<=c.toNat)->escS s=s
 |[],_=>rfl
 |c::t,h=>by
  have ih:=Di (s:=t) λx hx=>h x (List.mem_cons_of_mem _ hx);unfold escS at ih ⊢;rw[List.flatMap_cons,ih,J3 (h c (List.mem_cons_self ..))];rfl
theorem Lk {s:List UInt8}(h:Vd s):Vd (escS s):=by
 refine FC (p:=λs=>Vd (escS s)) FB (λa b ha _ ih=> ?_) s h;have e:escS (a++b)=escS a++escS b:=by unfold escS;exact List.flatMap_append
 rw[e];have hle:=CL ha;have hmem:∀c∈a,∃k,k<a.length/\c.toNat=aa a k:=λc hc=>by
  obtain⟨i,hi,rfl⟩:=List.getElem_of_mem hc;exact⟨i,hi,by unfold aa;rw[List.getD_eq_getElem?_getD,List.getElem?_eq_getElem hi];rfl⟩
 by_cases h1:a.length=1
 ·refine FD (ql λx hx=> ?_) ih;unfold escS at hx;obtain⟨c,hc,hx⟩:=List.mem_flatMap.1 hx;obtain⟨k,hk,e⟩:=hmem c hc;have:=hle.2.2.1 h1;rw[show k=0 by omega] at e;exact BA (by omega) x hx
 ·rw[Di λc hc=>by
   obtain⟨k,hk,e⟩:=hmem c hc;rw[e];exact hle.2.2.2 h1 k hk]
  exact uW ha ih
theorem ly {b:Bool}{s:List UInt8}:dR b s=true↔Vd s/\∀c∈s,lR b (c.toNat:Int)=false:=by
 unfold dR;rw[decide_eq_true_eq];refine and_congr ?_ ?_
 ·unfold fp Vd;cases gt s with
  |none=>simp
  |some i=>simp
 ·rcases jM (lR b) s with⟨h1,h2⟩|⟨m,h1,h2,h3,_⟩
  ·refine⟨λ_ c hc=> ?_,λ_=>by omega⟩;obtain⟨i,hi,rfl⟩:=List.getElem_of_mem hc;have:=h2 i hi;unfold aa at this;rwa [List.getD_eq_getElem?_getD,List.getElem?_eq_getElem hi] at this
  ·refine⟨λh=>by omega,λh=> ?_⟩;have:=h s[m] (List.getElem_mem h1);unfold aa at h3;rw[List.getD_eq_getElem?_getD,List.getElem?_eq_getElem h1] at h3;rw[Option.getD_some,this] at h3;cases h3
theorem NS {b:Bool}{c:Nat}(h1:32<=c)(h2:c≠127):lR b (c:Int)=false:=by
 unfold lR;rw[decide_eq_false_iff_not];omega
def Gd (s:List UInt8):Prop:=∀c∈s,32<=c.toNat/\c.toNat<127
theorem gd:Gd []:=λc h=>by cases h
theorem cF {a b:List UInt8}(ha:Gd a)(hb:Gd b):Gd (a++b):=λc h=>(List.mem_append.1 h).elim (ha c) (hb c)
theorem ny {s:List UInt8}(h:Gd s):dR false s=true:=ly.2 ⟨ql λc hc=>by have:=h c hc;omega,λc hc=>by have:=h c hc;exact NS (by omega) (by omega)⟩
theorem za {vs:List Int}(h:∀v∈vs,32<=v/\v<127):Gd (bw vs):=λc hc=>by
 unfold bw at hc;obtain⟨v,hv,rfl⟩:=List.mem_map.1 hc;have:=h v hv;rw[UInt8.toNat_ofNat'];omega
theorem dj {n:Int}(h0:0<=n)(h1:n<=99):Gd (cg n):=by
 refine za λv hv=> ?_;simp only[List.mem_cons,List.not_mem_nil,or_false] at hv;rcases hv with rfl|rfl<;>omega
theorem wf {n:Int}(h0:0<=n)(h1:n<=9999):Gd (fQ n):=by
 refine za λv hv=> ?_;simp only[List.mem_cons,List.not_mem_nil,or_false] at hv;rcases hv with rfl|rfl|rfl|rfl<;>omega
theorem eF {s:List UInt8}(h:s.all (λc=>decide (32<=c.toNat/\c.toNat<127))=true):Gd s:=λc hc=>of_decide_eq_true (List.all_eq_true.1 h c hc)
theorem Bn (n:Int):Gd (fY n)/\(fY n).length<=10:=by
 unfold fY;cases hz:sC n with
 |false=>exact⟨gd,Nat.zero_le _⟩
 |true=>
  have hb:=wW.1 hz
  rw[if_pos rfl]
  split
  ·exact⟨eF rfl,by decide⟩
  split
  ·exact⟨cF (cF (eF rfl) (dj (by omega) (by omega))) (dj (by omega) (by omega)),by simp[cg,bw]⟩
  ·exact⟨cF (cF (eF rfl) (dj (by omega) (by omega))) (dj (by omega) (by omega)),by simp[cg,bw]⟩
theorem JX {a b c:Bool}{y m d:Int}(hy:a=true->0<=y/\y<=9999)(hm:b=true->0<=m/\m<=99)(hd:c=true->0<=d/\d<=99):Gd (kT a b c y m d)/\(kT a b c y m d).length<=20:=by
 cases a<;>cases b<;>cases c<;>simp only[kT]<;>refine⟨?_,by simp[fQ,cg,bw]⟩
 ·exact gd
 ·exact cF (eF rfl) (dj (hd rfl).1 (hd rfl).2)
 ·exact cF (eF rfl) (dj (hm rfl).1 (hm rfl).2)
 ·exact cF (cF (eF rfl) (dj (hm rfl).1 (hm rfl).2)) (dj (hd rfl).1 (hd rfl).2)
 ·exact wf (hy rfl).1 (hy rfl).2
 ·exact gd
 ·exact cF (cF (wf (hy rfl).1 (hy rfl).2) (eF rfl)) (dj (hm rfl).1 (hm rfl).2)
 ·exact cF (cF (wf (hy rfl).1 (hy rfl).2) (dj (hm rfl).1 (hm rfl).2)) (dj (hd rfl).1 (hd rfl).2)
theorem JV {a b c:Bool}{y m d:Int}(hy:a=true->0<=y/\y<=99)(hm:b=true->0<=m/\m<=99)(hd:c=true->0<=d/\d<=99):Gd (jT a b c y m d)/\(jT a b c y m d).length<=20:=by
 cases a<;>cases b<;>cases c<;>simp only[jT]<;>refine⟨?_,by simp[cg,bw]⟩
 ·exact gd
 ·exact cF (eF rfl) (dj (hd rfl).1 (hd rfl).2)
 ·exact cF (eF rfl) (dj (hm rfl).1 (hm rfl).2)
 ·exact cF (cF (eF rfl) (dj (hm rfl).1 (hm rfl).2)) (dj (hd rfl).1 (hd rfl).2)
 ·exact cF (eF rfl) (dj (hy rfl).1 (hy rfl).2)
 ·exact gd
 ·exact cF (cF (eF rfl) (dj (hy rfl).1 (hy rfl).2)) (dj (hm rfl).1 (hm rfl).2)
 ·exact cF (cF (cF (eF rfl) (dj (hy rfl).1 (hy rfl).2)) (dj (hm rfl).1 (hm rfl).2)) (dj (hd rfl).1 (hd rfl).2)
theorem Hx (t:Stm):Gd t.T/\t.T.length<=60:=by
 unfold Stm.T;split
 ·split
  ·rename_i _ h;unfold Stm.rng at h;simp only[Bool.and_eq_true,qk,jS] at h;obtain⟨h1,h2,h3,h4,h5,h6,_⟩:=h;have hday:t.day<=31:=by
    unfold Stm.day pL
    (repeat' split)<;>omega
   have d1:=JX (a:=ar t.y) (b:=ar t.m) (c:=ar t.d) (y:=t.y) (m:=t.m) (d:=t.d) (λh=>by rw[jS] at h;omega) (λh=>by rw[jS] at h;omega) (λh=>by rw[jS] at h;omega);have d2:=JV (a:=ar t.h) (b:=ar t.i) (c:=ar t.s) (y:=t.h) (m:=t.i) (d:=t.s) (λh=>by rw[jS] at h;omega) (λh=>by rw[jS] at h;omega) (λh=>by rw[jS] at h;omega);have d3:Gd (if t.z then fY t.o else[])/\(if t.z then fY t.o else[]).length<=10:=by
    split
    ·exact Bn _
    ·exact⟨gd,Nat.zero_le _⟩
   unfold Stm.txt;refine⟨cF (cF d1.1 d2.1) d3.1,?_⟩;rw[List.length_append,List.length_append];omega
  ·exact⟨gd,Nat.zero_le _⟩
 ·exact⟨gd,Nat.zero_le _⟩
theorem Ms {s:List UInt8}(h:fZ s= .none):Gd s:=by
 unfold fZ at h;split at h
 ·cases h
 split at h
 ·cases h
 rename_i h2;rcases jM dI s with⟨_,g⟩|⟨m,g1,g2,_⟩
 ·intro c hc;obtain⟨i,hi,rfl⟩:=List.getElem_of_mem hc;have:=rh.1 (g i hi);unfold aa at this;rw[List.getD_eq_getElem?_getD,List.getElem?_eq_getElem hi,Option.getD_some] at this;omega
 ·omega
theorem b_none {x:Err}(h:x.b= .none):x= .none:=by
 cases x with
 |none=>rfl
 |errno e=>cases h
 | «at» e p=>cases h
theorem Hy {f:Bool}{a:Nat}{x:List UInt8}(h:(cQ f a x).isNone=true):Gd x:=by
 unfold cQ at h;split at h
 ·cases h
 rename_i h2;rcases jM (λc=> !pX f c) x with⟨_,g⟩|⟨m,g1,g2,_⟩
 ·intro c hc;obtain⟨i,hi,rfl⟩:=List.getElem_of_mem hc;have:=g i hi;simp only[Bool.not_eq_false',pX,Bool.and_eq_true] at this;have:=(oD).1 this.1;unfold aa at this;rw[List.getD_eq_getElem?_getD,List.getElem?_eq_getElem hi,Option.getD_some] at this;omega
 ·omega
theorem y9:∀{l:List (List UInt8)} {f:Bool} {a:Nat},dp f a l= .none->∀x∈l,Gd x
 |[],_,_,_,x,h=>by cases h
 |y::l,f,a,h,x,hx=>by
  simp only[dp] at h;split at h
  ·rename_i hp;rcases List.mem_cons.1 hx with rfl|hx
   ·exact Hy hp
   ·exact y9 h x hx
  ·rename_i hp;rw[h] at hp;exact absurd rfl hp
theorem we {c:UInt8}(h0:32<=c.toNat/\c.toNat<127):∀{s:List UInt8},(∀x∈bq c s,Gd x)->Gd s
 |[],_=>gd
 |y::t,h=>by
  have h2:Gd t/\(32<=y.toNat/\y.toNat<127):=by
   by_cases hy:y=c
   ·rw[bq,if_pos hy] at h;exact⟨we h0 λx hx=>h x (List.mem_cons_of_mem _ hx),by rw[hy];exact h0⟩
   ·rw[bq,if_neg hy] at h;cases h1:bq c t with
    |nil=>
     rw[h1] at h;exact⟨we h0 λx hx=>(by rw[h1] at hx;cases hx),h [y] (List.mem_cons_self ..) y (List.mem_cons_self ..)⟩
    |cons p r=>
     rw[h1] at h;have g:=h (y::p) (List.mem_cons_self ..);refine⟨we h0 λx hx=> ?_,g y (List.mem_cons_self ..)⟩;rw[h1] at hx;rcases List.mem_cons.1 hx with rfl|hx
     ·exact λc hc=>g c (List.mem_cons_of_mem _ hc)
     ·exact h x (List.mem_cons_of_mem _ hx)
  exact λx hx=>by
   rcases List.mem_cons.1 hx with rfl|hx
   ·exact h2.2
   ·exact h2.1 x hx
theorem JW {s:List UInt8}(h:bM s= .none):Gd s:=we (c:=45) (by decide) (y9 h)
theorem Hr {s:List UInt8}(h:dR true s=true):dR false (escS s)=true:=by
 obtain⟨h1,h2⟩:=ly.1 h
 refine ly.2 ⟨Lk h1,λc hc=> ?_⟩;unfold escS at hc;obtain⟨x,hx,hc⟩:=List.mem_flatMap.1 hc;have hx:=h2 x hx;unfold lR at hx ⊢;rw[decide_eq_false_iff_not] at hx ⊢;by_cases e0:x=10
 ·rw[e0] at hc;simp only[escF] at hc;have hc:c∈([92,110]:List UInt8):=hc;simp only[List.mem_cons,List.not_mem_nil,or_false] at hc;rcases hc with rfl|rfl<;>decide
 have e10:x.toNat≠10:=λh=>e0 (UInt8.toNat_inj.1 h);unfold escF at hc;split at hc
 ·simp only[List.mem_cons,List.not_mem_nil,or_false] at hc;rcases hc with rfl|rfl<;>decide
 split at hc
 ·simp only[List.mem_cons,List.not_mem_nil,or_false] at hc;rcases hc with rfl|rfl<;>decide
 split at hc
 ·simp only[List.mem_cons,List.not_mem_nil,or_false] at hc;rcases hc with rfl|rfl<;>decide
 ·simp only[List.mem_cons,List.not_mem_nil,or_false] at hc;rw[hc]
  omega
theorem Bk {a b:List UInt8}(ha:dR false a=true)(hb:dR false b=true):dR false (a++b)=true:=by
 obtain⟨h1,h2⟩:=ly.1 ha;obtain⟨h3,h4⟩:=ly.1 hb;exact ly.2 ⟨FD h1 h3,λc hc=>(List.mem_append.1 hc).elim (h2 c) (h4 c)⟩
theorem C3 {sep:List UInt8}(hs:dR false sep=true):∀{l:List (List UInt8)},(∀x∈l,dR false x=true)->dR false (Lib.joinTail sep l)=true
 |[],_=>ny gd
 |x::l,h=>by
  rw[show Lib.joinTail sep (x::l)=(sep++x)++Lib.joinTail sep l by simp[Lib.joinTail]];exact Bk (Bk hs (h x (List.mem_cons_self ..))) (C3 hs λy hy=>h y (List.mem_cons_of_mem _ hy))
theorem C4 {sep:List UInt8}(hs:dR false sep=true){l:List (List UInt8)}(h:∀x∈l,dR false x=true):dR false (Lib.join l sep)=true:=by
 cases l with
 |nil=>rw[Lib.join_nil];exact ny gd
 |cons x l=>rw[Lib.join_cons];exact Bk (h x (List.mem_cons_self ..)) (C3 hs λy hy=>h y (List.mem_cons_of_mem _ hy))
theorem Hq {t:Int}{L:List (List (List UInt8))}(h:pF t L= .none):dR false (eC L)=true:=by
 unfold pF at h
 split at h
 ·cases h
 split at h
 ·cases h
 split at h
 ·rename_i h1 h2 h3
  unfold eC
  rw[if_neg h2]
  refine C4 (ny (eF rfl)) λx hx=> ?_
  obtain⟨l,hl,rfl⟩:=List.mem_map.1 hx
  unfold joinT
  refine C4 (ny (eF rfl)) λy hy=> ?_
  obtain⟨z,hz,rfl⟩:=List.mem_map.1 hy
  unfold Hs at h3
  exact Hr (List.all_eq_true.1 (List.all_eq_true.1 h3 l hl) z hz)
 ·cases h
theorem Vl.T_hd (v:Vl):dR false v.T=true:=by
 unfold Vl.T;split
 ·rename_i h;unfold Vl.E at h;split at h
  ·cases h
  split
  ·rename_i h1;rw[if_neg (by omega),if_neg (by omega),if_neg (by omega),if_neg (by omega),if_neg (by omega)] at h;split at h
   ·rename_i g;rw[decide_eq_true h1] at g;exact Hr g
   ·cases h
  split
  ·rename_i h1 h2;rw[if_pos h2] at h;exact Hq h
  split
  ·exact ny (Hx _).1
  split
  ·exact ny (Bn _).1
  ·rename_i h1 h2 h5 h6;rw[if_neg h2] at h;by_cases h4:v.t=4
   ·rw[if_pos h4] at h;exact ny (Ms (b_none h))
   rw[if_neg h4,if_neg h5,if_neg h6] at h;by_cases h7:v.t=7
   ·rw[if_pos h7] at h;exact ny (JW (b_none h))
   rw[if_neg h7] at h;split at h
   ·rename_i g;rw[decide_eq_false h1] at g;exact g
   ·cases h
 ·exact ny gd
theorem Vl.T_len {v:Vl}(hs:v.s.length<=2000000)(hL:Small v.L):v.T.length<=140737488355328:=by
 unfold Vl.T;split
 ·split
  ·have:=(nF v.s).2;omega
  split
  ·unfold eC;split
   ·exact Nat.zero_le _
   ·refine rA (M:=6000000) (λx hx=> ?_) (by rw[List.length_map];exact hL.n) (Nat.le_refl _);obtain⟨l,hl,rfl⟩:=List.mem_map.1 hx;obtain⟨i,hi,rfl⟩:=List.getElem_of_mem hl;have h1:=hL.k i;rw[List.getD_eq_getElem?_getD,List.getElem?_eq_getElem hi,Option.getD_some] at h1;have:=lw v.L[i];omega
  split
  ·have:=(Hx v.st).2;omega
  split
  ·have:=(Bn v.n).2;omega
  ·omega
 ·exact Nat.zero_le _
end
section
structure Pr where
 n:List UInt8
 vs:List (List UInt8)
def Pr.z:Pr:=⟨[],[]⟩
instance:Inhabited Pr:=⟨Pr.z⟩
structure Ln where
 g:List UInt8
 n:List UInt8
 ps:List Pr
 v:List UInt8
def dM (ps:List Pr)(i:Nat):AVal:=.agg [.str (ps.getD i Pr.z).n,.list 1 (ps.getD i Pr.z).vs.length (aE (ps.getD i Pr.z).vs)]
def Ln.A (p:Ln):AVal:=.agg [.str p.g,.str p.n,.list 2 p.ps.length (dM p.ps),.str p.v]
structure Ln.OK (N:Nat) (p:Ln):Prop where
 g:p.g.length<=N
 n:p.n.length<=N
 v:p.v.length<=N
 ps:p.ps.length<=N
 q:∀k,(p.ps.getD k Pr.z).n.length<=1100000/\(p.ps.getD k Pr.z).vs.length<=N/\Lib.lens (p.ps.getD k Pr.z).vs<=N
structure Ln.Fit (p:Ln):Prop where
 g:p.g.length<=10000
 n:p.n.length<=10000
 v:p.v.length<=140737488355328
 ps:p.ps.length<=10000
 q:∀k,(p.ps.getD k Pr.z).n.length<=1100000/\(p.ps.getD k Pr.z).vs.length<=10000/\Lib.lens (p.ps.getD k Pr.z).vs<=10000
theorem Ln.OK.fit {p:Ln}(h:p.OK 10000):p.Fit:=⟨h.g,h.n,by have:=h.v;omega,h.ps,h.q⟩
theorem Ln.OK.mono {N M:Nat}(hN:N<=M){p:Ln}(h:p.OK N):p.OK M:=⟨Nat.le_trans h.g hN,Nat.le_trans h.n hN,Nat.le_trans h.v hN,Nat.le_trans h.ps hN,λk=>⟨(h.q k).1,Nat.le_trans (h.q k).2.1 hN,Nat.le_trans (h.q k).2.2 hN⟩⟩
theorem dl {p:Nat->Prop}{k:Nat}(h:∀j,j<k->p j)(hk:p k):∀j,j<k+1->p j:=λj hj=>by
 rcases Nat.lt_or_ge j k with g|g
 ·exact h j g
 ·rw[show j=k by omega];exact hk
end
section
abbrev Itm:=Ln×Vl
def Itm.z:Itm:=(⟨[],[],[],[]⟩,⟨0,[],[],⟨0,0,0,0,0,0,false,0⟩,0⟩)
instance:Inhabited Itm:=⟨Itm.z⟩
abbrev bR (x:Itm):List AVal:=[.str x.1.g,.str x.1.n,.list 2 x.1.ps.length (dM x.1.ps),.int .i64 x.2.t,.str x.2.s,.list 1 x.2.L.length (bF x.2.L),.int .i64 x.2.st.y,.int .i64 x.2.st.m,.int .i64 x.2.st.d,.int .i64 x.2.st.h,.int .i64 x.2.st.i,.int .i64 x.2.st.s,.bool x.2.st.z,.int .i64 x.2.st.o,.int .i64 x.2.n]
def ij (x:Itm):AVal:=.agg (bR x)
def Hh (l:List Itm)(i:Nat):AVal:=ij (l.getD i Itm.z)
structure wV where
 v:Int
 l:List Itm
def wV.A (c:wV):AVal:=.agg [.int .i64 c.v,.list 15 c.l.length (Hh c.l)]
def Itm.p (x:Itm):Ln:=⟨x.1.g,x.1.n,x.1.ps,[]⟩
structure Itm.OK (N:Nat) (x:Itm):Prop where
 p:x.p.OK N
 s:x.2.s.length<=N
 L:Small x.2.L
theorem Itm.OK.mono {N M:Nat}(hN:N<=M){x:Itm}(h:x.OK N):x.OK M:=⟨h.p.mono hN,Nat.le_trans h.s hN,h.L⟩
def wV.fine (c:wV):Prop:=c.l.length<=70/\∀x∈c.l,Itm.OK 2500 x
theorem Hi {p:Itm->Prop}{l:List Itm}(h:∀x∈l,p x){k:Nat}(hk:k<l.length):p (l.getD k Itm.z):=by
 rw[List.getD_eq_getElem?_getD,List.getElem?_eq_getElem hk];exact h _ (List.getElem_mem hk)
theorem JO {p:Itm->Prop}{l:List Itm}(h:∀k,k<l.length->p (l.getD k Itm.z)):∀x∈l,p x:=by
 intro x hx;obtain⟨i,hi,rfl⟩:=List.getElem_of_mem hx;have:=h i hi;rwa [List.getD_eq_getElem?_getD,List.getElem?_eq_getElem hi] at this
end
section
attribute [local irreducible] bI ap aa az aW ab ad
theorem xy {G:Glo}{m:Int}(hU:ab G (cw m))(s:List UInt8)(c:UInt8)(hl:s.length<100000):an prog G 138 [.str s,.str [c]] (.tuple [.str (Lib.cut s [c]).1,.str (Lib.cut s [c]).2.1,.bool (Lib.cut s [c]).2.2]):=by
 refine gg (.tuple #[.string ⟨(Lib.cut s [c]).1.toArray⟩,.string ⟨(Lib.cut s [c]).2.1.toArray⟩,.bool (Lib.cut s [c]).2.2]) (λR=>Gl (aF.2 rfl) (aF.2 rfl) (aN.2 rfl)) call138 ?_;rintro R args ⟨x,t,e,hx,y,t',e',hy,rfl⟩ w hG hs;obtain rfl:=aF.1 hx;obtain rfl:=aF.1 hy;subst e';obtain rfl:=dN e;refine(strings_Cut ⟨s.toArray⟩ ⟨#[c]⟩ m w (by rw[bT];omega) (rk hU hG hs)).mono ?_;rintro e w' ⟨rfl,k,rfl⟩;exact⟨by simp,⟨rfl,rfl,rfl,Nat.le_refl _,λ_ _=>rfl⟩⟩
theorem strconv_Itoa {G:Glo}(hP:ew G)(n:Nat)(hn:n≤9223372036854775807):an prog G 125 [.int .i64 (n:Int)] (.str (Lib.decDigits n)):=by
 refine cj rfl call125 ?_
 rintro R args ⟨x,t,e,hx,rfl⟩ w hG hs
 obtain rfl:=am.1 hx
 obtain rfl:=dN e
 have ht:Lib.TabIs prog w "internal/strconv.uint64pow10" .u64 Lib.pow10Tab:=by
  obtain⟨e,fz,hR⟩:=hP R hG
  have hg:prog.globalNamed "internal/strconv.uint64pow10" =some 10:=by kernel_rfl
  show w.var? prog "internal/strconv.uint64pow10" =_
  simp only[World.var?,hg,Option.bind_some,hs _ _ hR]
 refine(Tryz.strconv_Itoa n (by omega) (by omega) w ht).mono ?_
 rintro e w' ⟨rfl,k,os,rfl⟩
 refine⟨?_,⟨rfl,rfl,rfl,?_,fun b hb=> ?_⟩⟩
 ·have:Lib.itoa (n:Int)=Lib.decDigits n:=by unfold Lib.itoa;rw[if_neg (by omega)];rfl
  rw[this]
  rfl
 ·show w.heap.size≤(w.heap++os).size
  rw[Array.size_append];omega
 ·show(w.heap++os)[b]? =w.heap[b]?
  rw[Array.getElem?_append_left hb]
end
section
def H9:AVal->Option Value
 |.own _ v=>some v
 |.raw v=>some v
 |.int k n=>some (.int k n)
 |.bool b=>some (.bool b)
 |_=>none
def rV:List AVal->Option (List Value)
 |[]=>some []
 |a::t=>match H9 a,rV t with
  |some v,some r=>some (v::r)
  |_,_=>none
theorem Kb {R:Seal}{a:AVal}{v x:Value}(h:H9 a=some v)(hr:bD R a x):x=v:=by
 cases a<;>simp only[H9,Option.some.injEq,reduceCtorEq] at h<;>subst h
 ·exact aN.1 hr
 ·exact am.1 hr
 ·exact al.1 hr
 ·exact(aQ.1 hr).1
theorem nI {R:Seal}:∀{l:List AVal} {vs xs:List Value},rV l=some vs->cJ R l xs->xs=vs
 |[],vs,xs,h,hr=>by
  simp only[rV,Option.some.injEq] at h;subst h;simpa[cJ] using hr
 |a::t,vs,xs,h,hr=>by
  simp only[rV] at h;split at h
  ·rename_i v r hv ht;simp only[Option.some.injEq] at h
   subst h
   obtain⟨x,ys,rfl,h1,h2⟩:=hr
   rw[Kb hv h1,nI ht h2]
  ·cases h
def HU (env:Env)(fv:Operand)(args:List Operand):Option Deferred:=
 match ae env fv with
 |some (.func (.func f) l1 l2)=>match rV l1,fV env args,rV l2 with
  |some x1,some avs,some x2=>match rV avs with
   |some xs=>some {target:=.fn (.func f) x2.toArray,args:=(x1++xs).toArray}
   |none=>none
  |_,_,_=>none
 |_=>none
theorem xi {P:Program}{o:Oper}{a:Act}{next next':Act->World->Prop}{Q Q':Exit->Act->World->Prop}{r:Result Next}(hn:∀a w,next a w->next' a w)
  (hp:∀ch a w,Q (.panic ch) a w->Q' (.panic ch) a w) (ho:LetsOut Q->LetsOut Q') (hh:o.upon P a next Q r):o.upon P a next' Q' r:=by
 cases r with
 |ok n w'=>
  cases n<;>simp only[Oper.upon] at hh ⊢ <;>
   first
    |exact hn _ _ hh
    |exact Calls.mono hh (λe w'' he=>by cases e<;>first|exact hn _ _ he|exact hp _ _ _ he|exact ho he)
    |exact Rows.mono hh (λ_ _ he=>hn _ _ he)
 |halt x w'=>cases x<;>simp only[Oper.upon] at hh ⊢ <;>exact hp _ _ _ hh
def FR (P:Program)(ops:Array Oper)(l:List Oper)(Q:Exit->Act->World->Prop):Exit->Act->World->Prop
 |.normal,a,w=>wpList P ops Q l a w
 |e,a,w=>Q e a w
theorem mq {P:Program}{ops:Array Oper}{l:List Oper}{Q:Exit->Act->World->Prop}:∀{pre:List Oper} {a:Act} {w:World},wpList P ops (FR P ops l Q) pre a w->wpList P ops Q (pre++l) a w
 |[],a,w,h=>h
 |o::pre,a,w,h=>by
  simp only[List.cons_append,wpList] at h ⊢;split
  ·rename_i hw;rw[if_pos hw] at h;rcases h with h|⟨h1,h2⟩
   ·exact .inl (xi (λ_ _=>mq) (λ_ _ _=>id) (λ⟨a,w,q⟩=>⟨a,w,q⟩) h)
   ·exact .inr ⟨h1,h2⟩
  ·rename_i hw
   rw[if_neg hw] at h
   exact mq h
def withD (C:Ctx)(D:List Deferred):Ctx:=⟨C.w0,C.R0,C.B0,C.G,C.hG,D⟩
theorem MS.withD {C:Ctx}{R:Seal}{H:Heap}{w:World}(h:MS C R H w)(D:List Deferred):MS (withD C D) R H w:=⟨h.sealed,h.ge,h.fresh,h.heap,h.own,h.ext⟩
theorem MS.ofD {C:Ctx}{R:Seal}{H:Heap}{w:World}{D:List Deferred}(h:MS (Proofs.YtmdhmodenkjmdaaGreatDoor.withD C D) R H w):MS C R H w:=⟨h.sealed,h.ge,h.fresh,h.heap,h.own,h.ext⟩
def IM (C:Ctx)(n:Nat)(Q:List Deferred->aK->Env->Heap->Prop)(e:Exit)(a:Act)(w:World):Prop:=
 ∃D x env H R,Q D x env H/\aG R x e/\MS C R H w/\FS D n R env a
def fC (P:Program)(C:Ctx)(n:Nat)(c:Code)(env:Env)(H:Heap)(Q:List Deferred->aK->Env->Heap->Prop):Prop:=
 ∀R a w,MS C R H w->FS C.D n R env a->c.wp P (IM C n Q) a w
section
variable {P:Program} {C:Ctx} {n:Nat} {env:Env} {H:Heap} {Q:List Deferred->aK->Env->Heap->Prop} {G:Glo} {GL:List (Nat×List AVal)}
theorem Is {c:Code}(h:bI P C n c env H (Q C.D)):fC P C n c env H Q:=
 λR a w hm hf=>wp_mono (h R a w hm hf) λ_ _ _ ⟨x,en,H',R',q,r⟩=>⟨C.D,x,en,H',R',q,r⟩
theorem nN [Tab P](hC:C.G=G)(hGL:ab G GL){c:Code}(h:eQ P C n G GL c env H (Q C.D)):fC P C n c env H Q:=Is (co hC hGL _ _ _ _ h)
def Ny (K:List Deferred->Env->Heap->Prop)(Q:List Deferred->aK->Env->Heap->Prop):List Deferred->aK->Env->Heap->Prop
 |D,.normal,e,h=>K D e h
 |D,x,e,h=>Q D x e h
theorem lL {x y:Code}(h:fC P C n x env H (Ny (λD e h=>fC P (withD C D) n y e h Q) Q)):fC P C n (.seq x y) env H Q:=by
 intro R a w hm hf;refine wp_seq (wp_mono (h R a w hm hf) ?_);rintro e a' w' ⟨D,x,en,H',R',q,er,hm',hf'⟩;cases x with
 |normal=>
  simp only[aG] at er;subst er;exact wp_mono (q R' a' w' (hm'.withD D) hf') λ_ _ _ ⟨D2,x,en,H',R',q,er,hm2,hf2⟩=>⟨D2,x,en,H',R',q,er,hm2.ofD,hf2⟩
 |exit i=>simp only[aG] at er;subst er;exact⟨D,.exit i,en,H',R',q,rfl,hm',hf'⟩
 |goto i=>simp only[aG] at er;subst er;exact⟨D,.goto i,en,H',R',q,rfl,hm',hf'⟩
 |ret=>simp only[aG] at er;subst er;exact⟨D,.ret,en,H',R',q,rfl,hm',hf'⟩
 |panic v=>obtain⟨y,rfl,hr⟩:=er;exact⟨D,.panic v,en,H',R',q,⟨y,rfl,hr⟩,hm',hf'⟩
theorem It {c:Operand}{x y:Code}{b:Bool}(hc:ae env c=some (.bool b))(ht:b=true->fC P C n x env H Q)(hf:b=false->fC P C n y env H Q):fC P C n (.cond c x y) env H Q:=by
 intro R a w hm hfs;refine wp_cond (aN.1 (hfs.eval hc)) ?_;cases b with
 |true=>exact ht rfl R a w hm hfs
 |false=>exact hf rfl R a w hm hfs
structure Df (d:Option Deferred) (K:Deferred->Prop):Prop where
 h:∃x,d=some x/\K x
def ML (C:Ctx)(fv:Operand)(args:List Operand)(Q:List Deferred->aK->Env->Heap->Prop):aK->Env->Heap->Prop
 |.normal,e,h=>Df (HU e fv args) λd=>Q (d::C.D) .normal e h
 |x,e,h=>Q C.D x e h
theorem uP [Tab P]{id:Nat}{ops:Array Oper}{fv:Operand}{args:Array Operand}{ts:Array TypeId}{ty:TypeId}{pos:String}{af:Array Edge}(hC:C.G=G)(hGL:ab G GL)
  (hl:ops.toList=ops.toList.dropLast++[{dst:=none,op:=.defer {callee:=.value fv,args:=args,argTypes:=ts},type:=ty,pos:=pos,after:=af,guard:=none}])
  (h:fO P C n G GL ops (ML C fv args.toList Q) ops.toList.dropLast env H):fC P C n (.region id ops false) env H Q:=by
 intro R a w hm hf;refine wp_region_list ?_;rw[hl];refine mq ?_;have h1:=bJ (C:=C) hC hGL _ _ _ h R a w hm hf;have key:∀{l:List Oper} {a w},wpList P ops (gW C n (ML C fv args.toList Q)) l a w->wpList P ops (FR P ops [{dst:=none,op:=.defer {callee:=.value fv,args:=args,argTypes:=ts},type:=ty,pos:=pos,after:=af,guard:=none}] (IM C n Q)) l a w:=by
  have hq:∀e a w,gW C n (ML C fv args.toList Q) e a w->FR P ops [{dst:=none,op:=.defer {callee:=.value fv,args:=args,argTypes:=ts},type:=ty,pos:=pos,after:=af,guard:=none}] (IM C n Q) e a w:=by
   rintro e a' w' ⟨x,en,H',R',q,er,hm',hf'⟩;cases x with
   |normal=>
    simp only[aG] at er;subst er;obtain⟨d,hd,q⟩:=Df.h q;refine wpList_plain rfl λK hK=> ?_;have hrun:(execOp a'.eval {dst:=none,op:=.defer {callee:=.value fv,args:=args,argTypes:=ts},type:=ty,pos:=pos,after:=af,guard:=none:Oper}).run P w'= .ok (.defer d) w':=by
     unfold HU at hd;split at hd
     ·rename_i f l1 l2 hfv;split at hd
      ·rename_i x1 avs x2 h1 h2 h3;split at hd
       ·rename_i xs h4;simp only[Option.some.injEq] at hd;subst hd;obtain⟨⟨y1,y2,ey,r1,r2⟩,_⟩:=aR (hf'.eval hfv) rfl,trivial;simp only[List.cons.injEq,and_true] at ey;have e1:=nI h1 r1;have e2:=nI h3 r2;have e3:=nI h4 (eR (λx av h=>hf'.eval h) h2);have e3':(args.map a'.eval)=xs.toArray:=by
         apply Array.ext';simpa using e3
        have e1':y1=x1.toArray:=by apply Array.ext';simpa using e1
        have e2':y2=x2.toArray:=by apply Array.ext';simpa using e2
        simp only[execOp,resolve,ey,e3',e1',e2',Deferred.ofValue,Sem.run_bind,Sem.run_pure,Result.andThen_ok];simp
       ·cases hd
      ·cases hd
     ·cases hd
    rw[Oper.wp,hrun,Oper.upon_defer];refine hK _ _ (wpList_nil ⟨_,.normal,en,H',R',q,rfl,hm',?_⟩);exact⟨λk v x=>hf'.fr k v x,hf'.size,by show _::a'.defers=_;rw[hf'.defers]⟩
   |exit i=>simp only[aG] at er;subst er;exact⟨C.D,.exit i,en,H',R',q,rfl,hm',hf'⟩
   |goto i=>simp only[aG] at er;subst er;exact⟨C.D,.goto i,en,H',R',q,rfl,hm',hf'⟩
   |ret=>simp only[aG] at er;subst er;exact⟨C.D,.ret,en,H',R',q,rfl,hm',hf'⟩
   |panic v=>obtain⟨y,rfl,hr⟩:=er;exact⟨C.D,.panic v,en,H',R',q,⟨y,rfl,hr⟩,hm',hf'⟩
  intro l;induction l with
  |nil=>exact λ{a w} h=>hq _ _ _ h
  |cons o r ih=>
   intro a w h;simp only[wpList] at h ⊢;split
   ·rename_i hw;rw[if_pos hw] at h;rcases h with h|⟨h1,b,w2,x,en,H',R',q,er,_⟩
    ·exact .inl (xi (λ_ _=>ih) (λ_ _ _=>hq _ _ _) (λ⟨a,w,q⟩=>⟨a,w,hq _ _ _ q⟩) h)
    ·exact .inr ⟨h1,b,w2,hq _ _ _ ⟨x,en,H',R',q,er,by assumption⟩⟩
   ·rename_i hw;rw[if_neg hw] at h;exact ih h
 exact key h1
end
end
section
inductive fm where
 |ret
 |pan (v:AVal)
 |rcv (v:AVal)
def fI (R:Seal):fm->FrameMode->Prop
 |.ret,u=>u= .returning
 |.pan v,u=>∃x,u= .panicking [{v:=x,recovered:=false}]/\bD R v x
 |.rcv v,u=>∃x,u= .panicking [{v:=x,recovered:=true}]/\bD R v x
theorem fI.mono {R R':Seal}(h:R.le R'):∀{m:fm} {u:FrameMode},fI R m u->fI R' m u
 |.ret,_,x=>x
 |.pan _,_,⟨y,e,r⟩=>⟨y,e,gE h r⟩
 |.rcv _,_,⟨y,e,r⟩=>⟨y,e,gE h r⟩
def fm.settle:fm->fm
 |.ret=>.ret
 |.pan v=>.pan v
 |.rcv _=>.ret
theorem Az {R:Seal}:∀{m:fm} {u:FrameMode},fI R m u->fI R m.settle (Go.settle u)
 |.ret,_,rfl=>rfl
 |.pan _,_,⟨y,rfl,r⟩=>⟨y,rfl,r⟩
 |.rcv _,_,⟨y,rfl,_⟩=>rfl
theorem yJ {R:Seal}:∀{m:fm} {u:FrameMode},fI R m u->u≠ .run
 |.ret,_,rfl=>by simp
 |.pan _,_,⟨_,rfl,_⟩=>by simp
 |.rcv _,_,⟨_,rfl,_⟩=>by simp
def gZ (P:Program)(G:Glo)(f:FuncId)(avs:List AVal)(m:fm)(H:Heap)(Qd:cK->fm->Heap->Prop):Prop:=
 ∀R w args u (hG:G.p R),MS ⟨w,R,dk H,G,hG,[]⟩ R H w->cJ R avs args.toList->fI R m u->
  CallsD P f args u w λe u' w'=>∃res m' H' R',Qd res m' H'/\ei R' res e/\fI R' m' u'/\MS ⟨w,R,dk H,G,hG,[]⟩ R' H' w'
section
variable {P:Program} [Tab P] {G:Glo} {GL:List (Nat×List AVal)} {n:Nat} {H:Heap} {m:fm}
theorem B2 {R:Seal}{avs:List AVal}{args:Array Value}{n:Nat}(hlen:Nat.ble avs.length n=true)(ha:cJ R avs args.toList):
  FS [] n R (d8 0 avs) {tmps:=args++Array.replicate (n-args.size) undef,defers:=[]}:=by
 have hl:=ib ha;have hlen:=Nat.le_of_ble_eq_true hlen;simp only[Array.length_toList] at hl;refine⟨λk v hk=> ?_,?_,rfl⟩
 ·obtain⟨_,x,hx,hr⟩:=mP ha hk;refine⟨x,?_,hr⟩;simp only[Nat.sub_zero,Array.getElem?_toList] at hx;have:=Array.getElem?_eq_some_iff.1 hx;rw[Array.getElem?_append_left this.1];exact hx
 ·simp only[Array.size_append,Array.size_replicate];omega
theorem Dl {f:FuncId}{fn:Func}{c:Code}{avs:List AVal}{Qf:cK->Heap->Prop}{rs:List ResultVar}(hf:P.funcs[f]? =some fn)
  (hb:fn.body=some c) (hn:fn.ntmps=n) (hrs:fn.results=rs.toArray) (hlen:Nat.ble avs.length n=true) (hGL:ab G GL)
  (h:∀C:Ctx,C.G=G->eQ P C n G GL c (d8 0 avs) H (sA P rs Qf)):gZ P G f avs m H (λres m' H'=>m'=m/\Qf res H'):=by
 intro R w args u hG hm ha hu;have h1:=(co (C:=⟨w,R,dk H,G,hG,[]⟩) rfl hGL _ _ _ _ (h ⟨w,R,dk H,G,hG,[]⟩ rfl)).mono λ_ _ _ q=>ir q;have h2:c.wp P (bodyPost P fn (λe w'=>∃res H' R',Qf res H'/\ei R' res e/\R.le R'/\MS ⟨w,R,dk H,G,hG,[]⟩ R' H' w')) {tmps:=args++Array.replicate (fn.ntmps-args.size) undef,defers:=[]} w:=by
  subst hn;refine wp_mono (h1 R _ w hm (B2 hlen ha)) ?_;have hrs':fn.results.toList=rs:=by rw[hrs]
  rintro e a' w' ⟨x,env',H',R',q,er,hm',hf'⟩;cases x with
  |normal=>
   simp only[aG] at er;subst er;obtain⟨vs,H'',hv,hs,q⟩:=q;obtain⟨y,hy,hr⟩:=eO (fn:=fn) hm' hf' (by rw[hrs'];exact hv);exact⟨hf'.defers,y,hy,_,H'',R',q,⟨y,rfl,hr⟩,hm'.ge,hm'.drop hs⟩
  |ret=>
   simp only[aG] at er;subst er;obtain⟨vs,H'',hv,hs,q⟩:=q;obtain⟨y,hy,hr⟩:=eO (fn:=fn) hm' hf' (by rw[hrs'];exact hv);exact⟨hf'.defers,y,hy,_,H'',R',q,⟨y,rfl,hr⟩,hm'.ge,hm'.drop hs⟩
  |panic v=>
   obtain⟨y,rfl,hr⟩:=er;obtain⟨H'',hs,q⟩:=q;exact⟨hf'.defers,_,H'',R',q,⟨y,rfl,hr⟩,hm'.ge,hm'.drop hs⟩
  |exit i=>exact q.elim
  |goto i=>exact q.elim
 refine(callsD_of_wp (u:=u) hf hb h2).mono ?_;rintro e u' w' ⟨rfl,res,H',R',q,er,hle,hm'⟩;exact⟨res,m,H',R',⟨rfl,q⟩,er,hu.mono hle,hm'⟩
omit [Tab P] in
theorem HS {f:FuncId}{avs:List AVal}{H1:Heap}(H2:Heap){Qd:cK->fm->Heap->Prop}(h:gZ P G f avs m H1 Qd):gZ P G f avs m (H1++H2) (λr m' H'=>∃H1',Qd r m' H1'/\H'=H1'++H2):=by
 intro R w args u hG hm ha hu
 exact(h R w args u hG hm.enter ha hu).mono λe u' w' ⟨res,m',H',R',q,er,hu',hm'⟩=>⟨res,m',H'++H2,R',⟨H',q,rfl⟩,er,hu',MS.call hm hm'⟩
omit [Tab P] in
omit [Tab P] in
theorem J9 {f:FuncId}{avs:List AVal}{Qd Qd':cK->fm->Heap->Prop}(h:gZ P G f avs m H Qd)(hq:∀r m' H',Qd r m' H'->∃H'',H'.Perm H''/\Qd' r m' H''):gZ P G f avs m H Qd':=by
 intro R w args u hG hm ha hu;exact(h R w args u hG hm ha hu).mono λe u' w' ⟨res,m',H',R',q,er,hu',hm'⟩=>let ⟨H'',hp,q'⟩:=hq _ _ _ q;⟨res,m',H'',R',q',er,hu',hm'.perm hp⟩
omit [Tab P] in
omit [Tab P] in
theorem HR {f:FuncId}{avs:List AVal}{H1 H1':Heap}{r:cK}{m':fm}(H2:Heap)(hs:gZ P G f avs m H1 (λr2 m2 H2=>m2=m'/\r2=r/\H2=H1')):
  gZ P G f avs m (H1++H2) (λr2 m2 H'=>m2=m'/\r2=r/\H'=H1'++H2):=by
 refine J9 (HS H2 hs) ?_;rintro r2 m2 H' ⟨H3,⟨rfl,rfl,rfl⟩,rfl⟩;exact⟨_,List.Perm.refl _,rfl,rfl,rfl⟩
def Lv (P:Program)(G:Glo)(n:Nat)(rs:List ResultVar)(env:Env)(D:List Deferred)(m:fm)(H:Heap)(Qf:cK->Heap->Prop):Prop:=
 ∀(C:Ctx) (R:Seal) (a:Act) (w:World) (fn:Func) (u:FrameMode) (D0:List Deferred),C.G=G->fn.results.toList=rs->MS C R H w->FS D0 n R env a->fI R m u->
  Leaves P fn a.tmps (λe w'=>∃res H' R',Qf res H'/\ei R' res e/\MS C R' H' w') D u w
variable {rs:List ResultVar} {env:Env} {Qf:cK->Heap->Prop} {D:List Deferred}
theorem Me (h:sA P rs Qf .ret env H):Lv P G n rs env [] .ret H Qf:=by
 rintro C R a w fn u D0 hC hrs hm hf rfl;obtain⟨vs,H'',hv,hs,q⟩:=ir h;obtain⟨y,hy,hr⟩:=eO (fn:=fn) hm hf (by rw[hrs];exact hv);exact⟨y,hy,_,H'',R,q,⟨y,rfl,hr⟩,hm.drop hs⟩
omit [Tab P] in
omit [Tab P] in
theorem CS {f:FuncId}{avs:List AVal}{cap args:Array Value}{v:AVal}{m':fm}{H':Heap}(hs:gZ P G f avs m H (λr2 m2 H2=>m2=m'/\r2= .ret v/\H2=H'))(ha:∀R,cJ R avs (args++cap).toList)
  (hc:∀args w,(callFunc f args).run P w= .ok (.enter f args) w) (k:Lv P G n rs env D m'.settle H' Qf):Lv P G n rs env ({target:=.fn (.func f) cap,args:=args}::D) m H Qf:=by
 intro C R a w fn u D0 hC hrs hm hf hu;subst hC;refine leaves_cons (f:=f) (args:=args++cap) (yJ hu) (by simp only[invoke];exact hc _ _) ?_;refine(hs R w _ u hm.glo (MS.enter (H2:=[]) (by simpa using hm)) (ha R) hu).mono ?_;rintro e u' w' ⟨res,m2,H2,R',⟨rfl,rfl,rfl⟩,⟨y,rfl,hr⟩,hu',hm'⟩;have hm2:MS C R' H2 w':=by simpa using MS.call (H2:=[]) (by simpa using hm) hm'
 exact k C R' a w' fn _ D0 rfl hrs hm2 (hf.mono hm'.ge) (Az hu')
def LvQ (P:Program)(G:Glo)(n:Nat)(rs:List ResultVar)(Qf:cK->Heap->Prop):List Deferred->aK->Env->Heap->Prop
 |D,.ret,e,H|D,.normal,e,H=>Lv P G n rs e D .ret H Qf
 |D,.panic v,e,H=>Lv P G n rs e D (.pan v) H Qf
 |_,_,_,_=>False
omit [Tab P] in
theorem OE {f:FuncId}{fn:Func}{c:Code}{avs:List AVal}(hf:P.funcs[f]? =some fn)
  (hc:∀args w,(callFunc f args).run P w= .ok (.enter f args) w) (hb:fn.body=some c) (hn:fn.ntmps=n) (hrs:fn.results=rs.toArray) (hlen:Nat.ble avs.length n=true)
  (h:∀C:Ctx,C.G=G->C.D=[]->fC P C n c (d8 0 avs) H (LvQ P G n rs Qf)):ad P G f avs H Qf:=by
 intro R w args hG hm ha;refine .inl ⟨hc args w,calls_of_wp_defers hf hb ?_⟩;subst hn;have hrs':fn.results.toList=rs:=by rw[hrs]
 refine wp_mono (h ⟨w,R,dk H,G,hG,[]⟩ rfl rfl R _ w hm (B2 hlen ha)) ?_;rintro e a' w' ⟨D,x,env',H',R',q,er,hm',hf'⟩;cases x with
 |normal=>
  simp only[aG] at er;subst er;have:=q _ R' a' w' fn .returning D rfl hrs' hm' hf' rfl;rwa [<-hf'.defers] at this
 |ret=>
  simp only[aG] at er;subst er;have:=q _ R' a' w' fn .returning D rfl hrs' hm' hf' rfl;rwa [<-hf'.defers] at this
 |panic v=>
  obtain⟨y,rfl,hr⟩:=er;have:=q _ R' a' w' fn (.panicking [{v:=y,recovered:=false}]) D rfl hrs' hm' hf' ⟨y,rfl,hr⟩;rwa [<-hf'.defers] at this
 |exit i=>exact q.elim
 |goto i=>exact q.elim
end
end
section
def Fo (rd:Option Nat):Fence:={fn:=λ_=>True,depth:=none,alive:=false,round:=rd}
theorem Ii {P:Program}{f:FuncId}{args:Array Value}{w:World}{R:Ending->World->Prop}(rd:Option Nat)(m:Nat)(h:Calls P f args w R):CallsIn (Fo rd) m P f args w R:=(callsIn_wide (n:=m)).2 h
theorem Jl {P:Program}{row:String}{args:Array Value}{w:World}{R:Value->World->Prop}(rd:Option Nat)(m:Nat)(h:Rows P row args w R):RowsIn (Fo rd) m P row args w R:=
 λc cs _=>let ⟨v,w',r,s⟩:=h c cs;⟨v,w',r,stepsIn_wide.2 s⟩
theorem ng {C:Ctx}{n:Nat}{Q:aK->Env->Heap->Prop}:¬LetsOut (gW C n Q):=by
 rintro⟨a,w,x,env,H,R,q,er,_⟩
 cases x with
 |normal=>cases er
 |exit i=>cases er
 |goto i=>cases er
 |ret=>cases er
 |panic v=>obtain⟨y,e,_⟩:=er;cases e
def dP (l:List Oper):Bool:=l.all λo=>match o.op with
 |.defer _=>false
 |_=>true
theorem o5 {l:List Oper}(h:dP l=true){o:Oper}(ho:o∈l):∀c,o.op≠ .defer c:=by
 intro c e
 have:=List.all_eq_true.1 h o ho;rw[e] at this;cases this
theorem F8 {rd:Option Nat}{ρ:Operand->Value}{o:Oper}(hd:∀c,o.op≠ .defer c):Oper.semAt rd ρ o=execOp ρ o:=by
 cases rd with
 |none=>exact Oper.semAt_none ρ o
 |some l=>exact Oper.semAt_some l ρ o hd
section
variable {P:Program} {rd:Option Nat} {m:Nat} {ops:Array Oper} {Q0 Q:Exit->Act->World->Prop}
theorem Cf {o:Oper}{a:Act}{K K':Act->World->Prop}{r:Result Next}(hk:∀a w,K a w->K' a w)(hp:∀c a w,Q0 (.panic c) a w->Q (.panic c) a w)(ho:¬LetsOut Q0)(h:o.upon P a K Q0 r):o.uponIn (Fo rd) m P a K' Q r:=by
 cases r with
 |ok x w'=>
  cases x<;>simp only[Oper.upon,Oper.uponIn] at h ⊢ <;>first
   |exact hk _ _ h
   |exact⟨λe=>(by cases e),(Ii rd _ h).mono λe w'' he=>by cases e<;>first|exact hk _ _ he|exact hp _ _ _ he|exact absurd he ho⟩
   |exact⟨λe=>(by cases e),(Jl rd _ h).mono λ_ _ he=>hk _ _ he⟩
   |exact h.elim
 |halt x w'=>cases x<;>simp only[Oper.upon,Oper.uponIn] at h ⊢ <;>exact hp _ _ _ h
theorem iM {l:List Oper}(hn:∀a w,Q0 .normal a w->wpListIn (Fo rd) m P ops Q l a w)(hp:∀c a w,Q0 (.panic c) a w->Q (.panic c) a w)(ho:¬LetsOut Q0):
  ∀{pre:List Oper} {a:Act} {w:World},dP pre=true->wpList P ops Q0 pre a w->wpListIn (Fo rd) m P ops Q (pre++l) a w
 |[],a,w,_,h=>hn a w h
 |o::rest,a,w,hd,h=>by
  have h1:=o5 hd (List.mem_cons_self ..);have h2:dP rest=true:=by
   unfold dP at hd ⊢;rw[List.all_cons,Bool.and_eq_true] at hd;exact hd.2
  simp only[wpList,List.cons_append,wpListIn] at h ⊢;split
  ·rename_i hw;rw[if_pos hw] at h;rcases h with h|⟨_,h⟩
   ·refine⟨λ_ _=>trivial,?_⟩;rw[show(Fo rd).round=rd from rfl,F8 h1];exact Cf (λa w h=>iM hn hp ho h2 h) hp ho h
   ·exact absurd h ho
  ·rename_i hw;rw[if_neg hw] at h;exact⟨λ_ _=>trivial,iM hn hp ho h2 h⟩
theorem IU {i:Nat}{a:Act}{w:World}{K K':Act->World->Prop}(hd:dP ops.toList=true)(hk:∀a w,K a w->K' a w)(ho:¬LetsOut Q)(h:wpOp P ops Q i K a w):wpOpIn (Fo rd) m P ops Q i K' a w:=by
 unfold wpOp at h;unfold wpOpIn;cases hi:ops[i]? with
 |none=>rw[hi] at h;exact hk _ _ h
 |some o=>
  rw[hi] at h;have h1:=o5 hd (List.mem_of_getElem? (i:=i) (by rw[Array.getElem?_toList];exact hi));dsimp only at h ⊢;split
  ·rename_i hw;rw[if_pos hw] at h;rcases h with h|⟨_,h⟩
   ·refine⟨λ_ _=>trivial,?_⟩;rw[show(Fo rd).round=rd from rfl,F8 h1];exact Cf hk (λ_ _ _ q=>q) ho h
   ·exact absurd h ho
  ·rename_i hw;rw[if_neg hw] at h;exact⟨λ_ _=>trivial,hk _ _ h⟩
theorem wX {md:Region.Mode}(hd:dP ops.toList=true)(ho:¬LetsOut Q):∀(fuel:Nat) (listed:Array Bool) (a:Act) (w:World),wpAny P md ops Q fuel listed a w->wpAnyIn (Fo rd) m P md ops Q fuel listed a w
 |0,_,_,_,h=>h
 |fuel+1,_,_,_,h=>⟨h.1,λi hi=>IU hd (λa w q=>wX hd ho fuel _ a w q) ho (h.2 i hi)⟩
end
def fq (rd:Option Nat)(P:Program)(C:Ctx)(n:Nat)(c:Code)(env:Env)(H:Heap)(Q:aK->Env->Heap->Prop):Prop:=
 ∀R a w,MS C R H w->FS C.D n R env a->c.wpIn (Fo rd) 0 P (gW C n Q) a w
section
variable {rd:Option Nat} {P:Program} {C:Ctx} {n:Nat} {env:Env} {H:Heap} {Q:aK->Env->Heap->Prop} {G:Glo} {GL:List (Nat×List AVal)}
theorem fq.mono {c:Code}{Q':aK->Env->Heap->Prop}(h:fq rd P C n c env H Q)(hq:∀x e h,Q x e h->Q' x e h):fq rd P C n c env H Q':=
 λR a w hm hf=>Go.wpIn_mono (h R a w hm hf) λ_ _ _ ⟨x,en,H',R',q,r⟩=>⟨x,en,H',R',hq _ _ _ q,r⟩
theorem qc {x y:Code}(h:fq rd P C n x env H (eM (λe h=>fq rd P C n y e h Q) Q)):fq rd P C n (.seq x y) env H Q:=by
 intro R a w hm hf;refine wpIn_seq (Go.wpIn_mono (h R a w hm hf) ?_);rintro e a' w' ⟨x',en,H',R',q,er,hm',hf'⟩;cases x' with
 |normal=>simp only[aG] at er;subst er;exact q R' a' w' hm' hf'
 |exit i=>simp only[aG] at er;subst er;exact⟨.exit i,en,H',R',q,rfl,hm',hf'⟩
 |goto i=>simp only[aG] at er;subst er;exact⟨.goto i,en,H',R',q,rfl,hm',hf'⟩
 |ret=>simp only[aG] at er;subst er;exact⟨.ret,en,H',R',q,rfl,hm',hf'⟩
 |panic v=>obtain⟨y,rfl,hr⟩:=er;exact⟨.panic v,en,H',R',q,⟨y,rfl,hr⟩,hm',hf'⟩
theorem zM {c:Operand}{x y:Code}{b:Bool}(hc:ae env c=some (.bool b))(ht:b=true->fq rd P C n x env H Q)(hf:b=false->fq rd P C n y env H Q):fq rd P C n (.cond c x y) env H Q:=by
 intro R a w hm hfr;exact wpIn_cond_split (aN.1 (hfr.eval hc)) (λe=>ht e R a w hm hfr) (λe=>hf e R a w hm hfr)
theorem oR {id:Nat}{c:Code}(h:fq rd P C n c env H (wG id Q)):fq rd P C n (.block id c) env H Q:=by
 intro R a w hm hf;refine wpIn_block (Go.wpIn_mono (h R a w hm hf) ?_);rintro e a' w' ⟨x',en,H',R',q,er,hm',hf'⟩;cases x' with
 |normal=>simp only[aG] at er;subst er;exact⟨.normal,en,H',R',q,rfl,hm',hf'⟩
 |exit i=>
  simp only[aG] at er;subst er;simp only[Exit.inBlock];by_cases e:i=id
  ·rw[if_pos e];exact⟨.normal,en,H',R',q.1 e,rfl,hm',hf'⟩
  ·rw[if_neg e];exact⟨.exit i,en,H',R',q.2 e,rfl,hm',hf'⟩
 |goto i=>simp only[aG] at er;subst er;exact⟨.goto i,en,H',R',q,rfl,hm',hf'⟩
 |ret=>simp only[aG] at er;subst er;exact⟨.ret,en,H',R',q,rfl,hm',hf'⟩
 |panic v=>obtain⟨y,rfl,hr⟩:=er;exact⟨.panic v,en,H',R',q,⟨y,rfl,hr⟩,hm',hf'⟩
theorem BY {id:Nat}{l:List Oper}(hd:dP l=true)(h:ap P C n l.toArray l env H Q):fq rd P C n (.region id l.toArray false) env H Q:=by
 intro R a w hm hf;refine wpIn_region_lit ?_;have:=iM (rd:=rd) (m:=0) (l:=[]) (Q:=gW C n Q) (λa w q=>wpListIn_nil q) (λ_ _ _ q=>q) ng hd (h R a w hm hf);rwa [List.append_nil] at this
theorem Ir {id:Nat}{l:List Oper}(hm:P.follows .mixedOrders=true)(hB:Region.lexB .any l.toArray=true)(hd:dP l=true)(h:AQ P C n l.toArray l env H (λe=>Q .normal e H)):
  fq rd P C n (.region id l.toArray true) env H Q:=by
 intro R a w hw hf;refine wpIn_region_any hm (wX (by simpa using hd) ng _ _ _ _ ?_);have h1:=h R a hf;have h2:∀(l':List Oper) (a:Act),wpQuiet P l.toArray (CW C R H) (λa'=>∃env',Q .normal env' H/\FS C.D n R env' a') l' a->
   wpQuiet P l.toArray (CW C R H) (λa'=>∀w',CW C R H w'->gW C n Q .normal a' w') l' a:=by
  intro l';induction l' with
  |nil=>rintro a ⟨env',hq,hfs⟩ w' ⟨R',hle,hms⟩;exact⟨.normal,env',H,R',hq,rfl,hms,hfs.mono hle⟩
  |cons o r ih=>
   intro a h;have h':=h;unfold wpQuiet at h';refine wpQuiet_step λX hX=> ?_;split
   ·rename_i hw;rw[if_pos hw] at h';exact Oper.quiet_mono (λa' q=>hX _ (ih a' q)) h'
   ·rename_i hw;rw[if_neg hw] at h';exact hX _ (ih _ h')
 simp only[Region.lexB,Bool.and_eq_true] at hB;refine wpAny_of_quiet (C:=CW C R H) (Q:=λa'=>∀w',CW C R H w'->gW C n Q .normal a' w') (λ_ w' hw' h=>h w' hw') _ _ _ _ ⟨R,Seal.le_refl R,hw.drawn _⟩ ?_;have:=wpAnyQ_lex (C:=CW C R H) (md:=.any) hB.1 l.toArray.toList 0 (Array.replicate l.toArray.size false) a (by simp) (by simpa using hB.2) (h2 _ _ (by simpa using h1));simpa using this
def qf (rd:Option Nat)(P:Program)(C:Ctx)(n:Nat)(c:Code)(Q:aK->Env->Heap->Prop):Nat->Env->Heap->Prop
 |0,_,_=>False
 |k+1,e,h=>fq rd P C n c e h (eM (qf rd P C n c Q k) Q)
theorem BX {c:Code}(k:Nat)(h:qf rd P C n c Q k env H):fq rd P C n (.loop c) env H Q:=by
 intro R a w hm hf;refine wpIn_loop_rounds k ?_;induction k generalizing env H R a w with
 |zero=>exact h.elim
 |succ k ih=>
  rw[roundsIn_succ];refine Go.wpIn_mono (h R a w hm hf) ?_;rintro e a' w' ⟨x',en,H',R',q,er,hm',hf'⟩;cases x' with
  |normal=>simp only[aG] at er;subst er;exact ih q R' a' w' hm' hf'
  |exit i=>simp only[aG] at er;subst er;exact⟨.exit i,en,H',R',q,rfl,hm',hf'⟩
  |goto i=>simp only[aG] at er;subst er;exact⟨.goto i,en,H',R',q,rfl,hm',hf'⟩
  |ret=>simp only[aG] at er;subst er;exact⟨.ret,en,H',R',q,rfl,hm',hf'⟩
  |panic v=>obtain⟨y,rfl,hr⟩:=er;exact⟨.panic v,en,H',R',q,⟨y,rfl,hr⟩,hm',hf'⟩
theorem Ko {c:Code}{env':Env}(hs:Env.sub env env')(h:fq rd P C n c env' H Q):fq rd P C n c env H Q:=λR a w hm hf=>h R a w hm (hf.sub hs)
noncomputable def rX (P:Program)[Tab P](C:Ctx)(n:Nat)(G:Glo)(GL:List (Nat×List AVal))(c:Code):Env->Heap->(aK->Env->Heap->Prop)->Prop:=
 Code.rec (motive:=λ_=>Env->Heap->(aK->Env->Heap->Prop)->Prop)
  (λenv H Q=>Q .normal env H)
  (λ_ ops d env H Q=>match d with
   |false=>match dP ops.toList with
    |true=>fO P C n G GL ops Q ops.toList env H
    |false=>False
   |true=>False)
  (λ_ _ iha ihb env H Q=>iha env H (eM (λe h=>ihb e h Q) Q))
  (λc _ _ ihx ihy env H Q=>match ae env c with
   |some (.bool b)=>Sc b (ihx env H Q) (ihy env H Q)
   |_=>False)
  (λid _ ih env H Q=>ih env H (wE id Q))
  (λ_ _ _ _ _=>False)
  (λ_ _ _ _ _ _ _ _ _=>False)
  (λid env H Q=>Q (.exit id) env H)
  (λ_ _ _ _ _=>False)
  (λ_ _ _ _=>False)
  (λ_ _ _ _=>False)
  (λenv H Q=>Q .ret env H)
  (λ_ _ _ _=>False) c
theorem gQ [Tab P](hC:C.G=G)(hGL:ab G GL):∀(c:Code) (env:Env) (H:Heap) (Q:aK->Env->Heap->Prop),rX P C n G GL c env H Q->fq rd P C n c env H Q
 |.skip,_,_,_,h=>λR _ _ hm hf=>wpIn_skip ⟨.normal,_,_,R,h,rfl,hm,hf⟩
 |.region id ops dr,env,H,Q,h=>by
  cases dr with
  |false=>
   replace h:(match dP ops.toList with
    |true=>fO P C n G GL ops Q ops.toList env H
    |false=>False):=h
   cases hd:dP ops.toList with
   |false=>rw[hd] at h;exact h.elim
   |true=>
    rw[hd] at h;have e:=cA (a:=ops) rfl;have:=BY (rd:=rd) (id:=id) hd (by rw[<-e];exact bJ hC hGL _ _ _ h);rwa [<-e] at this
  |true=>exact False.elim h
 |.seq a b,env,H,Q,h=>by
  replace h:rX P C n G GL a env H (eM (λe h=>rX P C n G GL b e h Q) Q):=h;refine qc ((gQ hC hGL a env H _ h).mono ?_);intro x e h' q;cases x with
  |normal=>exact gQ hC hGL b e h' Q q
  |exit i=>exact q
  |goto i=>exact q
  |ret=>exact q
  |panic v=>exact q
 |.cond c x y,env,H,Q,h=>by
  replace h:(match ae env c with
   |some (.bool b)=>Sc b (rX P C n G GL x env H Q) (rX P C n G GL y env H Q)
   |_=>False):=h
  split at h
  ·rename_i b hb;exact zM hb (λe=>gQ hC hGL x env H Q (h.1 e)) (λe=>gQ hC hGL y env H Q (h.2 e))
  ·exact h.elim
 |.block id c,env,H,Q,h=>oR ((gQ hC hGL c env H _ h).mono λ_ _ _ q=>uN q)
 |.exit id,_,_,_,h=>λR _ _ hm hf=>wpIn_exit ⟨.exit id,_,_,R,h,rfl,hm,hf⟩
 |.ret,_,_,_,h=>λR _ _ hm hf=>wpIn_ret ⟨.ret,_,_,R,h,rfl,hm,hf⟩
 |.loop c,_,_,_,h=>False.elim h
 |.rangeFunc ..,_,_,_,h=>False.elim h
 |.scope _,_,_,_,h=>False.elim h
 |.label _,_,_,_,h=>False.elim h
 |.goto _,_,_,_,h=>False.elim h
 |.refuse _,_,_,_,h=>False.elim h
theorem wJ [Tab P]{a b:Code}{X:Type}(hC:C.G=G)(hGL:ab G GL)(I:X->Env)(J:X->Heap)(Inv:X->Prop)(h1:rX P C n G GL a env H (eM (λe h=>Cy I J Inv e h) Q))(h2:∀x,Inv x->fq rd P C n b (I x) (J x) Q):fq rd P C n (.seq a b) env H Q:=
 qc ((gQ hC hGL _ _ _ _ h1).mono λx e h q=>by
  cases x with
  |normal=>
   obtain⟨y,hy,hs,rfl⟩:=q.h;exact Ko hs (h2 y hy)
  |exit i=>exact q
  |goto i=>exact q
  |ret=>exact q
  |panic v=>exact q)
theorem fU [Tab P]{c:Code}(hC:C.G=G)(hGL:ab G GL)(h:rX P C n G GL c env H Q):fq rd P C n c env H Q:=gQ hC hGL _ _ _ _ h
theorem Kq [Tab P]{id:Nat}{ops:Array Oper}(hm:P.follows .mixedOrders=true)(hC:C.G=G)(hGL:ab G GL)(hB:(Region.lexB .any ops&&dP ops.toList)=true)(h:Nl P C n G GL H ops (λe=>Q .normal e H) ops.toList env):fq rd P C n (.region id ops true) env H Q:=by
 rw[Bool.and_eq_true] at hB;have e:=cA (a:=ops) rfl;have:=Ir (rd:=rd) (P:=P) (C:=C) (n:=n) (env:=env) (H:=H) (Q:=Q) (id:=id) (l:=ops.toList) hm (by rw[<-e];exact hB.1) hB.2 (by rw[<-e];exact Gz hC hGL _ _ h);rwa [<-e] at this
theorem Ov [Tab P]{c:Code}{k:Nat}(h:fq rd P C n c env H (eM (qf rd P C n c Q k) Q)):qf rd P C n c Q (k+1) env H:=h
end
def k9 (P:Program)(G:Glo)(L:Nat)(avs:List AVal)(H:Heap)(Qf:Bool->Heap->Prop):Prop:=
 ∀R w args (hG:G.p R),MS ⟨w,R,dk H,G,hG,[]⟩ R H w->cJ R avs args.toList->
  YieldAt Fence.wide 0 P L args w λe w'=>∃b H' R',Qf b H'/\e= .returned (.bool b)/\MS ⟨w,R,dk H,G,hG,[]⟩ R' H' w'
def Ei (r:Loop)(st:LoopState)(pe:Option Code):Loop:={r with state:=st,pending:=pe}
abbrev g9 (D:Nat):HEnt:=.obj D (.deferred (some []))
abbrev eW (L:Nat)(r:Loop)(st:LoopState)(pe:Option Code):HEnt:=.obj L (.loop (Ei r st pe))
theorem kJ {C:Ctx}{R:Seal}{H:Heap}{w:World}{i L:Nat}{o:Obj}(h:MS C R H w)(hi:H[i]? =some (.obj L o)):w.heap[L]? =some o:=h.heap.holds _ (List.mem_of_getElem? hi)
theorem gz {C:Ctx}{R:Seal}{H:Heap}{w:World}{i L:Nat}{o:Obj}(o':Obj)(h:MS C R H w)(hi:H[i]? =some (.obj L o)):MS C R (H.set i (.obj L o')) (w.putObj L o'):=by
 have hl:=jK (kJ h hi);exact h.write hi rfl ⟨rfl,rfl,rfl,World.putObj_size,World.putObj_heap_same hl,λb hb=>World.putObj_heap_other hb⟩ rfl (World.putObj_heap_same hl)
def RdQ (L:Nat)(r:Loop)(Qf:Bool->Heap->Prop):aK->Env->Heap->Prop
 |.normal,_,h=>∃j,h[j]? =some (eW L r .busy none)/\Qf true (h.set j (eW L r .ready none))
 |.ret,_,h=>∃j,h[j]? =some (eW L r .busy none)/\Qf false (h.set j (eW L r .done (some .ret)))
 |.exit i,_,h=>∃j,h[j]? =some (eW L r .busy none)/\Qf false (h.set j (eW L r .done (some (.exit i))))
 |_,_,_=>False
section
variable {P:Program} {n:Nat} {env:Env} {H:Heap} {G:Glo} {GL:List (Nat×List AVal)}
theorem La {L p i:Nat}{av:AVal}{r:Loop}{Qf:Bool->Heap->Prop}(hi:H[i]? =some (eW L r .ready none))(hps:r.params=#[p])(hp:Nat.ble (p+1) n=true)
  (hfs:∀R,FS [] n R env {tmps:=r.tmps,defers:=[]})
  (ha:∀C:Ctx,C.G=G->C.D=[]->fq (some L) P C n r.assign ((p,av)::env) H (λx e h=>x= .normal/\∃j,h[j]? =some (eW L r .ready none)/\fq (some L) P C n r.body e (h.set j (eW L r .busy none)) (RdQ L r Qf))):
  k9 P G L [av] H Qf:=by
 intro R w args hG hm hargs
 obtain⟨v,t,e,hv,ht⟩:=hargs
 obtain rfl:t=[]:=ht
 have hargs':args=#[v]:=by rw[<-Array.toList_inj];exact e
 subst hargs'
 have hl:=kJ hm hi
 have hy:=run_yield (P:=P) (args:=#[v]) hl (by show 1=r.params.size;rw[hps];rfl)
 refine⟨_,_,_,_,hy,roundIn_of_wpIn trivial ?_⟩
 have h1:=ha ⟨w,R,dk H,G,hG,[]⟩ rfl rfl R _ w hm ((hfs R).put hp ⟨hv.1,hv.2⟩)
 have e1:((Ei r .ready none).params.zip #[v]).foldl (λtmps (t,a)=>tmps.setIfInBounds t a) (Ei r .ready none).tmps=r.tmps.setIfInBounds p v:=by
  show(r.params.zip #[v]).foldl (λtmps (t,a)=>tmps.setIfInBounds t a) r.tmps=_
  rw[hps]
  simp
 rw[e1]
 refine Go.wpIn_mono h1 ?_
 rintro ex a' w' ⟨x,en,H',R',⟨rfl,j,hj,hb⟩,er,hm',hf'⟩
 obtain rfl:ex= .normal:=er
 refine⟨_,run_beginRound (kJ hm' hj) rfl,?_⟩
 refine Go.wpIn_mono (hb R' a' _ (gz _ hm' hj) hf') ?_
 rintro ex a2 w2 ⟨x,en2,H2,R2,q,er,hm2,hf2⟩
 cases x with
 |normal=>
  obtain rfl:ex= .normal:=er
  obtain⟨k,hk,q⟩:=q
  exact⟨_,_,run_endRound none (kJ hm2 hk),true,_,R2,q,rfl,gz _ hm2 hk⟩
 |ret=>
  obtain rfl:ex= .ret:=er
  obtain⟨k,hk,q⟩:=q
  exact⟨_,_,run_endRound (some .ret) (kJ hm2 hk),false,_,R2,q,rfl,gz _ hm2 hk⟩
 |exit id=>
  obtain rfl:ex= .exit id:=er
  obtain⟨k,hk,q⟩:=q
  exact⟨_,_,run_endRound (some (.exit id)) (kJ hm2 hk),false,_,R2,q,rfl,gz _ hm2 hk⟩
 |goto i=>exact q.elim
 |panic v=>exact q.elim
structure K8 (P:Program) (G:Glo) (fv:Option AVal) (avs:Option (List AVal)) (H:Heap) (K:Bool->Heap->Prop):Prop where
 h:∃L vs,fv=some (.func (.yield L) [] [])/\avs=some vs/\k9 P G L vs H K
def yQ (P:Program)[Tab P](C:Ctx)(n:Nat)(G:Glo)(GL:List (Nat×List AVal))(ops:Array Oper)(d:Nat)(fv:Operand)(args:Array Operand)(post:List Oper)(Q:aK->Env->Heap->Prop):aK->Env->Heap->Prop
 |.normal,e,h=>K8 P G (ae e fv) (fV e args.toList) h λb h'=>fO P C n G GL ops Q post ((d,.bool b)::e) h'
 |x,e,h=>Q x e h
theorem zN [Tab P]{C:Ctx}{Q:aK->Env->Heap->Prop}{id d:Nat}{ops:Array Oper}{fv:Operand}{args:Array Operand}{ts:Array TypeId}{t:TypeId}{ps:String}{af:Array Edge}(k:Nat)(hC:C.G=G)(hGL:ab G GL)
  (hk:ops.toList[k]? =some {dst:=some d,op:=.call {callee:=.value fv,args:=args,argTypes:=ts},type:=t,pos:=ps,after:=af,guard:=none}) (hdn:Nat.ble (d+1) n=true) (hnd:dP ops.toList=true)
  (h:fO P C n G GL ops (yQ P C n G GL ops d fv args (ops.toList.drop (k+1)) Q) (ops.toList.take k) env H):bI P C n (.region id ops false) env H Q:=by
 intro R a w hm hf;have hlt:k<ops.toList.length:=(List.getElem?_eq_some_iff.1 hk).1;have hsp:ops.toList=ops.toList.take k++{dst:=some d,op:=.call {callee:=.value fv,args:=args,argTypes:=ts},type:=t,pos:=ps,after:=af,guard:=none}::ops.toList.drop (k+1):=by
  have:=List.take_append_drop k ops.toList;rw[List.drop_eq_getElem_cons hlt,(List.getElem?_eq_some_iff.1 hk).2] at this;exact this.symm
 have nd:∀{l:List Oper},l.Sublist ops.toList->dP l=true:=λhs=>List.all_eq_true.2 λo ho=>List.all_eq_true.1 hnd o (hs.subset ho);refine(wpIn_wide (n:=0)).1 (wpIn_region_list ?_);rw[hsp];refine iM (rd:=none) (m:=0) (Q0:=gW C n (yQ P C n G GL ops d fv args (ops.toList.drop (k+1)) Q)) ?_ ?_ ng (nd (List.take_sublist _ _)) (bJ hC hGL _ _ _ h R a w hm hf)
 ·rintro a w ⟨x,en,H',R',q,er,hm',hf'⟩;cases x with
  |normal=>
   obtain⟨L,vs,h1,h2,hs⟩:=K8.h q;refine wpListIn_plain rfl λK hK=>⟨λ_ _=>trivial,?_⟩;obtain⟨x1,x2,e,r1,r2⟩:=aR (hf'.eval h1) rfl;simp only[List.cons.injEq,and_true] at e;have r1:x1.toList=[]:=r1;have r2:x2.toList=[]:=r2;have r1:x1=#[]:=by rw[<-Array.toList_inj];exact r1
   have r2:x2=#[]:=by rw[<-Array.toList_inj];exact r2
   subst r1;subst r2;subst hC;have hrel:cJ R' vs (args.map a.eval).toList:=by
    have:=eR (λx av h=>hf'.eval h) h2;simpa using this
   obtain⟨fn,tmps,asg,body,hy,hR⟩:=hs R' w _ hm'.glo (MS.enter (H2:=[]) (by simpa using hm')) hrel;have hrun:(execOp a.eval {dst:=some d,op:=.call {callee:=.value fv,args:=args,argTypes:=ts},type:=t,pos:=ps,after:=af,guard:=none:Oper}).run P w= .ok (.round L fn tmps asg body) w:=by
    rw[<-hy];simp only[execOp,resolve,e,Deferred.ofValue,Sem.run_bind,Sem.run_pure,Result.andThen_ok,invoke,Array.empty_append,Array.append_empty]
   rw[show(Fo none).round=none from rfl,Oper.semAt_none,hrun,Oper.uponIn_round];refine⟨λe=>(by cases e),hR.mono ?_⟩;rintro e w' ⟨b,H2,R2,q2,rfl,hm2⟩;have hm3:MS C R2 H2 w':=by simpa using MS.call (H2:=[]) (by simpa using hm') hm2
   refine hK _ _ ?_;have:=iM (rd:=none) (m:=0) (l:=[]) (Q:=gW C n Q) (λa w q=>wpListIn_nil q) (λ_ _ _ q=>q) ng (nd (List.drop_sublist _ _))
    (bJ rfl hGL _ _ _ q2 R2 _ w' hm3 ((hf'.mono hm2.ge).put hdn (aN.2 rfl)))
   rwa [List.append_nil] at this
  |exit i=>cases er
  |goto i=>cases er
  |ret=>cases er
  |panic v=>obtain⟨y,e,_⟩:=er;cases e
 ·rintro c a w ⟨x,en,H',R',q,er,hm',hf'⟩;cases x with
  |normal=>cases er
  |exit i=>cases er
  |goto i=>cases er
  |ret=>cases er
  |panic v=>exact⟨.panic v,en,H',R',q,er,hm',hf'⟩
def N3 (env:Env):Bool:=env.all λx=>x.2.det
theorem ph:∀{env:Env} {k:Nat} {v:AVal},Env.get env k=some v->(k,v)∈env
 |(j,x)::t,k,v,h=>by
  simp only[Env.get] at h;split at h
  ·rename_i hb;have:=Nat.eq_of_beq_eq_true hb;subst this;simp only[Option.some.injEq] at h;subst h;exact List.mem_cons_self ..
  ·exact List.mem_cons_of_mem _ (ph h)
theorem Mu {D:List Deferred}{R:Seal}{a:Act}(hd:N3 env=true)(hf:FS D n R env a)(R':Seal):FS [] n R' env {tmps:=a.tmps,defers:=[]}:=by
 refine⟨λk v hk=> ?_,hf.size,rfl⟩;obtain⟨x,hx,hr⟩:=hf.fr k v hk;have hdv:v.det=true:=List.all_eq_true.1 hd _ (ph hk);refine⟨x,hx,?_⟩;rw[BE hr hdv];exact p6 hdv
abbrev oN (D:Nat):Deferred:={target:=.collected D,args:=#[]}
def LpQ (L D:Nat)(r:Loop)(C:Ctx)(env:Env)(Q:List Deferred->aK->Env->Heap->Prop)(res:cK)(h:Heap):Prop:=
 ∃v j st pe,res= .ret v/\h[j]? =some (eW L r st pe)/\st≠ .busy/\(match pe with
  |none=>Q (oN D::C.D) .normal env (h.set j (eW L r .exhausted pe))
  |some .ret=>Q (oN D::C.D) .ret env (h.set j (eW L r .exhausted pe))
  |some (.exit i)=>Q (oN D::C.D) (.exit i) env (h.set j (eW L r .exhausted pe))
  |_=>False)
theorem Fe {C:Ctx}{Q:List Deferred->aK->Env->Heap->Prop}{g:Operand}{ps:Array Tmp}{assign body:Code}{f:FuncId}{l2:List AVal}(hg:ae env g=some (.func (.func f) [] l2))
  (hcf:∀args w,(callFunc f args).run P w= .ok (.enter f args) w) (env':Env) (hs:Env.sub env env') (hdet:N3 env'=true)
  (hit:∀(L D:Nat) (r:Loop),r.params=ps->r.assign=assign->r.body=body->(∀R,FS [] n R env' {tmps:=r.tmps,defers:=[]})->
   ad P C.G f (AVal.func (.yield L) [] []::l2) (H++[g9 D,eW L r .ready none]) (LpQ L D r C env' Q)):fC P C n (.rangeFunc g ps assign body) env H Q:=by
 intro R a w hm hf;refine(wpIn_wide (n:=1)).1 (wpIn_rangeFunc ?_);intro fn _;obtain⟨r,hr⟩:∃r:Loop,r={state:=.ready,pending:=none,fn,tmps:=a.tmps,params:=ps,assign,body,defers:=w.heap.size}:=⟨_,rfl⟩;have hW:(w.alloc (.deferred (some []))).alloc (.loop r)=grow (grow w (.deferred (some []))) (.loop r):=rfl;obtain⟨x1,b1,e,q1,q2⟩:=aR (hf.eval hg) rfl;simp only[List.cons.injEq,and_true] at e;have q1:x1.toList=[]:=q1;have q1:x1=#[]:=by rw[<-Array.toList_inj];exact q1
 subst q1;have hsz:(grow w (.deferred (some []))).heap.size=w.heap.size+1:=by simp[grow]
 have hm1:MS C R (g9 w.heap.size::H) (grow w (.deferred (some []))):=hm.alloc _ (g9 w.heap.size) rfl (dF w _);have hm2:MS C R (eW (w.heap.size+1) r .ready none::g9 w.heap.size::H) (grow (grow w (.deferred (some []))) (.loop r)):=by
  have hrr:Ei r .ready none=r:=by rw[hr];rfl
  refine hm1.alloc _ (eW (w.heap.size+1) r .ready none) (by rw[hsz];rfl) ?_;show(grow (grow w (.deferred (some []))) (.loop r)).heap[w.heap.size+1]? =some (.loop (Ei r .ready none));rw[hrr,<-hsz];exact dF _ _
 have hm3:MS C R (H++[g9 w.heap.size,eW (w.heap.size+1) r .ready none]) (grow (grow w (.deferred (some []))) (.loop r)):=by
  refine hm2.perm ?_;refine List.Perm.trans (List.Perm.swap _ _ _) ?_;exact List.perm_append_comm (l₁:=[g9 w.heap.size,eW (w.heap.size+1) r .ready none]) (l₂:=H)
 have hspec:=hit (w.heap.size+1) w.heap.size r (by rw[hr]) (by rw[hr]) (by rw[hr]) (λR'=>by rw[hr];exact Mu hdet (hf.sub hs) R');refine⟨w.heap.size+1,[oN w.heap.size],grow (grow w (.deferred (some []))) (.loop r),{target:=.fn (.func f) b1,args:=#[.func (.yield (w.heap.size+1)) #[] #[]]},grow (grow w (.deferred (some []))) (.loop r),f,
  #[.func (.yield (w.heap.size+1)) #[] #[]]++b1,grow (grow w (.deferred (some []))) (.loop r),?_,?_,λ_ _=>trivial,?_,λ_=>Nat.le_refl _,?_⟩
 ·rw[<-hW,hr];exact run_enterLoop_outer _ _ _ _ _
 ·simp only[resolve,rangeCall,e];simp[go_sem,Deferred.ofValue]
 ·simp only[invoke];exact hcf _ _
 ·have hrel:cJ R (AVal.func (.yield (w.heap.size+1)) [] []::l2) (#[Value.func (.yield (w.heap.size+1)) #[] #[]]++b1).toList:=by
   rw[Array.toList_append];exact⟨.func (.yield (w.heap.size+1)) #[] #[],_,rfl,⟨⟨#[],#[],rfl,rfl,rfl⟩,rfl⟩,q2⟩
  have hcall:=hspec R _ _ hm.glo (MS.enter (H2:=[]) (by simpa using hm3)) hrel;have hcalls:Calls P f (#[Value.func (.yield (w.heap.size+1)) #[] #[]]++b1) (grow (grow w (.deferred (some []))) (.loop r)) (λe w'=>∃res H' R',LpQ (w.heap.size+1) w.heap.size r C env' Q res H'/\ei R' res e/\
    MS ⟨grow (grow w (.deferred (some []))) (.loop r),R,dk (H++[g9 w.heap.size,eW (w.heap.size+1) r .ready none]),C.G,hm.glo,[]⟩ R' H' w'):=by
   rcases hcall with⟨_,h2⟩|⟨v,w',h1,_⟩
   ·exact h2
   ·rw[hcf] at h1;cases h1
  refine((callsIn_wide (n:=1-1)).2 hcalls).mono ?_;rintro e' w3 ⟨res,H',R',⟨v,j,st,pe,rfl,hj,hst,hq⟩,⟨y,rfl,_⟩,hm4⟩;have hm5:MS C R' H' w3:=by simpa using MS.call (H2:=[]) (by simpa using hm3) hm4
  refine⟨pe,_,run_endLoop (kJ hm5 hj) hst,?_⟩;have hm6:=gz (.loop {Ei r st pe with state:=.exhausted}) hm5 hj;have hf6:FS (oN w.heap.size::C.D) n R' env' {a with defers:=[oN w.heap.size]++a.defers}:=by
   have h7:=(hf.sub hs).mono hm4.ge;exact⟨h7.fr,h7.size,by show oN w.heap.size::a.defers=_;rw[h7.defers]⟩
  cases pe with
  |none=>exact⟨_,.normal,env',_,R',hq,rfl,hm6,hf6⟩
  |some c=>
   cases c with
   |ret=>exact wpIn_ret ⟨_,.ret,env',_,R',hq,rfl,hm6,hf6⟩
   |exit i=>exact wpIn_exit ⟨_,.exit i,env',_,R',hq,rfl,hm6,hf6⟩
   |_=>exact hq.elim
def M2 (id:Nat)(Q:List Deferred->aK->Env->Heap->Prop):List Deferred->aK->Env->Heap->Prop
 |D,.exit i,e,h=>(i=id->Q D .normal e h)/\(i≠id->Q D (.exit i) e h)
 |D,x,e,h=>Q D x e h
theorem Ff {C:Ctx}{Q:List Deferred->aK->Env->Heap->Prop}{id:Nat}{c:Code}(h:fC P C n c env H (M2 id Q)):fC P C n (.block id c) env H Q:=by
 intro R a w hm hf
 refine wp_block (wp_mono (h R a w hm hf) ?_)
 rintro e a' w' ⟨D,x',en,H',R',q,er,hm',hf'⟩;cases x' with
 |normal=>simp only[aG] at er;subst er;exact⟨D,.normal,en,H',R',q,rfl,hm',hf'⟩
 |exit i=>
  simp only[aG] at er;subst er;simp only[Exit.inBlock];by_cases e:i=id
  ·rw[if_pos e];exact⟨D,.normal,en,H',R',q.1 e,rfl,hm',hf'⟩
  ·rw[if_neg e];exact⟨D,.exit i,en,H',R',q.2 e,rfl,hm',hf'⟩
 |goto i=>simp only[aG] at er;subst er;exact⟨D,.goto i,en,H',R',q,rfl,hm',hf'⟩
 |ret=>simp only[aG] at er;subst er;exact⟨D,.ret,en,H',R',q,rfl,hm',hf'⟩
 |panic v=>obtain⟨y,rfl,hr⟩:=er;exact⟨D,.panic v,en,H',R',q,⟨y,rfl,hr⟩,hm',hf'⟩
def K9 (P:Program)(G:Glo)(n:Nat)(rs:List ResultVar)(env:Env)(D:List Deferred)(m:fm)(H:Heap)(Qf:cK->Heap->Prop):Prop:=
 ∀(C:Ctx) (R:Seal) (a:Act) (w:World) (fn:Func) (u:FrameMode) (D0:List Deferred),C.G=G->fn.results.toList=rs->MS C R H w->FS D0 n R env a->fI R m u->
  LeavesInM Fence.wide 0 P fn a.tmps (λe w'=>∃res H' R',Qf res H'/\ei R' res e/\MS C R' H' w') D u w
variable {rs:List ResultVar} {Qf:cK->Heap->Prop} {D:List Deferred} {m:fm}
theorem CQ [Tab P](h:sA P rs Qf .ret env H):K9 P G n rs env [] .ret H Qf:=by
 rintro C R a w fn u D0 hC hrs hm hf rfl
 obtain⟨vs,H'',hv,hs,q⟩:=ir h
 obtain⟨y,hy,hr⟩:=eO (fn:=fn) hm hf (by rw[hrs];exact hv);exact⟨y,hy,_,H'',R,q,⟨y,rfl,hr⟩,hm.drop hs⟩
theorem CR {i d:Nat}(hi:H[i]? =some (g9 d))(h:K9 P G n rs env D m (H.set i (.obj d (.deferred none))) Qf):K9 P G n rs env (oN d::D) m H Qf:=by
 rintro C R a w fn u D0 hC hrs hm hf hu;refine⟨yJ hu,.inl ⟨d,_,rfl,run_takeDeferred (kJ hm hi),h C R a _ fn u D0 hC hrs (gz _ hm hi) hf hu⟩⟩
def OL (P:Program)(G:Glo)(n:Nat)(rs:List ResultVar)(Qf:cK->Heap->Prop):List Deferred->aK->Env->Heap->Prop
 |D,.ret,e,H|D,.normal,e,H=>K9 P G n rs e D .ret H Qf
 |D,.panic v,e,H=>K9 P G n rs e D (.pan v) H Qf
 |_,_,_,_=>False
theorem OD {f:FuncId}{fn:Func}{c:Code}{avs:List AVal}(hf:P.funcs[f]? =some fn)
  (hc:∀args w,(callFunc f args).run P w= .ok (.enter f args) w) (hb:fn.body=some c) (hn:fn.ntmps=n) (hrs:fn.results=rs.toArray) (hlen:Nat.ble avs.length n=true)
  (h:∀C:Ctx,C.G=G->C.D=[]->fC P C n c (d8 0 avs) H (OL P G n rs Qf)):ad P G f avs H Qf:=by
 intro R w args hG hm ha
 refine .inl ⟨hc args w,(callsIn_wide (n:=0)).1 (callsIn_of_wp_marks hf hb trivial ((wpIn_wide (n:=0)).2 ?_))⟩
 subst hn
 have hrs':fn.results.toList=rs:=by rw[hrs]
 refine wp_mono (h ⟨w,R,dk H,G,hG,[]⟩ rfl rfl R _ w hm (B2 hlen ha)) ?_
 rintro e a' w' ⟨D,x,env',H',R',q,er,hm',hf'⟩
 cases x with
 |normal=>
  simp only[aG] at er;subst er
  have:=q _ R' a' w' fn .returning D rfl hrs' hm' hf' rfl
  rwa [<-hf'.defers] at this
 |ret=>
  simp only[aG] at er;subst er
  have:=q _ R' a' w' fn .returning D rfl hrs' hm' hf' rfl
  rwa [<-hf'.defers] at this
 |panic v=>
  obtain⟨y,rfl,hr⟩:=er
  have:=q _ R' a' w' fn (.panicking [{v:=y,recovered:=false}]) D rfl hrs' hm' hf' ⟨y,rfl,hr⟩
  rwa [<-hf'.defers] at this
 |exit i=>exact q.elim
 |goto i=>exact q.elim
end
end
section
structure Rl where
 t:Int
 a:Int
 b:Int
 p:Int
deriving DecidableEq
def Rl.A (r:Rl):AVal:=.agg [.int .i64 r.t,.int .i64 r.a,.int .i64 r.b,.int .i64 r.p]
def Rl.z:Rl:=⟨0,0,0,0⟩
structure Kn where
 n:List UInt8
 o:Option Rl
 w:Option Rl
def KP:List Kn:=[
 ⟨[70,78],some ⟨1,1,1,0⟩,some ⟨1,1,0,0⟩⟩,
 ⟨[78],some ⟨3,1,1,5⟩,some ⟨3,0,1,5⟩⟩,
 ⟨[78,73,67,75,78,65,77,69],some ⟨2,0,0,0⟩,some ⟨2,0,0,0⟩⟩,
 ⟨[80,72,79,84,79],some ⟨8,0,0,0⟩,some ⟨4,0,0,0⟩⟩,
 ⟨[66,68,65,89],some ⟨5,0,1,0⟩,some ⟨5,0,1,0⟩⟩,
 ⟨[65,78,78,73,86,69,82,83,65,82,89],none,some ⟨5,0,1,0⟩⟩,
 ⟨[71,69,78,68,69,82],none,some ⟨3,0,1,2⟩⟩,
 ⟨[65,68,82],some ⟨3,0,0,7⟩,some ⟨3,0,0,7⟩⟩,
 ⟨[76,65,66,69,76],some ⟨1,0,0,0⟩,none⟩,
 ⟨[84,69,76],some ⟨1,0,0,0⟩,some ⟨1,0,0,0⟩⟩,
 ⟨[69,77,65,73,76],some ⟨1,0,0,0⟩,some ⟨1,0,0,0⟩⟩,
 ⟨[77,65,73,76,69,82],some ⟨1,0,0,0⟩,none⟩,
 ⟨[73,77,80,80],none,some ⟨4,0,0,0⟩⟩,
 ⟨[76,65,78,71],none,some ⟨7,0,0,0⟩⟩,
 ⟨[84,90],some ⟨6,0,1,0⟩,some ⟨1,0,0,0⟩⟩,
 ⟨[71,69,79],some ⟨3,0,1,2⟩,some ⟨4,0,0,0⟩⟩,
 ⟨[84,73,84,76,69],some ⟨1,0,0,0⟩,some ⟨1,0,0,0⟩⟩,
 ⟨[82,79,76,69],some ⟨1,0,0,0⟩,some ⟨1,0,0,0⟩⟩,
 ⟨[76,79,71,79],some ⟨8,0,0,0⟩,some ⟨4,0,0,0⟩⟩,
 ⟨[65,71,69,78,84],some ⟨1,0,0,0⟩,none⟩,
 ⟨[79,82,71],some ⟨3,0,0,0⟩,some ⟨3,0,0,0⟩⟩,
 ⟨[77,69,77,66,69,82],none,some ⟨4,0,0,0⟩⟩,
 ⟨[82,69,76,65,84,69,68],none,some ⟨4,0,0,0⟩⟩,
 ⟨[67,65,84,69,71,79,82,73,69,83],some ⟨2,0,0,0⟩,some ⟨2,0,0,0⟩⟩,
 ⟨[78,79,84,69],some ⟨1,0,0,0⟩,some ⟨1,0,0,0⟩⟩,
 ⟨[80,82,79,68,73,68],some ⟨1,0,1,0⟩,some ⟨1,0,1,0⟩⟩,
 ⟨[82,69,86],some ⟨5,0,1,0⟩,some ⟨5,0,1,0⟩⟩,
 ⟨[83,79,82,84,45,83,84,82,73,78,71],some ⟨1,0,1,0⟩,none⟩,
 ⟨[83,79,85,78,68],some ⟨8,0,0,0⟩,some ⟨4,0,0,0⟩⟩,
 ⟨[85,73,68],some ⟨1,0,1,0⟩,some ⟨4,0,1,0⟩⟩,
 ⟨[85,82,76],some ⟨4,0,0,0⟩,some ⟨4,0,0,0⟩⟩,
 ⟨[67,76,65,83,83],some ⟨1,0,1,0⟩,none⟩,
 ⟨[75,73,78,68],none,some ⟨1,0,1,0⟩⟩,
 ⟨[75,69,89],some ⟨8,0,0,0⟩,some ⟨4,0,0,0⟩⟩,
 ⟨[78,65,77,69],some ⟨1,0,1,0⟩,none⟩,
 ⟨[83,79,85,82,67,69],some ⟨4,0,0,0⟩,some ⟨4,0,0,0⟩⟩]
def Kn.of (k:Kn)(v:Int):Option Rl:=if v=3 then k.o else k.w
def de (v:Int):List (List UInt8×Rl):=KP.filterMap λk=>(k.of v).map λr=>(k.n,r)
def gP (i:Int):UInt8:=UInt8.ofNat (48+i.toNat)
def Ad (x:List UInt8×Rl):List UInt8:=x.1++[32,gP x.2.t,32,gP x.2.a,32,gP x.2.b,32,gP x.2.p]
def dy (c:UInt8):List (List UInt8)->List UInt8
 |[]=>[]
 |[x]=>x
 |x::y::t=>x++c::dy c (y::t)
def kj (v:Int):List (List UInt8):=(de v).map Ad
def LB (v:Int):List UInt8:=dy 124 (kj v)
def dY (s:List UInt8):List (List UInt8×Rl)->Rl
 |[]=>⟨8,0,0,0⟩
 |x::t=>if x.1=s then x.2 else dY s t
def bO (v:Int)(s:List UInt8):Rl:=if v=3\/v=4 then dY (ao 97 122 (-32) s) (de v) else Rl.z
def fK (v:Int):Err:=if v=3\/v=4 then .none else .errno 1
def ri (v:Int):List (List UInt8):=if v=3\/v=4 then(de v).map (·.1) else[]
theorem Bd {c:UInt8}{l:List (List UInt8)}{k:Nat}(h:k+1<l.length):dy c (l.drop k)=l.getD k []++c::dy c (l.drop (k+1)):=by
 rw[List.drop_eq_getElem_cons (by omega),List.drop_eq_getElem_cons h];simp only[dy]
 rw[List.getD_eq_getElem?_getD,List.getElem?_eq_getElem (by omega)]
 rfl
theorem Bb {c:UInt8}{l:List (List UInt8)}{k:Nat}(h:k+1=l.length):dy c (l.drop k)=l.getD k []:=by
 rw[List.drop_eq_getElem_cons (by omega),List.drop_of_length_le (by omega)];simp only[dy];rw[List.getD_eq_getElem?_getD,List.getElem?_eq_getElem (by omega)];rfl
end
section
def N5 (s:List UInt8)(c:Int):List UInt8×List UInt8×Bool:=if bQ s c<0 then(s,[],false) else(s.take (bQ s c).toNat,s.drop ((bQ s c).toNat+1),true)
theorem Hn {c:UInt8}:bQ [c] (c.toNat:Int)=0:=v6 (i:=0) (Nat.lt_succ_self 0) rfl (λj h=>absurd h (Nat.not_lt_zero _))
theorem Ik {c:UInt8}:(aa [c] 0:Int)=(c.toNat:Int):=rfl
attribute [local irreducible] bI ap aa az aW ab ad
theorem vg {G:Glo}(s:List UInt8)(c:UInt8):an prog G 186 [.str s,.str [c]] (.int .i64 (bQ s (c.toNat:Int))):=by
 have hc:=c.toNat_lt;have hb:=Ik (c:=c);have k1:=ft (G:=G) s (aa [c] 0:Int) (by omega) (by omega);by_cases hs:[c]=s
 ·have e:=Hn (c:=c)
  rw[hs] at e
  rw[e]
  refine aw func186 call186 λC hC hGL=> ?_
  exact bK
 ·rw[<-hb]
  refine aw func186 call186 λC hC hGL=> ?_
  exact bK
end
end Go.Proofs.YtmdhmodenkjmdaaGreatDoor
