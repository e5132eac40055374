/- Parts of the proof of jcardReads_card. -/
import Derived.Lib.IndexAny
import Derived.Defers
import Derived.Recover
import Derived.Test.YtpgdnpielhfpgaaGreatDoorBaf
set_option linter.unusedVariables false
set_option linter.unusedSimpArgs false
set_option linter.unusedSectionVars false
namespace Go.Proofs.YtpgdnpielhfpgaaGreatDoor
open Go Go.RowKit
open Tryz
set_option maxRecDepth 20000
set_option maxHeartbeats 4000000
section
theorem Dp (t:List UInt8)(h:(aD t).2≠0):((aD t).1<128->(aD t).2=1/\aa t 0=(aD t).1)/\(128<=(aD t).1->∀j,j<(aD t).2->128<=aa t j)/\mB (aD t).1=true:=by
 have hb:=bu t 0;rw[mA];revert h
 unfold aD
 repeat' split
 all_goals (intro h;try (exact absurd rfl h))
 all_goals (simp only[bH,jL,Bool.and_eq_true,Bool.or_eq_true,decide_eq_true_eq,beq_iff_eq] at*)
 ·refine⟨λ_=>by simp,λh=>by omega,by omega⟩
 ·refine⟨λh=>by omega,λ_ j hj=> ?_,by omega⟩
  obtain rfl|rfl:j=0\/j=1:=by omega
  all_goals omega
 ·refine⟨λh=>by omega,λ_ j hj=> ?_,by omega⟩
  obtain rfl|rfl|rfl:j=0\/j=1\/j=2:=by omega
  all_goals omega
 ·refine⟨λh=>by omega,λ_ j hj=> ?_,by omega⟩
  obtain rfl|rfl|rfl|rfl:j=0\/j=1\/j=2\/j=3:=by omega
  all_goals omega
theorem FV (t:List UInt8)(h:(aD t).2=0)(h0:t.length≠0):128<=aa t 0:=by
 rcases Nat.lt_or_ge (aa t 0) 128 with h1|h1
 ·exfalso;revert h
  unfold aD;rw[if_neg h0,if_pos h1];simp
 ·exact h1
theorem Hk {a b:UInt8}(x:UInt8):([a,b]:List UInt8).contains x=true↔(x.toNat=a.toNat\/x.toNat=b.toNat):=by
 simp only[List.contains_cons,List.contains_nil,Bool.or_false,Bool.or_eq_true,beq_iff_eq];exact⟨λh=>h.imp (λh=>by rw[h]) (λh=>by rw[h]),λh=>h.imp UInt8.toNat_inj.1 UInt8.toNat_inj.1⟩
theorem PG {a b:UInt8}{x:UInt8}(h:x.toNat≠a.toNat/\x.toNat≠b.toNat):([a,b]:List UInt8).contains x=false:=by
 cases hc:([a,b]:List UInt8).contains x with
 |false=>rfl
 |true=>rcases(Hk x).1 hc with h1|h1;exact absurd h1 h.1;exact absurd h1 h.2
theorem ec {s:List UInt8}{i:Nat}{x:UInt8}(h:s[i]? =some x):x.toNat=aa s i:=by simp[aa,List.getD,h]
attribute [local irreducible] bN aw aa aC bg ab ae
attribute [local irreducible] aD dy gC d8 eC fA mB
theorem vB {G:Glo}(n:Int):aj prog G 224 [.int .i64 n] (.bool (lx 8 n)):=by
 refine ao func224 call224 λC hC hGL=> ?_;exact ba
theorem Q7 {a b:UInt8}(r:Int):(0<=bj [a,b] r↔r=a.toNat\/r=b.toNat):=by
 unfold bj;simp only[jO];split
 ·omega
 ·split<;>omega
theorem yz {G:Glo}{a b:UInt8}(ha:a.toNat<128)(hb':b.toNat<128)(r:Int)(hv:mB r=true):∃z:Int,aj prog G 223 [.str [a,b],.int .i32 r] (.int .i64 z)/\(0<=z↔r=a.toNat\/r=b.toNat):=by
 have hm:=hv;rw[mA] at hm;by_cases h1:r<128
 ·exact⟨_,Ba r hm.1 h1,Q7 r⟩
 ·by_cases h2:r=65533
  ·subst h2;exact⟨-1,yw ha hb',by omega⟩
  ·exact⟨-1,Bb ha hb' r (by omega) hv h2,by omega⟩
theorem rZ (t:List UInt8)(h0:t.length≠0):mB (eC t:Int)=true/\0<d8 t/\d8 t<=t.length/\((eC t:Int)<128->d8 t=1/\(aa t 0:Int)=eC t)/\(128<=(eC t:Int)->∀j,j<d8 t->128<=aa t j):=by
 have hle:=nB t;by_cases hn:(aD t).2=0
 ·have h1:=FV t hn h0;unfold eC d8;rw[if_pos hn,if_pos hn];refine⟨by rw[mA];omega,by omega,by omega,λh=>by omega,λ_ j hj=>by rw[show j=0 by omega];exact h1⟩
 ·have h1:=Dp t hn;unfold eC d8;rw[if_neg hn,if_neg hn];refine⟨h1.2.2,by omega,hle.1,λh=> ?_,λh=>h1.2.1 (by omega)⟩;have:=h1.1 (by omega);omega
theorem wJ {G:Glo}{a b:UInt8}(ha:a.toNat<128)(hb':b.toNat<128)(s:List UInt8)(hl:s.length<=8):aj prog G 191 [.str s,.str [a,b]] (.int .i64 (Lib.indexAny s [a,b])):=by
 refine ao func191 call191 λC hC hGL=> ?_;have hS:=vB (G:=G) s.length;have hlen2:([a,b]:List UInt8).length=2:=rfl;repeat' (first|(conv=>whnf);first|refine .w ?_|refine .v ?_|refine cj ?_ ?_<;>(intro hb;try exact dd hb)|apply aF|apply bf|(apply bQ<;>intro hb)|(apply bR;intro hbd)|(apply aZ;exact hS)|(apply aL (i:=0) rfl;exact hS)|(apply bS;intro bl)|(apply cb;intro va vk vc hva)|(apply ca;intro v)|(apply cd;intro bl cap hcap)|apply cg|(apply bZ<;>intro hnx)|apply cK mixed hC hGL (by kernel_rfl)|(apply cq;assumption;exact hS;exact rfl)|(show Rt _ _ _;exact bK)|fail)
 all_goals try conv=>whnf
 refine lp hC hGL (λ(i:Nat)=>[(1,.str [a,b]),(45,.own 0 (.pointer (some ⟨bl,0,none⟩)))]) (λi=>[.iter bl s i]) (λi=>i<=s.length/\Lib.NoAny s [a,b] i) (λi=>s.length-i) 0 ?_ ad rfl ?_
 ·exact⟨Nat.zero_le _,Lib.NoAny.zero _ _⟩
 rintro i ⟨hi,hno⟩;have hz:=λ(h:i<s.length)=>rZ (s.drop i) (by rw[List.length_drop];omega);have hR:∃z:Int,i<s.length->aj prog G 223 [.str [a,b],.int .i32 (eC (s.drop i))] (.int .i64 z)/\(0<=z↔(eC (s.drop i):Int)=a.toNat\/(eC (s.drop i):Int)=b.toNat):=by
  by_cases h:i<s.length
  ·obtain⟨z,h1,h2⟩:=yz (G:=G) ha hb' (eC (s.drop i)) (hz h).1;exact⟨z,λ_=>⟨h1,h2⟩⟩
  ·exact⟨0,λh'=>absurd h' h⟩
 obtain⟨z,hR⟩:=hR;repeat' (first|(conv=>whnf);first|refine .w ?_|refine .v ?_|refine cj ?_ ?_<;>(intro hb;try exact dd hb)|apply aF|apply bf|(apply bQ<;>intro hb)|(apply bR;intro hbd)|(apply aZ;first|exact(hR (by omega)).1)|(apply aL (i:=0) rfl;first|exact(hR (by omega)).1)|(apply bS;intro bl)|(apply cb;intro va vk vc hva)|(apply ca;intro v)|(apply cd;intro bl cap hcap)|apply cg|(apply bZ<;>intro hnx)|apply cK mixed hC hGL (by kernel_rfl)|(apply cq;assumption;(first|exact(hR (by omega)).1);exact rfl)|(show Rt _ _ _;exact bK)|fail)
 all_goals try conv=>whnf
 ·obtain⟨z1,z2,z3,z4,z5⟩:=hz hnx;have hr:=(hR hnx).2.1 hb;have h1:=z4 (by omega);have hx:s[i]? =some s[i]:=List.getElem?_eq_getElem hnx;have h2:=ec hx;rw[dg,Nat.add_zero] at h1;refine ak ?_;rw[Lib.indexAny_hit hno hx ((Hk _).2 (by omega))]
 ·obtain⟨z1,z2,z3,z4,z5⟩:=hz hnx;rw[List.length_drop] at z3;have hr:¬((eC (s.drop i):Int)=a.toNat\/(eC (s.drop i):Int)=b.toNat):=λh=>by have:=(hR hnx).2.2 h;omega
  refine di (i+d8 (s.drop i)) ⟨by omega,?_⟩ (by omega) ⟨rfl,rfl,trivial⟩ rfl;intro j x hj hx;by_cases h:j<i
  ·exact hno j x h hx
  ·have h2:=ec hx;apply PG;by_cases h128:(eC (s.drop i):Int)<128
   ·have h3:=z4 h128;rw[dg,Nat.add_zero] at h3;have:j=i:=by omega
    subst this;omega
   ·have h3:=z5 (by omega) (j-i) (by omega);rw[dg,show i+(j-i)=j by omega] at h3;omega
 ·have:i=s.length:=by omega
  subst this;refine ak ?_;rw[Lib.indexAny_none hno];rfl
theorem yA {G:Glo}{a b:UInt8}(ha:a.toNat<128)(hb':b.toNat<128)(s:List UInt8)(h8:8<s.length)(hl:s.length<100000):aj prog G 191 [.str s,.str [a,b]] (.int .i64 (Lib.indexAny s [a,b])):=by
 refine bO rfl call191 ?_;rintro R args ⟨x,t,e,hx,y,t',e',hy,rfl⟩ w _ _;obtain rfl:=aI.1 hx;obtain rfl:=aI.1 hy;subst e';obtain rfl:=fb e;refine(strings_IndexAny_long (λw=>by kernel_rfl) ⟨s.toArray⟩ ⟨#[a,b]⟩ w (by show 2<=2;omega) (by rw[bG];exact h8) (by rw[bG];omega) (by show 2<4294967281;omega) ?_).mono ?_
 ·intro j x hx
  match j with
  |0=>cases hx;exact ha
  |1=>cases hx;exact hb'
  |j+2=>simp at hx
 ·rintro e w' ⟨rfl,rfl⟩;exact⟨rfl,((Below.refl w.heap.size w).alloc (Nat.le_refl _) _).alloc (by show w.heap.size<=(w.heap.push _).size;simp) _⟩
theorem Bd {G:Glo}{a b:UInt8}(ha:a.toNat<128)(hb':b.toNat<128)(s:List UInt8)(hl:s.length<100000):aj prog G 191 [.str s,.str [a,b]] (.int .i64 (Lib.indexAny s [a,b])):=by
 by_cases h:s.length<=8
 ·exact wJ ha hb' s h
 ·exact yA ha hb' s (by omega) hl
end
section
attribute [local irreducible] bN aw aa aC bg ab ae
theorem Gq {G:Glo}(s p:List UInt8):aj prog G 112 [.str s,.str p] (.bool (p.isPrefixOf s)):=by
 refine bO rfl call112 ?_;rintro R args ⟨x,t,e,hx,y,t',e',hy,rfl⟩ w hG hs;obtain rfl:=aI.1 hx;obtain rfl:=aI.1 hy;subst e';obtain rfl:=fb e;refine(strings_HasPrefix ⟨s.toArray⟩ ⟨p.toArray⟩ w).mono ?_;rintro e w' ⟨rfl,rfl⟩;exact⟨by simp[Lib.hasPrefix,AVal.conc],Below.refl _ _⟩
end
section
def wn (first:Bool)(c:Int):Bool:=cT c&& !(first&&decide (c<=57))
def eE (first:Bool)(a:Nat)(x:List UInt8):Err:=
 if 0<=jf (λc=> !wn first c) x then .at 3 (a+jf (λc=> !wn first c) x) else if x.length=0 then .at 7 a else if 8<x.length then .at 4 a else .none
def Err.isNone:Err->Bool
 |.none=>true
 |_=>false
def eO:Bool->Nat->List (List UInt8)->Err
 |_,_,[]=>.none
 |first,a,x::xs=>if(eE first a x).isNone then eO false (a+x.length+1) xs else eE first a x
def dF (s:List UInt8):Err:=eO true 0 (cf 45 s)
theorem ql {c:UInt8}:∀{s p:List UInt8},p∈cf c s->c∉p
 |[],p,h=>by simp[cf] at h;subst h;simp
 |x::t,p,h=>by
  by_cases hx:x=c
  ·rw[cf,if_pos hx] at h;rcases List.mem_cons.1 h with rfl|h
   ·simp
   ·exact ql h
  ·rw[cf,if_neg hx] at h;cases h1:cf c t with
   |nil=>exact absurd h1 (qk c t)
   |cons q qs=>
    rw[h1] at h;rcases List.mem_cons.1 h with rfl|h
    ·have:=ql (s:=t) (p:=q) (c:=c) (by rw[h1];simp)
     simp[this,Ne.symm hx]
    ·exact ql (s:=t) (by rw[h1];simp[h])
theorem P2 {c:UInt8}{u v:List UInt8}{x:UInt8}(hu:c∉u)(hx:x≠c):∃q qs,cf c (u++x::v)=(u++x::q)::qs:=by
 obtain⟨p,ps,h1,h2⟩:=vp (v:=x::v) hu;rw[cf,if_neg hx] at h1;cases h3:cf c v with
 |nil=>exact absurd h3 (qk c v)
 |cons q qs=>
  rw[h3] at h1;cases h1;exact⟨_,_,h2⟩
theorem Ex {u v:List UInt8}{j:Nat}(h:j<u.length):aa (u++v) j=aa u j:=by
 unfold aa;simp[List.getD,List.getElem?_append,h]
theorem Ew {u v:List UInt8}{j:Nat}(h:u.length<=j):aa (u++v) j=aa v (j-u.length):=by
 unfold aa;simp[List.getD,List.getElem?_append,show ¬j<u.length by omega]
theorem Rk {f:Int->Bool}{u q:List UInt8}{x:UInt8}(hu:∀j,j<u.length->f (aa u j:Int)=false)(hx:f (x.toNat:Int)=true):jf f (u++x::q)=u.length:=by
 refine mG (by simp) ?_ (λj hj=>by rw[Ex hj];exact hu j hj);rw[Ew (Nat.le_refl _),Nat.sub_self];exact hx
theorem xg (s:List UInt8)(k i:Nat)(h1:k<=i)(h2:i<=s.length):s.drop k=(s.drop k).take (i-k)++s.drop i:=by
 have e:=(List.take_append_drop (i-k) (s.drop k)).symm;rw[List.drop_drop,show k+(i-k)=i by omega] at e;exact e
theorem Nk {s:List UInt8}{k i:Nat}(h1:k<=i)(h2:i<s.length)(hg:∀j,k<=j->j<i->aa s j≠45/\wn (decide (k=0)) (aa s j:Int)=true)(hc:aa s i≠45)(hb:wn (decide (k=0)) (aa s i:Int)=false)(b:Bool)(hbk:b=decide (k=0)):
  eO b k (cf 45 (s.drop k))= .at 3 i:=by
 subst hbk;have e:=xg s k i h1 (by omega);rw[List.drop_eq_getElem_cons h2] at e;have hl:((s.drop k).take (i-k)).length=i-k:=by rw[List.length_take,List.length_drop];omega
 have hba:∀j,j<i-k->aa ((s.drop k).take (i-k)) j=aa s (k+j):=λj hj=>by rw[eR hj,dg]
 have hu:(45:UInt8)∉(s.drop k).take (i-k):=by
  intro hm;obtain⟨j,hj,ej⟩:=List.getElem_of_mem hm;rw[hl] at hj;have h3:=(hg (k+j) (by omega) (by omega)).1;rw[<-hba j hj,bM (by omega),ej] at h3;exact h3 rfl
 have hx:s[i]≠45:=λh=>hc (by rw[bM h2,h];rfl);obtain⟨q,qs,hs⟩:=P2 (v:=s.drop (i+1)) hu hx;rw[<-e] at hs;rw[hs,eO];have hf:jf (λc=> !wn (decide (k=0)) c) ((s.drop k).take (i-k)++s[i]::q)=((i-k:Nat):Int):=by
  rw[Rk (f:=λc=> !wn (decide (k=0)) c),hl]
  ·intro j hj;rw[hl] at hj;rw[hba j hj,(hg (k+j) (by omega) (by omega)).2];rfl
  ·rw[<-bM h2,hb];rfl
 have hp:eE (decide (k=0)) k ((s.drop k).take (i-k)++s[i]::q)= .at 3 i:=by
  unfold eE;rw[hf,if_pos (by omega),show((k:Nat):Int)+((i-k:Nat):Int)=i by omega]
 rw[hp];rfl
theorem DD {s:List UInt8}{k i:Nat}(h1:k<=i)(h2:i<=s.length)(hg:∀j,k<=j->j<i->aa s j≠45/\wn (decide (k=0)) (aa s j:Int)=true)(hc:i=s.length\/aa s i=45)(b:Bool)(hbk:b=decide (k=0)):
  eO b k (cf 45 (s.drop k))=if i=k then .at 7 k else if 8<i-k then .at 4 k else if i=s.length then .none else eO false (i+1) (cf 45 (s.drop (i+1))):=by
 subst hbk;have e:=xg s k i h1 (by omega);have hl:((s.drop k).take (i-k)).length=i-k:=by rw[List.length_take,List.length_drop];omega
 have hba:∀j,j<i-k->aa ((s.drop k).take (i-k)) j=aa s (k+j):=λj hj=>by rw[eR hj,dg]
 have hu:(45:UInt8)∉(s.drop k).take (i-k):=by
  intro hm;obtain⟨j,hj,ej⟩:=List.getElem_of_mem hm;rw[hl] at hj;have h3:=(hg (k+j) (by omega) (by omega)).1;rw[<-hba j hj,bM (by omega),ej] at h3;exact h3 rfl
 have hs:cf 45 (s.drop k)=(s.drop k).take (i-k)::(if i=s.length then[] else cf 45 (s.drop (i+1))):=by
  by_cases hi:i=s.length
  ·rw[if_pos hi];rw[List.drop_eq_nil_of_le (show s.length<=i by omega),List.append_nil] at e;have hu':(45:UInt8)∉s.drop k:=by rw[e];exact hu
   rw[y4 hu'];exact congrArg (λz=>[z]) e
  ·rw[if_neg hi];have hc:=hc.resolve_left hi;have h2:i<s.length:=by omega
   rw[List.drop_eq_getElem_cons h2] at e;have hx:s[i]=45:=UInt8.toNat_inj.1 (by rw[<-bM h2,hc];rfl);rw[hx] at e;generalize hw:(s.drop k).take (i-k)=w at*
   rw[e,L2 hu]
 have hf:jf (λc=> !wn (decide (k=0)) c) ((s.drop k).take (i-k))= -1:=iM λj hj=>by
  rw[hl] at hj;rw[hba j hj,(hg (k+j) (by omega) (by omega)).2];rfl
 rw[hs,eO];have hp:eE (decide (k=0)) k ((s.drop k).take (i-k))=if i=k then .at 7 k else if 8<i-k then .at 4 k else .none:=by
  unfold eE;rw[hf,if_neg (by omega),hl];by_cases h3:i=k
  ·rw[if_pos (by omega),if_pos h3]
  ·rw[if_neg (by omega),if_neg h3]
 rw[hp,hl];by_cases h3:i=k
 ·rw[if_pos h3,if_pos h3];rfl
 ·rw[if_neg h3,if_neg h3];by_cases h4:8<i-k
  ·rw[if_pos h4,if_pos h4];rfl
  ·rw[if_neg h4,if_neg h4,if_pos (show Err.none.isNone=true from rfl),show k+(i-k)+1=i+1 by omega];by_cases h5:i=s.length
   ·rw[if_pos h5,if_pos h5];rfl
   ·rw[if_neg h5,if_neg h5]
theorem Q2 {s:List UInt8}{i:Nat}(h:i<s.length):isS ((s.take (i+1)).drop i)=cT (aa s i):=by
 have hl:((s.take (i+1)).drop i).length=1:=by rw[List.length_drop,List.length_take];omega
 have hb:aa ((s.take (i+1)).drop i) 0=aa s i:=by rw[dg,eR (by omega),Nat.add_zero]
 rw[Bool.eq_iff_iff,isS,hl];simp only[Bool.and_eq_true,xN,hl,decide_eq_true_eq];constructor
 ·intro h;rw[<-hb];exact h.1 0 (by omega)
 ·intro h;exact⟨λj hj=>by rw[show j=0 by omega,hb];exact h,by omega,by omega⟩
theorem H6 {b:Bool}{c:Int}:wn b c=true↔cT c=true/\(b=true->57<c):=by
 unfold wn;cases b<;>simp
theorem H7 {b:Bool}{c:Int}:wn b c=false↔(cT c=false\/(b=true/\c<=57)):=by
 unfold wn;cases b<;>cases cT c<;>simp
attribute [local irreducible] bN aw aa aC bg ab ae
attribute [local irreducible] cf eO wn isS cT
theorem pQ {G:Glo}(s:List UInt8)(hl:s.length<=9223372036854775000):aj prog G 140 [.str s] (dF s).A:=by
 refine ao func140 call140 λC hC hGL=> ?_;have hN:=λi (h:i<s.length)=>qJ (G:=G) ((s.take (i+1)).drop i) (by rw[List.length_drop,List.length_take];omega);refine a6 ?_;intros;refine lp hC hGL (λ(x:Nat×Nat)=>[(0,.str s),(3,.int .i64 x.2),(4,.int .i64 x.1)]) (λ_=>[]) (λx=>x.2<=x.1/\x.1<=s.length+1/\(x.1=s.length+1->x.2=s.length+1)/\(∀j,x.2<=j->j<x.1->aa s j≠45/\wn (decide (x.2=0)) (aa s j:Int)=true)/\dF s=if x.2=s.length+1 then .none else eO (decide (x.2=0)) x.2 (cf 45 (s.drop x.2))) (λx=>s.length+1-x.1) (0,0) ?_ ad rfl ?_
 ·exact⟨Nat.le_refl _,Nat.zero_le _,λh=>by omega,λj _ h=>absurd h (Nat.not_lt_zero _),by rw[if_neg (by omega)];rfl⟩
 rintro⟨i,k⟩ ⟨h1,h2,h3,h4,h5⟩;dsimp only at h1 h2 h3 h4 h5 ⊢;by_cases hi:i<s.length
 ·have hN:=hN i hi;rw[Q2 hi] at hN;have hE:=λh=>DD h1 (by omega) h4 (.inr h) _ rfl;have hB:=λhc hb=>Nk h1 hi h4 hc hb _ rfl;rw[if_neg (by omega)] at h5;repeat' (first|(conv=>whnf);first|refine .w ?_|refine .v ?_|refine cj ?_ ?_<;>(intro hb;try exact dd hb)|apply aF|apply bf|(apply bQ<;>intro hb)|(apply bR;intro hbd)|(apply aZ;exact hN)|(apply aL (i:=0) rfl;exact hN)|(apply bS;intro bl)|(apply cb;intro va vk vc hva)|(apply ca;intro v)|(apply cd;intro bl cap hcap)|apply cg|(apply bZ<;>intro hnx)|apply cK mixed hC hGL (by kernel_rfl)|(apply cq;assumption;exact hN;exact rfl)|(show Rt _ _ _;exact bK)|fail)
  all_goals try conv=>whnf
  ·apply ak;rw[h5,hB (by omega) (H7.2 (.inr ⟨by simp;omega,by omega⟩))];rfl
  ·refine di (i+1,k) ?_ ?_ ad rfl
   ·refine⟨by omega,by omega,λh=>by omega,λj g1 g2=> ?_,by rw[if_neg (by omega)];exact h5⟩;by_cases g:j=i
    ·subst g;exact⟨by omega,H6.2 ⟨by assumption,λ_=>by omega⟩⟩
    ·exact h4 j g1 (by omega)
   ·dsimp only;omega
  ·refine di (i+1,k) ?_ ?_ ad rfl
   ·refine⟨by omega,by omega,λh=>by omega,λj g1 g2=> ?_,by rw[if_neg (by omega)];exact h5⟩;by_cases g:j=i
    ·subst g;exact⟨by omega,H6.2 ⟨by assumption,λh=>by simp at h;omega⟩⟩
    ·exact h4 j g1 (by omega)
   ·dsimp only;omega
  ·apply ak;rw[h5,hB (by omega) (H7.2 (.inl hb))];rfl
  ·apply ak;have hE:=hE (by omega);obtain rfl:i=k:=by omega
   rw[h5,hE,if_pos rfl];rfl
  ·apply ak;have hE:=hE (by omega);rw[h5,hE,if_neg (by omega),if_pos (by omega)];rfl
  ·have hE:=hE (by omega);rw[if_neg (by omega),if_neg (by omega)] at hE;refine di (i+1,i+1) ?_ ?_ ad rfl
   ·refine⟨Nat.le_refl _,by omega,λ_=>by omega,λj g1 g2=>by omega,?_⟩;rw[h5,hE];dsimp only
    by_cases g:i=s.length
    ·rw[if_pos g,if_pos (by omega)]
    ·rw[if_neg g,if_neg (by omega)];simp
   ·dsimp only;omega
 ·have hE:=λh=>DD h1 h h4 (.inl (by omega)) _ rfl;refine xw ?_;repeat' first|exact .n|apply Lc.mk
  all_goals intros
  ·apply ak;have hE:=hE (by omega);rw[if_neg (by omega)] at h5;obtain rfl:i=k:=by omega
   rw[h5,hE,if_pos rfl];rfl
  ·apply ak;have hE:=hE (by omega);rw[if_neg (by omega)] at h5;rw[h5,hE,if_neg (by omega),if_pos (by omega)];rfl
  ·have hE:=hE (by omega);rw[if_neg (by omega)] at h5;rw[if_neg (by omega),if_neg (by omega)] at hE;refine di (i+1,i+1) ?_ ?_ ad rfl
   ·refine⟨Nat.le_refl _,by omega,λ_=>by omega,λj g1 g2=>by omega,?_⟩;rw[h5,hE];dsimp only
    by_cases g:i=s.length
    ·rw[if_pos g,if_pos (by omega)]
    ·rw[if_neg g,if_neg (by omega)];simp
   ·dsimp only;omega
  ·apply ak;rw[h5,if_pos (h3 (by omega))];rfl
end
section
theorem KB {s:List UInt8}{j:Nat}(h:j<s.length):aa s j=s[j].toNat:=by
 simp[aa,List.getD,h]
theorem Vq {c:UInt8}{k:Nat}(hk:k<256):c=UInt8.ofNat k↔c.toNat=k:=by
 constructor
 ·rintro rfl;rw[UInt8.toNat_ofNat_of_lt' hk]
 ·intro h;rw[<-h,UInt8.ofNat_toNat]
def escF (c:UInt8):List UInt8:=if c=92 then[92,92] else if c=44 then[92,44] else if c=59 then[92,59] else if c=10 then[92,110] else[c]
def escS (s:List UInt8):List UInt8:=s.flatMap escF
theorem Um:escF 92=[92,92]:=rfl
theorem Uo:escF 44=[92,44]:=rfl
theorem Un:escF 59=[92,59]:=rfl
theorem Up:escF 10=[92,110]:=rfl
theorem Eb {c:UInt8}(h0:c.toNat≠92)(h1:c.toNat≠44)(h2:c.toNat≠59)(h3:c.toNat≠10):escF c=[c]:=by
 unfold escF;rw[if_neg (by rintro rfl;exact h0 rfl),if_neg (by rintro rfl;exact h1 rfl),if_neg (by rintro rfl;exact h2 rfl),if_neg (by rintro rfl;exact h3 rfl)]
theorem N6:escS []=[]:=rfl
theorem Kl (c:UInt8)(s:List UInt8):escS (c::s)=escF c++escS s:=rfl
theorem N8 (s t:List UInt8):escS (s++t)=escS s++escS t:=by simp[escS]
theorem N9 (c:UInt8):1<=(escF c).length/\(escF c).length<=2:=by
 unfold escF
 (repeat' split)<;>simp
theorem rj (s:List UInt8):s.length<=(escS s).length/\(escS s).length<=2*s.length:=by
 induction s with
 |nil=>exact⟨Nat.le_refl _,Nat.le_refl _⟩
 |cons c t ih=>
  have:=N9 c;rw[Kl,List.length_append,List.length_cons];omega
theorem Kk {s:List UInt8}{i:Nat}(h:i<s.length):escS (s.take (i+1))=escS (s.take i)++escF s[i]:=by
 rw[List.take_succ_eq_append_getElem h,N8];simp[escS]
def LT (N:Nat)(a0 a1 a2 a3 t:AVal):List AVal:=(((((List.replicate N (.raw (.slice none 0 0))).set 10 a0).set 59 a1).set 44 a2).set 92 a3)++[t]
def oM (a0 a1 a2 a3 t:AVal):List AVal:=LT 256 a0 a1 a2 a3 t
theorem LS (N:Nat)(a0 a1 a2 a3 t:AVal):(LT N a0 a1 a2 a3 t)[N]? =some t:=by
 unfold LT;rw[List.getElem?_append_right (by simp)];simp
theorem Cl (a0 a1 a2 a3 t:AVal):(oM a0 a1 a2 a3 t)[256]? =some t:=LS 256 a0 a1 a2 a3 t
theorem LR {N n:Nat}{a0 a1 a2 a3 t:AVal}(hn:n<N):(LT N a0 a1 a2 a3 t)[n]? =some (if n=92 then a3 else if n=44 then a2 else if n=59 then a1 else if n=10 then a0 else .raw (.slice none 0 0)):=by
 unfold LT;rw[List.getElem?_append_left (by simpa using hn)];by_cases h3:n=92
 ·subst h3;rw[List.getElem?_set_self (by simpa using hn),if_pos rfl]
 ·rw[if_neg h3,List.getElem?_set_ne (Ne.symm h3)]
  by_cases h2:n=44
  ·subst h2;rw[List.getElem?_set_self (by simpa using hn),if_pos rfl]
  ·rw[if_neg h2,List.getElem?_set_ne (Ne.symm h2)]
   by_cases h1:n=59
   ·subst h1;rw[List.getElem?_set_self (by simpa using hn),if_pos rfl]
   ·rw[if_neg h1,List.getElem?_set_ne (Ne.symm h1)]
    by_cases h0:n=10
    ·subst h0;rw[List.getElem?_set_self (by simpa using hn),if_pos rfl]
    ·rw[if_neg h0,List.getElem?_set_ne (Ne.symm h0)]
     simp[hn]
theorem lD {n:Nat}{a0 a1 a2 a3 t:AVal}(hn:n<256):(oM a0 a1 a2 a3 t)[n]? =some (if n=92 then a3 else if n=44 then a2 else if n=59 then a1 else if n=10 then a0 else .raw (.slice none 0 0)):=LR (N:=256) hn
end
section
theorem eo {l:List (List UInt8)}{k:Nat}:(l.getD k []).length<=Lib.lens l:=by
 rw[List.getD_eq_getElem?_getD];cases h:l[k]? with
 |none=>simp
 |some x=>
  have h1:=Lib.lens_take_succ l k x h
  have h2:=Lib.lens_take_le l (k+1)
  simp only[Option.getD_some]
  omega
end
section
def joinT (l:List (List UInt8)):List UInt8:=Lib.join (l.map escS) [44]
def qP (l:List (List UInt8)):Err:=if l=[] then .errno 8 else .none
theorem x6 {l:List (List UInt8)}{k:Nat}{f:List UInt8->List UInt8}(h:k<l.length):(l.map f).take (k+1)=(l.map f).take k++[f (l.getD k [])]:=by
 rw[List.take_succ_eq_append_getElem (by simpa using h),List.getElem_map,List.getD_eq_getElem?_getD,List.getElem?_eq_getElem h];rfl
theorem Ni (l:List (List UInt8)):Lib.lens (l.map escS)<=2*Lib.lens l:=by
 induction l with
 |nil=>exact Nat.le_refl _
 |cons x r ih=>
  have h1:=(rj x).2;have e1:Lib.lens (x::r)=x.length+Lib.lens r:=by simp[Lib.lens]
  have e2:Lib.lens ((x::r).map escS)=(escS x).length+Lib.lens (r.map escS):=by simp[Lib.lens]
  omega
theorem ot (l:List (List UInt8)):(joinT l).length<=l.length+2*Lib.lens l:=by
 cases l with
 |nil=>simp[joinT,Lib.join_nil]
 |cons x r=>
  have h:=Ni (x::r);unfold joinT;rw[List.map_cons] at h ⊢;rw[Lib.join_length,List.length_singleton,List.length_map,List.length_cons];omega
def dS (L:List (List (List UInt8))):Nat:=L.findIdx λl=>l.isEmpty
theorem qI (L:List (List (List UInt8))):dS L<=L.length:=List.findIdx_le_length
theorem sl {L:List (List (List UInt8))}{k:Nat}(h:k<L.length)(hk:k<=dS L)(hn:L.getD k []=[]):dS L=k:=by
 rcases Nat.lt_or_ge k (dS L) with h1|h1
 ·have:=List.not_of_lt_findIdx h1;rw[List.getD_eq_getElem?_getD,List.getElem?_eq_getElem h] at hn;simp only[Option.getD_some] at hn;rw[hn] at this;simp at this
 ·omega
theorem pN {L:List (List (List UInt8))}{k:Nat}(h:k<L.length)(hk:k<=dS L)(hn:L.getD k []≠[]):k+1<=dS L:=by
 rcases Nat.lt_or_ge k (dS L) with h1|h1
 ·exact h1
 ·exfalso;have e:dS L=k:=by omega
  have h2:L.findIdx (λl=>l.isEmpty)<L.length:=by show dS L<_;omega
  have:=List.findIdx_getElem (w:=h2);rw[List.getD_eq_getElem?_getD,List.getElem?_eq_getElem h] at hn;apply hn;simp only[Option.getD_some];have e2:L[L.findIdx λl=>l.isEmpty]=L[k]:=by congr 1
  rw[e2] at this;exact List.isEmpty_iff.1 this
def gw (L:List (List (List UInt8))):List UInt8:=if dS L<L.length then[] else Lib.join (L.map joinT) [59]
def g9 (L:List (List (List UInt8))):Err:=if L=[] then .errno 8 else if dS L<L.length then .at 8 (dS L:Nat) else .none
def eF (L:List (List (List UInt8)))(i:Nat):AVal:=.list 1 (L.getD i []).length (ay (L.getD i []))
structure Small (L:List (List (List UInt8))):Prop where
 n:L.length<=2000000
 k:∀k,(L.getD k []).length<=2000000/\Lib.lens (L.getD k [])<=2000000
theorem QT {xs:List (List UInt8)}{M:Nat}(h:∀x,x∈xs->x.length<=M):Lib.lens xs<=xs.length*M:=by
 induction xs with
 |nil=>simp[Lib.lens]
 |cons x r ih=>
  have e1:Lib.lens (x::r)=x.length+Lib.lens r:=by simp[Lib.lens]
  have h1:=h x (by simp);have h2:=ih (λy hy=>h y (by simp[hy]));rw[List.length_cons,Nat.add_mul];omega
theorem wA {xs:List (List UInt8)}{M:Nat}{c:UInt8}(h:∀x,x∈xs->x.length<=M)(hn:xs.length<=2000000)(hM:M<=6000000):(Lib.join xs [c]).length<=140737488355328:=by
 cases xs with
 |nil=>simp[Lib.join_nil]
 |cons x r=>
  have h1:=QT h;rw[Lib.join_length,List.length_singleton];have h2:(x::r).length*M<=2000000*6000000:=Nat.mul_le_mul hn hM;rw[List.length_cons] at hn;omega
theorem vy {L:List (List (List UInt8))}(h:Small L):(Lib.join (L.map joinT) [59]).length<=140737488355328:=by
 refine wA (M:=6000000) (λx hx=> ?_) (by rw[List.length_map];exact h.n) (Nat.le_refl _);obtain⟨l,hl,rfl⟩:=List.mem_map.1 hx;obtain⟨k,hk,rfl⟩:=List.getElem_of_mem hl;have h1:=h.k k;rw[List.getD_eq_getElem?_getD,List.getElem?_eq_getElem hk] at h1;simp only[Option.getD_some] at h1;have:=ot L[k];omega
theorem nj {L:List (List (List UInt8))}{k:Nat}{f:List (List UInt8)->List UInt8}(h:k<L.length):(L.map f).take (k+1)=(L.map f).take k++[f (L.getD k [])]:=by
 rw[List.take_succ_eq_append_getElem (by simpa using h),List.getElem_map,List.getD_eq_getElem?_getD,List.getElem?_eq_getElem h];rfl
end
section
def ow (lines:Bool)(c:Int):Bool:=decide ((c<32/\c≠9/\(c≠10\/lines=false))\/c=127)
def fh (lines:Bool)(s:List UInt8):Bool:=decide (dy s<0/\jf (ow lines) s<0)
end
section
def Err.b:Err->Err
 |.none=>.none
 |.errno e=>.errno e
 |.at e _=>.errno e
theorem Err.b_e (x:Err):x.b.e=x.e:=by cases x<;>rfl
theorem Err.b_p (x:Err):x.b.p= -1:=by cases x<;>rfl
structure Vl where
 t:Int
 s:List UInt8
 L:List (List (List UInt8))
 st:Stm
 n:Int
def Vl.A (v:Vl):AVal:=.agg [.int .i64 v.t,.str v.s,.list 1 v.L.length (eF v.L),.int .i64 v.st.y,.int .i64 v.st.m,.int .i64 v.st.d,.int .i64 v.st.h,.int .i64 v.st.i,.int .i64 v.st.s,.bool v.st.z,.int .i64 v.st.o,.int .i64 v.n]
def ly (t:Stm):Bool:=decide (t.y=0/\t.m=0/\t.d=0/\t.h=0/\t.i=0/\t.s=0/\t.z=false/\t.o=0)
def Vl.only (v:Vl):Bool:=decide ((v.s.length=0\/v.t=1\/v.t=4\/v.t=7\/v.t=8)/\(v.L.length=0\/v.t=2\/v.t=3)/\(ly v.st=true\/v.t=5)/\(v.n=0\/v.t=6))
def NQ (L:List (List (List UInt8))):Bool:=L.all λl=>l.all (fh true)
def tP (t:Int)(L:List (List (List UInt8))):Err:=if L.length=0\/(t=2/\L.length≠1) then .errno 8 else if dS L<L.length then .errno 8 else if NQ L then .none else .errno 3
def Vl.E (v:Vl):Err:=if v.t<1\/9<=v.t\/v.only=false then .errno 1
 else if v.t=2\/v.t=3 then tP v.t v.L
 else if v.t=4 then(gu v.s).b
 else if v.t=5 then v.st.E
 else if v.t=6 then lj v.n
 else if v.t=7 then(dF v.s).b
 else if fh (decide (v.t=1)) v.s then .none else .errno 3
def Vl.T (v:Vl):List UInt8:=match v.E with
 |.none=>if v.t=1 then escS v.s else if v.t=2\/v.t=3 then gw v.L else if v.t=5 then v.st.T else if v.t=6 then jp v.n else v.s
 |_=>[]
end
section
def Vd (s:List UInt8):Prop:=gC s=none
theorem Lh:Vd []:=rfl
theorem Hg {s:List UInt8}(h0:s.length≠0)(h:(aD s).2≠0):Vd s↔Vd (s.drop (aD s).2):=by
 unfold Vd gC;obtain⟨k,hk⟩:=Nat.exists_eq_succ_of_ne_zero h0
 conv=>lhs;rw[hk]
 simp only[yJ]
 rw[if_neg h0,if_neg h,Ad k (s.drop (aD s).2) (by rw[List.length_drop];omega)]
 cases yJ (s.drop (aD s).2).length (s.drop (aD s).2)<;>simp
theorem Vo {s:List UInt8}(h0:s.length≠0)(h:Vd s):(aD s).2≠0:=by
 intro hn;unfold Vd gC at h;obtain⟨k,hk⟩:=Nat.exists_eq_succ_of_ne_zero h0;rw[hk] at h;simp only[yJ] at h;rw[if_neg h0,if_pos hn] at h;cases h
theorem fj {a b:List UInt8}{k:Nat}(h:k<a.length):aa (a++b) k=aa a k:=by
 unfold aa;rw[List.getD_eq_getElem?_getD,List.getD_eq_getElem?_getD,List.getElem?_append_left h]
theorem lV {a b:List UInt8}{k:Nat}(h:bH a k=true):bH (a++b) k=true:=by
 unfold bH at h ⊢;rw[Bool.and_eq_true,decide_eq_true_eq] at h;rw[fj h.1,h.2,Bool.and_true,decide_eq_true_eq,List.length_append];omega
theorem gr {a:List UInt8}{k:Nat}(h:bH a k=true):k<a.length/\128<=aa a k:=by
 unfold bH at h;rw[Bool.and_eq_true,decide_eq_true_eq] at h;have:=eq_of_beq h.2;exact⟨h.1,by omega⟩
inductive KS (s:List UInt8):Nat->Prop
 |one:s.length≠0->aa s 0<128->KS s 1
 |two:s.length≠0->¬aa s 0<128->aa s 0/32=6->bH s 1=true->128<=xq s->jL (xq s)=true->KS s 2
 |three:s.length≠0->¬aa s 0<128->aa s 0/16=14->bH s 1=true->bH s 2=true->2048<=xp s->jL (xp s)=true->KS s 3
 |four:s.length≠0->¬aa s 0<128->aa s 0/8=30->bH s 1=true->bH s 2=true->bH s 3=true->65536<=xo s->jL (xo s)=true->KS s 4
theorem VP {s:List UInt8}(h:(aD s).2≠0):KS s (aD s).2:=by
 by_cases h0:s.length=0
 ·exact absurd (by unfold aD;rw[if_pos h0]) h
 by_cases h1:aa s 0<128
 ·have e:aD s=(aa s 0,1):=by unfold aD;rw[if_neg h0,if_pos h1]
  rw[e];exact .one h0 h1
 by_cases h2:aa s 0/32=6
 ·have e:aD s=if bH s 1&&decide (128<=xq s)&&jL (xq s) then(xq s,2) else(0,0):=by unfold aD;rw[if_neg h0,if_neg h1,if_pos h2]
  rw[e] at h ⊢
  split at h
  ·rename_i hc
   rw[if_pos hc]
   simp only[Bool.and_eq_true,decide_eq_true_eq] at hc
   exact .two h0 h1 h2 hc.1.1 hc.1.2 hc.2
  ·exact absurd rfl h
 by_cases h3:aa s 0/16=14
 ·have e:aD s=if bH s 1&&bH s 2&&decide (2048<=xp s)&&jL (xp s) then(xp s,3) else(0,0):=by unfold aD;rw[if_neg h0,if_neg h1,if_neg h2,if_pos h3]
  rw[e] at h ⊢
  split at h
  ·rename_i hc
   rw[if_pos hc]
   simp only[Bool.and_eq_true,decide_eq_true_eq] at hc
   exact .three h0 h1 h3 hc.1.1.1 hc.1.1.2 hc.1.2 hc.2
  ·exact absurd rfl h
 by_cases h4:aa s 0/8=30
 ·have e:aD s=if bH s 1&&bH s 2&&bH s 3&&decide (65536<=xo s)&&jL (xo s) then(xo s,4) else(0,0):=by unfold aD;rw[if_neg h0,if_neg h1,if_neg h2,if_neg h3,if_pos h4]
  rw[e] at h ⊢
  split at h
  ·rename_i hc
   rw[if_pos hc]
   simp only[Bool.and_eq_true,decide_eq_true_eq] at hc
   exact .four h0 h1 h4 hc.1.1.1.1 hc.1.1.1.2 hc.1.1.2 hc.1.2 hc.2
  ·exact absurd rfl h
 ·exact absurd (by unfold aD;rw[if_neg h0,if_neg h1,if_neg h2,if_neg h3,if_neg h4]) h
theorem VO {s:List UInt8}{n:Nat}(h:KS s n):(aD s).2=n:=by
 cases h with
 |one h0 h1=>unfold aD;rw[if_neg h0,if_pos h1]
 |two h0 h1 h2 c1 p m=>unfold aD;rw[if_neg h0,if_neg h1,if_pos h2,if_pos (by simp[c1,p,m])]
 |three h0 h1 h3 c1 c2 p m=>
  unfold aD;rw[if_neg h0,if_neg h1,if_neg (by omega),if_pos h3,if_pos (by simp[c1,c2,p,m])]
 |four h0 h1 h4 c1 c2 c3 p m=>
  unfold aD;rw[if_neg h0,if_neg h1,if_neg (by omega),if_neg (by omega),if_pos h4,if_pos (by simp[c1,c2,c3,p,m])]
theorem TN {a b:List UInt8}{n:Nat}(h:KS a n):KS (a++b) n:=by
 have hl:a.length≠0->(a++b).length≠0:=λh=>by rw[List.length_append];omega
 cases h with
 |one h0 h1=>exact .one (hl h0) (by rwa [fj (by omega)])
 |two h0 h1 h2 c1 p m=>
  have e0:=fj (b:=b) (show 0<a.length by omega)
  have e1:=fj (b:=b) (gr c1).1
  have e:xq (a++b)=xq a:=by unfold xq;rw[e0,e1]
  exact .two (hl h0) (by rwa [e0]) (by rwa [e0]) (lV c1) (by rwa [e]) (by rwa [e])
 |three h0 h1 h2 c1 c2 p m=>
  have e0:=fj (b:=b) (show 0<a.length by omega)
  have e:xp (a++b)=xp a:=by unfold xp;rw[e0,fj (gr c1).1,fj (gr c2).1]
  exact .three (hl h0) (by rwa [e0]) (by rwa [e0]) (lV c1) (lV c2) (by rwa [e]) (by rwa [e])
 |four h0 h1 h2 c1 c2 c3 p m=>
  have e0:=fj (b:=b) (show 0<a.length by omega)
  have e:xo (a++b)=xo a:=by unfold xo;rw[e0,fj (gr c1).1,fj (gr c2).1,fj (gr c3).1]
  exact .four (hl h0) (by rwa [e0]) (by rwa [e0]) (lV c1) (lV c2) (lV c3) (by rwa [e]) (by rwa [e])
theorem HS {a:List UInt8}{n:Nat}(h:KS a n):0<n/\n<=a.length/\(n=1->aa a 0<128)/\(n≠1->∀k,k<n->128<=aa a k):=by
 cases h with
 |one h0 h1=>exact⟨by omega,by omega,λ_=>h1,λh=>absurd rfl h⟩
 |two h0 h1 h2 c1 p m=>
  have:=gr c1;exact⟨by omega,by omega,λh=>by omega,λ_ k hk=>by match k,hk with|0,_=>omega|1,_=>exact this.2⟩
 |three h0 h1 h2 c1 c2 p m=>
  have:=gr c1;have:=gr c2;exact⟨by omega,by omega,λh=>by omega,λ_ k hk=>by match k,hk with|0,_=>omega|1,_=>omega|2,_=>omega⟩
 |four h0 h1 h2 c1 c2 c3 p m=>
  have:=gr c1;have:=gr c2;have:=gr c3;exact⟨by omega,by omega,λh=>by omega,λ_ k hk=>by match k,hk with|0,_=>omega|1,_=>omega|2,_=>omega|3,_=>omega⟩
theorem QA {a:List UInt8}{n:Nat}(h:KS a n):KS (a.take n) n:=by
 have hle:=HS h;have hl:(a.take n).length=n:=by rw[List.length_take];omega
 have hb:∀k,k<n->aa (a.take n) k=aa a k:=λk hk=>by
  conv=>rhs;rw[<-List.take_append_drop n a]
  rw[fj (by omega)]
 have hc:∀k,k<n->bH a k=true->bH (a.take n) k=true:=λk hk h=>by
  unfold bH at h ⊢;rw[Bool.and_eq_true] at h;rw[hb k hk,h.2,hl,Bool.and_true,decide_eq_true_eq];exact hk
 cases h with
 |one h0 h1=>exact .one (by omega) (by rwa [hb 0 (by omega)])
 |two h0 h1 h2 c1 p m=>
  have e:xq (a.take 2)=xq a:=by unfold xq;rw[hb 0 (by omega),hb 1 (by omega)]
  exact .two (by omega) (by rwa [hb 0 (by omega)]) (by rwa [hb 0 (by omega)]) (hc 1 (by omega) c1) (by rwa [e]) (by rwa [e])
 |three h0 h1 h2 c1 c2 p m=>
  have e:xp (a.take 3)=xp a:=by unfold xp;rw[hb 0 (by omega),hb 1 (by omega),hb 2 (by omega)]
  exact .three (by omega) (by rwa [hb 0 (by omega)]) (by rwa [hb 0 (by omega)]) (hc 1 (by omega) c1) (hc 2 (by omega) c2) (by rwa [e]) (by rwa [e])
 |four h0 h1 h2 c1 c2 c3 p m=>
  have e:xo (a.take 4)=xo a:=by unfold xo;rw[hb 0 (by omega),hb 1 (by omega),hb 2 (by omega),hb 3 (by omega)]
  exact .four (by omega) (by rwa [hb 0 (by omega)]) (by rwa [hb 0 (by omega)]) (hc 1 (by omega) c1) (hc 2 (by omega) c2) (hc 3 (by omega) c3) (by rwa [e]) (by rwa [e])
theorem Li {p:List UInt8->Prop}(h0:p [])(h1:∀a b:List UInt8,KS a a.length->Vd b->p b->p (a++b)):∀s,Vd s->p s:=by
 intro s;induction hn:s.length using Nat.strongRecOn generalizing s with
 |_ n ih=>
  intro hv;by_cases hz:s.length=0
  ·rw[List.length_eq_zero_iff.1 hz];exact h0
  have hne:=Vo hz hv;have hx:=VP hne;have hle:=HS hx;have hd:=(Hg hz hne).1 hv;have:=h1 (s.take (aD s).2) (s.drop (aD s).2) (by rw[List.length_take,Nat.min_eq_left hle.2.1];exact QA hx) hd (ih _ (by rw[List.length_drop];omega) _ rfl hd);rwa [List.take_append_drop] at this
theorem Ao {a b:List UInt8}(h:KS a a.length)(hb:Vd b):Vd (a++b):=by
 have hx:=VO (TN (b:=b) h);have hle:=HS h;refine(Hg (by rw[List.length_append];omega) (by omega)).2 ?_;rw[hx,List.drop_left];exact hb
theorem Lj {a b:List UInt8}(ha:Vd a)(hb:Vd b):Vd (a++b):=by
 refine Li (p:=λa=>Vd (a++b)) hb (λx y hx _ ih=> ?_) a ha;rw[List.append_assoc];exact Ao hx ih
theorem uZ:∀{s:List UInt8},(∀c∈s,c.toNat<128)->Vd s
 |[],_=>Lh
 |c::t,h=>Ao (a:=[c]) (.one (by simp) (h c (List.mem_cons_self ..))) (uZ λx hx=>h x (List.mem_cons_of_mem _ hx))
theorem GF {c:UInt8}(h:c.toNat<128):∀x∈escF c,x.toNat<128:=by
 unfold escF;intro x hx;split at hx
 ·simp only[List.mem_cons,List.not_mem_nil,or_false] at hx;rcases hx with rfl|rfl<;>decide
 split at hx
 ·simp only[List.mem_cons,List.not_mem_nil,or_false] at hx;rcases hx with rfl|rfl<;>decide
 split at hx
 ·simp only[List.mem_cons,List.not_mem_nil,or_false] at hx;rcases hx with rfl|rfl<;>decide
 split at hx
 ·simp only[List.mem_cons,List.not_mem_nil,or_false] at hx;rcases hx with rfl|rfl<;>decide
 ·simp only[List.mem_cons,List.not_mem_nil,or_false] at hx;rw[hx];exact h
theorem Rs {c:UInt8}(h:128<=c.toNat):escF c=[c]:=by
 unfold escF;rw[if_neg (λe=>by rw[e] at h;exact absurd h (by decide)),if_neg (λe=>by rw[e] at h;exact absurd h (by decide)),if_neg (λe=>by rw[e] at h;exact absurd h (by decide)),if_neg (λe=>by rw[e] at h;exact absurd h (by decide))]
theorem IA:∀{s:List UInt8},(∀c∈s,128<=c.toNat)->escS s=s
 |[],_=>rfl
 |c::t,h=>by
  have ih:=IA (s:=t) λx hx=>h x (List.mem_cons_of_mem _ hx);unfold escS at ih ⊢;rw[List.flatMap_cons,ih,Rs (h c (List.mem_cons_self ..))];rfl
theorem ST {s:List UInt8}(h:Vd s):Vd (escS s):=by
 refine Li (p:=λs=>Vd (escS s)) Lh (λa b ha _ ih=> ?_) s h;have e:escS (a++b)=escS a++escS b:=by unfold escS;exact List.flatMap_append
 rw[e];have hle:=HS ha;have hmem:∀c∈a,∃k,k<a.length/\c.toNat=aa a k:=λc hc=>by
  obtain⟨i,hi,rfl⟩:=List.getElem_of_mem hc;exact⟨i,hi,by unfold aa;rw[List.getD_eq_getElem?_getD,List.getElem?_eq_getElem hi];rfl⟩
 by_cases h1:a.length=1
 ·refine Lj (uZ λx hx=> ?_) ih;unfold escS at hx;obtain⟨c,hc,hx⟩:=List.mem_flatMap.1 hx;obtain⟨k,hk,e⟩:=hmem c hc;have:=hle.2.2.1 h1;rw[show k=0 by omega] at e;exact GF (by omega) x hx
 ·rw[IA λc hc=>by
   obtain⟨k,hk,e⟩:=hmem c hc;rw[e];exact hle.2.2.2 h1 k hk]
  exact Ao ha ih
theorem ox {b:Bool}{s:List UInt8}:fh b s=true↔Vd s/\∀c∈s,ow b (c.toNat:Int)=false:=by
 unfold fh;rw[decide_eq_true_eq];refine and_congr ?_ ?_
 ·unfold dy Vd;cases gC s with
  |none=>simp
  |some i=>simp
 ·rcases mF (ow b) s with⟨h1,h2⟩|⟨m,h1,h2,h3,_⟩
  ·refine⟨λ_ c hc=> ?_,λ_=>by omega⟩;obtain⟨i,hi,rfl⟩:=List.getElem_of_mem hc;have:=h2 i hi;unfold aa at this;rwa [List.getD_eq_getElem?_getD,List.getElem?_eq_getElem hi] at this
  ·refine⟨λh=>by omega,λh=> ?_⟩;have:=h s[m] (List.getElem_mem h1);unfold aa at h3;rw[List.getD_eq_getElem?_getD,List.getElem?_eq_getElem h1] at h3;rw[Option.getD_some,this] at h3;cases h3
theorem V9 {b:Bool}{c:Nat}(h1:32<=c)(h2:c≠127):ow b (c:Int)=false:=by
 unfold ow;rw[decide_eq_false_iff_not];omega
def Gd (s:List UInt8):Prop:=∀c∈s,32<=c.toNat/\c.toNat<127
theorem jt:Gd []:=λc h=>by cases h
theorem dB {a b:List UInt8}(ha:Gd a)(hb:Gd b):Gd (a++b):=λc h=>(List.mem_append.1 h).elim (ha c) (hb c)
theorem qV {s:List UInt8}(h:Gd s):fh false s=true:=ox.2 ⟨uZ λc hc=>by have:=h c hc;omega,λc hc=>by have:=h c hc;exact V9 (by omega) (by omega)⟩
theorem DZ {vs:List Int}(h:∀v∈vs,32<=v/\v<127):Gd (bL vs):=λc hc=>by
 unfold bL at hc;obtain⟨v,hv,rfl⟩:=List.mem_map.1 hc;have:=h v hv;rw[UInt8.toNat_ofNat'];omega
theorem ef {n:Int}(h0:0<=n)(h1:n<=99):Gd (dc n):=by
 refine DZ λv hv=> ?_;simp only[List.mem_cons,List.not_mem_nil,or_false] at hv;rcases hv with rfl|rfl<;>omega
theorem Bj {n:Int}(h0:0<=n)(h1:n<=9999):Gd (jh n):=by
 refine DZ λv hv=> ?_;simp only[List.mem_cons,List.not_mem_nil,or_false] at hv;rcases hv with rfl|rfl|rfl|rfl<;>omega
theorem gz {s:List UInt8}(h:s.all (λc=>decide (32<=c.toNat/\c.toNat<127))=true):Gd s:=λc hc=>of_decide_eq_true (List.all_eq_true.1 h c hc)
theorem Gv (n:Int):Gd (jp n)/\(jp n).length<=10:=by
 unfold jp;cases hz:uS n with
 |false=>exact⟨jt,Nat.zero_le _⟩
 |true=>
  have hb:=uR.1 hz
  rw[if_pos rfl]
  split
  ·exact⟨gz rfl,by decide⟩
  split
  ·exact⟨dB (dB (gz rfl) (ef (by omega) (by omega))) (ef (by omega) (by omega)),by simp[dc,bL]⟩
  ·exact⟨dB (dB (gz rfl) (ef (by omega) (by omega))) (ef (by omega) (by omega)),by simp[dc,bL]⟩
theorem Ri {a b c:Bool}{y m d:Int}(hy:a=true->0<=y/\y<=9999)(hm:b=true->0<=m/\m<=99)(hd:c=true->0<=d/\d<=99):Gd (nS a b c y m d)/\(nS a b c y m d).length<=20:=by
 cases a<;>cases b<;>cases c<;>simp only[nS]<;>refine⟨?_,by simp[jh,dc,bL]⟩
 ·exact jt
 ·exact dB (gz rfl) (ef (hd rfl).1 (hd rfl).2)
 ·exact dB (gz rfl) (ef (hm rfl).1 (hm rfl).2)
 ·exact dB (dB (gz rfl) (ef (hm rfl).1 (hm rfl).2)) (ef (hd rfl).1 (hd rfl).2)
 ·exact Bj (hy rfl).1 (hy rfl).2
 ·exact jt
 ·exact dB (dB (Bj (hy rfl).1 (hy rfl).2) (gz rfl)) (ef (hm rfl).1 (hm rfl).2)
 ·exact dB (dB (Bj (hy rfl).1 (hy rfl).2) (ef (hm rfl).1 (hm rfl).2)) (ef (hd rfl).1 (hd rfl).2)
theorem Rg {a b c:Bool}{y m d:Int}(hy:a=true->0<=y/\y<=99)(hm:b=true->0<=m/\m<=99)(hd:c=true->0<=d/\d<=99):Gd (mU a b c y m d)/\(mU a b c y m d).length<=20:=by
 cases a<;>cases b<;>cases c<;>simp only[mU]<;>refine⟨?_,by simp[dc,bL]⟩
 ·exact jt
 ·exact dB (gz rfl) (ef (hd rfl).1 (hd rfl).2)
 ·exact dB (gz rfl) (ef (hm rfl).1 (hm rfl).2)
 ·exact dB (dB (gz rfl) (ef (hm rfl).1 (hm rfl).2)) (ef (hd rfl).1 (hd rfl).2)
 ·exact dB (gz rfl) (ef (hy rfl).1 (hy rfl).2)
 ·exact jt
 ·exact dB (dB (gz rfl) (ef (hy rfl).1 (hy rfl).2)) (ef (hm rfl).1 (hm rfl).2)
 ·exact dB (dB (dB (gz rfl) (ef (hy rfl).1 (hy rfl).2)) (ef (hm rfl).1 (hm rfl).2)) (ef (hd rfl).1 (hd rfl).2)
theorem NW (t:Stm):Gd t.T/\t.T.length<=60:=by
 unfold Stm.T;split
 ·split
  ·rename_i _ h;unfold Stm.rng at h;simp only[Bool.and_eq_true,uX,mT] at h;obtain⟨h1,h2,h3,h4,h5,h6,_⟩:=h;have hday:t.day<=31:=by
    unfold Stm.day ub
    (repeat' split)<;>omega
   have d1:=Ri (a:=aB t.y) (b:=aB t.m) (c:=aB t.d) (y:=t.y) (m:=t.m) (d:=t.d) (λh=>by rw[mT] at h;omega) (λh=>by rw[mT] at h;omega) (λh=>by rw[mT] at h;omega);have d2:=Rg (a:=aB t.h) (b:=aB t.i) (c:=aB t.s) (y:=t.h) (m:=t.i) (d:=t.s) (λh=>by rw[mT] at h;omega) (λh=>by rw[mT] at h;omega) (λh=>by rw[mT] at h;omega);have d3:Gd (if t.z then jp t.o else[])/\(if t.z then jp t.o else[]).length<=10:=by
    split
    ·exact Gv _
    ·exact⟨jt,Nat.zero_le _⟩
   unfold Stm.txt;refine⟨dB (dB d1.1 d2.1) d3.1,?_⟩;rw[List.length_append,List.length_append];omega
  ·exact⟨jt,Nat.zero_le _⟩
 ·exact⟨jt,Nat.zero_le _⟩
theorem Ub {s:List UInt8}(h:gu s= .none):Gd s:=by
 unfold gu at h;split at h
 ·cases h
 split at h
 ·cases h
 rename_i h2;rcases mF fe s with⟨_,g⟩|⟨m,g1,g2,_⟩
 ·intro c hc;obtain⟨i,hi,rfl⟩:=List.getElem_of_mem hc;have:=wd.1 (g i hi);unfold aa at this;rw[List.getD_eq_getElem?_getD,List.getElem?_eq_getElem hi,Option.getD_some] at this;omega
 ·omega
theorem b_none {x:Err}(h:x.b= .none):x= .none:=by
 cases x with
 |none=>rfl
 |errno e=>cases h
 | «at» e p=>cases h
theorem NX {f:Bool}{a:Nat}{x:List UInt8}(h:(eE f a x).isNone=true):Gd x:=by
 unfold eE at h;split at h
 ·cases h
 rename_i h2;rcases mF (λc=> !wn f c) x with⟨_,g⟩|⟨m,g1,g2,_⟩
 ·intro c hc;obtain⟨i,hi,rfl⟩:=List.getElem_of_mem hc;have:=g i hi;simp only[Bool.not_eq_false',wn,Bool.and_eq_true] at this;have:=(sq).1 this.1;unfold aa at this;rw[List.getD_eq_getElem?_getD,List.getElem?_eq_getElem hi,Option.getD_some] at this;omega
 ·omega
theorem DY:∀{l:List (List UInt8)} {f:Bool} {a:Nat},eO f a l= .none->∀x∈l,Gd x
 |[],_,_,_,x,h=>by cases h
 |y::l,f,a,h,x,hx=>by
  simp only[eO] at h;split at h
  ·rename_i hp;rcases List.mem_cons.1 hx with rfl|hx
   ·exact NX hp
   ·exact DY h x hx
  ·rename_i hp;rw[h] at hp;exact absurd rfl hp
theorem Bi {c:UInt8}(h0:32<=c.toNat/\c.toNat<127):∀{s:List UInt8},(∀x∈cf c s,Gd x)->Gd s
 |[],_=>jt
 |y::t,h=>by
  have h2:Gd t/\(32<=y.toNat/\y.toNat<127):=by
   by_cases hy:y=c
   ·rw[cf,if_pos hy] at h;exact⟨Bi h0 λx hx=>h x (List.mem_cons_of_mem _ hx),by rw[hy];exact h0⟩
   ·rw[cf,if_neg hy] at h;cases h1:cf c t with
    |nil=>
     rw[h1] at h;exact⟨Bi h0 λx hx=>(by rw[h1] at hx;cases hx),h [y] (List.mem_cons_self ..) y (List.mem_cons_self ..)⟩
    |cons p r=>
     rw[h1] at h;have g:=h (y::p) (List.mem_cons_self ..);refine⟨Bi h0 λx hx=> ?_,g y (List.mem_cons_self ..)⟩;rw[h1] at hx;rcases List.mem_cons.1 hx with rfl|hx
     ·exact λc hc=>g c (List.mem_cons_of_mem _ hc)
     ·exact h x (List.mem_cons_of_mem _ hx)
  exact λx hx=>by
   rcases List.mem_cons.1 hx with rfl|hx
   ·exact h2.2
   ·exact h2.1 x hx
theorem Rh {s:List UInt8}(h:dF s= .none):Gd s:=Bi (c:=45) (by decide) (DY h)
theorem NP {s:List UInt8}(h:fh true s=true):fh false (escS s)=true:=by
 obtain⟨h1,h2⟩:=ox.1 h
 refine ox.2 ⟨ST h1,λc hc=> ?_⟩;unfold escS at hc;obtain⟨x,hx,hc⟩:=List.mem_flatMap.1 hc;have hx:=h2 x hx;unfold ow at hx ⊢;rw[decide_eq_false_iff_not] at hx ⊢;by_cases e0:x=10
 ·rw[e0] at hc;simp only[escF] at hc;have hc:c∈([92,110]:List UInt8):=hc;simp only[List.mem_cons,List.not_mem_nil,or_false] at hc;rcases hc with rfl|rfl<;>decide
 have e10:x.toNat≠10:=λh=>e0 (UInt8.toNat_inj.1 h);unfold escF at hc;split at hc
 ·simp only[List.mem_cons,List.not_mem_nil,or_false] at hc;rcases hc with rfl|rfl<;>decide
 split at hc
 ·simp only[List.mem_cons,List.not_mem_nil,or_false] at hc;rcases hc with rfl|rfl<;>decide
 split at hc
 ·simp only[List.mem_cons,List.not_mem_nil,or_false] at hc;rcases hc with rfl|rfl<;>decide
 ·simp only[List.mem_cons,List.not_mem_nil,or_false] at hc;rw[hc]
  omega
theorem Gp {a b:List UInt8}(ha:fh false a=true)(hb:fh false b=true):fh false (a++b)=true:=by
 obtain⟨h1,h2⟩:=ox.1 ha;obtain⟨h3,h4⟩:=ox.1 hb;exact ox.2 ⟨Lj h1 h3,λc hc=>(List.mem_append.1 hc).elim (h2 c) (h4 c)⟩
theorem Ik {sep:List UInt8}(hs:fh false sep=true):∀{l:List (List UInt8)},(∀x∈l,fh false x=true)->fh false (Lib.joinTail sep l)=true
 |[],_=>qV jt
 |x::l,h=>by
  rw[show Lib.joinTail sep (x::l)=(sep++x)++Lib.joinTail sep l by simp[Lib.joinTail]];exact Gp (Gp hs (h x (List.mem_cons_self ..))) (Ik hs λy hy=>h y (List.mem_cons_of_mem _ hy))
theorem Il {sep:List UInt8}(hs:fh false sep=true){l:List (List UInt8)}(h:∀x∈l,fh false x=true):fh false (Lib.join l sep)=true:=by
 cases l with
 |nil=>rw[Lib.join_nil];exact qV jt
 |cons x l=>rw[Lib.join_cons];exact Gp (h x (List.mem_cons_self ..)) (Ik hs λy hy=>h y (List.mem_cons_of_mem _ hy))
theorem NO {t:Int}{L:List (List (List UInt8))}(h:tP t L= .none):fh false (gw L)=true:=by
 unfold tP at h
 split at h
 ·cases h
 split at h
 ·cases h
 split at h
 ·rename_i h1 h2 h3
  unfold gw
  rw[if_neg h2]
  refine Il (qV (gz rfl)) λx hx=> ?_
  obtain⟨l,hl,rfl⟩:=List.mem_map.1 hx
  unfold joinT
  refine Il (qV (gz rfl)) λy hy=> ?_
  obtain⟨z,hz,rfl⟩:=List.mem_map.1 hy
  unfold NQ at h3
  exact NP (List.all_eq_true.1 (List.all_eq_true.1 h3 l hl) z hz)
 ·cases h
theorem Vl.T_hd (v:Vl):fh false v.T=true:=by
 unfold Vl.T;split
 ·rename_i h;unfold Vl.E at h;split at h
  ·cases h
  split
  ·rename_i h1;rw[if_neg (by omega),if_neg (by omega),if_neg (by omega),if_neg (by omega),if_neg (by omega)] at h;split at h
   ·rename_i g;rw[decide_eq_true h1] at g;exact NP g
   ·cases h
  split
  ·rename_i h1 h2;rw[if_pos h2] at h;exact NO h
  split
  ·exact qV (NW _).1
  split
  ·exact qV (Gv _).1
  ·rename_i h1 h2 h5 h6;rw[if_neg h2] at h;by_cases h4:v.t=4
   ·rw[if_pos h4] at h;exact qV (Ub (b_none h))
   rw[if_neg h4,if_neg h5,if_neg h6] at h;by_cases h7:v.t=7
   ·rw[if_pos h7] at h;exact qV (Rh (b_none h))
   rw[if_neg h7] at h;split at h
   ·rename_i g;rw[decide_eq_false h1] at g;exact g
   ·cases h
 ·exact qV jt
theorem Vl.T_len {v:Vl}(hs:v.s.length<=2000000)(hL:Small v.L):v.T.length<=140737488355328:=by
 unfold Vl.T;split
 ·split
  ·have:=(rj v.s).2;omega
  split
  ·unfold gw;split
   ·exact Nat.zero_le _
   ·refine wA (M:=6000000) (λx hx=> ?_) (by rw[List.length_map];exact hL.n) (Nat.le_refl _);obtain⟨l,hl,rfl⟩:=List.mem_map.1 hx;obtain⟨i,hi,rfl⟩:=List.getElem_of_mem hl;have h1:=hL.k i;rw[List.getD_eq_getElem?_getD,List.getElem?_eq_getElem hi,Option.getD_some] at h1;have:=ot v.L[i];omega
  split
  ·have:=(NW v.st).2;omega
  split
  ·have:=(Gv v.n).2;omega
  ·omega
 ·exact Nat.zero_le _
end
section
structure Pr where
 n:List UInt8
 vs:List (List UInt8)
def Pr.z:Pr:=⟨[],[]⟩
instance:Inhabited Pr:=⟨Pr.z⟩
structure Ln where
 g:List UInt8
 n:List UInt8
 ps:List Pr
 v:List UInt8
def fH (ps:List Pr)(i:Nat):AVal:=.agg [.str (ps.getD i Pr.z).n,.list 1 (ps.getD i Pr.z).vs.length (ay (ps.getD i Pr.z).vs)]
def Ln.A (p:Ln):AVal:=.agg [.str p.g,.str p.n,.list 2 p.ps.length (fH p.ps),.str p.v]
structure Ln.OK (N:Nat) (p:Ln):Prop where
 g:p.g.length<=N
 n:p.n.length<=N
 v:p.v.length<=N
 ps:p.ps.length<=N
 q:∀k,(p.ps.getD k Pr.z).n.length<=1100000/\(p.ps.getD k Pr.z).vs.length<=N/\Lib.lens (p.ps.getD k Pr.z).vs<=N
structure Ln.Fit (p:Ln):Prop where
 g:p.g.length<=10000
 n:p.n.length<=10000
 v:p.v.length<=140737488355328
 ps:p.ps.length<=10000
 q:∀k,(p.ps.getD k Pr.z).n.length<=1100000/\(p.ps.getD k Pr.z).vs.length<=10000/\Lib.lens (p.ps.getD k Pr.z).vs<=10000
theorem Ln.OK.fit {p:Ln}(h:p.OK 10000):p.Fit:=⟨h.g,h.n,by have:=h.v;omega,h.ps,h.q⟩
theorem Ln.OK.mono {N M:Nat}(hN:N<=M){p:Ln}(h:p.OK N):p.OK M:=⟨Nat.le_trans h.g hN,Nat.le_trans h.n hN,Nat.le_trans h.v hN,Nat.le_trans h.ps hN,λk=>⟨(h.q k).1,Nat.le_trans (h.q k).2.1 hN,Nat.le_trans (h.q k).2.2 hN⟩⟩
theorem aV {p:Nat->Prop}{k:Nat}(h:∀j,j<k->p j)(hk:p k):∀j,j<k+1->p j:=λj hj=>by
 rcases Nat.lt_or_ge j k with g|g
 ·exact h j g
 ·rw[show j=k by omega];exact hk
end
section
abbrev Itm:=Ln×Vl
def Itm.z:Itm:=(⟨[],[],[],[]⟩,⟨0,[],[],⟨0,0,0,0,0,0,false,0⟩,0⟩)
instance:Inhabited Itm:=⟨Itm.z⟩
abbrev dG (x:Itm):List AVal:=[.str x.1.g,.str x.1.n,.list 2 x.1.ps.length (fH x.1.ps),.int .i64 x.2.t,.str x.2.s,.list 1 x.2.L.length (eF x.2.L),.int .i64 x.2.st.y,.int .i64 x.2.st.m,.int .i64 x.2.st.d,.int .i64 x.2.st.h,.int .i64 x.2.st.i,.int .i64 x.2.st.s,.bool x.2.st.z,.int .i64 x.2.st.o,.int .i64 x.2.n]
def DL (x:Itm):AVal:=.agg (dG x)
def eJ (l:List Itm)(i:Nat):AVal:=DL (l.getD i Itm.z)
structure Crd where
 v:Int
 l:List Itm
def Crd.A (c:Crd):AVal:=.agg [.int .i64 c.v,.list 15 c.l.length (eJ c.l)]
def Itm.p (x:Itm):Ln:=⟨x.1.g,x.1.n,x.1.ps,[]⟩
structure Itm.OK (N:Nat) (x:Itm):Prop where
 p:x.p.OK N
 s:x.2.s.length<=N
 L:Small x.2.L
theorem Itm.OK.mono {N M:Nat}(hN:N<=M){x:Itm}(h:x.OK N):x.OK M:=⟨h.p.mono hN,Nat.le_trans h.s hN,h.L⟩
def Crd.fine (c:Crd):Prop:=c.l.length<=70/\∀x∈c.l,Itm.OK 2500 x
theorem sw {p:Itm->Prop}{l:List Itm}(h:∀x∈l,p x){k:Nat}(hk:k<l.length):p (l.getD k Itm.z):=by
 rw[List.getD_eq_getElem?_getD,List.getElem?_eq_getElem hk];exact h _ (List.getElem_mem hk)
end
section
attribute [local irreducible] bN aw aa aC bg ab ae
theorem Cn {G:Glo}{m:Int}(hU:ab G (ct m))(s:List UInt8)(c:UInt8)(hl:s.length<100000):aj prog G 87 [.str s,.str [c]] (.tuple [.str (Lib.cut s [c]).1,.str (Lib.cut s [c]).2.1,.bool (Lib.cut s [c]).2.2]):=by
 refine gp (.tuple #[.string ⟨(Lib.cut s [c]).1.toArray⟩,.string ⟨(Lib.cut s [c]).2.1.toArray⟩,.bool (Lib.cut s [c]).2.2]) (λR=>Mi (aI.2 rfl) (aI.2 rfl) (aW.2 rfl)) call87 ?_;rintro R args ⟨x,t,e,hx,y,t',e',hy,rfl⟩ w hG hs;obtain rfl:=aI.1 hx;obtain rfl:=aI.1 hy;subst e';obtain rfl:=fb e;refine(strings_Cut ⟨s.toArray⟩ ⟨#[c]⟩ m w (by rw[bG];omega) (qK hU hG hs)).mono ?_;rintro e w' ⟨rfl,k,rfl⟩;exact⟨by simp,⟨rfl,rfl,rfl,Nat.le_refl _,λ_ _=>rfl⟩⟩
theorem strconv_Itoa {G:Glo}(hP:fW G)(n:Nat)(hn:n≤9223372036854775807):aj prog G 173 [.int .i64 (n:Int)] (.str (Lib.decDigits n)):=by
 refine bO rfl call173 ?_
 rintro R args ⟨x,t,e,hx,rfl⟩ w hG hs
 obtain rfl:=aq.1 hx
 obtain rfl:=fb e
 have ht:Lib.TabIs prog w "internal/strconv.uint64pow10" .u64 Lib.pow10Tab:=by
  obtain⟨e,fz,hR⟩:=hP R hG
  have hg:prog.globalNamed "internal/strconv.uint64pow10" =some 10:=by kernel_rfl
  show w.var? prog "internal/strconv.uint64pow10" =_
  simp only[World.var?,hg,Option.bind_some,hs _ _ hR]
 refine(Tryz.strconv_Itoa n (by omega) (by omega) w ht).mono ?_
 rintro e w' ⟨rfl,k,os,rfl⟩
 refine⟨?_,⟨rfl,rfl,rfl,?_,fun b hb=> ?_⟩⟩
 ·have:Lib.itoa (n:Int)=Lib.decDigits n:=by unfold Lib.itoa;rw[if_neg (by omega)];rfl
  rw[this]
  rfl
 ·show w.heap.size≤(w.heap++os).size
  rw[Array.size_append];omega
 ·show(w.heap++os)[b]? =w.heap[b]?
  rw[Array.getElem?_append_left hb]
end
section
def OE:AVal->Option Value
 |.own _ v=>some v
 |.raw v=>some v
 |.int k n=>some (.int k n)
 |.bool b=>some (.bool b)
 |_=>none
def xr:List AVal->Option (List Value)
 |[]=>some []
 |a::t=>match OE a,xr t with
  |some v,some r=>some (v::r)
  |_,_=>none
theorem RF {R:Seal}{a:AVal}{v x:Value}(h:OE a=some v)(hr:bE R a x):x=v:=by
 cases a<;>simp only[OE,Option.some.injEq,reduceCtorEq] at h<;>subst h
 ·exact aW.1 hr
 ·exact aq.1 hr
 ·exact ar.1 hr
 ·exact(a7.1 hr).1
theorem rn {R:Seal}:∀{l:List AVal} {vs xs:List Value},xr l=some vs->dv R l xs->xs=vs
 |[],vs,xs,h,hr=>by
  simp only[xr,Option.some.injEq] at h;subst h;simpa[dv] using hr
 |a::t,vs,xs,h,hr=>by
  simp only[xr] at h;split at h
  ·rename_i v r hv ht;simp only[Option.some.injEq] at h
   subst h
   obtain⟨x,ys,rfl,h1,h2⟩:=hr
   rw[RF hv h1,rn ht h2]
  ·cases h
def Ol (env:Env)(fv:Operand)(args:List Operand):Option Deferred:=
 match ai env fv with
 |some (.func (.func f) l1 l2)=>match xr l1,jm env args,xr l2 with
  |some x1,some avs,some x2=>match xr avs with
   |some xs=>some {target:=.fn (.func f) x2.toArray,args:=(x1++xs).toArray}
   |none=>none
  |_,_,_=>none
 |_=>none
theorem Cb {P:Program}{o:Oper}{a:Act}{next next':Act->World->Prop}{Q Q':Exit->Act->World->Prop}{r:Result Next}(hn:∀a w,next a w->next' a w)
  (hp:∀ch a w,Q (.panic ch) a w->Q' (.panic ch) a w) (ho:LetsOut Q->LetsOut Q') (hh:o.upon P a next Q r):o.upon P a next' Q' r:=by
 cases r with
 |ok n w'=>
  cases n<;>simp only[Oper.upon] at hh ⊢ <;>
   first
    |exact hn _ _ hh
    |exact Calls.mono hh (λe w'' he=>by cases e<;>first|exact hn _ _ he|exact hp _ _ _ he|exact ho he)
    |exact Rows.mono hh (λ_ _ he=>hn _ _ he)
 |halt x w'=>cases x<;>simp only[Oper.upon] at hh ⊢ <;>exact hp _ _ _ hh
def LP (P:Program)(ops:Array Oper)(l:List Oper)(Q:Exit->Act->World->Prop):Exit->Act->World->Prop
 |.normal,a,w=>wpList P ops Q l a w
 |e,a,w=>Q e a w
theorem pw {P:Program}{ops:Array Oper}{l:List Oper}{Q:Exit->Act->World->Prop}:∀{pre:List Oper} {a:Act} {w:World},wpList P ops (LP P ops l Q) pre a w->wpList P ops Q (pre++l) a w
 |[],a,w,h=>h
 |o::pre,a,w,h=>by
  simp only[List.cons_append,wpList] at h ⊢;split
  ·rename_i hw;rw[if_pos hw] at h;rcases h with h|⟨h1,h2⟩
   ·exact .inl (Cb (λ_ _=>pw) (λ_ _ _=>id) (λ⟨a,w,q⟩=>⟨a,w,q⟩) h)
   ·exact .inr ⟨h1,h2⟩
  ·rename_i hw
   rw[if_neg hw] at h
   exact pw h
def withD (C:Ctx)(D:List Deferred):Ctx:=⟨C.w0,C.R0,C.B0,C.G,C.hG,D⟩
theorem MS.withD {C:Ctx}{R:Seal}{H:Heap}{w:World}(h:MS C R H w)(D:List Deferred):MS (withD C D) R H w:=⟨h.sealed,h.ge,h.fresh,h.heap,h.own,h.ext⟩
theorem MS.ofD {C:Ctx}{R:Seal}{H:Heap}{w:World}{D:List Deferred}(h:MS (Proofs.YtpgdnpielhfpgaaGreatDoor.withD C D) R H w):MS C R H w:=⟨h.sealed,h.ge,h.fresh,h.heap,h.own,h.ext⟩
def Ph (C:Ctx)(n:Nat)(Q:List Deferred->aQ->Env->Heap->Prop)(e:Exit)(a:Act)(w:World):Prop:=
 ∃D x env H R,Q D x env H/\aM R x e/\MS C R H w/\FS D n R env a
def gk (P:Program)(C:Ctx)(n:Nat)(c:Code)(env:Env)(H:Heap)(Q:List Deferred->aQ->Env->Heap->Prop):Prop:=
 ∀R a w,MS C R H w->FS C.D n R env a->c.wp P (Ph C n Q) a w
section
variable {P:Program} {C:Ctx} {n:Nat} {env:Env} {H:Heap} {Q:List Deferred->aQ->Env->Heap->Prop} {G:Glo} {GL:List (Nat×List AVal)}
theorem O2 {c:Code}(h:bN P C n c env H (Q C.D)):gk P C n c env H Q:=
 λR a w hm hf=>wp_mono (h R a w hm hf) λ_ _ _ ⟨x,en,H',R',q,r⟩=>⟨C.D,x,en,H',R',q,r⟩
theorem bW [Tab P](hC:C.G=G)(hGL:ab G GL){c:Code}(h:gh P C n G GL c env H (Q C.D)):gk P C n c env H Q:=O2 (cX hC hGL _ _ _ _ h)
def Vv (K:List Deferred->Env->Heap->Prop)(Q:List Deferred->aQ->Env->Heap->Prop):List Deferred->aQ->Env->Heap->Prop
 |D,.normal,e,h=>K D e h
 |D,x,e,h=>Q D x e h
theorem cA {x y:Code}(h:gk P C n x env H (Vv (λD e h=>gk P (withD C D) n y e h Q) Q)):gk P C n (.seq x y) env H Q:=by
 intro R a w hm hf;refine wp_seq (wp_mono (h R a w hm hf) ?_);rintro e a' w' ⟨D,x,en,H',R',q,er,hm',hf'⟩;cases x with
 |normal=>
  simp only[aM] at er;subst er;exact wp_mono (q R' a' w' (hm'.withD D) hf') λ_ _ _ ⟨D2,x,en,H',R',q,er,hm2,hf2⟩=>⟨D2,x,en,H',R',q,er,hm2.ofD,hf2⟩
 |exit i=>simp only[aM] at er;subst er;exact⟨D,.exit i,en,H',R',q,rfl,hm',hf'⟩
 |goto i=>simp only[aM] at er;subst er;exact⟨D,.goto i,en,H',R',q,rfl,hm',hf'⟩
 |ret=>simp only[aM] at er;subst er;exact⟨D,.ret,en,H',R',q,rfl,hm',hf'⟩
 |panic v=>obtain⟨y,rfl,hr⟩:=er;exact⟨D,.panic v,en,H',R',q,⟨y,rfl,hr⟩,hm',hf'⟩
theorem jl {c:Operand}{x y:Code}{b:Bool}(hc:ai env c=some (.bool b))(ht:b=true->gk P C n x env H Q)(hf:b=false->gk P C n y env H Q):gk P C n (.cond c x y) env H Q:=by
 intro R a w hm hfs;refine wp_cond (aW.1 (hfs.eval hc)) ?_;cases b with
 |true=>exact ht rfl R a w hm hfs
 |false=>exact hf rfl R a w hm hfs
structure Df (d:Option Deferred) (K:Deferred->Prop):Prop where
 h:∃x,d=some x/\K x
def Uy (C:Ctx)(fv:Operand)(args:List Operand)(Q:List Deferred->aQ->Env->Heap->Prop):aQ->Env->Heap->Prop
 |.normal,e,h=>Df (Ol e fv args) λd=>Q (d::C.D) .normal e h
 |x,e,h=>Q C.D x e h
theorem oK [Tab P]{id:Nat}{ops:Array Oper}{fv:Operand}{args:Array Operand}{ts:Array TypeId}{ty:TypeId}{pos:String}{af:Array Edge}(hC:C.G=G)(hGL:ab G GL)
  (hl:ops.toList=ops.toList.dropLast++[{dst:=none,op:=.defer {callee:=.value fv,args:=args,argTypes:=ts},type:=ty,pos:=pos,after:=af,guard:=none}])
  (h:mw P C n G GL ops (Uy C fv args.toList Q) ops.toList.dropLast env H):gk P C n (.region id ops false) env H Q:=by
 intro R a w hm hf;refine wp_region_list ?_;rw[hl];refine pw ?_;have h1:=eZ (C:=C) hC hGL _ _ _ h R a w hm hf;have key:∀{l:List Oper} {a w},wpList P ops (kI C n (Uy C fv args.toList Q)) l a w->wpList P ops (LP P ops [{dst:=none,op:=.defer {callee:=.value fv,args:=args,argTypes:=ts},type:=ty,pos:=pos,after:=af,guard:=none}] (Ph C n Q)) l a w:=by
  have hq:∀e a w,kI C n (Uy C fv args.toList Q) e a w->LP P ops [{dst:=none,op:=.defer {callee:=.value fv,args:=args,argTypes:=ts},type:=ty,pos:=pos,after:=af,guard:=none}] (Ph C n Q) e a w:=by
   rintro e a' w' ⟨x,en,H',R',q,er,hm',hf'⟩;cases x with
   |normal=>
    simp only[aM] at er;subst er;obtain⟨d,hd,q⟩:=Df.h q;refine wpList_plain rfl λK hK=> ?_;have hrun:(execOp a'.eval {dst:=none,op:=.defer {callee:=.value fv,args:=args,argTypes:=ts},type:=ty,pos:=pos,after:=af,guard:=none:Oper}).run P w'= .ok (.defer d) w':=by
     unfold Ol at hd;split at hd
     ·rename_i f l1 l2 hfv;split at hd
      ·rename_i x1 avs x2 h1 h2 h3;split at hd
       ·rename_i xs h4;simp only[Option.some.injEq] at hd;subst hd;obtain⟨⟨y1,y2,ey,r1,r2⟩,_⟩:=bA (hf'.eval hfv) rfl,trivial;simp only[List.cons.injEq,and_true] at ey;have e1:=rn h1 r1;have e2:=rn h3 r2;have e3:=rn h4 (gK (λx av h=>hf'.eval h) h2);have e3':(args.map a'.eval)=xs.toArray:=by
         apply Array.ext';simpa using e3
        have e1':y1=x1.toArray:=by apply Array.ext';simpa using e1
        have e2':y2=x2.toArray:=by apply Array.ext';simpa using e2
        simp only[execOp,resolve,ey,e3',e1',e2',Deferred.ofValue,Sem.run_bind,Sem.run_pure,Result.andThen_ok];simp
       ·cases hd
      ·cases hd
     ·cases hd
    rw[Oper.wp,hrun,Oper.upon_defer];refine hK _ _ (wpList_nil ⟨_,.normal,en,H',R',q,rfl,hm',?_⟩);exact⟨λk v x=>hf'.fr k v x,hf'.size,by show _::a'.defers=_;rw[hf'.defers]⟩
   |exit i=>simp only[aM] at er;subst er;exact⟨C.D,.exit i,en,H',R',q,rfl,hm',hf'⟩
   |goto i=>simp only[aM] at er;subst er;exact⟨C.D,.goto i,en,H',R',q,rfl,hm',hf'⟩
   |ret=>simp only[aM] at er;subst er;exact⟨C.D,.ret,en,H',R',q,rfl,hm',hf'⟩
   |panic v=>obtain⟨y,rfl,hr⟩:=er;exact⟨C.D,.panic v,en,H',R',q,⟨y,rfl,hr⟩,hm',hf'⟩
  intro l;induction l with
  |nil=>exact λ{a w} h=>hq _ _ _ h
  |cons o r ih=>
   intro a w h;simp only[wpList] at h ⊢;split
   ·rename_i hw;rw[if_pos hw] at h;rcases h with h|⟨h1,b,w2,x,en,H',R',q,er,_⟩
    ·exact .inl (Cb (λ_ _=>ih) (λ_ _ _=>hq _ _ _) (λ⟨a,w,q⟩=>⟨a,w,hq _ _ _ q⟩) h)
    ·exact .inr ⟨h1,b,w2,hq _ _ _ ⟨x,en,H',R',q,er,by assumption⟩⟩
   ·rename_i hw;rw[if_neg hw] at h;exact ih h
 exact key h1
end
end
section
inductive fy where
 |ret
 |pan (v:AVal)
 |rcv (v:AVal)
def fc (R:Seal):fy->FrameMode->Prop
 |.ret,u=>u= .returning
 |.pan v,u=>∃x,u= .panicking [{v:=x,recovered:=false}]/\bE R v x
 |.rcv v,u=>∃x,u= .panicking [{v:=x,recovered:=true}]/\bE R v x
theorem fc.mono {R R':Seal}(h:R.le R'):∀{m:fy} {u:FrameMode},fc R m u->fc R' m u
 |.ret,_,x=>x
 |.pan _,_,⟨y,e,r⟩=>⟨y,e,fF h r⟩
 |.rcv _,_,⟨y,e,r⟩=>⟨y,e,fF h r⟩
def fy.settle:fy->fy
 |.ret=>.ret
 |.pan v=>.pan v
 |.rcv _=>.ret
theorem Fq {R:Seal}:∀{m:fy} {u:FrameMode},fc R m u->fc R m.settle (Go.settle u)
 |.ret,_,rfl=>rfl
 |.pan _,_,⟨y,rfl,r⟩=>⟨y,rfl,r⟩
 |.rcv _,_,⟨y,rfl,_⟩=>rfl
theorem Dt {R:Seal}:∀{m:fy} {u:FrameMode},fc R m u->u≠ .run
 |.ret,_,rfl=>by simp
 |.pan _,_,⟨_,rfl,_⟩=>by simp
 |.rcv _,_,⟨_,rfl,_⟩=>by simp
def fx (P:Program)(G:Glo)(f:FuncId)(avs:List AVal)(m:fy)(H:Heap)(Qd:cz->fy->Heap->Prop):Prop:=
 ∀R w args u (hG:G.p R),MS ⟨w,R,eh H,G,hG,[]⟩ R H w->dv R avs args.toList->fc R m u->
  CallsD P f args u w λe u' w'=>∃res m' H' R',Qd res m' H'/\gD R' res e/\fc R' m' u'/\MS ⟨w,R,eh H,G,hG,[]⟩ R' H' w'
section
variable {P:Program} [Tab P] {G:Glo} {GL:List (Nat×List AVal)} {n:Nat} {H:Heap} {m:fy}
theorem BL {R:Seal}{avs:List AVal}{args:Array Value}{n:Nat}(hlen:Nat.ble avs.length n=true)(ha:dv R avs args.toList):
  FS [] n R (ft 0 avs) {tmps:=args++Array.replicate (n-args.size) undef,defers:=[]}:=by
 have hl:=kW ha;have hlen:=Nat.le_of_ble_eq_true hlen;simp only[Array.length_toList] at hl;refine⟨λk v hk=> ?_,?_,rfl⟩
 ·obtain⟨_,x,hx,hr⟩:=p5 ha hk;refine⟨x,?_,hr⟩;simp only[Nat.sub_zero,Array.getElem?_toList] at hx;have:=Array.getElem?_eq_some_iff.1 hx;rw[Array.getElem?_append_left this.1];exact hx
 ·simp only[Array.size_append,Array.size_replicate];omega
theorem Bs {f:FuncId}{fn:Func}{c:Code}{avs:List AVal}{Qf:cz->Heap->Prop}{rs:List ResultVar}(hf:P.funcs[f]? =some fn)
  (hb:fn.body=some c) (hn:fn.ntmps=n) (hrs:fn.results=rs.toArray) (hlen:Nat.ble avs.length n=true) (hGL:ab G GL)
  (h:∀C:Ctx,C.G=G->gh P C n G GL c (ft 0 avs) H (ui P rs Qf)):fx P G f avs m H (λres m' H'=>m'=m/\Qf res H'):=by
 intro R w args u hG hm ha hu;have h1:=(cX (C:=⟨w,R,eh H,G,hG,[]⟩) rfl hGL _ _ _ _ (h ⟨w,R,eh H,G,hG,[]⟩ rfl)).mono λ_ _ _ q=>jV q;have h2:c.wp P (bodyPost P fn (λe w'=>∃res H' R',Qf res H'/\gD R' res e/\R.le R'/\MS ⟨w,R,eh H,G,hG,[]⟩ R' H' w')) {tmps:=args++Array.replicate (fn.ntmps-args.size) undef,defers:=[]} w:=by
  subst hn;refine wp_mono (h1 R _ w hm (BL hlen ha)) ?_;have hrs':fn.results.toList=rs:=by rw[hrs]
  rintro e a' w' ⟨x,env',H',R',q,er,hm',hf'⟩;cases x with
  |normal=>
   simp only[aM] at er;subst er;obtain⟨vs,H'',hv,hs,q⟩:=q;obtain⟨y,hy,hr⟩:=ea (fn:=fn) hm' hf' (by rw[hrs'];exact hv);exact⟨hf'.defers,y,hy,_,H'',R',q,⟨y,rfl,hr⟩,hm'.ge,hm'.drop hs⟩
  |ret=>
   simp only[aM] at er;subst er;obtain⟨vs,H'',hv,hs,q⟩:=q;obtain⟨y,hy,hr⟩:=ea (fn:=fn) hm' hf' (by rw[hrs'];exact hv);exact⟨hf'.defers,y,hy,_,H'',R',q,⟨y,rfl,hr⟩,hm'.ge,hm'.drop hs⟩
  |panic v=>
   obtain⟨y,rfl,hr⟩:=er;obtain⟨H'',hs,q⟩:=q;exact⟨hf'.defers,_,H'',R',q,⟨y,rfl,hr⟩,hm'.ge,hm'.drop hs⟩
  |exit i=>exact q.elim
  |goto i=>exact q.elim
 refine(callsD_of_wp (u:=u) hf hb h2).mono ?_;rintro e u' w' ⟨rfl,res,H',R',q,er,hle,hm'⟩;exact⟨res,m,H',R',⟨rfl,q⟩,er,hu.mono hle,hm'⟩
def Qp:fy->AVal
 |.pan v=>v
 |_=>.raw .nilIface
def JG:fy->fy
 |.ret=>.ret
 |.pan v=>.rcv v
 |.rcv v=>.rcv v
theorem Oi {f:FuncId}{fn:Func}{c:Code}{avs:List AVal}{Qf:cz->Heap->Prop}{rs:List ResultVar}{id d0 d1:Nat}{ts:Array TypeId}{t0 t1:TypeId}{p0 p1:String}{a0 a1:Array Edge}(hf:P.funcs[f]? =some fn)
  (hb:fn.body=some (.seq (.region id #[{dst:=some d0,op:=.call {callee:=.builtin .recover,args:=#[],argTypes:=ts},type:=t0,pos:=p0,after:=a0,guard:=none},{dst:=some d1,op:=.assign (.tmp d0),type:=t1,pos:=p1,after:=a1,guard:=none}] false) c))
  (hn:fn.ntmps=n) (hrs:fn.results=rs.toArray) (hlen:Nat.ble avs.length n=true) (hd0:Nat.ble (d0+1) n=true) (hd1:Nat.ble (d1+1) n=true) (hGL:ab G GL)
  (h:∀C:Ctx,C.G=G->gh P C n G GL c ((d1,Qp m)::(d0,Qp m)::ft 0 avs) H (ui P rs Qf)):fx P G f avs m H (λres m' H'=>m'=JG m/\Qf res H'):=by
 intro R w args u hG hm ha hu;have h1:=(cX (C:=⟨w,R,eh H,G,hG,[]⟩) rfl hGL _ _ _ _ (h ⟨w,R,eh H,G,hG,[]⟩ rfl)).mono λ_ _ _ q=>jV q;refine callsD_of_wpS hf hb λc₀ cs hc=> ?_;subst hn;have hfs:=BL hlen ha;have main:∀(x:Value) (u':FrameMode),bE R (Qp m) x->fc R (JG m) u'->c.wpS P (bodyPostS P fn c₀ cs (λe u' w'=>∃res m' H' R',(m'=JG m/\Qf res H')/\gD R' res e/\fc R' m' u'/\MS ⟨w,R,eh H,G,hG,[]⟩ R' H' w'))
   ((({tmps:=args++Array.replicate (fn.ntmps-args.size) undef,defers:=[]}:Act).put (some d0) x).put (some d1) x) ({c₀ with mode:=u'}::cs) w:=by
  intro x u' hx hu';refine wpS_of_wp ?_;refine wp_mono (h1 R _ w hm ((hfs.put hd0 hx).put hd1 hx)) ?_;have hrs':fn.results.toList=rs:=by rw[hrs]
  rintro e a' w' ⟨x,env',H',R',q,er,hm',hf'⟩;cases x with
  |normal=>
   simp only[aM] at er;subst er;obtain⟨vs,H'',hv,hs,q⟩:=q;obtain⟨y,hy,hr⟩:=ea (fn:=fn) hm' hf' (by rw[hrs'];exact hv);exact⟨hf'.defers,u',rfl,y,hy,_,_,H'',R',⟨rfl,q⟩,⟨y,rfl,hr⟩,hu'.mono hm'.ge,hm'.drop hs⟩
  |ret=>
   simp only[aM] at er;subst er;obtain⟨vs,H'',hv,hs,q⟩:=q;obtain⟨y,hy,hr⟩:=ea (fn:=fn) hm' hf' (by rw[hrs'];exact hv);exact⟨hf'.defers,u',rfl,y,hy,_,_,H'',R',⟨rfl,q⟩,⟨y,rfl,hr⟩,hu'.mono hm'.ge,hm'.drop hs⟩
  |panic v=>
   obtain⟨y,rfl,hr⟩:=er;obtain⟨H'',hs,q⟩:=q;exact⟨hf'.defers,u',rfl,_,_,H'',R',⟨rfl,q⟩,⟨y,rfl,hr⟩,hu'.mono hm'.ge,hm'.drop hs⟩
  |exit i=>exact q.elim
  |goto i=>exact q.elim
 refine wpS_seq (wpS_region ?_);have hev:∀(x:Value),(({tmps:=args++Array.replicate (fn.ntmps-args.size) undef,defers:=[]}:Act).put (some d0) x).eval (.tmp d0)=x:=by
  intro x;have hsz:(args++Array.replicate (fn.ntmps-args.size) undef).size=fn.ntmps:=hfs.size;have:=Nat.le_of_ble_eq_true hd0;simp only[Act.eval,Act.put];rw[Array.getD_eq_getD_getElem?,Array.getElem?_setIfInBounds_self_of_lt (by omega)];rfl
 have run0:∀ρ,(execOp ρ {dst:=some d0,op:=.call {callee:=.builtin .recover,args:=#[],argTypes:=ts},type:=t0,pos:=p0,after:=a0,guard:=none:Oper}).run P w= .ok .recover w:=λρ=>rfl;have wanted:∀(o:Oper) y,o.guard=none->Region.wanted o y=true:=λo y h=>by simp[Region.wanted,h]
 show wpOpsS P _ _ [0,1] _ _ _;have tail:∀(x:Value) (u':FrameMode),bE R (Qp m) x->fc R (JG m) u'->wpOpsS P #[{dst:=some d0,op:=.call {callee:=.builtin .recover,args:=#[],argTypes:=ts},type:=t0,pos:=p0,after:=a0,guard:=none},{dst:=some d1,op:=.assign (.tmp d0),type:=t1,pos:=p1,after:=a1,guard:=none}]
   (Exit.thenS (c.wpS P (bodyPostS P fn c₀ cs (λe u' w'=>∃res m' H' R',(m'=JG m/\Qf res H')/\gD R' res e/\fc R' m' u'/\MS ⟨w,R,eh H,G,hG,[]⟩ R' H' w'))) (bodyPostS P fn c₀ cs (λe u' w'=>∃res m' H' R',(m'=JG m/\Qf res H')/\gD R' res e/\fc R' m' u'/\MS ⟨w,R,eh H,G,hG,[]⟩ R' H' w'))) [1]
   (({tmps:=args++Array.replicate (fn.ntmps-args.size) undef,defers:=[]}:Act).put (some d0) x) ({c₀ with mode:=u'}::cs) w:=by
  intro x u' hx hu';simp only[wpOpsS,List.getElem?_toArray,List.getElem?_cons_succ,List.getElem?_cons_zero];rw[if_pos (wanted _ _ rfl)];simp only[execOp,hev,Sem.run_pure,Oper.upon];exact main x u' hx hu'
 rw[wpOpsS];simp only[List.getElem?_toArray,List.getElem?_cons_zero];rw[if_pos (wanted _ _ rfl),run0];simp only[recoverD,hc];cases m with
 |ret=>
  obtain rfl:u= .returning:=hu;have e:c₀={c₀ with mode:=FrameMode.returning}:=by rw[<-hc]
  rw[e];exact tail .nilIface .returning (ar.2 rfl) rfl
 |pan v=>
  obtain⟨x,rfl,hx⟩:=hu;exact tail x _ hx ⟨x,rfl,hx⟩
 |rcv v=>
  obtain⟨x,rfl,hx⟩:=hu;have e:c₀={c₀ with mode:=FrameMode.panicking [{v:=x,recovered:=true}]}:=by rw[<-hc]
  rw[e];exact tail .nilIface _ (ar.2 rfl) ⟨x,rfl,hx⟩
omit [Tab P] in
theorem Eg {f:FuncId}{avs:List AVal}{H1:Heap}(H2:Heap){Qd:cz->fy->Heap->Prop}(h:fx P G f avs m H1 Qd):fx P G f avs m (H1++H2) (λr m' H'=>∃H1',Qd r m' H1'/\H'=H1'++H2):=by
 intro R w args u hG hm ha hu
 exact(h R w args u hG hm.enter ha hu).mono λe u' w' ⟨res,m',H',R',q,er,hu',hm'⟩=>⟨res,m',H'++H2,R',⟨H',q,rfl⟩,er,hu',MS.call hm hm'⟩
omit [Tab P] in
theorem Rz {f:FuncId}{avs:List AVal}{H1 H2:Heap}{Qd:cz->fy->Heap->Prop}(hp:H1.Perm H2)(h:fx P G f avs m H1 Qd):fx P G f avs m H2 Qd:=by
 have hb:∀k,k∈eh H2↔k∈eh H1:=λk=>by
  have:=(hp.filterMap HEnt.blk).mem_iff (a:=k)
  exact this.symm
 intro R w args u hG hm ha hu;exact(h R w args u hG ((hm.perm hp.symm).blks_iff hb) ha hu).mono λe u' w' ⟨res,m',H',R',q,er,hu',hm'⟩=>⟨res,m',H',R',q,er,hu',hm'.blks_iff λk=>(hb k).symm⟩
omit [Tab P] in
theorem IE {f:FuncId}{avs:List AVal}{Qd Qd':cz->fy->Heap->Prop}(h:fx P G f avs m H Qd)(hq:∀r m' H',Qd r m' H'->∃H'',H'.Perm H''/\Qd' r m' H''):fx P G f avs m H Qd':=by
 intro R w args u hG hm ha hu
 exact(h R w args u hG hm ha hu).mono λe u' w' ⟨res,m',H',R',q,er,hu',hm'⟩=>let ⟨H'',hp,q'⟩:=hq _ _ _ q;⟨res,m',H'',R',q',er,hu',hm'.perm hp⟩
omit [Tab P] in
theorem SF {f:FuncId}{avs:List AVal}{i:Nat}{x y:HEnt}{r:cz}{m':fy}(hi:H[i]? =some x)(hs:fx P G f avs m [x] (λr2 m2 H2=>m2=m'/\r2=r/\H2=[y])):
  fx P G f avs m H (λr2 m2 H2=>m2=m'/\r2=r/\H2=H.set i y):=by
 have hp:=fI hi
 refine IE (Rz (H1:=[x]++H.eraseIdx i) (by simpa using hp.symm) (Eg (H.eraseIdx i) hs)) ?_;rintro r2 m2 H' ⟨H1',⟨rfl,rfl,rfl⟩,rfl⟩;exact⟨_,i6 y hi,rfl,rfl,rfl⟩
omit [Tab P] in
theorem GJ {f:FuncId}{avs:List AVal}{H1 H1':Heap}{r:cz}{m':fy}(H2:Heap)(hs:fx P G f avs m H1 (λr2 m2 H2=>m2=m'/\r2=r/\H2=H1')):
  fx P G f avs m (H1++H2) (λr2 m2 H'=>m2=m'/\r2=r/\H'=H1'++H2):=by
 refine IE (Eg H2 hs) ?_
 rintro r2 m2 H' ⟨H3,⟨rfl,rfl,rfl⟩,rfl⟩;exact⟨_,List.Perm.refl _,rfl,rfl,rfl⟩
def Lv (P:Program)(G:Glo)(n:Nat)(rs:List ResultVar)(env:Env)(D:List Deferred)(m:fy)(H:Heap)(Qf:cz->Heap->Prop):Prop:=
 ∀(C:Ctx) (R:Seal) (a:Act) (w:World) (fn:Func) (u:FrameMode) (D0:List Deferred),C.G=G->fn.results.toList=rs->MS C R H w->FS D0 n R env a->fc R m u->
  Leaves P fn a.tmps (λe w'=>∃res H' R',Qf res H'/\gD R' res e/\MS C R' H' w') D u w
variable {rs:List ResultVar} {env:Env} {Qf:cz->Heap->Prop} {D:List Deferred}
theorem TX (h:ui P rs Qf .ret env H):Lv P G n rs env [] .ret H Qf:=by
 rintro C R a w fn u D0 hC hrs hm hf rfl
 obtain⟨vs,H'',hv,hs,q⟩:=jV h
 obtain⟨y,hy,hr⟩:=ea (fn:=fn) hm hf (by rw[hrs];exact hv);exact⟨y,hy,_,H'',R,q,⟨y,rfl,hr⟩,hm.drop hs⟩
omit [Tab P] in
omit [Tab P] in
theorem qL {f:FuncId}{avs:List AVal}{cap args:Array Value}{v:AVal}{m':fy}{H':Heap}(hs:fx P G f avs m H (λr2 m2 H2=>m2=m'/\r2= .ret v/\H2=H'))(ha:∀R,dv R avs (args++cap).toList)
  (hc:∀args w,(callFunc f args).run P w= .ok (.enter f args) w) (k:Lv P G n rs env D m'.settle H' Qf):Lv P G n rs env ({target:=.fn (.func f) cap,args:=args}::D) m H Qf:=by
 intro C R a w fn u D0 hC hrs hm hf hu;subst hC;refine leaves_cons (f:=f) (args:=args++cap) (Dt hu) (by simp only[invoke];exact hc _ _) ?_;refine(hs R w _ u hm.glo (MS.enter (H2:=[]) (by simpa using hm)) (ha R) hu).mono ?_;rintro e u' w' ⟨res,m2,H2,R',⟨rfl,rfl,rfl⟩,⟨y,rfl,hr⟩,hu',hm'⟩;have hm2:MS C R' H2 w':=by simpa using MS.call (H2:=[]) (by simpa using hm) hm'
 exact k C R' a w' fn _ D0 rfl hrs hm2 (hf.mono hm'.ge) (Fq hu')
def LvQ (P:Program)(G:Glo)(n:Nat)(rs:List ResultVar)(Qf:cz->Heap->Prop):List Deferred->aQ->Env->Heap->Prop
 |D,.ret,e,H|D,.normal,e,H=>Lv P G n rs e D .ret H Qf
 |D,.panic v,e,H=>Lv P G n rs e D (.pan v) H Qf
 |_,_,_,_=>False
omit [Tab P] in
theorem Wb {f:FuncId}{fn:Func}{c:Code}{avs:List AVal}(hf:P.funcs[f]? =some fn)
  (hc:∀args w,(callFunc f args).run P w= .ok (.enter f args) w) (hb:fn.body=some c) (hn:fn.ntmps=n) (hrs:fn.results=rs.toArray) (hlen:Nat.ble avs.length n=true)
  (h:∀C:Ctx,C.G=G->C.D=[]->gk P C n c (ft 0 avs) H (LvQ P G n rs Qf)):ae P G f avs H Qf:=by
 intro R w args hG hm ha;refine .inl ⟨hc args w,calls_of_wp_defers hf hb ?_⟩;subst hn;have hrs':fn.results.toList=rs:=by rw[hrs]
 refine wp_mono (h ⟨w,R,eh H,G,hG,[]⟩ rfl rfl R _ w hm (BL hlen ha)) ?_;rintro e a' w' ⟨D,x,env',H',R',q,er,hm',hf'⟩;cases x with
 |normal=>
  simp only[aM] at er;subst er;have:=q _ R' a' w' fn .returning D rfl hrs' hm' hf' rfl;rwa [<-hf'.defers] at this
 |ret=>
  simp only[aM] at er;subst er;have:=q _ R' a' w' fn .returning D rfl hrs' hm' hf' rfl;rwa [<-hf'.defers] at this
 |panic v=>
  obtain⟨y,rfl,hr⟩:=er;have:=q _ R' a' w' fn (.panicking [{v:=y,recovered:=false}]) D rfl hrs' hm' hf' ⟨y,rfl,hr⟩;rwa [<-hf'.defers] at this
 |exit i=>exact q.elim
 |goto i=>exact q.elim
end
end
end Go.Proofs.YtpgdnpielhfpgaaGreatDoor
