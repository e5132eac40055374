/- Parts of the proof of cardParses_card. -/
import Derived.Test.YtnbaflecdkgihaaGreatDoorBal
set_option linter.unusedVariables false
set_option linter.unusedSimpArgs false
set_option linter.unusedSectionVars false
namespace Go.Proofs.YtnbaflecdkgihaaGreatDoor
open Go Go.RowKit
open Tryz
set_option maxRecDepth 20000
set_option maxHeartbeats 4000000
section
theorem DH (c:UInt8)(s:List UInt8):bS c s=if(Lib.cut s [c]).2.2 then(Lib.cut s [c]).1::bS c (Lib.cut s [c]).2.1 else[s]:=by
 have h:=ni c s;rcases Lib.index_spec s [c] with⟨h2,_⟩|⟨i,h2,_⟩
 ·rw[Lib.count_miss h2] at h;have e:Lib.cut s [c]=(s,[],false):=by unfold Lib.cut;rw[if_neg a_]
  rw[e,if_neg Bool.false_ne_true,<-h];rfl
 ·have e:Lib.cut s [c]=(s.take i,s.drop (i+1),true):=by unfold Lib.cut;rw[if_pos a_,h2];rfl
  rw[Lib.count_hit (by simp) h2,Nat.add_comm,nj h2] at h;rw[e,if_pos rfl,<-h];congr 1
  exact ni c _
theorem Mj:∀k:Fin 1000,(46:UInt8)∉Lib.decDigits k.val:=by decide+kernel
theorem Mw {m:Nat}{s:List UInt8}(hm:m<=999)(h:(46:UInt8)∈s):gV m s=false:=by
 refine yz.2 λn h1 h2 h3=> ?_;subst h3;exact Mj ⟨n,a_⟩ h
theorem Wj {s:List UInt8}{c:UInt8}(h:(Lib.cut s [c]).2.2=true):c∈s:=by
 unfold Lib.cut at h;split at h
 ·rename_i hi;rw[Lib.index_one] at hi;rcases Classical.em (c∈s) with g|g
  ·exact g
  ·exfalso;have:Lib.indexByte s c= -1:=by
    have:=Lib.index_spec s [c];rcases this with⟨h1,_⟩|⟨i,h1,h2,h3,_⟩
    ·rwa [Lib.index_one] at h1
    ·exfalso;apply g;unfold Lib.occAt at h3;cases hd:s.drop i with
     |nil=>rw[hd] at h3;simp at h3
     |cons x t=>
      rw[hd] at h3;have:c=x:=by simpa[List.isPrefixOf] using h3
      rw[this];exact List.mem_of_mem_drop (by rw[hd];exact z_ ..)
   omega
 ·cases h
def Sj (l:List (List UInt8)):Bool:=decide (l.length<=2)&&l.all (gV 999)
theorem Si (v:List UInt8):Sj (bS 46 v)=oI v:=by
 rw[DH];unfold oI Sj;cases ht:(Lib.cut v [46]).2.2 with
 |false=>
  have e:(Lib.cut v [46]).1=v:=by
   unfold Lib.cut at ht ⊢;split at ht
   ·cases ht
   ·rename_i h;rw[if_neg h]
  rw[e];simp
 |true=>
  rw[if_pos rfl,DH];cases ht2:(Lib.cut (Lib.cut v [46]).2.1 [46]).2.2 with
  |false=>simp
  |true=>
   have h1:=Mw (m:=999) (Nat.le_refl _) (Wj ht2);rw[h1,if_pos rfl];have h3:=pA 46 (Lib.cut (Lib.cut v [46]).2.1 [46]).2.1;have h4:0<(bS 46 (Lib.cut (Lib.cut v [46]).2.1 [46]).2.1).length:=List.length_pos_iff.2 h3;rw[decide_eq_false (by simp only[j_];omega)];simp
abbrev DI:List UInt8:=[32,86,65,76,85,69,32,65,76,84,73,68,32,77,69,68,73,65,84,89,80,69,32,69,78,67,79,68,73,78,71,32,76,65,78,71,85,65,71,69,32,80,82,69,70,32]
def nn (n:List UInt8):Bool:=decide (n=OT\/n=OW\/n=OU\/n=OV\/n=zl\/n=nPRE)
theorem Ek:∀{n L:List UInt8},(n++[32]).isPrefixOf L=true->(32:UInt8)∉n->n=L.takeWhile (· != 32)
 |[],[],h,_=>by simp at h
 |[],x::L,h,_=>by
  simp only[L_,List.isPrefixOf,Bool.and_true,YS] at h;subst h;simp
 |a::n,[],h,_=>by simp at h
 |a::n,x::L,h,hn=>by
  simp only[Lu,List.isPrefixOf,l_,YS] at h;obtain⟨rfl,h⟩:=h;have ha:a≠32:=λe=>hn (by rw[e];exact z_ ..);have:=Ek h (λe=>hn (List.mem_cons_of_mem _ e));rw[List.takeWhile_cons,if_pos (by simpa using ha),<-this]
theorem Lh:∀i:Fin 47,∀L,DI.drop i.val=32::L->L.takeWhile (· != 32)=[]\/nn (L.takeWhile (· != 32))=true:=by
 have h:∀i:Fin 47,(match DI.drop i.val with|x::L=>x != 32||((L.takeWhile (· != 32)).isEmpty||nn (L.takeWhile (· != 32)))|[]=>true)=true:=by decide+kernel
 intro i L hL;have:=h i;rw[hL] at this;replace this:((32:UInt8) != 32||((L.takeWhile (· != 32)).isEmpty||nn (L.takeWhile (· != 32))))=true:=this;generalize L.takeWhile (· != 32)=u at*
 rw[show((32:UInt8) != 32)=false by decide,Bool.false_or,Wk,List.isEmpty_iff] at this;exact this
theorem UV {n:List UInt8}(h:nn n=true):Lib.contains DI (32::n++[32])=true:=by
 have h:n=OT\/n=OW\/n=OU\/n=OV\/n=zl\/n=nPRE:=of_decide_eq_true h;rcases h with rfl|rfl|rfl|rfl|rfl|rfl<;>decide+kernel
theorem UW {n:List UInt8}(h0:n≠[])(hn:(32:UInt8)∉n):Lib.contains DI (32::n++[32])=nn n:=by
 cases hb:nn n with
 |true=>exact UV hb
 |false=>
  unfold Lib.contains;rcases Lib.index_spec DI (32::n++[32]) with⟨h1,_⟩|⟨i,h1,h2,h3,_⟩
  ·rw[h1];rfl
  ·exfalso;unfold Lib.occAt at h3;cases hd:DI.drop i with
   |nil=>rw[hd] at h3;simp at h3
   |cons x L=>
    rw[hd] at h3;simp only[Lu,List.isPrefixOf,l_,YS] at h3;obtain⟨rfl,h3⟩:=h3;have e:=Ek h3 hn;rcases Lh ⟨i,by have:DI.length=46:=rfl;omega⟩ L hd with h|h
    ·exact h0 (e.trans h)
    ·rw[<-e,hb] at h;cases h
theorem B6 {s:List UInt8}(h:isS s=true):am 97 122 (-32) s≠[]/\(32:UInt8)∉am 97 122 (-32) s:=by
 unfold isS at h;simp only[l_,n_] at h;obtain⟨h1,h2,_⟩:=h;refine⟨λe=>h2 ?_,λhm=> ?_⟩
 ·have:=congrArg List.length e;unfold am at this;rwa [C_] at this
 ·unfold am at hm;rw[List.mem_map] at hm;obtain⟨c,hc,e⟩:=hm;unfold CZ at h1;have hl:=List.all_eq_true.1 h1 c hc;unfold aU at hl;have hl:=of_decide_eq_true hl;have e:=congrArg UInt8.toNat e;rw[UInt8.toNat_ofNat'] at e;have hlt:=UInt8.toNat_lt c;unfold eb at e;have e32:(32:UInt8).toNat=32:=rfl;rw[e32] at e;split at e<;>omega
end
section
def Ai (n:List UInt8)(v:List UInt8):Bool:=if n=zl then(dG v).isNone else if n=nPRE then gV 100 v else if n=nTYP then isS v else if n=zk then oI v else true
theorem VW (n:List UInt8)(vs:List (List UInt8)):u4 n vs=(decide (vs.length≠0)&&((!nn n||decide (vs.length=1))&&vs.all (Ai n))):=by
 have one:∀{p:List UInt8->Bool},vs.length=1->vs.all p=p (vs.getD 0 []):=λh=>by
  obtain⟨v,rfl⟩:=List.length_eq_one_iff.1 h;simp
 cases Yy n with
 |one h=>
  have e:∀v,Ai n v=true:=λv=>by
   unfold Ai;rcases h with rfl|rfl|rfl|rfl<;>rfl
  have e2:vs.all (Ai n)=true:=List.all_eq_true.2 λv _=>e v;have e3:nn n=true:=by rcases h with rfl|rfl|rfl|rfl<;>rfl
  unfold u4;rw[if_pos h,e2,e3];by_cases hv:vs.length=1
  ·simp[hv]
  ·simp[hv]
 |lan h=>
  subst h;show(decide (vs.length=1)&&(dG (vs.getD 0 [])).isNone)=_;rw[show nn zl=true from rfl];by_cases hv:vs.length=1
  ·rw[one hv];simp[hv,Ai]
  ·simp[hv]
 |pre h=>
  subst h
  show(decide (vs.length=1)&&gV 100 (vs.getD 0 []))=_
  rw[show nn nPRE=true from rfl]
  by_cases hv:vs.length=1
  ·rw[one hv];simp[hv,Ai]
  ·simp[hv]
 |typ h=>
  subst h
  show(vs.all isS&&decide (0<vs.length))=_
  rw[show nn nTYP=false from rfl,show Ai nTYP=isS from rfl]
  by_cases hv:vs.length=0
  ·simp[hv]
  ·simp[hv,Nat.pos_of_ne_zero hv]
 |pid h=>
  subst h
  show(vs.all oI&&decide (0<vs.length))=_
  rw[show nn zk=false from rfl,show Ai zk=oI from rfl]
  by_cases hv:vs.length=0
  ·simp[hv]
  ·simp[hv,Nat.pos_of_ne_zero hv]
 |els h1 h2 h3 h4 h5 h6 h7 h8=>
  have e:∀v,Ai n v=true:=λv=>by
   unfold Ai
   rw[if_neg h5,if_neg h6,if_neg h7,if_neg h8]
  have e2:vs.all (Ai n)=true:=List.all_eq_true.2 λv _=>e v
  have e3:nn n=false:=by
   unfold nn
   exact decide_eq_false (by simp only[not_or];exact⟨h1,h2,h3,h4,h5,h6⟩)
  unfold u4
  rw[if_neg (by simp only[not_or];exact⟨h1,h2,h3,h4⟩),if_neg h5,if_neg h6,if_neg h7,if_neg h8,e2,e3]
  by_cases hv:vs.length=0
  ·simp[hv]
  ·simp[hv,Nat.pos_of_ne_zero hv]
theorem AE:∀(b:Bool) (a:Nat) (l:List (List UInt8)),(fa b a l).isNone=bU (fa b a l).e 0
 |b,a,[]=>by unfold fa;exact(fA.2 rfl).symm
 |b,a,x::l=>by
  unfold fa;have ih:=AE false (a+x.length+1) l;have hp:eC b a x= .none\/∃e p,eC b a x= .at e p/\e≠0:=by
   unfold eC;split
   ·exact .inr ⟨_,_,rfl,b_⟩
   ·split
    ·exact .inr ⟨_,_,rfl,b_⟩
    ·split
     ·exact .inr ⟨_,_,rfl,b_⟩
     ·exact .inl rfl
  rcases hp with h|⟨e,p,h,he⟩
  ·rw[h];exact ih
  ·rw[h];exact(lK.2 he).symm
theorem LV (s:List UInt8):(dG s).isNone=bU (dG s).e 0:=AE true 0 (bS 45 s)
attribute [local irreducible] bG au aa az aR ab ad
attribute [local irreducible] gV dG isS oI bS Ai nn
theorem uo {G:Glo}(hP:fC G)(s:List UInt8)(m:Nat)(hm:m<=999):ak prog G 146 [.str s,.int .i64 (m:Int)] (.bool (gV m s)):=by
 refine ax func146 call146 λC hC hGL=> ?_
 refine aK ?_;intros;refine lp hC hGL (λk:Nat=>[(0,.str s),(1,.int .i64 (m:Int)),(5,.int .i64 (k:Int))]) (λ_=>[]) (λk=>1<=k/\k<=m+1/\∀n,1<=n->n<k->Lib.decDigits n≠s) (λk=>m+1-k) 1 ⟨Nat.le_refl _,a_,λn h1 h2=>by omega⟩ ah rfl ?_;rintro k ⟨h1,h2,h3⟩;by_cases hk:k<=m
 ·have hI:=strconv_Itoa (G:=G) hP k a_;by_cases he:Lib.decDigits k=s
  ·rw[Iy.2 ⟨k,h1,hk,he⟩];exact bB
  ·refine aK ?_;intros;refine cQ (k+1) ⟨a_,a_,λn g1 g2=> ?_⟩ a_ ah rfl;rcases Nat.lt_or_eq_of_le (Nat.le_of_lt_succ g2) with h|rfl
   ·exact h3 n g1 h
   ·exact he
 ·rw[yz.2 λn g1 g2=>h3 n g1 a_]
  exact bB
theorem Om {G:Glo}{m:Int}(hP:fC G)(hM:ab G (bP m))(q:Pr)(hq:isS q.n=true)(h0:q.n.length<=2000000)(h1:q.vs.length<=1000000)(h2:∀k,(q.vs.getD k []).length<=10000):ak prog G 83 [prA q] (.bool q.fit):=by
 have hU:=LA (G:=G) q.n a_;obtain⟨hb1,hb2⟩:=B6 hq;unfold Pr.fit;rw[VW];obtain⟨nm,vs⟩:=q;dsimp only at h0 h1 h2 hU hb1 hb2 ⊢;have hnl:(am 97 122 (-32) nm).length<=2000000:=by unfold am;rw[C_];exact h0
 clear hq;generalize am 97 122 (-32) nm=n at*
 have hS:=jB (G:=G) hM DI (32::n++[32]) b_;rw[UW hb1 hb2] at hS;by_cases hv:vs.length=0
 ·rw[decide_eq_false a_];refine ax func83 call83 λC hC hGL=> ?_;exact bB
 rw[decide_eq_true hv];by_cases hs:nn n=true/\vs.length≠1
 ·rw[hs.1] at hS ⊢;rw[decide_eq_false hs.2];refine ax func83 call83 λC hC hGL=> ?_;exact bB
 have e1:(!nn n||decide (vs.length=1))=true:=by
  rcases Bool.eq_false_or_eq_true (nn n) with h|h
  ·rw[h,decide_eq_true (Classical.not_not.1 λg=>hs ⟨h,g⟩)];rfl
  ·rw[h];rfl
 rw[e1,YT,YT];have ok1:∀{k:Nat},k<vs.length->Ai n (vs.getD k [])=true->(∀j,j<k->Ai n (vs.getD j [])=true)->∀j,j<k+1->Ai n (vs.getD j [])=true:=λhk h g j hj=>by
  rcases Nat.lt_or_eq_of_le (Nat.le_of_lt_succ hj) with h'|rfl
  ·exact g j h'
  ·exact h
 refine mh func83 call83 λC hC hGL=> ?_;refine cut hC hGL [(1,.rop [.str nm,.list 1 vs.length (aB vs)] 0)] [] True ?_ λ_=> ?_
 ·exact bB
 refine cut hC hGL [(1,.rop [.str nm,.list 1 vs.length (aB vs)] 0)] [] True ?_ λ_=> ?_
 ·exact bB
 refine cut hC hGL [(1,.rop [.str nm,.list 1 vs.length (aB vs)] 0),(3,.str n)] [] True ?_ λ_=> ?_
 ·exact bB
 refine cut hC hGL [(1,.rop [.str nm,.list 1 vs.length (aB vs)] 0),(3,.str n)] [] True ?_ λ_=> ?_
 ·cases h6:nn n with
  |true=>
   rw[h6] at hS hs;have hl1:vs.length=1:=Classical.not_not.1 λg=>hs ⟨rfl,g⟩;exact bB
  |false=>
   rw[h6] at hS;exact bB
 refine ay hC hGL (aK ?_);intros;refine lp hC hGL (λk:Nat=>[(3,.str n),(28,.list 1 vs.length (aB vs)),(29,.int .i64 (vs.length:Int)),(30,.int .i64 (k:Int))]) (λ_=>[]) (λk=>k<=vs.length/\∀j,j<k->Ai n (vs.getD j [])=true) (λk=>vs.length-k) 0 ⟨Nat.zero_le _,λj h=>absurd h (Uf _)⟩ ah rfl ?_;rintro k ⟨hk1,hk2⟩;by_cases hk:k<vs.length
 ·have hl:=h2 k;have ok2:=λh=>ok1 hk h hk2;have bad:Ai n (vs.getD k [])=false->vs.all (Ai n)=false:=vG hk;have hLR:=mr hM (vs.getD k []) hl;have hFI:=gA (G:=G) (dG (vs.getD k [])).e (dG (vs.getD k [])).p;have hCN:=uo hP (vs.getD k []) 100 b_;have hIS:=th (G:=G) (vs.getD k []) a_;have hSP:=wi (G:=G) hM (vs.getD k []) 46 a_;have hCT:=λx=>uo hP x 999 (Nat.le_refl _);have hlE:=LV (vs.getD k []);have hpE:=Si (vs.getD k []);have hd:Ai n (vs.getD k [])=(if n=zl then(dG (vs.getD k [])).isNone else if n=nPRE then gV 100 (vs.getD k []) else if n=nTYP then isS (vs.getD k []) else if n=zk then oI (vs.getD k []) else true):=by unfold Ai;rfl
  cases Yy n with
  |one h=>
   have e:(if n=zl then(dG (vs.getD k [])).isNone else if n=nPRE then gV 100 (vs.getD k []) else if n=nTYP then isS (vs.getD k []) else if n=zk then oI (vs.getD k []) else true)=true:=by rcases h with rfl|rfl|rfl|rfl<;>rfl
   have e:=ok2 (hd.trans e);rcases h with rfl|rfl|rfl|rfl
   all_goals
    refine aK ?_;intros;exact cQ (k+1) ⟨a_,e⟩ a_ ah rfl
  |lan h=>
   subst h;cases hc:(dG (vs.getD k [])).isNone with
   |true=>
    rw[hc] at hlE;rw[<-hlE] at hFI;refine aK ?_;intros;exact cQ (k+1) ⟨a_,ok2 (by rw[hd];exact hc)⟩ a_ ah rfl
   |false=>
    rw[hc] at hlE;rw[<-hlE] at hFI;rw[bad (by rw[hd];exact hc)];exact bB
  |pre h=>
   subst h;cases hc:gV 100 (vs.getD k []) with
   |true=>
    rw[hc] at hCN;refine aK ?_;intros;exact cQ (k+1) ⟨a_,ok2 (by rw[hd];exact hc)⟩ a_ ah rfl
   |false=>
    rw[hc] at hCN;rw[bad (by rw[hd];exact hc)];exact bB
  |typ h=>
   subst h;cases hc:isS (vs.getD k []) with
   |true=>
    rw[hc] at hIS;refine aK ?_;intros;exact cQ (k+1) ⟨a_,ok2 (by rw[hd];exact hc)⟩ a_ ah rfl
   |false=>
    rw[hc] at hIS;rw[bad (by rw[hd];exact hc)];exact bB
  |pid h=>
   subst h;have hln:=pB 46 (vs.getD k []);have hpd:Sj (bS 46 (vs.getD k []))=(decide ((bS 46 (vs.getD k [])).length<=2)&&(bS 46 (vs.getD k [])).all (gV 999)):=by unfold Sj;rfl
   rw[hpE] at hpd;generalize bS 46 (vs.getD k [])=l at hln hpd hSP;refine aK ?_;intros;refine lp hC hGL (λj:Nat=>[(3,.str zk),(6,.bool (decide (l.length<=2)&&(l.take j).all (gV 999))),(28,.list 1 vs.length (aB vs)),(29,.int .i64 (vs.length:Int)),(30,.int .i64 (k:Int)),(55,.list 1 l.length (aB l)),(56,.int .i64 (l.length:Int)),(57,.int .i64 (j:Int))]) (λ_=>[]) (λj=>j<=l.length) (λj=>l.length-j) 0 (Nat.zero_le _) ⟨rfl,?_,rfl,rfl,rfl,rfl,rfl,rfl,trivial⟩ rfl ?_
   ·show Env.get _ 6=_;rw[YP,List.all_nil,Bool.and_true];exact congrArg (λz=>some (AVal.bool z)) (by unfold nY;rw[<-decide_not];exact decide_eq_decide.2 a_)
   intro j hj;by_cases hjl:j<l.length
   ·have hC1:=hCT (l.getD j []);have e2:(l.take (j+1)).all (gV 999)=((l.take j).all (gV 999)&&gV 999 (l.getD j [])):=by
     rw[x_ hjl,List.all_append,f_,y_ hjl];simp
    cases hb:(decide (l.length<=2)&&(l.take j).all (gV 999)) with
    |true=>
     refine aK ?_;intros;refine cQ (j+1) a_ a_ ⟨rfl,?_,rfl,rfl,rfl,rfl,rfl,rfl,trivial⟩ rfl;rw[e2,<-Bool.and_assoc,hb];rfl
    |false=>
     refine aK ?_;intros;refine cQ (j+1) a_ a_ ⟨rfl,?_,rfl,rfl,rfl,rfl,rfl,rfl,trivial⟩ rfl;rw[e2,<-Bool.and_assoc,hb];rfl
   ·obtain rfl:j=l.length:=by omega
    rw[List.take_length,<-hpd];cases hc:oI (vs.getD k []) with
    |true=>
     refine aK ?_;intros;exact cQ (k+1) ⟨a_,ok2 (by rw[hd];exact hc)⟩ a_ ah rfl
    |false=>
     rw[bad (by rw[hd];exact hc)];exact bB
  |els h3 h4 h5 h6 h7 h8 h9 h10=>
   have e:=ok2 (by rw[hd,if_neg h7,if_neg h8,if_neg h9,if_neg h10]);refine aK ?_;intros;exact cQ (k+1) ⟨a_,e⟩ a_ ah rfl
 ·rw[yM λj hj=>hk2 j a_];exact bB
end
section
theorem Dr {t:Int}{l:List Pr}(h:dX uG l 0= -1):ro t l=t:=by unfold ro;rw[h,if_pos (.inl b_)]
theorem zN {t:Int}{l:List Pr}{k:Nat}(h:dX uG l 0=(k:Int))(h2:(l.getD k Pr.z).vs.length=0):ro t l=t:=by unfold ro;rw[h,B_,if_pos (.inr h2)]
theorem Ds {t:Int}{l:List Pr}{k:Nat}(h:dX uG l 0=(k:Int))(h2:(l.getD k Pr.z).vs.length≠0):ro t l=Xj t (am 65 90 32 ((l.getD k Pr.z).vs.getD 0 [])):=by unfold ro;rw[h,B_,if_neg (by rintro(h|h);omega;exact h2 h)]
attribute [local irreducible] bG au aa az aR ab ad
attribute [local irreducible] am dX cz
theorem wD {G:Glo}(hS:qh G)(v:Int)(s:List UInt8)(l:List Pr)(hs:s.length<=2000000)(hl:l.length<=9223372036854775807)(hn:∀k,(l.getD k Pr.z).n.length<=9223372036854775807)(hv:∀k,(l.getD k Pr.z).vs.length<=9223372036854775807/\((l.getD k Pr.z).vs.getD 0 []).length<=9223372036854775807):
  ak prog G 49 [.str s,.list 2 l.length (fU l),.int .i64 v] (.tuple [.int .i64 (jv v s l),(eM v).A]):=by
 have h1:=rK (G:=G) hS v s hs;have h2:ak prog G 97 [.list 2 l.length (fU l),.str [86,65,76,85,69]] (.int .i64 (dX uG l 0)):=wE (G:=G) l uG hl hn b_;by_cases hver:v=3\/v=4
 ·have e2:eM v= .none:=by unfold eM;rw[if_pos hver]
  have e3:jv v s l=ro (cz v s).t l:=by unfold jv;rw[if_pos hver]
  rw[e2] at h1 ⊢;rw[e3];generalize cz v s=r at*
  simp only[Err.A,lJ] at h1 ⊢;rcases oZ uG l 0 with hf|⟨k,hk,hf⟩
  ·rw[Dr hf];rw[hf] at h2;refine ax func49 call49 λC hC hGL=> ?_;refine xw ?_;repeat' first|exact .n|apply Lc.mk
   all_goals intros
   all_goals intros
   all_goals first
    |(apply aj;rfl)
    |(exfalso;omega)
  ·rw[Nat.zero_add] at hf;rw[hf] at h2;by_cases h0:(l.getD k Pr.z).vs.length=0
   ·rw[zN hf h0];refine ax func49 call49 λC hC hGL=> ?_;refine xw ?_;repeat' first|exact .n|apply Lc.mk
    all_goals intros
    all_goals intros
    all_goals first
     |(apply aj;rfl)
     |(exfalso;omega)
     |trace_state
   ·rw[Ds hf h0];have h3:=Hz (G:=G) ((l.getD k Pr.z).vs.getD 0 []) (by have:=(hv k).2;omega);have h3:ak prog G 98 [aB (l.getD k Pr.z).vs 0] _:=h3;generalize am 65 90 32 ((l.getD k Pr.z).vs.getD 0 [])=x at*
    refine ax func49 call49 λC hC hGL=> ?_;refine xw ?_;repeat' first|exact .n|apply Lc.mk
    all_goals intros
    all_goals intros
    all_goals try (exfalso;omega)
    all_goals
     apply aj;refine congrArg (λz=>AVal.tuple [.int .i64 z,.raw .nilIface]) (Eq.symm ?_);clear h1 h2 h3 hn hv hf hC hGL;unfold Xj;simp[*]
 ·have e2:eM v= .errno 1:=by unfold eM;rw[if_neg hver]
  have e3:jv v s l=0:=by unfold jv;rw[if_neg hver]
  rw[e2] at h1 ⊢;rw[e3];simp only[Err.A,lJ] at h1 ⊢;refine ax func49 call49 λC hC hGL=> ?_;refine xw ?_;repeat' first|exact .n|apply Lc.mk
  all_goals intros
  all_goals intros
  all_goals first
   |(apply aj;rfl)
   |(exfalso;omega)
theorem Ee {G:Glo}(v:Int)(s:List UInt8)(l:List Pr)(hs:s.length<=2000000)(hl:l.length<=9223372036854775807)(hn:∀k,(l.getD k Pr.z).n.length<=9223372036854775807)(hv:∀k,(l.getD k Pr.z).vs.length<=9223372036854775807/\((l.getD k Pr.z).vs.getD 0 []).length<=9223372036854775807):
  ak prog G 34 [.str s,.list 2 l.length (fU l),.int .i64 v] (.tuple [.int .i64 (jv v s l),.int .i64 (eM v).e]):=by
 have h1:=rS (G:=G) v s hs;have h2:ak prog G 71 [.list 2 l.length (fU l),.str [86,65,76,85,69]] (.int .i64 (dX uG l 0)):=On (G:=G) l uG hl hn b_;by_cases hver:v=3\/v=4
 ·have e2:eM v= .none:=by unfold eM;rw[if_pos hver]
  have e3:jv v s l=ro (cz v s).t l:=by unfold jv;rw[if_pos hver]
  rw[e2] at h1 ⊢;rw[e3];generalize cz v s=r at*
  simp only[Err.e] at h1 ⊢;rcases oZ uG l 0 with hf|⟨k,hk,hf⟩
  ·rw[Dr hf];rw[hf] at h2;refine ax func34 call34 λC hC hGL=> ?_;refine xw ?_;repeat' first|exact .n|apply Lc.mk
   all_goals intros
   all_goals intros
   all_goals first
    |(apply aj;rfl)
    |(exfalso;omega)
  ·rw[Nat.zero_add] at hf;rw[hf] at h2;by_cases h0:(l.getD k Pr.z).vs.length=0
   ·rw[zN hf h0];refine ax func34 call34 λC hC hGL=> ?_;refine xw ?_;repeat' first|exact .n|apply Lc.mk
    all_goals intros
    all_goals intros
    all_goals first
     |(apply aj;rfl)
     |(exfalso;omega)
   ·rw[Ds hf h0];have h3:=pJ (G:=G) ((l.getD k Pr.z).vs.getD 0 []) (by have:=(hv k).2;omega);have h3:ak prog G 21 [aB (l.getD k Pr.z).vs 0] _:=h3;generalize am 65 90 32 ((l.getD k Pr.z).vs.getD 0 [])=x at*
    refine ax func34 call34 λC hC hGL=> ?_;refine xn ?_;repeat' first|exact .n|apply Lc.mk
    all_goals intros
    all_goals intros
    all_goals try (exfalso;omega)
    all_goals
     apply aj;refine congrArg (λz=>AVal.tuple [.int .i64 z,.int .i64 0]) (Eq.symm ?_);clear h1 h2 h3 hn hv hf hC hGL;unfold Xj;simp[*]
 ·have e2:eM v= .errno 1:=by unfold eM;rw[if_neg hver]
  have e3:jv v s l=0:=by unfold jv;rw[if_neg hver]
  rw[e2] at h1 ⊢;rw[e3];simp only[Err.e] at h1 ⊢;refine ax func34 call34 λC hC hGL=> ?_;refine xw ?_;repeat' first|exact .n|apply Lc.mk
  all_goals intros
  all_goals intros
  all_goals first
   |(apply aj;rfl)
   |(exfalso;omega)
end
section
theorem qb {G:Glo}(s:List UInt8)(c:UInt8):ak prog G 223 [.str s,.str [c]] (.int .i64 (s.countP (· ==c):Nat)):=by
 refine bK rfl call223 ?_;rintro R args ⟨x,t,e,hx,y,t',e',hy,rfl⟩ w hG hs;obtain rfl:=aD.1 hx;obtain rfl:=aD.1 hy;subst e';obtain rfl:=fK e;refine(strings_Count_one ⟨s.toArray⟩ c w).mono ?_;rintro e w' ⟨rfl,rfl⟩;exact⟨by simp[AVal.conc,Lib.countByte,List.count],Below.refl _ _⟩
end
section
abbrev XV:List AVal:=[.str [94],.str [94,94],.str [10],.str [94,110],.str [34],.str [94,39]]
set_option maxRecDepth 20000 in
theorem RJ (a b c t x:AVal):(ru 34 10 94 a b c t).set 34 x=ru 34 10 94 x b c t:=rfl
set_option maxRecDepth 20000 in
theorem RK (a b c t x:AVal):(ru 34 10 94 a b c t).set 10 x=ru 34 10 94 a x c t:=rfl
set_option maxRecDepth 20000 in
theorem RI (a b c t x:AVal):(ru 34 10 94 a b c t).set 94 x=ru 34 10 94 a b x t:=rfl
set_option maxRecDepth 20000 in
theorem NR (a b c t x:AVal):(ru 34 10 94 a b c t).set 256 x=ru 34 10 94 a b c x:=rfl
abbrev Wa (i:Nat):AVal:=.str [([34,10,94]:List UInt8).getD i 0]
theorem S5:TN encF [34,10,94] (ru 34 10 94 (.list 1 2 (kG [94,39])) (.list 1 2 (kG [94,110])) (.list 1 2 (kG [94,94])) (.list 1 3 Wa)):=by
 refine⟨λc hc=> ?_,λc hc=> ?_,Dy ..,b_⟩
 ·rw[ou c.toNat_lt];simp only[p_,t_,or_false] at hc;rcases hc with rfl|rfl|rfl
  all_goals exact⟨rfl,rfl⟩
 ·rw[ou c.toNat_lt];simp only[p_,t_,or_false,not_or] at hc;have h:∀k:UInt8,c≠k->c.toNat≠k.toNat:=λk hk e=>hk (UInt8.toNat_inj.1 e);have h1:c.toNat≠34:=h 34 hc.1;have h2:c.toNat≠10:=h 10 hc.2.1;have h3:c.toNat≠94:=h 94 hc.2.2;exact⟨by rw[if_neg h3,if_neg h2,if_neg h1],FG h3 h2 h1⟩
theorem P2 (s:List UInt8):fQ s=s.flatMap encF:=rfl
attribute [local irreducible] bG au aa az aR ab ad
attribute [local irreducible] ru encF fQ
theorem IL {G:Glo}:Gn G 6 XV encF [34,10,94]:=λbr bl vc=>by
 refine Fw (MD (G:=G) br bl vc) ?_;rintro r H ⟨va,vk,vt,bz,b1,c1,b2,c2,b3,c3,hva,rfl,rfl⟩;intro C R w e hm he;obtain⟨r2,H2,R2,⟨e1,e2⟩,h2,h3⟩:=v6 (a':=.rop (ru 34 10 94 (.list 1 2 (kG [94,39])) (.list 1 2 (kG [94,110])) (.list 1 2 (kG [94,94])) (.list 1 3 Wa)) 0) (H':=[QI br 6 vc XV,.cells bl (some 319) (W3 br 6 vc)])
  (λC=>an (lq (i:=6) (k:=3) (p:=94) rfl rfl λR hr=>jm (RI ..) (ou b_) λ_=>cE hr)
   (an (lq (i:=5) (k:=3) (p:=10) rfl rfl λR hr=>jm (RK ..) (ou b_) λ_=>cE hr)
   (an (lq (i:=4) (k:=3) (p:=34) rfl rfl λR hr=>jm (RJ ..) (ou b_) λ_=>cE hr)
   (an (kS (i:=2) (k:=2) (p:=256) Wa rfl rfl (λj hj=>by rcases(show j=0\/j=1\/j=2 by omega) with rfl|rfl|rfl<;>exact⟨rfl,rfl⟩) λR hr=>jm (NR ..) (Dy ..) λ_=>cE hr)
   (an (aA (i:=2) (k:=0) rfl rfl) (bL ah aF)))))) C R w e hm he
 exact⟨r2,H2,R2,⟨_,S5,e1,e2⟩,h2,h3⟩
theorem sy {G:Glo}(s:List UInt8)(hl:s.length<=2000000)(hct:∀c,ak prog G 223 [.str s,.str [c]] (.int .i64 (s.countP (· ==c):Nat))):ak prog G 168 [.str s] (.str (fQ s)):=by
 refine ax func168 call168 λC hC hGL=> ?_;refine ao ?_;intros;refine⟨_,kF 6 _ b_ b_ ?_,?_,?_⟩
 ·unfold az;exact ld rfl
 ·rintro v H' ⟨bl,va,vk,vc,hva,e,rfl⟩;cases e;obtain⟨br,rfl,rfl⟩:=hva a_;have e2:=un (IL (G:=G)) b_ br bl vc s a_ hct;rw[<-P2] at e2;refine ao ?_;intros;refine CF e2 ?_;exact eK
 ·rintro v H' ⟨bl,va,vk,vc,hva,e,rfl⟩;cases e
end
section
attribute [local irreducible] bG au aa az aR ab ad
attribute [local irreducible] iw fd dm isS kx fQ
theorem qT {G:Glo}(s:List UInt8)(hl:s.length<=9223372036854775807):ak prog G 162 [.str s] (.bool (fd false s)):=by
 have hB:=Bk (G:=G) s hl;have k1:=λi (_:0<=(aa s i:Int))=>nE (G:=G) (aa s i);refine ax func162 call162 λC hC hGL=> ?_;refine aK ?_;refine lp hC hGL (λi:Nat=>[(0,.str s),(5,.int .i64 (s.length:Nat)),(6,.int .i64 (i:Nat))]) (λ_=>[]) (λi=>i<=s.length/\∀j,j<i->iw false (aa s j:Int)=false) (λi=>s.length-i) 0 ?_ ah rfl ?_
 ·exact⟨Nat.zero_le _,λj h=>absurd h (Uf _)⟩
 rintro i ⟨h1,h2⟩;refine xw ?_;repeat' first|exact .n|apply Lc.mk
 all_goals intros
 all_goals first
  |(apply aj;rw[PE (i:=i) a_ (by assumption) h2];rfl)
  |(refine cQ (i+1) ⟨a_,dj h2 (by assumption)⟩ a_ ah rfl)
  |(apply aj;rw[Kh (i:=i) a_ h2])
theorem qU {G:Glo}(s:List UInt8)(c:Bool)(hl:s.length<=2000000):ak prog G 161 [.str s,.bool c] (.bool (kx c s)):=by
 have hq:=λt=>aL (G:=G) t 34 b_ b_;cases c with
 |true=>
  have hE:=sy (G:=G) s hl (qb _);have hC1:=qT (G:=G) (fQ s) (by have:=(sn s).2;omega);have hq1:=hq (fQ s);have e:kx true s=(fd false (fQ s)&&decide (aS (fQ s) 34<0)):=by unfold kx q9;rfl
  rw[e];refine ax func161 call161 λC hC hGL=> ?_;refine xw ?_;repeat' first|exact .n|apply Lc.mk
  all_goals intros
  all_goals (apply aj;refine congrArg AVal.bool ?_;rw[show fd false (fQ s)=_ by assumption])
  all_goals (rw[w_];simp[nX])
 |false=>
  have hC1:=qT (G:=G) s a_;have hq1:=hq s;have e:kx false s=(fd false s&&decide (aS s 34<0)):=by unfold kx q9;rfl
  rw[e];refine ax func161 call161 λC hC hGL=> ?_;refine xw ?_;repeat' first|exact .n|apply Lc.mk
  all_goals intros
  all_goals (apply aj;refine congrArg AVal.bool ?_;rw[show fd false s=_ by assumption])
  all_goals (rw[w_];simp[nX])
theorem xC {G:Glo}(p:Ln)(c:Bool)(ho:p.Fit):ak prog G 110 [p.A,.bool c] (p.E c).A:=by
  have n1:=pQ (G:=G) p.n (by have:=ho.n;omega);have n2:=pQ (G:=G) p.g (by have:=ho.g;omega);have hv:=qT (G:=G) p.v (by have:=ho.v;omega);have hps:=ho.ps;refine ax func110 call110 λC hC hGL=> ?_;refine xw ?_;repeat' first|exact .n|apply Lc.mk
  all_goals intros
  all_goals try (apply aj;first|(rw[Ln.E_5 (.inl (by assumption))];rfl)|(rw[Ln.E_5 (.inr ⟨by assumption,by assumption⟩)];rfl)|(rw[Ln.E_4 (by assumption) (.inl (by assumption)) a_];rfl)|(rw[Ln.E_4 (by assumption) (.inr (by assumption)) a_];rfl))
  all_goals
    have q1:isS p.n=true:=by assumption
    have q2:p.g.length=0\/isS p.g=true:=by first|exact .inl (by assumption)|exact .inr (by assumption)
    have q3:p.ps.length<=20:=by omega
    refine lp hC hGL (λk:Nat=>[(1,.bool c),(2,.rop [.str p.g,.str p.n,.list 2 p.ps.length (fU p.ps),.str p.v] 0),(34,.list 2 p.ps.length (fU p.ps)),(35,.int .i64 (p.ps.length:Nat)),(36,.int .i64 (k:Nat))]) (λ_=>[]) (λk=>k<=p.ps.length/\∀j,j<k->tk c (p.ps.getD j Pr.z)=0) (λk=>p.ps.length-k) 0 ?_ ah rfl ?_
    · exact⟨Nat.zero_le _,λj h=>absurd h (Uf _)⟩
    rintro k ⟨h1,h2⟩;have hq:=ho.q k;have n3:=pQ (G:=G) (p.ps.getD k Pr.z).n a_;by_cases hk:k<p.ps.length
    · cases hn:isS (p.ps.getD k Pr.z).n with
      | false=>
        rw[hn] at n3;refine xw ?_;repeat' first|exact .n|apply Lc.mk
        all_goals intros
        · refine lp hC hGL (λx:Nat×Int=>[(1,.bool c),(2,.rop [.str p.g,.str p.n,.list 2 p.ps.length (fU p.ps),.str p.v] 0),(5,.int .i64 (k:Nat)),(7,.int .i64 x.2),(34,.list 2 p.ps.length (fU p.ps)),(35,.int .i64 (p.ps.length:Nat)),(36,.int .i64 (k:Nat)),(52,.list 1 (p.ps.getD k Pr.z).vs.length (aB (p.ps.getD k Pr.z).vs)),(53,.int .i64 ((p.ps.getD k Pr.z).vs.length:Nat)),(54,.int .i64 (x.1:Nat))]) (λ_=>[.cells _ (some 58) [.str (p.ps.getD k Pr.z).n,.list 1 (p.ps.getD k Pr.z).vs.length (aB (p.ps.getD k Pr.z).vs)]]) (λx=>x.1<=(p.ps.getD k Pr.z).vs.length/\Rc c (p.ps.getD k Pr.z) x.1 x.2) (λx=>(p.ps.getD k Pr.z).vs.length-x.1) (0,5) ?_ ah rfl ?_
          · exact⟨Nat.zero_le _,.inl ⟨hn,rfl⟩⟩
          rintro⟨j,e⟩ ⟨g1,g2⟩;dsimp only at g1 g2;have hj:=qU (G:=G) ((p.ps.getD k Pr.z).vs.getD j []) c (by have:=ii (l:=(p.ps.getD k Pr.z).vs) (k:=j);omega);refine xw ?_;repeat' first|exact .n|apply Lc.mk
          all_goals intros
          all_goals try dsimp only at*
          all_goals first
            |exact cQ (j+1,e) ⟨by dsimp only;omega,wZ g2 (by assumption)⟩ (by dsimp only;omega) ah rfl
            |exact cQ (j+1,e) ⟨by dsimp only;omega,Hr g2 (by assumption) (by assumption)⟩ (by dsimp only;omega) ah rfl
            |exact cQ (j+1,3) ⟨by dsimp only;omega,BY g2 (by assumption) a_ (by assumption)⟩ (by dsimp only;omega) ah rfl
            |exact ga (k+1) ⟨a_,bO h2 ((pM g2 a_).symm.trans (by assumption))⟩ a_ ah aF
            | (apply aj
               have e1:=pM g2 a_
               rw[Ln.E_at q1 q2 q3 a_ h2 (by rw[<-e1];assumption),<-e1]
               rfl)
      | true=>
        rw[hn] at n3;by_cases hz:(p.ps.getD k Pr.z).vs.length=0
        · refine xw ?_;repeat' first|exact .n|apply Lc.mk
          all_goals intros
          · refine lp hC hGL (λx:Nat×Int=>[(1,.bool c),(2,.rop [.str p.g,.str p.n,.list 2 p.ps.length (fU p.ps),.str p.v] 0),(5,.int .i64 (k:Nat)),(7,.int .i64 x.2),(34,.list 2 p.ps.length (fU p.ps)),(35,.int .i64 (p.ps.length:Nat)),(36,.int .i64 (k:Nat)),(52,.list 1 (p.ps.getD k Pr.z).vs.length (aB (p.ps.getD k Pr.z).vs)),(53,.int .i64 ((p.ps.getD k Pr.z).vs.length:Nat)),(54,.int .i64 (x.1:Nat))]) (λ_=>[.cells _ (some 58) [.str (p.ps.getD k Pr.z).n,.list 1 (p.ps.getD k Pr.z).vs.length (aB (p.ps.getD k Pr.z).vs)]]) (λx=>x.1<=(p.ps.getD k Pr.z).vs.length/\Rc c (p.ps.getD k Pr.z) x.1 x.2) (λx=>(p.ps.getD k Pr.z).vs.length-x.1) (0,8) ?_ ah rfl ?_
            · exact⟨Nat.zero_le _,.inr (.inl ⟨hn,hz,rfl⟩)⟩
            rintro⟨j,e⟩ ⟨g1,g2⟩;dsimp only at g1 g2;have hj:=qU (G:=G) ((p.ps.getD k Pr.z).vs.getD j []) c (by have:=ii (l:=(p.ps.getD k Pr.z).vs) (k:=j);omega);refine xw ?_;repeat' first|exact .n|apply Lc.mk
            all_goals intros
            all_goals try dsimp only at*
            all_goals first
              |exact cQ (j+1,e) ⟨by dsimp only;omega,wZ g2 (by assumption)⟩ (by dsimp only;omega) ah rfl
              |exact cQ (j+1,e) ⟨by dsimp only;omega,Hr g2 (by assumption) (by assumption)⟩ (by dsimp only;omega) ah rfl
              |exact cQ (j+1,3) ⟨by dsimp only;omega,BY g2 (by assumption) a_ (by assumption)⟩ (by dsimp only;omega) ah rfl
              |exact ga (k+1) ⟨a_,bO h2 ((pM g2 a_).symm.trans (by assumption))⟩ a_ ah aF
              | (apply aj
                 have e1:=pM g2 a_
                 rw[Ln.E_at q1 q2 q3 a_ h2 (by rw[<-e1];assumption),<-e1]
                 rfl)
        · refine xw ?_;repeat' first|exact .n|apply Lc.mk
          all_goals intros
          · refine lp hC hGL (λx:Nat×Int=>[(1,.bool c),(2,.rop [.str p.g,.str p.n,.list 2 p.ps.length (fU p.ps),.str p.v] 0),(5,.int .i64 (k:Nat)),(7,.int .i64 x.2),(34,.list 2 p.ps.length (fU p.ps)),(35,.int .i64 (p.ps.length:Nat)),(36,.int .i64 (k:Nat)),(52,.list 1 (p.ps.getD k Pr.z).vs.length (aB (p.ps.getD k Pr.z).vs)),(53,.int .i64 ((p.ps.getD k Pr.z).vs.length:Nat)),(54,.int .i64 (x.1:Nat))]) (λ_=>[.cells _ (some 58) [.str (p.ps.getD k Pr.z).n,.list 1 (p.ps.getD k Pr.z).vs.length (aB (p.ps.getD k Pr.z).vs)]]) (λx=>x.1<=(p.ps.getD k Pr.z).vs.length/\Rc c (p.ps.getD k Pr.z) x.1 x.2) (λx=>(p.ps.getD k Pr.z).vs.length-x.1) (0,0) ?_ ah rfl ?_
            · exact⟨Nat.zero_le _,.inr (.inr ⟨hn,hz,.inl ⟨rfl,λi hi=>absurd hi (Uf _)⟩⟩)⟩
            rintro⟨j,e⟩ ⟨g1,g2⟩;dsimp only at g1 g2;have hj:=qU (G:=G) ((p.ps.getD k Pr.z).vs.getD j []) c (by have:=ii (l:=(p.ps.getD k Pr.z).vs) (k:=j);omega);refine xw ?_;repeat' first|exact .n|apply Lc.mk
            all_goals intros
            all_goals try dsimp only at*
            all_goals first
              |exact cQ (j+1,e) ⟨by dsimp only;omega,wZ g2 (by assumption)⟩ (by dsimp only;omega) ah rfl
              |exact cQ (j+1,e) ⟨by dsimp only;omega,Hr g2 (by assumption) (by assumption)⟩ (by dsimp only;omega) ah rfl
              |exact cQ (j+1,3) ⟨by dsimp only;omega,BY g2 (by assumption) a_ (by assumption)⟩ (by dsimp only;omega) ah rfl
              |exact ga (k+1) ⟨a_,bO h2 ((pM g2 a_).symm.trans (by assumption))⟩ a_ ah aF
              | (apply aj
                 have e1:=pM g2 a_
                 rw[Ln.E_at q1 q2 q3 a_ h2 (by rw[<-e1];assumption),<-e1]
                 rfl)
    · refine xw ?_;repeat' first|exact .n|apply Lc.mk
      all_goals intros
      all_goals (apply aj;first|(rw[Ln.E_3 q1 q2 q3 a_ h2 (by assumption)];rfl)|(rw[Ln.E_0 q1 q2 q3 a_ h2 (by assumption)];rfl))
end
section
def Q9 (G:Glo)(cs:List UInt8):Prop:=∀r:Int,nA r=true->∃z:Int,ak prog G 40 [.str cs,.int .i32 r] (.int .i64 z)/\(0<=z↔∃x∈cs,r=x.toNat)
theorem Cm {cs:List UInt8}(x:UInt8):cs.contains x=true↔∃y∈cs,(x.toNat:Int)=y.toNat:=by
 rw[List.contains_iff_exists_mem_beq];exact⟨λ⟨y,h,e⟩=>⟨y,h,by rw[beq_iff_eq.1 e]⟩,λ⟨y,h,e⟩=>⟨y,h,beq_iff_eq.2 (UInt8.toNat_inj.1 a_)⟩⟩
theorem SQ {cs:List UInt8}{x:UInt8}(h:¬ ∃y∈cs,(x.toNat:Int)=y.toNat):cs.contains x=false:=by
 cases hc:cs.contains x with
 |false=>rfl
 |true=>exact absurd ((Cm x).1 hc) h
theorem Mh {r:Int}(h1:128<=r)(hv:nA r=true):(∃x y:UInt8,(Utf8.encode r).data.toList=[x,y]/\128<=y.toNat)\/(∃x y z:UInt8,(Utf8.encode r).data.toList=[x,y,z]/\128<=z.toNat)\/(∃x y z u:UInt8,(Utf8.encode r).data.toList=[x,y,z,u]/\128<=u.toNat):=by
 rw[nz] at hv;rw[Kr hv];have hb:∀k:Nat,128<=((UInt8.ofNat (128+k%64)).toNat):=by
  intro k;have e:128+k%64<256:=by omega
  rw[UInt8.toNat_ofNat_of_lt' (by simpa using e)];omega
 split
 ·omega
 ·split
  ·exact .inl ⟨_,_,rfl,hb _⟩
  ·split
   ·exact .inr (.inl ⟨_,_,_,rfl,hb _⟩)
   ·exact .inr (.inr ⟨_,_,_,_,rfl,hb _⟩)
theorem j4 {a b c:UInt8}:aa [a,b,c] 0=a.toNat/\aa [a,b,c] 1=b.toNat/\aa [a,b,c] 2=c.toNat:=⟨rfl,rfl,rfl⟩
attribute [local irreducible] bG au aa az aR ab ad
attribute [local irreducible] aC dm kH eN fk gg nA
theorem Jn {a b c x y:UInt8}{p:Prop}(hb:b.toNat<128)(hc:c.toNat<128)(hy:128<=y.toNat)(h:(aa [a,b,c] 1:Int)=(aa [x,y] 1:Int)):p:=by
 rw[j4.2.1,Rv] at h;omega
theorem DZ {a b c x y z:UInt8}{p:Prop}(hb:b.toNat<128)(hc:c.toNat<128)(hy:128<=z.toNat)(h:(aa [a,b,c] 2:Int)=(aa [x,y,z] 2:Int)):p:=by
 rw[j4.2.2,j4.2.2] at h;omega
theorem zp {G:Glo}{a b c:UInt8}(ha:a.toNat<128)(hb':b.toNat<128)(hc':c.toNat<128)(r:Int)(h1:128<=r)(hv:nA r=true)(hne:r≠65533):ak prog G 40 [.str [a,b,c],.int .i32 r] (.int .i64 (-1)):=by
 have hV:=vX (G:=G) r;rw[hv] at hV;obtain⟨g0,g1,g2⟩:=j4 (a:=a) (b:=b) (c:=c);have hix:∀q:Int,128<=q->q<=255->ak prog G 30 [.str [c],.int .u8 q] (.int .i64 (-1)):=λq h0 h1=>by
  have:=aL (G:=G) [c] q a_ h1;rwa [show aS [c] q= -1 by unfold aS;simp only[kh];split<;>omega] at this
 have hix0:∀q:Int,0<=q->q<=255->ak prog G 30 [.str [],.int .u8 q] (.int .i64 (-1)):=λq h0 h1=>aL [] q h0 h1;have hcall:=call30;rcases Mh h1 hv with⟨x,y,he,hy⟩|⟨x,y,z,he,hy⟩|⟨x,y,z,u,he,hy⟩
 ·have f1:aa [x,y] 1=y.toNat:=Rv;have e1:aa [a,b,c] ([x,y].length-Nat.succ 0)=b.toNat:=j4.2.1;have e2:aa [x,y] ([x,y].length-Nat.succ 0)=y.toNat:=Rv;have f2:=hix (aa [x,y] 1) a_ (by have:=bu [x,y] 1;omega);refine ax func40 call40 λC hC hGL=> ?_;refine aK ?_;intros;apply lN hC hGL;refine aK ?_;intros;refine aZ hC hGL (vi rfl rfl rfl rfl) rfl rfl ?_;rw[he];refine aK ?_;intros;refine mQ hC hGL 1 ?_;refine xw ?_;repeat' first|exact .n|apply Lc.mk
  all_goals intros
  all_goals first|(rename_i hb;exact Jn hb' hc' hy hb)|skip
  apply lN hC hGL;refine xw ?_;repeat' first|exact .n|apply Lc.mk
  all_goals intros
  all_goals first|(rename_i hb;exact Jn hb' hc' hy hb)|skip
 ·have f1:aa [x,y,z] 2=z.toNat:=j4.2.2;have e1:aa [a,b,c] ([x,y,z].length-Nat.succ 0)=c.toNat:=j4.2.2;have e2:aa [x,y,z] ([x,y,z].length-Nat.succ 0)=z.toNat:=j4.2.2;have f2:=hix0 (aa [x,y,z] 2) a_ (by have:=bu [x,y,z] 2;omega);refine ax func40 call40 λC hC hGL=> ?_;refine aK ?_;intros;apply lN hC hGL;refine aK ?_;intros;refine aZ hC hGL (vi rfl rfl rfl rfl) rfl rfl ?_;rw[he];refine aK ?_;intros;refine mQ hC hGL 1 ?_;refine xw ?_;repeat' first|exact .n|apply Lc.mk
  all_goals intros
  all_goals first|(rename_i hb;exact DZ hb' hc' hy hb)|skip
  apply lN hC hGL;refine xw ?_;repeat' first|exact .n|apply Lc.mk
  all_goals intros
  all_goals first|(rename_i hb;exact DZ hb' hc' hy hb)|skip
 ·refine ax func40 call40 λC hC hGL=> ?_;refine aK ?_;intros;apply lN hC hGL;refine aK ?_;intros;refine aZ hC hGL (vi rfl rfl rfl rfl) rfl rfl ?_;rw[he];refine aK ?_;intros;refine mQ hC hGL 1 ?_;exact bB
theorem xQ {G:Glo}{a b c:UInt8}(ha:a.toNat<128)(hb':b.toNat<128)(hc':c.toNat<128):ak prog G 40 [.str [a,b,c],.int .i32 65533] (.int .i64 (-1)):=by
 refine ax func40 call40 λC hC hGL=> ?_;refine aK ?_;intros;refine mQ hC hGL 4 ?_;refine xw ?_;repeat' first|exact .n|apply Lc.mk
 all_goals intros
 all_goals (
  exfalso
  have f1:=qL (x:=a) (t:=[b,c]) ha
  have f2:=qL (x:=b) (t:=[c]) hb'
  have f3:=qL (x:=c) (t:=[]) hc'
  simp only[YO,f1,f2,f3,Nat.zero_add,YQ,j_,E_] at*
  omega)
theorem zo {G:Glo}{a b c:UInt8}(r:Int)(h0:0<=r)(h1:r<128):ak prog G 40 [.str [a,b,c],.int .i32 r] (.int .i64 (aS [a,b,c] r)):=by
 refine ax func40 call40 λC hC hGL=> ?_;have hI:=aL (G:=G) [a,b,c] r h0 a_;exact bB
theorem MP {G:Glo}{a b c:UInt8}(ha:a.toNat<128)(hb':b.toNat<128)(hc':c.toNat<128):Q9 G [a,b,c]:=by
 intro r hv;have hm:=hv;rw[nz] at hm;have key:128<=r->¬ ∃x∈[a,b,c],r=x.toNat:=by
  rintro h ⟨x,hx,e⟩;simp only[p_,t_,or_false] at hx;rcases hx with rfl|rfl|rfl<;>omega
 by_cases h1:r<128
 ·exact⟨_,zo r hm.1 h1,tI r⟩
 ·by_cases h2:r=65533
  ·subst h2;exact⟨-1,xQ ha hb' hc',a_,λh=>absurd h (key a_)⟩
  ·exact⟨-1,zp ha hb' hc' r a_ hv h2,a_,λh=>absurd h (key a_)⟩
theorem uW {G:Glo}{cs:List UInt8}(hA:Q9 G cs)(hlo:∀c∈cs,c.toNat<128)(hc2:2<=cs.length)(hc9:cs.length<=1000)(s:List UInt8)(hl:s.length<=8):ak prog G 24 [.str s,.str cs] (.int .i64 (Lib.indexAny s cs)):=by
 refine ax func24 call24 λC hC hGL=> ?_;have hS:=wu (G:=G) s.length;repeat' (first|(conv=>whnf);first|refine .w ?_|refine .v ?_|refine eh ?_ ?_<;>(intro hb;try exact dd hb)|apply aT|apply bM|(apply cR<;>intro hb)|(apply cX;intro hbd)|(apply bD;exact hS)|(apply aV (i:=0) rfl;exact hS)|(apply cY;intro bl)|(apply dv;intro va vk vc hva)|(apply du;intro v)|(apply dw;intro bl cap hcap)|apply dI|(apply dq<;>intro hnx)|apply d8 mixed hC hGL be|(apply cq;assumption;exact hS;exact rfl)|(show Rt _ _ _;exact cP)|fail)
 all_goals try conv=>whnf
 refine lp hC hGL (λ(i:Nat)=>[(1,.str cs),(45,.own 0 (.pointer (some ⟨bl,0,none⟩)))]) (λi=>[.iter bl s i]) (λi=>i<=s.length/\Lib.NoAny s cs i) (λi=>s.length-i) 0 ?_ ah rfl ?_
 ·exact⟨Nat.zero_le _,Lib.NoAny.zero _ _⟩
 rintro i ⟨hi,hno⟩;have hz:=λ(h:i<s.length)=>s7 (s.drop i) (by rw[k_];omega);have hR:∃z:Int,i<s.length->ak prog G 40 [.str cs,.int .i32 (fk (s.drop i))] (.int .i64 z)/\(0<=z↔∃x∈cs,(fk (s.drop i):Int)=x.toNat):=by
  by_cases h:i<s.length
  ·obtain⟨z,h1,h2⟩:=hA (fk (s.drop i)) (hz h).1;exact⟨z,λ_=>⟨h1,h2⟩⟩
  ·exact⟨0,λh'=>absurd h' h⟩
 obtain⟨z,hR⟩:=hR;repeat' (first|(conv=>whnf);first|refine .w ?_|refine .v ?_|refine eh ?_ ?_<;>(intro hb;try exact dd hb)|apply aT|apply bM|(apply cR<;>intro hb)|(apply cX;intro hbd)|(apply bD;first|exact(hR a_).1)|(apply aV (i:=0) rfl;first|exact(hR a_).1)|(apply cY;intro bl)|(apply dv;intro va vk vc hva)|(apply du;intro v)|(apply dw;intro bl cap hcap)|apply dI|(apply dq<;>intro hnx)|apply d8 mixed hC hGL be|(apply cq;assumption;(first|exact(hR a_).1);exact rfl)|(show Rt _ _ _;exact cP)|fail)
 all_goals try conv=>whnf
 ·obtain⟨z1,z2,z3,z4,z5⟩:=hz hnx;obtain⟨y,hy,hr⟩:=(hR hnx).2.1 hb;have hy':=hlo y hy;have h1:=z4 a_;have hx:s[i]? =some s[i]:=y_ hnx;have h2:=dl hx;rw[cm,Nat.add_zero] at h1;refine aj ?_;rw[Lib.indexAny_hit hno hx ((Cm _).2 ⟨y,hy,a_⟩)]
 ·obtain⟨z1,z2,z3,z4,z5⟩:=hz hnx;rw[k_] at z3;have hr:¬ ∃x∈cs,(fk (s.drop i):Int)=x.toNat:=λh=>by have:=(hR hnx).2.2 h;omega
  refine cQ (i+eN (s.drop i)) ⟨a_,?_⟩ a_ ⟨rfl,rfl,trivial⟩ rfl;intro j x hj hx;by_cases h:j<i
  ·exact hno j x h hx
  ·have h2:=dl hx;refine SQ λ⟨y,hy,e⟩=> ?_;have hy':=hlo y hy;by_cases h128:(fk (s.drop i):Int)<128
   ·have h3:=z4 h128;rw[cm,Nat.add_zero] at h3;have:j=i:=by omega
    subst this;exact hr ⟨y,hy,a_⟩
   ·have h3:=z5 a_ (j-i) a_;rw[cm,show i+(j-i)=j by omega] at h3;omega
 ·have:i=s.length:=by omega
  subst this;refine aj ?_;rw[Lib.indexAny_none hno];rfl
theorem xU {G:Glo}{cs:List UInt8}(hlo:∀c∈cs,c.toNat<128)(hc2:2<=cs.length)(hc9:cs.length<=1000)(s:List UInt8)(h8:8<s.length)(hl:s.length<4294967281):ak prog G 24 [.str s,.str cs] (.int .i64 (Lib.indexAny s cs)):=by
 refine bK rfl call24 ?_;rintro R args ⟨x,t,e,hx,y,t',e',hy,rfl⟩ w _ _;obtain rfl:=aD.1 hx;obtain rfl:=aD.1 hy;subst e';obtain rfl:=fK e;refine(strings_IndexAny_long (λw=>by kernel_rfl) ⟨s.toArray⟩ ⟨cs.toArray⟩ w (by rw[bH];omega) (by rw[bH];exact h8) (by rw[bH];omega) (by rw[bH];omega) ?_).mono ?_
 ·intro j x hx;exact hlo x (q_ (by simpa using hx))
 ·rintro e w' ⟨rfl,rfl⟩;exact⟨by simp[AVal.conc],((Below.refl w.heap.size w).alloc (Nat.le_refl _) _).alloc (by show w.heap.size<=(w.heap.push _).size;simp) _⟩
theorem HZ {G:Glo}{cs:List UInt8}(hA:Q9 G cs)(hlo:∀c∈cs,c.toNat<128)(hc2:2<=cs.length)(hc9:cs.length<=1000)(s:List UInt8)(hl:s.length<4294967281):ak prog G 24 [.str s,.str cs] (.int .i64 (Lib.indexAny s cs)):=by
 by_cases h:s.length<=8
 ·exact uW hA hlo hc2 hc9 s h
 ·exact xU hlo hc2 hc9 s a_ hl
end
section
attribute [local irreducible] bG au aa az aR ab ad
abbrev oc:Value:=.slice none 0 0
theorem Iw {P:Program}[Tab P]{G:Glo}{f:FuncId}{avs:List AVal}{H:Heap}{K Kp:AVal->Heap->Prop}{i j b:Nat}{p v p' v':Value}{y y':HEnt}{r:AVal}(hi:H[i]? =some (cj b p j v))(hj:H[j]? =some y)(hne:i≠j)
  (hs:ad P G f avs [cj b p 1 v,y] (λx H=>x= .ret r/\H=[cj b p' 1 v',y']))
  (k:ep ((H.set i (cj b p' j v')).set j y') (K r)):Cx P G f avs H K Kp:=by
 obtain⟨rest,hp,hp2⟩:=vY hne hi hj;have h1:ad P G f avs [cj b p j v,y] (λx H=>x= .ret r/\H=[cj b p' j v',y']):=by
  refine Cw hs ?_;rintro x H' ⟨rfl,rfl⟩;exact⟨_,⟨rfl,rfl⟩,λC R w h=>B7 j h⟩
 refine⟨λx H'=>x= .ret r/\H'=(H.set i (cj b p' j v')).set j y',im (il (H1:=[cj b p j v,y]++rest) hp.symm (dH rest h1)) ?_,?_,?_⟩
 ·rintro x H' ⟨H1',⟨rfl,rfl⟩,rfl⟩;exact⟨_,(hp2 _ _).symm,rfl,rfl⟩
 ·rintro v' H' ⟨e,rfl⟩;cases e;rw[bq] at k;exact k
 ·rintro v' H' ⟨e,rfl⟩;cases e
theorem sA {G:Glo}{b:Nat}{p v:Value}(s:List UInt8)(hlen:s.length<=137438953472):ad prog G 59 [.raw (db b)] [cj b p 1 v,fx v s] (λr H=>r= .ret (.str s)/\H=[cj b p 1 v,fx oc []]):=
 vw (λ_=>Iff.rfl) (λ_ _ _ h=>h) (sB s hlen) λr H' ⟨e,eH⟩=>⟨_,⟨e,rfl⟩,λ_ _ _ h=>by
  rw[eH] at h;exact(h.ghost (eT:=some 5) 1).perm (List.Perm.swap _ _ _)⟩
theorem SC {P:Program}[Tab P]{C:Ctx}{n:Nat}{env:Env}{H:Heap}{Q:aM->Env->Heap->Prop}{c:Code}(i:Nat){b:Nat}(hi:H[i]? =some (.cells b (some 129) [.raw (.pointer none),.raw (.slice none 0 0)]))
  (h:Lp P C n c env (H.set i (cj b (.pointer none) H.length (.slice none 0 0))++[fx (.slice none 0 0) []]) Q):Lp P C n c env H Q:=by
 refine⟨nQ (eT:=some 5) 1 ?_⟩;have h:=h.h;unfold bG at h ⊢;intro R a w hm hf;obtain⟨Cs,e,fz,hb,hl,hr⟩:=hm.heap.holds (.cells b (some 129) [.raw (.pointer none),.raw (.slice none 0 0)]) (List.mem_cons_of_mem _ (q_ hi));obtain⟨v1,t1,e1,r1,v2,t2,e2,r2,e3⟩:=hl;have r2':bJ R (.own H.length (.slice none 0 0)) [v2]:=by
  have:v2= .slice none 0 0:=by simpa[bJ,Value.cells] using r2
  subst this;simp[bJ,dc]
 have h1:=hm.swap (i:=i+1) (x:=.cells b (some 129) [.raw (.pointer none),.raw (.slice none 0 0)]) (y:=cj b (.pointer none) H.length (.slice none 0 0)) (by rw[J_];exact hi) rfl
  ⟨Cs,e,fz,hb,⟨v1,t1,e1,r1,v2,t2,e2,r2',e3⟩,hr⟩
 rw[List.set_cons_succ] at h1;exact h R a w (h1.perm (List.perm_append_singleton _ _).symm) hf
end
section
theorem yh {c:Bool}:∀{l:List Pr} {i:Nat},lF c l i= .none->∀q∈l,tk c q=0
 |[],_,_,q,h=>by cases h
 |x::l,i,h,q,hq=>by
  simp only[lF] at h;split at h
  ·rename_i h0;rcases List.mem_cons.1 hq with rfl|hq
   ·exact h0
   ·exact yh h q hq
  ·cases h
theorem Ln.E_inv {c:Bool}{p:Ln}(h:p.E c= .none):p.ps.length<=20/\∀k,k<p.ps.length->(p.ps.getD k Pr.z).vs.length≠0:=by
 unfold Ln.E at h;split at h
 ·cases h
 ·split at h
  ·cases h
  ·refine⟨a_,λk hk h0=> ?_⟩;have hf:lF c p.ps 0= .none:=by
    cases hf:lF c p.ps 0 with
    |none=>rfl
    |errno e=>rw[hf] at h;cases h
    | «at» e q=>rw[hf] at h;cases h
   have h1:=yh hf (p.ps.getD k Pr.z) (by rw[f_,y_ hk];exact K_ hk);cases hn:isS (p.ps.getD k Pr.z).n with
   |false=>rw[El hn] at h1;cases h1
   |true=>rw[JD hn h0] at h1;cases h1
theorem Tz {P:Program}[Tab P]{C:Ctx}{n:Nat}{env:Env}{H:Heap}{Q:aM->Env->Heap->Prop}{c:Code}(i:Nat){b:Nat}(hi:H[i]? =some (.cells b (some 129) [.raw (.pointer none),.raw (.slice none 0 0)]))
  (h:bG P C n c env (H.set i (cj b (.pointer none) H.length (.slice none 0 0))++[fx (.slice none 0 0) []]) Q):bG P C n c env H Q:=by
 refine nQ (eT:=some 5) 1 ?_;unfold bG at h ⊢;intro R a w hm hf;obtain⟨Cs,e,fz,hb,hl,hr⟩:=hm.heap.holds (.cells b (some 129) [.raw (.pointer none),.raw (.slice none 0 0)]) (List.mem_cons_of_mem _ (q_ hi));obtain⟨v1,t1,e1,r1,v2,t2,e2,r2,e3⟩:=hl;have r2':bJ R (.own H.length (.slice none 0 0)) [v2]:=by
  have:v2= .slice none 0 0:=by simpa[bJ,Value.cells] using r2
  subst this;simp[bJ,dc]
 have h1:=hm.swap (i:=i+1) (x:=.cells b (some 129) [.raw (.pointer none),.raw (.slice none 0 0)]) (y:=cj b (.pointer none) H.length (.slice none 0 0)) (by rw[J_];exact hi) rfl
  ⟨Cs,e,fz,hb,⟨v1,t1,e1,r1,v2,t2,e2,r2',e3⟩,hr⟩
 rw[List.set_cons_succ] at h1;exact h R a w (h1.perm (List.perm_append_singleton _ _).symm) hf
theorem TG {s:List UInt8}:0<=Lib.indexAny s [44,59,58]↔0<=fX rT s:=by
 have key:∀x:UInt8,([44,59,58]:List UInt8).contains x=rT (x.toNat:Int):=by
  intro x;unfold rT;rw[w_,Cm,n_];simp only[p_,t_,or_false,exists_eq_or_imp,exists_eq_left];exact Iff.rfl
 rcases gq rT s with⟨h1,h2⟩|⟨m,h1,h2,h3,h4⟩
 ·rw[Lib.indexAny_none (λj x hj hx=>by
   rw[key,dl hx];exact h2 j hj),h1]
 ·have hx:s[m]? =some s[m]:=y_ h1;rw[Lib.indexAny_hit (i:=m) (λj x hj hx=>by
   rw[key,dl hx];exact h4 j hj) hx (by rw[key,dl hx];exact h3),h2]
attribute [local irreducible] bG au aa az aR ab ad
attribute [local irreducible] iw fd dm isS kx fQ fN zK qw oU q9
theorem CG {G:Glo}(s:List UInt8)(hl:s.length<=4000000):ak prog G 169 [.str s,.str [44,59,58]] (.bool (decide (0<=fX rT s))):=by
 have hI:=HZ (G:=G) (cs:=[44,59,58]) (MP b_ b_ b_) b_ b_ b_ s a_;refine ax func169 call169 λC hC hGL=> ?_;refine aK ?_;apply aj;refine congrArg AVal.bool ?_;rw[w_];simp only[Bool.not_eq_true',oP,n_,TG]
theorem Xq {c:Bool}{s:List UInt8}(h:decide (0<=fX rT (q9 c s))=true):fN c s=34::q9 c s++[34]:=by
 unfold fN;rw[if_neg (by have:=of_decide_eq_true h;omega)]
theorem Xr {c:Bool}{s:List UInt8}(h:decide (0<=fX rT (q9 c s))=false):fN c s=q9 c s:=by
 unfold fN;rw[if_pos (by have:=of_decide_eq_false h;omega)]
theorem Uh (s:List UInt8):q9 true s=fQ s:=by unfold q9;rfl
theorem Ui (s:List UInt8):q9 false s=s:=by unfold q9;rfl
theorem Yr {c:Bool}{vs:List (List UInt8)}{j:Nat}(hj:j<vs.length)(h:(j:Int)=0)(t:List UInt8):t++zK c vs (j+1)=t++zK c vs j++[61]++fN c (vs.getD j []):=by
 rw[Dn hj,if_pos a_];simp only[An]
theorem Yq {c:Bool}{vs:List (List UInt8)}{j:Nat}(hj:j<vs.length)(h:(j:Int)≠0)(t:List UInt8):t++zK c vs (j+1)=t++zK c vs j++[44]++fN c (vs.getD j []):=by
 rw[Dn hj,if_neg a_];simp only[An]
theorem HJ {G:Glo}(p:Ln)(c:Bool)(ho:p.Fit):ak prog G 115 [p.A,.bool c] (.tuple [.str (p.T c),(p.E c).A]):=by
  have h0:=xC (G:=G) p c ho;rcases hq:p.E c with _|e|⟨e,i⟩
  case errno=>
    rw[hq] at h0;rw[show p.T c=[] by unfold Ln.T;rw[hq]];refine ax func115 call115 λC hC hGL=> ?_;exact bB
  case «at» =>
    rw[hq] at h0;rw[show p.T c=[] by unfold Ln.T;rw[hq]];refine ax func115 call115 λC hC hGL=> ?_;exact bB
  rw[hq] at h0;rw[show p.T c=p.txt c by unfold Ln.T;rw[hq],I7];obtain⟨i1,i2⟩:=Ln.E_inv hq;have o1:=ho.g;have o2:=ho.n;have o3:=ho.v;have o4:∀k,k<=p.ps.length->(qw c p.ps k).length<=20*6600002:=λk hk=>by
    have h1:=BW (N:=1100000) (c:=c) (λk=>⟨(ho.q k).1,by have:=(ho.q k).2.1;omega,by have:=(ho.q k).2.2;omega⟩) k hk;rw[show 2+6*1100000=6600002 by decide] at h1;have h2:=YW 6600002 (show k<=20 by omega);exact YX h1 h2
  have hd1:p.g.length≠0->p.g++[46]++p.n=oU p:=λh=>by unfold oU;rw[if_neg h]
  have hd0:p.g.length=0->p.n=oU p:=λh=>by unfold oU;rw[if_pos h]
  have jV:(oU p).length<=2200001:=by
    unfold oU;split
    · omega
    · simp only[d_,j_,E_];omega
  refine mh func115 call115 λC hC hGL=> ?_;refine cut hC hGL [(1,.bool c),(2,.rop [.str p.g,.str p.n,.list 2 p.ps.length (fU p.ps),.str p.v] 0)] [] True ?_ λ_=> ?_
  · exact bB
  refine cut hC hGL [(1,.bool c),(2,.rop [.str p.g,.str p.n,.list 2 p.ps.length (fU p.ps),.str p.v] 0)] [] True ?_ λ_=> ?_
  · exact bB
  refine gu hC hGL (λbl:Nat=>[(1,.bool c),(2,.rop [.str p.g,.str p.n,.list 2 p.ps.length (fU p.ps),.str p.v] 0),(7,.own 0 (db bl))]) (λbl=>[.cells bl (some 129) [.raw (.pointer none),.raw (.slice none 0 0)]]) (λ_=>True) ?_ λbl _=> ?_
  · refine aK ?_;intro bl;exact cy bl trivial
  refine Tz 0 rfl ?_;refine gu hC hGL (λx:Value×Value×List UInt8=>[(1,.bool c),(2,.rop [.str p.g,.str p.n,.list 2 p.ps.length (fU p.ps),.str p.v] 0),(7,.own 0 (db bl))]) (λx=>[cj bl x.1 1 x.2.1,fx x.2.1 x.2.2]) (λx=>yO bl x.1/\x.2.2.length<=1100001/\x.2.2++p.n=oU p) ?_ λx hx=> ?_
  · refine xw ?_;repeat' first|exact .n|apply Lc.mk
    all_goals intros
    · apply iA (i:=0) (j:=1) rfl rfl b_ (dk (.inl rfl) _ [] (p.g++[46]) (by simp only[d_,j_,E_];omega));intro ua uk uc;refine aK ?_;exact cy (db bl,.slice ua uk uc,[]++(p.g++[46])) ⟨.inr rfl,by simp only[d_,j_,E_];omega,by rw[L_];exact hd1 (by assumption)⟩
    · exact cy (.pointer none,.slice none 0 0,[]) ⟨.inl rfl,by simp,by rw[L_];exact hd0 (by assumption)⟩
  obtain⟨pa,va,tx⟩:=x;obtain⟨hp,hlx,htx⟩:=hx;dsimp only at hp hlx htx;refine gu hC hGL (λx:Value=>[(1,.bool c),(2,.rop [.str p.g,.str p.n,.list 2 p.ps.length (fU p.ps),.str p.v] 0),(7,.own 0 (db bl))]) (λx=>[cj bl (db bl) 1 x,fx x (oU p++qw c p.ps 0)]) (λx=>True) ?_ λvb _=> ?_
  · refine aK ?_;apply iA (i:=0) (j:=1) rfl rfl b_ (dk hp va tx p.n a_);intro ua uk uc;rw[htx.trans (show oU p=oU p++qw c p.ps 0 by rw[show qw c p.ps 0=[] by unfold qw;rfl,Dc])];refine aK ?_;exact cy (.slice ua uk uc) trivial
  clear htx hp hlx;refine ay hC hGL ?_;refine aK ?_;refine lp hC hGL (λx:Nat×Value=>[(1,.bool c),(2,.rop [.str p.g,.str p.n,.list 2 p.ps.length (fU p.ps),.str p.v] 0),(7,.own 0 (db bl)),(29,.list 2 p.ps.length (fU p.ps)),(30,.int .i64 (p.ps.length:Nat)),(31,.int .i64 (x.1:Nat))]) (λx=>[cj bl (db bl) 1 x.2,fx x.2 (oU p++qw c p.ps x.1)]) (λx=>x.1<=p.ps.length) (λx=>p.ps.length-x.1) (0,vb) ?_ ah rfl ?_
  · exact Nat.zero_le _
  rintro⟨k,v⟩ h1;dsimp only at h1;have ol:=o4 k h1;have hqk:=ho.q k;refine xn ?_;repeat' first|exact .n|apply Lc.mk
  all_goals intros
  · rename_i b9 hkl;dsimp only at hkl;have hk:k<p.ps.length:=by omega
    apply iA (i:=0) (j:=1) rfl rfl b_ (dk (.inr rfl) v (oU p++qw c p.ps k) ([59]++(p.ps.getD k Pr.z).n) (by simp only[d_,j_,E_];omega));intro ua uk uc;generalize hX:oU p++qw c p.ps k++([59]++(p.ps.getD k Pr.z).n)=X;have hXl:X.length<=210000000:=by
      rw[<-hX];simp only[d_,j_,E_];omega
    refine aK ?_;refine lp hC hGL (λx:Nat×Value=>[(1,.bool c),(2,.rop [.str p.g,.str p.n,.list 2 p.ps.length (fU p.ps),.str p.v] 0),(7,.own 0 (db bl)),(29,.list 2 p.ps.length (fU p.ps)),(30,.int .i64 (p.ps.length:Nat)),(31,.int .i64 (k:Nat)),(40,.list 1 (p.ps.getD k Pr.z).vs.length (aB (p.ps.getD k Pr.z).vs)),(41,.int .i64 ((p.ps.getD k Pr.z).vs.length:Nat)),(42,.int .i64 (x.1:Nat))]) (λx=>[cj bl (db bl) 1 x.2,fx x.2 (X++zK c (p.ps.getD k Pr.z).vs x.1),.cells b9 (some 58) [.str (p.ps.getD k Pr.z).n,.list 1 (p.ps.getD k Pr.z).vs.length (aB (p.ps.getD k Pr.z).vs)]]) (λx=>x.1<=(p.ps.getD k Pr.z).vs.length) (λx=>(p.ps.getD k Pr.z).vs.length-x.1) (0,.slice ua uk uc) ?_ ah ?_ ?_
    · exact Nat.zero_le _
    · dsimp only
      rw[show zK c (p.ps.getD k Pr.z).vs 0=[] by unfold zK;rfl,Dc]
    rintro⟨j,u⟩ g1;dsimp only at g1;have hvl:=Ro c (p.ps.getD k Pr.z).vs j;have hj1:=ii (l:=(p.ps.getD k Pr.z).vs) (k:=j);have hel:=CA c ((p.ps.getD k Pr.z).vs.getD j []);have hql:=Ei c ((p.ps.getD k Pr.z).vs.getD j []);have hE:=sy (G:=G) ((p.ps.getD k Pr.z).vs.getD j []) a_ (qb _);have hQ:=CG (G:=G) (q9 c ((p.ps.getD k Pr.z).vs.getD j [])) a_;have hY:=Xq (c:=c) (s:=(p.ps.getD k Pr.z).vs.getD j []);have hN:=Xr (c:=c) (s:=(p.ps.getD k Pr.z).vs.getD j []);have hv0:=λ(hj:j<(p.ps.getD k Pr.z).vs.length) (h:(j:Int)=0)=>Yr (c:=c) hj h X;have hv1:=λ(hj:j<(p.ps.getD k Pr.z).vs.length) (h:(j:Int)≠0)=>Yq (c:=c) hj h X;refine xw ?_;repeat' first|exact .n|apply Lc.mk
    all_goals intros
    all_goals first
      | (have hj0:=hv0 a_ (by assumption)
         apply iA (i:=0) (j:=1) rfl rfl b_ (dk (.inr rfl) u (X++zK c (p.ps.getD k Pr.z).vs j) [61] (by simp only[d_,j_,E_];omega))
         intro xa xk xc
         cases c
         all_goals
           simp only[Uh,Ui] at hQ hY hN hel;refine xw ?_;repeat' first|exact .n|apply Lc.mk
           all_goals intros
           all_goals
             first
             | (have hy:=hY (by assumption)
                apply iA (i:=0) (j:=1) rfl rfl b_ (dk (.inr rfl) (.slice xa xk xc) _ _ (by rw[hy] at hql;simp only[d_,j_,E_] at*;omega))
                intro ya yk yc
                refine aK ?_
                refine ga (j+1,.slice ya yk yc) (by dsimp only;omega) (by dsimp only;omega) ah ?_
                dsimp only
                rw[hj0,hy]
                exact aF)
             | (have hy:=hN (by assumption)
                apply iA (i:=0) (j:=1) rfl rfl b_ (dk (.inr rfl) (.slice xa xk xc) _ _ (by simp only[d_,j_,E_] at*;omega))
                intro ya yk yc
                refine aK ?_
                refine ga (j+1,.slice ya yk yc) (by dsimp only;omega) (by dsimp only;omega) ah ?_
                dsimp only
                rw[hj0,hy]
                exact aF))
      | (have hj1:=hv1 a_ (by assumption)
         apply iA (i:=0) (j:=1) rfl rfl b_ (dk (.inr rfl) u (X++zK c (p.ps.getD k Pr.z).vs j) [44] (by simp only[d_,j_,E_];omega))
         intro xa xk xc
         cases c
         all_goals
           simp only[Uh,Ui] at hQ hY hN hel;refine xw ?_;repeat' first|exact .n|apply Lc.mk
           all_goals intros
           all_goals
             first
             | (have hy:=hY (by assumption)
                apply iA (i:=0) (j:=1) rfl rfl b_ (dk (.inr rfl) (.slice xa xk xc) _ _ (by rw[hy] at hql;simp only[d_,j_,E_] at*;omega))
                intro ya yk yc
                refine aK ?_
                refine ga (j+1,.slice ya yk yc) (by dsimp only;omega) (by dsimp only;omega) ah ?_
                dsimp only
                rw[hj1,hy]
                exact aF)
             | (have hy:=hN (by assumption)
                apply iA (i:=0) (j:=1) rfl rfl b_ (dk (.inr rfl) (.slice xa xk xc) _ _ (by simp only[d_,j_,E_] at*;omega))
                intro ya yk yc
                refine aK ?_
                refine ga (j+1,.slice ya yk yc) (by dsimp only;omega) (by dsimp only;omega) ah ?_
                dsimp only
                rw[hj1,hy]
                exact aF))
      | (have hj9:(p.ps.getD k Pr.z).vs.length=j:=by omega
         refine ga (k+1,u) (by dsimp only;omega) (by dsimp only;omega) ah ?_
         dsimp only
         rw[show oU p++qw c p.ps (k+1)=X++zK c (p.ps.getD k Pr.z).vs j by
           rw[wW hk,Rp (i2 k hk),<-hX,hj9];simp only[An,Lu,L_]]
         exact aF)
  · have hkk:k=p.ps.length:=by dsimp only at*;omega
    subst hkk;refine bh mixed hC hGL false (λ(_:Unit)=>[(4,.str (oU p++qw c p.ps p.ps.length++[58]++p.v)),(5,.raw .nilIface)]) (λ_=>[iy,iy]) (.t 2 (.t 3 (.b 0 (.t 1 (.t 4 (.t 5 (.t 6 .done))))))) be ?_ ?_
    · refine ao ?_;intro C hC;refine Wh (i:=0) (j:=1) rfl rfl b_ (yD (oU p++qw c p.ps p.ps.length) (by rw[d_];omega)) ?_;have hlen:(oU p++qw c p.ps p.ps.length).length<=200000000:=by rw[d_];omega
      refine xn ?_;repeat' first|exact .n|apply Lc.mk
      all_goals intros
      all_goals exact⟨(),⟨rfl,rfl,trivial⟩,rfl⟩
    · intro _;exact eK
end
section
theorem yX {G:Glo}{m:Int}(hU:ab G (bP m))(s t:List UInt8)(hl:s.length<100000):ak prog G 131 [.str s,.str t] (.int .i64 (Lib.index s t)):=by
 refine bK rfl call131 ?_;rintro R args ⟨x,u,e,hx,y,u',e',hy,rfl⟩ w hG hs;obtain rfl:=aD.1 hx;obtain rfl:=aD.1 hy;subst e';obtain rfl:=fK e;refine(strings_Index ⟨s.toArray⟩ ⟨t.toArray⟩ m w (by show s.toArray.size<_;simp;omega) (oO hU hG hs)).mono ?_;rintro e w' ⟨rfl,rfl⟩;exact⟨by simp[AVal.conc],Below.refl _ _⟩
end
section
theorem Ip {s:List UInt8}{i:Nat}(h:i<s.length):fQ (s.take (i+1))=fQ (s.take i)++encF s[i]:=by
 rw[x_ h,P3];simp[fQ]
theorem Ru {c:UInt8}{k:Nat}(hk:k<256)(h:c.toNat=k):c=UInt8.ofNat k:=by
 rw[<-h,UInt8.ofNat_toNat]
def QA:List UInt8:=[94,94,94,110,94,39]
theorem SM:∀d:_root_.Fin 256,Lib.index QA [94,UInt8.ofNat d.1]=if d.1=94 then 0 else if d.1=110 then 2 else if d.1=39 then 4 else-1:=by decide+kernel
theorem IG {d:UInt8}:Lib.index QA [94,d]=if d.toNat=94 then 0 else if d.toNat=110 then 2 else if d.toNat=39 then 4 else-1:=by
 have:=SM ⟨d.toNat,d.toNat_lt⟩;rwa [UInt8.ofNat_toNat] at this
attribute [local irreducible] bG au aa az aR ab ad
attribute [local irreducible] encF fQ cx
theorem wR {G:Glo}(s:List UInt8)(hl:s.length<=2000000):ak prog G 186 [.str s] (.str (fQ s)):=by
 refine ax func186 call186 λC hC hGL=> ?_;refine aK ?_;intro bl cap hcap;intros;refine lp hC hGL (λi:Nat=>[(3,.str (fQ (s.take i))),(7,.own 0 (.slice (some ⟨bl,0,none⟩) s.length cap)),(8,.int .i64 (s.length:Nat)),(9,.int .i64 (i:Nat))]) (λ_=>[.buf bl s cap]) (λi=>i<=s.length) (λi=>s.length-i) 0 (Nat.zero_le _) ⟨?_,rfl,rfl,rfl,trivial⟩ rfl ?_
 ·show some (AVal.str [])=some (AVal.str (fQ (s.take 0)));rw[YP,P1]
 ·intro i hi;have e1:=(sn (s.take i)).2;rw[i_,Nat.min_eq_left hi] at e1;by_cases hlt:i<s.length
  ·have et:=Ip hlt;have hb0:=fI hlt;have hby:=bu s i;rcases(show aa s i=94\/aa s i=10\/aa s i=34\/(aa s i≠94/\aa s i≠10/\aa s i≠34) by omega) with hk|hk|hk|⟨k1,k2,k3⟩
   ·have he:encF s[i]=[94,94]:=by rw[Ru b_ (hb0.symm.trans hk)];exact V7
    refine aK ?_;intros;refine cQ (i+1) ?_ ?_ ⟨?_,rfl,rfl,rfl,trivial⟩ rfl
    ·exact hlt
    ·show s.length-(i+1)<s.length-i;omega
    ·rw[et,he];rfl
   ·have he:encF s[i]=[94,110]:=by rw[Ru b_ (hb0.symm.trans hk)];exact V9
    refine aK ?_;intros;refine cQ (i+1) ?_ ?_ ⟨?_,rfl,rfl,rfl,trivial⟩ rfl
    ·exact hlt
    ·show s.length-(i+1)<s.length-i;omega
    ·rw[et,he];rfl
   ·have he:encF s[i]=[94,39]:=by rw[Ru b_ (hb0.symm.trans hk)];exact V8
    refine aK ?_;intros;refine cQ (i+1) ?_ ?_ ⟨?_,rfl,rfl,rfl,trivial⟩ rfl
    ·exact hlt
    ·show s.length-(i+1)<s.length-i;omega
    ·rw[et,he];rfl
   ·have he:encF s[i]=cb [(aa s i:Int)]:=by
     rw[FG (by rw[<-hb0];exact k1) (by rw[<-hb0];exact k2) (by rw[<-hb0];exact k3),hb0];simp[cb]
    refine aK ?_;intros;refine aZ hC hGL (gk [(aa s i:Int)] rfl (by intro v hv;simp only[p_,t_,or_false] at hv;omega) rfl rfl rfl rfl rfl rfl) rfl rfl ?_;have hl9:(cb [(aa s i:Int)]).length=1:=rfl;refine aK ?_;intros;refine cQ (i+1) ?_ ?_ ⟨?_,rfl,rfl,rfl,trivial⟩ rfl
    ·exact hlt
    ·show s.length-(i+1)<s.length-i;omega
    ·rw[et,he];rfl
  ·have h9:fQ (s.take i)=fQ s:=by rw[u_ a_]
   refine aK ?_;intros;apply aj;rw[h9]
theorem Hn {G:Glo}{m:Int}(hU:ab G (bP m))(s:List UInt8)(hl:s.length<=1000000):ak prog G 69 [.str s] (.str (cx s)):=by
 have hI:=λt:List UInt8=>yX (G:=G) hU QA t b_;refine ax func69 call69 λC hC hGL=> ?_;refine aK ?_;intros;refine lp hC hGL (λx:Nat×List UInt8=>[(0,.str s),(3,.str x.2),(4,.int .i64 (x.1:Nat))]) (λ_=>[]) (λx=>x.1<=s.length/\x.2.length<=x.1/\x.2++cx (s.drop x.1)=cx s) (λx=>s.length-x.1) (0,[]) ⟨Nat.zero_le _,Nat.zero_le _,rfl⟩ ⟨rfl,rfl,rfl,trivial⟩ rfl ?_;rintro⟨i,out⟩ ⟨hi,ho,hd⟩;have hi:i<=s.length:=hi;have ho:out.length<=i:=ho;have hd:out++cx (s.drop i)=cx s:=hd;by_cases hlt:i<s.length
 ·have hT:((s.take (min ((s.length:Nat):Int) (((i:Nat):Int)+2)).toNat).drop ((i:Nat):Int).toNat)=(s.drop i).take (min 2 (s.length-i)):=by
   rw[B_,show(min ((s.length:Nat):Int) (((i:Nat):Int)+2)).toNat=i+min 2 (s.length-i) by omega,List.drop_take,show i+min 2 (s.length-i)-i=min 2 (s.length-i) by omega]
  have hTl:((s.take (min ((s.length:Nat):Int) (((i:Nat):Int)+2)).toNat).drop ((i:Nat):Int).toNat).length=min 2 (s.length-i):=by rw[hT,i_,k_];omega
  by_cases hk:aa s i=94
  ·by_cases hi2:i+1<s.length
   ·have e0:=fI hlt;have e1:=fI hi2;have hT2:((s.take (min ((s.length:Nat):Int) (((i:Nat):Int)+2)).toNat).drop ((i:Nat):Int).toNat)=[94,s[i+1]]:=by
     rw[hT,show min 2 (s.length-i)=2 by omega,A_ hlt,A_ hi2,Ru b_ (e0.symm.trans hk)];rfl
    have hx:=hI ((s.take (min ((s.length:Nat):Int) (((i:Nat):Int)+2)).toNat).drop ((i:Nat):Int).toNat);rw[show Lib.index QA ((s.take (min ((s.length:Nat):Int) (((i:Nat):Int)+2)).toNat).drop ((i:Nat):Int).toNat)=_ from(congrArg (Lib.index QA) hT2).trans IG,<-e1] at hx;have hTl2:((((s.take (min ((s.length:Nat):Int) (((i:Nat):Int)+2)).toNat).drop ((i:Nat):Int).toNat).length:Nat):Int)=2:=by rw[hTl];omega
    rcases(show aa s (i+1)=94\/aa s (i+1)=110\/aa s (i+1)=39\/(aa s (i+1)≠94/\aa s (i+1)≠110/\aa s (i+1)≠39) by omega) with hq|hq|hq|⟨k1,k2,k3⟩
    ·rw[if_pos hq] at hx;refine xw ?_;repeat' first|exact .n|apply Lc.mk
     all_goals intros
     ·refine cQ (i+2,out++[94]) ?_ ?_ ⟨rfl,rfl,rfl,trivial⟩ rfl
      ·refine⟨hi2,?_,?_⟩
       ·show(out++[(94:UInt8)]).length<=i+2;rw[d_,Rf];omega
       ·show out++[94]++cx (s.drop (i+2))=cx s;rw[<-hd,vz hi2 hk (e:=94) (.inl ⟨hq,rfl⟩),An];rfl
      ·show s.length-(i+2)<s.length-i;omega
     all_goals exact absurd hTl2 ‹_›
    ·rw[if_neg a_,if_pos hq] at hx;refine xw ?_;repeat' first|exact .n|apply Lc.mk
     all_goals intros
     ·refine cQ (i+2,out++[10]) ?_ ?_ ⟨rfl,rfl,rfl,trivial⟩ rfl
      ·refine⟨hi2,?_,?_⟩
       ·show(out++[(10:UInt8)]).length<=i+2;rw[d_,Rf];omega
       ·show out++[10]++cx (s.drop (i+2))=cx s;rw[<-hd,vz hi2 hk (e:=10) (.inr (.inl ⟨hq,rfl⟩)),An];rfl
      ·show s.length-(i+2)<s.length-i;omega
     all_goals exact absurd hTl2 ‹_›
    ·rw[if_neg a_,if_neg a_,if_pos hq] at hx;refine xw ?_;repeat' first|exact .n|apply Lc.mk
     all_goals intros
     ·refine cQ (i+2,out++[34]) ?_ ?_ ⟨rfl,rfl,rfl,trivial⟩ rfl
      ·refine⟨hi2,?_,?_⟩
       ·show(out++[(34:UInt8)]).length<=i+2;rw[d_,Rf];omega
       ·show out++[34]++cx (s.drop (i+2))=cx s;rw[<-hd,vz hi2 hk (e:=34) (.inr (.inr ⟨hq,rfl⟩)),An];rfl
      ·show s.length-(i+2)<s.length-i;omega
     all_goals exact absurd hTl2 ‹_›
    ·rw[if_neg k1,if_neg k2,if_neg k3] at hx;refine xw ?_;repeat' first|exact .n|apply Lc.mk
     all_goals intros
     ·refine cQ (i+1,out++(s.take (i+1)).drop i) ?_ ?_ ⟨rfl,rfl,rfl,trivial⟩ rfl
      ·refine⟨hlt,?_,?_⟩
       ·show(out++(s.take (i+1)).drop i).length<=i+1;rw[d_,k_,i_];omega
       ·show out++(s.take (i+1)).drop i++cx (s.drop (i+1))=cx s;rw[An,List.drop_take,show i+1-i=1 by omega,<-nN hlt (.inr (.inr ⟨k1,k2,k3⟩))];exact hd
      ·show s.length-(i+1)<s.length-i;omega
     all_goals exact absurd hTl2 ‹_›
   ·repeat' (first|(conv=>whnf);first|refine .w ?_|refine .v ?_|refine eh ?_ ?_<;>(intro hb;try exact dd hb)|apply aT|apply bM|(apply cR<;>intro hb)|(apply cX;intro hbd)|(apply bD;exact hI _)|(apply aV (i:=0) rfl;exact hI _)|(apply cY;intro bl)|(apply dv;intro va vk vc hva)|(apply du;intro v)|(apply dw;intro bl cap hcap)|apply dI|(apply dq<;>intro hnx)|apply d8 mixed hC hGL be|(apply cq;assumption;exact hI _;exact rfl)|(show Rt _ _ _;exact cP)|fail)
    all_goals try conv=>whnf
    refine cQ (i+1,out++(s.take (i+1)).drop i) ?_ ?_ ⟨rfl,rfl,rfl,trivial⟩ rfl
    ·refine⟨hlt,?_,?_⟩
     ·show(out++(s.take (i+1)).drop i).length<=i+1;rw[d_,k_,i_];omega
     ·show out++(s.take (i+1)).drop i++cx (s.drop (i+1))=cx s;rw[An,List.drop_take,show i+1-i=1 by omega,<-nN hlt (.inr (.inl a_))];exact hd
    ·show s.length-(i+1)<s.length-i;omega
  ·repeat' (first|(conv=>whnf);first|refine .w ?_|refine .v ?_|refine eh ?_ ?_<;>(intro hb;try exact dd hb)|apply aT|apply bM|(apply cR<;>intro hb)|(apply cX;intro hbd)|(apply bD;exact hI _)|(apply aV (i:=0) rfl;exact hI _)|(apply cY;intro bl)|(apply dv;intro va vk vc hva)|(apply du;intro v)|(apply dw;intro bl cap hcap)|apply dI|(apply dq<;>intro hnx)|apply d8 mixed hC hGL be|(apply cq;assumption;exact hI _;exact rfl)|(show Rt _ _ _;exact cP)|fail)
   all_goals try conv=>whnf
   refine cQ (i+1,out++(s.take (i+1)).drop i) ?_ ?_ ⟨rfl,rfl,rfl,trivial⟩ rfl
   ·refine⟨hlt,?_,?_⟩
    ·show(out++(s.take (i+1)).drop i).length<=i+1;rw[d_,k_,i_];omega
    ·show out++(s.take (i+1)).drop i++cx (s.drop (i+1))=cx s;rw[An,List.drop_take,show i+1-i=1 by omega,<-nN hlt (.inl hk)];exact hd
   ·show s.length-(i+1)<s.length-i;omega
 ·have h9:out=cx s:=by rw[<-hd,List.drop_eq_nil_of_le a_,FJ,Dc]
  refine aK ?_;intros;apply aj;rw[h9]
end
section
theorem Ff (c:UInt8):∀(l:List UInt8) (k:Nat),(0<=kh (c.toNat:Int) l k/\c∈l)\/(kh (c.toNat:Int) l k<0/\c∉l)
 |[],k=>.inr ⟨by simp[kh],by simp⟩
 |x::t,k=>by
  unfold kh;by_cases h:(x.toNat:Int)=c.toNat
  ·have:x=c:=UInt8.toNat_inj.1 a_;rw[if_pos h];exact .inl ⟨a_,by simp[this]⟩
  ·have hne:c≠x:=λe=>h (by rw[e]);rw[if_neg h];rcases Ff c t (k+1) with⟨h1,h2⟩|⟨h1,h2⟩
   ·exact .inl ⟨h1,List.mem_cons_of_mem _ h2⟩
   ·exact .inr ⟨h1,λh3=>(List.mem_cons.1 h3).elim hne h2⟩
theorem Pz {s:List UInt8}{c:UInt8}:0<=aS s (c.toNat:Int)↔c∈s:=by
 unfold aS;rcases Ff c s 0 with⟨h1,h2⟩|⟨h1,h2⟩
 ·exact⟨λ_=>h2,λ_=>h1⟩
 ·exact⟨λh=>by omega,λh=>absurd h h2⟩
theorem LY {s:List UInt8}{c:UInt8}:0<=Lib.indexByte s c↔c∈s:=by
 induction s with
 |nil=>simp[Lib.indexByte]
 |cons x t ih=>
  have hge:=Lib.indexByte_ge t c;unfold Lib.indexByte;by_cases h:(x==c)=true
  ·rw[if_pos h];have:=beq_iff_eq.1 h;simp[this]
  ·rw[if_neg h];have hn:c≠x:=λe=>h (beq_iff_eq.2 e.symm);simp only[p_,hn,false_or];rw[<-ih];split
   ·rename_i h2;have:=beq_iff_eq.1 h2;omega
   ·rename_i h2;have:Lib.indexByte t c≠ -1:=λe=>h2 (beq_iff_eq.2 e);omega
attribute [local irreducible] bG au aa az aR ab ad
attribute [local irreducible] iw fd dm isS kx fQ aS
theorem pc {G:Glo}(s:List UInt8):ak prog G 145 [.str s,.str [34]] (.bool (decide (0<=aS s 34))):=by
 refine bK rfl call145 ?_;rintro R args ⟨x,t,e,hx,y,t',e',hy,rfl⟩ w hG hs;obtain rfl:=aD.1 hx;obtain rfl:=aD.1 hy;subst e';obtain rfl:=fK e;refine(strings_Contains_one ⟨s.toArray⟩ 34 w).mono ?_;rintro e w' ⟨rfl,rfl⟩;have e:decide (0<=Lib.indexByte s 34)=decide (0<=aS s 34):=by
  have h1:=LY (s:=s) (c:=34);have h2:=Pz (s:=s) (c:=34);have h3:((34:UInt8).toNat:Int)=34:=rfl;rw[h3] at h2;simp only[h1,h2]
 exact⟨by simp[AVal.conc,e],Below.refl _ _⟩
theorem tg {G:Glo}(hU:ab G utfTy)(s:List UInt8)(hl:s.length<=9223372036854775807):ak prog G 143 [.str s] (.bool (fd false s)):=by
 have h1:=BV hU s hl;have h2:=lX (G:=G) s 68 (iw false) hl (λc _=>lY c);refine ax func143 call143 λC hC hGL=> ?_;refine xw ?_;refine⟨λh=> ?_,λh=> ?_,.n⟩;all_goals (apply aj;refine congrArg AVal.bool ?_;unfold fd;rw[w_];simp only[nX,n_,reduceCtorEq,false_iff];omega)
theorem zf {G:Glo}(hU:ab G utfTy)(s:List UInt8)(c:Bool)(hl:s.length<=2000000):ak prog G 142 [.str s,.bool c] (.bool (kx c s)):=by
 cases c with
 |true=>
  have hE:=wR (G:=G) s hl;have hC1:=tg hU (fQ s) (by have:=(sn s).2;omega);have hq1:=pc (G:=G) (fQ s);have e:kx true s=(fd false (fQ s)&&decide (aS (fQ s) 34<0)):=by unfold kx q9;rfl
  rw[e];refine ax func142 call142 λC hC hGL=> ?_;refine xw ?_;repeat' first|exact .n|apply Lc.mk
  all_goals intros
  all_goals (apply aj;refine congrArg AVal.bool ?_;rw[show fd false (fQ s)=_ by assumption])
  all_goals (rw[w_];simp)
 |false=>
  have hC1:=tg hU s a_;have hq1:=pc (G:=G) s;have e:kx false s=(fd false s&&decide (aS s 34<0)):=by unfold kx q9;rfl
  rw[e];refine ax func142 call142 λC hC hGL=> ?_;refine xw ?_;repeat' first|exact .n|apply Lc.mk
  all_goals intros
  all_goals (apply aj;refine congrArg AVal.bool ?_;rw[show fd false s=_ by assumption])
  all_goals (rw[w_];simp)
theorem qv {G:Glo}(hU:ab G utfTy)(p:Ln)(c:Bool)(ho:p.Fit):ak prog G 82 [p.A,.bool c] (.agg [.int .i64 (p.E c).e,.int .i64 (p.E c).p]):=by
  have n1:=th (G:=G) p.n (by have:=ho.n;omega);have n2:=th (G:=G) p.g (by have:=ho.g;omega);have hv:=tg hU p.v (by have:=ho.v;omega);have hps:=ho.ps;have b5:=jc (G:=G) 5;have b4:=jc (G:=G) 4;have b3:=jc (G:=G) 3;have b0:=fp (G:=G);refine ax func82 call82 λC hC hGL=> ?_;refine xw ?_;repeat' first|exact .n|apply Lc.mk
  all_goals intros
  all_goals try (apply aj;first|(rw[Ln.E_5 (.inl (by assumption))];rfl)|(rw[Ln.E_5 (.inr ⟨by assumption,by assumption⟩)];rfl)|(rw[Ln.E_4 (by assumption) (.inl (by assumption)) a_];rfl)|(rw[Ln.E_4 (by assumption) (.inr (by assumption)) a_];rfl);done)
  all_goals
    have q1:isS p.n=true:=by assumption
    have q2:p.g.length=0\/isS p.g=true:=by first|exact .inl (by assumption)|exact .inr (by assumption)
    have q3:p.ps.length<=20:=by omega
    refine lp hC hGL (λk:Nat=>[(1,.bool c),(2,.rop [.str p.g,.str p.n,.list 2 p.ps.length (fU p.ps),.str p.v] 0),(4,.own 0 (.pointer (some ⟨_,0,none⟩))),(31,.list 2 p.ps.length (fU p.ps)),(32,.int .i64 (p.ps.length:Nat)),(33,.int .i64 (k:Nat))]) (λ_=>[.cells _ (some 27) [.int .i64 0,.int .i64 0]]) (λk=>k<=p.ps.length/\∀j,j<k->tk c (p.ps.getD j Pr.z)=0) (λk=>p.ps.length-k) 0 ?_ ah rfl ?_
    · exact⟨Nat.zero_le _,λj h=>absurd h (Uf _)⟩
    rintro k ⟨h1,h2⟩;have hq:=ho.q k;have n3:=th (G:=G) (p.ps.getD k Pr.z).n a_;refine xw ?_;repeat' first|exact .n|apply Lc.mk
    all_goals intros
    all_goals try (apply aj;first|(rw[Ln.E_3 q1 q2 q3 a_ h2 (by assumption)];rfl)|(rw[Ln.E_0 q1 q2 q3 a_ h2 (by assumption)];rfl);done)
    all_goals try (apply aj;first|(rw[Ln.E_at q1 q2 q3 a_ h2 (by rw[El (by assumption)];decide),El (by assumption)];rfl)|(rw[Ln.E_at q1 q2 q3 a_ h2 (by rw[JD (by assumption) a_];decide),JD (by assumption) a_];rfl);done)
    refine lp hC hGL (λj:Nat=>[(1,.bool c),(2,.rop [.str p.g,.str p.n,.list 2 p.ps.length (fU p.ps),.str p.v] 0),(4,.own 0 (.pointer (some ⟨_,0,none⟩))),(5,.int .i64 (k:Nat)),(31,.list 2 p.ps.length (fU p.ps)),(32,.int .i64 (p.ps.length:Nat)),(33,.int .i64 (k:Nat)),(51,.list 1 (p.ps.getD k Pr.z).vs.length (aB (p.ps.getD k Pr.z).vs)),(52,.int .i64 ((p.ps.getD k Pr.z).vs.length:Nat)),(53,.int .i64 (j:Nat))]) (λ_=>[.cells _ (some 27) [.int .i64 0,.int .i64 0],.cells _ (some 58) [.str (p.ps.getD k Pr.z).n,.list 1 (p.ps.getD k Pr.z).vs.length (aB (p.ps.getD k Pr.z).vs)]]) (λj=>j<=(p.ps.getD k Pr.z).vs.length/\O1 c (p.ps.getD k Pr.z).vs j) (λj=>(p.ps.getD k Pr.z).vs.length-j) 0 ?_ ah rfl ?_
    · exact⟨Nat.zero_le _,λi hi=>absurd hi (Uf _)⟩
    rintro j ⟨g1,g2⟩;have hj:=zf hU ((p.ps.getD k Pr.z).vs.getD j []) c (by have:=ii (l:=(p.ps.getD k Pr.z).vs) (k:=j);omega);refine xw ?_;repeat' first|exact .n|apply Lc.mk
    all_goals intros
    all_goals first
      |exact cQ (j+1) ⟨a_,Aq g2 (by assumption)⟩ a_ ah rfl
      |exact ga (k+1) ⟨a_,bO h2 (T0 (by assumption) a_ (EO a_ g2))⟩ a_ ah aF
      | (apply aj
         have e1:=TZ (c:=c) (q:=p.ps.getD k Pr.z) (by assumption) a_ (EN (j:=j) a_ (by assumption))
         rw[Ln.E_at q1 q2 q3 a_ h2 (by rw[e1];decide),e1]
         rfl)
end
section
theorem Kl {c:Bool}:∀{l:List Pr} {i:Nat},(lF c l i).e=0->lF c l i= .none
 |[],_,_=>rfl
 |x::l,i,h=>by
  simp only[lF] at h ⊢;split at h
  ·rename_i h0;rw[if_pos h0];exact Kl h
  ·rename_i h0;exact absurd h h0
theorem Ln.E_zero {c:Bool}{p:Ln}(h:(p.E c).e=0):p.E c= .none:=by
 unfold Ln.E at h ⊢;split at h
 ·cases h
 ·rename_i h1;rw[if_neg h1];split at h
  ·cases h
  ·rename_i h2;rw[if_neg h2];have:=Kl (c:=c) (l:=p.ps) (i:=0);cases hf:lF c p.ps 0 with
   |none=>
    rw[hf] at h;simp only at h ⊢;split at h
    ·rename_i h3;rw[if_pos h3]
    ·cases h
   |errno e=>
    rw[hf] at h this;exact absurd (this h) (by simp)
   | «at» e q=>
    rw[hf] at h this;exact absurd (this h) (by simp)
attribute [local irreducible] bG au aa az aR ab ad
attribute [local irreducible] iw fd dm isS kx fQ fN qw oU q9 rT
theorem Sf {G:Glo}(c:Int):ak prog G 194 [.int .u8 c] (.bool (rT c)):=by
 refine ax func194 call194 λC hC hGL=> ?_;refine xw ?_;repeat' first|exact .n|apply Lc.mk
 all_goals intros
 all_goals (apply aj;refine congrArg AVal.bool ?_)
 all_goals (unfold rT;rw[w_];simp only[fA,n_,reduceCtorEq,true_iff,false_iff];omega)
theorem NG {c:Bool}{vs:List (List UInt8)}{j:Nat}(hj:j<vs.length):(vs.map (fN c)).take (j+1)=(vs.map (fN c)).take j++[fN c (vs.getD j [])]:=by
 rw[x_ (by simpa using hj),List.getElem_map,f_,y_ hj];rfl
theorem zd {G:Glo}(hU:ab G utfTy)(p:Ln)(c:Bool)(ho:p.Fit):ak prog G 149 [p.A,.bool c] (.tuple [.str (p.T c),.agg [.int .i64 (p.E c).e,.int .i64 (p.E c).p]]):=by
  have h0:=qv hU p c ho;have hI:=gA (G:=G) (p.E c).e (p.E c).p;by_cases hz:(p.E c).e=0;case neg=>
    rw[lK.2 hz] at hI;rw[show p.T c=[] by
      unfold Ln.T;split
      · rename_i hq;rw[hq] at hz;exact absurd rfl hz
      · rfl]
    refine ax func149 call149 λC hC hGL=> ?_;refine ao ?_;intro b1 b2;refine bh mixed hC hGL false (λ(_:Unit)=>[(4,.str []),(5,.own 0 (.pointer (some ⟨b1,0,none⟩)))]) (λ_=>[.cells b1 (some 27) [.int .i64 (p.E c).e,.int .i64 (p.E c).p],.cells b2 (some 27) [.int .i64 (p.E c).e,.int .i64 (p.E c).p]]) (.br 0 (.t 1 (.b 2 .done)) (.b 1 (.b 0 (.b 2 .done)))) be ?_ ?_
    · refine xn ?_;repeat' first|exact .n|apply Lc.mk
      all_goals intros
      all_goals exact⟨(),⟨rfl,rfl,trivial⟩,rfl⟩
    · intro _;exact eK
  have hq:=Ln.E_zero hz;rw[hq] at h0 hI;rw[hq];simp only[Err.e,Err.p] at h0 hI ⊢;rw[fA.2 rfl] at hI;rw[show p.T c=p.txt c by unfold Ln.T;rw[hq],I7];have hb0:=fp (G:=G);have i1:p.ps.length<=20:=by
    have h:=hq;unfold Ln.E at h;split at h
    · cases h
    · split at h
      · cases h
      · omega
  have i2:∀k,k<p.ps.length->(p.ps.getD k Pr.z).vs.length≠0\/True:=λ_ _=>.inr trivial;have o1:=ho.g;have o2:=ho.n;have o3:=ho.v;have o4:∀k,k<=p.ps.length->(qw c p.ps k).length<=20*6600002:=λk hk=>by
    have h1:=BW (N:=1100000) (c:=c) (λk=>⟨(ho.q k).1,by have:=(ho.q k).2.1;omega,by have:=(ho.q k).2.2;omega⟩) k hk;rw[show 2+6*1100000=6600002 by decide] at h1;have h2:=YW 6600002 (show k<=20 by omega);exact YX h1 h2
  have hd1:p.g.length≠0->p.g++[46]++p.n=oU p:=λh=>by unfold oU;rw[if_neg h]
  have hd0:p.g.length=0->p.n=oU p:=λh=>by unfold oU;rw[if_pos h]
  have jV:(oU p).length<=2200001:=by
    unfold oU;split
    · omega
    · simp only[d_,j_,E_];omega
  refine mh func149 call149 λC hC hGL=> ?_;refine gu hC hGL (λbl:Nat=>[(1,.bool c),(2,.rop [.str p.g,.str p.n,.list 2 p.ps.length (fU p.ps),.str p.v] 0),(5,.own 0 (.pointer (some ⟨bl,0,none⟩)))]) (λbl=>[.cells bl (some 27) [.int .i64 0,.int .i64 0]]) (λ_=>True) ?_ λb1 _=> ?_
  · refine aK ?_;intro bl;exact cy bl trivial
  refine gu hC hGL (λbl:Nat=>[(1,.bool c),(2,.rop [.str p.g,.str p.n,.list 2 p.ps.length (fU p.ps),.str p.v] 0),(5,.own 0 (.pointer (some ⟨b1,0,none⟩)))]) (λbl=>[.cells b1 (some 27) [.int .i64 0,.int .i64 0],.cells bl (some 27) [.int .i64 0,.int .i64 (-1)]]) (λ_=>True) ?_ λb2 _=> ?_
  · refine aK ?_;intro bl;exact cy bl trivial
  refine cut hC hGL [(1,.bool c),(2,.rop [.str p.g,.str p.n,.list 2 p.ps.length (fU p.ps),.str p.v] 0),(5,.own 0 (.pointer (some ⟨b1,0,none⟩))),(7,.str p.n)] [.cells b1 (some 27) [.int .i64 0,.int .i64 0],.cells b2 (some 27) [.int .i64 0,.int .i64 (-1)]] True ?_ λ_=> ?_
  · exact bB
  refine gu hC hGL (λq:List UInt8=>[(1,.bool c),(2,.rop [.str p.g,.str p.n,.list 2 p.ps.length (fU p.ps),.str p.v] 0),(5,.own 0 (.pointer (some ⟨b1,0,none⟩))),(7,.str q)]) (λ_=>[.cells b1 (some 27) [.int .i64 0,.int .i64 0],.cells b2 (some 27) [.int .i64 0,.int .i64 (-1)]]) (λq=>q=oU p++qw c p.ps 0) ?_ λq hq=> ?_
  · rw[show qw c p.ps 0=[] by unfold qw;rfl,Dc];refine xn ?_;repeat' first|exact .n|apply Lc.mk
    all_goals intros
    all_goals first
      |exact cy _ (hd1 (by assumption))
      |exact cy _ (hd0 (by assumption))
  subst hq;refine ay hC hGL ?_;refine ao ?_;refine lp hC hGL (λk:Nat=>[(1,.bool c),(2,.rop [.str p.g,.str p.n,.list 2 p.ps.length (fU p.ps),.str p.v] 0),(5,.own 0 (.pointer (some ⟨b1,0,none⟩))),(7,.str (oU p++qw c p.ps k)),(31,.list 2 p.ps.length (fU p.ps)),(32,.int .i64 (p.ps.length:Nat)),(33,.int .i64 (k:Nat))]) (λ_=>[.cells b1 (some 27) [.int .i64 0,.int .i64 0],.cells b2 (some 27) [.int .i64 0,.int .i64 (-1)]]) (λk=>k<=p.ps.length) (λk=>p.ps.length-k) 0 ?_ ah rfl ?_
  · exact Nat.zero_le _
  intro k h1;have ol:=o4 k h1;have hqk:=ho.q k;refine xn ?_;repeat' first|exact .n|apply Lc.mk
  all_goals intros
  · rename_i b9 hkl;have hkn:k<p.ps.length:=by omega
    have hsucc:=wW (c:=c) hkn;have hpl:=JC c (p.ps.getD k Pr.z);have hjl:(Lib.join ((p.ps.getD k Pr.z).vs.map (fN c)) [44]).length<=20000000:=by
      have h2:=xK ((p.ps.getD k Pr.z).vs.map (fN c));have h3:=r9 c (p.ps.getD k Pr.z).vs;rw[C_] at h2;omega
    refine nB 10 1 rfl ?_;refine lp hC hGL (λy:List (List UInt8)×Value=>[(1,.bool c),(2,.rop [.str p.g,.str p.n,.list 2 p.ps.length (fU p.ps),.str p.v] 0),(5,.own 0 (.pointer (some ⟨b1,0,none⟩))),(7,.str (oU p++qw c p.ps k)),(9,.own 2 (.pointer (some ⟨b9,0,none⟩))),(10,.own 3 y.2),(31,.list 2 p.ps.length (fU p.ps)),(32,.int .i64 (p.ps.length:Nat)),(33,.int .i64 (k:Nat)),(38,.list 1 (p.ps.getD k Pr.z).vs.length (aB (p.ps.getD k Pr.z).vs)),(39,.int .i64 ((p.ps.getD k Pr.z).vs.length:Nat)),(40,.int .i64 (y.1.length:Nat))]) (λy=>[.cells b1 (some 27) [.int .i64 0,.int .i64 0],.cells b2 (some 27) [.int .i64 0,.int .i64 (-1)],.cells b9 (some 58) [.str (p.ps.getD k Pr.z).n,.list 1 (p.ps.getD k Pr.z).vs.length (aB (p.ps.getD k Pr.z).vs)],.row y.2 none 1 y.1.length (bj y.1)]) (λy=>y.1.length<=(p.ps.getD k Pr.z).vs.length/\y.1=((p.ps.getD k Pr.z).vs.map (fN c)).take y.1.length) (λy=>(p.ps.getD k Pr.z).vs.length-y.1.length) ([],.slice none 0 0) ?_ ah rfl ?_
    · exact⟨Nat.zero_le _,rfl⟩
    rintro⟨l,v⟩ ⟨g1,g2⟩;dsimp only at g1 g2;have hj1:=ii (l:=(p.ps.getD k Pr.z).vs) (k:=l.length);have hel:=CA c ((p.ps.getD k Pr.z).vs.getD l.length []);have hE:=wR (G:=G) ((p.ps.getD k Pr.z).vs.getD l.length []) a_;have hQ:=lX (G:=G) (q9 c ((p.ps.getD k Pr.z).vs.getD l.length [])) 194 rT a_ (λc _=>Sf c);have hY:0<=fX rT (q9 c ((p.ps.getD k Pr.z).vs.getD l.length []))->fN c ((p.ps.getD k Pr.z).vs.getD l.length [])=34::q9 c ((p.ps.getD k Pr.z).vs.getD l.length [])++[34]:=λh=>by unfold fN;rw[if_neg a_]
    have hN:fX rT (q9 c ((p.ps.getD k Pr.z).vs.getD l.length []))<0->fN c ((p.ps.getD k Pr.z).vs.getD l.length [])=q9 c ((p.ps.getD k Pr.z).vs.getD l.length []):=λh=>by unfold fN;rw[if_pos h]
    have hT:=λ(h:l.length<(p.ps.getD k Pr.z).vs.length)=>NG (c:=c) h;have hx1:q9 true ((p.ps.getD k Pr.z).vs.getD l.length [])=fQ ((p.ps.getD k Pr.z).vs.getD l.length []):=by unfold q9;rfl
    have hx2:q9 false ((p.ps.getD k Pr.z).vs.getD l.length [])=(p.ps.getD k Pr.z).vs.getD l.length []:=by unfold q9;rfl
    have fin:(p.ps.getD k Pr.z).vs.length<=l.length->l=(p.ps.getD k Pr.z).vs.map (fN c):=λh=>by rw[g2,u_ (by rw[C_];omega)]
    have go:∀(w:List UInt8),w=fN c ((p.ps.getD k Pr.z).vs.getD l.length [])->l.length<(p.ps.getD k Pr.z).vs.length->(l++[w]).length<=(p.ps.getD k Pr.z).vs.length/\l++[w]=((p.ps.getD k Pr.z).vs.map (fN c)).take (l++[w]).length:=λw hw h=>by
      rw[d_,Rf,hT h,<-g2,hw];exact⟨a_,rfl⟩
    cases c;all_goals
      simp only[hx1,hx2] at hQ hY hN hel;refine xn ?_;repeat' first|exact .n|apply Lc.mk
      all_goals intros
      all_goals try dsimp only at*
    all_goals first
      | (refine cQ (l++[_],.slice _ _ _) (go _ (hY (by assumption)).symm a_) (by dsimp only;rw[d_,Rf];omega) ⟨rfl,rfl,rfl,rfl,rfl,rfl,rfl,rfl,rfl,rfl,rfl,?_,trivial⟩ ?_
         · show some (AVal.int .i64 (((l.length:Nat):Int)+1))=some (AVal.int .i64 ((l++[_]).length:Nat));rw[d_];rfl
         · dsimp only
           rw[<-ce,d_];rfl)
      | (refine cQ (l++[_],.slice _ _ _) (go _ (hN (by assumption)).symm a_) (by dsimp only;rw[d_,Rf];omega) ⟨rfl,rfl,rfl,rfl,rfl,rfl,rfl,rfl,rfl,rfl,rfl,?_,trivial⟩ ?_
         · show some (AVal.int .i64 (((l.length:Nat):Int)+1))=some (AVal.int .i64 ((l++[_]).length:Nat));rw[d_];rfl
         · dsimp only
           rw[<-ce,d_];rfl)
      |skip
    · obtain rfl:=fin a_;refine bh mixed hC hGL true (λ(_:Unit)=>[(1,.bool false),(2,.rop [.str p.g,.str p.n,.list 2 p.ps.length (fU p.ps),.str p.v] 0),(5,.own 0 (.pointer (some ⟨b1,0,none⟩))),(7,.str (oU p++qw false p.ps (k+1))),(31,.list 2 p.ps.length (fU p.ps)),(32,.int .i64 (p.ps.length:Nat)),(33,.int .i64 (k:Nat))]) (λ_=>[.cells b1 (some 27) [.int .i64 0,.int .i64 0],.cells b2 (some 27) [.int .i64 0,.int .i64 (-1)],.cells b9 (some 58) [.str (p.ps.getD k Pr.z).n,.list 1 (p.ps.getD k Pr.z).vs.length (aB (p.ps.getD k Pr.z).vs)],.row v none 1 ((p.ps.getD k Pr.z).vs.map (fN false)).length (bj ((p.ps.getD k Pr.z).vs.map (fN false)))]) .p18 be ?_ ?_
      · refine ao ?_;intro C hC;refine aV (i:=3) rfl (fh ((p.ps.getD k Pr.z).vs.map (fN false)) [44] v (by rw[C_];omega) a_) ?_;have hlen:(oU p++qw false p.ps k).length<=200000000:=by rw[d_];omega
        refine xn ?_;repeat' first|exact .n|apply Lc.mk
        all_goals intros
        all_goals
          refine⟨(),⟨rfl,rfl,rfl,?_,rfl,rfl,rfl,trivial⟩,rfl⟩;rw[hsucc];unfold Sh;simp only[An,Lu,L_];rfl
      · intro _;refine ao ?_;exact ga (k+1) a_ a_ ah aF
    · obtain rfl:=fin a_;refine bh mixed hC hGL true (λ(_:Unit)=>[(1,.bool true),(2,.rop [.str p.g,.str p.n,.list 2 p.ps.length (fU p.ps),.str p.v] 0),(5,.own 0 (.pointer (some ⟨b1,0,none⟩))),(7,.str (oU p++qw true p.ps (k+1))),(31,.list 2 p.ps.length (fU p.ps)),(32,.int .i64 (p.ps.length:Nat)),(33,.int .i64 (k:Nat))]) (λ_=>[.cells b1 (some 27) [.int .i64 0,.int .i64 0],.cells b2 (some 27) [.int .i64 0,.int .i64 (-1)],.cells b9 (some 58) [.str (p.ps.getD k Pr.z).n,.list 1 (p.ps.getD k Pr.z).vs.length (aB (p.ps.getD k Pr.z).vs)],.row v none 1 ((p.ps.getD k Pr.z).vs.map (fN true)).length (bj ((p.ps.getD k Pr.z).vs.map (fN true)))]) .p18 be ?_ ?_
      · refine ao ?_;intro C hC;refine aV (i:=3) rfl (fh ((p.ps.getD k Pr.z).vs.map (fN true)) [44] v (by rw[C_];omega) a_) ?_;have hlen:(oU p++qw true p.ps k).length<=200000000:=by rw[d_];omega
        refine xn ?_;repeat' first|exact .n|apply Lc.mk
        all_goals intros
        all_goals
          refine⟨(),⟨rfl,rfl,rfl,?_,rfl,rfl,rfl,trivial⟩,rfl⟩;rw[hsucc];unfold Sh;simp only[An,Lu,L_];rfl
      · intro _;refine ao ?_;exact ga (k+1) a_ a_ ah aF
  · have hkk:k=p.ps.length:=by omega
    subst hkk;refine bh mixed hC hGL false (λ(_:Unit)=>[(4,.str (oU p++qw c p.ps p.ps.length++[58]++p.v)),(5,.own 0 (.pointer (some ⟨b1,0,none⟩)))]) (λ_=>[.cells b1 (some 27) [.int .i64 0,.int .i64 (-1)],.cells b2 (some 27) [.int .i64 0,.int .i64 (-1)]]) (.t 0 (.t 1 (.t 2 (.t 3 (.t 4 (.b 5 (.t 6 (.b 7 .done)))))))) be ?_ ?_
    · refine xn ?_;repeat' first|exact .n|apply Lc.mk
      all_goals intros
      all_goals exact⟨(),⟨rfl,rfl,trivial⟩,rfl⟩
    · intro _;exact eK
end
section
def Pr.w (q:Pr):Nat:=q.n.length+q.vs.length+Lib.lens q.vs
def Ln.b (p:Ln):Nat:=p.ps.length+p.g.length+p.n.length+p.v.length
attribute [local irreducible] bG au aa az aR ab ad
end
section
attribute [local irreducible] bG au aa az aR ab ad
attribute [local irreducible] iw fd dm
theorem oh {G:Glo}(s:List UInt8)(b:Bool)(hl:s.length<=9223372036854775807):ak prog G 99 [.str s,.bool b] (.bool (fd b s)):=by
 have hB:=Bk (G:=G) s hl;refine ax func99 call99 λC hC hGL=> ?_;refine aK ?_;refine lp hC hGL (λi:Nat=>[(0,.str s),(1,.bool b),(8,.int .i64 (s.length:Nat)),(9,.int .i64 (i:Nat))]) (λ_=>[]) (λi=>i<=s.length/\∀j,j<i->iw b (aa s j:Int)=false) (λi=>s.length-i) 0 ?_ ah rfl ?_
 ·exact⟨Nat.zero_le _,λj h=>absurd h (Uf _)⟩
 rintro i ⟨h1,h2⟩;refine xw ?_;repeat' first|exact .n|apply Lc.mk
 all_goals intros
 all_goals first
  |(apply aj;rw[PE (i:=i) a_ (by first|exact se (.inl a_)|exact se (.inr (.inl a_))|exact se (.inr (.inr ⟨a_,by assumption⟩))) h2];rfl)
  |(refine cQ (i+1) ⟨a_,dj h2 (by first|exact Cl a_ (.inl a_)|exact Cl a_ (.inr (.inl a_))|exact Cl a_ (.inr (.inr ⟨a_,by assumption⟩)))⟩ a_ ah rfl)
  |(apply aj;rw[Kh (i:=i) a_ h2])
theorem BS {G:Glo}(s:List UInt8)(f:Nat)(cs:List AVal)(p:Int->Bool)(hl:s.length<=9223372036854775807)(hp:∀c:Nat,c<256->ak prog G f [.int .u8 (c:Int),.rop cs 0] (.bool (p c))):ak prog G 70 [.str s,.func (.func f) [] [.rop cs 0]] (.int .i64 (fX p s)):=by
 have k1:=λi (_:0<=(aa s i:Int))=>hp (aa s i) (bu s i);refine ax func70 call70 λC hC hGL=> ?_;refine aK ?_;intro bl cap hcap;refine lp hC hGL (λ(i:Nat)=>[(1,.func (.func f) [] [.rop cs 0]),(8,.own 0 (.slice (some ⟨bl,0,none⟩) s.length cap)),(9,.int .i64 s.length),(10,.int .i64 i)]) (λ_=>[.buf bl s cap]) (λi=>i<=s.length/\∀j,j<i->p (aa s j:Int)=false) (λi=>s.length-i) 0 ?_ ah rfl ?_
 ·exact⟨Nat.zero_le _,λj h=>absurd h (Uf _)⟩
 rintro i ⟨hi,hb0⟩;refine xw ?_;repeat' first|exact .n|apply Lc.mk
 all_goals intros
 all_goals first
  |(apply aj;rw[mf (i:=i) a_ (by assumption) hb0])
  |(refine cQ (i+1) ⟨a_,dj hb0 (by assumption)⟩ a_ ah rfl)
  |(apply aj;rw[iM (λj hj=>hb0 j a_)];rfl)
theorem Hl {G:Glo}(b:Bool)(c:Int):ak prog G 132 [.int .u8 c,.rop [.bool b] 0] (.bool (iw b c)):=by
 have h:=lY (G:=G) c;refine ax func132 call132 λC hC hGL=> ?_;refine xw ?_;refine⟨λh1 h2=> ?_,λh1 h2=> ?_,λh1=> ?_,.n⟩;all_goals (apply aj;refine congrArg AVal.bool ?_;first|rw[AN] at h1|rw[<-W_,AN] at h1)
 ·rcases h1 with h1|h1
  ·exact(se (.inl ⟨h1.1,h1.2,h2⟩)).symm
  ·exact(se (.inr (.inl h1))).symm
 ·rw[w_];cases b
  ·rw[AN];simp;omega
  ·rw[Ua];simp;omega
 ·cases b
  ·rw[w_,AN];simp;omega
  ·rw[w_,Ua];simp;omega
theorem pK {G:Glo}(hU:ab G utfTy)(s:List UInt8)(b:Bool)(hl:s.length<=9223372036854775807):ak prog G 73 [.str s,.bool b] (.bool (fd b s)):=by
 have h1:=BV hU s hl;have h2:=BS (G:=G) s 132 [.bool b] (iw b) hl (λc _=>Hl b c);refine ax func73 call73 λC hC hGL=> ?_;refine xw ?_;refine⟨λh=> ?_,λh=> ?_,.n⟩;all_goals (apply aj;refine congrArg AVal.bool ?_;unfold fd;rw[w_];simp only[nX,n_,reduceCtorEq,false_iff];omega)
end
end Go.Proofs.YtnbaflecdkgihaaGreatDoor
