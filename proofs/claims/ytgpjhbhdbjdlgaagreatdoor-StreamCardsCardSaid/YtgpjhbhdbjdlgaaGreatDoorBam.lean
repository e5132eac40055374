/- Parts of the proof of streamCards_card. -/
import Derived.Test.YtgpjhbhdbjdlgaaGreatDoorBal
set_option linter.unusedVariables false
set_option linter.unusedSimpArgs false
set_option linter.unusedSectionVars false
namespace Go.Proofs.YtgpjhbhdbjdlgaaGreatDoor
open Go Go.RowKit
open Tryz
set_option maxRecDepth 20000
set_option maxHeartbeats 4000000
section
theorem Ep (c:UInt8)(s:ω):bW c s=if(Lib.cut s [c]).2.2 then(Lib.cut s [c]).1::bW c (Lib.cut s [c]).2.1 else[s]:=by
 have h:=nD c s;rcases Lib.index_spec s [c] with⟨h2,_⟩|⟨i,h2,_⟩
 ·rw[Lib.count_miss h2] at h;have e:Lib.cut s [c]=(s,[],false):=by unfold Lib.cut;rw[if_neg a_]
  rw[e,if_neg Bool.false_ne_true,<-h];rfl
 ·have e:Lib.cut s [c]=(s.take i,s.drop (i+1),true):=by unfold Lib.cut;rw[if_pos a_,h2];rfl
  rw[Lib.count_hit (by simp) h2,Nat.add_comm,nE h2] at h;rw[e,if_pos rfl,<-h];congr 1
  exact nD c _
theorem Nd:∀k:Fin 1000,(46:UInt8)∉Lib.decDigits k.val:=by decide+kernel
theorem Nr {m:Nat}{s:ω}(hm:m<=999)(h:(46:UInt8)∈s):im m s=false:=by
 refine y5.2 λn h1 h2 h3=> ?_;subst h3;exact Nd ⟨n,a_⟩ h
theorem Xy {s:ω}{c:UInt8}(h:(Lib.cut s [c]).2.2=true):c∈s:=by
 unfold Lib.cut at h;split at h
 ·rename_i hi;rw[Lib.index_one] at hi;rcases Classical.em (c∈s) with g|g
  ·exact g
  ·exfalso;have:Lib.indexByte s c= -1:=by
    have:=Lib.index_spec s [c];rcases this with⟨h1,_⟩|⟨i,h1,h2,h3,_⟩
    ·rwa [Lib.index_one] at h1
    ·exfalso;apply g;unfold Lib.occAt at h3;cases hd:s.drop i with
     |nil=>rw[hd] at h3;simp at h3
     |cons x t=>
      rw[hd] at h3;have:c=x:=by simpa[List.isPrefixOf] using h3
      rw[this];exact List.mem_of_mem_drop (by rw[hd];exact z_ ..)
   omega
 ·cases h
def Tr (l:List ω):Bool:=decide (l.length<=2)&&l.all (im 999)
theorem Tq (v:ω):Tr (bW 46 v)=oX v:=by
 rw[Ep];unfold oX Tr;cases ht:(Lib.cut v [46]).2.2 with
 |false=>
  have e:(Lib.cut v [46]).1=v:=by
   unfold Lib.cut at ht ⊢;split at ht
   ·cases ht
   ·rename_i h;rw[if_neg h]
  rw[e];simp
 |true=>
  rw[if_pos rfl,Ep];cases ht2:(Lib.cut (Lib.cut v [46]).2.1 [46]).2.2 with
  |false=>simp
  |true=>
   have h1:=Nr (m:=999) (Nat.le_refl _) (Xy ht2);rw[h1,if_pos rfl];have h3:=pO 46 (Lib.cut (Lib.cut v [46]).2.1 [46]).2.1;have h4:0<(bW 46 (Lib.cut (Lib.cut v [46]).2.1 [46]).2.1).length:=List.length_pos_iff.2 h3;rw[decide_eq_false (by simp only[j_];omega)];simp
abbrev Er:ω:=[32,86,65,76,85,69,32,65,76,84,73,68,32,77,69,68,73,65,84,89,80,69,32,69,78,67,79,68,73,78,71,32,76,65,78,71,85,65,71,69,32,80,82,69,70,32]
def nH (n:ω):Bool:=decide (n=PP\/n=PT\/n=PQ\/n=PS\/n=zR\/n=nPRE)
theorem E2:∀{n L:ω},(n++[32]).isPrefixOf L=true->(32:UInt8)∉n->n=L.takeWhile (· != 32)
 |[],[],h,_=>by simp at h
 |[],x::L,h,_=>by
  simp only[L_,List.isPrefixOf,Bool.and_true,aad] at h;subst h;simp
 |a::n,[],h,_=>by simp at h
 |a::n,x::L,h,hn=>by
  simp only[Lu,List.isPrefixOf,l_,aad] at h;obtain⟨rfl,h⟩:=h;have ha:a≠32:=λe=>hn (by rw[e];exact z_ ..);have:=E2 h (λe=>hn (List.mem_cons_of_mem _ e));rw[List.takeWhile_cons,if_pos (by simpa using ha),<-this]
theorem Mb:∀i:Fin 47,∀L,Er.drop i.val=32::L->L.takeWhile (· != 32)=[]\/nH (L.takeWhile (· != 32))=true:=by
 have h:∀i:Fin 47,(match Er.drop i.val with|x::L=>x != 32||((L.takeWhile (· != 32)).isEmpty||nH (L.takeWhile (· != 32)))|[]=>true)=true:=by decide+kernel
 intro i L hL;have:=h i;rw[hL] at this;replace this:((32:UInt8) != 32||((L.takeWhile (· != 32)).isEmpty||nH (L.takeWhile (· != 32))))=true:=this;generalize L.takeWhile (· != 32)=u at*
 rw[show((32:UInt8) != 32)=false by decide,Bool.false_or,Wk,List.isEmpty_iff] at this;exact this
theorem V9 {n:ω}(h:nH n=true):Lib.contains Er (32::n++[32])=true:=by
 have h:n=PP\/n=PT\/n=PQ\/n=PS\/n=zR\/n=nPRE:=of_decide_eq_true h;rcases h with rfl|rfl|rfl|rfl|rfl|rfl<;>decide+kernel
theorem Wa {n:ω}(h0:n≠[])(hn:(32:UInt8)∉n):Lib.contains Er (32::n++[32])=nH n:=by
 cases hb:nH n with
 |true=>exact V9 hb
 |false=>
  unfold Lib.contains;rcases Lib.index_spec Er (32::n++[32]) with⟨h1,_⟩|⟨i,h1,h2,h3,_⟩
  ·rw[h1];rfl
  ·exfalso;unfold Lib.occAt at h3;cases hd:Er.drop i with
   |nil=>rw[hd] at h3;simp at h3
   |cons x L=>
    rw[hd] at h3;simp only[Lu,List.isPrefixOf,l_,aad] at h3;obtain⟨rfl,h3⟩:=h3;have e:=E2 h3 hn;rcases Mb ⟨i,by have:Er.length=46:=rfl;omega⟩ L hd with h|h
    ·exact h0 (e.trans h)
    ·rw[<-e,hb] at h;cases h
theorem CQ {s:ω}(h:isS s=true):am 97 122 (-32) s≠[]/\(32:UInt8)∉am 97 122 (-32) s:=by
 unfold isS at h;simp only[l_,n_] at h;obtain⟨h1,h2,_⟩:=h;refine⟨λe=>h2 ?_,λhm=> ?_⟩
 ·have:=congrArg List.length e;unfold am at this;rwa [C_] at this
 ·unfold am at hm;rw[List.mem_map] at hm;obtain⟨c,hc,e⟩:=hm;unfold DK at h1;have hl:=List.all_eq_true.1 h1 c hc;unfold aU at hl;have hl:=of_decide_eq_true hl;have e:=congrArg UInt8.toNat e;rw[UInt8.toNat_ofNat'] at e;have hlt:=UInt8.toNat_lt c;unfold eo at e;have e32:(32:UInt8).toNat=32:=rfl;rw[e32] at e;split at e<;>omega
end
section
def AR (n:ω)(v:ω):Bool:=if n=zR then(dJ v).isNone else if n=nPRE then im 100 v else if n=nTYP then isS v else if n=zQ then oX v else true
theorem Xb (n:ω)(vs:List ω):vA n vs=(decide (vs.length≠0)&&((!nH n||decide (vs.length=1))&&vs.all (AR n))):=by
 have one:∀{p:ω->Bool},vs.length=1->vs.all p=p (vs.getD 0 []):=λh=>by
  obtain⟨v,rfl⟩:=List.length_eq_one_iff.1 h;simp
 cases ZM n with
 |one h=>
  have e:∀v,AR n v=true:=λv=>by
   unfold AR;rcases h with rfl|rfl|rfl|rfl<;>rfl
  have e2:vs.all (AR n)=true:=List.all_eq_true.2 λv _=>e v;have e3:nH n=true:=by rcases h with rfl|rfl|rfl|rfl<;>rfl
  unfold vA;rw[if_pos h,e2,e3];by_cases hv:vs.length=1
  ·simp[hv]
  ·simp[hv]
 |lan h=>
  subst h;show(decide (vs.length=1)&&(dJ (vs.getD 0 [])).isNone)=_;rw[show nH zR=true from rfl];by_cases hv:vs.length=1
  ·rw[one hv];simp[hv,AR]
  ·simp[hv]
 |pre h=>
  subst h
  show(decide (vs.length=1)&&im 100 (vs.getD 0 []))=_
  rw[show nH nPRE=true from rfl]
  by_cases hv:vs.length=1
  ·rw[one hv];simp[hv,AR]
  ·simp[hv]
 |typ h=>
  subst h
  show(vs.all isS&&decide (0<vs.length))=_
  rw[show nH nTYP=false from rfl,show AR nTYP=isS from rfl]
  by_cases hv:vs.length=0
  ·simp[hv]
  ·simp[hv,Nat.pos_of_ne_zero hv]
 |pid h=>
  subst h
  show(vs.all oX&&decide (0<vs.length))=_
  rw[show nH zQ=false from rfl,show AR zQ=oX from rfl]
  by_cases hv:vs.length=0
  ·simp[hv]
  ·simp[hv,Nat.pos_of_ne_zero hv]
 |els h1 h2 h3 h4 h5 h6 h7 h8=>
  have e:∀v,AR n v=true:=λv=>by
   unfold AR
   rw[if_neg h5,if_neg h6,if_neg h7,if_neg h8]
  have e2:vs.all (AR n)=true:=List.all_eq_true.2 λv _=>e v
  have e3:nH n=false:=by
   unfold nH
   exact decide_eq_false (by simp only[not_or];exact⟨h1,h2,h3,h4,h5,h6⟩)
  unfold vA
  rw[if_neg (by simp only[not_or];exact⟨h1,h2,h3,h4⟩),if_neg h5,if_neg h6,if_neg h7,if_neg h8,e2,e3]
  by_cases hv:vs.length=0
  ·simp[hv]
  ·simp[hv,Nat.pos_of_ne_zero hv]
theorem A9:∀(b:Bool) (a:Nat) (l:List ω),(fj b a l).isNone=bV (fj b a l).e 0
 |b,a,[]=>by unfold fj;exact(fJ.2 rfl).symm
 |b,a,x::l=>by
  unfold fj;have ih:=A9 false (a+x.length+1) l;have hp:eP b a x= .none\/∃e p,eP b a x= .atp e p/\e≠0:=by
   unfold eP;split
   ·exact .inr ⟨_,_,rfl,b_⟩
   ·split
    ·exact .inr ⟨_,_,rfl,b_⟩
    ·split
     ·exact .inr ⟨_,_,rfl,b_⟩
     ·exact .inl rfl
  rcases hp with h|⟨e,p,h,he⟩
  ·rw[h];exact ih
  ·rw[h];exact(k9.2 he).symm
theorem MO (s:ω):(dJ s).isNone=bV (dJ s).e 0:=A9 true 0 (bW 45 s)
attribute [local irreducible] bJ au aa ax aR ab ad im dJ isS oX bW AR nH
theorem uL {G:Glo}(hP:fF G)(s:ω)(m:Nat)(hm:m<=999):ai prog G 147 [.str s,.int .i64 (m:Int)] (.bool (im m s)):=by
 refine aw func147 call147 λC hC hGL=> ?_
 refine aH ?_;intros;refine lp hC hGL (λk:Nat=>[(0,.str s),(1,.int .i64 (m:Int)),(5,.int .i64 (k:Int))]) (λ_=>[]) (λk=>1<=k/\k<=m+1/\∀n,1<=n->n<k->Lib.decDigits n≠s) (λk=>m+1-k) 1 ⟨Nat.le_refl _,a_,λn h1 h2=>by omega⟩ ae rfl ?_;rintro k ⟨h1,h2,h3⟩;by_cases hk:k<=m
 ·have hI:=strconv_Itoa (G:=G) hP k a_;by_cases he:Lib.decDigits k=s
  ·rw[Jr.2 ⟨k,h1,hk,he⟩];exact bq
  ·refine aH ?_;intros;refine cQ (k+1) ⟨a_,a_,λn g1 g2=> ?_⟩ a_ ae rfl;rcases Nat.lt_or_eq_of_le (Nat.le_of_lt_succ g2) with h|rfl
   ·exact h3 n g1 h
   ·exact he
 ·rw[y5.2 λn g1 g2=>h3 n g1 a_]
  exact bq
theorem Pj {G:Glo}{m:Int}(hP:fF G)(hM:ab G (bQ m))(q:Pr)(hq:isS q.n=true)(h0:q.n.length<=2000000)(h1:q.vs.length<=1000000)(h2:∀k,(q.vs.getD k []).length<=10000):ai prog G 85 [prA q] (.bool q.fit):=by
 have hU:=Mr (G:=G) q.n a_;obtain⟨hb1,hb2⟩:=CQ hq;unfold Pr.fit;rw[Xb];obtain⟨nm,vs⟩:=q;dsimp only at h0 h1 h2 hU hb1 hb2 ⊢;have hnl:(am 97 122 (-32) nm).length<=2000000:=by unfold am;rw[C_];exact h0
 clear hq;generalize am 97 122 (-32) nm=n at*
 have hS:=jO (G:=G) hM Er (32::n++[32]) b_;rw[Wa hb1 hb2] at hS;by_cases hv:vs.length=0
 ·rw[decide_eq_false a_];refine aw func85 call85 λC hC hGL=> ?_;exact bq
 rw[decide_eq_true hv];by_cases hs:nH n=true/\vs.length≠1
 ·rw[hs.1] at hS ⊢;rw[decide_eq_false hs.2];refine aw func85 call85 λC hC hGL=> ?_;exact bq
 have e1:(!nH n||decide (vs.length=1))=true:=by
  rcases Bool.eq_false_or_eq_true (nH n) with h|h
  ·rw[h,decide_eq_true (Classical.not_not.1 λg=>hs ⟨h,g⟩)];rfl
  ·rw[h];rfl
 rw[e1,aae,aae];have ok1:∀{k:Nat},k<vs.length->AR n (vs.getD k [])=true->(∀j,j<k->AR n (vs.getD j [])=true)->∀j,j<k+1->AR n (vs.getD j [])=true:=λhk h g j hj=>by
  rcases Nat.lt_or_eq_of_le (Nat.le_of_lt_succ hj) with h'|rfl
  ·exact g j h'
  ·exact h
 refine k7 func85 call85 λC hC hGL=> ?_;refine cut hC hGL [(1,.rop [.str nm,.list 1 vs.length (aB vs)] 0)] [] True ?_ λ_=> ?_
 ·exact bq
 refine cut hC hGL [(1,.rop [.str nm,.list 1 vs.length (aB vs)] 0)] [] True ?_ λ_=> ?_
 ·exact bq
 refine cut hC hGL [(1,.rop [.str nm,.list 1 vs.length (aB vs)] 0),(3,.str n)] [] True ?_ λ_=> ?_
 ·exact bq
 refine cut hC hGL [(1,.rop [.str nm,.list 1 vs.length (aB vs)] 0),(3,.str n)] [] True ?_ λ_=> ?_
 ·cases h6:nH n with
  |true=>
   rw[h6] at hS hs;have hl1:vs.length=1:=Classical.not_not.1 λg=>hs ⟨rfl,g⟩;exact bq
  |false=>
   rw[h6] at hS;exact bq
 refine ar hC hGL (aH ?_);intros;refine lp hC hGL (λk:Nat=>[(3,.str n),(28,.list 1 vs.length (aB vs)),(29,.int .i64 (vs.length:Int)),(30,.int .i64 (k:Int))]) (λ_=>[]) (λk=>k<=vs.length/\∀j,j<k->AR n (vs.getD j [])=true) (λk=>vs.length-k) 0 ⟨Nat.zero_le _,λj h=>absurd h (Uf _)⟩ ae rfl ?_;rintro k ⟨hk1,hk2⟩;by_cases hk:k<vs.length
 ·have hl:=h2 k;have ok2:=λh=>ok1 hk h hk2;have bad:AR n (vs.getD k [])=false->vs.all (AR n)=false:=wi hk;have hLR:=mM hM (vs.getD k []) hl;have hFI:=gM (G:=G) (dJ (vs.getD k [])).e (dJ (vs.getD k [])).p;have hCN:=uL hP (vs.getD k []) 100 b_;have hIS:=tM (G:=G) (vs.getD k []) a_;have hSP:=wV (G:=G) hM (vs.getD k []) 46 a_;have hCT:=λx=>uL hP x 999 (Nat.le_refl _);have hlE:=MO (vs.getD k []);have hpE:=Tq (vs.getD k []);have hd:AR n (vs.getD k [])=(if n=zR then(dJ (vs.getD k [])).isNone else if n=nPRE then im 100 (vs.getD k []) else if n=nTYP then isS (vs.getD k []) else if n=zQ then oX (vs.getD k []) else true):=by unfold AR;rfl
  cases ZM n with
  |one h=>
   have e:(if n=zR then(dJ (vs.getD k [])).isNone else if n=nPRE then im 100 (vs.getD k []) else if n=nTYP then isS (vs.getD k []) else if n=zQ then oX (vs.getD k []) else true)=true:=by rcases h with rfl|rfl|rfl|rfl<;>rfl
   have e:=ok2 (hd.trans e);rcases h with rfl|rfl|rfl|rfl
   all_goals
    refine aH ?_;intros;exact cQ (k+1) ⟨a_,e⟩ a_ ae rfl
  |lan h=>
   subst h;cases hc:(dJ (vs.getD k [])).isNone with
   |true=>
    rw[hc] at hlE;rw[<-hlE] at hFI;refine aH ?_;intros;exact cQ (k+1) ⟨a_,ok2 (by rw[hd];exact hc)⟩ a_ ae rfl
   |false=>
    rw[hc] at hlE;rw[<-hlE] at hFI;rw[bad (by rw[hd];exact hc)];exact bq
  |pre h=>
   subst h;cases hc:im 100 (vs.getD k []) with
   |true=>
    rw[hc] at hCN;refine aH ?_;intros;exact cQ (k+1) ⟨a_,ok2 (by rw[hd];exact hc)⟩ a_ ae rfl
   |false=>
    rw[hc] at hCN;rw[bad (by rw[hd];exact hc)];exact bq
  |typ h=>
   subst h;cases hc:isS (vs.getD k []) with
   |true=>
    rw[hc] at hIS;refine aH ?_;intros;exact cQ (k+1) ⟨a_,ok2 (by rw[hd];exact hc)⟩ a_ ae rfl
   |false=>
    rw[hc] at hIS;rw[bad (by rw[hd];exact hc)];exact bq
  |pid h=>
   subst h;have hln:=pP 46 (vs.getD k []);have hpd:Tr (bW 46 (vs.getD k []))=(decide ((bW 46 (vs.getD k [])).length<=2)&&(bW 46 (vs.getD k [])).all (im 999)):=by unfold Tr;rfl
   rw[hpE] at hpd;generalize bW 46 (vs.getD k [])=l at hln hpd hSP;refine aH ?_;intros;refine lp hC hGL (λj:Nat=>[(3,.str zQ),(6,.bool (decide (l.length<=2)&&(l.take j).all (im 999))),(28,.list 1 vs.length (aB vs)),(29,.int .i64 (vs.length:Int)),(30,.int .i64 (k:Int)),(55,.list 1 l.length (aB l)),(56,.int .i64 (l.length:Int)),(57,.int .i64 (j:Int))]) (λ_=>[]) (λj=>j<=l.length) (λj=>l.length-j) 0 (Nat.zero_le _) ⟨rfl,?_,rfl,rfl,rfl,rfl,rfl,rfl,trivial⟩ rfl ?_
   ·show Env.get _ 6=_;rw[aaa,List.all_nil,Bool.and_true];exact congrArg (λz=>some (AVal.bool z)) (by unfold nT;rw[<-decide_not];exact decide_eq_decide.2 a_)
   intro j hj;by_cases hjl:j<l.length
   ·have hC1:=hCT (l.getD j []);have e2:(l.take (j+1)).all (im 999)=((l.take j).all (im 999)&&im 999 (l.getD j [])):=by
     rw[x_ hjl,List.all_append,f_,y_ hjl];simp
    cases hb:(decide (l.length<=2)&&(l.take j).all (im 999)) with
    |true=>
     refine aH ?_;intros;refine cQ (j+1) a_ a_ ⟨rfl,?_,rfl,rfl,rfl,rfl,rfl,rfl,trivial⟩ rfl;rw[e2,<-Bool.and_assoc,hb];rfl
    |false=>
     refine aH ?_;intros;refine cQ (j+1) a_ a_ ⟨rfl,?_,rfl,rfl,rfl,rfl,rfl,rfl,trivial⟩ rfl;rw[e2,<-Bool.and_assoc,hb];rfl
   ·obtain rfl:j=l.length:=by omega
    rw[List.take_length,<-hpd];cases hc:oX (vs.getD k []) with
    |true=>
     refine aH ?_;intros;exact cQ (k+1) ⟨a_,ok2 (by rw[hd];exact hc)⟩ a_ ae rfl
    |false=>
     rw[bad (by rw[hd];exact hc)];exact bq
  |els h3 h4 h5 h6 h7 h8 h9 h10=>
   have e:=ok2 (by rw[hd,if_neg h7,if_neg h8,if_neg h9,if_neg h10]);refine aH ?_;intros;exact cQ (k+1) ⟨a_,e⟩ a_ ae rfl
 ·rw[zi λj hj=>hk2 j a_];exact bq
end
section
theorem Eb {t:Int}{l:List Pr}(h:eb u6 l 0= -1):rH t l=t:=by unfold rH;rw[h,if_pos (.inl b_)]
theorem Ar {t:Int}{l:List Pr}{k:Nat}(h:eb u6 l 0=(k:Int))(h2:(l.getD k Pr.z).vs.length=0):rH t l=t:=by unfold rH;rw[h,B_,if_pos (.inr h2)]
theorem Ec {t:Int}{l:List Pr}{k:Nat}(h:eb u6 l 0=(k:Int))(h2:(l.getD k Pr.z).vs.length≠0):rH t l=Yw t (am 65 90 32 ((l.getD k Pr.z).vs.getD 0 [])):=by unfold rH;rw[h,B_,if_neg (by rintro(h|h);omega;exact h2 h)]
attribute [local irreducible] bJ au aa ax aR ab ad am eb cC
theorem xo {G:Glo}(hS:qw G)(v:Int)(s:ω)(l:List Pr)(hs:s.length<=2000000)(hl:l.length<=9223372036854775807)(hn:∀k,(l.getD k Pr.z).n.length<=9223372036854775807)(hv:∀k,(l.getD k Pr.z).vs.length<=9223372036854775807/\((l.getD k Pr.z).vs.getD 0 []).length<=9223372036854775807):
  ai prog G 51 [.str s,.list 2 l.length (gg l),.int .i64 v] (.tuple [.int .i64 (jH v s l),(eX v).A]):=by
 have h1:=rZ (G:=G) hS v s hs;have h2:ai prog G 98 [.list 2 l.length (gg l),.str [86,65,76,85,69]] (.int .i64 (eb u6 l 0)):=xp (G:=G) l u6 hl hn b_;by_cases hver:v=3\/v=4
 ·have e2:eX v= .none:=by unfold eX;rw[if_pos hver]
  have e3:jH v s l=rH (cC v s).t l:=by unfold jH;rw[if_pos hver]
  rw[e2] at h1 ⊢;rw[e3];generalize cC v s=r at*
  simp only[Err.A,ls] at h1 ⊢;rcases pk u6 l 0 with hf|⟨k,hk,hf⟩
  ·rw[Eb hf];rw[hf] at h2;refine aw func51 call51 λC hC hGL=> ?_;refine xw ?_;repeat' first|exact .n|apply Lc.mk
   all_goals intros
   all_goals intros
   all_goals first
    |(apply aj;rfl)
    |(exfalso;omega)
  ·rw[Nat.zero_add] at hf;rw[hf] at h2;by_cases h0:(l.getD k Pr.z).vs.length=0
   ·rw[Ar hf h0];refine aw func51 call51 λC hC hGL=> ?_;refine xw ?_;repeat' first|exact .n|apply Lc.mk
    all_goals intros
    all_goals intros
    all_goals first
     |(apply aj;rfl)
     |(exfalso;omega)
     |trace_state
   ·rw[Ec hf h0];have h3:=Ir (G:=G) ((l.getD k Pr.z).vs.getD 0 []) (by have:=(hv k).2;omega);have h3:ai prog G 99 [aB (l.getD k Pr.z).vs 0] _:=h3;generalize am 65 90 32 ((l.getD k Pr.z).vs.getD 0 [])=x at*
    refine aw func51 call51 λC hC hGL=> ?_;refine xw ?_;repeat' first|exact .n|apply Lc.mk
    all_goals intros
    all_goals intros
    all_goals try (exfalso;omega)
    all_goals
     apply aj;refine congrArg (λz=>AVal.tuple [.int .i64 z,.raw .nilIface]) (Eq.symm ?_);clear h1 h2 h3 hn hv hf hC hGL;unfold Yw;simp[*]
 ·have e2:eX v= .errno 1:=by unfold eX;rw[if_neg hver]
  have e3:jH v s l=0:=by unfold jH;rw[if_neg hver]
  rw[e2] at h1 ⊢;rw[e3];simp only[Err.A,ls] at h1 ⊢;refine aw func51 call51 λC hC hGL=> ?_;refine xw ?_;repeat' first|exact .n|apply Lc.mk
  all_goals intros
  all_goals intros
  all_goals first
   |(apply aj;rfl)
   |(exfalso;omega)
theorem EV {G:Glo}(v:Int)(s:ω)(l:List Pr)(hs:s.length<=2000000)(hl:l.length<=9223372036854775807)(hn:∀k,(l.getD k Pr.z).n.length<=9223372036854775807)(hv:∀k,(l.getD k Pr.z).vs.length<=9223372036854775807/\((l.getD k Pr.z).vs.getD 0 []).length<=9223372036854775807):
  ai prog G 36 [.str s,.list 2 l.length (gg l),.int .i64 v] (.tuple [.int .i64 (jH v s l),.int .i64 (eX v).e]):=by
 have h1:=sf (G:=G) v s hs;have h2:ai prog G 73 [.list 2 l.length (gg l),.str [86,65,76,85,69]] (.int .i64 (eb u6 l 0)):=Pk (G:=G) l u6 hl hn b_;by_cases hver:v=3\/v=4
 ·have e2:eX v= .none:=by unfold eX;rw[if_pos hver]
  have e3:jH v s l=rH (cC v s).t l:=by unfold jH;rw[if_pos hver]
  rw[e2] at h1 ⊢;rw[e3];generalize cC v s=r at*
  simp only[Err.e] at h1 ⊢;rcases pk u6 l 0 with hf|⟨k,hk,hf⟩
  ·rw[Eb hf];rw[hf] at h2;refine aw func36 call36 λC hC hGL=> ?_;refine xw ?_;repeat' first|exact .n|apply Lc.mk
   all_goals intros
   all_goals intros
   all_goals first
    |(apply aj;rfl)
    |(exfalso;omega)
  ·rw[Nat.zero_add] at hf;rw[hf] at h2;by_cases h0:(l.getD k Pr.z).vs.length=0
   ·rw[Ar hf h0];refine aw func36 call36 λC hC hGL=> ?_;refine xw ?_;repeat' first|exact .n|apply Lc.mk
    all_goals intros
    all_goals intros
    all_goals first
     |(apply aj;rfl)
     |(exfalso;omega)
   ·rw[Ec hf h0];have h3:=pX (G:=G) ((l.getD k Pr.z).vs.getD 0 []) (by have:=(hv k).2;omega);have h3:ai prog G 23 [aB (l.getD k Pr.z).vs 0] _:=h3;generalize am 65 90 32 ((l.getD k Pr.z).vs.getD 0 [])=x at*
    refine aw func36 call36 λC hC hGL=> ?_;refine xn ?_;repeat' first|exact .n|apply Lc.mk
    all_goals intros
    all_goals intros
    all_goals try (exfalso;omega)
    all_goals
     apply aj;refine congrArg (λz=>AVal.tuple [.int .i64 z,.int .i64 0]) (Eq.symm ?_);clear h1 h2 h3 hn hv hf hC hGL;unfold Yw;simp[*]
 ·have e2:eX v= .errno 1:=by unfold eX;rw[if_neg hver]
  have e3:jH v s l=0:=by unfold jH;rw[if_neg hver]
  rw[e2] at h1 ⊢;rw[e3];simp only[Err.e] at h1 ⊢;refine aw func36 call36 λC hC hGL=> ?_;refine xw ?_;repeat' first|exact .n|apply Lc.mk
  all_goals intros
  all_goals intros
  all_goals first
   |(apply aj;rfl)
   |(exfalso;omega)
end
section
theorem qo {G:Glo}(s:ω)(c:UInt8):ai prog G 224 [.str s,.str [c]] (.int .i64 (s.countP (· ==c):Nat)):=by
 refine bO rfl call224 ?_;rintro R args ⟨x,t,e,hx,y,t',e',hy,rfl⟩ w hG hs;obtain rfl:=aD.1 hx;obtain rfl:=aD.1 hy;subst e';obtain rfl:=fR e;refine(strings_Count_one ⟨s.toArray⟩ c w).mono ?_;rintro e w' ⟨rfl,rfl⟩;exact⟨by simp[AVal.conc,Lib.countByte,List.count],Below.refl _ _⟩
end
section
abbrev Y8:List AVal:=[.str [94],.str [94,94],.str [10],.str [94,110],.str [34],.str [94,39]]
set_option maxRecDepth 20000 in
theorem SS (a b c t x:AVal):(rL 34 10 94 a b c t).set 34 x=rL 34 10 94 x b c t:=rfl
set_option maxRecDepth 20000 in
theorem ST (a b c t x:AVal):(rL 34 10 94 a b c t).set 10 x=rL 34 10 94 a x c t:=rfl
set_option maxRecDepth 20000 in
theorem SR (a b c t x:AVal):(rL 34 10 94 a b c t).set 94 x=rL 34 10 94 a b x t:=rfl
set_option maxRecDepth 20000 in
theorem OO (a b c t x:AVal):(rL 34 10 94 a b c t).set 256 x=rL 34 10 94 a b c x:=rfl
abbrev Xq (i:Nat):AVal:=.str [([34,10,94]:ω).getD i 0]
theorem Uk:U1 encF [34,10,94] (rL 34 10 94 (.list 1 2 (kX [94,39])) (.list 1 2 (kX [94,110])) (.list 1 2 (kX [94,94])) (.list 1 3 Xq)):=by
 refine⟨λc hc=> ?_,λc hc=> ?_,Eh ..,b_⟩
 ·rw[oJ c.toNat_lt];simp only[p_,t_,or_false] at hc;rcases hc with rfl|rfl|rfl
  all_goals exact⟨rfl,rfl⟩
 ·rw[oJ c.toNat_lt];simp only[p_,t_,or_false,not_or] at hc;have h:∀k:UInt8,c≠k->c.toNat≠k.toNat:=λk hk e=>hk (UInt8.toNat_inj.1 e);have h1:c.toNat≠34:=h 34 hc.1;have h2:c.toNat≠10:=h 10 hc.2.1;have h3:c.toNat≠94:=h 94 hc.2.2;exact⟨by rw[if_neg h3,if_neg h2,if_neg h1],Gq h3 h2 h1⟩
theorem Q2 (s:ω):fX s=s.flatMap encF:=rfl
attribute [local irreducible] bJ au aa ax aR ab ad rL encF fX
theorem JE {G:Glo}:G9 G 6 Y8 encF [34,10,94]:=λbr bl vc=>by
 refine Gf (Nz (G:=G) br bl vc) ?_;rintro r H ⟨va,vk,vt,bz,b1,c1,b2,c2,b3,c3,hva,rfl,rfl⟩;intro C R w e hm he;obtain⟨r2,H2,R2,⟨e1,e2⟩,h2,h3⟩:=wM (a':=.rop (rL 34 10 94 (.list 1 2 (kX [94,39])) (.list 1 2 (kX [94,110])) (.list 1 2 (kX [94,94])) (.list 1 3 Xq)) 0) (H':=[RN br 6 vc Y8,.cells bl (some 324) (Yh br 6 vc)])
  (λC=>ak (lH (i:=6) (k:=3) (p:=94) rfl rfl λR hr=>jA (SR ..) (oJ b_) λ_=>ck hr)
   (ak (lH (i:=5) (k:=3) (p:=10) rfl rfl λR hr=>jA (ST ..) (oJ b_) λ_=>ck hr)
   (ak (lH (i:=4) (k:=3) (p:=34) rfl rfl λR hr=>jA (SS ..) (oJ b_) λ_=>ck hr)
   (ak (ji (i:=2) (k:=2) (p:=256) Xq rfl rfl (λj hj=>by rcases(show j=0\/j=1\/j=2 by omega) with rfl|rfl|rfl<;>exact⟨rfl,rfl⟩) λR hr=>jA (OO ..) (Eh ..) λ_=>ck hr)
   (ak (az (i:=2) (k:=0) rfl rfl) (bi ae aA)))))) C R w e hm he
 exact⟨r2,H2,R2,⟨_,Uk,e1,e2⟩,h2,h3⟩
theorem sZ {G:Glo}(s:ω)(hl:s.length<=2000000)(hct:∀c,ai prog G 224 [.str s,.str [c]] (.int .i64 (s.countP (· ==c):Nat))):ai prog G 169 [.str s] (.str (fX s)):=by
 refine aw func169 call169 λC hC hGL=> ?_;refine an ?_;intros;refine⟨_,kW 6 _ b_ b_ ?_,?_,?_⟩
 ·unfold ax;exact lz rfl
 ·rintro v H' ⟨bl,va,vk,vc,hva,e,rfl⟩;cases e;obtain⟨br,rfl,rfl⟩:=hva a_;have e2:=uK (JE (G:=G)) b_ br bl vc s a_ hct;rw[<-Q2] at e2;refine an ?_;intros;refine Do e2 ?_;exact eK
 ·rintro v H' ⟨bl,va,vk,vc,hva,e,rfl⟩;cases e
end
section
attribute [local irreducible] bJ au aa ax aR ab ad iJ fo dm isS kO fX
theorem rk {G:Glo}(s:ω)(hl:s.length<=9223372036854775807):ai prog G 163 [.str s] (.bool (fo false s)):=by
 have hB:=BV (G:=G) s hl;have k1:=λi (_:0<=(aa s i:Int))=>nW (G:=G) (aa s i);refine aw func163 call163 λC hC hGL=> ?_;refine aH ?_;refine lp hC hGL (λi:Nat=>[(0,.str s),(5,.int .i64 (s.length:Nat)),(6,.int .i64 (i:Nat))]) (λ_=>[]) (λi=>i<=s.length/\∀j,j<i->iJ false (aa s j:Int)=false) (λi=>s.length-i) 0 ?_ ae rfl ?_
 ·exact⟨Nat.zero_le _,λj h=>absurd h (Uf _)⟩
 rintro i ⟨h1,h2⟩;refine xw ?_;repeat' first|exact .n|apply Lc.mk
 all_goals intros
 all_goals first
  |(apply aj;rw[QB (i:=i) a_ (by assumption) h2];rfl)
  |(refine cQ (i+1) ⟨a_,dj h2 (by assumption)⟩ a_ ae rfl)
  |(apply aj;rw[La (i:=i) a_ h2])
theorem rl {G:Glo}(s:ω)(c:Bool)(hl:s.length<=2000000):ai prog G 162 [.str s,.bool c] (.bool (kO c s)):=by
 have hq:=λt=>aK (G:=G) t 34 b_ b_;cases c with
 |true=>
  have hE:=sZ (G:=G) s hl (qo _);have hC1:=rk (G:=G) (fX s) (by have:=(sO s).2;omega);have hq1:=hq (fX s);have e:kO true s=(fo false (fX s)&&decide (aS (fX s) 34<0)):=by unfold kO ru;rfl
  rw[e];refine aw func162 call162 λC hC hGL=> ?_;refine xw ?_;repeat' first|exact .n|apply Lc.mk
  all_goals intros
  all_goals (apply aj;refine congrArg AVal.bool ?_;rw[show fo false (fX s)=_ by assumption])
  all_goals (rw[w_];simp[oo])
 |false=>
  have hC1:=rk (G:=G) s a_;have hq1:=hq s;have e:kO false s=(fo false s&&decide (aS s 34<0)):=by unfold kO ru;rfl
  rw[e];refine aw func162 call162 λC hC hGL=> ?_;refine xw ?_;repeat' first|exact .n|apply Lc.mk
  all_goals intros
  all_goals (apply aj;refine congrArg AVal.bool ?_;rw[show fo false s=_ by assumption])
  all_goals (rw[w_];simp[oo])
theorem yf {G:Glo}(p:Ln)(c:Bool)(ho:p.Fit):ai prog G 111 [p.A,.bool c] (p.E c).A:=by
  have n1:=p8 (G:=G) p.n (by have:=ho.n;omega);have n2:=p8 (G:=G) p.g (by have:=ho.g;omega);have hv:=rk (G:=G) p.v (by have:=ho.v;omega);have hps:=ho.ps;refine aw func111 call111 λC hC hGL=> ?_;refine xw ?_;repeat' first|exact .n|apply Lc.mk
  all_goals intros
  all_goals try (apply aj;first|(rw[Ln.E_5 (.inl (by assumption))];rfl)|(rw[Ln.E_5 (.inr ⟨by assumption,by assumption⟩)];rfl)|(rw[Ln.E_4 (by assumption) (.inl (by assumption)) a_];rfl)|(rw[Ln.E_4 (by assumption) (.inr (by assumption)) a_];rfl))
  all_goals
    have q1:isS p.n=true:=by assumption
    have q2:p.g.length=0\/isS p.g=true:=by first|exact .inl (by assumption)|exact .inr (by assumption)
    have q3:p.ps.length<=20:=by omega
    refine lp hC hGL (λk:Nat=>[(1,.bool c),(2,.rop [.str p.g,.str p.n,.list 2 p.ps.length (gg p.ps),.str p.v] 0),(34,.list 2 p.ps.length (gg p.ps)),(35,.int .i64 (p.ps.length:Nat)),(36,.int .i64 (k:Nat))]) (λ_=>[]) (λk=>k<=p.ps.length/\∀j,j<k->tO c (p.ps.getD j Pr.z)=0) (λk=>p.ps.length-k) 0 ?_ ae rfl ?_
    · exact⟨Nat.zero_le _,λj h=>absurd h (Uf _)⟩
    rintro k ⟨h1,h2⟩;have hq:=ho.q k;have n3:=p8 (G:=G) (p.ps.getD k Pr.z).n a_;by_cases hk:k<p.ps.length
    · cases hn:isS (p.ps.getD k Pr.z).n with
      | false=>
        rw[hn] at n3;refine xw ?_;repeat' first|exact .n|apply Lc.mk
        all_goals intros
        · refine lp hC hGL (λx:Nat×Int=>[(1,.bool c),(2,.rop [.str p.g,.str p.n,.list 2 p.ps.length (gg p.ps),.str p.v] 0),(5,.int .i64 (k:Nat)),(7,.int .i64 x.2),(34,.list 2 p.ps.length (gg p.ps)),(35,.int .i64 (p.ps.length:Nat)),(36,.int .i64 (k:Nat)),(52,.list 1 (p.ps.getD k Pr.z).vs.length (aB (p.ps.getD k Pr.z).vs)),(53,.int .i64 ((p.ps.getD k Pr.z).vs.length:Nat)),(54,.int .i64 (x.1:Nat))]) (λ_=>[.cells _ (some 69) [.str (p.ps.getD k Pr.z).n,.list 1 (p.ps.getD k Pr.z).vs.length (aB (p.ps.getD k Pr.z).vs)]]) (λx=>x.1<=(p.ps.getD k Pr.z).vs.length/\Sk c (p.ps.getD k Pr.z) x.1 x.2) (λx=>(p.ps.getD k Pr.z).vs.length-x.1) (0,5) ?_ ae rfl ?_
          · exact⟨Nat.zero_le _,.inl ⟨hn,rfl⟩⟩
          rintro⟨j,e⟩ ⟨g1,g2⟩;dsimp only at g1 g2;have hj:=rl (G:=G) ((p.ps.getD k Pr.z).vs.getD j []) c (by have:=iA (l:=(p.ps.getD k Pr.z).vs) (k:=j);omega);refine xw ?_;repeat' first|exact .n|apply Lc.mk
          all_goals intros
          all_goals try dsimp only at*
          all_goals first
            |exact cQ (j+1,e) ⟨by dsimp only;omega,xL g2 (by assumption)⟩ (by dsimp only;omega) ae rfl
            |exact cQ (j+1,e) ⟨by dsimp only;omega,Ii g2 (by assumption) (by assumption)⟩ (by dsimp only;omega) ae rfl
            |exact cQ (j+1,3) ⟨by dsimp only;omega,CI g2 (by assumption) a_ (by assumption)⟩ (by dsimp only;omega) ae rfl
            |exact fG (k+1) ⟨a_,bL h2 ((p4 g2 a_).symm.trans (by assumption))⟩ a_ ae aA
            | (apply aj
               have e1:=p4 g2 a_
               rw[Ln.E_at q1 q2 q3 a_ h2 (by rw[<-e1];assumption),<-e1]
               rfl)
      | true=>
        rw[hn] at n3;by_cases hz:(p.ps.getD k Pr.z).vs.length=0
        · refine xw ?_;repeat' first|exact .n|apply Lc.mk
          all_goals intros
          · refine lp hC hGL (λx:Nat×Int=>[(1,.bool c),(2,.rop [.str p.g,.str p.n,.list 2 p.ps.length (gg p.ps),.str p.v] 0),(5,.int .i64 (k:Nat)),(7,.int .i64 x.2),(34,.list 2 p.ps.length (gg p.ps)),(35,.int .i64 (p.ps.length:Nat)),(36,.int .i64 (k:Nat)),(52,.list 1 (p.ps.getD k Pr.z).vs.length (aB (p.ps.getD k Pr.z).vs)),(53,.int .i64 ((p.ps.getD k Pr.z).vs.length:Nat)),(54,.int .i64 (x.1:Nat))]) (λ_=>[.cells _ (some 69) [.str (p.ps.getD k Pr.z).n,.list 1 (p.ps.getD k Pr.z).vs.length (aB (p.ps.getD k Pr.z).vs)]]) (λx=>x.1<=(p.ps.getD k Pr.z).vs.length/\Sk c (p.ps.getD k Pr.z) x.1 x.2) (λx=>(p.ps.getD k Pr.z).vs.length-x.1) (0,8) ?_ ae rfl ?_
            · exact⟨Nat.zero_le _,.inr (.inl ⟨hn,hz,rfl⟩)⟩
            rintro⟨j,e⟩ ⟨g1,g2⟩;dsimp only at g1 g2;have hj:=rl (G:=G) ((p.ps.getD k Pr.z).vs.getD j []) c (by have:=iA (l:=(p.ps.getD k Pr.z).vs) (k:=j);omega);refine xw ?_;repeat' first|exact .n|apply Lc.mk
            all_goals intros
            all_goals try dsimp only at*
            all_goals first
              |exact cQ (j+1,e) ⟨by dsimp only;omega,xL g2 (by assumption)⟩ (by dsimp only;omega) ae rfl
              |exact cQ (j+1,e) ⟨by dsimp only;omega,Ii g2 (by assumption) (by assumption)⟩ (by dsimp only;omega) ae rfl
              |exact cQ (j+1,3) ⟨by dsimp only;omega,CI g2 (by assumption) a_ (by assumption)⟩ (by dsimp only;omega) ae rfl
              |exact fG (k+1) ⟨a_,bL h2 ((p4 g2 a_).symm.trans (by assumption))⟩ a_ ae aA
              | (apply aj
                 have e1:=p4 g2 a_
                 rw[Ln.E_at q1 q2 q3 a_ h2 (by rw[<-e1];assumption),<-e1]
                 rfl)
        · refine xw ?_;repeat' first|exact .n|apply Lc.mk
          all_goals intros
          · refine lp hC hGL (λx:Nat×Int=>[(1,.bool c),(2,.rop [.str p.g,.str p.n,.list 2 p.ps.length (gg p.ps),.str p.v] 0),(5,.int .i64 (k:Nat)),(7,.int .i64 x.2),(34,.list 2 p.ps.length (gg p.ps)),(35,.int .i64 (p.ps.length:Nat)),(36,.int .i64 (k:Nat)),(52,.list 1 (p.ps.getD k Pr.z).vs.length (aB (p.ps.getD k Pr.z).vs)),(53,.int .i64 ((p.ps.getD k Pr.z).vs.length:Nat)),(54,.int .i64 (x.1:Nat))]) (λ_=>[.cells _ (some 69) [.str (p.ps.getD k Pr.z).n,.list 1 (p.ps.getD k Pr.z).vs.length (aB (p.ps.getD k Pr.z).vs)]]) (λx=>x.1<=(p.ps.getD k Pr.z).vs.length/\Sk c (p.ps.getD k Pr.z) x.1 x.2) (λx=>(p.ps.getD k Pr.z).vs.length-x.1) (0,0) ?_ ae rfl ?_
            · exact⟨Nat.zero_le _,.inr (.inr ⟨hn,hz,.inl ⟨rfl,λi hi=>absurd hi (Uf _)⟩⟩)⟩
            rintro⟨j,e⟩ ⟨g1,g2⟩;dsimp only at g1 g2;have hj:=rl (G:=G) ((p.ps.getD k Pr.z).vs.getD j []) c (by have:=iA (l:=(p.ps.getD k Pr.z).vs) (k:=j);omega);refine xw ?_;repeat' first|exact .n|apply Lc.mk
            all_goals intros
            all_goals try dsimp only at*
            all_goals first
              |exact cQ (j+1,e) ⟨by dsimp only;omega,xL g2 (by assumption)⟩ (by dsimp only;omega) ae rfl
              |exact cQ (j+1,e) ⟨by dsimp only;omega,Ii g2 (by assumption) (by assumption)⟩ (by dsimp only;omega) ae rfl
              |exact cQ (j+1,3) ⟨by dsimp only;omega,CI g2 (by assumption) a_ (by assumption)⟩ (by dsimp only;omega) ae rfl
              |exact fG (k+1) ⟨a_,bL h2 ((p4 g2 a_).symm.trans (by assumption))⟩ a_ ae aA
              | (apply aj
                 have e1:=p4 g2 a_
                 rw[Ln.E_at q1 q2 q3 a_ h2 (by rw[<-e1];assumption),<-e1]
                 rfl)
    · refine xw ?_;repeat' first|exact .n|apply Lc.mk
      all_goals intros
      all_goals (apply aj;first|(rw[Ln.E_3 q1 q2 q3 a_ h2 (by assumption)];rfl)|(rw[Ln.E_0 q1 q2 q3 a_ h2 (by assumption)];rfl))
end
section
def Sf (G:Glo)(cs:ω):Prop:=∀r:Int,nS r=true->∃z:Int,ai prog G 42 [.str cs,.int .i32 r] (.int .i64 z)/\(0<=z↔∃x∈cs,r=x.toNat)
theorem C6 {cs:ω}(x:UInt8):cs.contains x=true↔∃y∈cs,(x.toNat:Int)=y.toNat:=by
 rw[List.contains_iff_exists_mem_beq];exact⟨λ⟨y,h,e⟩=>⟨y,h,by rw[beq_iff_eq.1 e]⟩,λ⟨y,h,e⟩=>⟨y,h,beq_iff_eq.2 (UInt8.toNat_inj.1 a_)⟩⟩
theorem TZ {cs:ω}{x:UInt8}(h:¬ ∃y∈cs,(x.toNat:Int)=y.toNat):cs.contains x=false:=by
 cases hc:cs.contains x with
 |false=>rfl
 |true=>exact absurd ((C6 x).1 hc) h
theorem Nb {r:Int}(h1:128<=r)(hv:nS r=true):(∃x y:UInt8,(Utf8.encode r).data.toList=[x,y]/\128<=y.toNat)\/(∃x y z:UInt8,(Utf8.encode r).data.toList=[x,y,z]/\128<=z.toNat)\/(∃x y z u:UInt8,(Utf8.encode r).data.toList=[x,y,z,u]/\128<=u.toNat):=by
 rw[nR] at hv;rw[Lk hv];have hb:∀k:Nat,128<=((UInt8.ofNat (128+k%64)).toNat):=by
  intro k;have e:128+k%64<256:=by omega
  rw[UInt8.toNat_ofNat_of_lt' (by simpa using e)];omega
 split
 ·omega
 ·split
  ·exact .inl ⟨_,_,rfl,hb _⟩
  ·split
   ·exact .inr (.inl ⟨_,_,_,rfl,hb _⟩)
   ·exact .inr (.inr ⟨_,_,_,_,rfl,hb _⟩)
theorem ko {a b c:UInt8}:aa [a,b,c] 0=a.toNat/\aa [a,b,c] 1=b.toNat/\aa [a,b,c] 2=c.toNat:=⟨rfl,rfl,rfl⟩
attribute [local irreducible] bJ au aa ax aR ab ad aC dm kY eY fw gp nS
theorem Kd {a b c x y:UInt8}{p:Prop}(hb:b.toNat<128)(hc:c.toNat<128)(hy:128<=y.toNat)(h:(aa [a,b,c] 1:Int)=(aa [x,y] 1:Int)):p:=by
 rw[ko.2.1,SC] at h;omega
theorem EI {a b c x y z:UInt8}{p:Prop}(hb:b.toNat<128)(hc:c.toNat<128)(hy:128<=z.toNat)(h:(aa [a,b,c] 2:Int)=(aa [x,y,z] 2:Int)):p:=by
 rw[ko.2.2,ko.2.2] at h;omega
theorem zV {G:Glo}{a b c:UInt8}(ha:a.toNat<128)(hb':b.toNat<128)(hc':c.toNat<128)(r:Int)(h1:128<=r)(hv:nS r=true)(hne:r≠65533):ai prog G 42 [.str [a,b,c],.int .i32 r] (.int .i64 (-1)):=by
 have hV:=wJ (G:=G) r;rw[hv] at hV;obtain⟨g0,g1,g2⟩:=ko (a:=a) (b:=b) (c:=c);have hix:∀q:Int,128<=q->q<=255->ai prog G 32 [.str [c],.int .u8 q] (.int .i64 (-1)):=λq h0 h1=>by
  have:=aK (G:=G) [c] q a_ h1;rwa [show aS [c] q= -1 by unfold aS;simp only[kE];split<;>omega] at this
 have hix0:∀q:Int,0<=q->q<=255->ai prog G 32 [.str [],.int .u8 q] (.int .i64 (-1)):=λq h0 h1=>aK [] q h0 h1;have hcall:=call32;rcases Nb h1 hv with⟨x,y,he,hy⟩|⟨x,y,z,he,hy⟩|⟨x,y,z,u,he,hy⟩
 ·have f1:aa [x,y] 1=y.toNat:=SC;have e1:aa [a,b,c] ([x,y].length-Nat.succ 0)=b.toNat:=ko.2.1;have e2:aa [x,y] ([x,y].length-Nat.succ 0)=y.toNat:=SC;have f2:=hix (aa [x,y] 1) a_ (by have:=bB [x,y] 1;omega);refine aw func42 call42 λC hC hGL=> ?_;refine aH ?_;intros;apply mc hC hGL;refine aH ?_;intros;refine aY hC hGL (vM rfl rfl rfl rfl) rfl rfl ?_;rw[he];refine aH ?_;intros;refine rds hC hGL 1 ?_;refine xw ?_;repeat' first|exact .n|apply Lc.mk
  all_goals intros
  all_goals first|(rename_i hb;exact Kd hb' hc' hy hb)|skip
  apply mc hC hGL;refine xw ?_;repeat' first|exact .n|apply Lc.mk
  all_goals intros
  all_goals first|(rename_i hb;exact Kd hb' hc' hy hb)|skip
 ·have f1:aa [x,y,z] 2=z.toNat:=ko.2.2;have e1:aa [a,b,c] ([x,y,z].length-Nat.succ 0)=c.toNat:=ko.2.2;have e2:aa [x,y,z] ([x,y,z].length-Nat.succ 0)=z.toNat:=ko.2.2;have f2:=hix0 (aa [x,y,z] 2) a_ (by have:=bB [x,y,z] 2;omega);refine aw func42 call42 λC hC hGL=> ?_;refine aH ?_;intros;apply mc hC hGL;refine aH ?_;intros;refine aY hC hGL (vM rfl rfl rfl rfl) rfl rfl ?_;rw[he];refine aH ?_;intros;refine rds hC hGL 1 ?_;refine xw ?_;repeat' first|exact .n|apply Lc.mk
  all_goals intros
  all_goals first|(rename_i hb;exact EI hb' hc' hy hb)|skip
  apply mc hC hGL;refine xw ?_;repeat' first|exact .n|apply Lc.mk
  all_goals intros
  all_goals first|(rename_i hb;exact EI hb' hc' hy hb)|skip
 ·refine aw func42 call42 λC hC hGL=> ?_;refine aH ?_;intros;apply mc hC hGL;refine aH ?_;intros;refine aY hC hGL (vM rfl rfl rfl rfl) rfl rfl ?_;rw[he];refine aH ?_;intros;refine rds hC hGL 1 ?_;exact bq
theorem yw {G:Glo}{a b c:UInt8}(ha:a.toNat<128)(hb':b.toNat<128)(hc':c.toNat<128):ai prog G 42 [.str [a,b,c],.int .i32 65533] (.int .i64 (-1)):=by
 refine aw func42 call42 λC hC hGL=> ?_;refine aH ?_;intros;refine rds hC hGL 4 ?_;refine xw ?_;repeat' first|exact .n|apply Lc.mk
 all_goals intros
 all_goals (
  exfalso
  have f1:=q6 (x:=a) (t:=[b,c]) ha
  have f2:=q6 (x:=b) (t:=[c]) hb'
  have f3:=q6 (x:=c) (t:=[]) hc'
  simp only[aa_,f1,f2,f3,Nat.zero_add,aab,j_,E_] at*
  omega)
theorem zU {G:Glo}{a b c:UInt8}(r:Int)(h0:0<=r)(h1:r<128):ai prog G 42 [.str [a,b,c],.int .i32 r] (.int .i64 (aS [a,b,c] r)):=by
 refine aw func42 call42 λC hC hGL=> ?_;have hI:=aK (G:=G) [a,b,c] r h0 a_;exact bq
theorem NL {G:Glo}{a b c:UInt8}(ha:a.toNat<128)(hb':b.toNat<128)(hc':c.toNat<128):Sf G [a,b,c]:=by
 intro r hv;have hm:=hv;rw[nR] at hm;have key:128<=r->¬ ∃x∈[a,b,c],r=x.toNat:=by
  rintro h ⟨x,hx,e⟩;simp only[p_,t_,or_false] at hx;rcases hx with rfl|rfl|rfl<;>omega
 by_cases h1:r<128
 ·exact⟨_,zU r hm.1 h1,uh r⟩
 ·by_cases h2:r=65533
  ·subst h2;exact⟨-1,yw ha hb' hc',a_,λh=>absurd h (key a_)⟩
  ·exact⟨-1,zV ha hb' hc' r a_ hv h2,a_,λh=>absurd h (key a_)⟩
theorem vw {G:Glo}{cs:ω}(hA:Sf G cs)(hlo:∀c∈cs,c.toNat<128)(hc2:2<=cs.length)(hc9:cs.length<=1000)(s:ω)(hl:s.length<=8):ai prog G 26 [.str s,.str cs] (.int .i64 (Lib.indexAny s cs)):=by
 refine aw func26 call26 λC hC hGL=> ?_;have hS:=w9 (G:=G) s.length;repeat' (first|(conv=>whnf);first|refine .w ?_|refine .v ?_|refine ez ?_ ?_<;>(intro hb;try exact dd hb)|apply aT|apply bP|(apply cR<;>intro hb)|(apply cX;intro hbd)|(apply bG;exact hS)|(apply aV (i:=0) rfl;exact hS)|(apply cY;intro bl)|(apply dv;intro va vk vc hva)|(apply du;intro v)|(apply dw;intro bl cap hcap)|apply dP|(apply dq<;>intro hnx)|apply ef mixed hC hGL be|(apply cq;assumption;exact hS;exact rfl)|(show Rt _ _ _;exact cP)|fail)
 all_goals try conv=>whnf
 refine lp hC hGL (λ(i:Nat)=>[(1,.str cs),(45,.own 0 (.pointer (some ⟨bl,0,none⟩)))]) (λi=>[.iter bl s i]) (λi=>i<=s.length/\Lib.NoAny s cs i) (λi=>s.length-i) 0 ?_ ae rfl ?_
 ·exact⟨Nat.zero_le _,Lib.NoAny.zero _ _⟩
 rintro i ⟨hi,hno⟩;have hz:=λ(h:i<s.length)=>tD (s.drop i) (by rw[k_];omega);have hR:∃z:Int,i<s.length->ai prog G 42 [.str cs,.int .i32 (fw (s.drop i))] (.int .i64 z)/\(0<=z↔∃x∈cs,(fw (s.drop i):Int)=x.toNat):=by
  by_cases h:i<s.length
  ·obtain⟨z,h1,h2⟩:=hA (fw (s.drop i)) (hz h).1;exact⟨z,λ_=>⟨h1,h2⟩⟩
  ·exact⟨0,λh'=>absurd h' h⟩
 obtain⟨z,hR⟩:=hR;repeat' (first|(conv=>whnf);first|refine .w ?_|refine .v ?_|refine ez ?_ ?_<;>(intro hb;try exact dd hb)|apply aT|apply bP|(apply cR<;>intro hb)|(apply cX;intro hbd)|(apply bG;first|exact(hR a_).1)|(apply aV (i:=0) rfl;first|exact(hR a_).1)|(apply cY;intro bl)|(apply dv;intro va vk vc hva)|(apply du;intro v)|(apply dw;intro bl cap hcap)|apply dP|(apply dq<;>intro hnx)|apply ef mixed hC hGL be|(apply cq;assumption;(first|exact(hR a_).1);exact rfl)|(show Rt _ _ _;exact cP)|fail)
 all_goals try conv=>whnf
 ·obtain⟨z1,z2,z3,z4,z5⟩:=hz hnx;obtain⟨y,hy,hr⟩:=(hR hnx).2.1 hb;have hy':=hlo y hy;have h1:=z4 a_;have hx:s[i]? =some s[i]:=y_ hnx;have h2:=dl hx;rw[ct,Nat.add_zero] at h1;refine aj ?_;rw[Lib.indexAny_hit hno hx ((C6 _).2 ⟨y,hy,a_⟩)]
 ·obtain⟨z1,z2,z3,z4,z5⟩:=hz hnx;rw[k_] at z3;have hr:¬ ∃x∈cs,(fw (s.drop i):Int)=x.toNat:=λh=>by have:=(hR hnx).2.2 h;omega
  refine cQ (i+eY (s.drop i)) ⟨a_,?_⟩ a_ ⟨rfl,rfl,trivial⟩ rfl;intro j x hj hx;by_cases h:j<i
  ·exact hno j x h hx
  ·have h2:=dl hx;refine TZ λ⟨y,hy,e⟩=> ?_;have hy':=hlo y hy;by_cases h128:(fw (s.drop i):Int)<128
   ·have h3:=z4 h128;rw[ct,Nat.add_zero] at h3;have:j=i:=by omega
    subst this;exact hr ⟨y,hy,a_⟩
   ·have h3:=z5 a_ (j-i) a_;rw[ct,show i+(j-i)=j by omega] at h3;omega
 ·have:i=s.length:=by omega
  subst this;refine aj ?_;rw[Lib.indexAny_none hno];rfl
theorem yy {G:Glo}{cs:ω}(hlo:∀c∈cs,c.toNat<128)(hc2:2<=cs.length)(hc9:cs.length<=1000)(s:ω)(h8:8<s.length)(hl:s.length<4294967281):ai prog G 26 [.str s,.str cs] (.int .i64 (Lib.indexAny s cs)):=by
 refine bO rfl call26 ?_;rintro R args ⟨x,t,e,hx,y,t',e',hy,rfl⟩ w _ _;obtain rfl:=aD.1 hx;obtain rfl:=aD.1 hy;subst e';obtain rfl:=fR e;refine(strings_IndexAny_long (λw=>by kernel_rfl) ⟨s.toArray⟩ ⟨cs.toArray⟩ w (by rw[bM];omega) (by rw[bM];exact h8) (by rw[bM];omega) (by rw[bM];omega) ?_).mono ?_
 ·intro j x hx;exact hlo x (q_ (by simpa using hx))
 ·rintro e w' ⟨rfl,rfl⟩;exact⟨by simp[AVal.conc],((Below.refl w.heap.size w).alloc (Nat.le_refl _) _).alloc (by show w.heap.size<=(w.heap.push _).size;simp) _⟩
theorem IU {G:Glo}{cs:ω}(hA:Sf G cs)(hlo:∀c∈cs,c.toNat<128)(hc2:2<=cs.length)(hc9:cs.length<=1000)(s:ω)(hl:s.length<4294967281):ai prog G 26 [.str s,.str cs] (.int .i64 (Lib.indexAny s cs)):=by
 by_cases h:s.length<=8
 ·exact vw hA hlo hc2 hc9 s h
 ·exact yy hlo hc2 hc9 s a_ hl
end
section
attribute [local irreducible] bJ au aa ax aR ab ad
abbrev gz:Value:=.slice none 0 0
theorem Jp {P:Program}[Tab P]{G:Glo}{f:FuncId}{avs:List AVal}{H:Heap}{K Kp:AVal->Heap->Prop}{i j b:Nat}{p v p' v':Value}{y y':HEnt}{r:AVal}(hi:H[i]? =some (cm b p j v))(hj:H[j]? =some y)(hne:i≠j)
  (hs:ad P G f avs [cm b p 1 v,y] (λx H=>x= .ret r/\H=[cm b p' 1 v',y']))
  (k:eD ((H.set i (cm b p' j v')).set j y') (K r)):Cx P G f avs H K Kp:=by
 obtain⟨rest,hp,hp2⟩:=wK hne hi hj;have h1:ad P G f avs [cm b p j v,y] (λx H=>x= .ret r/\H=[cm b p' j v',y']):=by
  refine Dg hs ?_;rintro x H' ⟨rfl,rfl⟩;exact⟨_,⟨rfl,rfl⟩,λC R w h=>CR j h⟩
 refine⟨λx H'=>x= .ret r/\H'=(H.set i (cm b p' j v')).set j y',iE (iD (H1:=[cm b p j v,y]++rest) hp.symm (dO rest h1)) ?_,?_,?_⟩
 ·rintro x H' ⟨H1',⟨rfl,rfl⟩,rfl⟩;exact⟨_,(hp2 _ _).symm,rfl,rfl⟩
 ·rintro v' H' ⟨e,rfl⟩;cases e;rw[bA] at k;exact k
 ·rintro v' H' ⟨e,rfl⟩;cases e
theorem s3 {G:Glo}{b:Nat}{p v:Value}(s:ω)(hlen:s.length<=137438953472):ad prog G 61 [.raw (db b)] [cm b p 1 v,fH v s] (λr H=>r= .ret (.str s)/\H=[cm b p 1 v,fH gz []]):=
 vX (λ_=>Iff.rfl) (λ_ _ _ h=>h) (s4 s hlen) λr H' ⟨e,eH⟩=>⟨_,⟨e,rfl⟩,λ_ _ _ h=>by
  rw[eH] at h;exact(h.ghost (eT:=some 5) 1).perm (List.Perm.swap _ _ _)⟩
theorem TL {P:Program}[Tab P]{C:Ctx}{n:Nat}{env:Env}{H:Heap}{Q:aL->Env->Heap->Prop}{c:Code}(i:Nat){b:Nat}(hi:H[i]? =some (.cells b (some 135) [.raw (.pointer none),.raw (.slice none 0 0)]))
  (h:Lp P C n c env (H.set i (cm b (.pointer none) H.length (.slice none 0 0))++[fH (.slice none 0 0) []]) Q):Lp P C n c env H Q:=by
 refine⟨oe (eT:=some 5) 1 ?_⟩;have h:=h.h;unfold bJ at h ⊢;intro R a w hm hf;obtain⟨Cs,e,fz,hb,hl,hr⟩:=hm.heap.holds (.cells b (some 135) [.raw (.pointer none),.raw (.slice none 0 0)]) (List.mem_cons_of_mem _ (q_ hi));obtain⟨v1,t1,e1,r1,v2,t2,e2,r2,e3⟩:=hl;have r2':bI R (.own H.length (.slice none 0 0)) [v2]:=by
  have:v2= .slice none 0 0:=by simpa[bI,Value.cells] using r2
  subst this;simp[bI,dc]
 have h1:=hm.swap (i:=i+1) (x:=.cells b (some 135) [.raw (.pointer none),.raw (.slice none 0 0)]) (y:=cm b (.pointer none) H.length (.slice none 0 0)) (by rw[J_];exact hi) rfl
  ⟨Cs,e,fz,hb,⟨v1,t1,e1,r1,v2,t2,e2,r2',e3⟩,hr⟩
 rw[List.set_cons_succ] at h1;exact h R a w (h1.perm (List.perm_append_singleton _ _).symm) hf
end
section
theorem yL {c:Bool}:∀{l:List Pr} {i:Nat},lV c l i= .none->∀q∈l,tO c q=0
 |[],_,_,q,h=>by cases h
 |x::l,i,h,q,hq=>by
  simp only[lV] at h;split at h
  ·rename_i h0;rcases List.mem_cons.1 hq with rfl|hq
   ·exact h0
   ·exact yL h q hq
  ·cases h
theorem Ln.E_inv {c:Bool}{p:Ln}(h:p.E c= .none):p.ps.length<=20/\∀k,k<p.ps.length->(p.ps.getD k Pr.z).vs.length≠0:=by
 unfold Ln.E at h;split at h
 ·cases h
 ·split at h
  ·cases h
  ·refine⟨a_,λk hk h0=> ?_⟩;have hf:lV c p.ps 0= .none:=by
    cases hf:lV c p.ps 0 with
    |none=>rfl
    |errno e=>rw[hf] at h;cases h
    | atp e q=>rw[hf] at h;cases h
   have h1:=yL hf (p.ps.getD k Pr.z) (by rw[f_,y_ hk];exact K_ hk);cases hn:isS (p.ps.getD k Pr.z).n with
   |false=>rw[E3 hn] at h1;cases h1
   |true=>rw[Kw hn h0] at h1;cases h1
theorem UO {P:Program}[Tab P]{C:Ctx}{n:Nat}{env:Env}{H:Heap}{Q:aL->Env->Heap->Prop}{c:Code}(i:Nat){b:Nat}(hi:H[i]? =some (.cells b (some 135) [.raw (.pointer none),.raw (.slice none 0 0)]))
  (h:bJ P C n c env (H.set i (cm b (.pointer none) H.length (.slice none 0 0))++[fH (.slice none 0 0) []]) Q):bJ P C n c env H Q:=by
 refine oe (eT:=some 5) 1 ?_;unfold bJ at h ⊢;intro R a w hm hf;obtain⟨Cs,e,fz,hb,hl,hr⟩:=hm.heap.holds (.cells b (some 135) [.raw (.pointer none),.raw (.slice none 0 0)]) (List.mem_cons_of_mem _ (q_ hi));obtain⟨v1,t1,e1,r1,v2,t2,e2,r2,e3⟩:=hl;have r2':bI R (.own H.length (.slice none 0 0)) [v2]:=by
  have:v2= .slice none 0 0:=by simpa[bI,Value.cells] using r2
  subst this;simp[bI,dc]
 have h1:=hm.swap (i:=i+1) (x:=.cells b (some 135) [.raw (.pointer none),.raw (.slice none 0 0)]) (y:=cm b (.pointer none) H.length (.slice none 0 0)) (by rw[J_];exact hi) rfl
  ⟨Cs,e,fz,hb,⟨v1,t1,e1,r1,v2,t2,e2,r2',e3⟩,hr⟩
 rw[List.set_cons_succ] at h1;exact h R a w (h1.perm (List.perm_append_singleton _ _).symm) hf
theorem UV {s:ω}:0<=Lib.indexAny s [44,59,58]↔0<=gh sg s:=by
 have key:∀x:UInt8,([44,59,58]:ω).contains x=sg (x.toNat:Int):=by
  intro x;unfold sg;rw[w_,C6,n_];simp only[p_,t_,or_false,exists_eq_or_imp,exists_eq_left];exact Iff.rfl
 rcases gB sg s with⟨h1,h2⟩|⟨m,h1,h2,h3,h4⟩
 ·rw[Lib.indexAny_none (λj x hj hx=>by
   rw[key,dl hx];exact h2 j hj),h1]
 ·have hx:s[m]? =some s[m]:=y_ h1;rw[Lib.indexAny_hit (i:=m) (λj x hj hx=>by
   rw[key,dl hx];exact h4 j hj) hx (by rw[key,dl hx];exact h3),h2]
attribute [local irreducible] bJ au aa ax aR ab ad iJ fo dm isS kO fX fU Ao qL pf ru
theorem Dq {G:Glo}(s:ω)(hl:s.length<=4000000):ai prog G 170 [.str s,.str [44,59,58]] (.bool (decide (0<=gh sg s))):=by
 have hI:=IU (G:=G) (cs:=[44,59,58]) (NL b_ b_ b_) b_ b_ b_ s a_;refine aw func170 call170 λC hC hGL=> ?_;refine aH ?_;apply aj;refine congrArg AVal.bool ?_;rw[w_];simp only[Bool.not_eq_true',o8,n_,UV]
theorem YC {c:Bool}{s:ω}(h:decide (0<=gh sg (ru c s))=true):fU c s=34::ru c s++[34]:=by
 unfold fU;rw[if_neg (by have:=of_decide_eq_true h;omega)]
theorem YD {c:Bool}{s:ω}(h:decide (0<=gh sg (ru c s))=false):fU c s=ru c s:=by
 unfold fU;rw[if_pos (by have:=of_decide_eq_false h;omega)]
theorem Vw (s:ω):ru true s=fX s:=by unfold ru;rfl
theorem Vx (s:ω):ru false s=s:=by unfold ru;rfl
theorem ZE {c:Bool}{vs:List ω}{j:Nat}(hj:j<vs.length)(h:(j:Int)=0)(t:ω):t++Ao c vs (j+1)=t++Ao c vs j++[61]++fU c (vs.getD j []):=by
 rw[D7 hj,if_pos a_];simp only[An]
theorem ZD {c:Bool}{vs:List ω}{j:Nat}(hj:j<vs.length)(h:(j:Int)≠0)(t:ω):t++Ao c vs (j+1)=t++Ao c vs j++[44]++fU c (vs.getD j []):=by
 rw[D7 hj,if_neg a_];simp only[An]
theorem ID {G:Glo}(p:Ln)(c:Bool)(ho:p.Fit):ai prog G 116 [p.A,.bool c] (.tuple [.str (p.T c),(p.E c).A]):=by
  have h0:=yf (G:=G) p c ho;rcases hq:p.E c with _|e|⟨e,i⟩
  case errno=>
    rw[hq] at h0;rw[show p.T c=[] by unfold Ln.T;rw[hq]];refine aw func116 call116 λC hC hGL=> ?_;exact bq
  case atp =>
    rw[hq] at h0;rw[show p.T c=[] by unfold Ln.T;rw[hq]];refine aw func116 call116 λC hC hGL=> ?_;exact bq
  rw[hq] at h0;rw[show p.T c=p.txt c by unfold Ln.T;rw[hq],JY];obtain⟨i1,i2⟩:=Ln.E_inv hq;have o1:=ho.g;have o2:=ho.n;have o3:=ho.v;have o4:∀k,k<=p.ps.length->(qL c p.ps k).length<=20*6600002:=λk hk=>by
    have h1:=CG (N:=1100000) (c:=c) (λk=>⟨(ho.q k).1,by have:=(ho.q k).2.1;omega,by have:=(ho.q k).2.2;omega⟩) k hk;rw[show 2+6*1100000=6600002 by decide] at h1;have h2:=aah 6600002 (show k<=20 by omega);exact aai h1 h2
  have hd1:p.g.length≠0->p.g++[46]++p.n=pf p:=λh=>by unfold pf;rw[if_neg h]
  have hd0:p.g.length=0->p.n=pf p:=λh=>by unfold pf;rw[if_pos h]
  have ke:(pf p).length<=2200001:=by
    unfold pf;split
    · omega
    · simp only[d_,j_,E_];omega
  refine k7 func116 call116 λC hC hGL=> ?_;refine cut hC hGL [(1,.bool c),(2,.rop [.str p.g,.str p.n,.list 2 p.ps.length (gg p.ps),.str p.v] 0)] [] True ?_ λ_=> ?_
  · exact bq
  refine cut hC hGL [(1,.bool c),(2,.rop [.str p.g,.str p.n,.list 2 p.ps.length (gg p.ps),.str p.v] 0)] [] True ?_ λ_=> ?_
  · exact bq
  refine gr hC hGL (λbl:Nat=>[(1,.bool c),(2,.rop [.str p.g,.str p.n,.list 2 p.ps.length (gg p.ps),.str p.v] 0),(7,.own 0 (db bl))]) (λbl=>[.cells bl (some 135) [.raw (.pointer none),.raw (.slice none 0 0)]]) (λ_=>True) ?_ λbl _=> ?_
  · refine aH ?_;intro bl;exact cy bl trivial
  refine UO 0 rfl ?_;refine gr hC hGL (λx:Value×Value×ω=>[(1,.bool c),(2,.rop [.str p.g,.str p.n,.list 2 p.ps.length (gg p.ps),.str p.v] 0),(7,.own 0 (db bl))]) (λx=>[cm bl x.1 1 x.2.1,fH x.2.1 x.2.2]) (λx=>zk bl x.1/\x.2.2.length<=1100001/\x.2.2++p.n=pf p) ?_ λx hx=> ?_
  · refine xw ?_;repeat' first|exact .n|apply Lc.mk
    all_goals intros
    · apply iM (i:=0) (j:=1) rfl rfl b_ (dk (.inl rfl) _ [] (p.g++[46]) (by simp only[d_,j_,E_];omega));intro ua uk uc;refine aH ?_;exact cy (db bl,.slice ua uk uc,[]++(p.g++[46])) ⟨.inr rfl,by simp only[d_,j_,E_];omega,by rw[L_];exact hd1 (by assumption)⟩
    · exact cy (.pointer none,.slice none 0 0,[]) ⟨.inl rfl,by simp,by rw[L_];exact hd0 (by assumption)⟩
  obtain⟨pa,va,tx⟩:=x;obtain⟨hp,hlx,htx⟩:=hx;dsimp only at hp hlx htx;refine gr hC hGL (λx:Value=>[(1,.bool c),(2,.rop [.str p.g,.str p.n,.list 2 p.ps.length (gg p.ps),.str p.v] 0),(7,.own 0 (db bl))]) (λx=>[cm bl (db bl) 1 x,fH x (pf p++qL c p.ps 0)]) (λx=>True) ?_ λvb _=> ?_
  · refine aH ?_;apply iM (i:=0) (j:=1) rfl rfl b_ (dk hp va tx p.n a_);intro ua uk uc;rw[htx.trans (show pf p=pf p++qL c p.ps 0 by rw[show qL c p.ps 0=[] by unfold qL;rfl,Dc])];refine aH ?_;exact cy (.slice ua uk uc) trivial
  clear htx hp hlx;refine ar hC hGL ?_;refine aH ?_;refine lp hC hGL (λx:Nat×Value=>[(1,.bool c),(2,.rop [.str p.g,.str p.n,.list 2 p.ps.length (gg p.ps),.str p.v] 0),(7,.own 0 (db bl)),(29,.list 2 p.ps.length (gg p.ps)),(30,.int .i64 (p.ps.length:Nat)),(31,.int .i64 (x.1:Nat))]) (λx=>[cm bl (db bl) 1 x.2,fH x.2 (pf p++qL c p.ps x.1)]) (λx=>x.1<=p.ps.length) (λx=>p.ps.length-x.1) (0,vb) ?_ ae rfl ?_
  · exact Nat.zero_le _
  rintro⟨k,v⟩ h1;dsimp only at h1;have ol:=o4 k h1;have hqk:=ho.q k;refine xn ?_;repeat' first|exact .n|apply Lc.mk
  all_goals intros
  · rename_i b9 hkl;dsimp only at hkl;have hk:k<p.ps.length:=by omega
    apply iM (i:=0) (j:=1) rfl rfl b_ (dk (.inr rfl) v (pf p++qL c p.ps k) ([59]++(p.ps.getD k Pr.z).n) (by simp only[d_,j_,E_];omega));intro ua uk uc;generalize hX:pf p++qL c p.ps k++([59]++(p.ps.getD k Pr.z).n)=X;have hXl:X.length<=210000000:=by
      rw[<-hX];simp only[d_,j_,E_];omega
    refine aH ?_;refine lp hC hGL (λx:Nat×Value=>[(1,.bool c),(2,.rop [.str p.g,.str p.n,.list 2 p.ps.length (gg p.ps),.str p.v] 0),(7,.own 0 (db bl)),(29,.list 2 p.ps.length (gg p.ps)),(30,.int .i64 (p.ps.length:Nat)),(31,.int .i64 (k:Nat)),(40,.list 1 (p.ps.getD k Pr.z).vs.length (aB (p.ps.getD k Pr.z).vs)),(41,.int .i64 ((p.ps.getD k Pr.z).vs.length:Nat)),(42,.int .i64 (x.1:Nat))]) (λx=>[cm bl (db bl) 1 x.2,fH x.2 (X++Ao c (p.ps.getD k Pr.z).vs x.1),.cells b9 (some 69) [.str (p.ps.getD k Pr.z).n,.list 1 (p.ps.getD k Pr.z).vs.length (aB (p.ps.getD k Pr.z).vs)]]) (λx=>x.1<=(p.ps.getD k Pr.z).vs.length) (λx=>(p.ps.getD k Pr.z).vs.length-x.1) (0,.slice ua uk uc) ?_ ae ?_ ?_
    · exact Nat.zero_le _
    · dsimp only
      rw[show Ao c (p.ps.getD k Pr.z).vs 0=[] by unfold Ao;rfl,Dc]
    rintro⟨j,u⟩ g1;dsimp only at g1;have hvl:=Sw c (p.ps.getD k Pr.z).vs j;have hj1:=iA (l:=(p.ps.getD k Pr.z).vs) (k:=j);have hel:=Dj c ((p.ps.getD k Pr.z).vs.getD j []);have hql:=E0 c ((p.ps.getD k Pr.z).vs.getD j []);have hE:=sZ (G:=G) ((p.ps.getD k Pr.z).vs.getD j []) a_ (qo _);have hQ:=Dq (G:=G) (ru c ((p.ps.getD k Pr.z).vs.getD j [])) a_;have hY:=YC (c:=c) (s:=(p.ps.getD k Pr.z).vs.getD j []);have hN:=YD (c:=c) (s:=(p.ps.getD k Pr.z).vs.getD j []);have hv0:=λ(hj:j<(p.ps.getD k Pr.z).vs.length) (h:(j:Int)=0)=>ZE (c:=c) hj h X;have hv1:=λ(hj:j<(p.ps.getD k Pr.z).vs.length) (h:(j:Int)≠0)=>ZD (c:=c) hj h X;refine xw ?_;repeat' first|exact .n|apply Lc.mk
    all_goals intros
    all_goals first
      | (have hj0:=hv0 a_ (by assumption)
         apply iM (i:=0) (j:=1) rfl rfl b_ (dk (.inr rfl) u (X++Ao c (p.ps.getD k Pr.z).vs j) [61] (by simp only[d_,j_,E_];omega))
         intro xa xk xc
         cases c
         all_goals
           simp only[Vw,Vx] at hQ hY hN hel;refine xw ?_;repeat' first|exact .n|apply Lc.mk
           all_goals intros
           all_goals
             first
             | (have hy:=hY (by assumption)
                apply iM (i:=0) (j:=1) rfl rfl b_ (dk (.inr rfl) (.slice xa xk xc) _ _ (by rw[hy] at hql;simp only[d_,j_,E_] at*;omega))
                intro ya yk yc
                refine aH ?_
                refine fG (j+1,.slice ya yk yc) (by dsimp only;omega) (by dsimp only;omega) ae ?_
                dsimp only
                rw[hj0,hy]
                exact aA)
             | (have hy:=hN (by assumption)
                apply iM (i:=0) (j:=1) rfl rfl b_ (dk (.inr rfl) (.slice xa xk xc) _ _ (by simp only[d_,j_,E_] at*;omega))
                intro ya yk yc
                refine aH ?_
                refine fG (j+1,.slice ya yk yc) (by dsimp only;omega) (by dsimp only;omega) ae ?_
                dsimp only
                rw[hj0,hy]
                exact aA))
      | (have hj1:=hv1 a_ (by assumption)
         apply iM (i:=0) (j:=1) rfl rfl b_ (dk (.inr rfl) u (X++Ao c (p.ps.getD k Pr.z).vs j) [44] (by simp only[d_,j_,E_];omega))
         intro xa xk xc
         cases c
         all_goals
           simp only[Vw,Vx] at hQ hY hN hel;refine xw ?_;repeat' first|exact .n|apply Lc.mk
           all_goals intros
           all_goals
             first
             | (have hy:=hY (by assumption)
                apply iM (i:=0) (j:=1) rfl rfl b_ (dk (.inr rfl) (.slice xa xk xc) _ _ (by rw[hy] at hql;simp only[d_,j_,E_] at*;omega))
                intro ya yk yc
                refine aH ?_
                refine fG (j+1,.slice ya yk yc) (by dsimp only;omega) (by dsimp only;omega) ae ?_
                dsimp only
                rw[hj1,hy]
                exact aA)
             | (have hy:=hN (by assumption)
                apply iM (i:=0) (j:=1) rfl rfl b_ (dk (.inr rfl) (.slice xa xk xc) _ _ (by simp only[d_,j_,E_] at*;omega))
                intro ya yk yc
                refine aH ?_
                refine fG (j+1,.slice ya yk yc) (by dsimp only;omega) (by dsimp only;omega) ae ?_
                dsimp only
                rw[hj1,hy]
                exact aA))
      | (have hj9:(p.ps.getD k Pr.z).vs.length=j:=by omega
         refine fG (k+1,u) (by dsimp only;omega) (by dsimp only;omega) ae ?_
         dsimp only
         rw[show pf p++qL c p.ps (k+1)=X++Ao c (p.ps.getD k Pr.z).vs j by
           rw[xI hk,Sx (i2 k hk),<-hX,hj9];simp only[An,Lu,L_]]
         exact aA)
  · have hkk:k=p.ps.length:=by dsimp only at*;omega
    subst hkk;refine a7 mixed hC hGL false (λ(_:Unit)=>[(4,.str (pf p++qL c p.ps p.ps.length++[58]++p.v)),(5,.raw .nilIface)]) (λ_=>[iK,iK]) (.t 2 (.t 3 (.b 0 (.t 1 (.t 4 (.t 5 (.t 6 .done))))))) be ?_ ?_
    · refine an ?_;intro C hC;refine Xw (i:=0) (j:=1) rfl rfl b_ (y9 (pf p++qL c p.ps p.ps.length) (by rw[d_];omega)) ?_;have hlen:(pf p++qL c p.ps p.ps.length).length<=200000000:=by rw[d_];omega
      refine xn ?_;repeat' first|exact .n|apply Lc.mk
      all_goals intros
      all_goals exact⟨(),⟨rfl,rfl,trivial⟩,rfl⟩
    · intro _;exact eK
end
section
theorem zu {G:Glo}{m:Int}(hU:ab G (bQ m))(s t:ω)(hl:s.length<100000):ai prog G 132 [.str s,.str t] (.int .i64 (Lib.index s t)):=by
 refine bO rfl call132 ?_;rintro R args ⟨x,u,e,hx,y,u',e',hy,rfl⟩ w hG hs;obtain rfl:=aD.1 hx;obtain rfl:=aD.1 hy;subst e';obtain rfl:=fR e;refine(strings_Index ⟨s.toArray⟩ ⟨t.toArray⟩ m w (by show s.toArray.size<_;simp;omega) (o7 hU hG hs)).mono ?_;rintro e w' ⟨rfl,rfl⟩;exact⟨by simp[AVal.conc],Below.refl _ _⟩
end
section
theorem Jh {s:ω}{i:Nat}(h:i<s.length):fX (s.take (i+1))=fX (s.take i)++encF s[i]:=by
 rw[x_ h,Q3];simp[fX]
theorem SB {c:UInt8}{k:Nat}(hk:k<256)(h:c.toNat=k):c=UInt8.ofNat k:=by
 rw[<-h,UInt8.ofNat_toNat]
def RF:ω:=[94,94,94,110,94,39]
theorem TV:∀d:_root_.Fin 256,Lib.index RF [94,UInt8.ofNat d.1]=if d.1=94 then 0 else if d.1=110 then 2 else if d.1=39 then 4 else-1:=by decide+kernel
theorem Jz {d:UInt8}:Lib.index RF [94,d]=if d.toNat=94 then 0 else if d.toNat=110 then 2 else if d.toNat=39 then 4 else-1:=by
 have:=TV ⟨d.toNat,d.toNat_lt⟩;rwa [UInt8.ofNat_toNat] at this
attribute [local irreducible] bJ au aa ax aR ab ad encF fX cB
theorem xF {G:Glo}(s:ω)(hl:s.length<=2000000):ai prog G 187 [.str s] (.str (fX s)):=by
 refine aw func187 call187 λC hC hGL=> ?_;refine aH ?_;intro bl cap hcap;intros;refine lp hC hGL (λi:Nat=>[(3,.str (fX (s.take i))),(7,.own 0 (.slice (some ⟨bl,0,none⟩) s.length cap)),(8,.int .i64 (s.length:Nat)),(9,.int .i64 (i:Nat))]) (λ_=>[.buf bl s cap]) (λi=>i<=s.length) (λi=>s.length-i) 0 (Nat.zero_le _) ⟨?_,rfl,rfl,rfl,trivial⟩ rfl ?_
 ·show some (AVal.str [])=some (AVal.str (fX (s.take 0)));rw[aaa,Q1]
 ·intro i hi;have e1:=(sO (s.take i)).2;rw[i_,Nat.min_eq_left hi] at e1;by_cases hlt:i<s.length
  ·have et:=Jh hlt;have hb0:=fP hlt;have hby:=bB s i;rcases(show aa s i=94\/aa s i=10\/aa s i=34\/(aa s i≠94/\aa s i≠10/\aa s i≠34) by omega) with hk|hk|hk|⟨k1,k2,k3⟩
   ·have he:encF s[i]=[94,94]:=by rw[SB b_ (hb0.symm.trans hk)];exact Xn
    refine aH ?_;intros;refine cQ (i+1) ?_ ?_ ⟨?_,rfl,rfl,rfl,trivial⟩ rfl
    ·exact hlt
    ·show s.length-(i+1)<s.length-i;omega
    ·rw[et,he];rfl
   ·have he:encF s[i]=[94,110]:=by rw[SB b_ (hb0.symm.trans hk)];exact Xp
    refine aH ?_;intros;refine cQ (i+1) ?_ ?_ ⟨?_,rfl,rfl,rfl,trivial⟩ rfl
    ·exact hlt
    ·show s.length-(i+1)<s.length-i;omega
    ·rw[et,he];rfl
   ·have he:encF s[i]=[94,39]:=by rw[SB b_ (hb0.symm.trans hk)];exact Xo
    refine aH ?_;intros;refine cQ (i+1) ?_ ?_ ⟨?_,rfl,rfl,rfl,trivial⟩ rfl
    ·exact hlt
    ·show s.length-(i+1)<s.length-i;omega
    ·rw[et,he];rfl
   ·have he:encF s[i]=cf [(aa s i:Int)]:=by
     rw[Gq (by rw[<-hb0];exact k1) (by rw[<-hb0];exact k2) (by rw[<-hb0];exact k3),hb0];simp[cf]
    refine aH ?_;intros;refine aY hC hGL (gv [(aa s i:Int)] rfl (by intro v hv;simp only[p_,t_,or_false] at hv;omega) rfl rfl rfl rfl rfl rfl) rfl rfl ?_;have hl9:(cf [(aa s i:Int)]).length=1:=rfl;refine aH ?_;intros;refine cQ (i+1) ?_ ?_ ⟨?_,rfl,rfl,rfl,trivial⟩ rfl
    ·exact hlt
    ·show s.length-(i+1)<s.length-i;omega
    ·rw[et,he];rfl
  ·have h9:fX (s.take i)=fX s:=by rw[u_ a_]
   refine aH ?_;intros;apply aj;rw[h9]
theorem Id {G:Glo}{m:Int}(hU:ab G (bQ m))(s:ω)(hl:s.length<=1000000):ai prog G 71 [.str s] (.str (cB s)):=by
 have hI:=λt:ω=>zu (G:=G) hU RF t b_;refine aw func71 call71 λC hC hGL=> ?_;refine aH ?_;intros;refine lp hC hGL (λx:Nat×ω=>[(0,.str s),(3,.str x.2),(4,.int .i64 (x.1:Nat))]) (λ_=>[]) (λx=>x.1<=s.length/\x.2.length<=x.1/\x.2++cB (s.drop x.1)=cB s) (λx=>s.length-x.1) (0,[]) ⟨Nat.zero_le _,Nat.zero_le _,rfl⟩ ⟨rfl,rfl,rfl,trivial⟩ rfl ?_;rintro⟨i,out⟩ ⟨hi,ho,hd⟩;have hi:i<=s.length:=hi;have ho:out.length<=i:=ho;have hd:out++cB (s.drop i)=cB s:=hd;by_cases hlt:i<s.length
 ·have hT:((s.take (min ((s.length:Nat):Int) (((i:Nat):Int)+2)).toNat).drop ((i:Nat):Int).toNat)=(s.drop i).take (min 2 (s.length-i)):=by
   rw[B_,show(min ((s.length:Nat):Int) (((i:Nat):Int)+2)).toNat=i+min 2 (s.length-i) by omega,List.drop_take,show i+min 2 (s.length-i)-i=min 2 (s.length-i) by omega]
  have hTl:((s.take (min ((s.length:Nat):Int) (((i:Nat):Int)+2)).toNat).drop ((i:Nat):Int).toNat).length=min 2 (s.length-i):=by rw[hT,i_,k_];omega
  by_cases hk:aa s i=94
  ·by_cases hi2:i+1<s.length
   ·have e0:=fP hlt;have e1:=fP hi2;have hT2:((s.take (min ((s.length:Nat):Int) (((i:Nat):Int)+2)).toNat).drop ((i:Nat):Int).toNat)=[94,s[i+1]]:=by
     rw[hT,show min 2 (s.length-i)=2 by omega,A_ hlt,A_ hi2,SB b_ (e0.symm.trans hk)];rfl
    have hx:=hI ((s.take (min ((s.length:Nat):Int) (((i:Nat):Int)+2)).toNat).drop ((i:Nat):Int).toNat);rw[show Lib.index RF ((s.take (min ((s.length:Nat):Int) (((i:Nat):Int)+2)).toNat).drop ((i:Nat):Int).toNat)=_ from(congrArg (Lib.index RF) hT2).trans Jz,<-e1] at hx;have hTl2:((((s.take (min ((s.length:Nat):Int) (((i:Nat):Int)+2)).toNat).drop ((i:Nat):Int).toNat).length:Nat):Int)=2:=by rw[hTl];omega
    rcases(show aa s (i+1)=94\/aa s (i+1)=110\/aa s (i+1)=39\/(aa s (i+1)≠94/\aa s (i+1)≠110/\aa s (i+1)≠39) by omega) with hq|hq|hq|⟨k1,k2,k3⟩
    ·rw[if_pos hq] at hx;refine xw ?_;repeat' first|exact .n|apply Lc.mk
     all_goals intros
     ·refine cQ (i+2,out++[94]) ?_ ?_ ⟨rfl,rfl,rfl,trivial⟩ rfl
      ·refine⟨hi2,?_,?_⟩
       ·show(out++[(94:UInt8)]).length<=i+2;rw[d_,Rf];omega
       ·show out++[94]++cB (s.drop (i+2))=cB s;rw[<-hd,v6 hi2 hk (e:=94) (.inl ⟨hq,rfl⟩),An];rfl
      ·show s.length-(i+2)<s.length-i;omega
     all_goals exact absurd hTl2 ‹_›
    ·rw[if_neg a_,if_pos hq] at hx;refine xw ?_;repeat' first|exact .n|apply Lc.mk
     all_goals intros
     ·refine cQ (i+2,out++[10]) ?_ ?_ ⟨rfl,rfl,rfl,trivial⟩ rfl
      ·refine⟨hi2,?_,?_⟩
       ·show(out++[(10:UInt8)]).length<=i+2;rw[d_,Rf];omega
       ·show out++[10]++cB (s.drop (i+2))=cB s;rw[<-hd,v6 hi2 hk (e:=10) (.inr (.inl ⟨hq,rfl⟩)),An];rfl
      ·show s.length-(i+2)<s.length-i;omega
     all_goals exact absurd hTl2 ‹_›
    ·rw[if_neg a_,if_neg a_,if_pos hq] at hx;refine xw ?_;repeat' first|exact .n|apply Lc.mk
     all_goals intros
     ·refine cQ (i+2,out++[34]) ?_ ?_ ⟨rfl,rfl,rfl,trivial⟩ rfl
      ·refine⟨hi2,?_,?_⟩
       ·show(out++[(34:UInt8)]).length<=i+2;rw[d_,Rf];omega
       ·show out++[34]++cB (s.drop (i+2))=cB s;rw[<-hd,v6 hi2 hk (e:=34) (.inr (.inr ⟨hq,rfl⟩)),An];rfl
      ·show s.length-(i+2)<s.length-i;omega
     all_goals exact absurd hTl2 ‹_›
    ·rw[if_neg k1,if_neg k2,if_neg k3] at hx;refine xw ?_;repeat' first|exact .n|apply Lc.mk
     all_goals intros
     ·refine cQ (i+1,out++(s.take (i+1)).drop i) ?_ ?_ ⟨rfl,rfl,rfl,trivial⟩ rfl
      ·refine⟨hlt,?_,?_⟩
       ·show(out++(s.take (i+1)).drop i).length<=i+1;rw[d_,k_,i_];omega
       ·show out++(s.take (i+1)).drop i++cB (s.drop (i+1))=cB s;rw[An,List.drop_take,show i+1-i=1 by omega,<-oa hlt (.inr (.inr ⟨k1,k2,k3⟩))];exact hd
      ·show s.length-(i+1)<s.length-i;omega
     all_goals exact absurd hTl2 ‹_›
   ·repeat' (first|(conv=>whnf);first|refine .w ?_|refine .v ?_|refine ez ?_ ?_<;>(intro hb;try exact dd hb)|apply aT|apply bP|(apply cR<;>intro hb)|(apply cX;intro hbd)|(apply bG;exact hI _)|(apply aV (i:=0) rfl;exact hI _)|(apply cY;intro bl)|(apply dv;intro va vk vc hva)|(apply du;intro v)|(apply dw;intro bl cap hcap)|apply dP|(apply dq<;>intro hnx)|apply ef mixed hC hGL be|(apply cq;assumption;exact hI _;exact rfl)|(show Rt _ _ _;exact cP)|fail)
    all_goals try conv=>whnf
    refine cQ (i+1,out++(s.take (i+1)).drop i) ?_ ?_ ⟨rfl,rfl,rfl,trivial⟩ rfl
    ·refine⟨hlt,?_,?_⟩
     ·show(out++(s.take (i+1)).drop i).length<=i+1;rw[d_,k_,i_];omega
     ·show out++(s.take (i+1)).drop i++cB (s.drop (i+1))=cB s;rw[An,List.drop_take,show i+1-i=1 by omega,<-oa hlt (.inr (.inl a_))];exact hd
    ·show s.length-(i+1)<s.length-i;omega
  ·repeat' (first|(conv=>whnf);first|refine .w ?_|refine .v ?_|refine ez ?_ ?_<;>(intro hb;try exact dd hb)|apply aT|apply bP|(apply cR<;>intro hb)|(apply cX;intro hbd)|(apply bG;exact hI _)|(apply aV (i:=0) rfl;exact hI _)|(apply cY;intro bl)|(apply dv;intro va vk vc hva)|(apply du;intro v)|(apply dw;intro bl cap hcap)|apply dP|(apply dq<;>intro hnx)|apply ef mixed hC hGL be|(apply cq;assumption;exact hI _;exact rfl)|(show Rt _ _ _;exact cP)|fail)
   all_goals try conv=>whnf
   refine cQ (i+1,out++(s.take (i+1)).drop i) ?_ ?_ ⟨rfl,rfl,rfl,trivial⟩ rfl
   ·refine⟨hlt,?_,?_⟩
    ·show(out++(s.take (i+1)).drop i).length<=i+1;rw[d_,k_,i_];omega
    ·show out++(s.take (i+1)).drop i++cB (s.drop (i+1))=cB s;rw[An,List.drop_take,show i+1-i=1 by omega,<-oa hlt (.inl hk)];exact hd
   ·show s.length-(i+1)<s.length-i;omega
 ·have h9:out=cB s:=by rw[<-hd,List.drop_eq_nil_of_le a_,Gw,Dc]
  refine aH ?_;intros;apply aj;rw[h9]
end
section
theorem FZ (c:UInt8):∀(l:ω) (k:Nat),(0<=kE (c.toNat:Int) l k/\c∈l)\/(kE (c.toNat:Int) l k<0/\c∉l)
 |[],k=>.inr ⟨by simp[kE],by simp⟩
 |x::t,k=>by
  unfold kE;by_cases h:(x.toNat:Int)=c.toNat
  ·have:x=c:=UInt8.toNat_inj.1 a_;rw[if_pos h];exact .inl ⟨a_,by simp[this]⟩
  ·have hne:c≠x:=λe=>h (by rw[e]);rw[if_neg h];rcases FZ c t (k+1) with⟨h1,h2⟩|⟨h1,h2⟩
   ·exact .inl ⟨h1,List.mem_cons_of_mem _ h2⟩
   ·exact .inr ⟨h1,λh3=>(List.mem_cons.1 h3).elim hne h2⟩
theorem Qw {s:ω}{c:UInt8}:0<=aS s (c.toNat:Int)↔c∈s:=by
 unfold aS;rcases FZ c s 0 with⟨h1,h2⟩|⟨h1,h2⟩
 ·exact⟨λ_=>h2,λ_=>h1⟩
 ·exact⟨λh=>by omega,λh=>absurd h h2⟩
theorem MR {s:ω}{c:UInt8}:0<=Lib.indexByte s c↔c∈s:=by
 induction s with
 |nil=>simp[Lib.indexByte]
 |cons x t ih=>
  have hge:=Lib.indexByte_ge t c;unfold Lib.indexByte;by_cases h:(x==c)=true
  ·rw[if_pos h];have:=beq_iff_eq.1 h;simp[this]
  ·rw[if_neg h];have hn:c≠x:=λe=>h (beq_iff_eq.2 e.symm);simp only[p_,hn,false_or];rw[<-ih];split
   ·rename_i h2;have:=beq_iff_eq.1 h2;omega
   ·rename_i h2;have:Lib.indexByte t c≠ -1:=λe=>h2 (beq_iff_eq.2 e);omega
attribute [local irreducible] bJ au aa ax aR ab ad iJ fo dm isS kO fX aS
theorem pu {G:Glo}(s:ω):ai prog G 146 [.str s,.str [34]] (.bool (decide (0<=aS s 34))):=by
 refine bO rfl call146 ?_;rintro R args ⟨x,t,e,hx,y,t',e',hy,rfl⟩ w hG hs;obtain rfl:=aD.1 hx;obtain rfl:=aD.1 hy;subst e';obtain rfl:=fR e;refine(strings_Contains_one ⟨s.toArray⟩ 34 w).mono ?_;rintro e w' ⟨rfl,rfl⟩;have e:decide (0<=Lib.indexByte s 34)=decide (0<=aS s 34):=by
  have h1:=MR (s:=s) (c:=34);have h2:=Qw (s:=s) (c:=34);have h3:((34:UInt8).toNat:Int)=34:=rfl;rw[h3] at h2;simp only[h1,h2]
 exact⟨by simp[AVal.conc,e],Below.refl _ _⟩
theorem tK {G:Glo}(hU:ab G utfTy)(s:ω)(hl:s.length<=9223372036854775807):ai prog G 144 [.str s] (.bool (fo false s)):=by
 have h1:=CF hU s hl;have h2:=mr (G:=G) s 70 (iJ false) hl (λc _=>mt c);refine aw func144 call144 λC hC hGL=> ?_;refine xw ?_;refine⟨λh=> ?_,λh=> ?_,.n⟩;all_goals (apply aj;refine congrArg AVal.bool ?_;unfold fo;rw[w_];simp only[oo,n_,reduceCtorEq,false_iff];omega)
theorem zL {G:Glo}(hU:ab G utfTy)(s:ω)(c:Bool)(hl:s.length<=2000000):ai prog G 143 [.str s,.bool c] (.bool (kO c s)):=by
 cases c with
 |true=>
  have hE:=xF (G:=G) s hl;have hC1:=tK hU (fX s) (by have:=(sO s).2;omega);have hq1:=pu (G:=G) (fX s);have e:kO true s=(fo false (fX s)&&decide (aS (fX s) 34<0)):=by unfold kO ru;rfl
  rw[e];refine aw func143 call143 λC hC hGL=> ?_;refine xw ?_;repeat' first|exact .n|apply Lc.mk
  all_goals intros
  all_goals (apply aj;refine congrArg AVal.bool ?_;rw[show fo false (fX s)=_ by assumption])
  all_goals (rw[w_];simp)
 |false=>
  have hC1:=tK hU s a_;have hq1:=pu (G:=G) s;have e:kO false s=(fo false s&&decide (aS s 34<0)):=by unfold kO ru;rfl
  rw[e];refine aw func143 call143 λC hC hGL=> ?_;refine xw ?_;repeat' first|exact .n|apply Lc.mk
  all_goals intros
  all_goals (apply aj;refine congrArg AVal.bool ?_;rw[show fo false s=_ by assumption])
  all_goals (rw[w_];simp)
theorem qK {G:Glo}(hU:ab G utfTy)(p:Ln)(c:Bool)(ho:p.Fit):ai prog G 84 [p.A,.bool c] (.agg [.int .i64 (p.E c).e,.int .i64 (p.E c).p]):=by
  have n1:=tM (G:=G) p.n (by have:=ho.n;omega);have n2:=tM (G:=G) p.g (by have:=ho.g;omega);have hv:=tK hU p.v (by have:=ho.v;omega);have hps:=ho.ps;have b5:=il (G:=G) 5;have b4:=il (G:=G) 4;have b3:=il (G:=G) 3;have b0:=fb (G:=G);refine aw func84 call84 λC hC hGL=> ?_;refine xw ?_;repeat' first|exact .n|apply Lc.mk
  all_goals intros
  all_goals try (apply aj;first|(rw[Ln.E_5 (.inl (by assumption))];rfl)|(rw[Ln.E_5 (.inr ⟨by assumption,by assumption⟩)];rfl)|(rw[Ln.E_4 (by assumption) (.inl (by assumption)) a_];rfl)|(rw[Ln.E_4 (by assumption) (.inr (by assumption)) a_];rfl);done)
  all_goals
    have q1:isS p.n=true:=by assumption
    have q2:p.g.length=0\/isS p.g=true:=by first|exact .inl (by assumption)|exact .inr (by assumption)
    have q3:p.ps.length<=20:=by omega
    refine lp hC hGL (λk:Nat=>[(1,.bool c),(2,.rop [.str p.g,.str p.n,.list 2 p.ps.length (gg p.ps),.str p.v] 0),(4,.own 0 (.pointer (some ⟨_,0,none⟩))),(31,.list 2 p.ps.length (gg p.ps)),(32,.int .i64 (p.ps.length:Nat)),(33,.int .i64 (k:Nat))]) (λ_=>[.cells _ (some 25) [.int .i64 0,.int .i64 0]]) (λk=>k<=p.ps.length/\∀j,j<k->tO c (p.ps.getD j Pr.z)=0) (λk=>p.ps.length-k) 0 ?_ ae rfl ?_
    · exact⟨Nat.zero_le _,λj h=>absurd h (Uf _)⟩
    rintro k ⟨h1,h2⟩;have hq:=ho.q k;have n3:=tM (G:=G) (p.ps.getD k Pr.z).n a_;refine xw ?_;repeat' first|exact .n|apply Lc.mk
    all_goals intros
    all_goals try (apply aj;first|(rw[Ln.E_3 q1 q2 q3 a_ h2 (by assumption)];rfl)|(rw[Ln.E_0 q1 q2 q3 a_ h2 (by assumption)];rfl);done)
    all_goals try (apply aj;first|(rw[Ln.E_at q1 q2 q3 a_ h2 (by rw[E3 (by assumption)];decide),E3 (by assumption)];rfl)|(rw[Ln.E_at q1 q2 q3 a_ h2 (by rw[Kw (by assumption) a_];decide),Kw (by assumption) a_];rfl);done)
    refine lp hC hGL (λj:Nat=>[(1,.bool c),(2,.rop [.str p.g,.str p.n,.list 2 p.ps.length (gg p.ps),.str p.v] 0),(4,.own 0 (.pointer (some ⟨_,0,none⟩))),(5,.int .i64 (k:Nat)),(31,.list 2 p.ps.length (gg p.ps)),(32,.int .i64 (p.ps.length:Nat)),(33,.int .i64 (k:Nat)),(51,.list 1 (p.ps.getD k Pr.z).vs.length (aB (p.ps.getD k Pr.z).vs)),(52,.int .i64 ((p.ps.getD k Pr.z).vs.length:Nat)),(53,.int .i64 (j:Nat))]) (λ_=>[.cells _ (some 25) [.int .i64 0,.int .i64 0],.cells _ (some 69) [.str (p.ps.getD k Pr.z).n,.list 1 (p.ps.getD k Pr.z).vs.length (aB (p.ps.getD k Pr.z).vs)]]) (λj=>j<=(p.ps.getD k Pr.z).vs.length/\PY c (p.ps.getD k Pr.z).vs j) (λj=>(p.ps.getD k Pr.z).vs.length-j) 0 ?_ ae rfl ?_
    · exact⟨Nat.zero_le _,λi hi=>absurd hi (Uf _)⟩
    rintro j ⟨g1,g2⟩;have hj:=zL hU ((p.ps.getD k Pr.z).vs.getD j []) c (by have:=iA (l:=(p.ps.getD k Pr.z).vs) (k:=j);omega);refine xw ?_;repeat' first|exact .n|apply Lc.mk
    all_goals intros
    all_goals first
      |exact cQ (j+1) ⟨a_,AZ g2 (by assumption)⟩ a_ ae rfl
      |exact fG (k+1) ⟨a_,bL h2 (Vf (by assumption) a_ (Fx a_ g2))⟩ a_ ae aA
      | (apply aj
         have e1:=Ve (c:=c) (q:=p.ps.getD k Pr.z) (by assumption) a_ (Fw (j:=j) a_ (by assumption))
         rw[Ln.E_at q1 q2 q3 a_ h2 (by rw[e1];decide),e1]
         rfl)
end
section
theorem Lg {c:Bool}:∀{l:List Pr} {i:Nat},(lV c l i).e=0->lV c l i= .none
 |[],_,_=>rfl
 |x::l,i,h=>by
  simp only[lV] at h ⊢;split at h
  ·rename_i h0;rw[if_pos h0];exact Lg h
  ·rename_i h0;exact absurd h h0
theorem Ln.E_zero {c:Bool}{p:Ln}(h:(p.E c).e=0):p.E c= .none:=by
 unfold Ln.E at h ⊢;split at h
 ·cases h
 ·rename_i h1;rw[if_neg h1];split at h
  ·cases h
  ·rename_i h2;rw[if_neg h2];have:=Lg (c:=c) (l:=p.ps) (i:=0);cases hf:lV c p.ps 0 with
   |none=>
    rw[hf] at h;simp only at h ⊢;split at h
    ·rename_i h3;rw[if_pos h3]
    ·cases h
   |errno e=>
    rw[hf] at h this;exact absurd (this h) (by simp)
   | atp e q=>
    rw[hf] at h this;exact absurd (this h) (by simp)
attribute [local irreducible] bJ au aa ax aR ab ad iJ fo dm isS kO fX fU qL pf ru sg
theorem Tl {G:Glo}(c:Int):ai prog G 195 [.int .u8 c] (.bool (sg c)):=by
 refine aw func195 call195 λC hC hGL=> ?_;refine xw ?_;repeat' first|exact .n|apply Lc.mk
 all_goals intros
 all_goals (apply aj;refine congrArg AVal.bool ?_)
 all_goals (unfold sg;rw[w_];simp only[fJ,n_,reduceCtorEq,true_iff,false_iff];omega)
theorem OD {c:Bool}{vs:List ω}{j:Nat}(hj:j<vs.length):(vs.map (fU c)).take (j+1)=(vs.map (fU c)).take j++[fU c (vs.getD j [])]:=by
 rw[x_ (by simpa using hj),List.getElem_map,f_,y_ hj];rfl
theorem zJ {G:Glo}(hU:ab G utfTy)(p:Ln)(c:Bool)(ho:p.Fit):ai prog G 150 [p.A,.bool c] (.tuple [.str (p.T c),.agg [.int .i64 (p.E c).e,.int .i64 (p.E c).p]]):=by
  have h0:=qK hU p c ho;have hI:=gM (G:=G) (p.E c).e (p.E c).p;by_cases hz:(p.E c).e=0;case neg=>
    rw[k9.2 hz] at hI;rw[show p.T c=[] by
      unfold Ln.T;split
      · rename_i hq;rw[hq] at hz;exact absurd rfl hz
      · rfl]
    refine aw func150 call150 λC hC hGL=> ?_;refine an ?_;intro b1 b2;refine a7 mixed hC hGL false (λ(_:Unit)=>[(4,.str []),(5,.own 0 (.pointer (some ⟨b1,0,none⟩)))]) (λ_=>[.cells b1 (some 25) [.int .i64 (p.E c).e,.int .i64 (p.E c).p],.cells b2 (some 25) [.int .i64 (p.E c).e,.int .i64 (p.E c).p]]) (.br 0 (.t 1 (.b 2 .done)) (.b 1 (.b 0 (.b 2 .done)))) be ?_ ?_
    · refine xn ?_;repeat' first|exact .n|apply Lc.mk
      all_goals intros
      all_goals exact⟨(),⟨rfl,rfl,trivial⟩,rfl⟩
    · intro _;exact eK
  have hq:=Ln.E_zero hz;rw[hq] at h0 hI;rw[hq];simp only[Err.e,Err.p] at h0 hI ⊢;rw[fJ.2 rfl] at hI;rw[show p.T c=p.txt c by unfold Ln.T;rw[hq],JY];have hb0:=fb (G:=G);have i1:p.ps.length<=20:=by
    have h:=hq;unfold Ln.E at h;split at h
    · cases h
    · split at h
      · cases h
      · omega
  have i2:∀k,k<p.ps.length->(p.ps.getD k Pr.z).vs.length≠0\/True:=λ_ _=>.inr trivial;have o1:=ho.g;have o2:=ho.n;have o3:=ho.v;have o4:∀k,k<=p.ps.length->(qL c p.ps k).length<=20*6600002:=λk hk=>by
    have h1:=CG (N:=1100000) (c:=c) (λk=>⟨(ho.q k).1,by have:=(ho.q k).2.1;omega,by have:=(ho.q k).2.2;omega⟩) k hk;rw[show 2+6*1100000=6600002 by decide] at h1;have h2:=aah 6600002 (show k<=20 by omega);exact aai h1 h2
  have hd1:p.g.length≠0->p.g++[46]++p.n=pf p:=λh=>by unfold pf;rw[if_neg h]
  have hd0:p.g.length=0->p.n=pf p:=λh=>by unfold pf;rw[if_pos h]
  have ke:(pf p).length<=2200001:=by
    unfold pf;split
    · omega
    · simp only[d_,j_,E_];omega
  refine k7 func150 call150 λC hC hGL=> ?_;refine gr hC hGL (λbl:Nat=>[(1,.bool c),(2,.rop [.str p.g,.str p.n,.list 2 p.ps.length (gg p.ps),.str p.v] 0),(5,.own 0 (.pointer (some ⟨bl,0,none⟩)))]) (λbl=>[.cells bl (some 25) [.int .i64 0,.int .i64 0]]) (λ_=>True) ?_ λb1 _=> ?_
  · refine aH ?_;intro bl;exact cy bl trivial
  refine gr hC hGL (λbl:Nat=>[(1,.bool c),(2,.rop [.str p.g,.str p.n,.list 2 p.ps.length (gg p.ps),.str p.v] 0),(5,.own 0 (.pointer (some ⟨b1,0,none⟩)))]) (λbl=>[.cells b1 (some 25) [.int .i64 0,.int .i64 0],.cells bl (some 25) [.int .i64 0,.int .i64 (-1)]]) (λ_=>True) ?_ λb2 _=> ?_
  · refine aH ?_;intro bl;exact cy bl trivial
  refine cut hC hGL [(1,.bool c),(2,.rop [.str p.g,.str p.n,.list 2 p.ps.length (gg p.ps),.str p.v] 0),(5,.own 0 (.pointer (some ⟨b1,0,none⟩))),(7,.str p.n)] [.cells b1 (some 25) [.int .i64 0,.int .i64 0],.cells b2 (some 25) [.int .i64 0,.int .i64 (-1)]] True ?_ λ_=> ?_
  · exact bq
  refine gr hC hGL (λq:ω=>[(1,.bool c),(2,.rop [.str p.g,.str p.n,.list 2 p.ps.length (gg p.ps),.str p.v] 0),(5,.own 0 (.pointer (some ⟨b1,0,none⟩))),(7,.str q)]) (λ_=>[.cells b1 (some 25) [.int .i64 0,.int .i64 0],.cells b2 (some 25) [.int .i64 0,.int .i64 (-1)]]) (λq=>q=pf p++qL c p.ps 0) ?_ λq hq=> ?_
  · rw[show qL c p.ps 0=[] by unfold qL;rfl,Dc];refine xn ?_;repeat' first|exact .n|apply Lc.mk
    all_goals intros
    all_goals first
      |exact cy _ (hd1 (by assumption))
      |exact cy _ (hd0 (by assumption))
  subst hq;refine ar hC hGL ?_;refine an ?_;refine lp hC hGL (λk:Nat=>[(1,.bool c),(2,.rop [.str p.g,.str p.n,.list 2 p.ps.length (gg p.ps),.str p.v] 0),(5,.own 0 (.pointer (some ⟨b1,0,none⟩))),(7,.str (pf p++qL c p.ps k)),(31,.list 2 p.ps.length (gg p.ps)),(32,.int .i64 (p.ps.length:Nat)),(33,.int .i64 (k:Nat))]) (λ_=>[.cells b1 (some 25) [.int .i64 0,.int .i64 0],.cells b2 (some 25) [.int .i64 0,.int .i64 (-1)]]) (λk=>k<=p.ps.length) (λk=>p.ps.length-k) 0 ?_ ae rfl ?_
  · exact Nat.zero_le _
  intro k h1;have ol:=o4 k h1;have hqk:=ho.q k;refine xn ?_;repeat' first|exact .n|apply Lc.mk
  all_goals intros
  · rename_i b9 hkl;have hkn:k<p.ps.length:=by omega
    have hsucc:=xI (c:=c) hkn;have hpl:=Kv c (p.ps.getD k Pr.z);have hjl:(Lib.join ((p.ps.getD k Pr.z).vs.map (fU c)) [44]).length<=20000000:=by
      have h2:=yo ((p.ps.getD k Pr.z).vs.map (fU c));have h3:=sq c (p.ps.getD k Pr.z).vs;rw[C_] at h2;omega
    refine jX 10 1 rfl ?_;refine lp hC hGL (λy:List ω×Value=>[(1,.bool c),(2,.rop [.str p.g,.str p.n,.list 2 p.ps.length (gg p.ps),.str p.v] 0),(5,.own 0 (.pointer (some ⟨b1,0,none⟩))),(7,.str (pf p++qL c p.ps k)),(9,.own 2 (.pointer (some ⟨b9,0,none⟩))),(10,.own 3 y.2),(31,.list 2 p.ps.length (gg p.ps)),(32,.int .i64 (p.ps.length:Nat)),(33,.int .i64 (k:Nat)),(38,.list 1 (p.ps.getD k Pr.z).vs.length (aB (p.ps.getD k Pr.z).vs)),(39,.int .i64 ((p.ps.getD k Pr.z).vs.length:Nat)),(40,.int .i64 (y.1.length:Nat))]) (λy=>[.cells b1 (some 25) [.int .i64 0,.int .i64 0],.cells b2 (some 25) [.int .i64 0,.int .i64 (-1)],.cells b9 (some 69) [.str (p.ps.getD k Pr.z).n,.list 1 (p.ps.getD k Pr.z).vs.length (aB (p.ps.getD k Pr.z).vs)],.row y.2 none 1 y.1.length (bu y.1)]) (λy=>y.1.length<=(p.ps.getD k Pr.z).vs.length/\y.1=((p.ps.getD k Pr.z).vs.map (fU c)).take y.1.length) (λy=>(p.ps.getD k Pr.z).vs.length-y.1.length) ([],.slice none 0 0) ?_ ae rfl ?_
    · exact⟨Nat.zero_le _,rfl⟩
    rintro⟨l,v⟩ ⟨g1,g2⟩;dsimp only at g1 g2;have hj1:=iA (l:=(p.ps.getD k Pr.z).vs) (k:=l.length);have hel:=Dj c ((p.ps.getD k Pr.z).vs.getD l.length []);have hE:=xF (G:=G) ((p.ps.getD k Pr.z).vs.getD l.length []) a_;have hQ:=mr (G:=G) (ru c ((p.ps.getD k Pr.z).vs.getD l.length [])) 195 sg a_ (λc _=>Tl c);have hY:0<=gh sg (ru c ((p.ps.getD k Pr.z).vs.getD l.length []))->fU c ((p.ps.getD k Pr.z).vs.getD l.length [])=34::ru c ((p.ps.getD k Pr.z).vs.getD l.length [])++[34]:=λh=>by unfold fU;rw[if_neg a_]
    have hN:gh sg (ru c ((p.ps.getD k Pr.z).vs.getD l.length []))<0->fU c ((p.ps.getD k Pr.z).vs.getD l.length [])=ru c ((p.ps.getD k Pr.z).vs.getD l.length []):=λh=>by unfold fU;rw[if_pos h]
    have hT:=λ(h:l.length<(p.ps.getD k Pr.z).vs.length)=>OD (c:=c) h;have hx1:ru true ((p.ps.getD k Pr.z).vs.getD l.length [])=fX ((p.ps.getD k Pr.z).vs.getD l.length []):=by unfold ru;rfl
    have hx2:ru false ((p.ps.getD k Pr.z).vs.getD l.length [])=(p.ps.getD k Pr.z).vs.getD l.length []:=by unfold ru;rfl
    have fin:(p.ps.getD k Pr.z).vs.length<=l.length->l=(p.ps.getD k Pr.z).vs.map (fU c):=λh=>by rw[g2,u_ (by rw[C_];omega)]
    have go:∀(w:ω),w=fU c ((p.ps.getD k Pr.z).vs.getD l.length [])->l.length<(p.ps.getD k Pr.z).vs.length->(l++[w]).length<=(p.ps.getD k Pr.z).vs.length/\l++[w]=((p.ps.getD k Pr.z).vs.map (fU c)).take (l++[w]).length:=λw hw h=>by
      rw[d_,Rf,hT h,<-g2,hw];exact⟨a_,rfl⟩
    cases c;all_goals
      simp only[hx1,hx2] at hQ hY hN hel;refine xn ?_;repeat' first|exact .n|apply Lc.mk
      all_goals intros
      all_goals try dsimp only at*
    all_goals first
      | (refine cQ (l++[_],.slice _ _ _) (go _ (hY (by assumption)).symm a_) (by dsimp only;rw[d_,Rf];omega) ⟨rfl,rfl,rfl,rfl,rfl,rfl,rfl,rfl,rfl,rfl,rfl,?_,trivial⟩ ?_
         · show some (AVal.int .i64 (((l.length:Nat):Int)+1))=some (AVal.int .i64 ((l++[_]).length:Nat));rw[d_];rfl
         · dsimp only
           rw[<-cg,d_];rfl)
      | (refine cQ (l++[_],.slice _ _ _) (go _ (hN (by assumption)).symm a_) (by dsimp only;rw[d_,Rf];omega) ⟨rfl,rfl,rfl,rfl,rfl,rfl,rfl,rfl,rfl,rfl,rfl,?_,trivial⟩ ?_
         · show some (AVal.int .i64 (((l.length:Nat):Int)+1))=some (AVal.int .i64 ((l++[_]).length:Nat));rw[d_];rfl
         · dsimp only
           rw[<-cg,d_];rfl)
      |skip
    · obtain rfl:=fin a_;refine a7 mixed hC hGL true (λ(_:Unit)=>[(1,.bool false),(2,.rop [.str p.g,.str p.n,.list 2 p.ps.length (gg p.ps),.str p.v] 0),(5,.own 0 (.pointer (some ⟨b1,0,none⟩))),(7,.str (pf p++qL false p.ps (k+1))),(31,.list 2 p.ps.length (gg p.ps)),(32,.int .i64 (p.ps.length:Nat)),(33,.int .i64 (k:Nat))]) (λ_=>[.cells b1 (some 25) [.int .i64 0,.int .i64 0],.cells b2 (some 25) [.int .i64 0,.int .i64 (-1)],.cells b9 (some 69) [.str (p.ps.getD k Pr.z).n,.list 1 (p.ps.getD k Pr.z).vs.length (aB (p.ps.getD k Pr.z).vs)],.row v none 1 ((p.ps.getD k Pr.z).vs.map (fU false)).length (bu ((p.ps.getD k Pr.z).vs.map (fU false)))]) .p17 be ?_ ?_
      · refine an ?_;intro C hC;refine aV (i:=3) rfl (ft ((p.ps.getD k Pr.z).vs.map (fU false)) [44] v (by rw[C_];omega) a_) ?_;have hlen:(pf p++qL false p.ps k).length<=200000000:=by rw[d_];omega
        refine xn ?_;repeat' first|exact .n|apply Lc.mk
        all_goals intros
        all_goals
          refine⟨(),⟨rfl,rfl,rfl,?_,rfl,rfl,rfl,trivial⟩,rfl⟩;rw[hsucc];unfold Tp;simp only[An,Lu,L_];rfl
      · intro _;refine an ?_;exact fG (k+1) a_ a_ ae aA
    · obtain rfl:=fin a_;refine a7 mixed hC hGL true (λ(_:Unit)=>[(1,.bool true),(2,.rop [.str p.g,.str p.n,.list 2 p.ps.length (gg p.ps),.str p.v] 0),(5,.own 0 (.pointer (some ⟨b1,0,none⟩))),(7,.str (pf p++qL true p.ps (k+1))),(31,.list 2 p.ps.length (gg p.ps)),(32,.int .i64 (p.ps.length:Nat)),(33,.int .i64 (k:Nat))]) (λ_=>[.cells b1 (some 25) [.int .i64 0,.int .i64 0],.cells b2 (some 25) [.int .i64 0,.int .i64 (-1)],.cells b9 (some 69) [.str (p.ps.getD k Pr.z).n,.list 1 (p.ps.getD k Pr.z).vs.length (aB (p.ps.getD k Pr.z).vs)],.row v none 1 ((p.ps.getD k Pr.z).vs.map (fU true)).length (bu ((p.ps.getD k Pr.z).vs.map (fU true)))]) .p17 be ?_ ?_
      · refine an ?_;intro C hC;refine aV (i:=3) rfl (ft ((p.ps.getD k Pr.z).vs.map (fU true)) [44] v (by rw[C_];omega) a_) ?_;have hlen:(pf p++qL true p.ps k).length<=200000000:=by rw[d_];omega
        refine xn ?_;repeat' first|exact .n|apply Lc.mk
        all_goals intros
        all_goals
          refine⟨(),⟨rfl,rfl,rfl,?_,rfl,rfl,rfl,trivial⟩,rfl⟩;rw[hsucc];unfold Tp;simp only[An,Lu,L_];rfl
      · intro _;refine an ?_;exact fG (k+1) a_ a_ ae aA
  · have hkk:k=p.ps.length:=by omega
    subst hkk;refine a7 mixed hC hGL false (λ(_:Unit)=>[(4,.str (pf p++qL c p.ps p.ps.length++[58]++p.v)),(5,.own 0 (.pointer (some ⟨b1,0,none⟩)))]) (λ_=>[.cells b1 (some 25) [.int .i64 0,.int .i64 (-1)],.cells b2 (some 25) [.int .i64 0,.int .i64 (-1)]]) (.t 0 (.t 1 (.t 2 (.t 3 (.t 4 (.b 5 (.t 6 (.b 7 .done)))))))) be ?_ ?_
    · refine xn ?_;repeat' first|exact .n|apply Lc.mk
      all_goals intros
      all_goals exact⟨(),⟨rfl,rfl,trivial⟩,rfl⟩
    · intro _;exact eK
end
section
def Pr.w (q:Pr):Nat:=q.n.length+q.vs.length+Lib.lens q.vs
def Ln.b (p:Ln):Nat:=p.ps.length+p.g.length+p.n.length+p.v.length
attribute [local irreducible] bJ au aa ax aR ab ad
end
section
attribute [local irreducible] bJ au aa ax aR ab ad iJ fo dm
theorem oB {G:Glo}(s:ω)(b:Bool)(hl:s.length<=9223372036854775807):ai prog G 100 [.str s,.bool b] (.bool (fo b s)):=by
 have hB:=BV (G:=G) s hl;refine aw func100 call100 λC hC hGL=> ?_;refine aH ?_;refine lp hC hGL (λi:Nat=>[(0,.str s),(1,.bool b),(8,.int .i64 (s.length:Nat)),(9,.int .i64 (i:Nat))]) (λ_=>[]) (λi=>i<=s.length/\∀j,j<i->iJ b (aa s j:Int)=false) (λi=>s.length-i) 0 ?_ ae rfl ?_
 ·exact⟨Nat.zero_le _,λj h=>absurd h (Uf _)⟩
 rintro i ⟨h1,h2⟩;refine xw ?_;repeat' first|exact .n|apply Lc.mk
 all_goals intros
 all_goals first
  |(apply aj;rw[QB (i:=i) a_ (by first|exact sx (.inl a_)|exact sx (.inr (.inl a_))|exact sx (.inr (.inr ⟨a_,by assumption⟩))) h2];rfl)
  |(refine cQ (i+1) ⟨a_,dj h2 (by first|exact C5 a_ (.inl a_)|exact C5 a_ (.inr (.inl a_))|exact C5 a_ (.inr (.inr ⟨a_,by assumption⟩)))⟩ a_ ae rfl)
  |(apply aj;rw[La (i:=i) a_ h2])
theorem CC {G:Glo}(s:ω)(f:Nat)(cs:List AVal)(p:Int->Bool)(hl:s.length<=9223372036854775807)(hp:∀c:Nat,c<256->ai prog G f [.int .u8 (c:Int),.rop cs 0] (.bool (p c))):ai prog G 72 [.str s,.func (.func f) [] [.rop cs 0]] (.int .i64 (gh p s)):=by
 have k1:=λi (_:0<=(aa s i:Int))=>hp (aa s i) (bB s i);refine aw func72 call72 λC hC hGL=> ?_;refine aH ?_;intro bl cap hcap;refine lp hC hGL (λ(i:Nat)=>[(1,.func (.func f) [] [.rop cs 0]),(8,.own 0 (.slice (some ⟨bl,0,none⟩) s.length cap)),(9,.int .i64 s.length),(10,.int .i64 i)]) (λ_=>[.buf bl s cap]) (λi=>i<=s.length/\∀j,j<i->p (aa s j:Int)=false) (λi=>s.length-i) 0 ?_ ae rfl ?_
 ·exact⟨Nat.zero_le _,λj h=>absurd h (Uf _)⟩
 rintro i ⟨hi,hb0⟩;refine xw ?_;repeat' first|exact .n|apply Lc.mk
 all_goals intros
 all_goals first
  |(apply aj;rw[mB (i:=i) a_ (by assumption) hb0])
  |(refine cQ (i+1) ⟨a_,dj hb0 (by assumption)⟩ a_ ae rfl)
  |(apply aj;rw[iZ (λj hj=>hb0 j a_)];rfl)
theorem Ib {G:Glo}(b:Bool)(c:Int):ai prog G 133 [.int .u8 c,.rop [.bool b] 0] (.bool (iJ b c)):=by
 have h:=mt (G:=G) c;refine aw func133 call133 λC hC hGL=> ?_;refine xw ?_;refine⟨λh1 h2=> ?_,λh1 h2=> ?_,λh1=> ?_,.n⟩;all_goals (apply aj;refine congrArg AVal.bool ?_;first|rw[Bj] at h1|rw[<-W_,Bj] at h1)
 ·rcases h1 with h1|h1
  ·exact(sx (.inl ⟨h1.1,h1.2,h2⟩)).symm
  ·exact(sx (.inr (.inl h1))).symm
 ·rw[w_];cases b
  ·rw[Bj];simp;omega
  ·rw[Vq];simp;omega
 ·cases b
  ·rw[w_,Bj];simp;omega
  ·rw[w_,Vq];simp;omega
theorem pY {G:Glo}(hU:ab G utfTy)(s:ω)(b:Bool)(hl:s.length<=9223372036854775807):ai prog G 75 [.str s,.bool b] (.bool (fo b s)):=by
 have h1:=CF hU s hl;have h2:=CC (G:=G) s 133 [.bool b] (iJ b) hl (λc _=>Ib b c);refine aw func75 call75 λC hC hGL=> ?_;refine xw ?_;refine⟨λh=> ?_,λh=> ?_,.n⟩;all_goals (apply aj;refine congrArg AVal.bool ?_;unfold fo;rw[w_];simp only[oo,n_,reduceCtorEq,false_iff];omega)
end
end Go.Proofs.YtgpjhbhdbjdlgaaGreatDoor
