/- Parts of the proof of cardParses_card. -/
import Derived.Test.YtnbaflecdkgihaaGreatDoorBap
set_option linter.unusedVariables false
set_option linter.unusedSimpArgs false
set_option linter.unusedSectionVars false
namespace Go.Proofs.YtnbaflecdkgihaaGreatDoor
open Go Go.RowKit
open Go.Proofs.Tryz Go.Proofs.YtnbaflecdkgihaaGreatDoor.Tryz
set_option maxRecDepth 20000
set_option maxHeartbeats 4000000
section
theorem kq {d t:List UInt8}{k j n:Nat}(hk:k<=6)(hd:aP d=bQ k)(h:dh t j n):TY k j (aI 45 d) (aI 45 (t.take n)) (t.drop n)=((mq d true t).1,(mq d true t).2.e):=by
 obtain⟨e1,e2⟩:=Bt h;have e3:=yr hk hd;have j1:=h.j1
 rw[TX hk h.j6 hd h.hs]
 have e:mq d true t=if t.drop n≠[]/\(bI (t.drop n)).2≠0 then(Stm.no,.errno (bI (t.drop n)).2) else o5 (GB k d j (t.take n) (t.drop n)):=by
  unfold mq
  rw[e1,e2,e3,if_neg (show ¬k=7 by omega),if_neg b_,if_neg (show ¬j=0 by omega)]
 rw[e]
 split<;>rfl
theorem UE {d t:List UInt8}{k:Nat}(hk:k<=6)(hd:aP d=bQ k):TY k 0 (aI 45 d) [] []=((mq d false t).1,(mq d false t).2.e):=by
 have e3:=yr hk hd;have:=TX (z:=[]) hk (Nat.zero_le 6) hd (show aP []=aX 0 from rfl);rw[show aI 45 []=[] from rfl] at this;rw[this,TP a_,e3,if_neg (by simp)]
def MR (t:List UInt8)(m:Nat):Prop:=∀j,1<=j->j<=m->¬dh t j (aX j).length
theorem Vw {t:List UInt8}:MR t 0:=λj h1 h2=>by omega
theorem cv {t:List UInt8}{m:Nat}(h:MR t m)(k:¬dh t (m+1) (aX (m+1)).length):MR t (m+1):=λj h1 h2=>by
 rcases YY m j with g|g
 ·rw[show j=m+1 by omega];exact k
 ·exact h j h1 g
theorem OQ {t:List UInt8}(h:MR t 6):oy t=0:=Decidable.byContradiction λk=>by
 have g:=Bs k;have e:=g.len;exact h _ g.j1 g.j6 (by rw[<-e];exact g)
def Yg (d t:List UInt8)(timed:Bool)(k:Nat):Prop:=k<=7/\((∀j,j<k->aP d≠bQ j)\/(mq d timed t=(Stm.no,.errno 3)/\∃j,j<k/\aP d=bQ j))
theorem wr {t:List UInt8}{n:Nat}(hn:n<t.length)(h:aa t n=90\/aa t n=43\/aa t n=45):aa (aP t) n≠57:=by
 rw[jD hn];unfold fO;rw[if_neg a_];omega
theorem Xw:aa [57,57,57,57] 2=57:=by decide
theorem Xv:aa [57,57,57,57,57,57] 4=57:=by decide
theorem Xu:aa [45,57,57,57,57] 3=57:=by decide
abbrev C7 (b2 b9 b11 k n m:Nat)(d t:List UInt8)(v:Bool):Env:=[(2,.own 0 (pW b2)),(4,.str d),(5,.str t),(6,.bool true),(26,.list 3 7 kT),(27,.int .i64 7),(28,.int .i64 (k:Nat)),(9,.own 1 (pW b9)),(11,.own 2 (pW b11)),(12,.int .i64 (n:Nat)),(47,.list 3 (7-1) (λi=>kT (1+i))),(48,.int .i64 6),(49,.int .i64 (m:Nat)),(68,.bool v)]
abbrev C6 (b2 b9 b11 k m:Nat):Heap:=[iP b2 0 0 0 0 0 0 false 0,.cells b9 (some 216) [.str (j3 k),.str (bQ k),.str (aX k)],.cells b11 (some 216) [.str (j3 m),.str (bQ m),.str (aX m)]]
abbrev C5:DPlan:=.take 0 (.t 1 (.t 2 (.t 3 (.t 4 (.t 5 (.t 6 (.t 7 (.t 9 (.t 10 (.b 8 (.t 11 (.t 12 .done))))))))))))
abbrev MV:DPlan:=.take 0 (.t 1 (.t 2 (.t 3 (.t 4 (.t 6 (.t 7 (.t 8 (.t 10 (.b 5 (.b 9 (.b 11 (.t 12 (.t 13 (.b 14 (.t 15 .done)))))))))))))))
attribute [local irreducible] bG au aa az aR ab ad
attribute [local irreducible] aP aI TY mq bI
theorem za {G:Glo}{m:Int}(hGL:ab G shapesTy)(hM:ab G (bP m))(s:List UInt8)(hl:s.length<=10000):ak prog G 77 [.str s] (.tuple [(Gp s).1.A,.int .i64 (Gp s).2.e]):=by
 have k1:=aL (G:=G) s 84 b_ b_;have hn:=Ky (s:=s) (c:=84);have hlen:=FP s 84;have hSh:=λx h=>tf (G:=G) x h
 have hcs:=call134
 have hA:=λx h=>strings_ReplaceAll (G:=G) hM x 45 h
 have hP:=λx y=>xZ (G:=G) x y
 have hX:=λc h0 h1=>aL (G:=G) [90,43,45] c h0 h1
 unfold Gp
 refine Ie func77 call77 rfl rfl rfl rfl ?_
 intro C hC
 refine gu hC hGL (λb2:Nat=>[(0,.str s),(2,.own 0 (pW b2))]) (λb2=>[iP b2 0 0 0 0 0 0 false 0]) (λ_=>True) ?_ λb2 _=> ?_
 ·refine ao ?_
  intro b2
  exact cy b2 trivial
 refine cut hC hGL [(0,.str s),(2,.own 0 (pW b2)),(4,.str s),(5,.str [])] [iP b2 0 0 0 0 0 0 false 0] True eK λ_=> ?_
 refine cut hC hGL [(0,.str s),(2,.own 0 (pW b2)),(4,.str s),(5,.str []),(6,.bool false)] [iP b2 0 0 0 0 0 0 false 0] True eK λ_=> ?_
 refine cut hC hGL [(2,.own 0 (pW b2)),(4,.str (fw s 84).1),(5,.str (fw s 84).2.1),(6,.bool (fw s 84).2.2)] [iP b2 0 0 0 0 0 0 false 0] True ?_ λ_=> ?_
 ·rcases lC s 84 with⟨h1,h2⟩|⟨m,h1,h2,h3,h4⟩
  ·have e:fw s 84=(s,[],false):=by unfold fw;rw[h1,if_pos b_]
   rw[h1] at k1
   rw[e]
   exact bB
  ·have e:fw s 84=(s.take m,s.drop (m+1),true):=by unfold fw;rw[h2,if_neg a_,B_]
   rw[h2] at k1
   rw[e]
   exact bB
 generalize (fw s 84).1=d at*
 generalize (fw s 84).2.1=t at*
 generalize (fw s 84).2.2=timed at*
 refine ay hC hGL (ao ?_)
 intros
 refine lp hC hGL (λk:Nat=>[(2,.own 0 (pW b2)),(4,.str d),(5,.str t),(6,.bool timed),(26,.list 3 7 kT),(27,.int .i64 7),(28,.int .i64 (k:Nat))]) (λ_=>[iP b2 0 0 0 0 0 0 false 0]) (Yg d t timed) (λk=>7-k) 0 ⟨b_,.inl λj h=>absurd h (Uf _)⟩ ah rfl ?_
 rintro k ⟨hk7,hI⟩
 by_cases hk:¬k<7
 ·have hr:mq d timed t=(Stm.no,.errno 3):=by
   rcases hI with h|⟨h,_⟩
   ·exact TR (It λj hj=>h j a_)
   ·exact h
  rw[hr]
  exact eK
 have hk:k<7:=Decidable.not_not.1 hk
 have hsh:=hSh d a_
 refine ao ?_
 intro b9
 intros
 refine cA mixed hC hGL true (λ_ _=>False) (λ_:Unit=>[(2,.own 0 (pW b2)),(4,.str d),(5,.str t),(6,.bool timed),(26,.list 3 7 kT),(27,.int .i64 7),(28,.int .i64 (k:Nat)),(9,.own 1 (pW b9)),(36,.bool (!aY (aP d) (bQ k)))]) (λ_=>[iP b2 0 0 0 0 0 0 false 0,.cells b9 (some 216) [.str (j3 k),.str (bQ k),.str (aX k)]]) (.t 0 (.t 2 (.t 3 (.b 1 (.t 4 .done))))) be xu ?_ (λ_ _ h=>h.elim)
 intro _
 by_cases he:¬aP d=bQ k
 ·refine ao ?_
  intros
  refine ga (k+1) ⟨a_,?_⟩ a_ ah aF
  rcases hI with h|⟨h,j,hj,h2⟩
  ·exact .inl (dj h he)
  ·exact .inr ⟨h,j,a_,h2⟩
 have he:aP d=bQ k:=Decidable.not_not.1 he
 have hJ:∀j,j<k->aP d≠bQ j:=by
  rcases hI with h|⟨h,j,hj,h2⟩
  ·exact h
  ·exact absurd (FL a_ a_ (h2.symm.trans he)) a_
 obtain⟨u1,u2, -⟩:=Dq a_ he
 have hra:=hA d a_
 cases timed with
 |false=>
  have hst:=cC (G:=G) hM hGL k 0 a_ b_ (aI 45 d) [] [] u1 u2 rfl (λj _ h=>absurd h (Uf _)) (by simp)
  rw[UE (t:=t) a_ he] at hst
  generalize mq d false t=W at*
  obtain⟨w,ew⟩:=W
  dsimp only at hst ⊢
  refine ao ?_
  intros
  refine eq (aA (i:=1) (k:=9) rfl rfl) ?_
  refine cA mixed hC hGL false (λ_ _=>False) (λ_:Unit=>[(2,.own 0 (pW b2)),(3,.int .i64 ew.e)]) (λ_=>[iP b2 w.y w.m w.d w.h w.i w.s w.z w.o]) (.t 0 (.t 1 (.t 2 (.b 3 (.b 4 (.t 5 (.t 6 (.b 7 (.t 8 .done))))))))) be xu ?_ (λ_ _ h=>h.elim)
  ·intro _
   exact eK
 |true=>
  have hcont:MR t 6->Yg d t true (k+1):=λh=>⟨a_,.inr ⟨Nb (by rw[yr a_ he];omega) (OQ h),k,a_,he⟩⟩
  refine ao ?_
  intros
  refine lp hC hGL (λj:Nat=>[(2,.own 0 (pW b2)),(4,.str d),(5,.str t),(6,.bool true),(26,.list 3 7 kT),(27,.int .i64 7),(28,.int .i64 (k:Nat)),(9,.own 1 (pW b9)),(47,.list 3 (7-1) (λi=>kT (1+i))),(48,.int .i64 6),(49,.int .i64 (j:Nat))]) (λ_=>[iP b2 0 0 0 0 0 0 false 0,.cells b9 (some 216) [.str (j3 k),.str (bQ k),.str (aX k)]]) (λj=>j<=6/\MR t j) (λj=>6-j) 0 ⟨b_,Vw⟩ ah rfl ?_
  rintro j ⟨hj6,hno⟩
  rcases(show j=0\/j=1\/j=2\/j=3\/j=4\/j=5\/j=6 by omega) with rfl|rfl|rfl|rfl|rfl|rfl|rfl
  ·as_aux_lemma=>
    have hcl:(aX 1).length=2:=rfl
    have hcl2:(aX (1+0)).length=2:=rfl
    refine ao ?_
    intro b11
    intros
    by_cases h1:t.length<2
    ·have hns:¬dh t 1 (aX 1).length:=λh=>by have:=h.hn;omega
     refine cA mixed hC hGL true (λ_ _=>False) (λ_:Unit=>C7 b2 b9 b11 k 2 0 d t true) (λ_=>C6 b2 b9 b11 k 1) C5 be xu ?_ (λ_ _ h=>h.elim)
     intro _
     refine ao ?_
     intros
     exact ga 1 ⟨b_,cv hno hns⟩ b_ ah aF
    have hs2:=hSh (t.take 2) (by rw[i_];omega)
    by_cases h2:¬aP (t.take 2)=aX 1
    ·have hns:¬dh t 1 (aX 1).length:=λh=>h2 h.hs
     refine cA mixed hC hGL true (λ_ _=>False) (λ_:Unit=>C7 b2 b9 b11 k 2 0 d t (!aY (aP (t.take 2)) (aX 1))) (λ_=>C6 b2 b9 b11 k 1) C5 be xu ?_ (λ_ _ h=>h.elim)
     intro _
     refine ao ?_
     intros
     exact ga 1 ⟨b_,cv hno hns⟩ b_ ah aF
    have h2:aP (t.take 2)=aX 1:=Decidable.not_not.1 h2
    refine cA mixed hC hGL true (λ_ _=>False) (λ_:Unit=>C7 b2 b9 b11 k 2 0 d t (!aY (aP (t.take 2)) (aX 1))) (λ_=>C6 b2 b9 b11 k 1) C5 be xu ?_ (λ_ _ h=>h.elim)
    intro _
    have hs3:=hSh t a_
    have hp3:=hP (aP t) [57,57,57,57]
    have hls:=rC t
    by_cases h3:t.length=2
    ·have hsp:dh t 1 2:=⟨b_,b_,a_,h2,.inl h3.symm⟩
     have hd0:(t.drop 2).length=0:=by rw[k_];omega
     rw[wY (by rw[hls,h3];decide)] at hp3
     have hra2:=hA (t.take 2) (by rw[i_];omega)
     obtain⟨v1,v2, -⟩:=gy (i:=1) b_ h2
     have hst:=cC (G:=G) hM hGL k 1 a_ b_ (aI 45 d) (aI 45 (t.take 2)) (t.drop 2) u1 u2 v1 v2 (by rw[k_];omega)
     rw[kq a_ he hsp] at hst
     generalize mq d true t=W at*
     obtain⟨w,ew⟩:=W
     dsimp only at hst ⊢
     refine ao ?_
     intros
     refine eq (an (aA (i:=2) (k:=11) rfl rfl) (aA (i:=1) (k:=9) rfl rfl)) ?_
     refine cA mixed hC hGL false (λ_ _=>False) (λ_:Unit=>[(2,.own 0 (pW b2)),(3,.int .i64 ew.e)]) (λ_=>[iP b2 w.y w.m w.d w.h w.i w.s w.z w.o]) MV be xu ?_ (λ_ _ h=>h.elim)
     ·intro _
      exact eK
    have hdn:(t.drop 2).length≠0:=by rw[k_];omega
    have hbz:aa (t.drop 2) 0=aa t 2:=by rw[cW]
    have hb9:=bu (t.drop 2) 0
    have hx:=hX (aa (t.drop 2) 0:Int) a_ a_
    by_cases h4:aa t 2=90\/aa t 2=43\/aa t 2=45
    ·have hsp:dh t 1 2:=⟨b_,b_,a_,h2,.inr h4⟩
     have hix:0<=aS [90,43,45] (aa (t.drop 2) 0:Int):=fP.2 a_
     rw[Hq (n:=2) b_ (λe=>wr (t:=t) (n:=2) a_ h4 (e.symm.trans Xw))] at hp3
     generalize aS [90,43,45] (aa (t.drop 2) 0:Int)=ix at*
     have hra2:=hA (t.take 2) (by rw[i_];omega)
     obtain⟨v1,v2, -⟩:=gy (i:=1) b_ h2
     have hst:=cC (G:=G) hM hGL k 1 a_ b_ (aI 45 d) (aI 45 (t.take 2)) (t.drop 2) u1 u2 v1 v2 (by rw[k_];omega)
     rw[kq a_ he hsp] at hst
     generalize mq d true t=W at*
     obtain⟨w,ew⟩:=W
     dsimp only at hst ⊢
     refine ao ?_
     intros
     refine eq (an (aA (i:=2) (k:=11) rfl rfl) (aA (i:=1) (k:=9) rfl rfl)) ?_
     refine cA mixed hC hGL false (λ_ _=>False) (λ_:Unit=>[(2,.own 0 (pW b2)),(3,.int .i64 ew.e)]) (λ_=>[iP b2 w.y w.m w.d w.h w.i w.s w.z w.o]) MV be xu ?_ (λ_ _ h=>h.elim)
     ·intro _
      exact eK
    ·have hns:¬dh t 1 (aX 1).length:=λh=>by have:=h.hz;rw[hcl] at this;omega
     have hix:¬0<=aS [90,43,45] (aa (t.drop 2) 0:Int):=λh=>by have:=fP.1 h;omega
     generalize aS [90,43,45] (aa (t.drop 2) 0:Int)=ix at*
     refine ao ?_
     intros
     exact ga 1 ⟨b_,cv hno hns⟩ b_ ah aF
  ·as_aux_lemma=>
    have hcl:(aX 2).length=4:=rfl
    have hcl2:(aX (1+1)).length=4:=rfl
    refine ao ?_
    intro b11
    intros
    by_cases h1:t.length<4
    ·have hns:¬dh t 2 (aX 2).length:=λh=>by have:=h.hn;omega
     refine cA mixed hC hGL true (λ_ _=>False) (λ_:Unit=>C7 b2 b9 b11 k 4 1 d t true) (λ_=>C6 b2 b9 b11 k 2) C5 be xu ?_ (λ_ _ h=>h.elim)
     intro _
     refine ao ?_
     intros
     exact ga 2 ⟨b_,cv hno hns⟩ b_ ah aF
    have hs2:=hSh (t.take 4) (by rw[i_];omega)
    by_cases h2:¬aP (t.take 4)=aX 2
    ·have hns:¬dh t 2 (aX 2).length:=λh=>h2 h.hs
     refine cA mixed hC hGL true (λ_ _=>False) (λ_:Unit=>C7 b2 b9 b11 k 4 1 d t (!aY (aP (t.take 4)) (aX 2))) (λ_=>C6 b2 b9 b11 k 2) C5 be xu ?_ (λ_ _ h=>h.elim)
     intro _
     refine ao ?_
     intros
     exact ga 2 ⟨b_,cv hno hns⟩ b_ ah aF
    have h2:aP (t.take 4)=aX 2:=Decidable.not_not.1 h2
    refine cA mixed hC hGL true (λ_ _=>False) (λ_:Unit=>C7 b2 b9 b11 k 4 1 d t (!aY (aP (t.take 4)) (aX 2))) (λ_=>C6 b2 b9 b11 k 2) C5 be xu ?_ (λ_ _ h=>h.elim)
    intro _
    have hs3:=hSh t a_
    have hp3:=hP (aP t) [57,57,57,57,57,57]
    have hls:=rC t
    by_cases h3:t.length=4
    ·have hsp:dh t 2 4:=⟨b_,b_,a_,h2,.inl h3.symm⟩
     have hd0:(t.drop 4).length=0:=by rw[k_];omega
     rw[wY (by rw[hls,h3];decide)] at hp3
     have hra2:=hA (t.take 4) (by rw[i_];omega)
     obtain⟨v1,v2, -⟩:=gy (i:=2) b_ h2
     have hst:=cC (G:=G) hM hGL k 2 a_ b_ (aI 45 d) (aI 45 (t.take 4)) (t.drop 4) u1 u2 v1 v2 (by rw[k_];omega)
     rw[kq a_ he hsp] at hst
     generalize mq d true t=W at*
     obtain⟨w,ew⟩:=W
     dsimp only at hst ⊢
     refine ao ?_
     intros
     refine eq (an (aA (i:=2) (k:=11) rfl rfl) (aA (i:=1) (k:=9) rfl rfl)) ?_
     refine cA mixed hC hGL false (λ_ _=>False) (λ_:Unit=>[(2,.own 0 (pW b2)),(3,.int .i64 ew.e)]) (λ_=>[iP b2 w.y w.m w.d w.h w.i w.s w.z w.o]) MV be xu ?_ (λ_ _ h=>h.elim)
     ·intro _
      exact eK
    have hdn:(t.drop 4).length≠0:=by rw[k_];omega
    have hbz:aa (t.drop 4) 0=aa t 4:=by rw[cW]
    have hb9:=bu (t.drop 4) 0
    have hx:=hX (aa (t.drop 4) 0:Int) a_ a_
    by_cases h4:aa t 4=90\/aa t 4=43\/aa t 4=45
    ·have hsp:dh t 2 4:=⟨b_,b_,a_,h2,.inr h4⟩
     have hix:0<=aS [90,43,45] (aa (t.drop 4) 0:Int):=fP.2 a_
     rw[Hq (n:=4) b_ (λe=>wr (t:=t) (n:=4) a_ h4 (e.symm.trans Xv))] at hp3
     generalize aS [90,43,45] (aa (t.drop 4) 0:Int)=ix at*
     have hra2:=hA (t.take 4) (by rw[i_];omega)
     obtain⟨v1,v2, -⟩:=gy (i:=2) b_ h2
     have hst:=cC (G:=G) hM hGL k 2 a_ b_ (aI 45 d) (aI 45 (t.take 4)) (t.drop 4) u1 u2 v1 v2 (by rw[k_];omega)
     rw[kq a_ he hsp] at hst
     generalize mq d true t=W at*
     obtain⟨w,ew⟩:=W
     dsimp only at hst ⊢
     refine ao ?_
     intros
     refine eq (an (aA (i:=2) (k:=11) rfl rfl) (aA (i:=1) (k:=9) rfl rfl)) ?_
     refine cA mixed hC hGL false (λ_ _=>False) (λ_:Unit=>[(2,.own 0 (pW b2)),(3,.int .i64 ew.e)]) (λ_=>[iP b2 w.y w.m w.d w.h w.i w.s w.z w.o]) MV be xu ?_ (λ_ _ h=>h.elim)
     ·intro _
      exact eK
    ·have hns:¬dh t 2 (aX 2).length:=λh=>by have:=h.hz;rw[hcl] at this;omega
     have hix:¬0<=aS [90,43,45] (aa (t.drop 4) 0:Int):=λh=>by have:=fP.1 h;omega
     generalize aS [90,43,45] (aa (t.drop 4) 0:Int)=ix at*
     refine ao ?_
     intros
     exact ga 2 ⟨b_,cv hno hns⟩ b_ ah aF
  ·as_aux_lemma=>
    have hcl:(aX 3).length=6:=rfl
    have hcl2:(aX (1+2)).length=6:=rfl
    refine ao ?_
    intro b11
    intros
    by_cases h1:t.length<6
    ·have hns:¬dh t 3 (aX 3).length:=λh=>by have:=h.hn;omega
     refine cA mixed hC hGL true (λ_ _=>False) (λ_:Unit=>C7 b2 b9 b11 k 6 2 d t true) (λ_=>C6 b2 b9 b11 k 3) C5 be xu ?_ (λ_ _ h=>h.elim)
     intro _
     refine ao ?_
     intros
     exact ga 3 ⟨b_,cv hno hns⟩ b_ ah aF
    have hs2:=hSh (t.take 6) (by rw[i_];omega)
    by_cases h2:¬aP (t.take 6)=aX 3
    ·have hns:¬dh t 3 (aX 3).length:=λh=>h2 h.hs
     refine cA mixed hC hGL true (λ_ _=>False) (λ_:Unit=>C7 b2 b9 b11 k 6 2 d t (!aY (aP (t.take 6)) (aX 3))) (λ_=>C6 b2 b9 b11 k 3) C5 be xu ?_ (λ_ _ h=>h.elim)
     intro _
     refine ao ?_
     intros
     exact ga 3 ⟨b_,cv hno hns⟩ b_ ah aF
    have h2:aP (t.take 6)=aX 3:=Decidable.not_not.1 h2
    refine cA mixed hC hGL true (λ_ _=>False) (λ_:Unit=>C7 b2 b9 b11 k 6 2 d t (!aY (aP (t.take 6)) (aX 3))) (λ_=>C6 b2 b9 b11 k 3) C5 be xu ?_ (λ_ _ h=>h.elim)
    intro _
    by_cases h3:t.length=6
    ·have hsp:dh t 3 6:=⟨b_,b_,a_,h2,.inl h3.symm⟩
     have hd0:(t.drop 6).length=0:=by rw[k_];omega
     have hra2:=hA (t.take 6) (by rw[i_];omega)
     obtain⟨v1,v2, -⟩:=gy (i:=3) b_ h2
     have hst:=cC (G:=G) hM hGL k 3 a_ b_ (aI 45 d) (aI 45 (t.take 6)) (t.drop 6) u1 u2 v1 v2 (by rw[k_];omega)
     rw[kq a_ he hsp] at hst
     generalize mq d true t=W at*
     obtain⟨w,ew⟩:=W
     dsimp only at hst ⊢
     refine ao ?_
     intros
     refine eq (an (aA (i:=2) (k:=11) rfl rfl) (aA (i:=1) (k:=9) rfl rfl)) ?_
     refine cA mixed hC hGL false (λ_ _=>False) (λ_:Unit=>[(2,.own 0 (pW b2)),(3,.int .i64 ew.e)]) (λ_=>[iP b2 w.y w.m w.d w.h w.i w.s w.z w.o]) MV be xu ?_ (λ_ _ h=>h.elim)
     ·intro _
      exact eK
    have hdn:(t.drop 6).length≠0:=by rw[k_];omega
    have hbz:aa (t.drop 6) 0=aa t 6:=by rw[cW]
    have hb9:=bu (t.drop 6) 0
    have hx:=hX (aa (t.drop 6) 0:Int) a_ a_
    by_cases h4:aa t 6=90\/aa t 6=43\/aa t 6=45
    ·have hsp:dh t 3 6:=⟨b_,b_,a_,h2,.inr h4⟩
     have hix:0<=aS [90,43,45] (aa (t.drop 6) 0:Int):=fP.2 a_
     generalize aS [90,43,45] (aa (t.drop 6) 0:Int)=ix at*
     have hra2:=hA (t.take 6) (by rw[i_];omega)
     obtain⟨v1,v2, -⟩:=gy (i:=3) b_ h2
     have hst:=cC (G:=G) hM hGL k 3 a_ b_ (aI 45 d) (aI 45 (t.take 6)) (t.drop 6) u1 u2 v1 v2 (by rw[k_];omega)
     rw[kq a_ he hsp] at hst
     generalize mq d true t=W at*
     obtain⟨w,ew⟩:=W
     dsimp only at hst ⊢
     refine ao ?_
     intros
     refine eq (an (aA (i:=2) (k:=11) rfl rfl) (aA (i:=1) (k:=9) rfl rfl)) ?_
     refine cA mixed hC hGL false (λ_ _=>False) (λ_:Unit=>[(2,.own 0 (pW b2)),(3,.int .i64 ew.e)]) (λ_=>[iP b2 w.y w.m w.d w.h w.i w.s w.z w.o]) MV be xu ?_ (λ_ _ h=>h.elim)
     ·intro _
      exact eK
    ·have hns:¬dh t 3 (aX 3).length:=λh=>by have:=h.hz;rw[hcl] at this;omega
     have hix:¬0<=aS [90,43,45] (aa (t.drop 6) 0:Int):=λh=>by have:=fP.1 h;omega
     generalize aS [90,43,45] (aa (t.drop 6) 0:Int)=ix at*
     refine ao ?_
     intros
     exact ga 3 ⟨b_,cv hno hns⟩ b_ ah aF
  ·as_aux_lemma=>
    have hcl:(aX 4).length=3:=rfl
    have hcl2:(aX (1+3)).length=3:=rfl
    refine ao ?_
    intro b11
    intros
    by_cases h1:t.length<3
    ·have hns:¬dh t 4 (aX 4).length:=λh=>by have:=h.hn;omega
     refine cA mixed hC hGL true (λ_ _=>False) (λ_:Unit=>C7 b2 b9 b11 k 3 3 d t true) (λ_=>C6 b2 b9 b11 k 4) C5 be xu ?_ (λ_ _ h=>h.elim)
     intro _
     refine ao ?_
     intros
     exact ga 4 ⟨b_,cv hno hns⟩ b_ ah aF
    have hs2:=hSh (t.take 3) (by rw[i_];omega)
    by_cases h2:¬aP (t.take 3)=aX 4
    ·have hns:¬dh t 4 (aX 4).length:=λh=>h2 h.hs
     refine cA mixed hC hGL true (λ_ _=>False) (λ_:Unit=>C7 b2 b9 b11 k 3 3 d t (!aY (aP (t.take 3)) (aX 4))) (λ_=>C6 b2 b9 b11 k 4) C5 be xu ?_ (λ_ _ h=>h.elim)
     intro _
     refine ao ?_
     intros
     exact ga 4 ⟨b_,cv hno hns⟩ b_ ah aF
    have h2:aP (t.take 3)=aX 4:=Decidable.not_not.1 h2
    refine cA mixed hC hGL true (λ_ _=>False) (λ_:Unit=>C7 b2 b9 b11 k 3 3 d t (!aY (aP (t.take 3)) (aX 4))) (λ_=>C6 b2 b9 b11 k 4) C5 be xu ?_ (λ_ _ h=>h.elim)
    intro _
    have hs3:=hSh t a_
    have hp3:=hP (aP t) [45,57,57,57,57]
    have hls:=rC t
    by_cases h3:t.length=3
    ·have hsp:dh t 4 3:=⟨b_,b_,a_,h2,.inl h3.symm⟩
     have hd0:(t.drop 3).length=0:=by rw[k_];omega
     rw[wY (by rw[hls,h3];decide)] at hp3
     have hra2:=hA (t.take 3) (by rw[i_];omega)
     obtain⟨v1,v2, -⟩:=gy (i:=4) b_ h2
     have hst:=cC (G:=G) hM hGL k 4 a_ b_ (aI 45 d) (aI 45 (t.take 3)) (t.drop 3) u1 u2 v1 v2 (by rw[k_];omega)
     rw[kq a_ he hsp] at hst
     generalize mq d true t=W at*
     obtain⟨w,ew⟩:=W
     dsimp only at hst ⊢
     refine ao ?_
     intros
     refine eq (an (aA (i:=2) (k:=11) rfl rfl) (aA (i:=1) (k:=9) rfl rfl)) ?_
     refine cA mixed hC hGL false (λ_ _=>False) (λ_:Unit=>[(2,.own 0 (pW b2)),(3,.int .i64 ew.e)]) (λ_=>[iP b2 w.y w.m w.d w.h w.i w.s w.z w.o]) MV be xu ?_ (λ_ _ h=>h.elim)
     ·intro _
      exact eK
    have hdn:(t.drop 3).length≠0:=by rw[k_];omega
    have hbz:aa (t.drop 3) 0=aa t 3:=by rw[cW]
    have hb9:=bu (t.drop 3) 0
    have hx:=hX (aa (t.drop 3) 0:Int) a_ a_
    by_cases h4:aa t 3=90\/aa t 3=43\/aa t 3=45
    ·have hsp:dh t 4 3:=⟨b_,b_,a_,h2,.inr h4⟩
     have hix:0<=aS [90,43,45] (aa (t.drop 3) 0:Int):=fP.2 a_
     rw[Hq (n:=3) b_ (λe=>wr (t:=t) (n:=3) a_ h4 (e.symm.trans Xu))] at hp3
     generalize aS [90,43,45] (aa (t.drop 3) 0:Int)=ix at*
     have hra2:=hA (t.take 3) (by rw[i_];omega)
     obtain⟨v1,v2, -⟩:=gy (i:=4) b_ h2
     have hst:=cC (G:=G) hM hGL k 4 a_ b_ (aI 45 d) (aI 45 (t.take 3)) (t.drop 3) u1 u2 v1 v2 (by rw[k_];omega)
     rw[kq a_ he hsp] at hst
     generalize mq d true t=W at*
     obtain⟨w,ew⟩:=W
     dsimp only at hst ⊢
     refine ao ?_
     intros
     refine eq (an (aA (i:=2) (k:=11) rfl rfl) (aA (i:=1) (k:=9) rfl rfl)) ?_
     refine cA mixed hC hGL false (λ_ _=>False) (λ_:Unit=>[(2,.own 0 (pW b2)),(3,.int .i64 ew.e)]) (λ_=>[iP b2 w.y w.m w.d w.h w.i w.s w.z w.o]) MV be xu ?_ (λ_ _ h=>h.elim)
     ·intro _
      exact eK
    ·have hns:¬dh t 4 (aX 4).length:=λh=>by have:=h.hz;rw[hcl] at this;omega
     have hix:¬0<=aS [90,43,45] (aa (t.drop 3) 0:Int):=λh=>by have:=fP.1 h;omega
     generalize aS [90,43,45] (aa (t.drop 3) 0:Int)=ix at*
     refine ao ?_
     intros
     exact ga 4 ⟨b_,cv hno hns⟩ b_ ah aF
  ·as_aux_lemma=>
    have hcl:(aX 5).length=5:=rfl
    have hcl2:(aX (1+4)).length=5:=rfl
    refine ao ?_
    intro b11
    intros
    by_cases h1:t.length<5
    ·have hns:¬dh t 5 (aX 5).length:=λh=>by have:=h.hn;omega
     refine cA mixed hC hGL true (λ_ _=>False) (λ_:Unit=>C7 b2 b9 b11 k 5 4 d t true) (λ_=>C6 b2 b9 b11 k 5) C5 be xu ?_ (λ_ _ h=>h.elim)
     intro _
     refine ao ?_
     intros
     exact ga 5 ⟨b_,cv hno hns⟩ b_ ah aF
    have hs2:=hSh (t.take 5) (by rw[i_];omega)
    by_cases h2:¬aP (t.take 5)=aX 5
    ·have hns:¬dh t 5 (aX 5).length:=λh=>h2 h.hs
     refine cA mixed hC hGL true (λ_ _=>False) (λ_:Unit=>C7 b2 b9 b11 k 5 4 d t (!aY (aP (t.take 5)) (aX 5))) (λ_=>C6 b2 b9 b11 k 5) C5 be xu ?_ (λ_ _ h=>h.elim)
     intro _
     refine ao ?_
     intros
     exact ga 5 ⟨b_,cv hno hns⟩ b_ ah aF
    have h2:aP (t.take 5)=aX 5:=Decidable.not_not.1 h2
    refine cA mixed hC hGL true (λ_ _=>False) (λ_:Unit=>C7 b2 b9 b11 k 5 4 d t (!aY (aP (t.take 5)) (aX 5))) (λ_=>C6 b2 b9 b11 k 5) C5 be xu ?_ (λ_ _ h=>h.elim)
    intro _
    by_cases h3:t.length=5
    ·have hsp:dh t 5 5:=⟨b_,b_,a_,h2,.inl h3.symm⟩
     have hd0:(t.drop 5).length=0:=by rw[k_];omega
     have hra2:=hA (t.take 5) (by rw[i_];omega)
     obtain⟨v1,v2, -⟩:=gy (i:=5) b_ h2
     have hst:=cC (G:=G) hM hGL k 5 a_ b_ (aI 45 d) (aI 45 (t.take 5)) (t.drop 5) u1 u2 v1 v2 (by rw[k_];omega)
     rw[kq a_ he hsp] at hst
     generalize mq d true t=W at*
     obtain⟨w,ew⟩:=W
     dsimp only at hst ⊢
     refine ao ?_
     intros
     refine eq (an (aA (i:=2) (k:=11) rfl rfl) (aA (i:=1) (k:=9) rfl rfl)) ?_
     refine cA mixed hC hGL false (λ_ _=>False) (λ_:Unit=>[(2,.own 0 (pW b2)),(3,.int .i64 ew.e)]) (λ_=>[iP b2 w.y w.m w.d w.h w.i w.s w.z w.o]) MV be xu ?_ (λ_ _ h=>h.elim)
     ·intro _
      exact eK
    have hdn:(t.drop 5).length≠0:=by rw[k_];omega
    have hbz:aa (t.drop 5) 0=aa t 5:=by rw[cW]
    have hb9:=bu (t.drop 5) 0
    have hx:=hX (aa (t.drop 5) 0:Int) a_ a_
    by_cases h4:aa t 5=90\/aa t 5=43\/aa t 5=45
    ·have hsp:dh t 5 5:=⟨b_,b_,a_,h2,.inr h4⟩
     have hix:0<=aS [90,43,45] (aa (t.drop 5) 0:Int):=fP.2 a_
     generalize aS [90,43,45] (aa (t.drop 5) 0:Int)=ix at*
     have hra2:=hA (t.take 5) (by rw[i_];omega)
     obtain⟨v1,v2, -⟩:=gy (i:=5) b_ h2
     have hst:=cC (G:=G) hM hGL k 5 a_ b_ (aI 45 d) (aI 45 (t.take 5)) (t.drop 5) u1 u2 v1 v2 (by rw[k_];omega)
     rw[kq a_ he hsp] at hst
     generalize mq d true t=W at*
     obtain⟨w,ew⟩:=W
     dsimp only at hst ⊢
     refine ao ?_
     intros
     refine eq (an (aA (i:=2) (k:=11) rfl rfl) (aA (i:=1) (k:=9) rfl rfl)) ?_
     refine cA mixed hC hGL false (λ_ _=>False) (λ_:Unit=>[(2,.own 0 (pW b2)),(3,.int .i64 ew.e)]) (λ_=>[iP b2 w.y w.m w.d w.h w.i w.s w.z w.o]) MV be xu ?_ (λ_ _ h=>h.elim)
     ·intro _
      exact eK
    ·have hns:¬dh t 5 (aX 5).length:=λh=>by have:=h.hz;rw[hcl] at this;omega
     have hix:¬0<=aS [90,43,45] (aa (t.drop 5) 0:Int):=λh=>by have:=fP.1 h;omega
     generalize aS [90,43,45] (aa (t.drop 5) 0:Int)=ix at*
     refine ao ?_
     intros
     exact ga 5 ⟨b_,cv hno hns⟩ b_ ah aF
  ·as_aux_lemma=>
    have hcl:(aX 6).length=4:=rfl
    have hcl2:(aX (1+5)).length=4:=rfl
    refine ao ?_
    intro b11
    intros
    by_cases h1:t.length<4
    ·have hns:¬dh t 6 (aX 6).length:=λh=>by have:=h.hn;omega
     refine cA mixed hC hGL true (λ_ _=>False) (λ_:Unit=>C7 b2 b9 b11 k 4 5 d t true) (λ_=>C6 b2 b9 b11 k 6) C5 be xu ?_ (λ_ _ h=>h.elim)
     intro _
     refine ao ?_
     intros
     exact ga 6 ⟨b_,cv hno hns⟩ b_ ah aF
    have hs2:=hSh (t.take 4) (by rw[i_];omega)
    by_cases h2:¬aP (t.take 4)=aX 6
    ·have hns:¬dh t 6 (aX 6).length:=λh=>h2 h.hs
     refine cA mixed hC hGL true (λ_ _=>False) (λ_:Unit=>C7 b2 b9 b11 k 4 5 d t (!aY (aP (t.take 4)) (aX 6))) (λ_=>C6 b2 b9 b11 k 6) C5 be xu ?_ (λ_ _ h=>h.elim)
     intro _
     refine ao ?_
     intros
     exact ga 6 ⟨b_,cv hno hns⟩ b_ ah aF
    have h2:aP (t.take 4)=aX 6:=Decidable.not_not.1 h2
    refine cA mixed hC hGL true (λ_ _=>False) (λ_:Unit=>C7 b2 b9 b11 k 4 5 d t (!aY (aP (t.take 4)) (aX 6))) (λ_=>C6 b2 b9 b11 k 6) C5 be xu ?_ (λ_ _ h=>h.elim)
    intro _
    by_cases h3:t.length=4
    ·have hsp:dh t 6 4:=⟨b_,b_,a_,h2,.inl h3.symm⟩
     have hd0:(t.drop 4).length=0:=by rw[k_];omega
     have hra2:=hA (t.take 4) (by rw[i_];omega)
     obtain⟨v1,v2, -⟩:=gy (i:=6) b_ h2
     have hst:=cC (G:=G) hM hGL k 6 a_ b_ (aI 45 d) (aI 45 (t.take 4)) (t.drop 4) u1 u2 v1 v2 (by rw[k_];omega)
     rw[kq a_ he hsp] at hst
     generalize mq d true t=W at*
     obtain⟨w,ew⟩:=W
     dsimp only at hst ⊢
     refine ao ?_
     intros
     refine eq (an (aA (i:=2) (k:=11) rfl rfl) (aA (i:=1) (k:=9) rfl rfl)) ?_
     refine cA mixed hC hGL false (λ_ _=>False) (λ_:Unit=>[(2,.own 0 (pW b2)),(3,.int .i64 ew.e)]) (λ_=>[iP b2 w.y w.m w.d w.h w.i w.s w.z w.o]) MV be xu ?_ (λ_ _ h=>h.elim)
     ·intro _
      exact eK
    have hdn:(t.drop 4).length≠0:=by rw[k_];omega
    have hbz:aa (t.drop 4) 0=aa t 4:=by rw[cW]
    have hb9:=bu (t.drop 4) 0
    have hx:=hX (aa (t.drop 4) 0:Int) a_ a_
    by_cases h4:aa t 4=90\/aa t 4=43\/aa t 4=45
    ·have hsp:dh t 6 4:=⟨b_,b_,a_,h2,.inr h4⟩
     have hix:0<=aS [90,43,45] (aa (t.drop 4) 0:Int):=fP.2 a_
     generalize aS [90,43,45] (aa (t.drop 4) 0:Int)=ix at*
     have hra2:=hA (t.take 4) (by rw[i_];omega)
     obtain⟨v1,v2, -⟩:=gy (i:=6) b_ h2
     have hst:=cC (G:=G) hM hGL k 6 a_ b_ (aI 45 d) (aI 45 (t.take 4)) (t.drop 4) u1 u2 v1 v2 (by rw[k_];omega)
     rw[kq a_ he hsp] at hst
     generalize mq d true t=W at*
     obtain⟨w,ew⟩:=W
     dsimp only at hst ⊢
     refine ao ?_
     intros
     refine eq (an (aA (i:=2) (k:=11) rfl rfl) (aA (i:=1) (k:=9) rfl rfl)) ?_
     refine cA mixed hC hGL false (λ_ _=>False) (λ_:Unit=>[(2,.own 0 (pW b2)),(3,.int .i64 ew.e)]) (λ_=>[iP b2 w.y w.m w.d w.h w.i w.s w.z w.o]) MV be xu ?_ (λ_ _ h=>h.elim)
     ·intro _
      exact eK
    ·have hns:¬dh t 6 (aX 6).length:=λh=>by have:=h.hz;rw[hcl] at this;omega
     have hix:¬0<=aS [90,43,45] (aa (t.drop 4) 0:Int):=λh=>by have:=fP.1 h;omega
     generalize aS [90,43,45] (aa (t.drop 4) 0:Int)=ix at*
     refine ao ?_
     intros
     exact ga 6 ⟨b_,cv hno hns⟩ b_ ah aF
  ·as_aux_lemma=>
    refine ao ?_
    intros
    exact ga (k+1) (hcont hno) a_ ah aF
end
section
theorem sm:∀(n:Nat) (s:List UInt8) (i:Nat),s.length<=n->(a7 s i).e=0->a7 s i= .none
 |_,[],_,_,_=>rfl
 |0,c::r,_,hn,_=>by simp at hn
 |n+1,c::r,i,hn,he=>by
  have hn:r.length<=n:=by simpa using hn
  by_cases hc:c=92
  ·subst hc;cases r with
   |nil=>simp[a7,Err.e] at he
   |cons d r=>
    by_cases hd:okE d=true
    ·rw[o6 hd] at he ⊢;exact sm n r _ (by simp at hn;omega) he
    ·simp[a7,hd,Err.e] at he
  ·rw[o7 hc] at he ⊢;exact sm n r _ hn he
theorem Rr (s:List UInt8)(h:(gx s).e=0):gx s= .none:=by
 unfold gx at h ⊢
 (repeat' split at h)<;>first|(exfalso;revert h;simp[Err.e];done)|(rename_i h1 h2 h3;rw[if_neg h1,if_neg h2,if_neg h3])
theorem E5:∀(l:List (List UInt8)) (b:Bool) (a:Nat),(fa b a l).e=0->fa b a l= .none
 |[],_,_,_=>rfl
 |x::xs,b,a,h=>by
  rw[qW] at h ⊢;split at h
  ·rename_i k;rw[if_pos k];exact E5 xs _ _ h
  ·rename_i k;exfalso;revert h k
   unfold eC
   (repeat' split)<;>simp[Err.e,Err.isNone]
theorem TQ (d:List UInt8)(b:Bool)(t:List UInt8):(mq d b t).2.p= -1/\((mq d b t).2.e=0->(mq d b t).2= .none):=by
 unfold mq o5
 (repeat' split)<;>(refine⟨rfl,λh=> ?_⟩)<;>first|rfl|(exact absurd h (by assumption))|(exact absurd h b_)|(rename_i k;exact absurd h k.2)
theorem Bf (s:List UInt8):(gP s).p= -1/\(gP s).e=(bI s).2/\((gP s).e=0->gP s= .none):=by
 unfold gP
 split
 ·rename_i h;exact⟨rfl,h.symm,λ_=>rfl⟩
 ·rename_i h;exact⟨rfl,rfl,λk=>absurd k h⟩
theorem Xc (s:List UInt8):(Gp s).2.p= -1:=(TQ _ _ _).1
theorem Sz (l:List (List UInt8)):AVal.list 1 l.length (aB l)=ET l:=rfl
theorem Ng (s:List UInt8)(k:Int):(nV s k).2.e=0->(nV s k).2= .none:=by
 unfold nV
 (repeat' split)
 ·exact sm _ s 0 (Nat.le_refl _)
 ·exact sm _ s 0 (Nat.le_refl _)
 ·exact sm _ s 0 (Nat.le_refl _)
 ·exact Rr s
 ·exact(TQ _ _ _).2
 ·exact(Bf s).2.2
 ·exact E5 _ _ _
 ·exact λ_=>rfl
theorem Nf (s:List UInt8)(k:Int):(nc s k).2.e=0->(nc s k).2= .none:=by
 have h:=Ng s k
 unfold nc
 split
 ·exact λh=>absurd h b_
 ·split
  ·exact λh=>absurd h b_
  ·split
   ·exact h
   ·exact h
theorem Xe (s:List UInt8)(k:Int)(h:1<=k/\k<=8):(nV s k).1.t=k:=by
 unfold nV
 (repeat' split)<;>rfl
abbrev Ri (b:Nat)(v:Vl)(t:Int)(q:AVal):HEnt:=.cells b (some 52) [.int .i64 t,.str v.s,q,.int .i64 v.st.y,.int .i64 v.st.m,.int .i64 v.st.d,.int .i64 v.st.h,.int .i64 v.st.i,.int .i64 v.st.s,.bool v.st.z,.int .i64 v.st.o,.int .i64 v.n]
abbrev Gv (b:Nat)(e p:Int):HEnt:=.cells b (some 27) [.int .i64 e,.int .i64 p]
abbrev C8 (b:Nat):Value:=.pointer (some ⟨b,0,none⟩)
def Yj (s:List UInt8)(k:Int)(r:ct)(H:Heap):Prop:=∃q,r= .ret (.tuple [TV (nc s k).1 q,.agg [.int .i64 (nc s k).2.e,.int .i64 (nc s k).2.p]])/\H=[]/\Ym (nc s k).1.L q
attribute [local irreducible] bG au aa az aR ab ad
attribute [local irreducible] iw fd dm yU jr j8 a7 gx dG Gp bI gP j9 ET nV
theorem wN {G:Glo}{m:Int}(hU:ab G utfTy)(hM:ab G (bP m))(hS:ab G shapesTy)(s:List UInt8)(k:Int)(hl:s.length<=10000):ad prog G 35 [.str s,.int .i64 k] [] (Yj s k):=by
 have hH:=pK hU s false a_
 have hW:=fF (G:=G) k 1 8
 have hB:=λe=>jc (G:=G) e;have hG:=fp (G:=G);have b1:=hB 1;have b3:=hB 3;refine Ie func35 call35 rfl rfl rfl rfl ?_;intro C hC;have hGL:ab G []:=al;refine gu hC hGL (λx:Nat×Nat=>[(0,.str s),(1,.int .i64 k),(4,.own 0 (C8 x.1)),(5,.own 1 (C8 x.2))]) (λx=>[Ri x.1 Vl.no 0 iV,Gv x.2 0 0]) (λ_=>True) ?_ ?_
 ·refine Ra ?_;intro b4 b5;intros;exact cy (b4,b5) trivial
 rintro⟨b4,b5⟩-
 dsimp only
 by_cases hk:k<1\/9<=k
 ·have e:nc s k=(Vl.no,.errno 1):=by unfold nc;rw[if_pos hk]
  have e2:(decide (1<=k)&&decide (k<=8))=false:=by rw[Vr,YU,YU];omega
  rw[e2] at hW
  unfold Yj
  rw[e]
  refine ay hC hGL (ao ?_)
  intros
  refine bh mixed hC hGL false (λ(_:Unit)=>[(4,.own 0 (C8 b4)),(5,.own 1 (C8 b5))]) (λ_=>[Ri b4 Vl.no 0 iV,Gv b5 1 (-1)]) .p14 be xu ?_
  intro _
  refine ao ?_
  intros
  exact⟨[],Ug _,iV,rfl,rfl,.inl ⟨rfl,rfl⟩⟩
 have e2:(decide (1<=k)&&decide (k<=8))=true:=by rw[l_,n_,n_];omega
 rw[e2] at hW
 cases hh:fd false s with
 |false=>
  have e:nc s k=(Vl.no,.errno 3):=by unfold nc;rw[if_neg hk,if_pos hh]
  unfold Yj
  rw[e]
  rw[hh] at hH
  refine ay hC hGL (ao ?_)
  intros
  refine bh mixed hC hGL false (λ(_:Unit)=>[(4,.own 0 (C8 b4)),(5,.own 1 (C8 b5))]) (λ_=>[Ri b4 Vl.no 0 iV,Gv b5 3 (-1)]) .p14 be xu ?_
  intro _
  refine ao ?_
  intros
  exact⟨[],Ug _,iV,rfl,rfl,.inl ⟨rfl,rfl⟩⟩
 |true=>
  rw[hh] at hH
  have hv:nc s k=(match (nV s k).2 with|.none=>nV s k|e=>(Vl.no,e)):=by unfold nc;rw[if_neg hk,if_neg (by rw[hh];decide)];cases (nV s k).2<;>rfl
  have h1:=kW (G:=G) s a_
  have h2:=Ef (G:=G) s a_
  have h3:=LD (G:=G) s a_
  have h4:=rR (G:=G) s a_
  have h5:=za (G:=G) hS hM s a_
  have h6:=qu (G:=G) s a_
  have h7:=mr (G:=G) hM s a_
  refine cut hC hGL [(0,.str s),(1,.int .i64 k),(4,.own 0 (C8 b4)),(5,.own 1 (C8 b5))] [Ri b4 Vl.no 0 iV,Gv b5 0 0] True eK λ_=> ?_
  refine cut hC hGL [(0,.str s),(1,.int .i64 k),(4,.own 0 (C8 b4)),(5,.own 1 (C8 b5))] [Ri b4 Vl.no 0 iV,Gv b5 0 0] True eK λ_=> ?_
  refine cut hC hGL [(0,.str s),(1,.int .i64 k),(4,.own 0 (C8 b4)),(5,.own 1 (C8 b5))] [Ri b4 Vl.no 0 iV,Gv b5 0 (-1)] True eK λ_=> ?_
  refine gu hC hGL (λx:Vl×AVal=>[(0,.str s),(1,.int .i64 k),(4,.own 0 (C8 b4)),(5,.own 1 (C8 b5))]) (λx=>[Ri b4 x.1 0 x.2,Gv b5 (nV s k).2.e (nV s k).2.p]) (λx=>x.1.s=(nV s k).1.s/\x.1.st=(nV s k).1.st/\x.1.n=(nV s k).1.n/\Ym (nV s k).1.L x.2) ?_ ?_
  ·clear hv
   rcases(show k=1\/k=2\/k=3\/k=4\/k=5\/k=6\/k=7\/k=8 by omega) with rfl|rfl|rfl|rfl|rfl|rfl|rfl|rfl
   all_goals simp only[nV,if_pos,if_neg,Int.reduceEq,reduceIte]
   ·refine ao ?_
    intros
    exact cy (⟨0,yU s,[],Stm.no,0⟩,iV) ⟨rfl,rfl,rfl,.inl ⟨rfl,rfl⟩⟩
   ·refine ao ?_
    intros
    exact cy (Vl.no,.list 1 1 _) ⟨rfl,rfl,rfl,.inr (.inr ⟨jr s,_,rfl,Sz _,rfl⟩)⟩
   ·refine ao ?_
    intros
    exact cy (Vl.no,.list 1 _ _) ⟨rfl,rfl,rfl,.inr (.inl rfl)⟩
   ·refine ao ?_
    intros
    exact cy (⟨0,s,[],Stm.no,0⟩,iV) ⟨rfl,rfl,rfl,.inl ⟨rfl,rfl⟩⟩
   ·rw[Xc]
    refine ao ?_
    intros
    exact cy (⟨0,[],[],(Gp s).1,0⟩,iV) ⟨rfl,rfl,rfl,.inl ⟨rfl,rfl⟩⟩
   ·rw[(Bf s).1,(Bf s).2.1]
    refine ao ?_
    intros
    exact cy (⟨0,[],[],Stm.no,(bI s).1⟩,iV) ⟨rfl,rfl,rfl,.inl ⟨rfl,rfl⟩⟩
   ·refine ao ?_
    intros
    exact cy (⟨0,s,[],Stm.no,0⟩,iV) ⟨rfl,rfl,rfl,.inl ⟨rfl,rfl⟩⟩
   ·refine ao ?_
    intros
    exact cy (⟨0,s,[],Stm.no,0⟩,iV) ⟨rfl,rfl,rfl,.inl ⟨rfl,rfl⟩⟩
  rintro⟨x,q⟩ ⟨x1,x2,x3,x4⟩
  dsimp only at x1 x2 x3 x4 ⊢
  have h8:=mZ (G:=G) (nV s k).2.e (nV s k).2.p
  have h9:=Ng s k
  have h10:=Xe s k a_
  unfold Yj
  rw[hv]
  by_cases he:(nV s k).2.e=0
  ·rw[h9 he]
   rw[h9 he] at h8
   rw[show bU (Err.none).e 0=true from fA.2 rfl] at h8
   simp only[Err.e,Err.p] at h8 ⊢
   have x5:=x4
   rcases x5 with⟨rfl,_⟩|rfl|⟨l,g,rfl,_,_⟩
   all_goals
    refine ay hC hGL (ao ?_)
    intros
    refine bh mixed hC hGL false (λ(_:{y:AVal//Ym (nV s k).1.L y})=>[(4,.own 0 (C8 b4)),(5,.own 1 (C8 b5))]) (λy=>[Ri b4 x k y.1,Gv b5 0 (-1)]) .p9 be ?_ ?_
    ·refine xn ?_
     repeat' first|exact .n|apply Lc.mk
     all_goals intros
     all_goals exact⟨⟨_,x4⟩,ah,rfl⟩
    rintro⟨y,hy⟩
    refine ao ?_
    intros
    refine⟨[],Ug _,y,?_,rfl,hy⟩
    simp only[TV,x1,x2,x3,h10,h9 he]
  ·have e3:(match (nV s k).2 with|.none=>nV s k|e=>(Vl.no,e))=(Vl.no,(nV s k).2):=by
    cases hq:(nV s k).2 with
    |none=>rw[hq] at he;exact absurd rfl he
    |errno e=>rfl
    | «at» e p=>rfl
   rw[e3]
   rw[show bU (nV s k).2.e 0=false from Bool.eq_false_iff.2 λh=>he (fA.1 h)] at h8
   refine ay hC hGL (ao ?_)
   intros
   refine bh mixed hC hGL false (λ(_:Unit)=>[(4,.own 0 (C8 b4)),(5,.own 1 (C8 b5))]) (λ_=>[Ri b4 Vl.no 0 iV,Gv b5 (nV s k).2.e (nV s k).2.p]) .p9 be xu ?_
   intro _
   refine ao ?_
   intros
   exact⟨[],Ug _,iV,rfl,rfl,.inl ⟨rfl,rfl⟩⟩
theorem zb {G:Glo}{m:Int}(hU:ab G utfTy)(hM:ab G (bP m))(hS:ab G shapesTy)(s:List UInt8)(k:Int)(hl:s.length<=10000):ak prog G 35 [.str s,.int .i64 k] (.tuple [(nc s k).1.R,.agg [.int .i64 (nc s k).2.e,.int .i64 (nc s k).2.p]]):=by
 refine dA (wN hU hM hS s k hl) ?_;rintro r H ⟨q,rfl,rfl,hL⟩;exact vf hL
end
section
abbrev pnC (b:Nat)(L:Ln):HEnt:=.cells b (some 92) [.str L.g,.str L.n,.list 2 L.ps.length (fU L.ps),.str L.v]
theorem T6 {c:Bool}{s:List UInt8}{e p:Int}(h:rk c s= .at e p):e≠0:=by
 unfold rk at h;cases hl:dF c s with
 |ok l=>rw[hl] at h;cases h
 |bad e' p'=>rw[hl] at h;cases h;exact E1 hl
attribute [local irreducible] bG au aa az aR ab ad
attribute [local irreducible] iQ rk nc jv cK fU j9 eo
theorem zj {G:Glo}{m:Int}(hU:ab G utfTy)(hM:ab G (bP m))(hS:ab G shapesTy)(v:Int)(t:List UInt8)(l:LineS)(hl:l.t.length<=1500)(ht:t.length<=20100)(hb:nP t l):ad prog G 22 [uv l,.int .i64 v] [] (Ti v l (.agg [.int .i64 (iR v l).e,.int .i64 (iR v l).p])):=by
 have hB:=jc (G:=G) 1;have h1:=ze (G:=G) hU hM l.t (bU v 4) a_;have hin:=HE (bU v 4) l.t;have hpl:=λi g0 g1=>LC (G:=G) t l i g0 g1 ht hb;refine mh func22 call22 λC hC hGL=> ?_;refine gu hC hGL (λx:Nat×Nat=>[(1,.int .i64 v),(2,SD l),(4,.own 0 (eW x.1)),(5,.own 1 (eW x.2))]) (λx=>[HU x.1 Ln.no Vl.no iN iN,Gv x.2 0 0]) (λ_=>True) ?_ ?_
 ·refine ao ?_;intro b b';intros;exact cy (b,b') trivial
 rintro⟨b4,b5⟩ _;dsimp only
 by_cases hv:v=3\/v=4
 ·refine cut hC hGL [(1,.int .i64 v),(2,SD l),(4,.own 0 (eW b4)),(5,.own 1 (eW b5))] [HU b4 Ln.no Vl.no iN iN,Gv b5 0 0] True ?_ λ_=> ?_
  ·rcases hv with rfl|rfl<;>exact eK
  refine gu hC hGL (λx:Nat×Nat=>[(1,.int .i64 v),(2,SD l),(4,.own 0 (eW b4)),(5,.own 1 (eW b5)),(6,.own 2 (eW x.1)),(7,.own 3 (eW x.2))]) (λx=>[HU b4 Ln.no Vl.no iN iN,Gv b5 0 0,pnC x.1 (iQ (bU v 4) l.t),Gv x.2 (rk (bU v 4) l.t).e (rk (bU v 4) l.t).p]) (λ_=>True) ?_ ?_
  ·refine ao ?_;intro b b';intros;exact cy (b,b') trivial
  rintro⟨b6,b7⟩ _;dsimp only
  have hF:=gA (G:=G) (rk (bU v 4) l.t).e (rk (bU v 4) l.t).p;rcases hq:rk (bU v 4) l.t with _|e|⟨e,p⟩
  ·have h2:=Ee (G:=G) v (iQ (bU v 4) l.t).n (iQ (bU v 4) l.t).ps a_ (by have:=(Cf (bU v 4) l.t).1;omega) (λk=>(BX hin.2.2 k).1) (λk=>(BX hin.2.2 k).2);have h3:=zb (G:=G) hU hM hS (iQ (bU v 4) l.t).v (M3 v l.t) a_;have hvin:=Nd (iQ (bU v 4) l.t).v (M3 v l.t);have hv0:=Nf (iQ (bU v 4) l.t).v (M3 v l.t);have e3:iR v l=(match (yA v l.t).2 with|.none=>.none|x=>.at x.e (cK l ((l.t.length:Int)-(iQ (bU v 4) l.t).v.length+max 0 x.p) l.f.length)):=by unfold iR;rw[if_pos hv,hq];rfl
   have e4:pg v l=(match iR v l with|.none=>(iQ (bU v 4) l.t,(yA v l.t).1)|_=>(Ln.no,Vl.no)):=rfl;have hF2:=gA (G:=G) (yA v l.t).2.e (yA v l.t).2.p;rw[hq] at hF;rw[show bU (Err.none).e 0=true from fA.2 rfl] at hF;change ak _ _ _ _ (.tuple [.int .i64 (M3 v l.t),_]) at h2;change ak _ _ _ _ (.tuple [(yA v l.t).1.R,.agg [.int .i64 (yA v l.t).2.e,.int .i64 (yA v l.t).2.p]]) at h3;change (yA v l.t).2.in _ at hvin;change (yA v l.t).2.e=0->(yA v l.t).2= .none at hv0;unfold Ti;generalize iQ (bU v 4) l.t=L at*
   generalize yA v l.t=V at*
   obtain⟨V,x⟩:=V;dsimp only at*
   generalize M3 v l.t=k at*
   generalize (eM v).e=z at*
   simp only[Err.e,Err.p] at hF ⊢;by_cases hx:x= .none
   ·subst hx;rw[show bU (Err.none).e 0=true from fA.2 rfl] at hF2;rw[e4,e3];simp only[Err.e,Err.p] at h3 hF2 ⊢;refine ay hC hGL (ao ?_);intros;rename Nat=>b10
    refine eq (an (aA (i:=4) (k:=10) rfl rfl) (an (aA (i:=3) (k:=7) rfl rfl) (aA (i:=2) (k:=6) rfl rfl))) ?_;refine bh mixed hC hGL false (λ_:Unit=>[(4,.own 0 (eW b4)),(5,.own 1 (eW b5))]) (λ_=>[HU b4 L V (.list 2 L.ps.length (fU L.ps)) (.list 1 V.L.length (j9 V.L)),Gv b5 0 (-1),eD,eD,eD]) (.t 0 (.t 1 (.t 2 (.t 3 (.t 4 (.t 5 (.t 6 (.t 7 (.t 8 (.b 9 (.b 10 .done))))))))))) be xu ?_;intro _;refine ao ?_;intros;exact⟨[],Ug _,_,_,rfl,rfl,.inr ⟨rfl,rfl⟩⟩
   ·have hne:x.e≠0:=λh=>hx (hv0 h);rw[show bU x.e 0=false from lK.2 hne] at hF2;have hvp:0<=max 0 x.p/\max 0 x.p<=((L.v.length+1:Nat):Int):=by
     rcases x with _|e|⟨e,p⟩
     ·exact absurd rfl hx
     ·show 0<=max 0 (-1)/\max 0 (-1)<=_;omega
     ·have:0<=p/\p<=((L.v.length+1:Nat):Int):=hvin;show 0<=max 0 p/\max 0 p<=_;omega
    have hp:=hpl ((l.t.length:Int)-L.v.length+max 0 x.p) a_ a_;have e5:iR v l= .at x.e (cK l ((l.t.length:Int)-L.v.length+max 0 x.p) l.f.length):=by
     rw[e3];rcases x with _|e|⟨e,p⟩
     ·exact absurd rfl hx
     ·rfl
     ·rfl
    rw[e4,e5];clear e3 e4 e5 hv0 hx hvin;generalize x.e=e at*
    generalize x.p=p at*
    simp only[Err.e,Err.p];refine ay hC hGL (ao ?_);intros;rename Nat=>b10
    refine eq (an (aA (i:=3) (k:=7) rfl rfl) (aA (i:=2) (k:=6) rfl rfl)) ?_;refine bh mixed hC hGL false (λ_:Unit=>[(4,.own 0 (eW b4)),(5,.own 1 (eW b5))]) (λ_=>[HU b4 Ln.no Vl.no iN iN,Gv b5 e (cK l ((l.t.length:Int)-L.v.length+max 0 p) l.f.length),eD,eD,Yp b10 V]) (.t 0 (.t 1 (.t 2 (.t 3 (.t 4 (.t 5 (.t 6 (.t 7 (.t 8 (.t 9 (.t 10 (.t 11 (.t 12 (.t 13 (.t 14 (.b 15 (.t 16 (.b 17 (.b 18 .done))))))))))))))))))) be xu ?_;intro _;refine ao ?_;intros;exact⟨[],Ug _,iN,iN,rfl,rfl,.inl ⟨rfl,rfl,by first|exact rfl|exact trivial⟩⟩
  ·exact absurd hq (HF _ _ _)
  ·have e1:iR v l= .at e (cK l p l.f.length):=by unfold iR;rw[if_pos hv,hq];rfl
   have e2:pg v l=(Ln.no,Vl.no):=by unfold pg;rw[e1]
   have hip:0<=p/\p<=(l.t.length:Int):=by
    have:=Pe (bU v 4) l.t;rw[hq] at this;exact this
   have hne:e≠0:=T6 hq;have hpl:=hpl p hip.1 a_;unfold Ti;rw[e1,e2];rw[hq] at hF;rw[show bU (Err.at e p).e 0=false from lK.2 hne] at hF;generalize iQ (bU v 4) l.t=L at*
   simp only[Err.e,Err.p] at hF ⊢;refine ay hC hGL (ao ?_);intros;refine eq (aA (i:=3) (k:=7) rfl rfl) ?_;refine bh mixed hC hGL false (λ_:Unit=>[(4,.own 0 (eW b4)),(5,.own 1 (eW b5))]) (λ_=>[HU b4 Ln.no Vl.no iN iN,Gv b5 e (cK l p l.f.length),pnC b6 L,eD]) (.t 0 (.t 1 (.t 2 (.t 3 (.t 4 (.t 5 (.b 6 (.t 7 (.b 8 (.b 9 .done)))))))))) be ?_ ?_
   ·refine xn ?_;repeat' first|exact .n|apply Lc.mk
    all_goals intros
    all_goals intros
    all_goals exact⟨(),ah,rfl⟩
   intro _;refine ao ?_;intros;exact⟨[],Ug _,iN,iN,rfl,rfl,.inl ⟨rfl,rfl,by first|exact rfl|exact trivial⟩⟩
 ·have e1:iR v l= .errno 1:=by unfold iR;rw[if_neg hv]
  have e2:pg v l=(Ln.no,Vl.no):=by unfold pg;rw[e1]
  unfold Ti;rw[e1,e2];refine ay hC hGL (ao ?_);intros;exact⟨[],Ug _,iN,iN,rfl,rfl,.inl ⟨rfl,rfl,by first|exact rfl|exact trivial⟩⟩
end
section
theorem GW (t:Stm):zG [bU t.y t.y,bU t.m t.m,bU t.d t.d,bU t.h t.h,bU t.i t.i,bU t.s t.s,t.z==t.z,bU t.o t.o]=true:=by
 have e:∀x:Int,bU x x=true:=λx=>fA.2 rfl;simp only[zG,e,beq_self_eq_true,Bool.and_self]
attribute [local irreducible] bG au aa az aR ab ad
attribute [local irreducible] nc
end
section
theorem Mz {G:Glo}{m:Int}(hE:ab G errTy)(hU:ab G utfTy)(hM:ab G (bP m))(hS:qh G)(v:Int)(t:List UInt8)(l:LineS)(hl:l.t.length<=1500)(ht:t.length<=20100)(hb:nP t l):ak prog G 27 [uv l,.int .i64 v] (.tuple [XL (pg v l).1 (pg v l).2,(iR v l).A]):=
 dA (IF hE hU hM hS v t l hl ht hb) λ_ _ h=>KG h
theorem BU {G:Glo}{m:Int}(hU:ab G utfTy)(hM:ab G (bP m))(hS:ab G shapesTy)(v:Int)(t:List UInt8)(l:LineS)(hl:l.t.length<=1500)(ht:t.length<=20100)(hb:nP t l):ak prog G 22 [uv l,.int .i64 v] (.tuple [XL (pg v l).1 (pg v l).2,.agg [.int .i64 (iR v l).e,.int .i64 (iR v l).p]]):=
 dA (zj hU hM hS v t l hl ht hb) λ_ _ h=>KG h
attribute [local irreducible] bG au aa az aR ab ad
attribute [local irreducible] fU j9
end
section
theorem LI (L:List (List (List UInt8))):j9 L=gM L:=by
 funext i
 rfl
def qX (l:List Itm):List AVal:=l.flatMap df
theorem E9:qX []=[]:=rfl
theorem AJ (l:List Itm)(x:Itm):qX l++df x=qX (l++[x]):=by
 unfold qX;rw[List.flatMap_append,List.flatMap_singleton]
theorem J1:∀(l:List Itm) (i:Nat),i<l.length->df (l.getD i Itm.z)=((qX l).drop (i*15)).take 15
 |[],i,h=>absurd h (Uf _)
 |x::l,0,_=>by
  show df x=((df x++qX l).drop 0).take 15;rw[YO,List.take_append_of_le_length (by simp)];rfl
 |x::l,i+1,h=>by
  have ih:=J1 l i (by simpa using h);have e:qX (x::l)=df x++qX l:=rfl;rw[e,show(i+1)*15=15+i*15 by omega,<-Q_,List.drop_left' (show(df x).length=15 from rfl),List.getD_cons_succ];exact ih
theorem J0 (l:List Itm):∀i,i<l.length->(eS l i).cells=((qX l).drop (i*15)).take 15/\(eS l i).plain=true:=by
 intro i hi;exact⟨J1 l i hi,rfl⟩
abbrev G4 (v:Value)(l:List Itm):HEnt:=.row v none 15 l.length (qX l)
abbrev jt (b:Nat)(v:Int)(q:AVal):HEnt:=.cells b (some 24) [.int .i64 v,q]
def Qt (c:Crd)(x:AVal)(r:ct)(H:Heap):Prop:=∃q,r= .ret (.tuple [.agg [.int .i64 c.v,q],x])/\H=[]/\((q=iV/\c.l=[])\/q= .list 15 c.l.length (eS c.l))
theorem su {c:Crd}{x:AVal}{r:ct}{H:Heap}(h:Qt c x r H):Gk r H (.tuple [c.A,x]):=by
 obtain⟨q,rfl,rfl,h⟩:=h;rintro C R w e' hm ⟨y,rfl,hx⟩
 refine⟨R,hm,y,rfl,gz (Seal.le_refl R) hx λu hu=> ?_⟩
 rcases h with⟨rfl,hl⟩|rfl
 ·unfold Crd.A
  rw[hl] at*
  exact jn (p:=1) (a':=.list 15 0 (eS [])) (Seal.le_refl R) hu rfl (λv=>lx)
 ·exact hu
end
section
theorem J3 (x:Itm):XL x.1 x.2=J2 x:=by
 unfold XL J2;rw[LI]
attribute [local irreducible] bG au aa az aR ab ad
attribute [local irreducible] iR pg am Crd.E qX fU
theorem Qz {G:Glo}{m:Int}(hE:ab G errTy)(hE2:pq G)(hU:ab G utfTy)(hP:fC G)(hM:ab G (bP m))(hS:qh G)(t:List UInt8)(L:List LineS)(e:Nat)(ht:t.length<=20100)(hL:L.length<=20100)(hb:∀l∈L,nP t l)(he:e<=20100):
  ad prog G 12 [.list 3 L.length (cM L),.int .i64 (e:Int)] [] (Qt (pf L e) (jl L e).A):=by
 by_cases h3:L.length<3
 ·rw[vB (by rw[KB h3];exact λh=>by cases h),KB h3];simp only[Err.A,sP];refine ax func12 call12 λC hC hGL=> ?_;refine aK ?_;intros;exact⟨[],Ug _,iN,rfl,rfl,.inl ⟨rfl,rfl⟩⟩
 have hbl:∀i,i<L.length->nP t (cO L i):=λi hi=>by
  show nP t (L.getD i ⟨[],0,[]⟩);rw[f_,y_ hi];exact hb _ (K_ hi)
 have s0:=lh (G:=G) (cO L 0).t ml (by have:=(hbl 0 a_).2.1;omega) b_;have s1:=lh (G:=G) (cO L 1).t cpV3 (by have:=(hbl 1 a_).2.1;omega) b_;have s2:=lh (G:=G) (cO L 1).t cpV4 (by have:=(hbl 1 a_).2.1;omega) b_;have s9:=lh (G:=G) (cO L (L.length-1)).t pb (by have:=(hbl (L.length-1) a_).2.1;omega) b_;rw[show am 97 122 (-32) ml=ml by decide+kernel] at s0;rw[show am 97 122 (-32) cpV3=cpV3 by decide+kernel] at s1;rw[show am 97 122 (-32) cpV4=cpV4 by decide+kernel] at s2;rw[show am 97 122 (-32) pb=pb by decide+kernel] at s9;change ak _ _ _ _ (.bool (aY (rn (cO L 0).t) ml)) at s0;change ak _ _ _ _ (.bool (aY (rn (cO L 1).t) cpV3)) at s1;change ak _ _ _ _ (.bool (aY (rn (cO L 1).t) cpV4)) at s2;change ak _ _ _ _ (.bool (aY (rn (cO L (L.length-1)).t) pb)) at s9;have hit:=λi (hi:i<L.length) v=>Mz hE hU hM hS v t (cO L i) (hbl i hi).2.1 ht (hbl i hi);have c7:=Uv (L:=L) (e:=e) h3;have c8:=Ur (L:=L) (e:=e) h3;have c9:=λk=>Ut (L:=L) (e:=e) (k:=k) h3;have c10:=Uu (L:=L) (e:=e) h3;have c11:=Us (L:=L) (e:=e) h3;have cno:=vB (L:=L) (e:=e);have cok:=KC (L:=L) (e:=e);have hok:=HT (v:=n9 (cO L 1).t) (n:=L.length-3) hb;have jV:(FU L).l.length=L.length-3:=jg _ _ _;generalize jl L e=E at*
 generalize pf L e=Cc at*
 refine mh func12 call12 λC hC hGL=> ?_;refine gu hC hGL (λx:Nat=>[(0,.list 3 L.length (cM L)),(1,.int .i64 (e:Int)),(4,.own 0 (eW x)),(5,.raw .nilIface)]) (λx=>[jt x 0 iN]) (λ_=>True) ?_ ?_
 ·refine ao ?_;intro b;intros;exact cy b trivial
 intro b4 _;refine cut hC hGL [(0,.list 3 L.length (cM L)),(1,.int .i64 (e:Int)),(4,.own 0 (eW b4)),(5,.raw .nilIface)] [jt b4 0 iN] True ?_ λ_=> ?_
 ·exact eK
 refine gu hC hGL (λx:Nat=>[(0,.list 3 L.length (cM L)),(1,.int .i64 (e:Int)),(4,.own 0 (eW b4)),(5,.raw .nilIface),(6,.own 1 (eW x))]) (λx=>[jt b4 0 iN,jt x 0 iN]) (λ_=>True) ?_ ?_
 ·refine ao ?_;intro b;intros;exact cy b trivial
 intro b6 _;refine cut hC hGL [(0,.list 3 L.length (cM L)),(1,.int .i64 (e:Int)),(4,.own 0 (eW b4)),(5,.raw .nilIface),(6,.own 1 (eW b6)),(7,.int .i64 ((L.length:Int)-1))] [jt b4 0 iN,jt b6 0 iN] True ?_ λ_=> ?_
 ·exact eK
 cases hB:aY (rn (cO L 0).t) ml with
 |false=>
  rw[hB] at s0;have c7:=c7 hB;subst c7;rw[cno (λh=>by cases h)];simp only[Err.A,sP];refine ay hC hGL (ao ?_);intros;refine bh mixed hC hGL false (λ_:Unit=>[(4,.own 0 (eW b4)),(5,sP 3 (cO L 0).a)]) (λ_=>[jt b4 0 iN,jt b6 0 iN]) .p23 be xu ?_;intro _;refine ao ?_;intros;exact⟨[],Ug _,iN,rfl,rfl,.inl ⟨rfl,rfl⟩⟩
 |true=>
  rw[hB] at s0;by_cases hv0:n9 (cO L 1).t=0
  ·have c8:=c8 hB hv0;subst c8;rw[cno (λh=>by cases h)];simp only[Err.A,sP];unfold n9 at hv0;have hv3:aY (rn (cO L 1).t) cpV3=false:=by
    cases h:aY (rn (cO L 1).t) cpV3 with
    |false=>rfl
    |true=>rw[h] at hv0;cases hv0
   have hv4:aY (rn (cO L 1).t) cpV4=false:=by
    cases h:aY (rn (cO L 1).t) cpV4 with
    |false=>rfl
    |true=>rw[hv3,h] at hv0;cases hv0
   rw[hv3] at s1;rw[hv4] at s2;refine ay hC hGL (ao ?_);intros;refine bh mixed hC hGL false (λ_:Unit=>[(4,.own 0 (eW b4)),(5,sP 3 (cO L 1).a)]) (λ_=>[jt b4 0 iN,jt b6 0 iN]) .p23 be xu ?_;intro _;refine ao ?_;intros;exact⟨[],Ug _,iN,rfl,rfl,.inl ⟨rfl,rfl⟩⟩
  ·have hv34:=Nl hv0;refine cut hC hGL [(0,.list 3 L.length (cM L)),(4,.own 0 (eW b4)),(6,.own 1 (eW b6)),(7,.int .i64 ((L.length:Int)-1))] [jt b4 0 iN,jt b6 (n9 (cO L 1).t) iN] True ?_ λ_=> ?_
   ·unfold n9 at hv0 ⊢;cases hv3:aY (rn (cO L 1).t) cpV3 with
    |true=>
     rw[hv3] at s1;exact eK
    |false=>
     rw[hv3] at s1 hv0;cases hv4:aY (rn (cO L 1).t) cpV4 with
     |true=>
      rw[hv4] at s2;exact eK
     |false=>rw[hv4] at hv0;exact absurd rfl hv0
   have c9:=λk=>c9 k hB hv0;have c10:=c10 hB hv0;have c11:=c11 hB hv0;have hD:FU L=⟨n9 (cO L 1).t,kZ (n9 (cO L 1).t) L (L.length-3)⟩:=rfl;generalize n9 (cO L 1).t=v at*
   refine gu hC hGL (λx:Value=>[(0,.list 3 L.length (cM L)),(4,.own 0 (eW b4)),(6,.own 1 (eW b6)),(7,.int .i64 ((L.length:Int)-1))]) (λx=>[jt b4 0 iN,jt b6 v (.own 2 x),G4 x (kZ v L (L.length-3))]) (λ_=>∀j,j<L.length-3->iR v (cO L (j+2))= .none) ?_ ?_
   ·refine ao ?_;intros;refine EU (an (fg 15) (an (jO (i:=1) (p:=1) (x:=jt b6 v iN) (a':=.own 2 (.slice none 0 0)) rfl (λR=>.cells rfl λ_=>jU)) (ng))) ?_;have hi0:kZ v L 0=[]:=rfl;have e3:((L.length:Int)-1).toNat-2=L.length-3:=by omega
    refine lp hC hGL (λz:Nat×Value=>[(0,.list 3 L.length (cM L)),(4,.own 0 (eW b4)),(6,.own 1 (eW b6)),(7,.int .i64 ((L.length:Int)-1)),(66,.list 3 (L.length-3) (λi=>cM L (2+i))),(67,.int .i64 ((L.length-3:Nat):Int)),(68,.int .i64 (z.1:Nat))]) (λz=>[jt b4 0 iN,jt b6 v (.own 2 z.2),G4 z.2 (kZ v L z.1)]) (λz=>z.1<=L.length-3/\∀j,j<z.1->iR v (cO L (j+2))= .none) (λz=>L.length-3-z.1) (0,.slice none 0 0) ⟨Nat.zero_le _,λj h=>absurd h (Uf _)⟩ ?_ ?_ ?_
    ·refine⟨rfl,rfl,rfl,rfl,?_,congrArg (λz:Nat=>some (AVal.int .i64 (z:Int))) e3,rfl,trivial⟩;show some (AVal.list 3 (((L.length:Int)-1).toNat-2) (λk=>cM L (2+k)))=_;rw[e3]
    ·show _=[jt b4 0 iN,jt b6 v (.own 2 (.slice none 0 0)),G4 (.slice none 0 0) (kZ v L 0)];rw[hi0];unfold G4;rw[E9];rfl
    rintro⟨k,x⟩ ⟨k1,k2⟩;dsimp only at k1 k2 ⊢;by_cases hk:k<L.length-3
    ·have h1:=hit (2+k) a_ v;have hs:=Fa v L k;have hlk:=jg v L k;have c9:=c9 k hk k2;have e4:k+2=2+k:=by omega
     rw[J3] at h1;rw[e4] at c9 hs;cases hce:iR v (cO L (2+k)) with
     |none=>
      rw[hce] at h1;simp only[Err.A] at h1;generalize pg v (cO L (2+k))=X at*
      refine ao ?_;intro _ _ va vk vc hva _;have e2:(kZ v L k).length+1=(kZ v L (k+1)).length:=by rw[jg,jg]
      refine ga (k+1,.slice va vk vc) ⟨hk,λj hj=> ?_⟩ (by dsimp only;omega) ah ?_
      ·rcases YY j k with h|h
       ·exact k2 j h
       ·dsimp only at hj;obtain rfl:j=k:=by omega
        rw[e4,hce]
      ·dsimp only
       rw[e2];refine V_ _ (V_ _ ?_);show[G4 (.slice va vk vc) (kZ v L (k+1))].Sublist (HEnt.row (.slice va vk vc) none 15 (kZ v L (k+1)).length (qX (kZ v L k)++df X)::_);rw[AJ,<-hs];exact V_ _ (Ug _)
     |errno e1=>
      rw[hce] at h1 c9;have c9:=c9 (λh=>by cases h);subst c9;rw[cno (λh=>by cases h)];simp only[Err.A] at h1 ⊢;refine aK ?_;intros;exact⟨[],Ug _,iN,rfl,rfl,.inl ⟨rfl,rfl⟩⟩
     | «at» e1 p1=>
      rw[hce] at h1 c9;have c9:=c9 (λh=>by cases h);subst c9;rw[cno (λh=>by cases h)];simp only[Err.A] at h1 ⊢;refine aK ?_;intros;exact⟨[],Ug _,iN,rfl,rfl,.inl ⟨rfl,rfl⟩⟩
    ·obtain rfl:k=L.length-3:=by omega
     refine ao ?_;intros;exact cy x k2
   ·intro x hci;have hci2:=c10 hci;have hci3:=c11 hci;have hlen:=jg v L (L.length-3);have e9:((L.length:Int)-1).toNat=L.length-1:=by omega
    rw[<-e9] at s9 hci2 hci3;cases hB9:aY (rn (cO L ((L.length:Int)-1).toNat).t) pb with
    |false=>
     rw[hB9] at s9;have c10:=hci2 hB9;subst c10;rw[cno (λh=>by cases h)];simp only[Err.A,sP];refine ay hC hGL (ao ?_);intros;refine bh mixed hC hGL false (λ_:Unit=>[(4,.own 0 (eW b4)),(5,sP 3 (cO L ((L.length:Int)-1).toNat).a)]) (λ_=>[jt b4 0 iN,jt b6 v (.own 2 x),G4 x (kZ v L (L.length-3))]) (.t 0 (.t 1 (.t 2 (.t 3 (.t 4 (.t 5 (.t 6 (.br 7 (.t 8 (.b 9 (.t 10 .done))) (.b 9 (.b 7 (.t 8 (.t 10 .done)))))))))))) be xu ?_;intro _;refine ao ?_;intros;exact⟨[],Ug _,iN,rfl,rfl,.inl ⟨rfl,rfl⟩⟩
    |true=>
     rw[hB9] at s9;have c11:=hci3 hB9;refine QR (kS (i:=2) (k:=1) (p:=1) (eS (kZ v L (L.length-3))) rfl rfl (J0 _) (λR hr=>.cells (a:=.own 2 x) rfl λ_=>cE hr)) ?_;rw[hD] at c11 cok;have hR:=ID hE hE2 hP hM hS ⟨v,kZ v L (L.length-3)⟩ ⟨by show(kZ v L (L.length-3)).length<=_;omega,λx hx=>(hok x hx).mono b_⟩;have hp:=λe p=>KA (c:=⟨v,kZ v L (L.length-3)⟩) (e:=e) (p:=p);dsimp only at hp;change ak _ _ _ [.agg [.int .i64 v,.list 15 (kZ v L (L.length-3)).length (eS (kZ v L (L.length-3)))]] _ at hR;clear hD jV hok hit c10 c9 c8 c7 hci hci2 hci3;generalize kZ v L (L.length-3)=I at*
     cases hce:Crd.E ⟨v,I⟩ with
     |none=>
      rw[hce] at hR c11;subst c11;rw[cok rfl];simp only[Err.A] at hR;refine ay hC hGL (aK ?_);intros;exact⟨[],Ug _,_,rfl,rfl,.inr rfl⟩
     |errno e1=>
      rw[hce] at hR c11;subst c11;rw[cno (λh=>by cases h)];simp only[Err.A,Mv] at hR ⊢;refine ay hC hGL (aK ?_);intros;exact⟨[],Ug _,iN,rfl,rfl,.inl ⟨rfl,rfl⟩⟩
     | «at» e1 p1=>
      obtain⟨p2,p3⟩:=hp _ _ hce;rw[hce] at hR c11;subst c11;rw[cno (λh=>by cases h)];have e8:p1.toNat+2=(2+p1).toNat:=by omega
      simp only[Err.A,Mv] at hR ⊢;rw[e8];refine ay hC hGL (ao ?_);intros;refine bh mixed hC hGL false (λ_:Unit=>[(4,.own 0 (eW b4)),(5,sP e1 (cO L (2+p1).toNat).a)]) (λ_=>[jt b4 0 iN,jt b6 v (.list 15 I.length (eS I))]) (.t 0 (.t 1 (.t 2 (.t 3 (.t 4 (.t 5 (.t 6 (.t 7 (.t 8 (.t 9 (.t 10 (.t 11 (.t 12 (.t 13 (.t 14 (.br 15 (.t 16 (.b 17 (.t 18 .done))) (.b 17 (.b 15 (.t 16 (.t 18 .done)))))))))))))))))))) be xu ?_;intro _;refine ao ?_;intros;exact⟨[],Ug _,iN,rfl,rfl,.inl ⟨rfl,rfl⟩⟩
theorem Tm {G:Glo}{m:Int}(hE:ab G errTy)(hE2:pq G)(hU:ab G utfTy)(hP:fC G)(hM:ab G (bP m))(hS:qh G)(t:List UInt8)(L:List LineS)(e:Nat)(ht:t.length<=20100)(hL:L.length<=20100)(hb:∀l∈L,nP t l)(he:e<=20100):
  ak prog G 12 [.list 3 L.length (cM L),.int .i64 (e:Int)] (.tuple [(pf L e).A,(jl L e).A]):=
 dA (Qz hE hE2 hU hP hM hS t L e ht hL hb he) λ_ _ h=>su h
end
section
set_option maxHeartbeats 8000000
attribute [local irreducible] bG au az aR ab ad aa
theorem rv {G:Glo}(hP:fC G)(n:Nat)(hn:n≤9223372036854775807):ak prog G 244 [.int .i64 (n:Int),.int .i64 10] (.str (Lib.decDigits n)):=by
 refine bK rfl call244 ?_
 intro R args hr w hG hs
 obtain⟨x,t,e,hx,y,t',e',hy,rfl⟩:=hr
 have hx:=aq.1 hx
 have hy:=aq.1 hy
 subst hx hy
 obtain rfl:args=#[.int .i64 (n:Int),.int .i64 10]:=by cases args;simp_all
 have ht:Lib.TabIs prog w "internal/strconv.uint64pow10" .u64 Lib.pow10Tab:=by
  obtain⟨e,fz,hR⟩:=hP R hG
  have hg:prog.globalNamed "internal/strconv.uint64pow10" =some 10:=by kernel_rfl
  show w.var? prog "internal/strconv.uint64pow10" =_
  simp only[World.var?,hg,Option.bind_some,hs _ _ hR]
 refine(strconv_FormatInt_10 n a_ a_ w ht).mono ?_
 rintro e w' ⟨rfl,k,os,rfl⟩
 refine⟨?_,⟨rfl,rfl,rfl,?_,fun b hb=> ?_⟩⟩
 ·have:Lib.itoa (n:Int)=Lib.decDigits n:=by unfold Lib.itoa;rw[if_neg a_];rfl
  rw[this]
  rfl
 ·show w.heap.size≤(w.heap++os).size
  rw[Array.size_append];omega
 ·show(w.heap++os)[b]? =w.heap[b]?
  rw[Array.getElem?_append_left hb]
theorem n6 {i:Nat}(h:100<=i)(h1:i<1000):Lib.decDigits i=[UInt8.ofNat (48+i/100),UInt8.ofNat (48+i/10%10),UInt8.ofNat (48+i%10)]:=by
 rw[Lib.decDigits,dif_neg a_,mu a_ a_,show i/10/10=i/100 by omega];rfl
theorem yn {i:Nat}(h:1000<=i)(h1:i<10000):Lib.decDigits i=[UInt8.ofNat (48+i/1000),UInt8.ofNat (48+i/100%10),UInt8.ofNat (48+i/10%10),UInt8.ofNat (48+i%10)]:=by
 rw[Lib.decDigits,dif_neg a_,n6 a_ a_,show i/10/10%10=i/100%10 by omega,show i/10/100=i/1000 by omega];rfl
theorem L6 (i:Nat):kK (i:Int)=[UInt8.ofNat (48+i/1000),UInt8.ofNat (48+i/100%10),UInt8.ofNat (48+i/10%10),UInt8.ofNat (48+i%10)]:=by
 unfold kK cb;simp only[List.map];rw[show(48+(i:Int)/1000).toNat=48+i/1000 by omega,show(48+(i:Int)/100%10).toNat=48+i/100%10 by omega,show(48+(i:Int)/10%10).toNat=48+i/10%10 by omega,show(48+(i:Int)%10).toNat=48+i%10 by omega]
theorem uS {G:Glo}(hP:fC G)(i:Nat)(h1:i<10000):ak prog G 228 [.int .i64 (i:Int),.int .i64 10,.int .i64 4] (.str (kK i)):=by
 have hf:=rv (G:=G) hP i a_;rw[L6];by_cases h2:i<10
 ·rw[mv h2] at hf;refine ax func228 call228 λC hC hGL=> ?_;refine aK ?_;intros;refine mQ hC hGL 4 ?_;refine aK ?_;intros;apply aj;rw[show i/1000=0 by omega,show i/100%10=0 by omega,show i/10%10=0 by omega,show i%10=i by omega];rfl
 by_cases h3:i<100
 ·rw[mu a_ h3] at hf;refine ax func228 call228 λC hC hGL=> ?_;refine aK ?_;intros;refine mQ hC hGL 3 ?_;refine aK ?_;intros;apply aj;rw[show i/1000=0 by omega,show i/100%10=0 by omega,show i/10%10=i/10 by omega];rfl
 by_cases h4:i<1000
 ·rw[n6 a_ h4] at hf;refine ax func228 call228 λC hC hGL=> ?_;refine aK ?_;intros;refine mQ hC hGL 2 ?_;refine aK ?_;intros;apply aj;rw[show i/1000=0 by omega,show i/100%10=i/100 by omega];rfl
 ·rw[yn a_ h1] at hf;refine ax func228 call228 λC hC hGL=> ?_;refine aK ?_;intros;refine mQ hC hGL 1 ?_;exact bB
end
section
set_option maxHeartbeats 8000000
def oT:List UInt8->Nat
 |[]=>0
 |c::r=>if c=57 then oT r+1 else oT r
theorem p8 {form:List UInt8}{i:Nat}(h:i<form.length):form.drop i=form[i]::form.drop (i+1):=A_ h
theorem AM {form:List UInt8}{i:Nat}(h:i<form.length)(hc:form[i]=57):oT (form.drop i)=oT (form.drop (i+1))+1:=by
 rw[p8 h,oT,if_pos hc]
theorem L1 {form:List UInt8}{i:Nat}(h:i<form.length)(hc:form[i]≠57):oT (form.drop i)=oT (form.drop (i+1)):=by
 rw[p8 h,oT,if_neg hc]
theorem Ih {form all:List UInt8}{i:Nat}(h:i<form.length)(hc:form[i]=57)(ha:0<all.length):jy (form.drop i) all=cb [(aa all 0:Int)]++jy (form.drop (i+1)) (all.drop 1):=by
 rw[p8 h];cases all with
 |nil=>cases ha
 |cons x t=>
  rw[jy,if_pos hc];have:cb [(aa (x::t) 0:Int)]=[x]:=by
   show[UInt8.ofNat x.toNat]=[x];rw[UInt8.ofNat_toNat]
  rw[this];rfl
theorem Ii {form all:List UInt8}{i:Nat}(h:i<form.length)(hc:form[i]≠57):jy (form.drop i) all=cb [(aa form i:Int)]++jy (form.drop (i+1)) all:=by
 rw[p8 h];have e:jy (form[i]::form.drop (i+1)) all=form[i]::jy (form.drop (i+1)) all:=by simp only[jy,if_neg hc]
 rw[e];have:cb [(aa form i:Int)]=[form[i]]:=by
  rw[bn h];show[UInt8.ofNat form[i].toNat]=_;rw[UInt8.ofNat_toNat]
 rw[this];rfl
theorem WL {form:List UInt8}{i:Nat}(h:i<form.length):form[i]=57↔(aa form i:Int)=57:=by
 rw[bn h,<-UInt8.toNat_inj];constructor
 ·intro k;rw[k];rfl
 ·intro k;have:form[i].toNat=57:=by omega
  rw[this];rfl
theorem XB {t:Stm}(hf:t.frm=true):0<=nf (a6 t.y) (a6 t.m) (a6 t.d)/\nf (a6 t.y) (a6 t.m) (a6 t.d)<7:=by
 have:=((mg t).1 hf).1;have h2:=IZ (a6 t.y) (a6 t.m) (a6 t.d);unfold Stm.dn Stm.tn at this;omega
theorem Xy {t:Stm}(hf:t.frm=true):0<=nf (a6 t.h) (a6 t.i) (a6 t.s)/\nf (a6 t.h) (a6 t.i) (a6 t.s)<7:=by
 have:=((mg t).1 hf).1;have h2:=IZ (a6 t.h) (a6 t.i) (a6 t.s);unfold Stm.dn Stm.tn at this;omega
theorem Mq (i:Nat):(bQ i).length<=8:=by
 match i with
 |0|1|2|3|4|5|6=>decide
 |n+7=>exact Nat.zero_le _
theorem Qx (i:Nat):(aX i).length<=6:=by
 match i with
 |0|1|2|3|4|5|6=>decide
 |n+7=>exact Nat.zero_le _
def EE (t:Stm):Nat->Int
 |0=>t.m
 |1=>t.d
 |2=>t.h
 |3=>t.i
 |_=>t.s
def my (t:Stm):Nat->List UInt8
 |0=>if t.y= -1 then[] else kK t.y
 |k+1=>if EE t k= -1 then my t k else my t k++eB (EE t k)
theorem WU {t:Stm}{A:List UInt8}{k:Nat}(hA:A=my t k)(h:EE t k≠ -1):A++eB (EE t k)=my t (k+1):=by
 rw[my,if_neg h,hA]
theorem TH {t:Stm}{A:List UInt8}{k:Nat}(hA:A=my t k)(h:EE t k= -1):A=my t (k+1):=by
 rw[my,if_pos h,hA]
theorem IU (t:Stm):∀k,(my t k).length<=4+2*k
 |0=>by
  unfold my;split
  ·exact Nat.zero_le _
  ·exact Nat.le_refl _
 |k+1=>by
  have:=IU t k;unfold my;split
  ·omega
  ·rw[d_,show(eB (EE t k)).length=2 from rfl];omega
def sN (form A:List UInt8)(i:Nat)(out all:List UInt8):Prop:=i<=form.length/\out.length=i/\all.length<=100/\oT (form.drop i)<=all.length/\out++jy (form.drop i) all=jy form A
theorem Mb {form A:List UInt8}(h:oT form<=A.length)(hl:A.length<=4+2*5):sN form A 0 [] A:=⟨Nat.zero_le _,rfl,a_,by rw[YO];exact h,by rw[YO];rfl⟩
theorem FB {form A:List UInt8}{i:Nat}{out all:List UInt8}(h:sN form A i out all)(hb:i<form.length/\(aa form i:Int)=57):0<all.length:=by
 have h4:=h.2.2.2.1;rw[AM hb.1 ((WL hb.1).2 hb.2)] at h4;omega
theorem Mc {form A:List UInt8}{i:Nat}{out all:List UInt8}(h:sN form A i out all)(h1:i<form.length)(hb:(aa form i:Int)=57):sN form A (i+1) (out++cb [(aa all 0:Int)]) (all.drop 1):=by
 have hp:=FB h ⟨h1,hb⟩;obtain⟨a,b,c,d,e⟩:=h;have hc:=(WL h1).2 hb;rw[AM h1 hc] at d;rw[Ih h1 hc hp,<-An] at e;refine⟨h1,?_,?_,?_,e⟩
 ·rw[d_,b];rfl
 ·rw[k_];omega
 ·rw[k_];omega
theorem Md {form A:List UInt8}{i:Nat}{out all:List UInt8}(h:sN form A i out all)(h1:i<form.length)(hb:(aa form i:Int)≠57):sN form A (i+1) (out++cb [(aa form i:Int)]) all:=by
 obtain⟨a,b,c,d,e⟩:=h;have hc:form[i]≠57:=λk=>hb ((WL h1).1 k);rw[L1 h1 hc] at d;rw[Ii h1 hc,<-An] at e;refine⟨h1,?_,c,d,e⟩;rw[d_,b];rfl
theorem PT {form A:List UInt8}{i:Nat}{out all:List UInt8}(h:sN form A i out all)(h1:form.length<=i):out=jy form A:=by
 obtain⟨a,b,c,d,e⟩:=h;rw[List.drop_of_length_le h1] at e;rw[<-e];simp[jy]
def SE (t:Stm):List UInt8:=bQ (nf (a6 t.y) (a6 t.m) (a6 t.d)).toNat++if 0<nf (a6 t.h) (a6 t.i) (a6 t.s) then[84]++aX (nf (a6 t.h) (a6 t.i) (a6 t.s)).toNat else[]
theorem S0 {t:Stm}(hf:t.frm=true):oT (SE t)<=(my t 5).length/\jy (SE t) (my t 5)=qC (a6 t.y) (a6 t.m) (a6 t.d) t.y t.m t.d++oq (a6 t.h) (a6 t.i) (a6 t.s) t.h t.i t.s:=by
 unfold SE;refine v8 hf λk kz=> ?_;clear kz;revert k
 cases e1:a6 t.y<;>cases e2:a6 t.m<;>cases e3:a6 t.d<;>cases e4:a6 t.h<;>cases e5:a6 t.i<;>cases e6:a6 t.s<;>intro k<;>first|exact absurd k b_|(simp only[oo,NC] at e1 e2 e3 e4 e5 e6;simp only[my,EE,e1,e2,e3,e4,e5,e6,Zc,Zd];exact⟨Nat.le_refl _,rfl⟩)
theorem JG {P:Program}[Tab P]{C:Ctx}{n:Nat}{env:Env}{H:Heap}{Q:aM->Env->Heap->Prop}{ops:Array Oper}{rest:List Oper}{G:Glo}{GL:List (Nat×List AVal)}{d:Nat}{t S T e:TypeId}{xS xT xe:TI}{x:Operand}{p:String}{af:Array Edge}{g:Option (Nat×Bool)}{b:Bool}{s:List UInt8}{i:Nat}(hC:C.G=G)(hGL:ab G GL)
  (k:mt P C n G GL ops Q rest ((d,.str (cb [(aa s i:Int)]))::env) H) (hx:ai env x=some (.list 1 1 (bT (Ev 0 [(aa s i:Int)]))):=by rfl) (h1:bi P S=some xS:=by rfl) (h2:xS.desc= .slice e:=by rfl) (h5:bi P e=some xe:=by rfl) (h6:xe.desc= .int .u8:=by rfl) (h3:bi P T=some xT:=by rfl) (h4:xT.desc= .string:=by rfl) (hg:aQ ops env g=some (b,b):=by rfl) (hdn:Nat.ble (d+1) n=true:=by rfl):
  uf P C n ops ({dst:=some d,op:=.convert S T x,type:=t,pos:=p,after:=af,guard:=g}::rest) env H Q:=
 aZ hC hGL (gk [_] hx (by intro v hv;obtain rfl:=List.mem_singleton.1 hv;exact⟨Int.natCast_nonneg _,by exact_mod_cast bu _ _⟩) h1 h2 h5 h6 h3 h4) hg hdn k
abbrev Yt (t:Stm):List AVal:=[.int .i64 t.y,.int .i64 t.m,.int .i64 t.d,.int .i64 t.h,.int .i64 t.i,.int .i64 t.s,.bool t.z,.int .i64 t.o]
abbrev RQ (t:Stm)(A:List UInt8):Env:=[(1,.rop (Yt t) 0),(3,.str A)]
attribute [local irreducible] bG au az aR ab ad aa kK eB ko jy
theorem Bi {G:Glo}(k:Int)(h0:0<=k)(h1:k<100):ak prog G 228 [.int .i64 k,.int .i64 10,.int .i64 2] (.str (eB k)):=by
 obtain⟨i,rfl⟩:=Int.eq_ofNat_of_zero_le h0;exact oD i a_
theorem yR {G:Glo}(hP:fC G)(k:Int)(h0:0<=k)(h1:k<10000):ak prog G 228 [.int .i64 k,.int .i64 10,.int .i64 4] (.str (kK k)):=by
 obtain⟨i,rfl⟩:=Int.eq_ofNat_of_zero_le h0;exact uS hP i a_
theorem BQ {G:Glo}(hGL:ab G shapesTy)(hP:fC G)(t:Stm)(hf:t.frm=true)(hr:t.rng=true):ak prog G 227 [t.A] (.str t.txt):=by
 have h1:=pH hGL t.y t.m t.d;have h2:=pH hGL t.h t.i t.s;have h3:=qt (G:=G) t.o;have kd:0<=nf (a6 t.y) (a6 t.m) (a6 t.d)/\nf (a6 t.y) (a6 t.m) (a6 t.d)<7:=XB hf;have kt:=Xy hf;have hc:=call188;have l1:=Ft t.y;have l2:=iW t.m;have l3:=iW t.d;have l4:=iW t.h;have l5:=iW t.i;have l6:=iW t.s;have l7:=IX t.o;have l8:=Mq (nf (a6 t.y) (a6 t.m) (a6 t.d)).toNat;have l9:=Qx (nf (a6 t.h) (a6 t.i) (a6 t.s)).toNat;have r:=hr;unfold Stm.rng at r;simp only[l_,vS] at r;obtain⟨r1,r2,r3,r4,r5,r6, -⟩:=r;have r3':t.d= -1\/1<=t.d/\t.d<=31:=by
  refine r3.imp_right λh=>⟨h.1,?_⟩;have:=h.2;unfold Stm.day u5 at this
  (repeat' split at this)<;>omega
 refine v8 hf λk kz=> ?_;unfold Stm.txt;have hG:=S0 hf;have hl:=IU t 5;have hLF:(SE t).length<=15:=by
  unfold SE;split<;>(try simp only[d_,j_,E_])<;>omega
 refine Ie func227 call227 rfl rfl rfl rfl λC hC=> ?_;refine cut hC hGL [(1,.rop (Yt t) 0)] [] True eK λ_=> ?_;refine cut hC hGL (RQ t []) [] True eK λ_=> ?_;refine cut hC hGL (RQ t (my t 0)) [] True ?_ λ_=> ?_
 ·have k1:=λn=>yR (G:=G) hP n;unfold my;by_cases hy:t.y= -1
  ·rw[if_pos hy];exact eK
  ·rw[if_neg hy];exact eK
 refine cut hC hGL (RQ t (my t 5)) [] True ?_ λ_=> ?_
 ·have k1:=λn=>Bi (G:=G) n;refine ao ?_;intros;refine lp hC hGL (λx:Nat×List UInt8=>RQ t x.2++[(29,.list 1 5 (bT [(0,.int .i64 t.m),(1,.int .i64 t.d),(2,.int .i64 t.h),(3,.int .i64 t.i),(4,.int .i64 t.s)])),(30,.int .i64 5),(31,.int .i64 (x.1:Nat))]) (λ_=>[]) (λx=>x.1<=5/\x.2=my t x.1) (λx=>5-x.1) (0,my t 0) ⟨Nat.zero_le _,rfl⟩ ah rfl ?_;rintro⟨k',A⟩ ⟨hk,hA⟩;have hk:k'<=5:=hk;have hA:A=my t k':=hA;have hl:=IU t k';rw[<-hA] at hl;rcases(show k'=0\/k'=1\/k'=2\/k'=3\/k'=4\/k'=5 by omega) with rfl|rfl|rfl|rfl|rfl|rfl
  iterate 5
   ·refine xm ?_;repeat' first|exact .n|apply Lc.mk
    all_goals intros
    all_goals first
     |exact ga (_,A++eB (EE t _)) ⟨v_ rfl,WU hA (by assumption)⟩ (v_ rfl) ah aF
     |exact ga (_,A) ⟨v_ rfl,TH hA (by assumption)⟩ (v_ rfl) ah aF
  subst hA;exact eK
 generalize my t 5=A at*
 refine cut hC hGL (RQ t A++[(6,.str (bQ (nf (a6 t.y) (a6 t.m) (a6 t.d)).toNat))]) [] True ?_ λ_=> ?_
 ·refine ao ?_;intros;refine bh mixed hC hGL false (λ_:Unit=>RQ t A++[(6,.str (bQ (nf (a6 t.y) (a6 t.m) (a6 t.d)).toNat))]) (λ_=>[]) (.t 1 (.t 2 (.t 3 (.t 4 (.t 5 (.t 6 (.br 0 (.b 7 (.b 8 (.t 9 (.t 10 (.t 11 (.t 12 .done)))))) (.b 7 (.br 0 (.b 8 (.t 9 (.t 10 (.t 11 (.t 12 .done))))) (.b 8 (.b 0 (.t 9 (.t 10 (.t 11 (.t 12 .done))))))))))))))) be xu ?_;intro _;exact eK
 refine cut hC hGL (RQ t A++[(6,.str (SE t))]) [] True ?_ λ_=> ?_
 ·unfold SE;by_cases h:0<nf (a6 t.h) (a6 t.i) (a6 t.s)
  ·rw[if_pos h];exact eK
  ·rw[if_neg h,Dc];exact eK
 refine cut hC hGL (RQ t A++[(6,.str (SE t)),(8,.str [])]) [] True eK λ_=> ?_;generalize SE t=F at*
 refine Td (λ_:Unit=>[(1,.rop (Yt t) 0),(8,.str (jy F A))]) (λ_=>[]) (λ_=>(jy F A).length<=15) (ay hC hGL ?_) ?_
 ·refine ao ?_;intro bl cap;intros;refine lp hC hGL (λx:Nat×List UInt8×List UInt8=>RQ t x.2.2++[(8,.str x.2.1),(73,.own 0 (.slice (some ⟨bl,0,none⟩) F.length cap)),(74,.int .i64 (F.length:Nat)),(75,.int .i64 (x.1:Nat))]) (λ_=>[.buf bl F cap]) (λx=>sN F A x.1 x.2.1 x.2.2) (λx=>F.length-x.1) (0,[],A) (Mb hG.1 hl) ah rfl ?_;rintro⟨i,out,all⟩ hI;have hI:sN F A i out all:=hI;have hI1:=hI.1;have hI2:=hI.2.1;have hI3:=hI.2.2.1;have hI0:=λh=>FB hI h;refine xw ?_;repeat' first|exact .n|apply Lc.mk
  all_goals intros
  ·refine JG hC hGL ?_;refine iS ?_;intros;refine oA (show out.length+1<=9223372036854775807 by omega) ?_;refine iS ?_;intros;exact cQ (i+1,out++cb [(aa all 0:Int)],all.drop 1) (Mc hI a_ (by assumption)) (by show _-(i+1)<_-i;omega) ah rfl
  ·refine JG hC hGL ?_;refine iS ?_;intros;refine oA (show out.length+1<=9223372036854775807 by omega) ?_;refine iS ?_;intros;exact cQ (i+1,out++cb [(aa F i:Int)],all) (Md hI a_ (by assumption)) (by show _-(i+1)<_-i;omega) ah rfl
  ·have e:=PT hI a_;subst e;exact Wg () a_ (bL ah aF)
 intro _ hn;rw[hG.2] at hn ⊢;refine ay hC hGL (xw ?_);repeat' first|exact .n|apply Lc.mk
 all_goals intros
 ·exact aj (by rw[if_pos (by assumption)])
 ·exact aj (by rw[if_neg (by simp only[W_];assumption),Dc])
end
section
set_option maxHeartbeats 8000000
theorem Stm.three (t:Stm):(t.frm=true/\t.rng=true/\t.E= .none/\t.e=0/\t.T=t.txt)\/(t.E= .errno 2/\t.e=2/\t.T=[])\/(t.E= .errno 3/\t.e=3/\t.T=[]):=by
 unfold Stm.E Stm.e Stm.T;cases t.frm<;>cases t.rng<;>simp
attribute [local irreducible] bG au az aR ab ad aa Stm.txt u5
theorem y9 {G:Glo}(hS:ab G shapesTy)(hP:fC G)(t:Stm):ak prog G 192 [t.A] (.tuple [.str t.T,.int .i64 t.e]):=by
 have h1:=jS hS t;rcases Stm.three t with⟨hf,hr,h2,h3,h4⟩|⟨h2,h3,h4⟩|⟨h2,h3,h4⟩
 ·have h5:=BQ hS hP t hf hr;rw[h3] at h1;rw[h3,h4];refine ax func192 call192 λC hC hGL=> ?_;exact bB
 ·rw[h3] at h1;rw[h3,h4];refine ax func192 call192 λC hC hGL=> ?_;exact bB
 ·rw[h3] at h1;rw[h3,h4];refine ax func192 call192 λC hC hGL=> ?_;exact bB
end
section
theorem VT (n:List UInt8):(aY (am 65 90 32 n) (am 65 90 32 [98,101,103,105,110])||(aY (am 65 90 32 n) (am 65 90 32 [101,110,100])||aY (am 65 90 32 n) (am 65 90 32 [118,101,114,115,105,111,110])))=L5 n:=by
 rw[gU,gU,gU];rfl
theorem UL (n:List UInt8):aY (am 65 90 32 n) (am 65 90 32 [116,121,112,101])=aY (am 97 122 (-32) n) nTYP:=by
 rw[gU];rfl
attribute [local irreducible] bG au aa az aR ab ad
attribute [local irreducible] am dX Pr.fit Ln.E Ln.T Vl.E Vl.T jv cz jM
theorem Vh {G:Glo}{m:Int}(hU:ab G utfTy)(hM:ab G (bP m))(hH:ab G shapesTy)(hP:fC G)(x:Vl)(hs:x.s.length<=10000)(hL:Small x.L)(hv:x.OK):ak prog G 148 [x.A] (.tuple [.str x.T,.int .i64 x.E.e]):=
 wM x (oE hU hM x hv a_ (jS hH x.st)) (wQ x.s a_) (zg x.L hL) (y9 hH hP x.st) x.E_zero
theorem Hh {G:Glo}{m:Int}(hU:ab G utfTy)(hM:ab G (bP m))(hH:ab G shapesTy)(hP:fC G)(v:Int)(x:Itm)(hx:x.OK 10000):ak prog G 85 [J2 x,.int .i64 v] (.str (x.L v)):=by
 have h1:=Vh hU hM hH hP x.2 hx.s hx.L hx.v;have h2:=zd hU x.ln (bU v 4) (Itm.fit hx)
 unfold Itm.L
 unfold Vl.A at h1
 unfold Ln.A at h2
 unfold J2
 obtain⟨⟨g,n,ps,vv⟩,u⟩:=x
 unfold Itm.ln at h2 ⊢
 dsimp only at*
 generalize Ln.E (bU v 4) ⟨g,n,ps,u.T⟩=eL at*
 generalize Ln.T (bU v 4) ⟨g,n,ps,u.T⟩=tL at*
 generalize u.E=eV at*
 generalize u.T=tV at*
 refine ax func85 call85 λC hC hGL=> ?_
 exact bB
theorem Lx {G:Glo}{m:Int}(hU:ab G utfTy)(hM:ab G (bP m))(hH:ab G shapesTy)(hP:fC G)(v:Int)(hv:v=3\/v=4)(x:Itm)(hx:x.OK 10000):ak prog G 37 [J2 x,.int .i64 v] (.int .i64 (x.w v)):=by
 have h1:=qv hU x.p (bU v 4) hx.p.fit;have h4:=λe p=>mZ (G:=G) e p;have hn:x.1.n.length<=10000:=hx.p.n;have hps:x.1.ps.length<=10000:=hx.p.ps;have hq:∀k,(x.1.ps.getD k Pr.z).n.length<=1100000/\(x.1.ps.getD k Pr.z).vs.length<=10000/\Lib.lens (x.1.ps.getD k Pr.z).vs<=10000:=hx.p.q;have hvl:∀k j,((x.1.ps.getD k Pr.z).vs.getD j []).length<=10000:=λk j=>by
  have:=ii (l:=(x.1.ps.getD k Pr.z).vs) (k:=j);have:=(hq k).2.2;omega
 have b1:=gT (G:=G) x.1.n [98,101,103,105,110] a_ b_;have b2:=gT (G:=G) x.1.n [101,110,100] a_ b_;have b3:=gT (G:=G) x.1.n [118,101,114,115,105,111,110] a_ b_;have hfr:=VT x.1.n;generalize aY (am 65 90 32 x.1.n) (am 65 90 32 [98,101,103,105,110])=f1 at*
 generalize aY (am 65 90 32 x.1.n) (am 65 90 32 [101,110,100])=f2 at*
 generalize aY (am 65 90 32 x.1.n) (am 65 90 32 [118,101,114,115,105,111,110])=f3 at*
 have hve:eM v= .none:=by unfold eM;rw[if_pos hv]
 have hT:=Ee (G:=G) v x.1.n x.1.ps a_ a_ (λk=>by have:=(hq k).1;omega) (λk=>⟨by have:=(hq k).2.1;omega,by have:=hvl k 0;omega⟩);have hV:=oE hU hM x.2 hx.v (by have:=hx.s;omega) (jS hH x.2.st);have hR:=rS (G:=G) v x.1.n a_;have hrp:=Vf v x.1.n;have hlo:=Hh hU hM hH hP v x hx;have hw:∀(_:x.p.E (bU v 4)= .none) (_:L5 x.1.n=false),(qN x.1.ps≠0->x.w v=qN x.1.ps)/\(qN x.1.ps=0->(x.k v≠x.2.t->x.w v=1)/\(x.k v=x.2.t->(x.2.E≠ .none->x.w v=x.2.E.e)/\(x.2.E= .none->x.w v=x.r v))):=λa b=>⟨TT a b,λc=>⟨TU a b c,λd=>⟨TS a b c d,w_r a b c d⟩⟩⟩;have hwl:=λa=>UF (v:=v) (x:=x) a;have hwf:=λa b=>Xd (v:=v) (x:=x) a b;have hz:=Vl.E_zero x.2;have hok:∀k,x.p.E (bU v 4)= .none->k<x.1.ps.length->isS (x.1.ps.getD k Pr.z).n=true:=λk h hk=>by
  have h1:lF (bU v 4) x.p.ps 0= .none:=by
   unfold Ln.E at h;split at h
   ·cases h
   ·split at h
    ·cases h
    ·cases hf:lF (bU v 4) x.p.ps 0 with
     |none=>rfl
     |errno e=>rw[hf] at h;cases h
     | «at» e q=>rw[hf] at h;cases h
  have h2:=yh h1 (x.1.ps.getD k Pr.z) (by rw[f_,y_ hk];exact K_ hk);cases hn:isS (x.1.ps.getD k Pr.z).n with
  |true=>rfl
  |false=>rw[El hn] at h2;cases h2
 rw[hve] at hT hR;generalize x.w v=W at*
 unfold Itm.r at hw;generalize x.L v=tL at*
 unfold Itm.k at hw;obtain⟨⟨g,n,ps,vv⟩,u⟩:=x;unfold J2 at hlo ⊢;unfold Vl.A at hV;unfold Itm.p at h1 hw hwl hwf hok;dsimp only at*
 generalize jv v n ps=K at*
 generalize cz v n=r at*
 unfold Rl.A at hR;obtain⟨r0,r1,r2,r3⟩:=r;dsimp only at*
 generalize u.E=eV at*
 generalize hE0:Ln.E (bU v 4) ⟨g,n,ps,[]⟩=e0 at*
 have hfin:e0≠ .none->e0.e≠0:=λh h2=>by
  have:=Yo (v:=v) (x:=(⟨g,n,ps,vv⟩,u));unfold Itm.p at this;dsimp only at this;rw[hE0] at this;refine h (this ?_);rw[UF (by unfold Itm.p;dsimp only;rw[hE0];exact h)];unfold Itm.p;dsimp only
  rw[hE0];exact h2
 by_cases he:e0= .none
 ·subst he;simp only[Err.e,Err.p] at h1;have h4:=h4 0 (-1);cases hf:L5 n with
  |true=>
   rw[hwf rfl hf];rw[hf] at hfr;refine ax func37 call37 λC hC hGL=> ?_;refine xw ?_;repeat' first|exact .n|apply Lc.mk
   all_goals intros
   all_goals (first|exact aj rfl|(exfalso;revert hfr;simp[*];done))
  |false=>
   rw[hf] at hfr;have hw:=hw rfl hf;simp only[Bool.or_eq_false_iff] at hfr;obtain⟨rfl,rfl,rfl⟩:=hfr;refine ax func37 call37 λC hC hGL=> ?_;refine aK ?_;intro b5;intros;refine lp hC hGL (λk:Nat=>[(1,.int .i64 v),(2,.rop (df (⟨g,n,ps,vv⟩,u)) 0),(44,.list 2 ps.length (fU ps)),(45,.int .i64 (ps.length:Nat)),(46,.int .i64 (k:Nat))]) (λ_=>[.cells b5 (some 27) [.int .i64 0,.int .i64 (-1)]]) (λk=>k<=ps.length/\∀j,j<k->pE ps j=0) (λk=>ps.length-k) 0 ⟨Nat.zero_le _,λj h=>absurd h (Uf _)⟩ ah rfl ?_;rintro k ⟨k1,k2⟩;by_cases hk:k<ps.length
   ·have hqk:=hq k;have hfi:=Om hP hM (ps.getD k Pr.z) (hok k rfl hk) a_ a_ (λj=>by have:=hvl k j;omega);have hsa:=gT (G:=G) (ps.getD k Pr.z).n [116,121,112,101] a_ b_;rw[UL] at hsa;cases hf:(ps.getD k Pr.z).fit with
    |false=>
     rw[hf] at hfi;have e:=Xt hf;rw[hw.1 (by rw[lZ hk k2 (by rw[e];decide),e];decide),lZ hk k2 (by rw[e];decide),e];exact bB
    |true=>
     rw[hf] at hfi;refine aK ?_;intro b7;intros;refine lp hC hGL (λj:Nat=>[(1,.int .i64 v),(2,.rop (df (⟨g,n,ps,vv⟩,u)) 0),(7,.own 1 (.pointer (some ⟨b7,0,none⟩))),(44,.list 2 ps.length (fU ps)),(45,.int .i64 (ps.length:Nat)),(46,.int .i64 (k:Nat)),(57,.list 2 k (fU ps)),(58,.int .i64 (k:Nat)),(59,.int .i64 (j:Nat))]) (λ_=>[.cells b5 (some 27) [.int .i64 0,.int .i64 (-1)],.cells b7 (some 58) [.str (ps.getD k Pr.z).n,.list 1 (ps.getD k Pr.z).vs.length (aB (ps.getD k Pr.z).vs)]]) (λj=>j<=k/\∀i,i<j->(aY (am 97 122 (-32) (ps.getD k Pr.z).n) (am 97 122 (-32) (ps.getD i Pr.z).n)&& !aY (am 97 122 (-32) (ps.getD k Pr.z).n) nTYP)=false) (λj=>k-j) 0 ⟨Nat.zero_le _,λj h=>absurd h (Uf _)⟩ ah rfl ?_;rintro j ⟨j1,j2⟩;by_cases hj:j<k
     ·have hqj:=hq j;have hss:=gT (G:=G) (ps.getD k Pr.z).n (ps.getD j Pr.z).n a_ a_;rw[gU] at hss;obtain⟨bt,hbt⟩:∃b,aY (am 97 122 (-32) (ps.getD k Pr.z).n) nTYP=b:=⟨_,rfl⟩;cases bt with
      |true=>
       rw[hbt] at hsa;have e:(aY (am 97 122 (-32) (ps.getD k Pr.z).n) (am 97 122 (-32) (ps.getD j Pr.z).n)&& !aY (am 97 122 (-32) (ps.getD k Pr.z).n) nTYP)=false:=by rw[hbt,Bool.not_true,Bool.and_false]
       obtain⟨bs,hsm⟩:∃b,aY (am 97 122 (-32) (ps.getD k Pr.z).n) (am 97 122 (-32) (ps.getD j Pr.z).n)=b:=⟨_,rfl⟩;cases bs with
       |true=>
        rw[hsm] at hss;refine aK ?_;intros;exact ga (j+1) ⟨hj,λi hi=>by
         rcases Nat.lt_or_eq_of_le (Nat.le_of_lt_succ hi) with g|rfl
         ·exact j2 i g
         ·exact e⟩ a_ ah aF
       |false=>
        rw[hsm] at hss;refine aK ?_;intros;exact ga (j+1) ⟨hj,λi hi=>by
         rcases Nat.lt_or_eq_of_le (Nat.le_of_lt_succ hi) with g|rfl
         ·exact j2 i g
         ·exact e⟩ a_ ah aF
      |false=>
       rw[hbt] at hsa;obtain⟨bs,hsm⟩:∃b,aY (am 97 122 (-32) (ps.getD k Pr.z).n) (am 97 122 (-32) (ps.getD j Pr.z).n)=b:=⟨_,rfl⟩;cases bs with
       |true=>
        rw[hsm] at hss;have hd:dX (ps.getD k Pr.z).n ps 0<(k:Int):=(AV hk).2 ⟨j,hj,(bZ.1 hsm).symm⟩;have e:=Xs hf (ku.1 hbt) hd;rw[hw.1 (by rw[lZ hk k2 (by rw[e];decide),e];decide),lZ hk k2 (by rw[e];decide),e];exact bB
       |false=>
        rw[hsm] at hss;refine aK ?_;intros;exact ga (j+1) ⟨hj,λi hi=>by
         rcases Nat.lt_or_eq_of_le (Nat.le_of_lt_succ hi) with g|rfl
         ·exact j2 i g
         ·rw[hsm,Bool.false_and]⟩ a_ ah aF
     ·obtain rfl:j=k:=by omega
      have e:pE ps j=0:=Vt hf (λh=>by
       obtain⟨i,hi,hs⟩:=(AV hk).1 h.2;have:=j2 i hi;rw[bZ.2 hs.symm,ku.2 h.1] at this;cases this)
      refine aK ?_;intros;exact ga (j+1) ⟨a_,bO k2 e⟩ a_ ah aF
   ·have hw:=hw.2 (Oz a_ k2);by_cases hK:K=u.t
    ·have hw:=hw.2 hK;by_cases hV0:eV.e=0
     ·obtain rfl:=hz hV0;have hw:=hw.2 rfl;simp only[Err.e] at hV;subst hw;by_cases ha:u.t=3/\0<r3/\r3≠(u.L.length:Int)
      ·rw[if_pos ha];obtain⟨a1,a2,a3⟩:=ha;have a4:r3≠0:=by omega
       exact bB
      ·rw[if_neg ha];by_cases a1:u.t=3
       ·by_cases a2:r3=0
        ·by_cases hl:1500<tL.length
         ·rw[if_pos hl];exact bB
         ·rw[if_neg hl];exact bB
        ·have a3:r3=(u.L.length:Int):=by omega
         by_cases hl:1500<tL.length
         ·rw[if_pos hl];exact bB
         ·rw[if_neg hl];exact bB
       ·by_cases hl:1500<tL.length
        ·rw[if_pos hl];exact bB
        ·rw[if_neg hl];exact bB
     ·rw[hw.1 (λh=>hV0 (by rw[h];rfl))];exact bB
    ·rw[hw.1 hK];exact bB
 ·have h0:=hfin he;rw[hwl he];have h4:=h4 e0.e e0.p;generalize e0.e=ee at*
  generalize e0.p=pp at*
  rw[show bU ee 0=false from lK.2 h0] at h4;refine ax func37 call37 λC hC hGL=> ?_;exact bB
end
end Go.Proofs.YtnbaflecdkgihaaGreatDoor
