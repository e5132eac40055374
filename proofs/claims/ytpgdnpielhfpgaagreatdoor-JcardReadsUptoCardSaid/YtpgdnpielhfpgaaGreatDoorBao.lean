/- Parts of the proof of jcardReads_card. -/
import Derived.Test.YtpgdnpielhfpgaaGreatDoorBan
set_option linter.unusedVariables false
set_option linter.unusedSimpArgs false
set_option linter.unusedSectionVars false
namespace Go.Proofs.YtpgdnpielhfpgaaGreatDoor
open Go Go.RowKit
open Go.Proofs.Tryz Go.Proofs.YtpgdnpielhfpgaaGreatDoor.Tryz
set_option maxRecDepth 20000
set_option maxHeartbeats 4000000
section
attribute [local irreducible] bN aw aa aC bg ab ae
attribute [local irreducible] Lib.contains bI gN
theorem cC {G:Glo}{m:Int}(hM:ab G (ct m))(hS:ab G shapesTy)(i j:Nat)(hi:i<=6)(hj:j<=6)(d c z:List UInt8)(hd:d.length=dN i)(hdd:fB d 0 (dN i))(hc:c.length=cN j)(hcc:fB c 0 (cN j))(hz:z.length<=1000000):
  aj prog G 110 [.str (iY i),.str (iY j),.str d,.str c,.str z] (.tuple [(Sj i j d c z).1.A,.int .i64 (Sj i j d c z).2]):=by
 have c0:=j7 (G:=G) hM i 0 hi (by decide);have c1:=j7 (G:=G) hM i 1 hi (by decide);have c2:=j7 (G:=G) hM i 2 hi (by decide);have e0:=j7 (G:=G) hM j 0 hj (by decide);have e1:=j7 (G:=G) hM j 1 hj (by decide);have e2:=j7 (G:=G) hM j 2 hj (by decide);have hR:=λu=>iT (G:=G) hS u
 have hZ:=o9 (G:=G) z (by omega)
 refine fN func110 call110 λC hC hGL=> ?_
 refine dU hC hGL (λx:Nat×Nat×Nat=>[(0,.str (iY i)),(1,.str (iY j)),(4,.str z),(7,.own 0 (pW x.1)),(8,.own 1 (pW x.2.1)),(10,.own 2 (pW x.2.2))]) (λx=>[IJ x.1 d,IJ x.2.1 c,gL x.2.2 0 0 0 0 0 0 false 0]) (λ_=>True) ?_ λx _=> ?_
 ·refine Vi ?_
  intro b7 b8 b10
  exact cy (b7,b8,b10) trivial
 obtain⟨b7,b8,b10⟩:=x
 dsimp only
 refine dU hC hGL (λb12:Nat=>[(0,.str (iY i)),(1,.str (iY j)),(4,.str z),(7,.own 0 (pW b7)),(8,.own 1 (pW b8)),(10,.own 2 (pW b10)),(12,.own 3 (pW b12))]) (λb12=>[IJ b7 d,IJ b8 c,gL b10 0 0 0 0 0 0 false 0,gL b12 (-1) (-1) (-1) (-1) (-1) (-1) false 0]) (λ_=>True) ?_ λb12 _=> ?_
 ·refine az ?_
  intro b12
  exact cy b12 trivial
 refine cut hC hGL [(0,.str (iY i)),(1,.str (iY j)),(4,.str z),(7,.own 0 (pW b7)),(8,.own 1 (pW b8)),(10,.own 2 (pW b10)),(12,.own 3 (pW b12)),(13,.func (.func 168) [] [])] [IJ b7 d,IJ b8 c,gL b10 0 0 0 0 0 0 false 0,gL b12 (-1) (-1) (-1) (-1) (-1) (-1) false 0] True cx λ_=> ?_
 refine dU hC hGL (λ_:List UInt8=>[(1,.str (iY j)),(4,.str z),(8,.own 1 (pW b8)),(10,.own 2 (pW b10)),(12,.own 3 (pW b12)),(13,.func (.func 168) [] [])]) (λx=>[IJ b7 x,IJ b8 c,gL b10 0 0 0 0 0 0 false 0,gL b12 (sY i d) (sM i d) (sD i d) (-1) (-1) (-1) false 0]) (λ_=>True) ?_ λd' _=> ?_
 ·refine az ?_
  refine og hC hGL 4 ?_
  rcases(show i=0\/i=1\/i=2\/i=3\/i=4\/i=5\/i=6 by omega) with rfl|rfl|rfl|rfl|rfl|rfl|rfl
  ·have hd:d.length=0:=hd
   have hdd:fB d 0 0:=hdd
   refine az ?_
   intros
   exact cy (d) trivial
  ·have hd:d.length=4:=hd
   have hdd:fB d 0 4:=hdd
   have f0:=Au (G:=G) b7 d (by omega) (by omega) (λj g1 g2=>hdd j g1 (by omega))
   refine az ?_
   intros
   exact cy (d.drop 4) trivial
  ·have hd:d.length=6:=hd
   have hdd:fB d 0 6:=hdd
   have f0:=Au (G:=G) b7 d (by omega) (by omega) (λj g1 g2=>hdd j g1 (by omega))
   have f1:=fD (G:=G) b7 (d.drop 4) (by simp only[List.length_drop];omega) (by simp only[List.length_drop];omega) (λj g1 g2=>by rw[cM];exact hdd _ (by omega) (by omega))
   rw[show dj (d.drop 4) 0=dj d 4 by rw[fk]] at f1
   refine az ?_
   intros
   exact cy ((d.drop 4).drop 2) trivial
  ·have hd:d.length=8:=hd
   have hdd:fB d 0 8:=hdd
   have f0:=Au (G:=G) b7 d (by omega) (by omega) (λj g1 g2=>hdd j g1 (by omega))
   have f1:=fD (G:=G) b7 (d.drop 4) (by simp only[List.length_drop];omega) (by simp only[List.length_drop];omega) (λj g1 g2=>by rw[cM];exact hdd _ (by omega) (by omega))
   rw[show dj (d.drop 4) 0=dj d 4 by rw[fk]] at f1
   have f2:=fD (G:=G) b7 ((d.drop 4).drop 2) (by simp only[List.length_drop];omega) (by simp only[List.length_drop];omega) (λj g1 g2=>by rw[cM,cM];exact hdd _ (by omega) (by omega))
   rw[show dj ((d.drop 4).drop 2) 0=dj d 6 by rw[fk,fk]] at f2
   refine az ?_
   intros
   exact cy (((d.drop 4).drop 2).drop 2) trivial
  ·have hd:d.length=2:=hd
   have hdd:fB d 0 2:=hdd
   have f0:=fD (G:=G) b7 d (by omega) (by omega) (λj g1 g2=>hdd j g1 (by omega))
   refine az ?_
   intros
   exact cy (d.drop 2) trivial
  ·have hd:d.length=4:=hd
   have hdd:fB d 0 4:=hdd
   have f0:=fD (G:=G) b7 d (by omega) (by omega) (λj g1 g2=>hdd j g1 (by omega))
   have f1:=fD (G:=G) b7 (d.drop 2) (by simp only[List.length_drop];omega) (by simp only[List.length_drop];omega) (λj g1 g2=>by rw[cM];exact hdd _ (by omega) (by omega))
   rw[show dj (d.drop 2) 0=dj d 2 by rw[fk]] at f1
   refine az ?_
   intros
   exact cy ((d.drop 2).drop 2) trivial
  ·have hd:d.length=2:=hd
   have hdd:fB d 0 2:=hdd
   have f0:=fD (G:=G) b7 d (by omega) (by omega) (λj g1 g2=>hdd j g1 (by omega))
   refine az ?_
   intros
   exact cy (d.drop 2) trivial
 refine dU hC hGL (λ_:List UInt8=>[(4,.str z),(10,.own 2 (pW b10)),(12,.own 3 (pW b12))]) (λx=>[IJ b7 d',IJ b8 x,gL b10 0 0 0 0 0 0 false 0,gL b12 (sY i d) (sM i d) (sD i d) (sH j c) (sI j c) (sS j c) false 0]) (λ_=>True) ?_ λc' _=> ?_
 ·generalize sY i d=y0
  generalize sM i d=m0
  generalize sD i d=d0
  refine az ?_
  refine og hC hGL 4 ?_
  rcases(show j=0\/j=1\/j=2\/j=3\/j=4\/j=5\/j=6 by omega) with rfl|rfl|rfl|rfl|rfl|rfl|rfl
  ·have hc:c.length=0:=hc
   have hcc:fB c 0 0:=hcc
   refine az ?_
   intros
   exact cy (c) trivial
  ·have hc:c.length=2:=hc
   have hcc:fB c 0 2:=hcc
   have f0:=fD (G:=G) b8 c (by omega) (by omega) (λj g1 g2=>hcc j g1 (by omega))
   refine az ?_
   intros
   exact cy (c.drop 2) trivial
  ·have hc:c.length=4:=hc
   have hcc:fB c 0 4:=hcc
   have f0:=fD (G:=G) b8 c (by omega) (by omega) (λj g1 g2=>hcc j g1 (by omega))
   have f1:=fD (G:=G) b8 (c.drop 2) (by simp only[List.length_drop];omega) (by simp only[List.length_drop];omega) (λj g1 g2=>by rw[cM];exact hcc _ (by omega) (by omega))
   rw[show dj (c.drop 2) 0=dj c 2 by rw[fk]] at f1
   refine az ?_
   intros
   exact cy ((c.drop 2).drop 2) trivial
  ·have hc:c.length=6:=hc
   have hcc:fB c 0 6:=hcc
   have f0:=fD (G:=G) b8 c (by omega) (by omega) (λj g1 g2=>hcc j g1 (by omega))
   have f1:=fD (G:=G) b8 (c.drop 2) (by simp only[List.length_drop];omega) (by simp only[List.length_drop];omega) (λj g1 g2=>by rw[cM];exact hcc _ (by omega) (by omega))
   rw[show dj (c.drop 2) 0=dj c 2 by rw[fk]] at f1
   have f2:=fD (G:=G) b8 ((c.drop 2).drop 2) (by simp only[List.length_drop];omega) (by simp only[List.length_drop];omega) (λj g1 g2=>by rw[cM,cM];exact hcc _ (by omega) (by omega))
   rw[show dj ((c.drop 2).drop 2) 0=dj c 4 by rw[fk,fk]] at f2
   refine az ?_
   intros
   exact cy (((c.drop 2).drop 2).drop 2) trivial
  ·have hc:c.length=2:=hc
   have hcc:fB c 0 2:=hcc
   have f0:=fD (G:=G) b8 c (by omega) (by omega) (λj g1 g2=>hcc j g1 (by omega))
   refine az ?_
   intros
   exact cy (c.drop 2) trivial
  ·have hc:c.length=4:=hc
   have hcc:fB c 0 4:=hcc
   have f0:=fD (G:=G) b8 c (by omega) (by omega) (λj g1 g2=>hcc j g1 (by omega))
   have f1:=fD (G:=G) b8 (c.drop 2) (by simp only[List.length_drop];omega) (by simp only[List.length_drop];omega) (λj g1 g2=>by rw[cM];exact hcc _ (by omega) (by omega))
   rw[show dj (c.drop 2) 0=dj c 2 by rw[fk]] at f1
   refine az ?_
   intros
   exact cy ((c.drop 2).drop 2) trivial
  ·have hc:c.length=2:=hc
   have hcc:fB c 0 2:=hcc
   have f0:=fD (G:=G) b8 c (by omega) (by omega) (λj g1 g2=>hcc j g1 (by omega))
   refine az ?_
   intros
   exact cy (c.drop 2) trivial
 unfold Sj
 generalize sY i d=y0
 generalize sM i d=m0
 generalize sD i d=d0
 generalize sH j c=h0
 generalize sI j c=i0
 generalize sS j c=s0
 by_cases hz0:z=[]
 ·subst hz0
  have hR0:aj prog G 123 [.agg [.int .i64 y0,.int .i64 m0,.int .i64 d0,.int .i64 h0,.int .i64 i0,.int .i64 s0,.bool false,.int .i64 0]] (.int .i64 (⟨y0,m0,d0,h0,i0,s0,false,0⟩:Stm).e):=hR ⟨y0,m0,d0,h0,i0,s0,false,0⟩
  rw[if_neg (by simp)]
  simp only[if_true,show decide (([]:List UInt8)≠[])=false from rfl]
  generalize (⟨y0,m0,d0,h0,i0,s0,false,0⟩:Stm).e=e at*
  by_cases he:e=0
  ·rw[if_pos he]
   exact am hC hGL ba
  ·rw[if_neg he]
   exact am hC hGL ba
 ·have hlz:z.length≠0:=λh=>hz0 (List.eq_nil_of_length_eq_zero h)
  have hR0:aj prog G 123 [.agg [.int .i64 y0,.int .i64 m0,.int .i64 d0,.int .i64 h0,.int .i64 i0,.int .i64 s0,.bool true,.int .i64 (bI z).1]] (.int .i64 (⟨y0,m0,d0,h0,i0,s0,true,(bI z).1⟩:Stm).e):=hR ⟨y0,m0,d0,h0,i0,s0,true,(bI z).1⟩
  simp only[if_neg hz0,decide_eq_true hz0]
  by_cases hv:(bI z).2=0
  ·rw[if_neg (λh=>h.2 hv)]
   generalize (⟨y0,m0,d0,h0,i0,s0,true,(bI z).1⟩:Stm).e=e at*
   by_cases he:e=0
   ·rw[if_pos he]
    exact am hC hGL ba
   ·rw[if_neg he]
    exact am hC hGL ba
  ·rw[if_pos ⟨hz0,hv⟩]
   exact am hC hGL ba
end
section
theorem kO {a:UInt8}(h:48<=a.toNat/\a.toNat<=57):(a != 45)=true:=by
 rw[bne_iff_ne];rintro rfl;exact absurd h (by decide)
theorem K1 {a:UInt8}(h:a.toNat=45):(a != 45)=false:=by
 obtain rfl:a=45:=UInt8.toNat_inj.1 h;rfl
theorem gq {s u:List UInt8}{i:Nat}(h:aY s=u)(hi:i<u.length)(h45:aa u i=45):aa s i=45:=(mz (by omega)).1 (((dO h).2 i hi).trans h45)
theorem I4 {s:List UInt8}(h:aY s=aU 0):(aN 45 s).length=0/\fB (aN 45 s) 0 0/\sY 0 (aN 45 s)=dY 0 s/\sM 0 (aN 45 s)=dM 0 s/\sD 0 (aN 45 s)=dD 0 s:=by
 obtain rfl:s=[]:=List.eq_nil_of_length_eq_zero (dO h).1;exact⟨rfl,λj _ h=>absurd h (Nat.not_lt_zero _),rfl,rfl,rfl⟩
theorem I3 {s:List UInt8}(h:aY s=aU 1):(aN 45 s).length=4/\fB (aN 45 s) 0 4/\sY 1 (aN 45 s)=dY 1 s/\sM 1 (aN 45 s)=dM 1 s/\sD 1 (aN 45 s)=dD 1 s:=by
 have hl:s.length=4:=(dO h).1;have f0:=bn h (i:=0) (by decide) (by decide);have f1:=bn h (i:=1) (by decide) (by decide);have f2:=bn h (i:=2) (by decide) (by decide);have f3:=bn h (i:=3) (by decide) (by decide)
 match s,hl with
 |[a,b,c,d],_=>
  have f0:48<=a.toNat/\a.toNat<=57:=f0;have f1:48<=b.toNat/\b.toNat<=57:=f1;have f2:48<=c.toNat/\c.toNat<=57:=f2;have f3:48<=d.toNat/\d.toNat<=57:=f3;have e:aN 45 [a,b,c,d]=[a,b,c,d]:=by simp only[aN,List.filter,kO f0,kO f1,kO f2,kO f3]
  rw[e];refine⟨rfl,λj _ hj=> ?_,rfl,rfl,rfl⟩;rcases(show j=0\/j=1\/j=2\/j=3 by omega) with rfl|rfl|rfl|rfl
  ·exact f0
  ·exact f1
  ·exact f2
  ·exact f3
theorem I1 {s:List UInt8}(h:aY s=aU 2):(aN 45 s).length=6/\fB (aN 45 s) 0 6/\sY 2 (aN 45 s)=dY 2 s/\sM 2 (aN 45 s)=dM 2 s/\sD 2 (aN 45 s)=dD 2 s:=by
 have hl:s.length=7:=(dO h).1;have f0:=bn h (i:=0) (by decide) (by decide);have f1:=bn h (i:=1) (by decide) (by decide);have f2:=bn h (i:=2) (by decide) (by decide);have f3:=bn h (i:=3) (by decide) (by decide);have f4:=gq h (i:=4) (by decide) (by decide);have f5:=bn h (i:=5) (by decide) (by decide);have f6:=bn h (i:=6) (by decide) (by decide)
 match s,hl with
 |[a,b,c,d,e,f,g],_=>
  have f0:48<=a.toNat/\a.toNat<=57:=f0;have f1:48<=b.toNat/\b.toNat<=57:=f1;have f2:48<=c.toNat/\c.toNat<=57:=f2;have f3:48<=d.toNat/\d.toNat<=57:=f3;have f4:e.toNat=45:=f4;have f5:48<=f.toNat/\f.toNat<=57:=f5;have f6:48<=g.toNat/\g.toNat<=57:=f6;have e:aN 45 [a,b,c,d,e,f,g]=[a,b,c,d,f,g]:=by simp only[aN,List.filter,kO f0,kO f1,kO f2,kO f3,K1 f4,kO f5,kO f6]
  rw[e];refine⟨rfl,λj _ hj=> ?_,rfl,rfl,rfl⟩;rcases(show j=0\/j=1\/j=2\/j=3\/j=4\/j=5 by omega) with rfl|rfl|rfl|rfl|rfl|rfl
  ·exact f0
  ·exact f1
  ·exact f2
  ·exact f3
  ·exact f5
  ·exact f6
theorem I0 {s:List UInt8}(h:aY s=aU 3):(aN 45 s).length=8/\fB (aN 45 s) 0 8/\sY 3 (aN 45 s)=dY 3 s/\sM 3 (aN 45 s)=dM 3 s/\sD 3 (aN 45 s)=dD 3 s:=by
 have hl:s.length=8:=(dO h).1;have f0:=bn h (i:=0) (by decide) (by decide);have f1:=bn h (i:=1) (by decide) (by decide);have f2:=bn h (i:=2) (by decide) (by decide);have f3:=bn h (i:=3) (by decide) (by decide);have f4:=bn h (i:=4) (by decide) (by decide);have f5:=bn h (i:=5) (by decide) (by decide);have f6:=bn h (i:=6) (by decide) (by decide);have f7:=bn h (i:=7) (by decide) (by decide)
 match s,hl with
 |[a,b,c,d,e,f,g,h],_=>
  have f0:48<=a.toNat/\a.toNat<=57:=f0;have f1:48<=b.toNat/\b.toNat<=57:=f1;have f2:48<=c.toNat/\c.toNat<=57:=f2;have f3:48<=d.toNat/\d.toNat<=57:=f3;have f4:48<=e.toNat/\e.toNat<=57:=f4;have f5:48<=f.toNat/\f.toNat<=57:=f5;have f6:48<=g.toNat/\g.toNat<=57:=f6;have f7:48<=h.toNat/\h.toNat<=57:=f7;have e:aN 45 [a,b,c,d,e,f,g,h]=[a,b,c,d,e,f,g,h]:=by simp only[aN,List.filter,kO f0,kO f1,kO f2,kO f3,kO f4,kO f5,kO f6,kO f7]
  rw[e];refine⟨rfl,λj _ hj=> ?_,rfl,rfl,rfl⟩;rcases(show j=0\/j=1\/j=2\/j=3\/j=4\/j=5\/j=6\/j=7 by omega) with rfl|rfl|rfl|rfl|rfl|rfl|rfl|rfl
  ·exact f0
  ·exact f1
  ·exact f2
  ·exact f3
  ·exact f4
  ·exact f5
  ·exact f6
  ·exact f7
theorem IZ {s:List UInt8}(h:aY s=aU 4):(aN 45 s).length=2/\fB (aN 45 s) 0 2/\sY 4 (aN 45 s)=dY 4 s/\sM 4 (aN 45 s)=dM 4 s/\sD 4 (aN 45 s)=dD 4 s:=by
 have hl:s.length=4:=(dO h).1;have f0:=gq h (i:=0) (by decide) (by decide);have f1:=gq h (i:=1) (by decide) (by decide);have f2:=bn h (i:=2) (by decide) (by decide);have f3:=bn h (i:=3) (by decide) (by decide)
 match s,hl with
 |[a,b,c,d],_=>
  have f0:a.toNat=45:=f0;have f1:b.toNat=45:=f1;have f2:48<=c.toNat/\c.toNat<=57:=f2;have f3:48<=d.toNat/\d.toNat<=57:=f3;have e:aN 45 [a,b,c,d]=[c,d]:=by simp only[aN,List.filter,K1 f0,K1 f1,kO f2,kO f3]
  rw[e];refine⟨rfl,λj _ hj=> ?_,rfl,rfl,rfl⟩;rcases(show j=0\/j=1 by omega) with rfl|rfl
  ·exact f2
  ·exact f3
theorem IY {s:List UInt8}(h:aY s=aU 5):(aN 45 s).length=4/\fB (aN 45 s) 0 4/\sY 5 (aN 45 s)=dY 5 s/\sM 5 (aN 45 s)=dM 5 s/\sD 5 (aN 45 s)=dD 5 s:=by
 have hl:s.length=6:=(dO h).1;have f0:=gq h (i:=0) (by decide) (by decide);have f1:=gq h (i:=1) (by decide) (by decide);have f2:=bn h (i:=2) (by decide) (by decide);have f3:=bn h (i:=3) (by decide) (by decide);have f4:=bn h (i:=4) (by decide) (by decide);have f5:=bn h (i:=5) (by decide) (by decide)
 match s,hl with
 |[a,b,c,d,e,f],_=>
  have f0:a.toNat=45:=f0;have f1:b.toNat=45:=f1;have f2:48<=c.toNat/\c.toNat<=57:=f2;have f3:48<=d.toNat/\d.toNat<=57:=f3;have f4:48<=e.toNat/\e.toNat<=57:=f4;have f5:48<=f.toNat/\f.toNat<=57:=f5;have e:aN 45 [a,b,c,d,e,f]=[c,d,e,f]:=by simp only[aN,List.filter,K1 f0,K1 f1,kO f2,kO f3,kO f4,kO f5]
  rw[e];refine⟨rfl,λj _ hj=> ?_,rfl,rfl,rfl⟩;rcases(show j=0\/j=1\/j=2\/j=3 by omega) with rfl|rfl|rfl|rfl
  ·exact f2
  ·exact f3
  ·exact f4
  ·exact f5
theorem IX {s:List UInt8}(h:aY s=aU 6):(aN 45 s).length=2/\fB (aN 45 s) 0 2/\sY 6 (aN 45 s)=dY 6 s/\sM 6 (aN 45 s)=dM 6 s/\sD 6 (aN 45 s)=dD 6 s:=by
 have hl:s.length=5:=(dO h).1;have f0:=gq h (i:=0) (by decide) (by decide);have f1:=gq h (i:=1) (by decide) (by decide);have f2:=gq h (i:=2) (by decide) (by decide);have f3:=bn h (i:=3) (by decide) (by decide);have f4:=bn h (i:=4) (by decide) (by decide)
 match s,hl with
 |[a,b,c,d,e],_=>
  have f0:a.toNat=45:=f0;have f1:b.toNat=45:=f1;have f2:c.toNat=45:=f2;have f3:48<=d.toNat/\d.toNat<=57:=f3;have f4:48<=e.toNat/\e.toNat<=57:=f4;have e:aN 45 [a,b,c,d,e]=[d,e]:=by simp only[aN,List.filter,K1 f0,K1 f1,K1 f2,kO f3,kO f4]
  rw[e];refine⟨rfl,λj _ hj=> ?_,rfl,rfl,rfl⟩;rcases(show j=0\/j=1 by omega) with rfl|rfl
  ·exact f3
  ·exact f4
theorem Ce {s:List UInt8}{i:Nat}(hi:i<=6)(h:aY s=aU i):(aN 45 s).length=dN i/\fB (aN 45 s) 0 (dN i)/\sY i (aN 45 s)=dY i s/\sM i (aN 45 s)=dM i s/\sD i (aN 45 s)=dD i s:=by
 rcases(show i=0\/i=1\/i=2\/i=3\/i=4\/i=5\/i=6 by omega) with rfl|rfl|rfl|rfl|rfl|rfl|rfl
 ·exact I4 h
 ·exact I3 h
 ·exact I1 h
 ·exact I0 h
 ·exact IZ h
 ·exact IY h
 ·exact IX h
theorem LA {s:List UInt8}(h:aY s=aT 0):(aN 45 s).length=0/\fB (aN 45 s) 0 0/\sH 0 (aN 45 s)=cH 0 s/\sI 0 (aN 45 s)=cI 0 s/\sS 0 (aN 45 s)=cS 0 s:=by
 obtain rfl:s=[]:=List.eq_nil_of_length_eq_zero (dO h).1;exact⟨rfl,λj _ h=>absurd h (Nat.not_lt_zero _),rfl,rfl,rfl⟩
theorem Ly {s:List UInt8}(h:aY s=aT 1):(aN 45 s).length=2/\fB (aN 45 s) 0 2/\sH 1 (aN 45 s)=cH 1 s/\sI 1 (aN 45 s)=cI 1 s/\sS 1 (aN 45 s)=cS 1 s:=by
 have hl:s.length=2:=(dO h).1;have f0:=bn h (i:=0) (by decide) (by decide);have f1:=bn h (i:=1) (by decide) (by decide)
 match s,hl with
 |[a,b],_=>
  have f0:48<=a.toNat/\a.toNat<=57:=f0;have f1:48<=b.toNat/\b.toNat<=57:=f1;have e:aN 45 [a,b]=[a,b]:=by simp only[aN,List.filter,kO f0,kO f1]
  rw[e];refine⟨rfl,λj _ hj=> ?_,rfl,rfl,rfl⟩;rcases(show j=0\/j=1 by omega) with rfl|rfl
  ·exact f0
  ·exact f1
theorem Lw {s:List UInt8}(h:aY s=aT 2):(aN 45 s).length=4/\fB (aN 45 s) 0 4/\sH 2 (aN 45 s)=cH 2 s/\sI 2 (aN 45 s)=cI 2 s/\sS 2 (aN 45 s)=cS 2 s:=by
 have hl:s.length=4:=(dO h).1;have f0:=bn h (i:=0) (by decide) (by decide);have f1:=bn h (i:=1) (by decide) (by decide);have f2:=bn h (i:=2) (by decide) (by decide);have f3:=bn h (i:=3) (by decide) (by decide)
 match s,hl with
 |[a,b,c,d],_=>
  have f0:48<=a.toNat/\a.toNat<=57:=f0;have f1:48<=b.toNat/\b.toNat<=57:=f1;have f2:48<=c.toNat/\c.toNat<=57:=f2;have f3:48<=d.toNat/\d.toNat<=57:=f3;have e:aN 45 [a,b,c,d]=[a,b,c,d]:=by simp only[aN,List.filter,kO f0,kO f1,kO f2,kO f3]
  rw[e];refine⟨rfl,λj _ hj=> ?_,rfl,rfl,rfl⟩;rcases(show j=0\/j=1\/j=2\/j=3 by omega) with rfl|rfl|rfl|rfl
  ·exact f0
  ·exact f1
  ·exact f2
  ·exact f3
theorem Lt {s:List UInt8}(h:aY s=aT 3):(aN 45 s).length=6/\fB (aN 45 s) 0 6/\sH 3 (aN 45 s)=cH 3 s/\sI 3 (aN 45 s)=cI 3 s/\sS 3 (aN 45 s)=cS 3 s:=by
 have hl:s.length=6:=(dO h).1;have f0:=bn h (i:=0) (by decide) (by decide);have f1:=bn h (i:=1) (by decide) (by decide);have f2:=bn h (i:=2) (by decide) (by decide);have f3:=bn h (i:=3) (by decide) (by decide);have f4:=bn h (i:=4) (by decide) (by decide);have f5:=bn h (i:=5) (by decide) (by decide)
 match s,hl with
 |[a,b,c,d,e,f],_=>
  have f0:48<=a.toNat/\a.toNat<=57:=f0;have f1:48<=b.toNat/\b.toNat<=57:=f1;have f2:48<=c.toNat/\c.toNat<=57:=f2;have f3:48<=d.toNat/\d.toNat<=57:=f3;have f4:48<=e.toNat/\e.toNat<=57:=f4;have f5:48<=f.toNat/\f.toNat<=57:=f5;have e:aN 45 [a,b,c,d,e,f]=[a,b,c,d,e,f]:=by simp only[aN,List.filter,kO f0,kO f1,kO f2,kO f3,kO f4,kO f5]
  rw[e];refine⟨rfl,λj _ hj=> ?_,rfl,rfl,rfl⟩;rcases(show j=0\/j=1\/j=2\/j=3\/j=4\/j=5 by omega) with rfl|rfl|rfl|rfl|rfl|rfl
  ·exact f0
  ·exact f1
  ·exact f2
  ·exact f3
  ·exact f4
  ·exact f5
theorem Ls {s:List UInt8}(h:aY s=aT 4):(aN 45 s).length=2/\fB (aN 45 s) 0 2/\sH 4 (aN 45 s)=cH 4 s/\sI 4 (aN 45 s)=cI 4 s/\sS 4 (aN 45 s)=cS 4 s:=by
 have hl:s.length=3:=(dO h).1;have f0:=gq h (i:=0) (by decide) (by decide);have f1:=bn h (i:=1) (by decide) (by decide);have f2:=bn h (i:=2) (by decide) (by decide)
 match s,hl with
 |[a,b,c],_=>
  have f0:a.toNat=45:=f0;have f1:48<=b.toNat/\b.toNat<=57:=f1;have f2:48<=c.toNat/\c.toNat<=57:=f2;have e:aN 45 [a,b,c]=[b,c]:=by simp only[aN,List.filter,K1 f0,kO f1,kO f2]
  rw[e];refine⟨rfl,λj _ hj=> ?_,rfl,rfl,rfl⟩;rcases(show j=0\/j=1 by omega) with rfl|rfl
  ·exact f1
  ·exact f2
theorem Lr {s:List UInt8}(h:aY s=aT 5):(aN 45 s).length=4/\fB (aN 45 s) 0 4/\sH 5 (aN 45 s)=cH 5 s/\sI 5 (aN 45 s)=cI 5 s/\sS 5 (aN 45 s)=cS 5 s:=by
 have hl:s.length=5:=(dO h).1;have f0:=gq h (i:=0) (by decide) (by decide);have f1:=bn h (i:=1) (by decide) (by decide);have f2:=bn h (i:=2) (by decide) (by decide);have f3:=bn h (i:=3) (by decide) (by decide);have f4:=bn h (i:=4) (by decide) (by decide)
 match s,hl with
 |[a,b,c,d,e],_=>
  have f0:a.toNat=45:=f0;have f1:48<=b.toNat/\b.toNat<=57:=f1;have f2:48<=c.toNat/\c.toNat<=57:=f2;have f3:48<=d.toNat/\d.toNat<=57:=f3;have f4:48<=e.toNat/\e.toNat<=57:=f4;have e:aN 45 [a,b,c,d,e]=[b,c,d,e]:=by simp only[aN,List.filter,K1 f0,kO f1,kO f2,kO f3,kO f4]
  rw[e];refine⟨rfl,λj _ hj=> ?_,rfl,rfl,rfl⟩;rcases(show j=0\/j=1\/j=2\/j=3 by omega) with rfl|rfl|rfl|rfl
  ·exact f1
  ·exact f2
  ·exact f3
  ·exact f4
theorem Lq {s:List UInt8}(h:aY s=aT 6):(aN 45 s).length=2/\fB (aN 45 s) 0 2/\sH 6 (aN 45 s)=cH 6 s/\sI 6 (aN 45 s)=cI 6 s/\sS 6 (aN 45 s)=cS 6 s:=by
 have hl:s.length=4:=(dO h).1;have f0:=gq h (i:=0) (by decide) (by decide);have f1:=gq h (i:=1) (by decide) (by decide);have f2:=bn h (i:=2) (by decide) (by decide);have f3:=bn h (i:=3) (by decide) (by decide)
 match s,hl with
 |[a,b,c,d],_=>
  have f0:a.toNat=45:=f0;have f1:b.toNat=45:=f1;have f2:48<=c.toNat/\c.toNat<=57:=f2;have f3:48<=d.toNat/\d.toNat<=57:=f3;have e:aN 45 [a,b,c,d]=[c,d]:=by simp only[aN,List.filter,K1 f0,K1 f1,kO f2,kO f3]
  rw[e];refine⟨rfl,λj _ hj=> ?_,rfl,rfl,rfl⟩;rcases(show j=0\/j=1 by omega) with rfl|rfl
  ·exact f2
  ·exact f3
theorem fQ {s:List UInt8}{i:Nat}(hi:i<=6)(h:aY s=aT i):(aN 45 s).length=cN i/\fB (aN 45 s) 0 (cN i)/\sH i (aN 45 s)=cH i s/\sI i (aN 45 s)=cI i s/\sS i (aN 45 s)=cS i s:=by
 rcases(show i=0\/i=1\/i=2\/i=3\/i=4\/i=5\/i=6 by omega) with rfl|rfl|rfl|rfl|rfl|rfl|rfl
 ·exact LA h
 ·exact Ly h
 ·exact Lw h
 ·exact Lt h
 ·exact Ls h
 ·exact Lr h
 ·exact Lq h
theorem Rp (u:Stm):oR u=if u.e=0 then(u,.none) else(Stm.no,.errno u.e):=rfl
theorem Si {i j:Nat}(hi:i<=6)(hj:j<=6){d c z:List UInt8}(hd:aY d=aU i)(hc:aY c=aT j):
  Sj i j (aN 45 d) (aN 45 c) z=if z≠[]/\(bI z).2≠0 then(Stm.no,(bI z).2) else((oR (EY i d j c z)).1,(oR (EY i d j c z)).2.e):=by
 obtain⟨-, -,e1,e2,e3⟩:=Ce hi hd;obtain⟨-, -,e4,e5,e6⟩:=fQ hj hc;unfold Sj;rw[e1,e2,e3,e4,e5,e6];split
 ·rfl
 ·rw[Rp];have e:(⟨dY i d,dM i d,dD i d,cH j c,cI j c,cS j c,decide (z≠[]),if z=[] then 0 else(bI z).1⟩:Stm)=EY i d j c z:=rfl;rw[e];by_cases h:(EY i d j c z).e=0
  ·rw[if_pos h,if_pos h];rfl
  ·rw[if_neg h,if_neg h];rfl
theorem FN {P u:List UInt8}{n:Nat}(hn:n<P.length)(h:aa P n≠aa u n):P.isPrefixOf u=false:=by
 rw[Bool.eq_false_iff];intro hp;rw[List.isPrefixOf_iff_prefix] at hp;obtain⟨t,rfl⟩:=hp;apply h;unfold aa;simp only[List.getD_eq_getElem?_getD];rw[List.getElem?_append_left hn]
theorem vW {P u:List UInt8}(hn:u.length<P.length):P.isPrefixOf u=false:=by
 rw[Bool.eq_false_iff];intro hp;rw[List.isPrefixOf_iff_prefix] at hp;have:=hp.length_le;omega
theorem fg {r:Int}:0<=bj [90,43,45] r↔(r=90\/r=43\/r=45):=by
 have:=zG (a:=90) (b:=43) (c:=45) r;rw[this];simp
end
section
theorem jq {d t:List UInt8}{k j n:Nat}(hk:k<=6)(hd:aY d=aU k)(h:cY t j n):Sj k j (aN 45 d) (aN 45 (t.take n)) (t.drop n)=((lw d true t).1,(lw d true t).2.e):=by
 obtain⟨e1,e2⟩:=Ax h;have e3:=xl hk hd;have j1:=h.j1;rw[Si hk h.j6 hd h.hs];have e:lw d true t=if t.drop n≠[]/\(bI (t.drop n)).2≠0 then(Stm.no,.errno (bI (t.drop n)).2) else oR (EY k d j (t.take n) (t.drop n)):=by
  unfold lw;rw[e1,e2,e3,if_neg (show ¬k=7 by omega),if_neg (by decide),if_neg (show ¬j=0 by omega)]
 rw[e];split<;>rfl
theorem SR {d t:List UInt8}{k:Nat}(hk:k<=6)(hd:aY d=aU k):Sj k 0 (aN 45 d) [] []=((lw d false t).1,(lw d false t).2.e):=by
 have e3:=xl hk hd;have:=Si (z:=[]) hk (Nat.zero_le 6) hd (show aY []=aT 0 from rfl);rw[show aN 45 []=[] from rfl] at this;rw[this,R9 (by omega),e3,if_neg (by simp)]
def KT (t:List UInt8)(m:Nat):Prop:=∀j,1<=j->j<=m->¬cY t j (aT j).length
theorem TP {t:List UInt8}:KT t 0:=λj h1 h2=>by omega
theorem cw {t:List UInt8}{m:Nat}(h:KT t m)(k:¬cY t (m+1) (aT (m+1)).length):KT t (m+1):=λj h1 h2=>by
 rcases Nat.lt_or_ge m j with g|g
 ·rw[show j=m+1 by omega];exact k
 ·exact h j h1 g
theorem MU {t:List UInt8}(h:KT t 6):nq t=0:=Decidable.byContradiction λk=>by
 have g:=Aw k;have e:=g.len;exact h _ g.j1 g.j6 (by rw[<-e];exact g)
def WC (d t:List UInt8)(timed:Bool)(k:Nat):Prop:=k<=7/\((∀j,j<k->aY d≠aU j)\/(lw d timed t=(Stm.no,.errno 3)/\∃j,j<k/\aY d=aU j))
theorem vA {t:List UInt8}{n:Nat}(hn:n<t.length)(h:aa t n=90\/aa t n=43\/aa t n=45):aa (aY t) n≠57:=by
 rw[iG hn];unfold ff;rw[if_neg (by omega)];omega
theorem VI:aa [57,57,57,57] 2=57:=by decide
theorem VH:aa [57,57,57,57,57,57] 4=57:=by decide
theorem VG:aa [45,57,57,57,57] 3=57:=by decide
abbrev BW (b2 b9 b11 k n m:Nat)(d t:List UInt8)(v:Bool):Env:=[(2,.own 0 (pW b2)),(4,.str d),(5,.str t),(6,.bool true),(26,.list 3 7 jE),(27,.int .i64 7),(28,.int .i64 (k:Nat)),(9,.own 1 (pW b9)),(11,.own 2 (pW b11)),(12,.int .i64 (n:Nat)),(47,.list 3 (7-1) (λi=>jE (1+i))),(48,.int .i64 6),(49,.int .i64 (m:Nat)),(68,.bool v)]
abbrev BV (b2 b9 b11 k m:Nat):Heap:=[gL b2 0 0 0 0 0 0 false 0,.cells b9 (some 194) [.str (iY k),.str (aU k),.str (aT k)],.cells b11 (some 194) [.str (iY m),.str (aU m),.str (aT m)]]
abbrev BU:DPlan:=.take 0 (.t 1 (.t 2 (.t 3 (.t 4 (.t 5 (.t 6 (.t 7 (.t 9 (.t 10 (.b 8 (.t 11 (.t 12 .done))))))))))))
abbrev KW:DPlan:=.take 0 (.t 1 (.t 2 (.t 3 (.t 4 (.t 6 (.t 7 (.t 8 (.t 10 (.b 5 (.b 9 (.b 11 (.t 12 (.t 13 (.b 14 (.t 15 .done)))))))))))))))
attribute [local irreducible] bN aw aa aC bg ab ae
attribute [local irreducible] aY aN Sj lw bI
theorem yh {G:Glo}{m:Int}(hGL:ab G shapesTy)(hM:ab G (ct m))(s:List UInt8)(hl:s.length<=10000):aj prog G 66 [.str s] (.tuple [(Hf s).1.A,.int .i64 (Hf s).2.e]):=by
 have k1:=aX (G:=G) s 84 (by decide) (by decide);have hn:=IG (s:=s) (c:=84);have hlen:=El s 84;have hSh:=λx h=>sd (G:=G) x h
 have hcs:=call109
 have hA:=λx h=>strings_ReplaceAll (G:=G) hM x 45 h
 have hP:=λx y=>Gq (G:=G) x y
 have hX:=λc h0 h1=>aX (G:=G) [90,43,45] c h0 h1
 unfold Hf
 refine Kg func66 call66 rfl rfl rfl rfl ?_
 intro C hC
 refine dU hC hGL (λb2:Nat=>[(0,.str s),(2,.own 0 (pW b2))]) (λb2=>[gL b2 0 0 0 0 0 0 false 0]) (λ_=>True) ?_ λb2 _=> ?_
 ·refine az ?_
  intro b2
  exact cy b2 trivial
 refine cut hC hGL [(0,.str s),(2,.own 0 (pW b2)),(4,.str s),(5,.str [])] [gL b2 0 0 0 0 0 0 false 0] True cx λ_=> ?_
 refine cut hC hGL [(0,.str s),(2,.own 0 (pW b2)),(4,.str s),(5,.str []),(6,.bool false)] [gL b2 0 0 0 0 0 0 false 0] True cx λ_=> ?_
 refine cut hC hGL [(2,.own 0 (pW b2)),(4,.str (eK s 84).1),(5,.str (eK s 84).2.1),(6,.bool (eK s 84).2.2)] [gL b2 0 0 0 0 0 0 false 0] True ?_ λ_=> ?_
 ·rcases ky s 84 with⟨h1,h2⟩|⟨m,h1,h2,h3,h4⟩
  ·have e:eK s 84=(s,[],false):=by unfold eK;rw[h1,if_pos (by decide)]
   rw[h1] at k1
   rw[e]
   exact ba
  ·have e:eK s 84=(s.take m,s.drop (m+1),true):=by unfold eK;rw[h2,if_neg (by omega),Int.toNat_natCast]
   rw[h2] at k1
   rw[e]
   exact ba
 generalize (eK s 84).1=d at*
 generalize (eK s 84).2.1=t at*
 generalize (eK s 84).2.2=timed at*
 refine am hC hGL (az ?_)
 intros
 refine lp hC hGL (λk:Nat=>[(2,.own 0 (pW b2)),(4,.str d),(5,.str t),(6,.bool timed),(26,.list 3 7 jE),(27,.int .i64 7),(28,.int .i64 (k:Nat))]) (λ_=>[gL b2 0 0 0 0 0 0 false 0]) (WC d t timed) (λk=>7-k) 0 ⟨by decide,.inl λj h=>absurd h (Nat.not_lt_zero _)⟩ ad rfl ?_
 rintro k ⟨hk7,hI⟩
 by_cases hk:¬k<7
 ·have hr:lw d timed t=(Stm.no,.errno 3):=by
   rcases hI with h|⟨h,_⟩
   ·exact Sb (GM λj hj=>h j (by omega))
   ·exact h
  rw[hr]
  exact cx
 have hk:k<7:=Decidable.not_not.1 hk
 have hsh:=hSh d (by omega)
 refine az ?_
 intro b9
 intros
 refine cF mixed hC hGL true (λ_ _=>False) (λ_:Unit=>[(2,.own 0 (pW b2)),(4,.str d),(5,.str t),(6,.bool timed),(26,.list 3 7 jE),(27,.int .i64 7),(28,.int .i64 (k:Nat)),(9,.own 1 (pW b9)),(36,.bool (!aS (aY d) (aU k)))]) (λ_=>[gL b2 0 0 0 0 0 0 false 0,.cells b9 (some 194) [.str (iY k),.str (aU k),.str (aT k)]]) (.t 0 (.t 2 (.t 3 (.b 1 (.t 4 .done))))) (by kernel_rfl) ?_ ?_ (λ_ _ h=>h.elim)
 ·refine xn ?_
  repeat' first|exact .n|apply Lc.mk
  all_goals intros
  all_goals exact⟨(),ad,an⟩
 intro _
 by_cases he:¬aY d=aU k
 ·refine az ?_
  intros
  refine cJ (k+1) ⟨by omega,?_⟩ (by omega) ad an
  rcases hI with h|⟨h,j,hj,h2⟩
  ·exact .inl (bT h he)
  ·exact .inr ⟨h,j,by omega,h2⟩
 have he:aY d=aU k:=Decidable.not_not.1 he
 have hJ:∀j,j<k->aY d≠aU j:=by
  rcases hI with h|⟨h,j,hj,h2⟩
  ·exact h
  ·exact absurd (Eh (by omega) (by omega) (h2.symm.trans he)) (by omega)
 obtain⟨u1,u2, -⟩:=Ce (by omega) he
 have hra:=hA d (by omega)
 cases timed with
 |false=>
  have hst:=cC (G:=G) hM hGL k 0 (by omega) (by decide) (aN 45 d) [] [] u1 u2 rfl (λj _ h=>absurd h (Nat.not_lt_zero _)) (by simp)
  rw[SR (t:=t) (by omega) he] at hst
  generalize lw d false t=W at*
  obtain⟨w,ew⟩:=W
  dsimp only at hst ⊢
  refine az ?_
  intros
  refine eQ (aK (i:=1) (k:=9) rfl rfl) ?_
  refine cF mixed hC hGL false (λ_ _=>False) (λ_:Unit=>[(2,.own 0 (pW b2)),(3,.int .i64 ew.e)]) (λ_=>[gL b2 w.y w.m w.d w.h w.i w.s w.z w.o]) (.t 0 (.t 1 (.t 2 (.b 3 (.b 4 (.t 5 (.t 6 (.b 7 (.t 8 .done))))))))) (by kernel_rfl) ?_ ?_ (λ_ _ h=>h.elim)
  ·refine xn ?_
   repeat' first|exact .n|apply Lc.mk
   all_goals intros
   all_goals exact⟨(),ad,an⟩
  ·intro _
   exact cx
 |true=>
  have hcont:KT t 6->WC d t true (k+1):=λh=>⟨by omega,.inr ⟨La (by rw[xl (by omega) he];omega) (MU h),k,by omega,he⟩⟩
  refine az ?_
  intros
  refine lp hC hGL (λj:Nat=>[(2,.own 0 (pW b2)),(4,.str d),(5,.str t),(6,.bool true),(26,.list 3 7 jE),(27,.int .i64 7),(28,.int .i64 (k:Nat)),(9,.own 1 (pW b9)),(47,.list 3 (7-1) (λi=>jE (1+i))),(48,.int .i64 6),(49,.int .i64 (j:Nat))]) (λ_=>[gL b2 0 0 0 0 0 0 false 0,.cells b9 (some 194) [.str (iY k),.str (aU k),.str (aT k)]]) (λj=>j<=6/\KT t j) (λj=>6-j) 0 ⟨by decide,TP⟩ ad rfl ?_
  rintro j ⟨hj6,hno⟩
  rcases(show j=0\/j=1\/j=2\/j=3\/j=4\/j=5\/j=6 by omega) with rfl|rfl|rfl|rfl|rfl|rfl|rfl
  ·as_aux_lemma=>
    have hcl:(aT 1).length=2:=rfl
    have hcl2:(aT (1+0)).length=2:=rfl
    refine az ?_
    intro b11
    intros
    by_cases h1:t.length<2
    ·have hns:¬cY t 1 (aT 1).length:=λh=>by have:=h.hn;omega
     refine cF mixed hC hGL true (λ_ _=>False) (λ_:Unit=>BW b2 b9 b11 k 2 0 d t true) (λ_=>BV b2 b9 b11 k 1) BU (by kernel_rfl) ?_ ?_ (λ_ _ h=>h.elim)
     ·refine xn ?_
      repeat' first|exact .n|apply Lc.mk
      all_goals intros
      all_goals exact⟨(),ad,an⟩
     intro _
     refine az ?_
     intros
     exact cJ 1 ⟨by decide,cw hno hns⟩ (by decide) ad an
    have hs2:=hSh (t.take 2) (by rw[List.length_take];omega)
    by_cases h2:¬aY (t.take 2)=aT 1
    ·have hns:¬cY t 1 (aT 1).length:=λh=>h2 h.hs
     refine cF mixed hC hGL true (λ_ _=>False) (λ_:Unit=>BW b2 b9 b11 k 2 0 d t (!aS (aY (t.take 2)) (aT 1))) (λ_=>BV b2 b9 b11 k 1) BU (by kernel_rfl) ?_ ?_ (λ_ _ h=>h.elim)
     ·refine xn ?_
      repeat' first|exact .n|apply Lc.mk
      all_goals intros
      all_goals exact⟨(),ad,an⟩
     intro _
     refine az ?_
     intros
     exact cJ 1 ⟨by decide,cw hno hns⟩ (by decide) ad an
    have h2:aY (t.take 2)=aT 1:=Decidable.not_not.1 h2
    refine cF mixed hC hGL true (λ_ _=>False) (λ_:Unit=>BW b2 b9 b11 k 2 0 d t (!aS (aY (t.take 2)) (aT 1))) (λ_=>BV b2 b9 b11 k 1) BU (by kernel_rfl) ?_ ?_ (λ_ _ h=>h.elim)
    ·refine xn ?_
     repeat' first|exact .n|apply Lc.mk
     all_goals intros
     all_goals exact⟨(),ad,an⟩
    intro _
    have hs3:=hSh t (by omega)
    have hp3:=hP (aY t) [57,57,57,57]
    have hls:=qo t
    by_cases h3:t.length=2
    ·have hsp:cY t 1 2:=⟨by decide,by decide,by omega,h2,.inl h3.symm⟩
     have hd0:(t.drop 2).length=0:=by rw[List.length_drop];omega
     rw[vW (by rw[hls,h3];decide)] at hp3
     have hra2:=hA (t.take 2) (by rw[List.length_take];omega)
     obtain⟨v1,v2, -⟩:=fQ (i:=1) (by decide) h2
     have hst:=cC (G:=G) hM hGL k 1 (by omega) (by decide) (aN 45 d) (aN 45 (t.take 2)) (t.drop 2) u1 u2 v1 v2 (by rw[List.length_drop];omega)
     rw[jq (by omega) he hsp] at hst
     generalize lw d true t=W at*
     obtain⟨w,ew⟩:=W
     dsimp only at hst ⊢
     refine az ?_
     intros
     refine eQ (aE (aK (i:=2) (k:=11) rfl rfl) (aK (i:=1) (k:=9) rfl rfl)) ?_
     refine cF mixed hC hGL false (λ_ _=>False) (λ_:Unit=>[(2,.own 0 (pW b2)),(3,.int .i64 ew.e)]) (λ_=>[gL b2 w.y w.m w.d w.h w.i w.s w.z w.o]) KW (by kernel_rfl) ?_ ?_ (λ_ _ h=>h.elim)
     ·refine xn ?_
      repeat' first|exact .n|apply Lc.mk
      all_goals intros
      all_goals exact⟨(),ad,an⟩
     ·intro _
      exact cx
    have hdn:(t.drop 2).length≠0:=by rw[List.length_drop];omega
    have hbz:aa (t.drop 2) 0=aa t 2:=by rw[cM]
    have hb9:=bu (t.drop 2) 0
    have hx:=hX (aa (t.drop 2) 0:Int) (by omega) (by omega)
    by_cases h4:aa t 2=90\/aa t 2=43\/aa t 2=45
    ·have hsp:cY t 1 2:=⟨by decide,by decide,by omega,h2,.inr h4⟩
     have hix:0<=bj [90,43,45] (aa (t.drop 2) 0:Int):=fg.2 (by omega)
     rw[FN (n:=2) (by decide) (λe=>vA (t:=t) (n:=2) (by omega) h4 (e.symm.trans VI))] at hp3
     generalize bj [90,43,45] (aa (t.drop 2) 0:Int)=ix at*
     have hra2:=hA (t.take 2) (by rw[List.length_take];omega)
     obtain⟨v1,v2, -⟩:=fQ (i:=1) (by decide) h2
     have hst:=cC (G:=G) hM hGL k 1 (by omega) (by decide) (aN 45 d) (aN 45 (t.take 2)) (t.drop 2) u1 u2 v1 v2 (by rw[List.length_drop];omega)
     rw[jq (by omega) he hsp] at hst
     generalize lw d true t=W at*
     obtain⟨w,ew⟩:=W
     dsimp only at hst ⊢
     refine az ?_
     intros
     refine eQ (aE (aK (i:=2) (k:=11) rfl rfl) (aK (i:=1) (k:=9) rfl rfl)) ?_
     refine cF mixed hC hGL false (λ_ _=>False) (λ_:Unit=>[(2,.own 0 (pW b2)),(3,.int .i64 ew.e)]) (λ_=>[gL b2 w.y w.m w.d w.h w.i w.s w.z w.o]) KW (by kernel_rfl) ?_ ?_ (λ_ _ h=>h.elim)
     ·refine xn ?_
      repeat' first|exact .n|apply Lc.mk
      all_goals intros
      all_goals exact⟨(),ad,an⟩
     ·intro _
      exact cx
    ·have hns:¬cY t 1 (aT 1).length:=λh=>by have:=h.hz;rw[hcl] at this;omega
     have hix:¬0<=bj [90,43,45] (aa (t.drop 2) 0:Int):=λh=>by have:=fg.1 h;omega
     generalize bj [90,43,45] (aa (t.drop 2) 0:Int)=ix at*
     refine az ?_
     intros
     exact cJ 1 ⟨by decide,cw hno hns⟩ (by decide) ad an
  ·as_aux_lemma=>
    have hcl:(aT 2).length=4:=rfl
    have hcl2:(aT (1+1)).length=4:=rfl
    refine az ?_
    intro b11
    intros
    by_cases h1:t.length<4
    ·have hns:¬cY t 2 (aT 2).length:=λh=>by have:=h.hn;omega
     refine cF mixed hC hGL true (λ_ _=>False) (λ_:Unit=>BW b2 b9 b11 k 4 1 d t true) (λ_=>BV b2 b9 b11 k 2) BU (by kernel_rfl) ?_ ?_ (λ_ _ h=>h.elim)
     ·refine xn ?_
      repeat' first|exact .n|apply Lc.mk
      all_goals intros
      all_goals exact⟨(),ad,an⟩
     intro _
     refine az ?_
     intros
     exact cJ 2 ⟨by decide,cw hno hns⟩ (by decide) ad an
    have hs2:=hSh (t.take 4) (by rw[List.length_take];omega)
    by_cases h2:¬aY (t.take 4)=aT 2
    ·have hns:¬cY t 2 (aT 2).length:=λh=>h2 h.hs
     refine cF mixed hC hGL true (λ_ _=>False) (λ_:Unit=>BW b2 b9 b11 k 4 1 d t (!aS (aY (t.take 4)) (aT 2))) (λ_=>BV b2 b9 b11 k 2) BU (by kernel_rfl) ?_ ?_ (λ_ _ h=>h.elim)
     ·refine xn ?_
      repeat' first|exact .n|apply Lc.mk
      all_goals intros
      all_goals exact⟨(),ad,an⟩
     intro _
     refine az ?_
     intros
     exact cJ 2 ⟨by decide,cw hno hns⟩ (by decide) ad an
    have h2:aY (t.take 4)=aT 2:=Decidable.not_not.1 h2
    refine cF mixed hC hGL true (λ_ _=>False) (λ_:Unit=>BW b2 b9 b11 k 4 1 d t (!aS (aY (t.take 4)) (aT 2))) (λ_=>BV b2 b9 b11 k 2) BU (by kernel_rfl) ?_ ?_ (λ_ _ h=>h.elim)
    ·refine xn ?_
     repeat' first|exact .n|apply Lc.mk
     all_goals intros
     all_goals exact⟨(),ad,an⟩
    intro _
    have hs3:=hSh t (by omega)
    have hp3:=hP (aY t) [57,57,57,57,57,57]
    have hls:=qo t
    by_cases h3:t.length=4
    ·have hsp:cY t 2 4:=⟨by decide,by decide,by omega,h2,.inl h3.symm⟩
     have hd0:(t.drop 4).length=0:=by rw[List.length_drop];omega
     rw[vW (by rw[hls,h3];decide)] at hp3
     have hra2:=hA (t.take 4) (by rw[List.length_take];omega)
     obtain⟨v1,v2, -⟩:=fQ (i:=2) (by decide) h2
     have hst:=cC (G:=G) hM hGL k 2 (by omega) (by decide) (aN 45 d) (aN 45 (t.take 4)) (t.drop 4) u1 u2 v1 v2 (by rw[List.length_drop];omega)
     rw[jq (by omega) he hsp] at hst
     generalize lw d true t=W at*
     obtain⟨w,ew⟩:=W
     dsimp only at hst ⊢
     refine az ?_
     intros
     refine eQ (aE (aK (i:=2) (k:=11) rfl rfl) (aK (i:=1) (k:=9) rfl rfl)) ?_
     refine cF mixed hC hGL false (λ_ _=>False) (λ_:Unit=>[(2,.own 0 (pW b2)),(3,.int .i64 ew.e)]) (λ_=>[gL b2 w.y w.m w.d w.h w.i w.s w.z w.o]) KW (by kernel_rfl) ?_ ?_ (λ_ _ h=>h.elim)
     ·refine xn ?_
      repeat' first|exact .n|apply Lc.mk
      all_goals intros
      all_goals exact⟨(),ad,an⟩
     ·intro _
      exact cx
    have hdn:(t.drop 4).length≠0:=by rw[List.length_drop];omega
    have hbz:aa (t.drop 4) 0=aa t 4:=by rw[cM]
    have hb9:=bu (t.drop 4) 0
    have hx:=hX (aa (t.drop 4) 0:Int) (by omega) (by omega)
    by_cases h4:aa t 4=90\/aa t 4=43\/aa t 4=45
    ·have hsp:cY t 2 4:=⟨by decide,by decide,by omega,h2,.inr h4⟩
     have hix:0<=bj [90,43,45] (aa (t.drop 4) 0:Int):=fg.2 (by omega)
     rw[FN (n:=4) (by decide) (λe=>vA (t:=t) (n:=4) (by omega) h4 (e.symm.trans VH))] at hp3
     generalize bj [90,43,45] (aa (t.drop 4) 0:Int)=ix at*
     have hra2:=hA (t.take 4) (by rw[List.length_take];omega)
     obtain⟨v1,v2, -⟩:=fQ (i:=2) (by decide) h2
     have hst:=cC (G:=G) hM hGL k 2 (by omega) (by decide) (aN 45 d) (aN 45 (t.take 4)) (t.drop 4) u1 u2 v1 v2 (by rw[List.length_drop];omega)
     rw[jq (by omega) he hsp] at hst
     generalize lw d true t=W at*
     obtain⟨w,ew⟩:=W
     dsimp only at hst ⊢
     refine az ?_
     intros
     refine eQ (aE (aK (i:=2) (k:=11) rfl rfl) (aK (i:=1) (k:=9) rfl rfl)) ?_
     refine cF mixed hC hGL false (λ_ _=>False) (λ_:Unit=>[(2,.own 0 (pW b2)),(3,.int .i64 ew.e)]) (λ_=>[gL b2 w.y w.m w.d w.h w.i w.s w.z w.o]) KW (by kernel_rfl) ?_ ?_ (λ_ _ h=>h.elim)
     ·refine xn ?_
      repeat' first|exact .n|apply Lc.mk
      all_goals intros
      all_goals exact⟨(),ad,an⟩
     ·intro _
      exact cx
    ·have hns:¬cY t 2 (aT 2).length:=λh=>by have:=h.hz;rw[hcl] at this;omega
     have hix:¬0<=bj [90,43,45] (aa (t.drop 4) 0:Int):=λh=>by have:=fg.1 h;omega
     generalize bj [90,43,45] (aa (t.drop 4) 0:Int)=ix at*
     refine az ?_
     intros
     exact cJ 2 ⟨by decide,cw hno hns⟩ (by decide) ad an
  ·as_aux_lemma=>
    have hcl:(aT 3).length=6:=rfl
    have hcl2:(aT (1+2)).length=6:=rfl
    refine az ?_
    intro b11
    intros
    by_cases h1:t.length<6
    ·have hns:¬cY t 3 (aT 3).length:=λh=>by have:=h.hn;omega
     refine cF mixed hC hGL true (λ_ _=>False) (λ_:Unit=>BW b2 b9 b11 k 6 2 d t true) (λ_=>BV b2 b9 b11 k 3) BU (by kernel_rfl) ?_ ?_ (λ_ _ h=>h.elim)
     ·refine xn ?_
      repeat' first|exact .n|apply Lc.mk
      all_goals intros
      all_goals exact⟨(),ad,an⟩
     intro _
     refine az ?_
     intros
     exact cJ 3 ⟨by decide,cw hno hns⟩ (by decide) ad an
    have hs2:=hSh (t.take 6) (by rw[List.length_take];omega)
    by_cases h2:¬aY (t.take 6)=aT 3
    ·have hns:¬cY t 3 (aT 3).length:=λh=>h2 h.hs
     refine cF mixed hC hGL true (λ_ _=>False) (λ_:Unit=>BW b2 b9 b11 k 6 2 d t (!aS (aY (t.take 6)) (aT 3))) (λ_=>BV b2 b9 b11 k 3) BU (by kernel_rfl) ?_ ?_ (λ_ _ h=>h.elim)
     ·refine xn ?_
      repeat' first|exact .n|apply Lc.mk
      all_goals intros
      all_goals exact⟨(),ad,an⟩
     intro _
     refine az ?_
     intros
     exact cJ 3 ⟨by decide,cw hno hns⟩ (by decide) ad an
    have h2:aY (t.take 6)=aT 3:=Decidable.not_not.1 h2
    refine cF mixed hC hGL true (λ_ _=>False) (λ_:Unit=>BW b2 b9 b11 k 6 2 d t (!aS (aY (t.take 6)) (aT 3))) (λ_=>BV b2 b9 b11 k 3) BU (by kernel_rfl) ?_ ?_ (λ_ _ h=>h.elim)
    ·refine xn ?_
     repeat' first|exact .n|apply Lc.mk
     all_goals intros
     all_goals exact⟨(),ad,an⟩
    intro _
    by_cases h3:t.length=6
    ·have hsp:cY t 3 6:=⟨by decide,by decide,by omega,h2,.inl h3.symm⟩
     have hd0:(t.drop 6).length=0:=by rw[List.length_drop];omega
     have hra2:=hA (t.take 6) (by rw[List.length_take];omega)
     obtain⟨v1,v2, -⟩:=fQ (i:=3) (by decide) h2
     have hst:=cC (G:=G) hM hGL k 3 (by omega) (by decide) (aN 45 d) (aN 45 (t.take 6)) (t.drop 6) u1 u2 v1 v2 (by rw[List.length_drop];omega)
     rw[jq (by omega) he hsp] at hst
     generalize lw d true t=W at*
     obtain⟨w,ew⟩:=W
     dsimp only at hst ⊢
     refine az ?_
     intros
     refine eQ (aE (aK (i:=2) (k:=11) rfl rfl) (aK (i:=1) (k:=9) rfl rfl)) ?_
     refine cF mixed hC hGL false (λ_ _=>False) (λ_:Unit=>[(2,.own 0 (pW b2)),(3,.int .i64 ew.e)]) (λ_=>[gL b2 w.y w.m w.d w.h w.i w.s w.z w.o]) KW (by kernel_rfl) ?_ ?_ (λ_ _ h=>h.elim)
     ·refine xn ?_
      repeat' first|exact .n|apply Lc.mk
      all_goals intros
      all_goals exact⟨(),ad,an⟩
     ·intro _
      exact cx
    have hdn:(t.drop 6).length≠0:=by rw[List.length_drop];omega
    have hbz:aa (t.drop 6) 0=aa t 6:=by rw[cM]
    have hb9:=bu (t.drop 6) 0
    have hx:=hX (aa (t.drop 6) 0:Int) (by omega) (by omega)
    by_cases h4:aa t 6=90\/aa t 6=43\/aa t 6=45
    ·have hsp:cY t 3 6:=⟨by decide,by decide,by omega,h2,.inr h4⟩
     have hix:0<=bj [90,43,45] (aa (t.drop 6) 0:Int):=fg.2 (by omega)
     generalize bj [90,43,45] (aa (t.drop 6) 0:Int)=ix at*
     have hra2:=hA (t.take 6) (by rw[List.length_take];omega)
     obtain⟨v1,v2, -⟩:=fQ (i:=3) (by decide) h2
     have hst:=cC (G:=G) hM hGL k 3 (by omega) (by decide) (aN 45 d) (aN 45 (t.take 6)) (t.drop 6) u1 u2 v1 v2 (by rw[List.length_drop];omega)
     rw[jq (by omega) he hsp] at hst
     generalize lw d true t=W at*
     obtain⟨w,ew⟩:=W
     dsimp only at hst ⊢
     refine az ?_
     intros
     refine eQ (aE (aK (i:=2) (k:=11) rfl rfl) (aK (i:=1) (k:=9) rfl rfl)) ?_
     refine cF mixed hC hGL false (λ_ _=>False) (λ_:Unit=>[(2,.own 0 (pW b2)),(3,.int .i64 ew.e)]) (λ_=>[gL b2 w.y w.m w.d w.h w.i w.s w.z w.o]) KW (by kernel_rfl) ?_ ?_ (λ_ _ h=>h.elim)
     ·refine xn ?_
      repeat' first|exact .n|apply Lc.mk
      all_goals intros
      all_goals exact⟨(),ad,an⟩
     ·intro _
      exact cx
    ·have hns:¬cY t 3 (aT 3).length:=λh=>by have:=h.hz;rw[hcl] at this;omega
     have hix:¬0<=bj [90,43,45] (aa (t.drop 6) 0:Int):=λh=>by have:=fg.1 h;omega
     generalize bj [90,43,45] (aa (t.drop 6) 0:Int)=ix at*
     refine az ?_
     intros
     exact cJ 3 ⟨by decide,cw hno hns⟩ (by decide) ad an
  ·as_aux_lemma=>
    have hcl:(aT 4).length=3:=rfl
    have hcl2:(aT (1+3)).length=3:=rfl
    refine az ?_
    intro b11
    intros
    by_cases h1:t.length<3
    ·have hns:¬cY t 4 (aT 4).length:=λh=>by have:=h.hn;omega
     refine cF mixed hC hGL true (λ_ _=>False) (λ_:Unit=>BW b2 b9 b11 k 3 3 d t true) (λ_=>BV b2 b9 b11 k 4) BU (by kernel_rfl) ?_ ?_ (λ_ _ h=>h.elim)
     ·refine xn ?_
      repeat' first|exact .n|apply Lc.mk
      all_goals intros
      all_goals exact⟨(),ad,an⟩
     intro _
     refine az ?_
     intros
     exact cJ 4 ⟨by decide,cw hno hns⟩ (by decide) ad an
    have hs2:=hSh (t.take 3) (by rw[List.length_take];omega)
    by_cases h2:¬aY (t.take 3)=aT 4
    ·have hns:¬cY t 4 (aT 4).length:=λh=>h2 h.hs
     refine cF mixed hC hGL true (λ_ _=>False) (λ_:Unit=>BW b2 b9 b11 k 3 3 d t (!aS (aY (t.take 3)) (aT 4))) (λ_=>BV b2 b9 b11 k 4) BU (by kernel_rfl) ?_ ?_ (λ_ _ h=>h.elim)
     ·refine xn ?_
      repeat' first|exact .n|apply Lc.mk
      all_goals intros
      all_goals exact⟨(),ad,an⟩
     intro _
     refine az ?_
     intros
     exact cJ 4 ⟨by decide,cw hno hns⟩ (by decide) ad an
    have h2:aY (t.take 3)=aT 4:=Decidable.not_not.1 h2
    refine cF mixed hC hGL true (λ_ _=>False) (λ_:Unit=>BW b2 b9 b11 k 3 3 d t (!aS (aY (t.take 3)) (aT 4))) (λ_=>BV b2 b9 b11 k 4) BU (by kernel_rfl) ?_ ?_ (λ_ _ h=>h.elim)
    ·refine xn ?_
     repeat' first|exact .n|apply Lc.mk
     all_goals intros
     all_goals exact⟨(),ad,an⟩
    intro _
    have hs3:=hSh t (by omega)
    have hp3:=hP (aY t) [45,57,57,57,57]
    have hls:=qo t
    by_cases h3:t.length=3
    ·have hsp:cY t 4 3:=⟨by decide,by decide,by omega,h2,.inl h3.symm⟩
     have hd0:(t.drop 3).length=0:=by rw[List.length_drop];omega
     rw[vW (by rw[hls,h3];decide)] at hp3
     have hra2:=hA (t.take 3) (by rw[List.length_take];omega)
     obtain⟨v1,v2, -⟩:=fQ (i:=4) (by decide) h2
     have hst:=cC (G:=G) hM hGL k 4 (by omega) (by decide) (aN 45 d) (aN 45 (t.take 3)) (t.drop 3) u1 u2 v1 v2 (by rw[List.length_drop];omega)
     rw[jq (by omega) he hsp] at hst
     generalize lw d true t=W at*
     obtain⟨w,ew⟩:=W
     dsimp only at hst ⊢
     refine az ?_
     intros
     refine eQ (aE (aK (i:=2) (k:=11) rfl rfl) (aK (i:=1) (k:=9) rfl rfl)) ?_
     refine cF mixed hC hGL false (λ_ _=>False) (λ_:Unit=>[(2,.own 0 (pW b2)),(3,.int .i64 ew.e)]) (λ_=>[gL b2 w.y w.m w.d w.h w.i w.s w.z w.o]) KW (by kernel_rfl) ?_ ?_ (λ_ _ h=>h.elim)
     ·refine xn ?_
      repeat' first|exact .n|apply Lc.mk
      all_goals intros
      all_goals exact⟨(),ad,an⟩
     ·intro _
      exact cx
    have hdn:(t.drop 3).length≠0:=by rw[List.length_drop];omega
    have hbz:aa (t.drop 3) 0=aa t 3:=by rw[cM]
    have hb9:=bu (t.drop 3) 0
    have hx:=hX (aa (t.drop 3) 0:Int) (by omega) (by omega)
    by_cases h4:aa t 3=90\/aa t 3=43\/aa t 3=45
    ·have hsp:cY t 4 3:=⟨by decide,by decide,by omega,h2,.inr h4⟩
     have hix:0<=bj [90,43,45] (aa (t.drop 3) 0:Int):=fg.2 (by omega)
     rw[FN (n:=3) (by decide) (λe=>vA (t:=t) (n:=3) (by omega) h4 (e.symm.trans VG))] at hp3
     generalize bj [90,43,45] (aa (t.drop 3) 0:Int)=ix at*
     have hra2:=hA (t.take 3) (by rw[List.length_take];omega)
     obtain⟨v1,v2, -⟩:=fQ (i:=4) (by decide) h2
     have hst:=cC (G:=G) hM hGL k 4 (by omega) (by decide) (aN 45 d) (aN 45 (t.take 3)) (t.drop 3) u1 u2 v1 v2 (by rw[List.length_drop];omega)
     rw[jq (by omega) he hsp] at hst
     generalize lw d true t=W at*
     obtain⟨w,ew⟩:=W
     dsimp only at hst ⊢
     refine az ?_
     intros
     refine eQ (aE (aK (i:=2) (k:=11) rfl rfl) (aK (i:=1) (k:=9) rfl rfl)) ?_
     refine cF mixed hC hGL false (λ_ _=>False) (λ_:Unit=>[(2,.own 0 (pW b2)),(3,.int .i64 ew.e)]) (λ_=>[gL b2 w.y w.m w.d w.h w.i w.s w.z w.o]) KW (by kernel_rfl) ?_ ?_ (λ_ _ h=>h.elim)
     ·refine xn ?_
      repeat' first|exact .n|apply Lc.mk
      all_goals intros
      all_goals exact⟨(),ad,an⟩
     ·intro _
      exact cx
    ·have hns:¬cY t 4 (aT 4).length:=λh=>by have:=h.hz;rw[hcl] at this;omega
     have hix:¬0<=bj [90,43,45] (aa (t.drop 3) 0:Int):=λh=>by have:=fg.1 h;omega
     generalize bj [90,43,45] (aa (t.drop 3) 0:Int)=ix at*
     refine az ?_
     intros
     exact cJ 4 ⟨by decide,cw hno hns⟩ (by decide) ad an
  ·as_aux_lemma=>
    have hcl:(aT 5).length=5:=rfl
    have hcl2:(aT (1+4)).length=5:=rfl
    refine az ?_
    intro b11
    intros
    by_cases h1:t.length<5
    ·have hns:¬cY t 5 (aT 5).length:=λh=>by have:=h.hn;omega
     refine cF mixed hC hGL true (λ_ _=>False) (λ_:Unit=>BW b2 b9 b11 k 5 4 d t true) (λ_=>BV b2 b9 b11 k 5) BU (by kernel_rfl) ?_ ?_ (λ_ _ h=>h.elim)
     ·refine xn ?_
      repeat' first|exact .n|apply Lc.mk
      all_goals intros
      all_goals exact⟨(),ad,an⟩
     intro _
     refine az ?_
     intros
     exact cJ 5 ⟨by decide,cw hno hns⟩ (by decide) ad an
    have hs2:=hSh (t.take 5) (by rw[List.length_take];omega)
    by_cases h2:¬aY (t.take 5)=aT 5
    ·have hns:¬cY t 5 (aT 5).length:=λh=>h2 h.hs
     refine cF mixed hC hGL true (λ_ _=>False) (λ_:Unit=>BW b2 b9 b11 k 5 4 d t (!aS (aY (t.take 5)) (aT 5))) (λ_=>BV b2 b9 b11 k 5) BU (by kernel_rfl) ?_ ?_ (λ_ _ h=>h.elim)
     ·refine xn ?_
      repeat' first|exact .n|apply Lc.mk
      all_goals intros
      all_goals exact⟨(),ad,an⟩
     intro _
     refine az ?_
     intros
     exact cJ 5 ⟨by decide,cw hno hns⟩ (by decide) ad an
    have h2:aY (t.take 5)=aT 5:=Decidable.not_not.1 h2
    refine cF mixed hC hGL true (λ_ _=>False) (λ_:Unit=>BW b2 b9 b11 k 5 4 d t (!aS (aY (t.take 5)) (aT 5))) (λ_=>BV b2 b9 b11 k 5) BU (by kernel_rfl) ?_ ?_ (λ_ _ h=>h.elim)
    ·refine xn ?_
     repeat' first|exact .n|apply Lc.mk
     all_goals intros
     all_goals exact⟨(),ad,an⟩
    intro _
    by_cases h3:t.length=5
    ·have hsp:cY t 5 5:=⟨by decide,by decide,by omega,h2,.inl h3.symm⟩
     have hd0:(t.drop 5).length=0:=by rw[List.length_drop];omega
     have hra2:=hA (t.take 5) (by rw[List.length_take];omega)
     obtain⟨v1,v2, -⟩:=fQ (i:=5) (by decide) h2
     have hst:=cC (G:=G) hM hGL k 5 (by omega) (by decide) (aN 45 d) (aN 45 (t.take 5)) (t.drop 5) u1 u2 v1 v2 (by rw[List.length_drop];omega)
     rw[jq (by omega) he hsp] at hst
     generalize lw d true t=W at*
     obtain⟨w,ew⟩:=W
     dsimp only at hst ⊢
     refine az ?_
     intros
     refine eQ (aE (aK (i:=2) (k:=11) rfl rfl) (aK (i:=1) (k:=9) rfl rfl)) ?_
     refine cF mixed hC hGL false (λ_ _=>False) (λ_:Unit=>[(2,.own 0 (pW b2)),(3,.int .i64 ew.e)]) (λ_=>[gL b2 w.y w.m w.d w.h w.i w.s w.z w.o]) KW (by kernel_rfl) ?_ ?_ (λ_ _ h=>h.elim)
     ·refine xn ?_
      repeat' first|exact .n|apply Lc.mk
      all_goals intros
      all_goals exact⟨(),ad,an⟩
     ·intro _
      exact cx
    have hdn:(t.drop 5).length≠0:=by rw[List.length_drop];omega
    have hbz:aa (t.drop 5) 0=aa t 5:=by rw[cM]
    have hb9:=bu (t.drop 5) 0
    have hx:=hX (aa (t.drop 5) 0:Int) (by omega) (by omega)
    by_cases h4:aa t 5=90\/aa t 5=43\/aa t 5=45
    ·have hsp:cY t 5 5:=⟨by decide,by decide,by omega,h2,.inr h4⟩
     have hix:0<=bj [90,43,45] (aa (t.drop 5) 0:Int):=fg.2 (by omega)
     generalize bj [90,43,45] (aa (t.drop 5) 0:Int)=ix at*
     have hra2:=hA (t.take 5) (by rw[List.length_take];omega)
     obtain⟨v1,v2, -⟩:=fQ (i:=5) (by decide) h2
     have hst:=cC (G:=G) hM hGL k 5 (by omega) (by decide) (aN 45 d) (aN 45 (t.take 5)) (t.drop 5) u1 u2 v1 v2 (by rw[List.length_drop];omega)
     rw[jq (by omega) he hsp] at hst
     generalize lw d true t=W at*
     obtain⟨w,ew⟩:=W
     dsimp only at hst ⊢
     refine az ?_
     intros
     refine eQ (aE (aK (i:=2) (k:=11) rfl rfl) (aK (i:=1) (k:=9) rfl rfl)) ?_
     refine cF mixed hC hGL false (λ_ _=>False) (λ_:Unit=>[(2,.own 0 (pW b2)),(3,.int .i64 ew.e)]) (λ_=>[gL b2 w.y w.m w.d w.h w.i w.s w.z w.o]) KW (by kernel_rfl) ?_ ?_ (λ_ _ h=>h.elim)
     ·refine xn ?_
      repeat' first|exact .n|apply Lc.mk
      all_goals intros
      all_goals exact⟨(),ad,an⟩
     ·intro _
      exact cx
    ·have hns:¬cY t 5 (aT 5).length:=λh=>by have:=h.hz;rw[hcl] at this;omega
     have hix:¬0<=bj [90,43,45] (aa (t.drop 5) 0:Int):=λh=>by have:=fg.1 h;omega
     generalize bj [90,43,45] (aa (t.drop 5) 0:Int)=ix at*
     refine az ?_
     intros
     exact cJ 5 ⟨by decide,cw hno hns⟩ (by decide) ad an
  ·as_aux_lemma=>
    have hcl:(aT 6).length=4:=rfl
    have hcl2:(aT (1+5)).length=4:=rfl
    refine az ?_
    intro b11
    intros
    by_cases h1:t.length<4
    ·have hns:¬cY t 6 (aT 6).length:=λh=>by have:=h.hn;omega
     refine cF mixed hC hGL true (λ_ _=>False) (λ_:Unit=>BW b2 b9 b11 k 4 5 d t true) (λ_=>BV b2 b9 b11 k 6) BU (by kernel_rfl) ?_ ?_ (λ_ _ h=>h.elim)
     ·refine xn ?_
      repeat' first|exact .n|apply Lc.mk
      all_goals intros
      all_goals exact⟨(),ad,an⟩
     intro _
     refine az ?_
     intros
     exact cJ 6 ⟨by decide,cw hno hns⟩ (by decide) ad an
    have hs2:=hSh (t.take 4) (by rw[List.length_take];omega)
    by_cases h2:¬aY (t.take 4)=aT 6
    ·have hns:¬cY t 6 (aT 6).length:=λh=>h2 h.hs
     refine cF mixed hC hGL true (λ_ _=>False) (λ_:Unit=>BW b2 b9 b11 k 4 5 d t (!aS (aY (t.take 4)) (aT 6))) (λ_=>BV b2 b9 b11 k 6) BU (by kernel_rfl) ?_ ?_ (λ_ _ h=>h.elim)
     ·refine xn ?_
      repeat' first|exact .n|apply Lc.mk
      all_goals intros
      all_goals exact⟨(),ad,an⟩
     intro _
     refine az ?_
     intros
     exact cJ 6 ⟨by decide,cw hno hns⟩ (by decide) ad an
    have h2:aY (t.take 4)=aT 6:=Decidable.not_not.1 h2
    refine cF mixed hC hGL true (λ_ _=>False) (λ_:Unit=>BW b2 b9 b11 k 4 5 d t (!aS (aY (t.take 4)) (aT 6))) (λ_=>BV b2 b9 b11 k 6) BU (by kernel_rfl) ?_ ?_ (λ_ _ h=>h.elim)
    ·refine xn ?_
     repeat' first|exact .n|apply Lc.mk
     all_goals intros
     all_goals exact⟨(),ad,an⟩
    intro _
    by_cases h3:t.length=4
    ·have hsp:cY t 6 4:=⟨by decide,by decide,by omega,h2,.inl h3.symm⟩
     have hd0:(t.drop 4).length=0:=by rw[List.length_drop];omega
     have hra2:=hA (t.take 4) (by rw[List.length_take];omega)
     obtain⟨v1,v2, -⟩:=fQ (i:=6) (by decide) h2
     have hst:=cC (G:=G) hM hGL k 6 (by omega) (by decide) (aN 45 d) (aN 45 (t.take 4)) (t.drop 4) u1 u2 v1 v2 (by rw[List.length_drop];omega)
     rw[jq (by omega) he hsp] at hst
     generalize lw d true t=W at*
     obtain⟨w,ew⟩:=W
     dsimp only at hst ⊢
     refine az ?_
     intros
     refine eQ (aE (aK (i:=2) (k:=11) rfl rfl) (aK (i:=1) (k:=9) rfl rfl)) ?_
     refine cF mixed hC hGL false (λ_ _=>False) (λ_:Unit=>[(2,.own 0 (pW b2)),(3,.int .i64 ew.e)]) (λ_=>[gL b2 w.y w.m w.d w.h w.i w.s w.z w.o]) KW (by kernel_rfl) ?_ ?_ (λ_ _ h=>h.elim)
     ·refine xn ?_
      repeat' first|exact .n|apply Lc.mk
      all_goals intros
      all_goals exact⟨(),ad,an⟩
     ·intro _
      exact cx
    have hdn:(t.drop 4).length≠0:=by rw[List.length_drop];omega
    have hbz:aa (t.drop 4) 0=aa t 4:=by rw[cM]
    have hb9:=bu (t.drop 4) 0
    have hx:=hX (aa (t.drop 4) 0:Int) (by omega) (by omega)
    by_cases h4:aa t 4=90\/aa t 4=43\/aa t 4=45
    ·have hsp:cY t 6 4:=⟨by decide,by decide,by omega,h2,.inr h4⟩
     have hix:0<=bj [90,43,45] (aa (t.drop 4) 0:Int):=fg.2 (by omega)
     generalize bj [90,43,45] (aa (t.drop 4) 0:Int)=ix at*
     have hra2:=hA (t.take 4) (by rw[List.length_take];omega)
     obtain⟨v1,v2, -⟩:=fQ (i:=6) (by decide) h2
     have hst:=cC (G:=G) hM hGL k 6 (by omega) (by decide) (aN 45 d) (aN 45 (t.take 4)) (t.drop 4) u1 u2 v1 v2 (by rw[List.length_drop];omega)
     rw[jq (by omega) he hsp] at hst
     generalize lw d true t=W at*
     obtain⟨w,ew⟩:=W
     dsimp only at hst ⊢
     refine az ?_
     intros
     refine eQ (aE (aK (i:=2) (k:=11) rfl rfl) (aK (i:=1) (k:=9) rfl rfl)) ?_
     refine cF mixed hC hGL false (λ_ _=>False) (λ_:Unit=>[(2,.own 0 (pW b2)),(3,.int .i64 ew.e)]) (λ_=>[gL b2 w.y w.m w.d w.h w.i w.s w.z w.o]) KW (by kernel_rfl) ?_ ?_ (λ_ _ h=>h.elim)
     ·refine xn ?_
      repeat' first|exact .n|apply Lc.mk
      all_goals intros
      all_goals exact⟨(),ad,an⟩
     ·intro _
      exact cx
    ·have hns:¬cY t 6 (aT 6).length:=λh=>by have:=h.hz;rw[hcl] at this;omega
     have hix:¬0<=bj [90,43,45] (aa (t.drop 4) 0:Int):=λh=>by have:=fg.1 h;omega
     generalize bj [90,43,45] (aa (t.drop 4) 0:Int)=ix at*
     refine az ?_
     intros
     exact cJ 6 ⟨by decide,cw hno hns⟩ (by decide) ad an
  ·as_aux_lemma=>
    refine az ?_
    intros
    exact cJ (k+1) (hcont hno) (by omega) ad an
end
section
theorem rk:∀(n:Nat) (s:List UInt8) (i:Nat),s.length<=n->(bw s i).e=0->bw s i= .none
 |_,[],_,_,_=>rfl
 |0,c::r,_,hn,_=>by simp at hn
 |n+1,c::r,i,hn,he=>by
  have hn:r.length<=n:=by simpa using hn
  by_cases hc:c=92
  ·subst hc;cases r with
   |nil=>simp[bw,Err.e] at he
   |cons d r=>
    by_cases hd:HQ d=true
    ·rw[nO hd] at he ⊢;exact rk n r _ (by simp at hn;omega) he
    ·simp[bw,hd,Err.e] at he
  ·rw[nP hc] at he ⊢;exact rk n r _ hn he
theorem PD (s:List UInt8)(h:(gu s).e=0):gu s= .none:=by
 unfold gu at h ⊢
 (repeat' split at h)<;>first|(exfalso;revert h;simp[Err.e];done)|(rename_i h1 h2 h3;rw[if_neg h1,if_neg h2,if_neg h3])
theorem DE:∀(l:List (List UInt8)) (b:Bool) (a:Nat),(eO b a l).e=0->eO b a l= .none
 |[],_,_,_=>rfl
 |x::xs,b,a,h=>by
  rw[pR] at h ⊢;split at h
  ·rename_i k;rw[if_pos k];exact DE xs _ _ h
  ·rename_i k;exfalso;revert h k
   unfold eE
   (repeat' split)<;>simp[Err.e,Err.isNone]
theorem Sa (d:List UInt8)(b:Bool)(t:List UInt8):(lw d b t).2.p= -1/\((lw d b t).2.e=0->(lw d b t).2= .none):=by
 unfold lw oR
 (repeat' split)<;>(refine⟨rfl,λh=> ?_⟩)<;>first|rfl|(exact absurd h (by assumption))|(exact absurd h (by decide))|(rename_i k;exact absurd h k.2)
theorem Ak (s:List UInt8):(gN s).p= -1/\(gN s).e=(bI s).2/\((gN s).e=0->gN s= .none):=by
 unfold gN
 split
 ·rename_i h;exact⟨rfl,h.symm,λ_=>rfl⟩
 ·rename_i h;exact⟨rfl,rfl,λk=>absurd k h⟩
theorem Vk (s:List UInt8):(Hf s).2.p= -1:=(Sa _ _ _).1
theorem QL (l:List (List UInt8)):AVal.list 1 l.length (ay l)=yu l:=rfl
theorem Lg (s:List UInt8)(k:Int):(ne s k).2.e=0->(ne s k).2= .none:=by
 unfold ne
 (repeat' split)
 ·exact rk _ s 0 (Nat.le_refl _)
 ·exact rk _ s 0 (Nat.le_refl _)
 ·exact rk _ s 0 (Nat.le_refl _)
 ·exact PD s
 ·exact(Sa _ _ _).2
 ·exact(Ak s).2.2
 ·exact DE _ _ _
 ·exact λ_=>rfl
theorem Ld (s:List UInt8)(k:Int):(lA s k).2.e=0->(lA s k).2= .none:=by
 have h:=Lg s k
 unfold lA
 split
 ·exact λh=>absurd h (by decide)
 ·split
  ·exact λh=>absurd h (by decide)
  ·split
   ·exact h
   ·exact h
theorem Vn (s:List UInt8)(k:Int)(h:1<=k/\k<=8):(ne s k).1.t=k:=by
 unfold ne
 (repeat' split)<;>rfl
abbrev Py (b:Nat)(v:Vl)(t:Int)(q:AVal):HEnt:=.cells b (some 56) [.int .i64 t,.str v.s,q,.int .i64 v.st.y,.int .i64 v.st.m,.int .i64 v.st.d,.int .i64 v.st.h,.int .i64 v.st.i,.int .i64 v.st.s,.bool v.st.z,.int .i64 v.st.o,.int .i64 v.n]
abbrev Rj (b:Nat)(e p:Int):HEnt:=.cells b (some 32) [.int .i64 e,.int .i64 p]
abbrev BX (b:Nat):Value:=.pointer (some ⟨b,0,none⟩)
def WG (s:List UInt8)(k:Int)(r:cz)(H:Heap):Prop:=∃q,r= .ret (.tuple [Pm (lA s k).1 q,.agg [.int .i64 (lA s k).2.e,.int .i64 (lA s k).2.p]])/\H=[]/\Pj (lA s k).1.L q
attribute [local irreducible] bN aw aa aC bg ab ae
attribute [local irreducible] ow fh dy xY ir jb bw gu dF Hf bI gN kQ yu ne
theorem vP {G:Glo}{m:Int}(hU:ab G utfTy)(hM:ab G (ct m))(hS:ab G shapesTy)(s:List UInt8)(k:Int)(hl:s.length<=10000):ae prog G 38 [.str s,.int .i64 k] [] (WG s k):=by
 have hH:=oe hU s false (by omega)
 have hW:=eY (G:=G) k 1 8
 have hB:=λe=>ja (G:=G) e;have hG:=fG (G:=G);have b1:=hB 1;have b3:=hB 3;refine Kg func38 call38 rfl rfl rfl rfl ?_;intro C hC;have hGL:ab G []:=aG;refine dU hC hGL (λx:Nat×Nat=>[(0,.str s),(1,.int .i64 k),(4,.own 0 (BX x.1)),(5,.own 1 (BX x.2))]) (λx=>[Py x.1 Vl.no 0 ax,Rj x.2 0 0]) (λ_=>True) ?_ ?_
 ·refine Vi ?_;intro b4 b5;intros;exact cy (b4,b5) trivial
 rintro⟨b4,b5⟩-
 dsimp only
 by_cases hk:k<1\/9<=k
 ·have e:lA s k=(Vl.no,.errno 1):=by unfold lA;rw[if_pos hk]
  have e2:(decide (1<=k)&&decide (k<=8))=false:=by rw[Bool.and_eq_false_iff,decide_eq_false_iff_not,decide_eq_false_iff_not];omega
  rw[e2] at hW
  unfold WG
  rw[e]
  refine am hC hGL (az ?_)
  intros
  refine cR mixed hC hGL false (λ(_:Unit)=>[(4,.own 0 (BX b4)),(5,.own 1 (BX b5))]) (λ_=>[Py b4 Vl.no 0 ax,Rj b5 1 (-1)]) .p5 (by kernel_rfl) ?_ ?_
  ·refine xn ?_
   repeat' first|exact .n|apply Lc.mk
   all_goals intros
   all_goals exact⟨(),ad,rfl⟩
  intro _
  refine az ?_
  intros
  exact⟨[],List.nil_sublist _,ax,rfl,rfl,.inl ⟨rfl,rfl⟩⟩
 have e2:(decide (1<=k)&&decide (k<=8))=true:=by rw[Bool.and_eq_true,decide_eq_true_eq,decide_eq_true_eq];omega
 rw[e2] at hW
 cases hh:fh false s with
 |false=>
  have e:lA s k=(Vl.no,.errno 3):=by unfold lA;rw[if_neg hk,if_pos hh]
  unfold WG
  rw[e]
  rw[hh] at hH
  refine am hC hGL (az ?_)
  intros
  refine cR mixed hC hGL false (λ(_:Unit)=>[(4,.own 0 (BX b4)),(5,.own 1 (BX b5))]) (λ_=>[Py b4 Vl.no 0 ax,Rj b5 3 (-1)]) .p5 (by kernel_rfl) ?_ ?_
  ·refine xn ?_
   repeat' first|exact .n|apply Lc.mk
   all_goals intros
   all_goals exact⟨(),ad,rfl⟩
  intro _
  refine az ?_
  intros
  exact⟨[],List.nil_sublist _,ax,rfl,rfl,.inl ⟨rfl,rfl⟩⟩
 |true=>
  rw[hh] at hH
  have hv:lA s k=(match (ne s k).2 with|.none=>ne s k|e=>(Vl.no,e)):=by unfold lA;rw[if_neg hk,if_neg (by rw[hh];decide)];cases (ne s k).2<;>rfl
  have h1:=jH (G:=G) s (by omega)
  have h2:=C4 (G:=G) s (by omega)
  have h3:=JC (G:=G) s (by omega)
  have h4:=qC (G:=G) s (by omega)
  have h5:=yh (G:=G) hS hM s (by omega)
  have h6:=o9 (G:=G) s (by omega)
  have h7:=ll (G:=G) hM s (by omega)
  refine cut hC hGL [(0,.str s),(1,.int .i64 k),(4,.own 0 (BX b4)),(5,.own 1 (BX b5))] [Py b4 Vl.no 0 ax,Rj b5 0 0] True cx λ_=> ?_
  refine cut hC hGL [(0,.str s),(1,.int .i64 k),(4,.own 0 (BX b4)),(5,.own 1 (BX b5))] [Py b4 Vl.no 0 ax,Rj b5 0 0] True cx λ_=> ?_
  refine cut hC hGL [(0,.str s),(1,.int .i64 k),(4,.own 0 (BX b4)),(5,.own 1 (BX b5))] [Py b4 Vl.no 0 ax,Rj b5 0 (-1)] True cx λ_=> ?_
  refine dU hC hGL (λx:Vl×AVal=>[(0,.str s),(1,.int .i64 k),(4,.own 0 (BX b4)),(5,.own 1 (BX b5))]) (λx=>[Py b4 x.1 0 x.2,Rj b5 (ne s k).2.e (ne s k).2.p]) (λx=>x.1.s=(ne s k).1.s/\x.1.st=(ne s k).1.st/\x.1.n=(ne s k).1.n/\Pj (ne s k).1.L x.2) ?_ ?_
  ·clear hv
   rcases(show k=1\/k=2\/k=3\/k=4\/k=5\/k=6\/k=7\/k=8 by omega) with rfl|rfl|rfl|rfl|rfl|rfl|rfl|rfl
   all_goals simp only[ne,if_pos,if_neg,Int.reduceEq,reduceIte]
   ·refine az ?_
    intros
    exact cy (⟨0,xY s,[],Stm.no,0⟩,ax) ⟨rfl,rfl,rfl,.inl ⟨rfl,rfl⟩⟩
   ·refine az ?_
    intros
    exact cy (Vl.no,.list 1 1 _) ⟨rfl,rfl,rfl,.inr (.inr ⟨ir s,_,rfl,QL _,rfl⟩)⟩
   ·refine az ?_
    intros
    exact cy (Vl.no,.list 1 _ _) ⟨rfl,rfl,rfl,.inr (.inl rfl)⟩
   ·refine az ?_
    intros
    exact cy (⟨0,s,[],Stm.no,0⟩,ax) ⟨rfl,rfl,rfl,.inl ⟨rfl,rfl⟩⟩
   ·rw[Vk]
    refine az ?_
    intros
    exact cy (⟨0,[],[],(Hf s).1,0⟩,ax) ⟨rfl,rfl,rfl,.inl ⟨rfl,rfl⟩⟩
   ·rw[(Ak s).1,(Ak s).2.1]
    refine az ?_
    intros
    exact cy (⟨0,[],[],Stm.no,(bI s).1⟩,ax) ⟨rfl,rfl,rfl,.inl ⟨rfl,rfl⟩⟩
   ·refine az ?_
    intros
    exact cy (⟨0,s,[],Stm.no,0⟩,ax) ⟨rfl,rfl,rfl,.inl ⟨rfl,rfl⟩⟩
   ·refine az ?_
    intros
    exact cy (⟨0,s,[],Stm.no,0⟩,ax) ⟨rfl,rfl,rfl,.inl ⟨rfl,rfl⟩⟩
  rintro⟨x,q⟩ ⟨x1,x2,x3,x4⟩
  dsimp only at x1 x2 x3 x4 ⊢
  have h8:=ri (G:=G) (ne s k).2.e (ne s k).2.p
  have h9:=Lg s k
  have h10:=Vn s k (by omega)
  unfold WG
  rw[hv]
  by_cases he:(ne s k).2.e=0
  ·rw[h9 he]
   rw[h9 he] at h8
   rw[show cm (Err.none).e 0=true from bP.2 rfl] at h8
   simp only[Err.e,Err.p] at h8 ⊢
   have x5:=x4
   rcases x5 with⟨rfl,_⟩|rfl|⟨l,g,rfl,_,_⟩
   all_goals
    refine am hC hGL (az ?_)
    intros
    refine cR mixed hC hGL false (λ(_:{y:AVal//Pj (ne s k).1.L y})=>[(4,.own 0 (BX b4)),(5,.own 1 (BX b5))]) (λy=>[Py b4 x k y.1,Rj b5 0 (-1)]) .p1 (by kernel_rfl) ?_ ?_
    ·refine xn ?_
     repeat' first|exact .n|apply Lc.mk
     all_goals intros
     all_goals exact⟨⟨_,x4⟩,ad,rfl⟩
    rintro⟨y,hy⟩
    refine az ?_
    intros
    refine⟨[],List.nil_sublist _,y,?_,rfl,hy⟩
    simp only[Pm,x1,x2,x3,h10,h9 he]
  ·have e3:(match (ne s k).2 with|.none=>ne s k|e=>(Vl.no,e))=(Vl.no,(ne s k).2):=by
    cases hq:(ne s k).2 with
    |none=>rw[hq] at he;exact absurd rfl he
    |errno e=>rfl
    | «at» e p=>rfl
   rw[e3]
   rw[show cm (ne s k).2.e 0=false from Bool.eq_false_iff.2 λh=>he (bP.1 h)] at h8
   refine am hC hGL (az ?_)
   intros
   refine cR mixed hC hGL false (λ(_:Unit)=>[(4,.own 0 (BX b4)),(5,.own 1 (BX b5))]) (λ_=>[Py b4 Vl.no 0 ax,Rj b5 (ne s k).2.e (ne s k).2.p]) .p1 (by kernel_rfl) ?_ ?_
   ·refine xn ?_
    repeat' first|exact .n|apply Lc.mk
    all_goals intros
    all_goals exact⟨(),ad,rfl⟩
   intro _
   refine az ?_
   intros
   exact⟨[],List.nil_sublist _,ax,rfl,rfl,.inl ⟨rfl,rfl⟩⟩
theorem yi {G:Glo}{m:Int}(hU:ab G utfTy)(hM:ab G (ct m))(hS:ab G shapesTy)(s:List UInt8)(k:Int)(hl:s.length<=10000):aj prog G 38 [.str s,.int .i64 k] (.tuple [(lA s k).1.R,.agg [.int .i64 (lA s k).2.e,.int .i64 (lA s k).2.p]]):=by
 refine dC (vP hU hM hS s k hl) ?_;rintro r H ⟨q,rfl,rfl,hL⟩;exact p7 hL
end
section
def Ss (x:Js)(a:Int)(r:cz)(H:Heap):Prop:=H=[]/\((gM x= .none/\∃q1 q2,r= .ret (.agg (V7 (xU x) q1 q2))/\WD (xU x).1.ps q1/\Pj (xU x).2.L q2)\/(gM x≠ .none/\r= .panic (tz (gM x).e a)))
def T8 (x:Js)(a:Int)(r:cz)(H:Heap):Prop:=H=[]/\((gM x= .none/\r= .ret (DL (xU x)))\/(gM x≠ .none/\r= .panic (tz (gM x).e a)))
theorem Q5 {x:Js}{a:Int}{r:cz}{H:Heap}(h:Ss x a r H):Hb r H (T8 x a):=by
 obtain⟨rfl,⟨he,q1,q2,rfl,h1,h2⟩|⟨he,rfl⟩⟩:=h
 ·rintro C R w e' hm ⟨y,rfl,hx⟩;exact⟨_,[],R,⟨rfl,.inl ⟨he,rfl⟩⟩,hm,y,rfl,Ig h1 h2 hx⟩
 ·intro C R w e' hm er;exact⟨_,[],R,⟨rfl,.inr ⟨he,rfl⟩⟩,hm,er⟩
theorem sA {x:Js}{a e:Int}{v:AVal}{H:Heap}(h:gM x= .errno e)(hv:v=tz e a):Pn (Ss x a) v H:=⟨[],List.nil_sublist _,rfl,.inr ⟨by rw[h];exact(λh=>by cases h),by rw[h,hv];rfl⟩⟩
theorem Q6 {x:Js}{a:Int}{v:AVal}{H:Heap}(h:gM x≠ .none)(hv:v=tz (gM x).e a):Pn (Ss x a) v H:=⟨[],List.nil_sublist _,rfl,.inr ⟨h,by rw[hv]⟩⟩
theorem QS (k:List UInt8):aS (al 65 90 32 k) (al 65 90 32 [118,97,108,117,101])=aS (al 97 122 (-32) k) valN:=by
 rw[jj];rfl
theorem vH {P:Program}[Tab P]{C:Ctx}{H:Heap}{env:Env}{sz m:Nat}{f:Nat->AVal}{x:Operand}{T ty e:TypeId}{xT:TI}(hx:ai env x=some (.list sz (m+1) f))(h1:bC P T=some xT)(h2:xT.desc= .slice e):bD P C H env (.binOp .eql T x (.const (.slice none 0 0)) ty) (.bool false):=by
 intro R ρ w hm hf dst t p af g;refine⟨_,?_,aW.2 rfl⟩;obtain⟨a,cap,e1,_,y⟩:=bA (hf _ _ hx) rfl;have e1:ρ x= .slice a (m+1) cap:=(List.cons.inj e1).1;obtain⟨b,o,C0,el,fz,rfl,_⟩:=y.resolve_left (Nat.succ_ne_zero m);have hc:ρ (.const (.slice none 0 0))= .slice none 0 0:=ar.1 (hf (.const (.slice none 0 0)) _ (eP env (.slice none 0 0)));obtain⟨h3,h4,h5⟩:=oH (R:=R) (x:=x) (w:=w) (av:=.raw (ρ x)) (c:=false) (z:=.slice none 0 0) (ar.2 rfl) h1 (by rw[h2,e1];rfl) (by rw[h2];rfl);have h6:=h5 .eql (.inl rfl);rw[if_pos rfl] at h6;simp only[execOp,hc,Sem.run_bind,h4,Result.andThen_ok,h6,h3,Sem.run_pure]
theorem Pv (t:List UInt8):(t=[116,101,120,116]->dk t=1)/\(t=[117,114,105]->dk t=4)/\(t=[100,97,116,101,45,97,110,100,45,111,114,45,116,105,109,101]->dk t=5)/\(t=[117,116,99,45,111,102,102,115,101,116]->dk t=6)/\(t=[108,97,110,103,117,97,103,101,45,116,97,103]->dk t=7)/\(t=[117,110,107,110,111,119,110]->dk t=8)/\(t≠[116,101,120,116]->t≠[117,114,105]->t≠[100,97,116,101,45,97,110,100,45,111,114,45,116,105,109,101]->t≠[117,116,99,45,111,102,102,115,101,116]->t≠[108,97,110,103,117,97,103,101,45,116,97,103]->t≠[117,110,107,110,111,119,110]->dk t=0):=by
 refine⟨?_,?_,?_,?_,?_,?_,λh1 h2 h3 h4 h5 h6=> ?_⟩;iterate 6 (rintro rfl;decide+kernel)
 unfold dk jc K5;simp only[dx,du.2 h1,du.2 h2,du.2 h3,du.2 h4,du.2 h5,du.2 h6,Bool.false_eq_true,if_false]
attribute [local irreducible] bN aw aa aC bg ab ae
attribute [local irreducible] bc mt kS dk iC al dl bp eM ek nb
theorem C3 {G:Glo}(d:Nat)(x:Js)(a:Int)(hd:Js.le d x)(h:Pq x=false):ae prog G 19 [Js.R d x,.int .i64 a] [] (Ss x a):=by
 have hn:¬(x.k=6/\4<=x.l.length/\(aA x.l 0).k=5/\(aA x.l 1).k=7/\(aA x.l 2).k=5):=λg=>by rw[zF.2 g] at h;cases h
 have he:gM x= .errno 3:=by unfold gM;rw[if_pos h]
 have hT:=zc (G:=G) 3 a;unfold Js.R;by_cases h6:x.k=6;case neg=>
  refine ao func19 call19 λC hC hGL=> ?_;refine az ?_;intros;refine dQ hT ?_
  (conv=>whnf)
  exact sA he rfl
 by_cases h4:x.l.length<4
 ·refine ao func19 call19 λC hC hGL=> ?_;refine az ?_;intros;refine dQ hT ?_
  (conv=>whnf)
  exact sA he rfl
 obtain⟨e,rfl, -⟩:=e8 hd (show 0<x.l.length by omega);by_cases h0:(aA x.l 0).k=5;case neg=>
  refine ao func19 call19 λC hC hGL=> ?_;refine az ?_;intros;refine dQ hT ?_
  (conv=>whnf)
  exact sA he rfl
 by_cases h1:(aA x.l 1).k=7;case neg=>
  refine ao func19 call19 λC hC hGL=> ?_;refine az ?_;intros;refine dQ hT ?_
  (conv=>whnf)
  exact sA he rfl
 by_cases h2:(aA x.l 2).k=5;case neg=>
  refine ao func19 call19 λC hC hGL=> ?_;refine az ?_;intros;refine dQ hT ?_
  (conv=>whnf)
  exact sA he rfl
 exact absurd ⟨h6,by omega,h0,h1,h2⟩ hn
abbrev mpW (b:Nat):HEnt:=.mp b [(.str [116,101,120,116],.int .i64 1),(.str [117,114,105],.int .i64 4),(.str [100,97,116,101,45,97,110,100,45,111,114,45,116,105,109,101],.int .i64 5),(.str [117,116,99,45,111,102,102,115,101,116],.int .i64 6),(.str [108,97,110,103,117,97,103,101,45,116,97,103],.int .i64 7),(.str [117,110,107,110,111,119,110],.int .i64 8)]
def yp (k:Int)(y:Js):Bool:=if k=3 then cm y.k 6 else strB y
theorem MO (y:Js):yp 3 y=cm y.k 6:=rfl
theorem MN {k:Int}(h:k≠3)(y:Js):yp k y=strB y:=if_neg h
theorem Mv {l:List Js}{k:Int}(h:k≠2)(h1:l.length≠1):cE l k=(Vl.no,.errno 3):=by
 unfold cE;rw[if_neg h,if_pos h1]
theorem Qr {l:List Js}(h:l.all (yp 2)=true):cE l 2=(⟨2,[],[l.map Js.t],Stm.no,0⟩,.none):=by
 have e:yp 2=strB:=by funext y;unfold yp;rfl
 rw[e] at h;unfold cE;rw[if_pos rfl,if_pos h]
theorem Qq {l:List Js}{k:Int}(h:l.all (yp k)=false)(h1:k≠2->l.length=1):cE l k=(Vl.no,.errno 3):=by
 unfold cE;by_cases h2:k=2
 ·have e:yp 2=strB:=by funext y;unfold yp;rfl
  subst h2;rw[e] at h;rw[if_pos rfl,if_neg (by rw[h];decide)]
 ·have h1:=h1 h2;rw[if_neg h2,if_neg (by omega)];obtain⟨y,rfl⟩:=List.length_eq_one_iff.1 h1;have h:yp k y=false:=by simpa using h
  by_cases h3:k=3
  ·rw[yp,if_pos h3] at h;rw[if_pos h3];exact if_neg λg=>fV.1 h g.1
  ·rw[yp,if_neg h3] at h;rw[if_neg h3];exact if_pos h
theorem TC {l:List Js}{k:Int}(h:l.all (yp k)=true)(h1:l.length=1):(k=1->cE l k=(⟨1,(aA l 0).t,[],Stm.no,0⟩,.none))/\(k=3->(aA l 0).l.all dl=true->cE l k=(⟨3,[],(aA l 0).l.map bp,Stm.no,0⟩,.none))/\(k=3->(aA l 0).l.all dl=false->cE l k=(Vl.no,.errno 3))/\(k≠1->k≠2->k≠3->cE l k=lA (aA l 0).t k):=by
 obtain⟨y,rfl⟩:=List.length_eq_one_iff.1 h1;have h:yp k y=true:=by simpa using h
 refine⟨λg=> ?_,λg g2=> ?_,λg g2=> ?_,λg1 g2 g3=> ?_⟩
 ·subst g;rw[yp,if_neg (by decide)] at h;unfold cE;rw[if_neg (by decide),if_neg (by simp),if_neg (by decide)];show(if strB y=false then _ else _)=_;rw[if_neg (by rw[h];decide),if_pos rfl]
 ·subst g;rw[yp,if_pos rfl] at h;unfold cE;rw[if_neg (by decide),if_neg (by simp),if_pos rfl,if_pos ⟨bP.1 h,g2⟩]
 ·subst g;unfold cE;rw[if_neg (by decide),if_neg (by simp),if_pos rfl,if_neg (by rw[g2];simp)]
 ·rw[yp,if_neg g3] at h;unfold cE;rw[if_neg g2,if_neg (by simp),if_neg g3];show(if strB y=false then _ else _)=_;rw[if_neg (by rw[h];decide),if_neg g1]
end
section
attribute [local irreducible] bN aw aa aC bg ab ae
attribute [local irreducible] bc mt kS dk iC al dl bp eM ek nb yp
theorem Jz {G:Glo}{m:Int}(hU:ab G utfTy)(hM:ab G (ct m))(hH:ab G shapesTy)(e n w:Nat)(x:Js)(a:Int)(hd:Js.le (e+1) x)(hb:Pq x=true)(ht:Js.thin (w+4) x)(hf:Js.fit (e+1) x)(hr:kM (n+2) x=0):
  ae prog G 19 [Js.R (e+1) x,.int .i64 a] [] (Ss x a):=by
 obtain⟨h6,h4,h0,h1,h2⟩:=zF.1 hb;have hkl:=(pi ((pi hr).2.2 1 (by omega))).2.1 h1;have hle:=hd 1 (by omega);have hT:=λe=>zc (G:=G) e a;have hfk:=(rc (hf.2 1 (by omega))).2.2.1;have ht0:=(cp ht 0).1.1;have ht1:=cp ht 1;have ht3:=cp ht 3;have pA:nb (aA x.l 1)=true->gM x= .errno 3:=λh=>by
  unfold gM;rw[if_neg (by rw[hb];decide),if_pos h]
 have pB:nb (aA x.l 1)=false->dk (aA x.l 2).t=0->gM x= .errno 5:=λh g=>by
  unfold gM;rw[if_neg (by rw[hb];decide),if_neg (by rw[h];decide),if_pos g]
 have pC:nb (aA x.l 1)=false->dk (aA x.l 2).t≠0->gM x=(cE (x.l.drop 3) (Ih x)).2:=λh g=>by
  unfold gM;rw[if_neg (by rw[hb];decide),if_neg (by rw[h];decide),if_neg g]
 have hV:xU x=(⟨eM (aA x.l 1) (aA x.l 1).ks.length,al 97 122 (-32) (aA x.l 0).t,wH x,[]⟩,(cE (x.l.drop 3) (Ih x)).1):=rfl;have hPs:wH x=ek (aA x.l 1) (aA x.l 1).ks.length++if Ih x=oQ x then[] else[⟨valN,[(aA x.l 2).t]⟩]:=rfl
 have hK:Ih x=if dk (aA x.l 2).t=1/\(oQ x=2\/oQ x=3) then oQ x else dk (aA x.l 2).t:=rfl
 have hR4:oQ x=(ci 4 (al 97 122 (-32) (aA x.l 0).t)).t:=rfl;have hUp:=sf (G:=G) (aA x.l 0).t (by omega);have hbad:∀(e:Int) (v:AVal) (H:Heap),gM x= .errno e->v=tz e a->Pn (Ss x a) v H:=λe v H h hv=>sA h hv;generalize wH x=PS at*
 generalize oQ x=R4 at*
 have hXl:(x.l.drop 3).length=x.l.length-3:=List.length_drop;have hXj:∀j,aA (x.l.drop 3) j=aA x.l (3+j):=λj=>il x.l 3 j;have hXd:∀j,j<x.l.length-3->Js.le e (aA x.l (3+j)):=λj hj=>hd _ (by omega);unfold Js.R;have hN:=qe (aA x.l 0).t;generalize al 97 122 (-32) (aA x.l 0).t=N at*
 refine fN func19 call19 λC hC hGL=> ?_;refine dU hC hGL (λb:Nat=>[(1,.int .i64 a),(2,.rop (Js.C (e+1) x) 0),(4,.own 0 (bX b))]) (λb=>[bV b Itm.z ax ax]) (λ_=>True) ?_ ?_
 ·refine az ?_;intro b;intros;exact cy b trivial
 intro b4 _;refine cut hC hGL [(1,.int .i64 a),(2,.rop (Js.C (e+1) x) 0),(4,.own 0 (bX b4))] [bV b4 Itm.z ax ax] True cx λ_=> ?_;refine dU hC hGL (λb:Nat=>[(1,.int .i64 a),(2,.rop (Js.C (e+1) x) 0),(4,.own 0 (bX b4)),(5,.own 1 (bX b))]) (λb=>[bV b4 Itm.z ax ax,bV b (⟨[],N,[],[]⟩,Vl.no) ax ax]) (λ_=>True) ?_ ?_
 ·refine az ?_;intro b;intros;exact cy b trivial
 intro b5 _;generalize ho:aA x.l 1=o at*
 refine dU hC hGL (λv:Value=>[(1,.int .i64 a),(2,.rop (Js.C (e+1) x) 0),(4,.own 0 (bX b4)),(5,.own 1 (bX b5))]) (λv=>[bV b4 Itm.z ax ax,bV b5 (⟨eM o o.ks.length,N,[],[]⟩,Vl.no) (.own 2 v) ax,vF v (ek o o.ks.length)]) (λ_=>nb o=false) ?_ ?_
 ·refine az ?_;intros;rw[ho];refine qM (aE (gQ 2) (jD (i:=1) (p:=2) (x:=bV b5 (⟨[],N,[],[]⟩,Vl.no) ax ax) (a':=.own 2 (.slice none 0 0)) rfl (λR=>.cells rfl λ_=>jK))) ?_;refine lp hC hGL (λz:Nat×Value=>[(1,.int .i64 a),(2,.rop (Js.C (e+1) x) 0),(4,.own 0 (bX b4)),(5,.own 1 (bX b5)),(69,.list 1 o.ks.length (ay o.ks)),(70,.int .i64 (o.ks.length:Nat)),(71,.int .i64 (z.1:Nat))]) (λz=>[bV b4 Itm.z ax ax,bV b5 (⟨eM o z.1,N,[],[]⟩,Vl.no) (.own 2 z.2) ax,vF z.2 (ek o z.1)]) (λz=>z.1<=o.ks.length/\∀j,j<z.1->ss o j=false) (λz=>o.ks.length-z.1) (0,.slice none 0 0) ⟨Nat.zero_le _,λj h=>absurd h (Nat.not_lt_zero _)⟩ ad (by unfold eM ek;show _=[_,_,HEnt.row _ none 2 0 (mt [])];unfold mt;rfl) ?_;rintro⟨k,v⟩ ⟨k1,k2⟩;have k1:k<=o.ks.length:=k1;have k2:∀i,i<k->ss o i=false:=k2;dsimp only
  by_cases hlt:k<o.ks.length;case neg=>
   obtain rfl:k=o.ks.length:=by omega
   refine az ?_;intros;exact cy v (Nq k2)
  obtain⟨e',rfl,he'⟩:=e8 hle (show k<o.l.length by omega);have hs:=vN (G:=G) e' (aA o.l k) he' (by have:=(cp ht1 k).1.2.2.1;omega);have hkl2:=eo (l:=o.ks) (k:=k);have hsm:=gY (G:=G) (o.ks.getD k []) [118,97,108,117,101] (by omega) (by decide);have hup:=sf (G:=G) (o.ks.getD k []) (by omega);have hpl:=lR o k;have hol:=ht1.1.2.1;rw[QS] at hsm;unfold Js.R HO at hs;have hkB:ss o k=(!dl (aA o.l k)||aS (al 97 122 (-32) (o.ks.getD k [])) valN||(aS (o.ks.getD k []) qS&&(decide (1<(bp (aA o.l k)).length)||aS ((bp (aA o.l k)).getD 0 []) []))):=rfl;cases hsb:dl (aA o.l k) with
  |false=>
   have e1:=pA (k9 hlt (by rw[hkB,hsb];rfl));rw[hsb,if_neg (by decide)] at hs;refine az ?_;intros;rw[ho];refine az ?_;intros;refine dQ (hT _) ?_
   (conv=>whnf)
   exact hbad _ _ _ e1 rfl
  |true=>
  have hsl:=vu hsb;rw[hsb,if_pos rfl] at hs;obtain⟨m1,hm1⟩:∃m,(bp (aA o.l k)).length=m+1:=⟨(bp (aA o.l k)).length-1,by omega⟩;rw[hm1] at hs;refine az ?_;intros;rw[ho];refine az ?_;intros;refine aP hC hGL (vH (m:=m1) rfl rfl rfl) rfl rfl ?_;cases hvb:aS (al 97 122 (-32) (o.ks.getD k [])) valN with
  |true=>
   have e1:=pA (k9 hlt (by rw[hkB,hsb,hvb];rfl));rw[hvb] at hsm;refine az ?_;intros;refine dQ (hT _) ?_
   (conv=>whnf)
   exact hbad _ _ _ e1 rfl
  |false=>
  rw[hvb] at hsm;by_cases hgk:o.ks.getD k []=[103,114,111,117,112]
  ·have hgb:aS (o.ks.getD k []) qS=true:=bx.2 hgk;by_cases hl1:m1=0;case neg=>
    have e1:=pA (k9 hlt (by rw[hkB,hsb,hvb,hgb,decide_eq_true (show 1<(bp (aA o.l k)).length by omega)];rfl));refine az ?_;intros;refine dQ (hT _) ?_
    (conv=>whnf)
    exact hbad _ _ _ e1 rfl
   have hl1:¬1<(bp (aA o.l k)).length:=by omega
   by_cases hz:((bp (aA o.l k)).getD 0 []).length=0
   ·have e1:=pA (k9 hlt (by rw[hkB,hsb,hvb,hgb,decide_eq_false hl1,bx.2 (List.length_eq_zero_iff.1 hz)];rfl));refine az ?_;intros;refine dQ (hT _) ?_
    (conv=>whnf)
    exact hbad _ _ _ e1 rfl
   have hB0:ss o k=false:=by rw[hkB,hsb,hvb,hgb,decide_eq_false hl1,du.2 λg=>hz (List.length_eq_zero_iff.2 g)];rfl
   obtain⟨g1,g2⟩:=Nu hgb;refine az ?_;intros;refine cJ (k+1,v) ⟨hlt,aV k2 hB0⟩ (by show o.ks.length-(k+1)<o.ks.length-k;omega) ad ?_;dsimp only
   rw[g1,g2];exact List.Sublist.refl _
  ·have hgb:aS (o.ks.getD k []) qS=false:=du.2 hgk;have hB0:ss o k=false:=by rw[hkB,hsb,hvb,hgb];rfl
   obtain⟨g1,g2⟩:=Nt hgb;generalize al 97 122 (-32) (o.ks.getD k [])=K at*
   refine az ?_;intros;refine cR mixed hC hGL false (λ_:Option Addr×Nat×Nat=>[(1,.int .i64 a),(2,.rop (Js.C (e'+1+1) x) 0),(4,.own 0 (bX b4)),(5,.own 1 (bX b5)),(69,.list 1 o.ks.length (ay o.ks)),(70,.int .i64 (o.ks.length:Nat)),(71,.int .i64 (k:Nat))]) (λz=>[bV b4 Itm.z ax ax,bV b5 (⟨eM o k,N,[],[]⟩,Vl.no) (.own 2 (.slice z.1 z.2.1 z.2.2)) ax,.row (.slice z.1 z.2.1 z.2.2) none 2 ((ek o k).length+1) (mt (ek o k)++[.str K,.list 1 (m1+1) (ay (bp (aA o.l k)))])]) .p13 (by kernel_rfl) ?_ ?_
   ·refine xn ?_;repeat' first|exact .n|apply Lc.mk
    all_goals intros
    all_goals exact⟨(_,_,_),ad,rfl⟩
   rintro⟨va,vk,vc⟩;dsimp only
   refine az ?_;intros;refine cJ (k+1,.slice va vk vc) ⟨hlt,aV k2 hB0⟩ (by show o.ks.length-(k+1)<o.ks.length-k;omega) ad ?_;dsimp only
   rw[g1,g2];unfold vF;rw[List.length_append,oi];dsimp only
   rw[hm1];exact List.Sublist.refl _
 intro v hkE;have pB:=pB hkE;have pC:=pC hkE;clear pA hkl hle;refine cut hC hGL [(1,.int .i64 a),(2,.rop (Js.C (e+1) x) 0),(4,.own 0 (bX b4)),(5,.own 1 (bX b5)),(9,.str (aA x.l 2).t)] [bV b4 Itm.z ax ax,bV b5 (⟨eM o o.ks.length,N,[],[]⟩,Vl.no) (.own 2 v) ax,vF v (ek o o.ks.length)] True cx λ_=> ?_;generalize hw:(aA x.l 2).t=t at*
 refine dU hC hGL (λy:Nat×Bool=>[(1,.int .i64 a),(2,.rop (Js.C (e+1) x) 0),(4,.own 0 (bX b4)),(5,.own 1 (bX b5)),(9,.str t),(10,.int .i64 (dk t)),(11,.bool y.2)]) (λy=>[bV b4 Itm.z ax ax,bV b5 (⟨eM o o.ks.length,N,[],[]⟩,Vl.no) (.own 2 v) ax,vF v (ek o o.ks.length),mpW y.1]) (λy=>(y.2=true↔dk t≠0)) ?_ ?_
 ·obtain⟨w1,w4,w5,w6,w7,w8,w0⟩:=Pv t;refine xn ?_;repeat' first|exact .n|apply Lc.mk
  all_goals intros
  ·rw[w1 (by assumption)];exact cy (_,true) (show true=true↔(1:Int)≠0 by decide)
  ·rw[w4 (by assumption)];exact cy (_,true) (show true=true↔(4:Int)≠0 by decide)
  ·rw[w5 (by assumption)];exact cy (_,true) (show true=true↔(5:Int)≠0 by decide)
  ·rw[w6 (by assumption)];exact cy (_,true) (show true=true↔(6:Int)≠0 by decide)
  ·rw[w7 (by assumption)];exact cy (_,true) (show true=true↔(7:Int)≠0 by decide)
  ·rw[w8 (by assumption)];exact cy (_,true) (show true=true↔(8:Int)≠0 by decide)
  ·rw[w0 (by assumption) (by assumption) (by assumption) (by assumption) (by assumption) (by assumption)];exact cy (_,false) (show false=true↔(0:Int)≠0 by decide)
 rintro⟨bm,okb⟩ hok;dsimp only at hok ⊢;refine Ag (cQ (e':=[(1,.int .i64 a),(2,.rop (Js.C (e+1) x) 0),(4,.own 0 (bX b4)),(5,.own 1 (bX b5)),(9,.str t),(10,.int .i64 (dk t)),(11,.bool okb)]) (h':=[bV b4 Itm.z ax ax,bV b5 (⟨eM o o.ks.length,N,[],[]⟩,Vl.no) (.own 2 v) ax,vF v (ek o o.ks.length)]) ad an) ?_;by_cases hk0:dk t=0
 ·have e1:=pB hk0;have ho2:okb=false:=by cases okb;rfl;exact absurd hk0 (hok.1 rfl)
  subst ho2;refine am hC hGL (az ?_);intros;refine dQ (hT _) ?_
  (conv=>whnf)
  exact hbad _ _ _ e1 rfl
 obtain rfl:okb=true:=hok.2 hk0;have e2:=pC hk0;clear pB pC hok;generalize dk t=kw at*
 refine cut hC hGL [(1,.int .i64 a),(2,.rop (Js.C (e+1) x) 0),(4,.own 0 (bX b4)),(5,.own 1 (bX b5)),(9,.str t),(10,.int .i64 kw)] [bV b4 Itm.z ax ax,bV b5 (⟨eM o o.ks.length,N,[],[]⟩,Vl.no) (.own 2 v) ax,vF v (ek o o.ks.length)] True cx λ_=> ?_;have hOf:=nx (G:=G) 4 N (by omega);rw[show dR 4= .none by unfold dR;rfl] at hOf;unfold Rl.A at hOf;simp only[Err.e] at hOf;generalize ci 4 N=r at*
 obtain⟨r0,ra,rb,rp⟩:=r;dsimp only at*
 subst hR4;refine dU hC hGL (λb:Nat=>[(1,.int .i64 a),(2,.rop (Js.C (e+1) x) 0),(4,.own 0 (bX b4)),(5,.own 1 (bX b5)),(9,.str t),(10,.int .i64 kw),(12,.own 3 (bX b))]) (λb=>[bV b4 Itm.z ax ax,bV b5 (⟨eM o o.ks.length,N,[],[]⟩,Vl.no) (.own 2 v) ax,vF v (ek o o.ks.length),.cells b (some 90) [.int .i64 R4,.int .i64 ra,.int .i64 rb,.int .i64 rp]]) (λ_=>True) ?_ ?_
 ·refine az ?_;intro b;intros;exact cy b trivial
 intro b12 _;generalize Ih x=kk at*
 refine cut hC hGL [(1,.int .i64 a),(2,.rop (Js.C (e+1) x) 0),(4,.own 0 (bX b4)),(5,.own 1 (bX b5)),(9,.str t),(10,.int .i64 kk),(12,.own 3 (bX b12))] [bV b4 Itm.z ax ax,bV b5 (⟨eM o o.ks.length,N,[],[]⟩,Vl.no) (.own 2 v) ax,vF v (ek o o.ks.length),.cells b12 (some 90) [.int .i64 R4,.int .i64 ra,.int .i64 rb,.int .i64 rp]] True ?_ λ_=> ?_
 ·by_cases hc:kw=1/\(R4=2\/R4=3)
  ·rw[if_pos hc] at hK;obtain⟨hc1,hc2⟩:=hc;subst hK hc1;rcases hc2 with rfl|rfl
   ·exact cx
   ·exact cx
  ·rw[if_neg hc] at hK;subst hK;by_cases hc1:kk=1
   ·have g1:R4≠2:=λg=>hc ⟨hc1,.inl g⟩;have g2:R4≠3:=λg=>hc ⟨hc1,.inr g⟩;exact cx
   ·exact cx
 clear hK;refine yF (λ_:Value=>[(1,.int .i64 a),(2,.rop (Js.C (e+1) x) 0),(4,.own 0 (bX b4)),(5,.own 1 (bX b5)),(10,.int .i64 kk)]) (λv=>[bV b4 Itm.z ax ax,bV b5 (⟨eM o o.ks.length,N,[],[]⟩,Vl.no) (.own 2 v) ax,vF v PS]) (λ_=>True) (am hC hGL ?_) ?_
 ·by_cases hkk:kk=R4
  ·rw[if_pos hkk,List.append_nil] at hPs;subst hPs;refine az ?_;intros;exact BY v trivial (cQ ad an)
  ·rw[if_neg hkk] at hPs;have hpl:=lR o o.ks.length;have hol:=ht1.1.2.1;refine az ?_;intro va vk vc;intros;refine BY (.slice va vk vc) trivial (aE (Hl (i:=2) (c:=.list 1 1 (ay [t])) rfl λR u=>Dj) (cQ ad ?_));dsimp only
   rw[hPs];unfold vF;rw[List.length_append,oi];exact an
 intro v2 _;refine Ag (jC (i:=2) (k:=1) (p:=2) (fH PS) rfl rfl (FP PS) (λR hr=>.cells (a:=.own 2 v2) rfl λ_=>df hr)) ?_;generalize eM o o.ks.length=gg at*
 refine cut hC hGL [(1,.int .i64 a),(2,.rop (Js.C (e+1) x) 0),(4,.own 0 (bX b4)),(5,.own 1 (bX b5)),(10,.int .i64 kk)] [bV b4 Itm.z ax ax,bV b5 (⟨gg,N,[],[]⟩,⟨kk,[],[],Stm.no,0⟩) (.list 2 PS.length (fH PS)) ax] True cx λ_=> ?_;refine cut hC hGL [(1,.int .i64 a),(4,.own 0 (bX b4)),(5,.own 1 (bX b5)),(10,.int .i64 kk),(14,.list 4 (x.l.length-3) (λk=>kR (e+1) x.l (3+k)))] [bV b4 Itm.z ax ax,bV b5 (⟨gg,N,[],[]⟩,⟨kk,[],[],Stm.no,0⟩) (.list 2 PS.length (fH PS)) ax] True cx λ_=> ?_;have hld:∀i,i<(x.l.drop 3).length->Js.le e (aA (x.l.drop 3) i):=λi hi=>by rw[hXj];exact hXd i (by omega)
 have hlt:∀i,Js.thin (w+2+1) (aA (x.l.drop 3) i):=λi=>by rw[hXj];exact cp ht _
 have hl0:1<=(x.l.drop 3).length/\(x.l.drop 3).length<=600:=by have:=ht.1.2.2.1;omega
 rw[Ib,<-hXl];clear hXl hXj hXd hd ht hf hr h6 h4 h0 h2 ht0 ht3 ho h1 hfk ht1 hUp hN hb hOf pB pC;generalize x.l.drop 3=l at*
 by_cases hlen:kk≠2->l.length=1;case neg=>
  have hk2:kk≠2:=λg=>hlen λh=>absurd g h;have hl1:l.length≠1:=λg=>hlen λ_=>g;rw[Mv hk2 hl1] at e2;refine am hC hGL (az ?_);intros;refine dQ (hT _) ?_
  (conv=>whnf)
  exact hbad _ _ _ e2 rfl
 refine cut hC hGL [(1,.int .i64 a),(4,.own 0 (bX b4)),(5,.own 1 (bX b5)),(10,.int .i64 kk),(14,.list 4 l.length (kR (e+1) l))] [bV b4 Itm.z ax ax,bV b5 (⟨gg,N,[],[]⟩,⟨kk,[],[],Stm.no,0⟩) (.list 2 PS.length (fH PS)) ax] True ?_ λ_=> ?_
 ·by_cases hk2:kk=2
  ·exact cx
  ·have hl1:=hlen hk2;exact cx
 refine cut hC hGL [(1,.int .i64 a),(4,.own 0 (bX b4)),(5,.own 1 (bX b5)),(10,.int .i64 kk),(14,.list 4 l.length (kR (e+1) l)),(15,ax)] [bV b4 Itm.z ax ax,bV b5 (⟨gg,N,[],[]⟩,⟨kk,[],[],Stm.no,0⟩) (.list 2 PS.length (fH PS)) ax] True cx λ_=> ?_;have hlm:(l.map Js.t).length=l.length:=by rw[List.length_map]
 refine yF (λ_:Value=>[(1,.int .i64 a),(4,.own 0 (bX b4)),(5,.own 1 (bX b5)),(10,.int .i64 kk),(14,.list 4 l.length (kR (e+1) l)),(15,.list 1 l.length (ay (l.map Js.t)))]) (λ_=>[bV b4 Itm.z ax ax,bV b5 (⟨gg,N,[],[]⟩,⟨kk,[],[],Stm.no,0⟩) (.list 2 PS.length (fH PS)) ax]) (λ_=>l.all (yp kk)=true) (am hC hGL ?_) ?_
 ·refine az ?_;intros;refine gv 15 1 rfl ?_;refine lp hC hGL (λz:Nat×Value=>[(1,.int .i64 a),(4,.own 0 (bX b4)),(5,.own 1 (bX b5)),(10,.int .i64 kk),(14,.list 4 l.length (kR (e+1) l)),(15,.own 2 z.2),(187,.list 4 l.length (kR (e+1) l)),(188,.int .i64 (l.length:Nat)),(189,.int .i64 (z.1:Nat))]) (λz=>[bV b4 Itm.z ax ax,bV b5 (⟨gg,N,[],[]⟩,⟨kk,[],[],Stm.no,0⟩) (.list 2 PS.length (fH PS)) ax,.row z.2 none 1 z.1 (bc ((l.take z.1).map Js.t))]) (λz=>z.1<=l.length/\∀j,j<z.1->yp kk (aA l j)=true) (λz=>l.length-z.1) (0,.slice none 0 0) ⟨Nat.zero_le _,λj h=>absurd h (Nat.not_lt_zero _)⟩ ad (by dsimp only;rw[List.take_zero];unfold bc;rfl) ?_;rintro⟨k,v⟩ ⟨k1,k2⟩;have k1:k<=l.length:=k1;have k2:∀j,j<k->yp kk (aA l j)=true:=k2;dsimp only
  by_cases hk:k<l.length;case neg=>
   obtain rfl:k=l.length:=by omega
   rw[List.take_length];refine az ?_;intros;exact BY v (su k2) (aE (Ck (i:=2) (k:=15) (ay (l.map Js.t)) rfl rfl (λj hj=>eq (l.map Js.t) j (by omega))) (cQ ad an))
  have hlk:=hl0.2;have hpush:∀va vk vc,[bV b4 Itm.z ax ax,bV b5 (⟨gg,N,[],[]⟩,⟨kk,[],[],Stm.no,0⟩) (.list 2 PS.length (fH PS)) ax,HEnt.row (.slice va vk vc) none 1 (k+1) (bc ((l.take (k+1)).map Js.t))]=[bV b4 Itm.z ax ax,bV b5 (⟨gg,N,[],[]⟩,⟨kk,[],[],Stm.no,0⟩) (.list 2 PS.length (fH PS)) ax,HEnt.row (.slice va vk vc) none 1 (k+1) (bc ((l.take k).map Js.t)++[.str (aA l k).t])]:=λva vk vc=>by rw[rO hk,<-bJ]
  cases hq:yp kk (aA l k) with
  |true=>
   by_cases h3:kk=3
   ·subst h3;rw[MO] at hq;have hq:=bP.1 hq;refine az ?_;intro _ va vk vc;intros;refine cJ (k+1,.slice va vk vc) ⟨hk,aV k2 (by rw[MO];exact bP.2 hq)⟩ (by show l.length-(k+1)<l.length-k;omega) ad ?_;dsimp only
    rw[hpush];exact an
   ·rw[MN h3] at hq;have hq:=lk.1 hq;refine az ?_;intro _ va vk vc;intros;refine cJ (k+1,.slice va vk vc) ⟨hk,aV k2 (by rw[MN h3];exact lk.2 hq)⟩ (by show l.length-(k+1)<l.length-k;omega) ad ?_;dsimp only
    rw[hpush];exact an
  |false=>
   rw[Qq (A8 hk hq) hlen] at e2;by_cases h3:kk=3
   ·subst h3;rw[MO] at hq;have hq:=fV.1 hq;refine az ?_;intros;refine dQ (hT _) ?_
    (conv=>whnf)
    exact hbad _ _ _ e2 rfl
   ·rw[MN h3] at hq;have hq:=vl.1 hq;refine az ?_;intros;refine dQ (hT _) ?_
    (conv=>whnf)
    exact hbad _ _ _ e2 rfl
 intro _ hall;refine yF (λ_:Vl×AVal=>[(4,.own 0 (bX b4)),(5,.own 1 (bX b5))]) (λy=>[bV b4 Itm.z ax ax,bV b5 (⟨gg,N,[],[]⟩,y.1) (.list 2 PS.length (fH PS)) y.2]) (λy=>gM x= .none/\y.1=(cE l kk).1/\Pj y.1.L y.2) (am hC hGL ?_) ?_;case _=>
  by_cases hk2:kk=2
  ·subst hk2;rw[Qr hall] at e2 ⊢;refine az ?_;intros;exact BY (⟨2,[],[l.map Js.t],Stm.no,0⟩,.list 1 1 (bq [(0,.list 1 l.length (ay (l.map Js.t)))])) ⟨e2,rfl,.inr (.inr ⟨l.map Js.t,_,rfl,by unfold yu;rw[hlm];rfl,rfl⟩)⟩ (cQ ad an)
  have hl1:=hlen hk2;obtain⟨q1,q3,q3b,qr⟩:=TC hall hl1;obtain⟨y,rfl⟩:=List.length_eq_one_iff.1 hl1;have hy:=hlt 0;have hye:=hld 0 (show 0<1 by decide);change Js.thin (w+2+1) y at hy;change Js.le e y at hye;by_cases hk1:kk=1
  ·subst hk1;rw[q1 rfl] at e2 ⊢;refine az ?_;intros;exact BY (⟨1,y.t,[],Stm.no,0⟩,ax) ⟨e2,rfl,.inl ⟨rfl,rfl⟩⟩ (cQ ad an)
  by_cases hk3:kk=3
  ·subst hk3;have q3:=q3 rfl;have q3b:=q3b rfl;change y.l.all dl=true->_ at q3;change y.l.all dl=false->_ at q3b;refine az ?_;intros;refine qM (aE (gQ 1) (jD (i:=1) (p:=5) (x:=bV b5 (⟨gg,N,[],[]⟩,⟨3,[],[],Stm.no,0⟩) (.list 2 PS.length (fH PS)) ax) (a':=.own 2 (.slice none 0 0)) rfl (λR=>.cells rfl λ_=>jK))) ?_;refine lp hC hGL (λz:Nat×Value=>[(1,.int .i64 a),(4,.own 0 (bX b4)),(5,.own 1 (bX b5)),(253,.list 4 y.l.length (kR e y.l)),(254,.int .i64 (y.l.length:Nat)),(255,.int .i64 (z.1:Nat))]) (λz=>[bV b4 Itm.z ax ax,bV b5 (⟨gg,N,[],[]⟩,⟨3,[],[],Stm.no,0⟩) (.list 2 PS.length (fH PS)) (.own 2 z.2),.row z.2 none 1 z.1 (eb ((y.l.take z.1).map bp))]) (λz=>z.1<=y.l.length/\∀j,j<z.1->dl (aA y.l j)=true) (λz=>y.l.length-z.1) (0,.slice none 0 0) ⟨Nat.zero_le _,λj h=>absurd h (Nat.not_lt_zero _)⟩ ad rfl ?_;rintro⟨j,v⟩ ⟨k1,k2⟩;have k1:j<=y.l.length:=k1;have k2:∀i,i<j->dl (aA y.l i)=true:=k2;dsimp only
   have hlm2:(y.l.map bp).length=y.l.length:=by rw[List.length_map]
   by_cases hlt2:j<y.l.length;case neg=>
    obtain rfl:j=y.l.length:=by omega
    have hall2:=su k2;rw[q3 hall2] at e2 ⊢;rw[List.take_length];refine az ?_;intros;exact BY (⟨3,[],y.l.map bp,Stm.no,0⟩,.list 1 y.l.length (kQ (y.l.map bp))) ⟨e2,rfl,.inr (.inl (by rw[hlm2]))⟩ (aE (jC (i:=2) (k:=1) (p:=5) (kQ (y.l.map bp)) rfl rfl (λj hj=>uu _ j (by omega)) (λR hr=>.cells (a:=.own 2 v) rfl λ_=>df hr)) (cQ ad an))
   obtain⟨e',rfl,he'⟩:=e8 hye hlt2;have hbb:=(cp hy j).1.2.2.1;have hyl:=hy.1.2.2.1;have hs:=vN (G:=G) e' (aA y.l j) he' (by omega);unfold Js.R HO at hs;cases hsb:dl (aA y.l j) with
   |false=>
    rw[hsb,if_neg (by decide)] at hs;rw[q3b (A8 hlt2 hsb)] at e2;refine az ?_;intros;refine dQ (hT _) ?_
    (conv=>whnf)
    exact hbad _ _ _ e2 rfl
   |true=>
    have hsl:=vu hsb;rw[hsb,if_pos rfl] at hs;have hp:eb ((y.l.take (j+1)).map bp)=eb ((y.l.take j).map bp)++[.list 1 (bp (aA y.l j)).length (ay (bp (aA y.l j)))]:=by
     rw[List.take_succ_eq_append_getElem hlt2,List.map_append,List.map_singleton,<-lN,mN hlt2];rfl
    obtain⟨m1,hm1⟩:∃m,(bp (aA y.l j)).length=m+1:=⟨(bp (aA y.l j)).length-1,by omega⟩;rw[hm1] at hs hp;refine az ?_;intros;refine aP hC hGL (vH (m:=m1) rfl rfl rfl) rfl rfl ?_;refine az ?_;intro va vk vc;intros;refine cJ (j+1,Value.slice va vk vc) ⟨hlt2,aV k2 hsb⟩ (by show y.l.length-(j+1)<y.l.length-j;omega) ad ?_;dsimp only
    rw[hp];exact an
  have qr:=qr hk1 hk2 hk3;change _=lA y.t kk at qr;have hRd:=yi (G:=G) hU hM hH y.t kk (by have:=hy.1.1;omega);have h00:=Ld y.t kk;rw[qr] at e2 ⊢;generalize lA y.t kk=p at*
  obtain⟨vv,ee⟩:=p;dsimp only at hRd e2 h00 ⊢;unfold Vl.R at hRd;have hIs:=jI (G:=G) ee.e ee.p;by_cases hee:ee= .none
  ·subst hee;simp only[Err.e,Err.p] at hRd hIs;rw[W7] at hIs;refine az ?_;intros;exact BY (vv,.list 1 vv.L.length (kQ vv.L)) ⟨e2,rfl,.inr (.inl rfl)⟩ (cQ ad an)
  ·have hne:gM x≠ .none:=by rw[e2];exact hee
   have hen:ee.e≠0:=λg=>hee (h00 g);rw[fV.2 hen] at hIs;have hb2:∀v H,v=tz ee.e a->Pn (Ss x a) v H:=λv H hv=>Q6 hne (by rw[e2];exact hv);refine az ?_;intros;refine dQ (hT _) ?_
   (conv=>whnf)
   exact hb2 _ _ rfl
 rintro⟨vv,q⟩ ⟨e3,e4,hL⟩;dsimp only at e4 hL ⊢;rw[<-e4] at hV;have hq:WD (xU x).1.ps (.list 2 PS.length (fH PS))/\Pj (xU x).2.L q:=by
  rw[hV];exact⟨.inr rfl,hL⟩
 rw[hV] at hq;rcases hL with⟨rfl,h⟩|rfl|⟨l1,g,rfl,hg,h⟩
 all_goals
  refine am hC hGL (az ?_);intros;exact⟨[],List.nil_sublist _,rfl,.inl ⟨e3,_,_,by rw[hV],by rw[hV];exact hq.1,by rw[hV];exact hq.2⟩⟩
theorem Ml {G:Glo}{m:Int}(hU:ab G utfTy)(hM:ab G (ct m))(hH:ab G shapesTy)(d n w:Nat)(x:Js)(a:Int)(hd:Js.le d x)(ht:Js.thin (w+4) x)(hf:Js.fit d x)(hr:kM (n+2) x=0):
  ae prog G 19 [Js.R d x,.int .i64 a] [] (T8 x a):=by
 refine wW (Qf:=Ss x a) ?_ λ_ _ h=>Q5 h;cases hb:Pq x with
 |false=>exact C3 d x a hd hb
 |true=>
  obtain⟨e,rfl, -⟩:=e8 hd (show 0<x.l.length by have:=(zF.1 hb).2.1;omega);exact Jz hU hM hH e n w x a hd hb ht hf hr
end
section
attribute [local irreducible] bN aw aa aC bg ab ae
theorem Er {G:Glo}(v:Int):aj prog G 89 [.int .i64 v] (.bool (cm v 4)):=by
 refine ao func89 call89 λC hC hGL=> ?_;exact ba
end
end Go.Proofs.YtpgdnpielhfpgaaGreatDoor
