/- Parts of the proof of streamCards_card. -/
import Derived.Test.YtgpjhbhdbjdlgaaGreatDoorBap
set_option linter.unusedVariables false
set_option linter.unusedSimpArgs false
set_option linter.unusedSectionVars false
namespace Go.Proofs.YtgpjhbhdbjdlgaaGreatDoor
open Go Go.RowKit
open Go.Proofs.Tryz Go.Proofs.YtgpjhbhdbjdlgaaGreatDoor.Tryz
set_option maxRecDepth 20000
set_option maxHeartbeats 4000000
section
attribute [local irreducible] bJ au aa ax aR ab ad Lib.contains bN ig
theorem cF {G:Glo}{m:Int}(hM:ab G (bQ m))(hS:ab G shapesTy)(i j:Nat)(hi:i<=6)(hj:j<=6)(d c z:ω)(hd:d.length=dN i)(hdd:gq d 0 (dN i))(hc:c.length=cN j)(hcc:gq c 0 (cN j))(hz:z.length<=1000000):
  ai prog G 136 [.str (kn i),.str (kn j),.str d,.str c,.str z] (.tuple [(Vc i j d c z).1.A,.int .i64 (Vc i j d c z).2]):=by
 have c0:=lE (G:=G) hM i 0 hi b_;have c1:=lE (G:=G) hM i 1 hi b_;have c2:=lE (G:=G) hM i 2 hi b_;have e0:=lE (G:=G) hM j 0 hj b_;have e1:=lE (G:=G) hM j 1 hj b_;have e2:=lE (G:=G) hM j 2 hj b_;have hR:=λu=>kb (G:=G) hS u
 have hZ:=qJ (G:=G) z a_
 refine k7 func136 call136 λC hC hGL=> ?_
 refine gr hC hGL (λx:Nat×Nat×Nat=>[(0,.str (kn i)),(1,.str (kn j)),(4,.str z),(7,.own 0 (pW x.1)),(8,.own 1 (pW x.2.1)),(10,.own 2 (pW x.2.2))]) (λx=>[LF x.1 d,LF x.2.1 c,ja x.2.2 0 0 0 0 0 0 false 0]) (λ_=>True) ?_ λx _=> ?_
 ·refine Sg ?_
  intro b7 b8 b10
  exact cy (b7,b8,b10) trivial
 obtain⟨b7,b8,b10⟩:=x
 dsimp only
 refine gr hC hGL (λb12:Nat=>[(0,.str (kn i)),(1,.str (kn j)),(4,.str z),(7,.own 0 (pW b7)),(8,.own 1 (pW b8)),(10,.own 2 (pW b10)),(12,.own 3 (pW b12))]) (λb12=>[LF b7 d,LF b8 c,ja b10 0 0 0 0 0 0 false 0,ja b12 (-1) (-1) (-1) (-1) (-1) (-1) false 0]) (λ_=>True) ?_ λb12 _=> ?_
 ·refine an ?_
  intro b12
  exact cy b12 trivial
 refine cut hC hGL [(0,.str (kn i)),(1,.str (kn j)),(4,.str z),(7,.own 0 (pW b7)),(8,.own 1 (pW b8)),(10,.own 2 (pW b10)),(12,.own 3 (pW b12)),(13,.func (.func 184) [] [])] [LF b7 d,LF b8 c,ja b10 0 0 0 0 0 0 false 0,ja b12 (-1) (-1) (-1) (-1) (-1) (-1) false 0] True eK λ_=> ?_
 refine gr hC hGL (λ_:ω=>[(1,.str (kn j)),(4,.str z),(8,.own 1 (pW b8)),(10,.own 2 (pW b10)),(12,.own 3 (pW b12)),(13,.func (.func 184) [] [])]) (λx=>[LF b7 x,LF b8 c,ja b10 0 0 0 0 0 0 false 0,ja b12 (sY i d) (sM i d) (sD i d) (-1) (-1) (-1) false 0]) (λ_=>True) ?_ λd' _=> ?_
 ·refine an ?_
  refine rds hC hGL 4 ?_
  rcases(show i=0\/i=1\/i=2\/i=3\/i=4\/i=5\/i=6 by omega) with rfl|rfl|rfl|rfl|rfl|rfl|rfl
  ·have hd:d.length=0:=hd
   have hdd:gq d 0 0:=hdd
   refine an ?_
   intros
   exact cy (d) trivial
  ·have hd:d.length=4:=hd
   have hdd:gq d 0 4:=hdd
   have f0:=B5 (G:=G) b7 d a_ a_ (λj g1 g2=>hdd j g1 a_)
   refine an ?_
   intros
   exact cy (d.drop 4) trivial
  ·have hd:d.length=6:=hd
   have hdd:gq d 0 6:=hdd
   have f0:=B5 (G:=G) b7 d a_ a_ (λj g1 g2=>hdd j g1 a_)
   have f1:=gu (G:=G) b7 (d.drop 4) (by simp only[k_];omega) (by simp only[k_];omega) (λj g1 g2=>by rw[cW];exact hdd _ a_ a_)
   rw[show dx (d.drop 4) 0=dx d 4 by rw[ga]] at f1
   refine an ?_
   intros
   exact cy ((d.drop 4).drop 2) trivial
  ·have hd:d.length=8:=hd
   have hdd:gq d 0 8:=hdd
   have f0:=B5 (G:=G) b7 d a_ a_ (λj g1 g2=>hdd j g1 a_)
   have f1:=gu (G:=G) b7 (d.drop 4) (by simp only[k_];omega) (by simp only[k_];omega) (λj g1 g2=>by rw[cW];exact hdd _ a_ a_)
   rw[show dx (d.drop 4) 0=dx d 4 by rw[ga]] at f1
   have f2:=gu (G:=G) b7 ((d.drop 4).drop 2) (by simp only[k_];omega) (by simp only[k_];omega) (λj g1 g2=>by rw[cW,cW];exact hdd _ a_ a_)
   rw[show dx ((d.drop 4).drop 2) 0=dx d 6 by rw[ga,ga]] at f2
   refine an ?_
   intros
   exact cy (((d.drop 4).drop 2).drop 2) trivial
  ·have hd:d.length=2:=hd
   have hdd:gq d 0 2:=hdd
   have f0:=gu (G:=G) b7 d a_ a_ (λj g1 g2=>hdd j g1 a_)
   refine an ?_
   intros
   exact cy (d.drop 2) trivial
  ·have hd:d.length=4:=hd
   have hdd:gq d 0 4:=hdd
   have f0:=gu (G:=G) b7 d a_ a_ (λj g1 g2=>hdd j g1 a_)
   have f1:=gu (G:=G) b7 (d.drop 2) (by simp only[k_];omega) (by simp only[k_];omega) (λj g1 g2=>by rw[cW];exact hdd _ a_ a_)
   rw[show dx (d.drop 2) 0=dx d 2 by rw[ga]] at f1
   refine an ?_
   intros
   exact cy ((d.drop 2).drop 2) trivial
  ·have hd:d.length=2:=hd
   have hdd:gq d 0 2:=hdd
   have f0:=gu (G:=G) b7 d a_ a_ (λj g1 g2=>hdd j g1 a_)
   refine an ?_
   intros
   exact cy (d.drop 2) trivial
 refine gr hC hGL (λ_:ω=>[(4,.str z),(10,.own 2 (pW b10)),(12,.own 3 (pW b12))]) (λx=>[LF b7 d',LF b8 x,ja b10 0 0 0 0 0 0 false 0,ja b12 (sY i d) (sM i d) (sD i d) (sH j c) (sI j c) (sS j c) false 0]) (λ_=>True) ?_ λc' _=> ?_
 ·generalize sY i d=y0
  generalize sM i d=m0
  generalize sD i d=d0
  refine an ?_
  refine rds hC hGL 4 ?_
  rcases(show j=0\/j=1\/j=2\/j=3\/j=4\/j=5\/j=6 by omega) with rfl|rfl|rfl|rfl|rfl|rfl|rfl
  ·have hc:c.length=0:=hc
   have hcc:gq c 0 0:=hcc
   refine an ?_
   intros
   exact cy (c) trivial
  ·have hc:c.length=2:=hc
   have hcc:gq c 0 2:=hcc
   have f0:=gu (G:=G) b8 c a_ a_ (λj g1 g2=>hcc j g1 a_)
   refine an ?_
   intros
   exact cy (c.drop 2) trivial
  ·have hc:c.length=4:=hc
   have hcc:gq c 0 4:=hcc
   have f0:=gu (G:=G) b8 c a_ a_ (λj g1 g2=>hcc j g1 a_)
   have f1:=gu (G:=G) b8 (c.drop 2) (by simp only[k_];omega) (by simp only[k_];omega) (λj g1 g2=>by rw[cW];exact hcc _ a_ a_)
   rw[show dx (c.drop 2) 0=dx c 2 by rw[ga]] at f1
   refine an ?_
   intros
   exact cy ((c.drop 2).drop 2) trivial
  ·have hc:c.length=6:=hc
   have hcc:gq c 0 6:=hcc
   have f0:=gu (G:=G) b8 c a_ a_ (λj g1 g2=>hcc j g1 a_)
   have f1:=gu (G:=G) b8 (c.drop 2) (by simp only[k_];omega) (by simp only[k_];omega) (λj g1 g2=>by rw[cW];exact hcc _ a_ a_)
   rw[show dx (c.drop 2) 0=dx c 2 by rw[ga]] at f1
   have f2:=gu (G:=G) b8 ((c.drop 2).drop 2) (by simp only[k_];omega) (by simp only[k_];omega) (λj g1 g2=>by rw[cW,cW];exact hcc _ a_ a_)
   rw[show dx ((c.drop 2).drop 2) 0=dx c 4 by rw[ga,ga]] at f2
   refine an ?_
   intros
   exact cy (((c.drop 2).drop 2).drop 2) trivial
  ·have hc:c.length=2:=hc
   have hcc:gq c 0 2:=hcc
   have f0:=gu (G:=G) b8 c a_ a_ (λj g1 g2=>hcc j g1 a_)
   refine an ?_
   intros
   exact cy (c.drop 2) trivial
  ·have hc:c.length=4:=hc
   have hcc:gq c 0 4:=hcc
   have f0:=gu (G:=G) b8 c a_ a_ (λj g1 g2=>hcc j g1 a_)
   have f1:=gu (G:=G) b8 (c.drop 2) (by simp only[k_];omega) (by simp only[k_];omega) (λj g1 g2=>by rw[cW];exact hcc _ a_ a_)
   rw[show dx (c.drop 2) 0=dx c 2 by rw[ga]] at f1
   refine an ?_
   intros
   exact cy ((c.drop 2).drop 2) trivial
  ·have hc:c.length=2:=hc
   have hcc:gq c 0 2:=hcc
   have f0:=gu (G:=G) b8 c a_ a_ (λj g1 g2=>hcc j g1 a_)
   refine an ?_
   intros
   exact cy (c.drop 2) trivial
 unfold Vc
 generalize sY i d=y0
 generalize sM i d=m0
 generalize sD i d=d0
 generalize sH j c=h0
 generalize sI j c=i0
 generalize sS j c=s0
 by_cases hz0:z=[]
 ·subst hz0
  have hR0:ai prog G 148 [.agg [.int .i64 y0,.int .i64 m0,.int .i64 d0,.int .i64 h0,.int .i64 i0,.int .i64 s0,.bool false,.int .i64 0]] (.int .i64 (⟨y0,m0,d0,h0,i0,s0,false,0⟩:Stm).e):=hR ⟨y0,m0,d0,h0,i0,s0,false,0⟩
  rw[if_neg (by simp)]
  simp only[aap,show decide (([]:ω)≠[])=false from rfl]
  generalize (⟨y0,m0,d0,h0,i0,s0,false,0⟩:Stm).e=e at*
  by_cases he:e=0
  ·rw[if_pos he]
   exact ar hC hGL bq
  ·rw[if_neg he]
   exact ar hC hGL bq
 ·have hlz:z.length≠0:=λh=>hz0 (s_ h)
  have hR0:ai prog G 148 [.agg [.int .i64 y0,.int .i64 m0,.int .i64 d0,.int .i64 h0,.int .i64 i0,.int .i64 s0,.bool true,.int .i64 (bN z).1]] (.int .i64 (⟨y0,m0,d0,h0,i0,s0,true,(bN z).1⟩:Stm).e):=hR ⟨y0,m0,d0,h0,i0,s0,true,(bN z).1⟩
  simp only[if_neg hz0,decide_eq_true hz0]
  by_cases hv:(bN z).2=0
  ·rw[if_neg (λh=>h.2 hv)]
   generalize (⟨y0,m0,d0,h0,i0,s0,true,(bN z).1⟩:Stm).e=e at*
   by_cases he:e=0
   ·rw[if_pos he]
    exact ar hC hGL bq
   ·rw[if_neg he]
    exact ar hC hGL bq
  ·rw[if_pos ⟨hz0,hv⟩]
   exact ar hC hGL bq
end
section
theorem mi {a:UInt8}(h:48<=a.toNat/\a.toNat<=57):(a != 45)=true:=by
 rw[bne_iff_ne];rintro rfl;exact absurd h b_
theorem NV {a:UInt8}(h:a.toNat=45):(a != 45)=false:=by
 obtain rfl:a=45:=UInt8.toNat_inj.1 h;rfl
theorem iF {s u:ω}{i:Nat}(h:aP s=u)(hi:i<u.length)(h45:aa u i=45):aa s i=45:=(nQ a_).1 (((eq h).2 i hi).trans h45)
theorem LY {s:ω}(h:aP s=bT 0):(aI 45 s).length=0/\gq (aI 45 s) 0 0/\sY 0 (aI 45 s)=dY 0 s/\sM 0 (aI 45 s)=dM 0 s/\sD 0 (aI 45 s)=dD 0 s:=by
 obtain rfl:s=[]:=s_ (eq h).1;exact⟨rfl,λj _ h=>absurd h (Uf _),rfl,rfl,rfl⟩
theorem LX {s:ω}(h:aP s=bT 1):(aI 45 s).length=4/\gq (aI 45 s) 0 4/\sY 1 (aI 45 s)=dY 1 s/\sM 1 (aI 45 s)=dM 1 s/\sD 1 (aI 45 s)=dD 1 s:=by
 have hl:s.length=4:=(eq h).1;have f0:=bh h (i:=0) b_ b_;have f1:=bh h (i:=1) b_ b_;have f2:=bh h (i:=2) b_ b_;have f3:=bh h (i:=3) b_ b_
 match s,hl with
 |[a,b,c,d],_=>
  have f0:48<=a.toNat/\a.toNat<=57:=f0;have f1:48<=b.toNat/\b.toNat<=57:=f1;have f2:48<=c.toNat/\c.toNat<=57:=f2;have f3:48<=d.toNat/\d.toNat<=57:=f3;have e:aI 45 [a,b,c,d]=[a,b,c,d]:=by simp only[aI,List.filter,mi f0,mi f1,mi f2,mi f3]
  rw[e];refine⟨rfl,λj _ hj=> ?_,rfl,rfl,rfl⟩;rcases(show j=0\/j=1\/j=2\/j=3 by omega) with rfl|rfl|rfl|rfl
  ·exact f0
  ·exact f1
  ·exact f2
  ·exact f3
theorem LW {s:ω}(h:aP s=bT 2):(aI 45 s).length=6/\gq (aI 45 s) 0 6/\sY 2 (aI 45 s)=dY 2 s/\sM 2 (aI 45 s)=dM 2 s/\sD 2 (aI 45 s)=dD 2 s:=by
 have hl:s.length=7:=(eq h).1;have f0:=bh h (i:=0) b_ b_;have f1:=bh h (i:=1) b_ b_;have f2:=bh h (i:=2) b_ b_;have f3:=bh h (i:=3) b_ b_;have f4:=iF h (i:=4) b_ b_;have f5:=bh h (i:=5) b_ b_;have f6:=bh h (i:=6) b_ b_
 match s,hl with
 |[a,b,c,d,e,f,g],_=>
  have f0:48<=a.toNat/\a.toNat<=57:=f0;have f1:48<=b.toNat/\b.toNat<=57:=f1;have f2:48<=c.toNat/\c.toNat<=57:=f2;have f3:48<=d.toNat/\d.toNat<=57:=f3;have f4:e.toNat=45:=f4;have f5:48<=f.toNat/\f.toNat<=57:=f5;have f6:48<=g.toNat/\g.toNat<=57:=f6;have e:aI 45 [a,b,c,d,e,f,g]=[a,b,c,d,f,g]:=by simp only[aI,List.filter,mi f0,mi f1,mi f2,mi f3,NV f4,mi f5,mi f6]
  rw[e];refine⟨rfl,λj _ hj=> ?_,rfl,rfl,rfl⟩;rcases(show j=0\/j=1\/j=2\/j=3\/j=4\/j=5 by omega) with rfl|rfl|rfl|rfl|rfl|rfl
  ·exact f0
  ·exact f1
  ·exact f2
  ·exact f3
  ·exact f5
  ·exact f6
theorem LV {s:ω}(h:aP s=bT 3):(aI 45 s).length=8/\gq (aI 45 s) 0 8/\sY 3 (aI 45 s)=dY 3 s/\sM 3 (aI 45 s)=dM 3 s/\sD 3 (aI 45 s)=dD 3 s:=by
 have hl:s.length=8:=(eq h).1;have f0:=bh h (i:=0) b_ b_;have f1:=bh h (i:=1) b_ b_;have f2:=bh h (i:=2) b_ b_;have f3:=bh h (i:=3) b_ b_;have f4:=bh h (i:=4) b_ b_;have f5:=bh h (i:=5) b_ b_;have f6:=bh h (i:=6) b_ b_;have f7:=bh h (i:=7) b_ b_
 match s,hl with
 |[a,b,c,d,e,f,g,h],_=>
  have f0:48<=a.toNat/\a.toNat<=57:=f0;have f1:48<=b.toNat/\b.toNat<=57:=f1;have f2:48<=c.toNat/\c.toNat<=57:=f2;have f3:48<=d.toNat/\d.toNat<=57:=f3;have f4:48<=e.toNat/\e.toNat<=57:=f4;have f5:48<=f.toNat/\f.toNat<=57:=f5;have f6:48<=g.toNat/\g.toNat<=57:=f6;have f7:48<=h.toNat/\h.toNat<=57:=f7;have e:aI 45 [a,b,c,d,e,f,g,h]=[a,b,c,d,e,f,g,h]:=by simp only[aI,List.filter,mi f0,mi f1,mi f2,mi f3,mi f4,mi f5,mi f6,mi f7]
  rw[e];refine⟨rfl,λj _ hj=> ?_,rfl,rfl,rfl⟩;rcases(show j=0\/j=1\/j=2\/j=3\/j=4\/j=5\/j=6\/j=7 by omega) with rfl|rfl|rfl|rfl|rfl|rfl|rfl|rfl
  ·exact f0
  ·exact f1
  ·exact f2
  ·exact f3
  ·exact f4
  ·exact f5
  ·exact f6
  ·exact f7
theorem LU {s:ω}(h:aP s=bT 4):(aI 45 s).length=2/\gq (aI 45 s) 0 2/\sY 4 (aI 45 s)=dY 4 s/\sM 4 (aI 45 s)=dM 4 s/\sD 4 (aI 45 s)=dD 4 s:=by
 have hl:s.length=4:=(eq h).1;have f0:=iF h (i:=0) b_ b_;have f1:=iF h (i:=1) b_ b_;have f2:=bh h (i:=2) b_ b_;have f3:=bh h (i:=3) b_ b_
 match s,hl with
 |[a,b,c,d],_=>
  have f0:a.toNat=45:=f0;have f1:b.toNat=45:=f1;have f2:48<=c.toNat/\c.toNat<=57:=f2;have f3:48<=d.toNat/\d.toNat<=57:=f3;have e:aI 45 [a,b,c,d]=[c,d]:=by simp only[aI,List.filter,NV f0,NV f1,mi f2,mi f3]
  rw[e];refine⟨rfl,λj _ hj=> ?_,rfl,rfl,rfl⟩;rcases(show j=0\/j=1 by omega) with rfl|rfl
  ·exact f2
  ·exact f3
theorem LT {s:ω}(h:aP s=bT 5):(aI 45 s).length=4/\gq (aI 45 s) 0 4/\sY 5 (aI 45 s)=dY 5 s/\sM 5 (aI 45 s)=dM 5 s/\sD 5 (aI 45 s)=dD 5 s:=by
 have hl:s.length=6:=(eq h).1;have f0:=iF h (i:=0) b_ b_;have f1:=iF h (i:=1) b_ b_;have f2:=bh h (i:=2) b_ b_;have f3:=bh h (i:=3) b_ b_;have f4:=bh h (i:=4) b_ b_;have f5:=bh h (i:=5) b_ b_
 match s,hl with
 |[a,b,c,d,e,f],_=>
  have f0:a.toNat=45:=f0;have f1:b.toNat=45:=f1;have f2:48<=c.toNat/\c.toNat<=57:=f2;have f3:48<=d.toNat/\d.toNat<=57:=f3;have f4:48<=e.toNat/\e.toNat<=57:=f4;have f5:48<=f.toNat/\f.toNat<=57:=f5;have e:aI 45 [a,b,c,d,e,f]=[c,d,e,f]:=by simp only[aI,List.filter,NV f0,NV f1,mi f2,mi f3,mi f4,mi f5]
  rw[e];refine⟨rfl,λj _ hj=> ?_,rfl,rfl,rfl⟩;rcases(show j=0\/j=1\/j=2\/j=3 by omega) with rfl|rfl|rfl|rfl
  ·exact f2
  ·exact f3
  ·exact f4
  ·exact f5
theorem LS {s:ω}(h:aP s=bT 6):(aI 45 s).length=2/\gq (aI 45 s) 0 2/\sY 6 (aI 45 s)=dY 6 s/\sM 6 (aI 45 s)=dM 6 s/\sD 6 (aI 45 s)=dD 6 s:=by
 have hl:s.length=5:=(eq h).1;have f0:=iF h (i:=0) b_ b_;have f1:=iF h (i:=1) b_ b_;have f2:=iF h (i:=2) b_ b_;have f3:=bh h (i:=3) b_ b_;have f4:=bh h (i:=4) b_ b_
 match s,hl with
 |[a,b,c,d,e],_=>
  have f0:a.toNat=45:=f0;have f1:b.toNat=45:=f1;have f2:c.toNat=45:=f2;have f3:48<=d.toNat/\d.toNat<=57:=f3;have f4:48<=e.toNat/\e.toNat<=57:=f4;have e:aI 45 [a,b,c,d,e]=[d,e]:=by simp only[aI,List.filter,NV f0,NV f1,NV f2,mi f3,mi f4]
  rw[e];refine⟨rfl,λj _ hj=> ?_,rfl,rfl,rfl⟩;rcases(show j=0\/j=1 by omega) with rfl|rfl
  ·exact f3
  ·exact f4
theorem Ea {s:ω}{i:Nat}(hi:i<=6)(h:aP s=bT i):(aI 45 s).length=dN i/\gq (aI 45 s) 0 (dN i)/\sY i (aI 45 s)=dY i s/\sM i (aI 45 s)=dM i s/\sD i (aI 45 s)=dD i s:=by
 rcases(show i=0\/i=1\/i=2\/i=3\/i=4\/i=5\/i=6 by omega) with rfl|rfl|rfl|rfl|rfl|rfl|rfl
 ·exact LY h
 ·exact LX h
 ·exact LW h
 ·exact LV h
 ·exact LU h
 ·exact LT h
 ·exact LS h
theorem Oq {s:ω}(h:aP s=aX 0):(aI 45 s).length=0/\gq (aI 45 s) 0 0/\sH 0 (aI 45 s)=cH 0 s/\sI 0 (aI 45 s)=cI 0 s/\sS 0 (aI 45 s)=cS 0 s:=by
 obtain rfl:s=[]:=s_ (eq h).1;exact⟨rfl,λj _ h=>absurd h (Uf _),rfl,rfl,rfl⟩
theorem Oo {s:ω}(h:aP s=aX 1):(aI 45 s).length=2/\gq (aI 45 s) 0 2/\sH 1 (aI 45 s)=cH 1 s/\sI 1 (aI 45 s)=cI 1 s/\sS 1 (aI 45 s)=cS 1 s:=by
 have hl:s.length=2:=(eq h).1;have f0:=bh h (i:=0) b_ b_;have f1:=bh h (i:=1) b_ b_
 match s,hl with
 |[a,b],_=>
  have f0:48<=a.toNat/\a.toNat<=57:=f0;have f1:48<=b.toNat/\b.toNat<=57:=f1;have e:aI 45 [a,b]=[a,b]:=by simp only[aI,List.filter,mi f0,mi f1]
  rw[e];refine⟨rfl,λj _ hj=> ?_,rfl,rfl,rfl⟩;rcases(show j=0\/j=1 by omega) with rfl|rfl
  ·exact f0
  ·exact f1
theorem On {s:ω}(h:aP s=aX 2):(aI 45 s).length=4/\gq (aI 45 s) 0 4/\sH 2 (aI 45 s)=cH 2 s/\sI 2 (aI 45 s)=cI 2 s/\sS 2 (aI 45 s)=cS 2 s:=by
 have hl:s.length=4:=(eq h).1;have f0:=bh h (i:=0) b_ b_;have f1:=bh h (i:=1) b_ b_;have f2:=bh h (i:=2) b_ b_;have f3:=bh h (i:=3) b_ b_
 match s,hl with
 |[a,b,c,d],_=>
  have f0:48<=a.toNat/\a.toNat<=57:=f0;have f1:48<=b.toNat/\b.toNat<=57:=f1;have f2:48<=c.toNat/\c.toNat<=57:=f2;have f3:48<=d.toNat/\d.toNat<=57:=f3;have e:aI 45 [a,b,c,d]=[a,b,c,d]:=by simp only[aI,List.filter,mi f0,mi f1,mi f2,mi f3]
  rw[e];refine⟨rfl,λj _ hj=> ?_,rfl,rfl,rfl⟩;rcases(show j=0\/j=1\/j=2\/j=3 by omega) with rfl|rfl|rfl|rfl
  ·exact f0
  ·exact f1
  ·exact f2
  ·exact f3
theorem Om {s:ω}(h:aP s=aX 3):(aI 45 s).length=6/\gq (aI 45 s) 0 6/\sH 3 (aI 45 s)=cH 3 s/\sI 3 (aI 45 s)=cI 3 s/\sS 3 (aI 45 s)=cS 3 s:=by
 have hl:s.length=6:=(eq h).1;have f0:=bh h (i:=0) b_ b_;have f1:=bh h (i:=1) b_ b_;have f2:=bh h (i:=2) b_ b_;have f3:=bh h (i:=3) b_ b_;have f4:=bh h (i:=4) b_ b_;have f5:=bh h (i:=5) b_ b_
 match s,hl with
 |[a,b,c,d,e,f],_=>
  have f0:48<=a.toNat/\a.toNat<=57:=f0;have f1:48<=b.toNat/\b.toNat<=57:=f1;have f2:48<=c.toNat/\c.toNat<=57:=f2;have f3:48<=d.toNat/\d.toNat<=57:=f3;have f4:48<=e.toNat/\e.toNat<=57:=f4;have f5:48<=f.toNat/\f.toNat<=57:=f5;have e:aI 45 [a,b,c,d,e,f]=[a,b,c,d,e,f]:=by simp only[aI,List.filter,mi f0,mi f1,mi f2,mi f3,mi f4,mi f5]
  rw[e];refine⟨rfl,λj _ hj=> ?_,rfl,rfl,rfl⟩;rcases(show j=0\/j=1\/j=2\/j=3\/j=4\/j=5 by omega) with rfl|rfl|rfl|rfl|rfl|rfl
  ·exact f0
  ·exact f1
  ·exact f2
  ·exact f3
  ·exact f4
  ·exact f5
theorem Ol {s:ω}(h:aP s=aX 4):(aI 45 s).length=2/\gq (aI 45 s) 0 2/\sH 4 (aI 45 s)=cH 4 s/\sI 4 (aI 45 s)=cI 4 s/\sS 4 (aI 45 s)=cS 4 s:=by
 have hl:s.length=3:=(eq h).1;have f0:=iF h (i:=0) b_ b_;have f1:=bh h (i:=1) b_ b_;have f2:=bh h (i:=2) b_ b_
 match s,hl with
 |[a,b,c],_=>
  have f0:a.toNat=45:=f0;have f1:48<=b.toNat/\b.toNat<=57:=f1;have f2:48<=c.toNat/\c.toNat<=57:=f2;have e:aI 45 [a,b,c]=[b,c]:=by simp only[aI,List.filter,NV f0,mi f1,mi f2]
  rw[e];refine⟨rfl,λj _ hj=> ?_,rfl,rfl,rfl⟩;rcases(show j=0\/j=1 by omega) with rfl|rfl
  ·exact f1
  ·exact f2
theorem Ok {s:ω}(h:aP s=aX 5):(aI 45 s).length=4/\gq (aI 45 s) 0 4/\sH 5 (aI 45 s)=cH 5 s/\sI 5 (aI 45 s)=cI 5 s/\sS 5 (aI 45 s)=cS 5 s:=by
 have hl:s.length=5:=(eq h).1;have f0:=iF h (i:=0) b_ b_;have f1:=bh h (i:=1) b_ b_;have f2:=bh h (i:=2) b_ b_;have f3:=bh h (i:=3) b_ b_;have f4:=bh h (i:=4) b_ b_
 match s,hl with
 |[a,b,c,d,e],_=>
  have f0:a.toNat=45:=f0;have f1:48<=b.toNat/\b.toNat<=57:=f1;have f2:48<=c.toNat/\c.toNat<=57:=f2;have f3:48<=d.toNat/\d.toNat<=57:=f3;have f4:48<=e.toNat/\e.toNat<=57:=f4;have e:aI 45 [a,b,c,d,e]=[b,c,d,e]:=by simp only[aI,List.filter,NV f0,mi f1,mi f2,mi f3,mi f4]
  rw[e];refine⟨rfl,λj _ hj=> ?_,rfl,rfl,rfl⟩;rcases(show j=0\/j=1\/j=2\/j=3 by omega) with rfl|rfl|rfl|rfl
  ·exact f1
  ·exact f2
  ·exact f3
  ·exact f4
theorem Oj {s:ω}(h:aP s=aX 6):(aI 45 s).length=2/\gq (aI 45 s) 0 2/\sH 6 (aI 45 s)=cH 6 s/\sI 6 (aI 45 s)=cI 6 s/\sS 6 (aI 45 s)=cS 6 s:=by
 have hl:s.length=4:=(eq h).1;have f0:=iF h (i:=0) b_ b_;have f1:=iF h (i:=1) b_ b_;have f2:=bh h (i:=2) b_ b_;have f3:=bh h (i:=3) b_ b_
 match s,hl with
 |[a,b,c,d],_=>
  have f0:a.toNat=45:=f0;have f1:b.toNat=45:=f1;have f2:48<=c.toNat/\c.toNat<=57:=f2;have f3:48<=d.toNat/\d.toNat<=57:=f3;have e:aI 45 [a,b,c,d]=[c,d]:=by simp only[aI,List.filter,NV f0,NV f1,mi f2,mi f3]
  rw[e];refine⟨rfl,λj _ hj=> ?_,rfl,rfl,rfl⟩;rcases(show j=0\/j=1 by omega) with rfl|rfl
  ·exact f2
  ·exact f3
theorem gK {s:ω}{i:Nat}(hi:i<=6)(h:aP s=aX i):(aI 45 s).length=cN i/\gq (aI 45 s) 0 (cN i)/\sH i (aI 45 s)=cH i s/\sI i (aI 45 s)=cI i s/\sS i (aI 45 s)=cS i s:=by
 rcases(show i=0\/i=1\/i=2\/i=3\/i=4\/i=5\/i=6 by omega) with rfl|rfl|rfl|rfl|rfl|rfl|rfl
 ·exact Oq h
 ·exact Oo h
 ·exact On h
 ·exact Om h
 ·exact Ol h
 ·exact Ok h
 ·exact Oj h
theorem Uc (u:Stm):pn u=if u.e=0 then(u,.none) else(Stm.no,.errno u.e):=rfl
theorem Vb {i j:Nat}(hi:i<=6)(hj:j<=6){d c z:ω}(hd:aP d=bT i)(hc:aP c=aX j):
  Vc i j (aI 45 d) (aI 45 c) z=if z≠[]/\(bN z).2≠0 then(Stm.no,(bN z).2) else((pn (Hm i d j c z)).1,(pn (Hm i d j c z)).2.e):=by
 obtain⟨-, -,e1,e2,e3⟩:=Ea hi hd;obtain⟨-, -,e4,e5,e6⟩:=gK hj hc;unfold Vc;rw[e1,e2,e3,e4,e5,e6];split
 ·rfl
 ·rw[Uc];have e:(⟨dY i d,dM i d,dD i d,cH j c,cI j c,cS j c,decide (z≠[]),if z=[] then 0 else(bN z).1⟩:Stm)=Hm i d j c z:=rfl;rw[e];by_cases h:(Hm i d j c z).e=0
  ·rw[if_pos h,if_pos h];rfl
  ·rw[if_neg h,if_neg h];rfl
theorem Ih {P u:ω}{n:Nat}(hn:n<P.length)(h:aa P n≠aa u n):P.isPrefixOf u=false:=by
 rw[Bool.eq_false_iff];intro hp;rw[List.isPrefixOf_iff_prefix] at hp;obtain⟨t,rfl⟩:=hp;apply h;unfold aa;simp only[f_];rw[H_ hn]
theorem xK {P u:ω}(hn:u.length<P.length):P.isPrefixOf u=false:=by
 rw[Bool.eq_false_iff];intro hp;rw[List.isPrefixOf_iff_prefix] at hp;have:=hp.length_le;omega
theorem fW {r:Int}:0<=aS [90,43,45] r↔(r=90\/r=43\/r=45):=by
 have:=uh (a:=90) (b:=43) (c:=45) r;rw[this];simp
end
section
theorem kK {d t:ω}{k j n:Nat}(hk:k<=6)(hd:aP d=bT k)(h:dh t j n):Vc k j (aI 45 d) (aI 45 (t.take n)) (t.drop n)=((mJ d true t).1,(mJ d true t).2.e):=by
 obtain⟨e1,e2⟩:=B7 h;have e3:=yV hk hd;have j1:=h.j1;rw[Vb hk h.j6 hd h.hs];have e:mJ d true t=if t.drop n≠[]/\(bN (t.drop n)).2≠0 then(Stm.no,.errno (bN (t.drop n)).2) else pn (Hm k d j (t.take n) (t.drop n)):=by
  unfold mJ;rw[e1,e2,e3,if_neg (show ¬k=7 by omega),if_neg b_,if_neg (show ¬j=0 by omega)]
 rw[e];split<;>rfl
theorem VR {d t:ω}{k:Nat}(hk:k<=6)(hd:aP d=bT k):Vc k 0 (aI 45 d) [] []=((mJ d false t).1,(mJ d false t).2.e):=by
 have e3:=yV hk hd;have:=Vb (z:=[]) hk (Nat.zero_le 6) hd (show aP []=aX 0 from rfl);rw[show aI 45 []=[] from rfl] at this;rw[this,U3 a_,e3,if_neg (by simp)]
def NO (t:ω)(m:Nat):Prop:=∀j,1<=j->j<=m->¬dh t j (aX j).length
theorem WK {t:ω}:NO t 0:=λj h1 h2=>by omega
theorem cx {t:ω}{m:Nat}(h:NO t m)(k:¬dh t (m+1) (aX (m+1)).length):NO t (m+1):=λj h1 h2=>by
 rcases aaj m j with g|g
 ·rw[show j=m+1 by omega];exact k
 ·exact h j h1 g
theorem PM {t:ω}(h:NO t 6):oN t=0:=Decidable.byContradiction λk=>by
 have g:=B6 k;have e:=g.len;exact h _ g.j1 g.j6 (by rw[<-e];exact g)
def Zs (d t:ω)(timed:Bool)(k:Nat):Prop:=k<=7/\((∀j,j<k->aP d≠bT j)\/(mJ d timed t=(Stm.no,.errno 3)/\∃j,j<k/\aP d=bT j))
theorem w7 {t:ω}{n:Nat}(hn:n<t.length)(h:aa t n=90\/aa t n=43\/aa t n=45):aa (aP t) n≠57:=by
 rw[jQ hn];unfold fV;rw[if_neg a_];omega
theorem YI:aa [57,57,57,57] 2=57:=by decide
theorem YH:aa [57,57,57,57,57,57] 4=57:=by decide
theorem YG:aa [45,57,57,57,57] 3=57:=by decide
abbrev DQ (b2 b9 b11 k n m:Nat)(d t:ω)(v:Bool):Env:=[(2,.own 0 (pW b2)),(4,.str d),(5,.str t),(6,.bool true),(26,.list 3 7 lg),(27,.int .i64 7),(28,.int .i64 (k:Nat)),(9,.own 1 (pW b9)),(11,.own 2 (pW b11)),(12,.int .i64 (n:Nat)),(47,.list 3 (7-1) (λi=>lg (1+i))),(48,.int .i64 6),(49,.int .i64 (m:Nat)),(68,.bool v)]
abbrev DP (b2 b9 b11 k m:Nat):Heap:=[ja b2 0 0 0 0 0 0 false 0,.cells b9 (some 221) [.str (kn k),.str (bT k),.str (aX k)],.cells b11 (some 221) [.str (kn m),.str (bT m),.str (aX m)]]
abbrev DO:DPlan:=.take 0 (.t 1 (.t 2 (.t 3 (.t 4 (.t 5 (.t 6 (.t 7 (.t 9 (.t 10 (.b 8 (.t 11 (.t 12 .done))))))))))))
abbrev NR:DPlan:=.take 0 (.t 1 (.t 2 (.t 3 (.t 4 (.t 6 (.t 7 (.t 8 (.t 10 (.b 5 (.b 9 (.b 11 (.t 12 (.t 13 (.b 14 (.t 15 .done)))))))))))))))
attribute [local irreducible] bJ au aa ax aR ab ad aP aI Vc mJ bN
theorem zG {G:Glo}{m:Int}(hGL:ab G shapesTy)(hM:ab G (bQ m))(s:ω)(hl:s.length<=10000):ai prog G 79 [.str s] (.tuple [(Ha s).1.A,.int .i64 (Ha s).2.e]):=by
 have k1:=aK (G:=G) s 84 b_ b_;have hn:=Lw (s:=s) (c:=84);have hlen:=GC s 84;have hSh:=λx h=>tJ (G:=G) x h
 have hcs:=call135
 have hA:=λx h=>strings_ReplaceAll (G:=G) hM x 45 h
 have hP:=λx y=>yD (G:=G) x y
 have hX:=λc h0 h1=>aK (G:=G) [90,43,45] c h0 h1
 unfold Ha
 refine I5 func79 call79 rfl rfl rfl rfl ?_
 intro C hC
 refine gr hC hGL (λb2:Nat=>[(0,.str s),(2,.own 0 (pW b2))]) (λb2=>[ja b2 0 0 0 0 0 0 false 0]) (λ_=>True) ?_ λb2 _=> ?_
 ·refine an ?_
  intro b2
  exact cy b2 trivial
 refine cut hC hGL [(0,.str s),(2,.own 0 (pW b2)),(4,.str s),(5,.str [])] [ja b2 0 0 0 0 0 0 false 0] True eK λ_=> ?_
 refine cut hC hGL [(0,.str s),(2,.own 0 (pW b2)),(4,.str s),(5,.str []),(6,.bool false)] [ja b2 0 0 0 0 0 0 false 0] True eK λ_=> ?_
 refine cut hC hGL [(2,.own 0 (pW b2)),(4,.str (fE s 84).1),(5,.str (fE s 84).2.1),(6,.bool (fE s 84).2.2)] [ja b2 0 0 0 0 0 0 false 0] True ?_ λ_=> ?_
 ·rcases lS s 84 with⟨h1,h2⟩|⟨m,h1,h2,h3,h4⟩
  ·have e:fE s 84=(s,[],false):=by unfold fE;rw[h1,if_pos b_]
   rw[h1] at k1
   rw[e]
   exact bq
  ·have e:fE s 84=(s.take m,s.drop (m+1),true):=by unfold fE;rw[h2,if_neg a_,B_]
   rw[h2] at k1
   rw[e]
   exact bq
 generalize (fE s 84).1=d at*
 generalize (fE s 84).2.1=t at*
 generalize (fE s 84).2.2=timed at*
 refine ar hC hGL (an ?_)
 intros
 refine lp hC hGL (λk:Nat=>[(2,.own 0 (pW b2)),(4,.str d),(5,.str t),(6,.bool timed),(26,.list 3 7 lg),(27,.int .i64 7),(28,.int .i64 (k:Nat))]) (λ_=>[ja b2 0 0 0 0 0 0 false 0]) (Zs d t timed) (λk=>7-k) 0 ⟨b_,.inl λj h=>absurd h (Uf _)⟩ ae rfl ?_
 rintro k ⟨hk7,hI⟩
 by_cases hk:¬k<7
 ·have hr:mJ d timed t=(Stm.no,.errno 3):=by
   rcases hI with h|⟨h,_⟩
   ·exact U5 (Jn λj hj=>h j a_)
   ·exact h
  rw[hr]
  exact eK
 have hk:k<7:=Decidable.not_not.1 hk
 have hsh:=hSh d a_
 refine an ?_
 intro b9
 intros
 refine cD mixed hC hGL true (λ_ _=>False) (λ_:Unit=>[(2,.own 0 (pW b2)),(4,.str d),(5,.str t),(6,.bool timed),(26,.list 3 7 lg),(27,.int .i64 7),(28,.int .i64 (k:Nat)),(9,.own 1 (pW b9)),(36,.bool (!aW (aP d) (bT k)))]) (λ_=>[ja b2 0 0 0 0 0 0 false 0,.cells b9 (some 221) [.str (kn k),.str (bT k),.str (aX k)]]) (.t 0 (.t 2 (.t 3 (.b 1 (.t 4 .done))))) be xu ?_ (λ_ _ h=>h.elim)
 intro _
 by_cases he:¬aP d=bT k
 ·refine an ?_
  intros
  refine fG (k+1) ⟨a_,?_⟩ a_ ae aA
  rcases hI with h|⟨h,j,hj,h2⟩
  ·exact .inl (dj h he)
  ·exact .inr ⟨h,j,a_,h2⟩
 have he:aP d=bT k:=Decidable.not_not.1 he
 have hJ:∀j,j<k->aP d≠bT j:=by
  rcases hI with h|⟨h,j,hj,h2⟩
  ·exact h
  ·exact absurd (Gy a_ a_ (h2.symm.trans he)) a_
 obtain⟨u1,u2, -⟩:=Ea a_ he
 have hra:=hA d a_
 cases timed with
 |false=>
  have hst:=cF (G:=G) hM hGL k 0 a_ b_ (aI 45 d) [] [] u1 u2 rfl (λj _ h=>absurd h (Uf _)) (by simp)
  rw[VR (t:=t) a_ he] at hst
  generalize mJ d false t=W at*
  obtain⟨w,ew⟩:=W
  dsimp only at hst ⊢
  refine an ?_
  intros
  refine dC (az (i:=1) (k:=9) rfl rfl) ?_
  refine cD mixed hC hGL false (λ_ _=>False) (λ_:Unit=>[(2,.own 0 (pW b2)),(3,.int .i64 ew.e)]) (λ_=>[ja b2 w.y w.m w.d w.h w.i w.s w.z w.o]) (.t 0 (.t 1 (.t 2 (.b 3 (.b 4 (.t 5 (.t 6 (.b 7 (.t 8 .done))))))))) be xu ?_ (λ_ _ h=>h.elim)
  ·intro _
   exact eK
 |true=>
  have hcont:NO t 6->Zs d t true (k+1):=λh=>⟨a_,.inr ⟨N6 (by rw[yV a_ he];omega) (PM h),k,a_,he⟩⟩
  refine an ?_
  intros
  refine lp hC hGL (λj:Nat=>[(2,.own 0 (pW b2)),(4,.str d),(5,.str t),(6,.bool true),(26,.list 3 7 lg),(27,.int .i64 7),(28,.int .i64 (k:Nat)),(9,.own 1 (pW b9)),(47,.list 3 (7-1) (λi=>lg (1+i))),(48,.int .i64 6),(49,.int .i64 (j:Nat))]) (λ_=>[ja b2 0 0 0 0 0 0 false 0,.cells b9 (some 221) [.str (kn k),.str (bT k),.str (aX k)]]) (λj=>j<=6/\NO t j) (λj=>6-j) 0 ⟨b_,WK⟩ ae rfl ?_
  rintro j ⟨hj6,hno⟩
  rcases(show j=0\/j=1\/j=2\/j=3\/j=4\/j=5\/j=6 by omega) with rfl|rfl|rfl|rfl|rfl|rfl|rfl
  ·as_aux_lemma=>
    have hcl:(aX 1).length=2:=rfl
    have hcl2:(aX (1+0)).length=2:=rfl
    refine an ?_
    intro b11
    intros
    by_cases h1:t.length<2
    ·have hns:¬dh t 1 (aX 1).length:=λh=>by have:=h.hn;omega
     refine cD mixed hC hGL true (λ_ _=>False) (λ_:Unit=>DQ b2 b9 b11 k 2 0 d t true) (λ_=>DP b2 b9 b11 k 1) DO be xu ?_ (λ_ _ h=>h.elim)
     intro _
     refine an ?_
     intros
     exact fG 1 ⟨b_,cx hno hns⟩ b_ ae aA
    have hs2:=hSh (t.take 2) (by rw[i_];omega)
    by_cases h2:¬aP (t.take 2)=aX 1
    ·have hns:¬dh t 1 (aX 1).length:=λh=>h2 h.hs
     refine cD mixed hC hGL true (λ_ _=>False) (λ_:Unit=>DQ b2 b9 b11 k 2 0 d t (!aW (aP (t.take 2)) (aX 1))) (λ_=>DP b2 b9 b11 k 1) DO be xu ?_ (λ_ _ h=>h.elim)
     intro _
     refine an ?_
     intros
     exact fG 1 ⟨b_,cx hno hns⟩ b_ ae aA
    have h2:aP (t.take 2)=aX 1:=Decidable.not_not.1 h2
    refine cD mixed hC hGL true (λ_ _=>False) (λ_:Unit=>DQ b2 b9 b11 k 2 0 d t (!aW (aP (t.take 2)) (aX 1))) (λ_=>DP b2 b9 b11 k 1) DO be xu ?_ (λ_ _ h=>h.elim)
    intro _
    have hs3:=hSh t a_
    have hp3:=hP (aP t) [57,57,57,57]
    have hls:=rQ t
    by_cases h3:t.length=2
    ·have hsp:dh t 1 2:=⟨b_,b_,a_,h2,.inl h3.symm⟩
     have hd0:(t.drop 2).length=0:=by rw[k_];omega
     rw[xK (by rw[hls,h3];decide)] at hp3
     have hra2:=hA (t.take 2) (by rw[i_];omega)
     obtain⟨v1,v2, -⟩:=gK (i:=1) b_ h2
     have hst:=cF (G:=G) hM hGL k 1 a_ b_ (aI 45 d) (aI 45 (t.take 2)) (t.drop 2) u1 u2 v1 v2 (by rw[k_];omega)
     rw[kK a_ he hsp] at hst
     generalize mJ d true t=W at*
     obtain⟨w,ew⟩:=W
     dsimp only at hst ⊢
     refine an ?_
     intros
     refine dC (ak (az (i:=2) (k:=11) rfl rfl) (az (i:=1) (k:=9) rfl rfl)) ?_
     refine cD mixed hC hGL false (λ_ _=>False) (λ_:Unit=>[(2,.own 0 (pW b2)),(3,.int .i64 ew.e)]) (λ_=>[ja b2 w.y w.m w.d w.h w.i w.s w.z w.o]) NR be xu ?_ (λ_ _ h=>h.elim)
     ·intro _
      exact eK
    have hdn:(t.drop 2).length≠0:=by rw[k_];omega
    have hbz:aa (t.drop 2) 0=aa t 2:=by rw[cW]
    have hb9:=bB (t.drop 2) 0
    have hx:=hX (aa (t.drop 2) 0:Int) a_ a_
    by_cases h4:aa t 2=90\/aa t 2=43\/aa t 2=45
    ·have hsp:dh t 1 2:=⟨b_,b_,a_,h2,.inr h4⟩
     have hix:0<=aS [90,43,45] (aa (t.drop 2) 0:Int):=fW.2 a_
     rw[Ih (n:=2) b_ (λe=>w7 (t:=t) (n:=2) a_ h4 (e.symm.trans YI))] at hp3
     generalize aS [90,43,45] (aa (t.drop 2) 0:Int)=ix at*
     have hra2:=hA (t.take 2) (by rw[i_];omega)
     obtain⟨v1,v2, -⟩:=gK (i:=1) b_ h2
     have hst:=cF (G:=G) hM hGL k 1 a_ b_ (aI 45 d) (aI 45 (t.take 2)) (t.drop 2) u1 u2 v1 v2 (by rw[k_];omega)
     rw[kK a_ he hsp] at hst
     generalize mJ d true t=W at*
     obtain⟨w,ew⟩:=W
     dsimp only at hst ⊢
     refine an ?_
     intros
     refine dC (ak (az (i:=2) (k:=11) rfl rfl) (az (i:=1) (k:=9) rfl rfl)) ?_
     refine cD mixed hC hGL false (λ_ _=>False) (λ_:Unit=>[(2,.own 0 (pW b2)),(3,.int .i64 ew.e)]) (λ_=>[ja b2 w.y w.m w.d w.h w.i w.s w.z w.o]) NR be xu ?_ (λ_ _ h=>h.elim)
     ·intro _
      exact eK
    ·have hns:¬dh t 1 (aX 1).length:=λh=>by have:=h.hz;rw[hcl] at this;omega
     have hix:¬0<=aS [90,43,45] (aa (t.drop 2) 0:Int):=λh=>by have:=fW.1 h;omega
     generalize aS [90,43,45] (aa (t.drop 2) 0:Int)=ix at*
     refine an ?_
     intros
     exact fG 1 ⟨b_,cx hno hns⟩ b_ ae aA
  ·as_aux_lemma=>
    have hcl:(aX 2).length=4:=rfl
    have hcl2:(aX (1+1)).length=4:=rfl
    refine an ?_
    intro b11
    intros
    by_cases h1:t.length<4
    ·have hns:¬dh t 2 (aX 2).length:=λh=>by have:=h.hn;omega
     refine cD mixed hC hGL true (λ_ _=>False) (λ_:Unit=>DQ b2 b9 b11 k 4 1 d t true) (λ_=>DP b2 b9 b11 k 2) DO be xu ?_ (λ_ _ h=>h.elim)
     intro _
     refine an ?_
     intros
     exact fG 2 ⟨b_,cx hno hns⟩ b_ ae aA
    have hs2:=hSh (t.take 4) (by rw[i_];omega)
    by_cases h2:¬aP (t.take 4)=aX 2
    ·have hns:¬dh t 2 (aX 2).length:=λh=>h2 h.hs
     refine cD mixed hC hGL true (λ_ _=>False) (λ_:Unit=>DQ b2 b9 b11 k 4 1 d t (!aW (aP (t.take 4)) (aX 2))) (λ_=>DP b2 b9 b11 k 2) DO be xu ?_ (λ_ _ h=>h.elim)
     intro _
     refine an ?_
     intros
     exact fG 2 ⟨b_,cx hno hns⟩ b_ ae aA
    have h2:aP (t.take 4)=aX 2:=Decidable.not_not.1 h2
    refine cD mixed hC hGL true (λ_ _=>False) (λ_:Unit=>DQ b2 b9 b11 k 4 1 d t (!aW (aP (t.take 4)) (aX 2))) (λ_=>DP b2 b9 b11 k 2) DO be xu ?_ (λ_ _ h=>h.elim)
    intro _
    have hs3:=hSh t a_
    have hp3:=hP (aP t) [57,57,57,57,57,57]
    have hls:=rQ t
    by_cases h3:t.length=4
    ·have hsp:dh t 2 4:=⟨b_,b_,a_,h2,.inl h3.symm⟩
     have hd0:(t.drop 4).length=0:=by rw[k_];omega
     rw[xK (by rw[hls,h3];decide)] at hp3
     have hra2:=hA (t.take 4) (by rw[i_];omega)
     obtain⟨v1,v2, -⟩:=gK (i:=2) b_ h2
     have hst:=cF (G:=G) hM hGL k 2 a_ b_ (aI 45 d) (aI 45 (t.take 4)) (t.drop 4) u1 u2 v1 v2 (by rw[k_];omega)
     rw[kK a_ he hsp] at hst
     generalize mJ d true t=W at*
     obtain⟨w,ew⟩:=W
     dsimp only at hst ⊢
     refine an ?_
     intros
     refine dC (ak (az (i:=2) (k:=11) rfl rfl) (az (i:=1) (k:=9) rfl rfl)) ?_
     refine cD mixed hC hGL false (λ_ _=>False) (λ_:Unit=>[(2,.own 0 (pW b2)),(3,.int .i64 ew.e)]) (λ_=>[ja b2 w.y w.m w.d w.h w.i w.s w.z w.o]) NR be xu ?_ (λ_ _ h=>h.elim)
     ·intro _
      exact eK
    have hdn:(t.drop 4).length≠0:=by rw[k_];omega
    have hbz:aa (t.drop 4) 0=aa t 4:=by rw[cW]
    have hb9:=bB (t.drop 4) 0
    have hx:=hX (aa (t.drop 4) 0:Int) a_ a_
    by_cases h4:aa t 4=90\/aa t 4=43\/aa t 4=45
    ·have hsp:dh t 2 4:=⟨b_,b_,a_,h2,.inr h4⟩
     have hix:0<=aS [90,43,45] (aa (t.drop 4) 0:Int):=fW.2 a_
     rw[Ih (n:=4) b_ (λe=>w7 (t:=t) (n:=4) a_ h4 (e.symm.trans YH))] at hp3
     generalize aS [90,43,45] (aa (t.drop 4) 0:Int)=ix at*
     have hra2:=hA (t.take 4) (by rw[i_];omega)
     obtain⟨v1,v2, -⟩:=gK (i:=2) b_ h2
     have hst:=cF (G:=G) hM hGL k 2 a_ b_ (aI 45 d) (aI 45 (t.take 4)) (t.drop 4) u1 u2 v1 v2 (by rw[k_];omega)
     rw[kK a_ he hsp] at hst
     generalize mJ d true t=W at*
     obtain⟨w,ew⟩:=W
     dsimp only at hst ⊢
     refine an ?_
     intros
     refine dC (ak (az (i:=2) (k:=11) rfl rfl) (az (i:=1) (k:=9) rfl rfl)) ?_
     refine cD mixed hC hGL false (λ_ _=>False) (λ_:Unit=>[(2,.own 0 (pW b2)),(3,.int .i64 ew.e)]) (λ_=>[ja b2 w.y w.m w.d w.h w.i w.s w.z w.o]) NR be xu ?_ (λ_ _ h=>h.elim)
     ·intro _
      exact eK
    ·have hns:¬dh t 2 (aX 2).length:=λh=>by have:=h.hz;rw[hcl] at this;omega
     have hix:¬0<=aS [90,43,45] (aa (t.drop 4) 0:Int):=λh=>by have:=fW.1 h;omega
     generalize aS [90,43,45] (aa (t.drop 4) 0:Int)=ix at*
     refine an ?_
     intros
     exact fG 2 ⟨b_,cx hno hns⟩ b_ ae aA
  ·as_aux_lemma=>
    have hcl:(aX 3).length=6:=rfl
    have hcl2:(aX (1+2)).length=6:=rfl
    refine an ?_
    intro b11
    intros
    by_cases h1:t.length<6
    ·have hns:¬dh t 3 (aX 3).length:=λh=>by have:=h.hn;omega
     refine cD mixed hC hGL true (λ_ _=>False) (λ_:Unit=>DQ b2 b9 b11 k 6 2 d t true) (λ_=>DP b2 b9 b11 k 3) DO be xu ?_ (λ_ _ h=>h.elim)
     intro _
     refine an ?_
     intros
     exact fG 3 ⟨b_,cx hno hns⟩ b_ ae aA
    have hs2:=hSh (t.take 6) (by rw[i_];omega)
    by_cases h2:¬aP (t.take 6)=aX 3
    ·have hns:¬dh t 3 (aX 3).length:=λh=>h2 h.hs
     refine cD mixed hC hGL true (λ_ _=>False) (λ_:Unit=>DQ b2 b9 b11 k 6 2 d t (!aW (aP (t.take 6)) (aX 3))) (λ_=>DP b2 b9 b11 k 3) DO be xu ?_ (λ_ _ h=>h.elim)
     intro _
     refine an ?_
     intros
     exact fG 3 ⟨b_,cx hno hns⟩ b_ ae aA
    have h2:aP (t.take 6)=aX 3:=Decidable.not_not.1 h2
    refine cD mixed hC hGL true (λ_ _=>False) (λ_:Unit=>DQ b2 b9 b11 k 6 2 d t (!aW (aP (t.take 6)) (aX 3))) (λ_=>DP b2 b9 b11 k 3) DO be xu ?_ (λ_ _ h=>h.elim)
    intro _
    by_cases h3:t.length=6
    ·have hsp:dh t 3 6:=⟨b_,b_,a_,h2,.inl h3.symm⟩
     have hd0:(t.drop 6).length=0:=by rw[k_];omega
     have hra2:=hA (t.take 6) (by rw[i_];omega)
     obtain⟨v1,v2, -⟩:=gK (i:=3) b_ h2
     have hst:=cF (G:=G) hM hGL k 3 a_ b_ (aI 45 d) (aI 45 (t.take 6)) (t.drop 6) u1 u2 v1 v2 (by rw[k_];omega)
     rw[kK a_ he hsp] at hst
     generalize mJ d true t=W at*
     obtain⟨w,ew⟩:=W
     dsimp only at hst ⊢
     refine an ?_
     intros
     refine dC (ak (az (i:=2) (k:=11) rfl rfl) (az (i:=1) (k:=9) rfl rfl)) ?_
     refine cD mixed hC hGL false (λ_ _=>False) (λ_:Unit=>[(2,.own 0 (pW b2)),(3,.int .i64 ew.e)]) (λ_=>[ja b2 w.y w.m w.d w.h w.i w.s w.z w.o]) NR be xu ?_ (λ_ _ h=>h.elim)
     ·intro _
      exact eK
    have hdn:(t.drop 6).length≠0:=by rw[k_];omega
    have hbz:aa (t.drop 6) 0=aa t 6:=by rw[cW]
    have hb9:=bB (t.drop 6) 0
    have hx:=hX (aa (t.drop 6) 0:Int) a_ a_
    by_cases h4:aa t 6=90\/aa t 6=43\/aa t 6=45
    ·have hsp:dh t 3 6:=⟨b_,b_,a_,h2,.inr h4⟩
     have hix:0<=aS [90,43,45] (aa (t.drop 6) 0:Int):=fW.2 a_
     generalize aS [90,43,45] (aa (t.drop 6) 0:Int)=ix at*
     have hra2:=hA (t.take 6) (by rw[i_];omega)
     obtain⟨v1,v2, -⟩:=gK (i:=3) b_ h2
     have hst:=cF (G:=G) hM hGL k 3 a_ b_ (aI 45 d) (aI 45 (t.take 6)) (t.drop 6) u1 u2 v1 v2 (by rw[k_];omega)
     rw[kK a_ he hsp] at hst
     generalize mJ d true t=W at*
     obtain⟨w,ew⟩:=W
     dsimp only at hst ⊢
     refine an ?_
     intros
     refine dC (ak (az (i:=2) (k:=11) rfl rfl) (az (i:=1) (k:=9) rfl rfl)) ?_
     refine cD mixed hC hGL false (λ_ _=>False) (λ_:Unit=>[(2,.own 0 (pW b2)),(3,.int .i64 ew.e)]) (λ_=>[ja b2 w.y w.m w.d w.h w.i w.s w.z w.o]) NR be xu ?_ (λ_ _ h=>h.elim)
     ·intro _
      exact eK
    ·have hns:¬dh t 3 (aX 3).length:=λh=>by have:=h.hz;rw[hcl] at this;omega
     have hix:¬0<=aS [90,43,45] (aa (t.drop 6) 0:Int):=λh=>by have:=fW.1 h;omega
     generalize aS [90,43,45] (aa (t.drop 6) 0:Int)=ix at*
     refine an ?_
     intros
     exact fG 3 ⟨b_,cx hno hns⟩ b_ ae aA
  ·as_aux_lemma=>
    have hcl:(aX 4).length=3:=rfl
    have hcl2:(aX (1+3)).length=3:=rfl
    refine an ?_
    intro b11
    intros
    by_cases h1:t.length<3
    ·have hns:¬dh t 4 (aX 4).length:=λh=>by have:=h.hn;omega
     refine cD mixed hC hGL true (λ_ _=>False) (λ_:Unit=>DQ b2 b9 b11 k 3 3 d t true) (λ_=>DP b2 b9 b11 k 4) DO be xu ?_ (λ_ _ h=>h.elim)
     intro _
     refine an ?_
     intros
     exact fG 4 ⟨b_,cx hno hns⟩ b_ ae aA
    have hs2:=hSh (t.take 3) (by rw[i_];omega)
    by_cases h2:¬aP (t.take 3)=aX 4
    ·have hns:¬dh t 4 (aX 4).length:=λh=>h2 h.hs
     refine cD mixed hC hGL true (λ_ _=>False) (λ_:Unit=>DQ b2 b9 b11 k 3 3 d t (!aW (aP (t.take 3)) (aX 4))) (λ_=>DP b2 b9 b11 k 4) DO be xu ?_ (λ_ _ h=>h.elim)
     intro _
     refine an ?_
     intros
     exact fG 4 ⟨b_,cx hno hns⟩ b_ ae aA
    have h2:aP (t.take 3)=aX 4:=Decidable.not_not.1 h2
    refine cD mixed hC hGL true (λ_ _=>False) (λ_:Unit=>DQ b2 b9 b11 k 3 3 d t (!aW (aP (t.take 3)) (aX 4))) (λ_=>DP b2 b9 b11 k 4) DO be xu ?_ (λ_ _ h=>h.elim)
    intro _
    have hs3:=hSh t a_
    have hp3:=hP (aP t) [45,57,57,57,57]
    have hls:=rQ t
    by_cases h3:t.length=3
    ·have hsp:dh t 4 3:=⟨b_,b_,a_,h2,.inl h3.symm⟩
     have hd0:(t.drop 3).length=0:=by rw[k_];omega
     rw[xK (by rw[hls,h3];decide)] at hp3
     have hra2:=hA (t.take 3) (by rw[i_];omega)
     obtain⟨v1,v2, -⟩:=gK (i:=4) b_ h2
     have hst:=cF (G:=G) hM hGL k 4 a_ b_ (aI 45 d) (aI 45 (t.take 3)) (t.drop 3) u1 u2 v1 v2 (by rw[k_];omega)
     rw[kK a_ he hsp] at hst
     generalize mJ d true t=W at*
     obtain⟨w,ew⟩:=W
     dsimp only at hst ⊢
     refine an ?_
     intros
     refine dC (ak (az (i:=2) (k:=11) rfl rfl) (az (i:=1) (k:=9) rfl rfl)) ?_
     refine cD mixed hC hGL false (λ_ _=>False) (λ_:Unit=>[(2,.own 0 (pW b2)),(3,.int .i64 ew.e)]) (λ_=>[ja b2 w.y w.m w.d w.h w.i w.s w.z w.o]) NR be xu ?_ (λ_ _ h=>h.elim)
     ·intro _
      exact eK
    have hdn:(t.drop 3).length≠0:=by rw[k_];omega
    have hbz:aa (t.drop 3) 0=aa t 3:=by rw[cW]
    have hb9:=bB (t.drop 3) 0
    have hx:=hX (aa (t.drop 3) 0:Int) a_ a_
    by_cases h4:aa t 3=90\/aa t 3=43\/aa t 3=45
    ·have hsp:dh t 4 3:=⟨b_,b_,a_,h2,.inr h4⟩
     have hix:0<=aS [90,43,45] (aa (t.drop 3) 0:Int):=fW.2 a_
     rw[Ih (n:=3) b_ (λe=>w7 (t:=t) (n:=3) a_ h4 (e.symm.trans YG))] at hp3
     generalize aS [90,43,45] (aa (t.drop 3) 0:Int)=ix at*
     have hra2:=hA (t.take 3) (by rw[i_];omega)
     obtain⟨v1,v2, -⟩:=gK (i:=4) b_ h2
     have hst:=cF (G:=G) hM hGL k 4 a_ b_ (aI 45 d) (aI 45 (t.take 3)) (t.drop 3) u1 u2 v1 v2 (by rw[k_];omega)
     rw[kK a_ he hsp] at hst
     generalize mJ d true t=W at*
     obtain⟨w,ew⟩:=W
     dsimp only at hst ⊢
     refine an ?_
     intros
     refine dC (ak (az (i:=2) (k:=11) rfl rfl) (az (i:=1) (k:=9) rfl rfl)) ?_
     refine cD mixed hC hGL false (λ_ _=>False) (λ_:Unit=>[(2,.own 0 (pW b2)),(3,.int .i64 ew.e)]) (λ_=>[ja b2 w.y w.m w.d w.h w.i w.s w.z w.o]) NR be xu ?_ (λ_ _ h=>h.elim)
     ·intro _
      exact eK
    ·have hns:¬dh t 4 (aX 4).length:=λh=>by have:=h.hz;rw[hcl] at this;omega
     have hix:¬0<=aS [90,43,45] (aa (t.drop 3) 0:Int):=λh=>by have:=fW.1 h;omega
     generalize aS [90,43,45] (aa (t.drop 3) 0:Int)=ix at*
     refine an ?_
     intros
     exact fG 4 ⟨b_,cx hno hns⟩ b_ ae aA
  ·as_aux_lemma=>
    have hcl:(aX 5).length=5:=rfl
    have hcl2:(aX (1+4)).length=5:=rfl
    refine an ?_
    intro b11
    intros
    by_cases h1:t.length<5
    ·have hns:¬dh t 5 (aX 5).length:=λh=>by have:=h.hn;omega
     refine cD mixed hC hGL true (λ_ _=>False) (λ_:Unit=>DQ b2 b9 b11 k 5 4 d t true) (λ_=>DP b2 b9 b11 k 5) DO be xu ?_ (λ_ _ h=>h.elim)
     intro _
     refine an ?_
     intros
     exact fG 5 ⟨b_,cx hno hns⟩ b_ ae aA
    have hs2:=hSh (t.take 5) (by rw[i_];omega)
    by_cases h2:¬aP (t.take 5)=aX 5
    ·have hns:¬dh t 5 (aX 5).length:=λh=>h2 h.hs
     refine cD mixed hC hGL true (λ_ _=>False) (λ_:Unit=>DQ b2 b9 b11 k 5 4 d t (!aW (aP (t.take 5)) (aX 5))) (λ_=>DP b2 b9 b11 k 5) DO be xu ?_ (λ_ _ h=>h.elim)
     intro _
     refine an ?_
     intros
     exact fG 5 ⟨b_,cx hno hns⟩ b_ ae aA
    have h2:aP (t.take 5)=aX 5:=Decidable.not_not.1 h2
    refine cD mixed hC hGL true (λ_ _=>False) (λ_:Unit=>DQ b2 b9 b11 k 5 4 d t (!aW (aP (t.take 5)) (aX 5))) (λ_=>DP b2 b9 b11 k 5) DO be xu ?_ (λ_ _ h=>h.elim)
    intro _
    by_cases h3:t.length=5
    ·have hsp:dh t 5 5:=⟨b_,b_,a_,h2,.inl h3.symm⟩
     have hd0:(t.drop 5).length=0:=by rw[k_];omega
     have hra2:=hA (t.take 5) (by rw[i_];omega)
     obtain⟨v1,v2, -⟩:=gK (i:=5) b_ h2
     have hst:=cF (G:=G) hM hGL k 5 a_ b_ (aI 45 d) (aI 45 (t.take 5)) (t.drop 5) u1 u2 v1 v2 (by rw[k_];omega)
     rw[kK a_ he hsp] at hst
     generalize mJ d true t=W at*
     obtain⟨w,ew⟩:=W
     dsimp only at hst ⊢
     refine an ?_
     intros
     refine dC (ak (az (i:=2) (k:=11) rfl rfl) (az (i:=1) (k:=9) rfl rfl)) ?_
     refine cD mixed hC hGL false (λ_ _=>False) (λ_:Unit=>[(2,.own 0 (pW b2)),(3,.int .i64 ew.e)]) (λ_=>[ja b2 w.y w.m w.d w.h w.i w.s w.z w.o]) NR be xu ?_ (λ_ _ h=>h.elim)
     ·intro _
      exact eK
    have hdn:(t.drop 5).length≠0:=by rw[k_];omega
    have hbz:aa (t.drop 5) 0=aa t 5:=by rw[cW]
    have hb9:=bB (t.drop 5) 0
    have hx:=hX (aa (t.drop 5) 0:Int) a_ a_
    by_cases h4:aa t 5=90\/aa t 5=43\/aa t 5=45
    ·have hsp:dh t 5 5:=⟨b_,b_,a_,h2,.inr h4⟩
     have hix:0<=aS [90,43,45] (aa (t.drop 5) 0:Int):=fW.2 a_
     generalize aS [90,43,45] (aa (t.drop 5) 0:Int)=ix at*
     have hra2:=hA (t.take 5) (by rw[i_];omega)
     obtain⟨v1,v2, -⟩:=gK (i:=5) b_ h2
     have hst:=cF (G:=G) hM hGL k 5 a_ b_ (aI 45 d) (aI 45 (t.take 5)) (t.drop 5) u1 u2 v1 v2 (by rw[k_];omega)
     rw[kK a_ he hsp] at hst
     generalize mJ d true t=W at*
     obtain⟨w,ew⟩:=W
     dsimp only at hst ⊢
     refine an ?_
     intros
     refine dC (ak (az (i:=2) (k:=11) rfl rfl) (az (i:=1) (k:=9) rfl rfl)) ?_
     refine cD mixed hC hGL false (λ_ _=>False) (λ_:Unit=>[(2,.own 0 (pW b2)),(3,.int .i64 ew.e)]) (λ_=>[ja b2 w.y w.m w.d w.h w.i w.s w.z w.o]) NR be xu ?_ (λ_ _ h=>h.elim)
     ·intro _
      exact eK
    ·have hns:¬dh t 5 (aX 5).length:=λh=>by have:=h.hz;rw[hcl] at this;omega
     have hix:¬0<=aS [90,43,45] (aa (t.drop 5) 0:Int):=λh=>by have:=fW.1 h;omega
     generalize aS [90,43,45] (aa (t.drop 5) 0:Int)=ix at*
     refine an ?_
     intros
     exact fG 5 ⟨b_,cx hno hns⟩ b_ ae aA
  ·as_aux_lemma=>
    have hcl:(aX 6).length=4:=rfl
    have hcl2:(aX (1+5)).length=4:=rfl
    refine an ?_
    intro b11
    intros
    by_cases h1:t.length<4
    ·have hns:¬dh t 6 (aX 6).length:=λh=>by have:=h.hn;omega
     refine cD mixed hC hGL true (λ_ _=>False) (λ_:Unit=>DQ b2 b9 b11 k 4 5 d t true) (λ_=>DP b2 b9 b11 k 6) DO be xu ?_ (λ_ _ h=>h.elim)
     intro _
     refine an ?_
     intros
     exact fG 6 ⟨b_,cx hno hns⟩ b_ ae aA
    have hs2:=hSh (t.take 4) (by rw[i_];omega)
    by_cases h2:¬aP (t.take 4)=aX 6
    ·have hns:¬dh t 6 (aX 6).length:=λh=>h2 h.hs
     refine cD mixed hC hGL true (λ_ _=>False) (λ_:Unit=>DQ b2 b9 b11 k 4 5 d t (!aW (aP (t.take 4)) (aX 6))) (λ_=>DP b2 b9 b11 k 6) DO be xu ?_ (λ_ _ h=>h.elim)
     intro _
     refine an ?_
     intros
     exact fG 6 ⟨b_,cx hno hns⟩ b_ ae aA
    have h2:aP (t.take 4)=aX 6:=Decidable.not_not.1 h2
    refine cD mixed hC hGL true (λ_ _=>False) (λ_:Unit=>DQ b2 b9 b11 k 4 5 d t (!aW (aP (t.take 4)) (aX 6))) (λ_=>DP b2 b9 b11 k 6) DO be xu ?_ (λ_ _ h=>h.elim)
    intro _
    by_cases h3:t.length=4
    ·have hsp:dh t 6 4:=⟨b_,b_,a_,h2,.inl h3.symm⟩
     have hd0:(t.drop 4).length=0:=by rw[k_];omega
     have hra2:=hA (t.take 4) (by rw[i_];omega)
     obtain⟨v1,v2, -⟩:=gK (i:=6) b_ h2
     have hst:=cF (G:=G) hM hGL k 6 a_ b_ (aI 45 d) (aI 45 (t.take 4)) (t.drop 4) u1 u2 v1 v2 (by rw[k_];omega)
     rw[kK a_ he hsp] at hst
     generalize mJ d true t=W at*
     obtain⟨w,ew⟩:=W
     dsimp only at hst ⊢
     refine an ?_
     intros
     refine dC (ak (az (i:=2) (k:=11) rfl rfl) (az (i:=1) (k:=9) rfl rfl)) ?_
     refine cD mixed hC hGL false (λ_ _=>False) (λ_:Unit=>[(2,.own 0 (pW b2)),(3,.int .i64 ew.e)]) (λ_=>[ja b2 w.y w.m w.d w.h w.i w.s w.z w.o]) NR be xu ?_ (λ_ _ h=>h.elim)
     ·intro _
      exact eK
    have hdn:(t.drop 4).length≠0:=by rw[k_];omega
    have hbz:aa (t.drop 4) 0=aa t 4:=by rw[cW]
    have hb9:=bB (t.drop 4) 0
    have hx:=hX (aa (t.drop 4) 0:Int) a_ a_
    by_cases h4:aa t 4=90\/aa t 4=43\/aa t 4=45
    ·have hsp:dh t 6 4:=⟨b_,b_,a_,h2,.inr h4⟩
     have hix:0<=aS [90,43,45] (aa (t.drop 4) 0:Int):=fW.2 a_
     generalize aS [90,43,45] (aa (t.drop 4) 0:Int)=ix at*
     have hra2:=hA (t.take 4) (by rw[i_];omega)
     obtain⟨v1,v2, -⟩:=gK (i:=6) b_ h2
     have hst:=cF (G:=G) hM hGL k 6 a_ b_ (aI 45 d) (aI 45 (t.take 4)) (t.drop 4) u1 u2 v1 v2 (by rw[k_];omega)
     rw[kK a_ he hsp] at hst
     generalize mJ d true t=W at*
     obtain⟨w,ew⟩:=W
     dsimp only at hst ⊢
     refine an ?_
     intros
     refine dC (ak (az (i:=2) (k:=11) rfl rfl) (az (i:=1) (k:=9) rfl rfl)) ?_
     refine cD mixed hC hGL false (λ_ _=>False) (λ_:Unit=>[(2,.own 0 (pW b2)),(3,.int .i64 ew.e)]) (λ_=>[ja b2 w.y w.m w.d w.h w.i w.s w.z w.o]) NR be xu ?_ (λ_ _ h=>h.elim)
     ·intro _
      exact eK
    ·have hns:¬dh t 6 (aX 6).length:=λh=>by have:=h.hz;rw[hcl] at this;omega
     have hix:¬0<=aS [90,43,45] (aa (t.drop 4) 0:Int):=λh=>by have:=fW.1 h;omega
     generalize aS [90,43,45] (aa (t.drop 4) 0:Int)=ix at*
     refine an ?_
     intros
     exact fG 6 ⟨b_,cx hno hns⟩ b_ ae aA
  ·as_aux_lemma=>
    refine an ?_
    intros
    exact fG (k+1) (hcont hno) a_ ae aA
end
section
theorem sL:∀(n:Nat) (s:ω) (i:Nat),s.length<=n->(a8 s i).e=0->a8 s i= .none
 |_,[],_,_,_=>rfl
 |0,c::r,_,hn,_=>by simp at hn
 |n+1,c::r,i,hn,he=>by
  have hn:r.length<=n:=by simpa using hn
  by_cases hc:c=92
  ·subst hc;cases r with
   |nil=>simp[a8,Err.e] at he
   |cons d r=>
    by_cases hd:okE d=true
    ·rw[po hd] at he ⊢;exact sL n r _ (by simp at hn;omega) he
    ·simp[a8,hd,Err.e] at he
  ·rw[pq hc] at he ⊢;exact sL n r _ hn he
theorem Sz (s:ω)(h:(gJ s).e=0):gJ s= .none:=by
 unfold gJ at h ⊢
 (repeat' split at h)<;>first|(exfalso;revert h;simp[Err.e];done)|(rename_i h1 h2 h3;rw[if_neg h1,if_neg h2,if_neg h3])
theorem FO:∀(l:List ω) (b:Bool) (a:Nat),(fj b a l).e=0->fj b a l= .none
 |[],_,_,_=>rfl
 |x::xs,b,a,h=>by
  rw[rn] at h ⊢;split at h
  ·rename_i k;rw[if_pos k];exact FO xs _ _ h
  ·rename_i k;exfalso;revert h k
   unfold eP
   (repeat' split)<;>simp[Err.e,Err.isNone]
theorem U4 (d:ω)(b:Bool)(t:ω):(mJ d b t).2.p= -1/\((mJ d b t).2.e=0->(mJ d b t).2= .none):=by
 unfold mJ pn
 (repeat' split)<;>(refine⟨rfl,λh=> ?_⟩)<;>first|rfl|(exact absurd h (by assumption))|(exact absurd h b_)|(rename_i k;exact absurd h k.2)
theorem BQ (s:ω):(ig s).p= -1/\(ig s).e=(bN s).2/\((ig s).e=0->ig s= .none):=by
 unfold ig
 split
 ·rename_i h;exact⟨rfl,h.symm,λ_=>rfl⟩
 ·rename_i h;exact⟨rfl,rfl,λk=>absurd k h⟩
theorem Yq (s:ω):(Ha s).2.p= -1:=(U4 _ _ _).1
theorem TH (l:List ω):AVal.list 1 l.length (aB l)=FC l:=rfl
theorem Ob (s:ω)(k:Int):(om s k).2.e=0->(om s k).2= .none:=by
 unfold om
 (repeat' split)
 ·exact sL _ s 0 (Nat.le_refl _)
 ·exact sL _ s 0 (Nat.le_refl _)
 ·exact sL _ s 0 (Nat.le_refl _)
 ·exact Sz s
 ·exact(U4 _ _ _).2
 ·exact(BQ s).2.2
 ·exact FO _ _ _
 ·exact λ_=>rfl
theorem Oa (s:ω)(k:Int):(nx s k).2.e=0->(nx s k).2= .none:=by
 have h:=Ob s k
 unfold nx
 split
 ·exact λh=>absurd h b_
 ·split
  ·exact λh=>absurd h b_
  ·split
   ·exact h
   ·exact h
theorem Ys (s:ω)(k:Int)(h:1<=k/\k<=8):(om s k).1.t=k:=by
 unfold om
 (repeat' split)<;>rfl
abbrev Sr (b:Nat)(v:Vl)(t:Int)(q:AVal):HEnt:=.cells b (some 63) [.int .i64 t,.str v.s,q,.int .i64 v.st.y,.int .i64 v.st.m,.int .i64 v.st.d,.int .i64 v.st.h,.int .i64 v.st.i,.int .i64 v.st.s,.bool v.st.z,.int .i64 v.st.o,.int .i64 v.n]
abbrev He (b:Nat)(e p:Int):HEnt:=.cells b (some 25) [.int .i64 e,.int .i64 p]
abbrev DR (b:Nat):Value:=.pointer (some ⟨b,0,none⟩)
def Zv (s:ω)(k:Int)(r:co)(H:Heap):Prop:=∃q,r= .ret (.tuple [U9 (nx s k).1 q,.agg [.int .i64 (nx s k).2.e,.int .i64 (nx s k).2.p]])/\H=[]/\Zz (nx s k).1.L q
attribute [local irreducible] bJ au aa ax aR ab ad iJ fo dm zp jF kw a8 gJ dJ Ha bN ig kx FC om
theorem xB {G:Glo}{m:Int}(hU:ab G utfTy)(hM:ab G (bQ m))(hS:ab G shapesTy)(s:ω)(k:Int)(hl:s.length<=10000):ad prog G 37 [.str s,.int .i64 k] [] (Zv s k):=by
 have hH:=pY hU s false a_
 have hW:=fN (G:=G) k 1 8
 have hB:=λe=>il (G:=G) e;have hG:=fb (G:=G);have b1:=hB 1;have b3:=hB 3;refine I5 func37 call37 rfl rfl rfl rfl ?_;intro C hC;have hGL:ab G []:=al;refine gr hC hGL (λx:Nat×Nat=>[(0,.str s),(1,.int .i64 k),(4,.own 0 (DR x.1)),(5,.own 1 (DR x.2))]) (λx=>[Sr x.1 Vl.no 0 i7,He x.2 0 0]) (λ_=>True) ?_ ?_
 ·refine Sg ?_;intro b4 b5;intros;exact cy (b4,b5) trivial
 rintro⟨b4,b5⟩-
 dsimp only
 by_cases hk:k<1\/9<=k
 ·have e:nx s k=(Vl.no,.errno 1):=by unfold nx;rw[if_pos hk]
  have e2:(decide (1<=k)&&decide (k<=8))=false:=by rw[Vr,aaf,aaf];omega
  rw[e2] at hW
  unfold Zv
  rw[e]
  refine ar hC hGL (an ?_)
  intros
  refine a7 mixed hC hGL false (λ(_:Unit)=>[(4,.own 0 (DR b4)),(5,.own 1 (DR b5))]) (λ_=>[Sr b4 Vl.no 0 i7,He b5 1 (-1)]) .p13 be xu ?_
  intro _
  refine an ?_
  intros
  exact⟨[],Ug _,i7,rfl,rfl,.inl ⟨rfl,rfl⟩⟩
 have e2:(decide (1<=k)&&decide (k<=8))=true:=by rw[l_,n_,n_];omega
 rw[e2] at hW
 cases hh:fo false s with
 |false=>
  have e:nx s k=(Vl.no,.errno 3):=by unfold nx;rw[if_neg hk,if_pos hh]
  unfold Zv
  rw[e]
  rw[hh] at hH
  refine ar hC hGL (an ?_)
  intros
  refine a7 mixed hC hGL false (λ(_:Unit)=>[(4,.own 0 (DR b4)),(5,.own 1 (DR b5))]) (λ_=>[Sr b4 Vl.no 0 i7,He b5 3 (-1)]) .p13 be xu ?_
  intro _
  refine an ?_
  intros
  exact⟨[],Ug _,i7,rfl,rfl,.inl ⟨rfl,rfl⟩⟩
 |true=>
  rw[hh] at hH
  have hv:nx s k=(match (om s k).2 with|.none=>om s k|e=>(Vl.no,e)):=by unfold nx;rw[if_neg hk,if_neg (by rw[hh];decide)];cases (om s k).2<;>rfl
  have h1:=lj (G:=G) s a_
  have h2:=EW (G:=G) s a_
  have h3:=Mu (G:=G) s a_
  have h4:=se (G:=G) s a_
  have h5:=zG (G:=G) hS hM s a_
  have h6:=qJ (G:=G) s a_
  have h7:=mM (G:=G) hM s a_
  refine cut hC hGL [(0,.str s),(1,.int .i64 k),(4,.own 0 (DR b4)),(5,.own 1 (DR b5))] [Sr b4 Vl.no 0 i7,He b5 0 0] True eK λ_=> ?_
  refine cut hC hGL [(0,.str s),(1,.int .i64 k),(4,.own 0 (DR b4)),(5,.own 1 (DR b5))] [Sr b4 Vl.no 0 i7,He b5 0 0] True eK λ_=> ?_
  refine cut hC hGL [(0,.str s),(1,.int .i64 k),(4,.own 0 (DR b4)),(5,.own 1 (DR b5))] [Sr b4 Vl.no 0 i7,He b5 0 (-1)] True eK λ_=> ?_
  refine gr hC hGL (λx:Vl×AVal=>[(0,.str s),(1,.int .i64 k),(4,.own 0 (DR b4)),(5,.own 1 (DR b5))]) (λx=>[Sr b4 x.1 0 x.2,He b5 (om s k).2.e (om s k).2.p]) (λx=>x.1.s=(om s k).1.s/\x.1.st=(om s k).1.st/\x.1.n=(om s k).1.n/\Zz (om s k).1.L x.2) ?_ ?_
  ·clear hv
   rcases(show k=1\/k=2\/k=3\/k=4\/k=5\/k=6\/k=7\/k=8 by omega) with rfl|rfl|rfl|rfl|rfl|rfl|rfl|rfl
   all_goals simp only[om,if_pos,if_neg,Int.reduceEq,reduceIte]
   ·refine an ?_
    intros
    exact cy (⟨0,zp s,[],Stm.no,0⟩,i7) ⟨rfl,rfl,rfl,.inl ⟨rfl,rfl⟩⟩
   ·refine an ?_
    intros
    exact cy (Vl.no,.list 1 1 _) ⟨rfl,rfl,rfl,.inr (.inr ⟨jF s,_,rfl,TH _,rfl⟩)⟩
   ·refine an ?_
    intros
    exact cy (Vl.no,.list 1 _ _) ⟨rfl,rfl,rfl,.inr (.inl rfl)⟩
   ·refine an ?_
    intros
    exact cy (⟨0,s,[],Stm.no,0⟩,i7) ⟨rfl,rfl,rfl,.inl ⟨rfl,rfl⟩⟩
   ·rw[Yq]
    refine an ?_
    intros
    exact cy (⟨0,[],[],(Ha s).1,0⟩,i7) ⟨rfl,rfl,rfl,.inl ⟨rfl,rfl⟩⟩
   ·rw[(BQ s).1,(BQ s).2.1]
    refine an ?_
    intros
    exact cy (⟨0,[],[],Stm.no,(bN s).1⟩,i7) ⟨rfl,rfl,rfl,.inl ⟨rfl,rfl⟩⟩
   ·refine an ?_
    intros
    exact cy (⟨0,s,[],Stm.no,0⟩,i7) ⟨rfl,rfl,rfl,.inl ⟨rfl,rfl⟩⟩
   ·refine an ?_
    intros
    exact cy (⟨0,s,[],Stm.no,0⟩,i7) ⟨rfl,rfl,rfl,.inl ⟨rfl,rfl⟩⟩
  rintro⟨x,q⟩ ⟨x1,x2,x3,x4⟩
  dsimp only at x1 x2 x3 x4 ⊢
  have h8:=np (G:=G) (om s k).2.e (om s k).2.p
  have h9:=Ob s k
  have h10:=Ys s k a_
  unfold Zv
  rw[hv]
  by_cases he:(om s k).2.e=0
  ·rw[h9 he]
   rw[h9 he] at h8
   rw[show bV (Err.none).e 0=true from fJ.2 rfl] at h8
   simp only[Err.e,Err.p] at h8 ⊢
   have x5:=x4
   rcases x5 with⟨rfl,_⟩|rfl|⟨l,g,rfl,_,_⟩
   all_goals
    refine ar hC hGL (an ?_)
    intros
    refine a7 mixed hC hGL false (λ(_:{y:AVal//Zz (om s k).1.L y})=>[(4,.own 0 (DR b4)),(5,.own 1 (DR b5))]) (λy=>[Sr b4 x k y.1,He b5 0 (-1)]) .p8 be ?_ ?_
    ·refine xn ?_
     repeat' first|exact .n|apply Lc.mk
     all_goals intros
     all_goals exact⟨⟨_,x4⟩,ae,rfl⟩
    rintro⟨y,hy⟩
    refine an ?_
    intros
    refine⟨[],Ug _,y,?_,rfl,hy⟩
    simp only[U9,x1,x2,x3,h10,h9 he]
  ·have e3:(match (om s k).2 with|.none=>om s k|e=>(Vl.no,e))=(Vl.no,(om s k).2):=by
    cases hq:(om s k).2 with
    |none=>rw[hq] at he;exact absurd rfl he
    |errno e=>rfl
    | atp e p=>rfl
   rw[e3]
   rw[show bV (om s k).2.e 0=false from Bool.eq_false_iff.2 λh=>he (fJ.1 h)] at h8
   refine ar hC hGL (an ?_)
   intros
   refine a7 mixed hC hGL false (λ(_:Unit)=>[(4,.own 0 (DR b4)),(5,.own 1 (DR b5))]) (λ_=>[Sr b4 Vl.no 0 i7,He b5 (om s k).2.e (om s k).2.p]) .p8 be xu ?_
   intro _
   refine an ?_
   intros
   exact⟨[],Ug _,i7,rfl,rfl,.inl ⟨rfl,rfl⟩⟩
theorem zH {G:Glo}{m:Int}(hU:ab G utfTy)(hM:ab G (bQ m))(hS:ab G shapesTy)(s:ω)(k:Int)(hl:s.length<=10000):ai prog G 37 [.str s,.int .i64 k] (.tuple [(nx s k).1.R,.agg [.int .i64 (nx s k).2.e,.int .i64 (nx s k).2.p]]):=by
 refine dB (xB hU hM hS s k hl) ?_;rintro r H ⟨q,rfl,rfl,hL⟩;exact vJ hL
end
section
abbrev pnC (b:Nat)(L:Ln):HEnt:=.cells b (some 97) [.str L.g,.str L.n,.list 2 L.ps.length (gg L.ps),.str L.v]
theorem Vm {c:Bool}{s:ω}{e p:Int}(h:rE c s= .atp e p):e≠0:=by
 unfold rE at h;cases hl:dI c s with
 |ok l=>rw[hl] at h;cases h
 |bad e' p'=>rw[hl] at h;cases h;exact FK hl
attribute [local irreducible] bJ au aa ax aR ab ad jb rE nx jH cO gg kx d8
theorem zO {G:Glo}{m:Int}(hU:ab G utfTy)(hM:ab G (bQ m))(hS:ab G shapesTy)(v:Int)(t:ω)(l:LineS)(hl:l.t.length<=1500)(ht:t.length<=20100)(hb:me t l):ad prog G 24 [uR l,.int .i64 v] [] (Uz v l (.agg [.int .i64 (jd v l).e,.int .i64 (jd v l).p])):=by
 have hB:=il (G:=G) 1;have h1:=zK (G:=G) hU hM l.t (bV v 4) a_;have hin:=Iy (bV v 4) l.t;have hpl:=λi g0 g1=>Mt (G:=G) t l i g0 g1 ht hb;refine k7 func24 call24 λC hC hGL=> ?_;refine gr hC hGL (λx:Nat×Nat=>[(1,.int .i64 v),(2,TM l),(4,.own 0 (eh x.1)),(5,.own 1 (eh x.2))]) (λx=>[IP x.1 Ln.no Vl.no iN iN,He x.2 0 0]) (λ_=>True) ?_ ?_
 ·refine an ?_;intro b b';intros;exact cy (b,b') trivial
 rintro⟨b4,b5⟩ _;dsimp only
 by_cases hv:v=3\/v=4
 ·refine cut hC hGL [(1,.int .i64 v),(2,TM l),(4,.own 0 (eh b4)),(5,.own 1 (eh b5))] [IP b4 Ln.no Vl.no iN iN,He b5 0 0] True ?_ λ_=> ?_
  ·rcases hv with rfl|rfl<;>exact eK
  refine gr hC hGL (λx:Nat×Nat=>[(1,.int .i64 v),(2,TM l),(4,.own 0 (eh b4)),(5,.own 1 (eh b5)),(6,.own 2 (eh x.1)),(7,.own 3 (eh x.2))]) (λx=>[IP b4 Ln.no Vl.no iN iN,He b5 0 0,pnC x.1 (jb (bV v 4) l.t),He x.2 (rE (bV v 4) l.t).e (rE (bV v 4) l.t).p]) (λ_=>True) ?_ ?_
  ·refine an ?_;intro b b';intros;exact cy (b,b') trivial
  rintro⟨b6,b7⟩ _;dsimp only
  have hF:=gM (G:=G) (rE (bV v 4) l.t).e (rE (bV v 4) l.t).p;rcases hq:rE (bV v 4) l.t with _|e|⟨e,p⟩
  ·have h2:=EV (G:=G) v (jb (bV v 4) l.t).n (jb (bV v 4) l.t).ps a_ (by have:=(CY (bV v 4) l.t).1;omega) (λk=>(CH hin.2.2 k).1) (λk=>(CH hin.2.2 k).2);have h3:=zH (G:=G) hU hM hS (jb (bV v 4) l.t).v (NX v l.t) a_;have hvin:=N9 (jb (bV v 4) l.t).v (NX v l.t);have hv0:=Oa (jb (bV v 4) l.t).v (NX v l.t);have e3:jd v l=(match (y6 v l.t).2 with|.none=>.none|x=>.atp x.e (cO l ((l.t.length:Int)-(jb (bV v 4) l.t).v.length+max 0 x.p) l.f.length)):=by unfold jd;rw[if_pos hv,hq];rfl
   have e4:px v l=(match jd v l with|.none=>(jb (bV v 4) l.t,(y6 v l.t).1)|_=>(Ln.no,Vl.no)):=rfl;have hF2:=gM (G:=G) (y6 v l.t).2.e (y6 v l.t).2.p;rw[hq] at hF;rw[show bV (Err.none).e 0=true from fJ.2 rfl] at hF;change ai _ _ _ _ (.tuple [.int .i64 (NX v l.t),_]) at h2;change ai _ _ _ _ (.tuple [(y6 v l.t).1.R,.agg [.int .i64 (y6 v l.t).2.e,.int .i64 (y6 v l.t).2.p]]) at h3;change (y6 v l.t).2.in _ at hvin;change (y6 v l.t).2.e=0->(y6 v l.t).2= .none at hv0;unfold Uz;generalize jb (bV v 4) l.t=L at*
   generalize y6 v l.t=V at*
   obtain⟨V,x⟩:=V;dsimp only at*
   generalize NX v l.t=k at*
   generalize (eX v).e=z at*
   simp only[Err.e,Err.p] at hF ⊢;by_cases hx:x= .none
   ·subst hx;rw[show bV (Err.none).e 0=true from fJ.2 rfl] at hF2;rw[e4,e3];simp only[Err.e,Err.p] at h3 hF2 ⊢;refine ar hC hGL (an ?_);intros;rename Nat=>b10
    refine dC (ak (az (i:=4) (k:=10) rfl rfl) (ak (az (i:=3) (k:=7) rfl rfl) (az (i:=2) (k:=6) rfl rfl))) ?_;refine a7 mixed hC hGL false (λ_:Unit=>[(4,.own 0 (eh b4)),(5,.own 1 (eh b5))]) (λ_=>[IP b4 L V (.list 2 L.ps.length (gg L.ps)) (.list 1 V.L.length (kx V.L)),He b5 0 (-1),eB,eB,eB]) (.t 0 (.t 1 (.t 2 (.t 3 (.t 4 (.t 5 (.t 6 (.t 7 (.t 8 (.b 9 (.b 10 .done))))))))))) be xu ?_;intro _;refine an ?_;intros;exact⟨[],Ug _,_,_,rfl,rfl,.inr ⟨rfl,rfl⟩⟩
   ·have hne:x.e≠0:=λh=>hx (hv0 h);rw[show bV x.e 0=false from k9.2 hne] at hF2;have hvp:0<=max 0 x.p/\max 0 x.p<=((L.v.length+1:Nat):Int):=by
     rcases x with _|e|⟨e,p⟩
     ·exact absurd rfl hx
     ·show 0<=max 0 (-1)/\max 0 (-1)<=_;omega
     ·have:0<=p/\p<=((L.v.length+1:Nat):Int):=hvin;show 0<=max 0 p/\max 0 p<=_;omega
    have hp:=hpl ((l.t.length:Int)-L.v.length+max 0 x.p) a_ a_;have e5:jd v l= .atp x.e (cO l ((l.t.length:Int)-L.v.length+max 0 x.p) l.f.length):=by
     rw[e3];rcases x with _|e|⟨e,p⟩
     ·exact absurd rfl hx
     ·rfl
     ·rfl
    rw[e4,e5];clear e3 e4 e5 hv0 hx hvin;generalize x.e=e at*
    generalize x.p=p at*
    simp only[Err.e,Err.p];refine ar hC hGL (an ?_);intros;rename Nat=>b10
    refine dC (ak (az (i:=3) (k:=7) rfl rfl) (az (i:=2) (k:=6) rfl rfl)) ?_;refine a7 mixed hC hGL false (λ_:Unit=>[(4,.own 0 (eh b4)),(5,.own 1 (eh b5))]) (λ_=>[IP b4 Ln.no Vl.no iN iN,He b5 e (cO l ((l.t.length:Int)-L.v.length+max 0 p) l.f.length),eB,eB,ZC b10 V]) (.t 0 (.t 1 (.t 2 (.t 3 (.t 4 (.t 5 (.t 6 (.t 7 (.t 8 (.t 9 (.t 10 (.t 11 (.t 12 (.t 13 (.t 14 (.b 15 (.t 16 (.b 17 (.b 18 .done))))))))))))))))))) be xu ?_;intro _;refine an ?_;intros;exact⟨[],Ug _,iN,iN,rfl,rfl,.inl ⟨rfl,rfl,by first|exact rfl|exact trivial⟩⟩
  ·exact absurd hq (Iz _ _ _)
  ·have e1:jd v l= .atp e (cO l p l.f.length):=by unfold jd;rw[if_pos hv,hq];rfl
   have e2:px v l=(Ln.no,Vl.no):=by unfold px;rw[e1]
   have hip:0<=p/\p<=(l.t.length:Int):=by
    have:=Qb (bV v 4) l.t;rw[hq] at this;exact this
   have hne:e≠0:=Vm hq;have hpl:=hpl p hip.1 a_;unfold Uz;rw[e1,e2];rw[hq] at hF;rw[show bV (Err.atp e p).e 0=false from k9.2 hne] at hF;generalize jb (bV v 4) l.t=L at*
   simp only[Err.e,Err.p] at hF ⊢;refine ar hC hGL (an ?_);intros;refine dC (az (i:=3) (k:=7) rfl rfl) ?_;refine a7 mixed hC hGL false (λ_:Unit=>[(4,.own 0 (eh b4)),(5,.own 1 (eh b5))]) (λ_=>[IP b4 Ln.no Vl.no iN iN,He b5 e (cO l p l.f.length),pnC b6 L,eB]) (.t 0 (.t 1 (.t 2 (.t 3 (.t 4 (.t 5 (.b 6 (.t 7 (.b 8 (.b 9 .done)))))))))) be ?_ ?_
   ·refine xn ?_;repeat' first|exact .n|apply Lc.mk
    all_goals intros
    all_goals intros
    all_goals exact⟨(),ae,rfl⟩
   intro _;refine an ?_;intros;exact⟨[],Ug _,iN,iN,rfl,rfl,.inl ⟨rfl,rfl,by first|exact rfl|exact trivial⟩⟩
 ·have e1:jd v l= .errno 1:=by unfold jd;rw[if_neg hv]
  have e2:px v l=(Ln.no,Vl.no):=by unfold px;rw[e1]
  unfold Uz;rw[e1,e2];refine ar hC hGL (an ?_);intros;exact⟨[],Ug _,iN,iN,rfl,rfl,.inl ⟨rfl,rfl,by first|exact rfl|exact trivial⟩⟩
end
section
theorem HG (t:Stm):Aj [bV t.y t.y,bV t.m t.m,bV t.d t.d,bV t.h t.h,bV t.i t.i,bV t.s t.s,t.z==t.z,bV t.o t.o]=true:=by
 have e:∀x:Int,bV x x=true:=λx=>fJ.2 rfl;simp only[Aj,e,beq_self_eq_true,Bool.and_self]
attribute [local irreducible] bJ au aa ax aR ab ad nx
end
section
theorem Nu {G:Glo}{m:Int}(hE:ab G errTy)(hU:ab G utfTy)(hM:ab G (bQ m))(hS:qw G)(v:Int)(t:ω)(l:LineS)(hl:l.t.length<=1500)(ht:t.length<=20100)(hb:me t l):ai prog G 29 [uR l,.int .i64 v] (.tuple [YX (px v l).1 (px v l).2,(jd v l).A]):=
 dB (Jy hE hU hM hS v t l hl ht hb) λ_ _ h=>LE h
theorem CE {G:Glo}{m:Int}(hU:ab G utfTy)(hM:ab G (bQ m))(hS:ab G shapesTy)(v:Int)(t:ω)(l:LineS)(hl:l.t.length<=1500)(ht:t.length<=20100)(hb:me t l):ai prog G 24 [uR l,.int .i64 v] (.tuple [YX (px v l).1 (px v l).2,.agg [.int .i64 (jd v l).e,.int .i64 (jd v l).p]]):=
 dB (zO hU hM hS v t l hl ht hb) λ_ _ h=>LE h
attribute [local irreducible] bJ au aa ax aR ab ad gg kx
end
section
theorem KW (x:Itm):YX x.1 x.2=KV x:=by
 unfold YX KV;rw[MA]
attribute [local irreducible] bJ au aa ax aR ab ad jd px am Crd.E su gg
theorem RE {G:Glo}{m:Int}(hE:ab G errTy)(hE2:pH G)(hU:ab G utfTy)(hP:fF G)(hM:ab G (bQ m))(hS:qw G)(t:ω)(L:List LineS)(e:Nat)(ht:t.length<=20100)(hL:L.length<=20100)(hb:∀l∈L,me t l)(he:e<=20100):
  ad prog G 17 [.list 3 L.length (a6 L),.int .i64 (e:Int)] [] (XJ (od L e) (fY L e).A):=by
 by_cases h3:L.length<3
 ·rw[v8 (by rw[GI h3];exact λh=>by cases h),GI h3];simp only[Err.A,th];refine aw func17 call17 λC hC hGL=> ?_;refine aH ?_;intros;exact⟨[],Ug _,iN,rfl,rfl,.inl ⟨rfl,rfl⟩⟩
 have hbl:∀i,i<L.length->me t (bS L i):=λi hi=>by
  show me t (L.getD i ⟨[],0,[]⟩);rw[f_,y_ hi];exact hb _ (K_ hi)
 have s0:=jW (G:=G) (bS L 0).t ma (by have:=(hbl 0 a_).2.1;omega) b_;have s1:=jW (G:=G) (bS L 1).t cpV3 (by have:=(hbl 1 a_).2.1;omega) b_;have s2:=jW (G:=G) (bS L 1).t cpV4 (by have:=(hbl 1 a_).2.1;omega) b_;have s9:=jW (G:=G) (bS L (L.length-1)).t kG (by have:=(hbl (L.length-1) a_).2.1;omega) b_;rw[show am 97 122 (-32) ma=ma by decide+kernel] at s0;rw[show am 97 122 (-32) cpV3=cpV3 by decide+kernel] at s1;rw[show am 97 122 (-32) cpV4=cpV4 by decide+kernel] at s2;rw[show am 97 122 (-32) kG=kG by decide+kernel] at s9;change ai _ _ _ _ (.bool (aW (qz (bS L 0).t) ma)) at s0;change ai _ _ _ _ (.bool (aW (qz (bS L 1).t) cpV3)) at s1;change ai _ _ _ _ (.bool (aW (qz (bS L 1).t) cpV4)) at s2;change ai _ _ _ _ (.bool (aW (qz (bS L (L.length-1)).t) kG)) at s9;have hit:=λi (hi:i<L.length) v=>Nu hE hU hM hS v t (bS L i) (hbl i hi).2.1 ht (hbl i hi);have c7:=Rw (L:=L) (e:=e) h3;have c8:=Rv (L:=L) (e:=e) h3;have c9:=λk=>VH (L:=L) (e:=e) (k:=k) h3;have c10:=VI (L:=L) (e:=e) h3;have c11:=VG (L:=L) (e:=e) h3;have cno:=v8 (L:=L) (e:=e);have cok:=LB (L:=L) (e:=e);have hok:=IN (v:=ny (bS L 1).t) (n:=L.length-3) hb;have ke:(vD L).l.length=L.length-3:=jv _ _ _;generalize fY L e=E at*
 generalize od L e=Cc at*
 refine k7 func17 call17 λC hC hGL=> ?_;refine gr hC hGL (λx:Nat=>[(0,.list 3 L.length (a6 L)),(1,.int .i64 (e:Int)),(4,.own 0 (eh x)),(5,.raw .nilIface)]) (λx=>[jL x 0 iN]) (λ_=>True) ?_ ?_
 ·refine an ?_;intro b;intros;exact cy b trivial
 intro b4 _;refine cut hC hGL [(0,.list 3 L.length (a6 L)),(1,.int .i64 (e:Int)),(4,.own 0 (eh b4)),(5,.raw .nilIface)] [jL b4 0 iN] True ?_ λ_=> ?_
 ·exact eK
 refine gr hC hGL (λx:Nat=>[(0,.list 3 L.length (a6 L)),(1,.int .i64 (e:Int)),(4,.own 0 (eh b4)),(5,.raw .nilIface),(6,.own 1 (eh x))]) (λx=>[jL b4 0 iN,jL x 0 iN]) (λ_=>True) ?_ ?_
 ·refine an ?_;intro b;intros;exact cy b trivial
 intro b6 _;refine cut hC hGL [(0,.list 3 L.length (a6 L)),(1,.int .i64 (e:Int)),(4,.own 0 (eh b4)),(5,.raw .nilIface),(6,.own 1 (eh b6)),(7,.int .i64 ((L.length:Int)-1))] [jL b4 0 iN,jL b6 0 iN] True ?_ λ_=> ?_
 ·exact eK
 cases hB:aW (qz (bS L 0).t) ma with
 |false=>
  rw[hB] at s0;have c7:=c7 hB;subst c7;rw[cno (λh=>by cases h)];simp only[Err.A,th];refine ar hC hGL (an ?_);intros;refine a7 mixed hC hGL false (λ_:Unit=>[(4,.own 0 (eh b4)),(5,th 3 (bS L 0).a)]) (λ_=>[jL b4 0 iN,jL b6 0 iN]) .p22 be xu ?_;intro _;refine an ?_;intros;exact⟨[],Ug _,iN,rfl,rfl,.inl ⟨rfl,rfl⟩⟩
 |true=>
  rw[hB] at s0;by_cases hv0:ny (bS L 1).t=0
  ·have c8:=c8 hB hv0;subst c8;rw[cno (λh=>by cases h)];simp only[Err.A,th];unfold ny at hv0;have hv3:aW (qz (bS L 1).t) cpV3=false:=by
    cases h:aW (qz (bS L 1).t) cpV3 with
    |false=>rfl
    |true=>rw[h] at hv0;cases hv0
   have hv4:aW (qz (bS L 1).t) cpV4=false:=by
    cases h:aW (qz (bS L 1).t) cpV4 with
    |false=>rfl
    |true=>rw[hv3,h] at hv0;cases hv0
   rw[hv3] at s1;rw[hv4] at s2;refine ar hC hGL (an ?_);intros;refine a7 mixed hC hGL false (λ_:Unit=>[(4,.own 0 (eh b4)),(5,th 3 (bS L 1).a)]) (λ_=>[jL b4 0 iN,jL b6 0 iN]) .p22 be xu ?_;intro _;refine an ?_;intros;exact⟨[],Ug _,iN,rfl,rfl,.inl ⟨rfl,rfl⟩⟩
  ·have hv34:=Oh hv0;refine cut hC hGL [(0,.list 3 L.length (a6 L)),(4,.own 0 (eh b4)),(6,.own 1 (eh b6)),(7,.int .i64 ((L.length:Int)-1))] [jL b4 0 iN,jL b6 (ny (bS L 1).t) iN] True ?_ λ_=> ?_
   ·unfold ny at hv0 ⊢;cases hv3:aW (qz (bS L 1).t) cpV3 with
    |true=>
     rw[hv3] at s1;exact eK
    |false=>
     rw[hv3] at s1 hv0;cases hv4:aW (qz (bS L 1).t) cpV4 with
     |true=>
      rw[hv4] at s2;exact eK
     |false=>rw[hv4] at hv0;exact absurd rfl hv0
   have c9:=λk=>c9 k hB hv0;have c10:=c10 hB hv0;have c11:=c11 hB hv0;have hD:vD L=⟨ny (bS L 1).t,lm (ny (bS L 1).t) L (L.length-3)⟩:=rfl;generalize ny (bS L 1).t=v at*
   refine gr hC hGL (λx:Value=>[(0,.list 3 L.length (a6 L)),(4,.own 0 (eh b4)),(6,.own 1 (eh b6)),(7,.int .i64 ((L.length:Int)-1))]) (λx=>[jL b4 0 iN,jL b6 v (.own 2 x),HP x (lm v L (L.length-3))]) (λ_=>∀j,j<L.length-3->jd v (bS L (j+2))= .none) ?_ ?_
   ·refine an ?_;intros;refine FD (ak (ep 15) (ak (iq (i:=1) (p:=1) (x:=jL b6 v iN) (a':=.own 2 (.slice none 0 0)) rfl (λR=>.cells rfl λ_=>iy)) (nB))) ?_;have hi0:lm v L 0=[]:=rfl;have e3:((L.length:Int)-1).toNat-2=L.length-3:=by omega
    refine lp hC hGL (λz:Nat×Value=>[(0,.list 3 L.length (a6 L)),(4,.own 0 (eh b4)),(6,.own 1 (eh b6)),(7,.int .i64 ((L.length:Int)-1)),(66,.list 3 (L.length-3) (λi=>a6 L (2+i))),(67,.int .i64 ((L.length-3:Nat):Int)),(68,.int .i64 (z.1:Nat))]) (λz=>[jL b4 0 iN,jL b6 v (.own 2 z.2),HP z.2 (lm v L z.1)]) (λz=>z.1<=L.length-3/\∀j,j<z.1->jd v (bS L (j+2))= .none) (λz=>L.length-3-z.1) (0,.slice none 0 0) ⟨Nat.zero_le _,λj h=>absurd h (Uf _)⟩ ?_ ?_ ?_
    ·refine⟨rfl,rfl,rfl,rfl,?_,congrArg (λz:Nat=>some (AVal.int .i64 (z:Int))) e3,rfl,trivial⟩;show some (AVal.list 3 (((L.length:Int)-1).toNat-2) (λk=>a6 L (2+k)))=_;rw[e3]
    ·show _=[jL b4 0 iN,jL b6 v (.own 2 (.slice none 0 0)),HP (.slice none 0 0) (lm v L 0)];rw[hi0];unfold HP;rw[FT];rfl
    rintro⟨k,x⟩ ⟨k1,k2⟩;dsimp only at k1 k2 ⊢;by_cases hk:k<L.length-3
    ·have h1:=hit (2+k) a_ v;have hs:=FU v L k;have hlk:=jv v L k;have c9:=c9 k hk k2;have e4:k+2=2+k:=by omega
     rw[KW] at h1;rw[e4] at c9 hs;cases hce:jd v (bS L (2+k)) with
     |none=>
      rw[hce] at h1;simp only[Err.A] at h1;generalize px v (bS L (2+k))=X at*
      refine an ?_;intro _ _ va vk vc hva _;have e2:(lm v L k).length+1=(lm v L (k+1)).length:=by rw[jv,jv]
      refine fG (k+1,.slice va vk vc) ⟨hk,λj hj=> ?_⟩ (by dsimp only;omega) ae ?_
      ·rcases aaj j k with h|h
       ·exact k2 j h
       ·dsimp only at hj;obtain rfl:j=k:=by omega
        rw[e4,hce]
      ·dsimp only
       rw[e2];refine V_ _ (V_ _ ?_);show[HP (.slice va vk vc) (lm v L (k+1))].Sublist (HEnt.row (.slice va vk vc) none 15 (lm v L (k+1)).length (su (lm v L k)++df X)::_);rw[Bf,<-hs];exact V_ _ (Ug _)
     |errno e1=>
      rw[hce] at h1 c9;have c9:=c9 (λh=>by cases h);subst c9;rw[cno (λh=>by cases h)];simp only[Err.A] at h1 ⊢;refine aH ?_;intros;exact⟨[],Ug _,iN,rfl,rfl,.inl ⟨rfl,rfl⟩⟩
     | atp e1 p1=>
      rw[hce] at h1 c9;have c9:=c9 (λh=>by cases h);subst c9;rw[cno (λh=>by cases h)];simp only[Err.A] at h1 ⊢;refine aH ?_;intros;exact⟨[],Ug _,iN,rfl,rfl,.inl ⟨rfl,rfl⟩⟩
    ·obtain rfl:k=L.length-3:=by omega
     refine an ?_;intros;exact cy x k2
   ·intro x hci;have hci2:=c10 hci;have hci3:=c11 hci;have hlen:=jv v L (L.length-3);have e9:((L.length:Int)-1).toNat=L.length-1:=by omega
    rw[<-e9] at s9 hci2 hci3;cases hB9:aW (qz (bS L ((L.length:Int)-1).toNat).t) kG with
    |false=>
     rw[hB9] at s9;have c10:=hci2 hB9;subst c10;rw[cno (λh=>by cases h)];simp only[Err.A,th];refine ar hC hGL (an ?_);intros;refine a7 mixed hC hGL false (λ_:Unit=>[(4,.own 0 (eh b4)),(5,th 3 (bS L ((L.length:Int)-1).toNat).a)]) (λ_=>[jL b4 0 iN,jL b6 v (.own 2 x),HP x (lm v L (L.length-3))]) (.t 0 (.t 1 (.t 2 (.t 3 (.t 4 (.t 5 (.t 6 (.br 7 (.t 8 (.b 9 (.t 10 .done))) (.b 9 (.b 7 (.t 8 (.t 10 .done)))))))))))) be xu ?_;intro _;refine an ?_;intros;exact⟨[],Ug _,iN,rfl,rfl,.inl ⟨rfl,rfl⟩⟩
    |true=>
     rw[hB9] at s9;have c11:=hci3 hB9;refine RT (ji (i:=2) (k:=1) (p:=1) (dK (lm v L (L.length-3))) rfl rfl (KT _) (λR hr=>.cells (a:=.own 2 x) rfl λ_=>ck hr)) ?_;rw[hD] at c11 cok;have hR:=Jx hE hE2 hP hM hS ⟨v,lm v L (L.length-3)⟩ ⟨by show(lm v L (L.length-3)).length<=_;omega,λx hx=>(hok x hx).mono b_⟩;have hp:=λe p=>LA (c:=⟨v,lm v L (L.length-3)⟩) (e:=e) (p:=p);dsimp only at hp;change ai _ _ _ [.agg [.int .i64 v,.list 15 (lm v L (L.length-3)).length (dK (lm v L (L.length-3)))]] _ at hR;clear hD ke hok hit c10 c9 c8 c7 hci hci2 hci3;generalize lm v L (L.length-3)=I at*
     cases hce:Crd.E ⟨v,I⟩ with
     |none=>
      rw[hce] at hR c11;subst c11;rw[cok rfl];simp only[Err.A] at hR;refine ar hC hGL (aH ?_);intros;exact⟨[],Ug _,_,rfl,rfl,.inr rfl⟩
     |errno e1=>
      rw[hce] at hR c11;subst c11;rw[cno (λh=>by cases h)];simp only[Err.A,Jq] at hR ⊢;refine ar hC hGL (aH ?_);intros;exact⟨[],Ug _,iN,rfl,rfl,.inl ⟨rfl,rfl⟩⟩
     | atp e1 p1=>
      obtain⟨p2,p3⟩:=hp _ _ hce;rw[hce] at hR c11;subst c11;rw[cno (λh=>by cases h)];have e8:p1.toNat+2=(2+p1).toNat:=by omega
      simp only[Err.A,Jq] at hR ⊢;rw[e8];refine ar hC hGL (an ?_);intros;refine a7 mixed hC hGL false (λ_:Unit=>[(4,.own 0 (eh b4)),(5,th e1 (bS L (2+p1).toNat).a)]) (λ_=>[jL b4 0 iN,jL b6 v (.list 15 I.length (dK I))]) (.t 0 (.t 1 (.t 2 (.t 3 (.t 4 (.t 5 (.t 6 (.t 7 (.t 8 (.t 9 (.t 10 (.t 11 (.t 12 (.t 13 (.t 14 (.br 15 (.t 16 (.b 17 (.t 18 .done))) (.b 17 (.b 15 (.t 16 (.t 18 .done)))))))))))))))))))) be xu ?_;intro _;refine an ?_;intros;exact⟨[],Ug _,iN,rfl,rfl,.inl ⟨rfl,rfl⟩⟩
theorem UC {G:Glo}{m:Int}(hE:ab G errTy)(hE2:pH G)(hU:ab G utfTy)(hP:fF G)(hM:ab G (bQ m))(hS:qw G)(t:ω)(L:List LineS)(e:Nat)(ht:t.length<=20100)(hL:L.length<=20100)(hb:∀l∈L,me t l)(he:e<=20100):
  ai prog G 17 [.list 3 L.length (a6 L),.int .i64 (e:Int)] (.tuple [(od L e).A,(fY L e).A]):=
 dB (RE hE hE2 hU hP hM hS t L e ht hL hb he) λ_ _ h=>GH h
end
section
structure Gr where
 I:List (List LineS)
 c:List LineS
 b:Nat
 cap:Nat
 u:Value
abbrev Gr.v (y:Gr):Value:=.slice (some ⟨y.b,0,none⟩) (y.I.length+1) y.cap
abbrev Gr.H (y:Gr):Heap:=[.row y.u none 3 y.c.length (aN y.c),.row y.v none 1 (y.I.length+1) (jc y.I++[.own 0 y.u])]
abbrev yh (l:LineS):List AVal:=[.str l.t,.int .i64 l.a,.list 1 l.f.length (d8 l.f)]
abbrev WU (t:ω)(L:List LineS)(k:Nat)(v:AVal):Env:=[(0,.str t),(6,v),(25,.list 3 L.length (a6 L)),(26,.int .i64 (L.length:Nat)),(27,.int .i64 (k:Nat))]
abbrev Zx (t:ω)(L:List LineS):Nat×Option (Gr×Bool)->Env
 |(k,none)=>(7,.bool false)::WU t L k (.own 0 gz)
 |(k,some (y,o))=>(7,.bool o)::WU t L k (.own 1 y.v)
abbrev Y1:Nat×Option (Gr×Bool)->Heap
 |(_,none)=>[.row gz none 1 0 []]
 |(_,some (y,_))=>y.H
def grP (L:List LineS):Nat×Option (Gr×Bool)->Prop
 |(k,none)=>k=0
 |(k,some (y,o))=>k<=L.length/\y.c.length≠0/\y.I.length+y.c.length<=k/\fD [] L=if o=true then y.I++fD y.c (L.drop k) else(y.I++[y.c])++fD [] (L.drop k)
theorem QC {L:List LineS}{k:Nat}(hk:k<L.length){I:List (List LineS)}{c:List LineS}(h:fD [] L=I++fD c (L.drop k)):fD [] L=if(!Hg (bS L k))=true then I++fD (c++[bS L k]) (L.drop (k+1)) else(I++[c++[bS L k]])++fD [] (L.drop (k+1)):=by
 have e:L.drop k=bS L k::L.drop (k+1):=by
  rw[A_ hk];show _=L.getD k _::_;rw[f_,y_ hk];rfl
 rw[e,fD] at h;cases hc:Hg (bS L k) with
 |true=>rw[hc,if_pos rfl] at h;rw[if_neg b_,h];simp
 |false=>rw[hc,if_neg b_] at h;rw[if_pos b_,h]
theorem T1 {L:List LineS}{I:List (List LineS)}{c:List LineS}{o:Bool}{k:Nat}(hc:c.length≠0)(hk:L.length<=k)(h:fD [] L=if o=true then I++fD c (L.drop k) else(I++[c])++fD [] (L.drop k)):fD [] L=I++[c]:=by
 rw[List.drop_of_length_le hk] at h;rw[h];cases o<;>simp[fD,hc]
attribute [local irreducible] bJ au aa ax aR ab ad aN jc fD mL mK fY od qu am Sj xi kS
theorem zw {G:Glo}{m:Int}(hE:ab G errTy)(hE2:pH G)(hU:ab G utfTy)(hP:fF G)(hM:ab G (bQ m))(hS:qw G)(t:ω)(ht:t.length<=20100):ad prog G 5 [.str t] [] (Xz (mL t) (mK t).A):=by
 have hB:=so t;have hs:=pN t;have h1:=z7 (G:=G) t a_;have eE:mK t=match cA t with|.none=>if 20<(bH t).length then .errno 4 else Sj t (bH t) (bH t).length|x=>x:=by unfold mK;rfl
 have eC:mL t=match mK t with|.none=>xi t (bH t) (bH t).length|_=>[]:=by unfold mL;rfl
 have hG:bH t=fD [] (bD t):=rfl;have hno:mK t≠ .none->mL t=[]:=λh=>by
  rw[eC];split
  ·rename_i k;exact absurd k h
  ·rfl
 cases hl:cA t with
 |errno e=>
  rw[hl] at h1 eE;dsimp only at eE;rw[hno (by rw[eE];exact λh=>by cases h),eE];simp only[Err.A] at h1 ⊢;refine aw func5 call5 λC hC hGL=> ?_;refine aH ?_;intros;exact⟨[],Ug _,.inl ⟨rfl,rfl,rfl⟩⟩
 | atp e p=>
  rw[hl] at h1 eE;dsimp only at eE;rw[hno (by rw[eE];exact λh=>by cases h),eE];simp only[Err.A] at h1 ⊢;refine aw func5 call5 λC hC hGL=> ?_;refine aH ?_;intros;exact⟨[],Ug _,.inl ⟨rfl,rfl,rfl⟩⟩
 |none=>
  rw[hl] at h1 eE;simp only[Err.A] at h1;dsimp only at eE;generalize bD t=L at*
  have hbl:∀i,i<L.length->me t (bS L i):=λi hi=>by
   exact hB.1 _ (sA hi)
  refine k7 func5 call5 λC hC hGL=> ?_;refine cut hC hGL [(0,.str t)] [] True eK λ_=> ?_;refine cut hC hGL [(0,.str t),(4,.list 3 L.length (a6 L)),(5,.raw .nilIface)] [] True bq λ_=> ?_;refine cut hC hGL [(0,.str t),(4,.list 3 L.length (a6 L))] [] True bq λ_=> ?_;refine cut hC hGL [(0,.str t),(4,.list 3 L.length (a6 L)),(6,.raw gz)] [] True bq λ_=> ?_;refine cut hC hGL [(0,.str t),(4,.list 3 L.length (a6 L)),(6,.raw gz),(7,.bool false)] [] True bq λ_=> ?_;refine Dp (λ_:Unit=>[(0,.str t),(6,.list 1 (bH t).length (z6 (bH t)))]) (λ_=>[]) (λ_=>True) ?_ λ_ _=> ?_
  ·refine ar hC hGL (aH ?_);intros;refine jX 6 1 rfl ?_;refine lpA hC hGL (Zx t L) Y1 (grP L) (λx=>L.length-x.1) (0,none) rfl ae rfl ?_;intro x hx;have hx1:x.1<=L.length:=by
    rcases x with⟨k,_|⟨y,o⟩⟩
    ·have:k=0:=hx;omega
    ·exact hx.1
   by_cases hk:x.1<L.length
   ·have hbk:=(hbl x.1 hk).2.1;have sN:=jW (G:=G) (bS L x.1).t kG a_ b_;rw[show am 97 122 (-32) kG=kG by decide+kernel] at sN;change ai _ _ _ _ (.bool (Hg (bS L x.1))) at sN;refine cut hC hGL ((28,.bool (nT ((x.1:Nat):Int) ((L.length:Nat):Int)))::Zx t L x) (Y1 x) True ?_ λ_=> ?_
    ·rcases x with⟨k,_|⟨y,o⟩⟩<;>(have hk:k<L.length:=hk;exact eK)
    refine cut hC hGL (Zx t L x) (Y1 x) True ?_ λ_=> ?_
    ·rcases x with⟨k,_|⟨y,o⟩⟩<;>(have hk:k<L.length:=hk;exact eK)
    refine j7 (mf ?_);refine Dp (λ_:Unit=>(9,.rop (yh (bS L x.1)) 0)::Zx t L x) (λ_=>Y1 x) (λ_=>True) ?_ λ_ _=> ?_
    ·rcases x with⟨k,_|⟨y,o⟩⟩<;>have hk:k<L.length:=hk
     ·refine ar hC hGL (an ?_);intro b;intros;exact Hf () trivial (ak (az (i:=1) (k:=9) rfl rfl) (bi ae aA))
     ·refine ar hC hGL (an ?_);intro b;intros;exact Hf () trivial (ak (az (i:=2) (k:=9) rfl rfl) (bi ae aA))
    refine Dp (λy:Gr=>(9,.rop (yh (bS L x.1)) 0)::WU t L x.1 (.own 1 y.v)) (λy=>y.H) (λy=>y.I.length+y.c.length<=x.1/\fD [] L=y.I++fD y.c (L.drop x.1)) ?_ ?_
    ·rcases x with⟨k,_|⟨y,o⟩⟩
     ·obtain rfl:k=0:=hx;refine ar hC hGL (an ?_);intro va vk vc hva;intros;obtain⟨bv,rfl,rfl⟩:=hva b_;exact Hf ⟨[],[],bv,vc,gz⟩ ⟨Nat.zero_le _,rfl⟩ (ak (SD (k:=6) (a':=.own 1 (.slice (some ⟨bv,0,none⟩) 1 vc)) rfl Tt) (ak (bi (e':=(9,.rop (yh (bS L 0)) 0)::WU t L 0 (.own 1 (.slice (some ⟨bv,0,none⟩) 1 vc))) (h':=[.row (.slice (some ⟨bv,0,none⟩) 1 vc) none 1 1 [.raw (.slice none 0 0)]]) ae aA) SH))
     ·obtain⟨x1,x2,x3,x5⟩:=hx;cases o with
      |true=>
       refine ar hC hGL (an ?_);intros;exact Hf y ⟨x3,x5⟩ (bi ae aA)
      |false=>
       have e1:(y.I++[y.c]).length=y.I.length+1:=by simp
       refine ar hC hGL (an ?_);intro va vk vc hva;intros;obtain⟨bv,rfl,rfl⟩:=hva a_;have x2:y.c.length≠0:=x2;have x3:y.I.length+y.c.length<=k:=x3;have q:=V2 (C:=C) (n:=f5.ntmps) (e:=(9,.rop (yh (bS L k)) 0)::WU t L k (.own 1 (.slice (some ⟨bv,0,none⟩) (y.I.length+1+1) vc))) (I:=y.I) (l:=y.c) (u:=y.u) (b:=bv) (cap:=vc) rfl;refine Hf ⟨y.I++[y.c],[],bv,vc,gz⟩ ⟨show(y.I++[y.c]).length+0<=k by omega,x5⟩ ?_;dsimp only[Gr.v,Gr.H];rw[e1] at q ⊢;exact ak (bi ae aA) q
    rintro⟨I,c,b,cap,u⟩ ⟨y1,y3⟩;dsimp only[Gr.v,Gr.H] at y1 y3 ⊢;have hst:=QC hk y3;have hIl:(jc I).length=I.length:=by simp[jc]
    have q2:(jc I++[AVal.own 0 u])[I.length]? =some (.own 0 u):=by rw[G_ a_,hIl,Nat.sub_self];rfl
    have ra:bZ (.slice (some ⟨b,0,none⟩) (I.length+1) cap) b (I.length+1):=⟨cap,rfl⟩;have ra2:bZ (.slice (some ⟨b,0,none⟩) (I.length+1) cap) b (I.length+1)/\I.length<(I.length+1)*1:=⟨ra,a_⟩;refine ar hC hGL (an ?_);intros;refine dC (e':=(9,.rop (yh (bS L x.1)) 0)::(10,.int .i64 (I.length:Nat))::WU t L x.1 (.own 1 (.slice (some ⟨b,0,none⟩) (I.length+1) cap))) (bi ⟨rfl,congrArg (λz=>some (AVal.int .i64 z)) a_,rfl,rfl,rfl,rfl,rfl,trivial⟩ (At _)) ?_;refine a7 mixed hC hGL false (λ(_:Option Addr×Nat×Nat)=>(9,.rop (yh (bS L x.1)) 0)::WU t L x.1 (.own 1 (.slice (some ⟨b,0,none⟩) (I.length+1) cap))) (λy=>[.row (.slice y.1 y.2.1 y.2.2) none 3 (c.length+1) (aN c++yh (bS L x.1)),.row (.slice (some ⟨b,0,none⟩) (I.length+1) cap) none 1 (I.length+1) ((jc I++[AVal.own 0 u]).take I.length++[.own 0 (.slice y.1 y.2.1 y.2.2)]++(jc I++[AVal.own 0 u]).drop (I.length+1))]) (.t 0 (.t 1 (.t 2 (.t 3 (.t 4 (.t 6 (.br 5 (.b 7 (.b 8 (.t 9 (.b 10 .done)))) (.b 7 (.b 5 (.b 8 (.t 9 (.b 10 .done)))))))))))) be xu ?_;rintro⟨va,vk,vc⟩;dsimp only
    rw[Jc hIl];refine an ?_;intros;refine ar hC hGL (an ?_);intros;refine fG (x.1+1,some (⟨I,c++[bS L x.1],b,cap,.slice va vk vc⟩, !Hg (bS L x.1))) ⟨hk,by simp,by simp;omega,hst⟩ (by dsimp only;omega) ae ?_;dsimp only[Y1,Gr.H,Gr.v];rw[mw,d_];exact aA
   ·have hge:L.length<=x.1:=by omega
    rcases x with⟨k,_|⟨y,o⟩⟩
    ·obtain rfl:k=0:=hx;have hG0:bH t=[]:=by
      rw[hG,s_ (Nat.le_zero.1 hge)];unfold fD;rfl
     rw[hG0];refine ar hC hGL (an ?_);intros;exact Hf () trivial (ak (wO (i:=0) (k:=6) (j:=0) (z6 []) rfl (λj h=>absurd h (Uf _)) rfl) (bi ae aA))
    ·obtain⟨x1,x2,x3,x5⟩:=hx;rw[hG,T1 x2 hge x5];refine ar hC hGL (an ?_);intros;exact Hf () trivial (ak (SG (k:=6) (by simp) rfl) (bi ae aA))
  by_cases h20:20<(bH t).length
  ·rw[if_pos h20] at eE;rw[hno (by rw[eE];exact λh=>by cases h),eE];simp only[Err.A,ls];refine ar hC hGL (aH ?_);intros;exact⟨[],Ug _,.inl ⟨rfl,rfl,rfl⟩⟩
  ·rw[if_neg h20] at eE;refine cut hC hGL [(0,.str t),(6,.list 1 (bH t).length (z6 (bH t)))] [] True bq λ_=> ?_;refine ar hC hGL (aH ?_);intros;refine jX 11 2 rfl ?_;have hz:xi t (bH t) 0=[]:=by unfold xi;rfl
   have hz2:qu []=[]:=by unfold qu;rfl
   refine lp hC hGL (λz:Nat×Value=>[(0,.str t),(6,.list 1 (bH t).length (z6 (bH t))),(11,.own 0 z.2),(58,.list 1 (bH t).length (z6 (bH t))),(59,.int .i64 ((bH t).length:Nat)),(60,.int .i64 (z.1:Nat))]) (λz=>[Wg z.2 (xi t (bH t) z.1)]) (λz=>z.1<=(bH t).length/\∀j,j<z.1->fY ((bH t).getD j []) (kS t (bH t) j)= .none) (λz=>(bH t).length-z.1) (0,gz) ⟨Nat.zero_le _,λj h=>absurd h (Uf _)⟩ ae (by dsimp only[Wg];rw[hz,hz2];rfl) ?_;rintro⟨k,v⟩ ⟨k1,k2⟩;dsimp only at k1 k2 ⊢;have hsl:=Ca (t:=t) (G:=bH t) k;by_cases hk:k<(bH t).length
   ·have hg:=λi (hi:i<(bH t).length)=>hs.2 ((bH t).getD i []) (sA hi);have hsn:=Eu (t:=t) (G:=bH t) k;have hat:=HN (t:=t) (G:=bH t) hk k2;rw[<-eE] at hat;have e9:k+1=((k:Int)+1).toNat:=by omega
    have hg2:=hg (k+1);have hen:kS t (bH t) k<=20100:=by
     unfold kS;split
     ·have:=(hB.1 (bS ((bH t).getD (k+1) []) 0) ((hg2 (by assumption)).2.2 _ (sA (by have:=(hg2 (by assumption)).2.1;omega)))).1;omega
     ·exact ht
    have hgk:=hg k hk;have h2:=UC hE hE2 hU hP hM hS t ((bH t).getD k []) (kS t (bH t) k) ht a_ (λl hl=>hB.1 l (hgk.2.2 l hl)) hen;have hEd:kS t (bH t) k=if k+1<(bH t).length then(bS ((bH t).getD (k+1) []) 0).a else t.length:=by unfold kS;rfl
    obtain⟨E,hX⟩:∃E,fY ((bH t).getD k []) (kS t (bH t) k)=E:=⟨_,rfl⟩;rw[hX] at h2 hat;generalize od ((bH t).getD k []) (kS t (bH t) k)=X at*
    rw[hEd] at h2;unfold Crd.A at h2;rcases E with _|e1|⟨e1,p1⟩
    ·have k3:=bL k2 hX;simp only[Err.A] at h2;by_cases hk2:k+1<(bH t).length;all_goals
      first|rw[if_pos hk2,e9] at h2|rw[if_neg hk2] at h2
      refine aH ?_;intro bX va vk vc hva;intros;refine fG (k+1,.slice va vk vc) ⟨hk,k3⟩ (by dsimp only;omega) ae ?_;rw[show Wg (.slice va vk vc) (xi t (bH t) (k+1))= .row (.slice va vk vc) none 2 ((xi t (bH t) k).length+1) (qu (xi t (bH t) k)++[.int .i64 X.v,.list 15 X.l.length (dK X.l)]) by show HEnt.row _ _ _ _ _=_;rw[hsn,d_,<-Bz];rfl];exact aA
    ·have hat:=hat (λh=>by cases h);rw[hno (by rw[hat];exact λh=>by cases h),hat];simp only[Err.A] at h2 ⊢;by_cases hk2:k+1<(bH t).length;all_goals
      first|rw[if_pos hk2,e9] at h2|rw[if_neg hk2] at h2
      refine aH ?_;intros;exact⟨[],Ug _,.inl ⟨rfl,rfl,rfl⟩⟩
    ·have hat:=hat (λh=>by cases h);rw[hno (by rw[hat];exact λh=>by cases h),hat];simp only[Err.A] at h2 ⊢;by_cases hk2:k+1<(bH t).length;all_goals
      first|rw[if_pos hk2,e9] at h2|rw[if_neg hk2] at h2
      refine aH ?_;intros;exact⟨[],Ug _,.inl ⟨rfl,rfl,rfl⟩⟩
   ·obtain rfl:k=(bH t).length:=by omega
    have eN:=rV k2;rw[eN] at eE;rw[eE] at eC ⊢;dsimp only at eC;rw[eC];simp only[Err.A];refine an ?_;intros;exact⟨_,At _,.inr ⟨0,v,rfl,rfl⟩⟩
theorem BZ {G:Glo}{m:Int}(hE:ab G errTy)(hE2:pH G)(hU:ab G utfTy)(hP:fF G)(hM:ab G (bQ m))(hS:qw G)(t:ω)(ht:t.length<=20100):ai prog G 5 [.str t] (.tuple [.list 2 (mL t).length (vC (mL t)),(mK t).A]):=
 dB (zw hE hE2 hU hP hM hS t ht) λ_ _ h=>GD h
end
end Go.Proofs.YtgpjhbhdbjdlgaaGreatDoor
