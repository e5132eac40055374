/- Parts of the proof of streamCards_card. -/
import GoSem.PinnedTables
import Derived.Test.YtgpjhbhdbjdlgaaGreatDoorBag
set_option linter.unusedVariables false
set_option linter.unusedSimpArgs false
set_option linter.unusedSectionVars false
namespace Go.Proofs.YtgpjhbhdbjdlgaaGreatDoor
open Go Go.RowKit
open Tryz
set_option maxRecDepth 20000
set_option maxHeartbeats 4000000
section
attribute [local irreducible] bJ au ax aR ab ad
abbrev Gx:List AVal:=[.str [94,94],.str [94],.str [94,110],.str [10],.str [94,39],.str [34]]
abbrev kT (br vc:Nat):HEnt:=.row (.slice (some ⟨br,0,none⟩) 6 vc) none 1 6 Gx
def wy:List AVal:=List.replicate 256 (.int .u8 0)
def mapM:List AVal:=(((wy.set 94 (.int .u8 1)).set 110 (.int .u8 1)).set 39 (.int .u8 1))
def m1 (i:Nat):Nat:=if i=39\/i=94\/i=110 then 1 else 0
def kV (i:Nat):Nat:=(if 39<i then 1 else 0)+(if 94<i then 1 else 0)+(if 110<i then 1 else 0)
theorem ut (i:Nat):kV (i+1)=kV i+m1 i:=by unfold kV m1;(repeat' split)<;>omega
theorem LC (i:Nat):kV i<=3:=by unfold kV;(repeat' split)<;>omega
theorem Vi (i:Nat):m1 i<=1:=by unfold m1;split<;>omega
theorem F6 {t:AVal}{n:Int}{M:List AVal}{i:Nat}{v:AVal}:(oy t n M).take (0+6+i*1)++[v]++(oy t n M).drop (0+6+i*1+1)=oy t n (M.take i++[v]++M.drop (i+1)):=by
 rw[show 0+6+i*1=i+6 by omega,show i+6+1=(i+1)+6 by omega];rfl
theorem F7 {t:AVal}{n:Int}{M:List AVal}{i:Nat}(h:M.length=256)(hi:i<256):Nat.ble (0+6+i*1+1) (oy t n M).length=true:=by
 refine Nat.ble_eq_true_of_le ?_;have:(oy t n M).length=M.length+6:=rfl;omega
theorem Pc {v w:AVal}{N a b c i:Nat}(hi:i<N):((((List.replicate N v).set a w).set b w).set c w)[i]? =some (if i=c\/i=a\/i=b then w else v):=by
 by_cases h1:i=c
 ·subst h1;rw[List.getElem?_set_self (by simpa using hi),if_pos (.inl rfl)]
 ·rw[M_ (Ne.symm h1)];by_cases h2:i=b
  ·subst h2;rw[List.getElem?_set_self (by simpa using hi),if_pos (.inr (.inr rfl))]
  ·rw[M_ (Ne.symm h2)];by_cases h3:i=a
   ·subst h3;rw[List.getElem?_set_self (by simpa using hi),if_pos (.inr (.inl rfl))]
   ·rw[M_ (Ne.symm h3),if_neg a_];simp[hi]
theorem Fy {i:Nat}(hi:i<256):mapM[i]? =some (.int .u8 (m1 i:Nat)):=by
 unfold mapM wy m1;rw[Pc hi];split<;>rfl
def m2 (i:Nat):Nat:=if i=39 then 0 else if i=94 then 1 else if i=110 then 2 else 3
theorem WR {i:Nat}(h:m1 i=0):m2 i=3:=by unfold m1 at h;unfold m2;(repeat' split)<;>(try split at h)<;>omega
theorem WQ {i:Nat}(h:m1 i≠0):m2 i=kV i:=by unfold m1 at h;unfold m2 kV;split at h<;>(repeat' split)<;>omega
def sn (i:Nat):List AVal:=(List.range 256).map λk=>.int .u8 ((if k<i then m2 k else m1 k:Nat):Int)
theorem Fz (i:Nat):(sn i).length=256:=by simp[sn]
theorem A2 {i:Nat}(hi:i<256):(sn i).take i++[.int .u8 (m2 i:Nat)]++(sn i).drop (i+1)=sn (i+1):=by
 refine List.ext_getElem? λk=> ?_;have hl:=Fz i;rcases Nat.lt_trichotomy k i with h|h|h
 ·rw[H_ (by simp;omega),H_ (by simp;omega),List.getElem?_take_of_lt h]
  unfold sn
  rw[List.getElem?_map,List.getElem?_map,List.getElem?_range a_]
  simp[h,show k<i+1 by omega]
 ·subst h
  rw[H_ (by simp;omega),G_ (by rw[i_];omega),i_,Nat.min_eq_left a_,Nat.sub_self]
  unfold sn
  rw[List.getElem?_map,List.getElem?_range hi]
  simp
 ·have h9:((sn i).take i++[AVal.int .u8 (m2 i:Nat)]).length=i+1:=by rw[d_,i_];simp;omega
  rw[G_ a_,h9,List.getElem?_drop,show i+1+(k-(i+1))=k by omega]
  unfold sn
  rw[List.getElem?_map,List.getElem?_map]
  by_cases hk:k<256
  ·rw[List.getElem?_range hk]
   simp[show ¬k<i by omega,show ¬k<i+1 by omega]
  ·rw[P_ (by simp;omega)]
   rfl
abbrev gI (br vc bl:Nat)(l:Env):Env:=(0,.own 0 (.slice (some ⟨br,0,none⟩) 6 vc))::(3,.own 2 (pv bl 0))::l
abbrev gZ (bl:Nat)(l:List AVal):HEnt:=.cells bl (some 392) l
abbrev Va (bg bt n1 n2 n3 b7 n4:Nat):Heap:=[.cells bg (some 392) (oy (.own 3 (.slice (some ⟨bt,0,none⟩) 3 3)) 3 mapD),.row (.slice (some ⟨bt,0,none⟩) 3 3) (some 387) 1 3 [.raw (.pointer none),.own 4 (pv n1 0),.raw (.pointer none)],.cells n1 (some 390) [.str [],.int .i64 0,.str [],.raw (.pointer none),.own 7 (.slice (some ⟨b7,0,none⟩) 3 3)],qA n2 [94] 6,qA n3 [10] 4,.row (.slice (some ⟨b7,0,none⟩) 3 3) (some 387) 1 3 [.own 8 (pv n4 0),.own 5 (pv n2 0),.own 6 (pv n3 0)],.cells n4 (some 390) [.str [34],.int .i64 2,.str [],.raw (.pointer none),.raw (.slice none 0 0)]]
theorem YQ {G:Glo}(br vc:Nat)(e1:HEnt):ad prog G 260 [.raw (.slice (some ⟨br,0,none⟩) 6 vc)] [kT br vc,e1]
  (λr H=>∃bg bt n1 n2 n3 b7 n4,r= .ret (.own 2 (pv bg 0))/\H=[kT br vc,e1]++Va bg bt n1 n2 n3 b7 n4):=by
 have hGL:ab G []:=al;refine jx 0 func260 call260 rfl rfl rfl rfl hGL rfl ?_
 intro C hC
 have r0:bZ (.slice (some ⟨br,0,none⟩) 6 vc) br 6:=⟨_,rfl⟩
 have d0:Gx[0]? =some (.str [94,94]):=rfl
 have d1:Gx[1]? =some (.str [94]):=rfl
 have d2:Gx[2]? =some (.str [94,110]):=rfl
 have d3:Gx[3]? =some (.str [10]):=rfl
 have d4:Gx[4]? =some (.str [94,39]):=rfl
 have d5:Gx[5]? =some (.str [34]):=rfl
 refine je ?_
 intro bl
 intros
 refine rds hC hGL 4 ?_
 refine je ?_
 intros
 refine rds hC hGL 3 ?_
 refine je ?_
 intros
 refine a7 mixed hC hGL false (λ(_:Unit)=>gI br vc bl [(4,.int .i64 0),(5,.str [94,94]),(6,.int .i64 0)]) (λ_=>[kT br vc,e1,gZ bl (oy (.raw (.slice none 0 0)) 0 (wy.set 94 (.int .u8 1)))]) .p0 be ?_ ?_
 ·refine je ?_
  intros
  exact⟨(),⟨rfl,rfl,rfl,rfl,rfl,trivial⟩,rfl⟩
 intro _
 refine je ?_
 intros
 refine a7 mixed hC hGL false (λ(_:Unit)=>gI br vc bl [(4,.int .i64 0),(5,.str [94,94]),(6,.int .i64 1)]) (λ_=>[kT br vc,e1,gZ bl (oy (.raw (.slice none 0 0)) 0 (wy.set 94 (.int .u8 1)))]) .p0 be ?_ ?_
 ·refine je ?_
  intros
  exact⟨(),⟨rfl,rfl,rfl,rfl,rfl,trivial⟩,rfl⟩
 intro _
 refine je ?_
 intros
 refine rds hC hGL 3 ?_
 refine je ?_
 intros
 refine a7 mixed hC hGL false (λ(_:Unit)=>gI br vc bl [(4,.int .i64 2),(5,.str [94,110]),(6,.int .i64 0)]) (λ_=>[kT br vc,e1,gZ bl (oy (.raw (.slice none 0 0)) 0 (wy.set 94 (.int .u8 1)))]) .p0 be ?_ ?_
 ·refine je ?_
  intros
  exact⟨(),⟨rfl,rfl,rfl,rfl,rfl,trivial⟩,rfl⟩
 intro _
 refine je ?_
 intros
 refine a7 mixed hC hGL false (λ(_:Unit)=>gI br vc bl [(4,.int .i64 2),(5,.str [94,110]),(6,.int .i64 1)]) (λ_=>[kT br vc,e1,gZ bl (oy (.raw (.slice none 0 0)) 0 ((wy.set 94 (.int .u8 1)).set 110 (.int .u8 1)))]) .p0 be ?_ ?_
 ·refine je ?_
  intros
  exact⟨(),⟨rfl,rfl,rfl,rfl,rfl,trivial⟩,rfl⟩
 intro _
 refine je ?_
 intros
 refine rds hC hGL 3 ?_
 refine je ?_
 intros
 refine a7 mixed hC hGL false (λ(_:Unit)=>gI br vc bl [(4,.int .i64 4),(5,.str [94,39]),(6,.int .i64 0)]) (λ_=>[kT br vc,e1,gZ bl (oy (.raw (.slice none 0 0)) 0 ((wy.set 94 (.int .u8 1)).set 110 (.int .u8 1)))]) .p0 be ?_ ?_
 ·refine je ?_
  intros
  exact⟨(),⟨rfl,rfl,rfl,rfl,rfl,trivial⟩,rfl⟩
 intro _
 refine je ?_
 intros
 refine a7 mixed hC hGL false (λ(_:Unit)=>gI br vc bl [(4,.int .i64 4),(5,.str [94,39]),(6,.int .i64 1)]) (λ_=>[kT br vc,e1,gZ bl (oy (.raw (.slice none 0 0)) 0 mapM)]) .p0 be ?_ ?_
 ·refine je ?_
  intros
  exact⟨(),⟨rfl,rfl,rfl,rfl,rfl,trivial⟩,rfl⟩
 intro _
 refine je ?_
 intros
 have hs:∀i:Nat,((kV i:Nat):Int)+(m1 i:Nat)=((kV (i+1):Nat):Int):=λi=>by rw[ut,Int.natCast_add]
 refine lp hC hGL (λi:Nat=>gI br vc bl [(40,.agg mapM),(41,.int .i64 (i:Nat))]) (λi=>[kT br vc,e1,gZ bl (oy (.raw (.slice none 0 0)) ((kV i:Nat):Int) mapM)]) (λi=>i<=256) (λi=>256-i) 0 ?_ ae rfl ?_
 ·omega
 ·intro i hi
  have hc3:=LC i
  have hm1:=Vi i
  by_cases hlt:i<256
  ·refine je ?_
   intros
   refine aY hC hGL (nb (i:=i) rfl rfl rfl rfl rfl rfl rfl hlt (Fy hlt) rfl) rfl rfl ?_
   refine je ?_
   intros
   refine cQ (i+1) ?_ ?_ ⟨rfl,rfl,rfl,rfl,trivial⟩ ?_
   ·show i+1<=256;omega
   ·show 256-(i+1)<256-i;omega
   ·show _=[kT br vc,e1,gZ bl (oy (.raw (.slice none 0 0)) ((kV (i+1):Nat):Int) mapM)]
    rw[<-hs]
    rfl
  ·obtain rfl:i=256:=by omega
   refine je ?_
   intros
   refine lp hC hGL (λx:Nat×List AVal=>gI br vc bl [(9,.int .u8 ((kV x.1:Nat):Int)),(57,.agg mapM),(58,.int .i64 (x.1:Nat))]) (λx=>[kT br vc,e1,gZ bl (oy (.raw (.slice none 0 0)) 3 x.2)]) (λx=>x.1<=256/\x.2=sn x.1) (λx=>256-x.1) (0,sn 0) ⟨Nat.zero_le _,rfl⟩ ⟨rfl,rfl,rfl,rfl,rfl,trivial⟩ rfl ?_
   rintro⟨i,M⟩ ⟨hi,hM⟩
   have hi:i<=256:=hi
   have hM:M=sn i:=hM
   have hMl:M.length=256:=by rw[hM];exact Fz i
   have hc3:=LC i
   have hm1:=Vi i
   by_cases hlt:i<256
   ·refine je ?_
    intros
    refine aY hC hGL (nb (i:=i) rfl rfl rfl rfl rfl rfl rfl hlt (Fy hlt) rfl) rfl rfl ?_
    refine xm ?_
    repeat' first|exact .n|apply Lc.mk
    all_goals intros
    ·refine a7 mixed hC hGL false (λ(_:Unit)=>gI br vc bl [(9,.int .u8 ((kV i:Nat):Int)),(57,.agg mapM),(58,.int .i64 (i:Nat))]) (λ_=>[kT br vc,e1,gZ bl (oy (.raw (.slice none 0 0)) 3 (M.take i++[.int .u8 3]++M.drop (i+1)))]) (.t 0 (.t 1 (.t 2 (.t 3 (.t 4 (.t 7 (.t 8 (.b 5 (.t 6 (.t 9 (.b 10 .done))))))))))) be ?_ ?_
     ·refine je ?_
      intros
      erw[F7 hMl hlt]
      refine oP rfl ?_
      erw[cZ,F6]
      refine je ?_
      intros
      exact⟨(),⟨rfl,rfl,rfl,rfl,rfl,trivial⟩,rfl⟩
     ·intro _
      refine je ?_
      intros
      have h0:m1 i=0:=by omega
      have h1:m1 i+kV i=kV (i+1):=by rw[ut];omega
      rw[h0,Nat.zero_add] at h1
      refine cQ (i+1,M.take i++[.int .u8 3]++M.drop (i+1)) ?_ ?_ ⟨rfl,rfl,?_,rfl,rfl,trivial⟩ rfl
      ·refine⟨hlt,?_⟩
       show M.take i++[.int .u8 3]++M.drop (i+1)=sn (i+1)
       rw[hM,<-A2 hlt,WR h0]
       rfl
      ·show 256-(i+1)<256-i;omega
      ·show some (AVal.int .u8 ((kV i:Nat):Int))=some (AVal.int .u8 ((kV (i+1):Nat):Int))
       rw[h1]
    ·erw[F7 hMl hlt]
     refine oP rfl ?_
     erw[cZ,F6]
     refine je ?_
     intros
     have h0:m1 i≠0:=by omega
     have h1:m1 i+kV i=kV (i+1):=by rw[ut];omega
     refine cQ (i+1,M.take i++[.int .u8 ((kV i:Nat):Int)]++M.drop (i+1)) ?_ ?_ ⟨rfl,rfl,?_,rfl,rfl,trivial⟩ rfl
     ·refine⟨hlt,?_⟩
      show M.take i++[.int .u8 ((kV i:Nat):Int)]++M.drop (i+1)=sn (i+1)
      rw[hM,<-A2 hlt,WQ h0]
     ·show 256-(i+1)<256-i;omega
     ·show some (AVal.int .u8 (((kV i:Nat):Int)+1))=some (AVal.int .u8 ((kV (i+1):Nat):Int))
      rw[show((kV (i+1):Nat):Int)=(kV i:Nat)+1 by omega]
   ·obtain rfl:i=256:=by omega
    subst hM
    refine je ?_
    intros
    refine AP (m:=3) hC hGL rfl rfl a_ rfl rfl rfl rfl rfl rfl rfl rfl (λbt=> ?_)
    refine je ?_
    intros
    refine rds hC hGL 4 ?_
    refine je ?_
    intros
    refine a7 mixed hC hGL false (λ(_:Nat×Nat)=>gI br vc bl [(12,.int .i64 0)]) (λy=>[kT br vc,e1,vV bl bt,.row (.slice (some ⟨bt,0,none⟩) 3 3) (some 387) 1 3 [.raw (.pointer none),.own 4 (pv y.1 0),.raw (.pointer none)],.cells y.1 (some 390) [.str [],.int .i64 0,.str [94],.own 5 (pv y.2 0),.raw (.slice none 0 0)],.cells y.2 (some 390) [.str [94],.int .i64 6,.str [],.raw (.pointer none),.raw (.slice none 0 0)]]) .p10 be ?_ ?_
    ·refine xm ?_
     repeat' first|exact .n|apply Lc.mk
     all_goals intros
     ·refine⟨_,O9 bl bt _ _,?_,?_⟩
      ·rintro v H ⟨n1,n2,e,rfl⟩
       cases e
       refine je ?_
       intros
       exact⟨(n1,n2),⟨rfl,rfl,rfl,trivial⟩,rfl⟩
      ·rintro v H ⟨n1,n2,e,rfl⟩
       cases e
     ·refine⟨_,O9 bl bt _ _,?_,?_⟩
      ·rintro v H ⟨n1,n2,e,rfl⟩
       cases e
       refine je ?_
       intros
       exact⟨(n1,n2),⟨rfl,rfl,rfl,trivial⟩,rfl⟩
      ·rintro v H ⟨n1,n2,e,rfl⟩
       cases e
    intro y
    refine je ?_
    intros
    refine a7 mixed hC hGL false (λ(_:Nat×Nat)=>gI br vc bl [(12,.int .i64 2)]) (λz=>[kT br vc,e1,vV bl bt,.row (.slice (some ⟨bt,0,none⟩) 3 3) (some 387) 1 3 [.raw (.pointer none),.own 4 (pv y.1 0),.raw (.pointer none)],.cells y.1 (some 390) [.str [],.int .i64 0,.str [],.raw (.pointer none),.own 7 (.slice (some ⟨z.2,0,none⟩) 3 3)],.cells y.2 (some 390) [.str [94],.int .i64 6,.str [],.raw (.pointer none),.raw (.slice none 0 0)],.cells z.1 (some 390) [.str [10],.int .i64 4,.str [],.raw (.pointer none),.raw (.slice none 0 0)],.row (.slice (some ⟨z.2,0,none⟩) 3 3) (some 387) 1 3 [.raw (.pointer none),.own 5 (pv y.2 0),.own 6 (pv z.1 0)]]) .p10 be ?_ ?_
    ·refine xm ?_
     repeat' first|exact .n|apply Lc.mk
     all_goals intros
     ·refine⟨_,O8 bl bt y.1 y.2 _ _,?_,?_⟩
      ·rintro v H ⟨n3,b7,e,rfl⟩
       cases e
       refine je ?_
       intros
       exact⟨(n3,b7),⟨rfl,rfl,rfl,trivial⟩,rfl⟩
      ·rintro v H ⟨n3,b7,e,rfl⟩
       cases e
     ·refine⟨_,O8 bl bt y.1 y.2 _ _,?_,?_⟩
      ·rintro v H ⟨n3,b7,e,rfl⟩
       cases e
       refine je ?_
       intros
       exact⟨(n3,b7),⟨rfl,rfl,rfl,trivial⟩,rfl⟩
      ·rintro v H ⟨n3,b7,e,rfl⟩
       cases e
    intro z
    refine je ?_
    intros
    refine a7 mixed hC hGL false (λ(_:Nat)=>gI br vc bl [(12,.int .i64 4)]) (λq=>[kT br vc,e1,vV bl bt,.row (.slice (some ⟨bt,0,none⟩) 3 3) (some 387) 1 3 [.raw (.pointer none),.own 4 (pv y.1 0),.raw (.pointer none)],.cells y.1 (some 390) [.str [],.int .i64 0,.str [],.raw (.pointer none),.own 7 (.slice (some ⟨z.2,0,none⟩) 3 3)],.cells y.2 (some 390) [.str [94],.int .i64 6,.str [],.raw (.pointer none),.raw (.slice none 0 0)],.cells z.1 (some 390) [.str [10],.int .i64 4,.str [],.raw (.pointer none),.raw (.slice none 0 0)],.row (.slice (some ⟨z.2,0,none⟩) 3 3) (some 387) 1 3 [.own 8 (pv q 0),.own 5 (pv y.2 0),.own 6 (pv z.1 0)],.cells q (some 390) [.str [34],.int .i64 2,.str [],.raw (.pointer none),.raw (.slice none 0 0)]]) .p10 be ?_ ?_
    ·refine xm ?_
     repeat' first|exact .n|apply Lc.mk
     all_goals intros
     ·refine⟨_,O7 bl bt y.1 y.2 z.1 z.2 _ _,?_,?_⟩
      ·rintro v H ⟨n4,e,rfl⟩
       cases e
       refine je ?_
       intros
       exact⟨n4,⟨rfl,rfl,rfl,trivial⟩,rfl⟩
      ·rintro v H ⟨n4,e,rfl⟩
       cases e
     ·refine⟨_,O7 bl bt y.1 y.2 z.1 z.2 _ _,?_,?_⟩
      ·rintro v H ⟨n4,e,rfl⟩
       cases e
       refine je ?_
       intros
       exact⟨n4,⟨rfl,rfl,rfl,trivial⟩,rfl⟩
      ·rintro v H ⟨n4,e,rfl⟩
       cases e
    intro q
    refine je ?_
    intros
    exact⟨_,At _,bl,bt,y.1,y.2,z.1,z.2,q,rfl,rfl⟩
end
section
attribute [local irreducible] bJ au ax aR ab ad mapD
structure uE where
 bg:Nat
 bt:Nat
 n1:Nat
 n2:Nat
 n3:Nat
 b7:Nat
 n4:Nat
abbrev uE.H (y:uE):Heap:=Va y.bg y.bt y.n1 y.n2 y.n3 y.b7 y.n4
abbrev Xu (y:uE):AVal:=.iface 368 (.own 2 (pv y.bg 0))
abbrev Nj (br vc:Nat):List AVal:=(fO (.slice (some ⟨br,0,none⟩) 6 vc)).set 1 (.int .i32 1)
theorem NA {G:Glo}(br bl vc:Nat):ad prog G 248 [.raw (pv bl 0)] [kT br vc,.cells bl (some 324) (Nj br vc)]
  (λr H=>∃y:uE,r= .ret (Xu y)/\H=[kT br vc,.cells bl (some 324) (Nj br vc)]++y.H):=by
 have hGL:ab G []:=al;have e1:=YQ (G:=G) br vc (.cells bl (some 324) (Nj br vc));unfold Nj fO at*
 refine jx 1 func248 call248 rfl rfl rfl rfl hGL rfl ?_;intro C hC;have r0:bZ (.slice (some ⟨br,0,none⟩) 6 vc) br 6:=⟨_,rfl⟩;have d0:Gx[0]? =some (.str [94,94]):=rfl;refine an ?_;intros;refine rds hC hGL 1 ?_;refine an ?_;intros;refine⟨_,e1,?_,?_⟩
 ·rintro v H ⟨bg,bt,n1,n2,n3,b7,n4,e,rfl⟩;cases e;refine an ?_;intros;exact⟨_,At _,⟨bg,bt,n1,n2,n3,b7,n4⟩,rfl,rfl⟩
 ·rintro v H ⟨bg,bt,n1,n2,n3,b7,n4,e,rfl⟩;cases e
abbrev Zb (y:uE):List AVal:=[.int .u32 0,.int .i32 1,.int .u32 0,Xu y,.raw (.slice none 0 0)]
abbrev Za (y:uE):List AVal:=[.int .u32 1,.int .i32 0,.int .u32 0,Xu y,.raw (.slice none 0 0)]
theorem PG {G:Glo}(br bl vc:Nat):ad prog G 235 [.raw (pv bl 0)] [kT br vc,.cells bl (some 324) (Nj br vc)]
  (λr H=>∃y:uE,r= .ret (.tuple [])/\H=[kT br vc,.cells bl (some 324) (Zb y)]++y.H):=by
 have hGL:ab G []:=al;have e1:=NA (G:=G) br bl vc;unfold Nj fO at*
 refine jx 1 func235 call235 rfl rfl rfl rfl hGL rfl ?_;intro C hC;refine an ?_;intros;refine⟨_,e1,?_,?_⟩
 ·rintro v' H2 ⟨y,e,rfl⟩;cases e;refine an ?_;intros;exact⟨_,At _,y,rfl,rfl⟩
 ·rintro v' H2 ⟨y,e,rfl⟩;cases e
theorem Xs {G:Glo}(br bl vc:Nat):ad prog G 234 [.raw (pv bl 0),.func (.func 235) [.raw (pv bl 0)] []] [kT br vc,.cells bl (some 324) (fO (.slice (some ⟨br,0,none⟩) 6 vc))]
  (λr H=>∃y:uE,r= .ret (.tuple [])/\H=[kT br vc,.cells bl (some 324) (Za y)]++y.H):=by
 have e1:=PG (G:=G) br bl vc;have e2:=KA (G:=G) (b:=bl) (off:=0) (fid:=235) (eT:=some 324) (cs:=fO (.slice (some ⟨br,0,none⟩) 6 vc)) (T:=[kT br vc]) (Y:=uE) (cs2:=Zb) (T2:=λy=>kT br vc::y.H) (l1:=[.raw (pv bl 0)]) (l2:=[]) rfl rfl (λ_=>rfl) (λ_=>rfl) rfl rfl
  (by
   refine iE (iD (List.Perm.swap _ _ _) e1) ?_;rintro r H ⟨y,rfl,rfl⟩;exact⟨_,List.Perm.swap _ _ _,y,rfl,rfl⟩)
 refine iE (iD (List.Perm.swap _ _ _) e2) ?_;rintro r H ⟨y,rfl,rfl⟩;exact⟨_,List.Perm.swap _ _ _,y,rfl,rfl⟩
end
section
abbrev gi (s:ω):List AVal:=s.map λc=>.int .u8 (c.toNat:Int)
abbrev Cp (v:Value)(s:ω):HEnt:=.row v (some 5) 1 s.length (gi s)
theorem O6 (v:Value)(s t:ω):HEnt.row v (some 5) 1 (s.length+t.length) (gi s++gi t)=Cp v (s++t):=by
 simp only[Cp,gi,d_,Nm]
section
variable {P:Program} [Tab P] {C:Ctx} {n:Nat} {env:Env} {H:Heap} {Q:aL->Env->Heap->Prop} {ops:Array Oper} {rest:List Oper} {G:Glo} {GL:List (Nat×List AVal)}
variable {d:Nat} {t:TypeId} {p:String} {af:Array Edge} {g:Option (Nat×Bool)} {b:Bool}
variable {x y:Operand} {T:TypeId} {xT:TI} {tx ty:TypeId}
theorem Fi {i n0:Nat}{v:Value}{s:ω}{cs z:List AVal}{eT:Option TypeId}{e:TypeId}{xe xx:TI}(hC:C.G=G)(hGL:ab G GL)(hg:aQ ops env g=some (b,b))(hdn:Nat.ble (d+1) n=true)
  (hx:ah env x=some (.own i v)) (hi:H[i]? =some (.row v eT 1 n0 cs)) (hy:ah env y=some (.str s))
  (h1:bj P T=some xT) (h2:xT.desc= .slice e) (h3:bj P e=some xe) (h4:xe.size=1) (h6:Nat.ble xe.bytes 1024=true) (h7:bK xe.zero=some z) (h8:z.length=1) (h9:bj P tx=some xx) (h10:xx.desc= .string)
  (hlen:n0+s.length<=137438953472) (hty:VZ eT e=true)
  (h:∀a k c,mN P C n G GL ops Q rest ((d,.own i (.slice a k c))::env) (H.set i (.row (.slice a k c) eT 1 (n0+s.length) (cs++gi s)))):
  uD P C n ops ({dst:=some d,op:=.call {callee:=.builtin .append,args:=[x,y].toArray,argTypes:=[T,tx].toArray},type:=t,pos:=p,after:=af,guard:=g}::rest) env H Q:=
 ⟨AO hg hdn hx hi hy h1 h2 h3 h4 rfl h6 h7 h8 (λR v hv=>S1 hv h9 h10) hlen (JX hty) λv'=>mH (qi hi) λ⟨a,k,c,e,_⟩=>by subst e;exact fm hC hGL _ _ _ (h a k c)⟩
theorem Ew {s:ω}{i m:Nat}{v:Value}{eT:Option TypeId}{S e:TypeId}{xS xe:TI}
  (hx:ah env x=some (.own i v)) (hi:H[i]? =some (.row v eT 1 m (gi s)))
  (h1:bj P S=some xS) (h2:xS.desc= .slice e) (h5:bj P e=some xe) (h6:xe.desc= .int .u8) (h3:bj P T=some xT) (h4:xT.desc= .string):bE P C H env (.convert S T x) (.str s):=by
 obtain⟨k,rfl,hs⟩:=mv hx;exact eS hs (HQ (by simp only[ah];exact iB) hi rfl h1 h2 h5 h6 h3 h4)
end
end
section
attribute [local irreducible] bJ au ax aR ab ad mapD
abbrev VP (bw:Nat)(v:Value):HEnt:=.cells bw (some 426) [.own 9 v]
theorem uy {G:Glo}(x0 x1 x2 x3 x4 x5 x6 x7 x8:HEnt)(bw:Nat)(v:Value)(b t:ω)(hl:b.length+t.length<=137438953472):
  ad prog G 340 [.raw (pv bw 0),.str t] [x0,x1,x2,x3,x4,x5,x6,x7,x8,Cp v b,VP bw v]
  (λr H=>∃va vk vc,r= .ret (.tuple [.int .i64 t.length,.raw .nilIface])/\H=[x0,x1,x2,x3,x4,x5,x6,x7,x8,Cp (.slice va vk vc) (b++t),VP bw (.slice va vk vc)]):=by
 have hGL:ab G []:=al;refine jx 10 func340 call340 rfl rfl rfl rfl hGL rfl ?_
 intro C hC
 refine an ?_
 intros
 refine Fi hC hGL rfl rfl rfl rfl rfl rfl rfl rfl rfl rfl rfl rfl rfl rfl hl rfl ?_
 intro va vk vc
 refine an ?_
 intros
 exact⟨_,At _,va,vk,vc,rfl,by rw[O6]⟩
theorem YY:∀v w,(Instr.typeAssert (.iface 427 v) 429 431 true).run prog w= .ok (.tuple #[.iface 427 v,.bool true]) w:=by intro v w;kernel_rfl
theorem W4 {G:Glo}(v:Value):ai prog G 333 [.iface 427 (.raw v)] (.iface 427 (.raw v)):=by
 have h:=YY
 refine aw func333 call333 λC hC hGL=> ?_;exact bq
theorem P7 (a:AVal):∀R v,bn R a v→∀w,∃u,(Go.method (prog.types.size+Made.depth) 427 v "WriteString").run prog w= .ok (340,u) w∧bn R a u:=by
 intro R v hv w
 exact⟨v,be,hv⟩
section
variable {P:Program} [Tab P] {C:Ctx} {env:Env} {H:Heap} {x:Operand}
theorem na {T:TypeId}{a:AVal}{name:String}{l2:List AVal}(hx:ah env x=some (.func (.method name) [.iface T a] l2))
  (hn:∀R v,bn R a v->∀w,(nilAhead (P.types.size+Made.depth) T v name).run P w= .ok (some false) w):bE P C H env (.nilCheck x) (.func (.method name) [.iface T a] l2):=by
 intro R ρ w hm hf dst t p af g;have hr:=hf _ _ hx;obtain⟨A,B,e,h1,h2⟩:=bC hr rfl;simp only[o_,and_true] at e;obtain⟨v,l,hA,hv,rfl⟩:=h1;obtain⟨u,e2,hu⟩:=bC hv rfl;simp only[o_,and_true] at e2;subst e2;have hA0:A[0]? =some (.iface T u):=by rw[<-Array.getElem?_toList,hA];rfl
 have hp:(program).run P w= .ok P w:=rfl;refine⟨.func (.method name) A B,?_,by rw[<-e];exact hr⟩;simp only[execOp,e,hA0,e_,hp,c_,hn R u hu w,bne_self_eq_false,Bu,aaq,h_]
end
theorem Vh (b:Nat):∀R v,bn R (.raw (pv b 0)) v→∀w,(nilAhead (prog.types.size+Made.depth) 427 v "WriteString").run prog w= .ok (some false) w:=by
 intro R v hv w
 obtain rfl:=aq.1 hv
 kernel_rfl
end
section
theorem P4 {i:Nat}(hi:i<256):mapD[i]? =some (.int .u8 (m2 i:Nat)):=by
 unfold mapD m2;by_cases h1:i=110
 ·subst h1;rfl
 ·rw[M_ (Ne.symm h1)];by_cases h2:i=94
  ·subst h2;rfl
  ·rw[M_ (Ne.symm h2)];by_cases h3:i=39
   ·subst h3;rfl
   ·rw[M_ (Ne.symm h3),if_neg h3,if_neg h2,if_neg h1];rw[List.getElem?_replicate_of_lt hi];rfl
attribute [local irreducible] bJ au ax aR ab ad mapD
theorem jw {i:Nat}{t:AVal}{v:Int}(hi:i<256)(h:(m2 i:Int)=v):some (AVal.int .u8 v)=(oy t 3 mapD)[0+6+i*1]? :=by
 rw[show 0+6+i*1=i+6 by omega,<-h];exact(P4 hi).symm
def KN (s:ω):ω×Int×Bool:=
 if s.length<2 then([],0,false) else if aa s 1=94 then([94],2,true) else if aa s 1=110 then([10],2,true) else if aa s 1=39 then([34],2,true) else([],0,false)
theorem yd {G:Glo}(x0 x1:HEnt)(y:uE)(s:ω)(hl:s.length<=1000000)(h0:s.length=0\/aa s 0=94):
  ad prog G 334 [.raw (pv y.bg 0),.str s,.bool false] ([x0,x1]++y.H)
   (λr H=>r= .ret (.tuple [.str (KN s).1,.int .i64 (KN s).2.1,.bool (KN s).2.2])/\H=[x0,x1]++y.H):=by
 have hGL:ab G []:=al
 refine jx 2 func334 call334 rfl rfl rfl rfl hGL rfl ?_
 intro C hC
 refine an ?_
 intros
 refine rds hC hGL 4 ?_
 repeat' (first|(conv=>whnf);first|refine .w ?_|refine Ix.v ?_|refine Sd.v ?_|refine Sl.v ?_|apply eu|refine S7 ?_ ?_<;>(intro hb;try exact dd hb)|apply aT|(apply cR<;>intro hb)|(apply cX;intro hbd)|(apply cY;intro bl)|exact True.intro|(apply pB;intro C hC)|apply pz|apply oY|(apply oZ;exact rfl)|(show Rt _ _ _;exact cP)|fail)
 all_goals try conv=>whnf
 ·apply xq
  ·unfold KN;rw[if_pos a_];rfl
  ·exact At _
 ·have hb0:aa s 0=94:=h0.resolve_left hb
  have g:=jw (i:=aa s 0) (t:=.own 3 (.slice (some ⟨y.bt,0,none⟩) 3 3)) (v:=1) a_ (by rw[hb0];rfl)
  have q3:bZ (.slice (some ⟨y.bt,0,none⟩) 3 3) y.bt 3:=⟨_,rfl⟩
  have q7:bZ (.slice (some ⟨y.b7,0,none⟩) 3 3) y.b7 3:=⟨_,rfl⟩
  refine a7 mixed hC hGL true (λ(_:Unit)=>[(0,.own 2 (pv y.bg 0)),(1,.str s),(2,.bool false),(6,.str []),(7,.int .i64 0),(8,.bool false),(9,.int .i64 0),(10,.own 2 (pv y.bg 0)),(11,.int .i64 0),(12,.int .u8 1)]) (λ_=>[x0,x1]++y.H) .p2 be ?_ ?_
  ·refine an ?_
   intros
   erw[<-g]
   refine an ?_
   intros
   exact⟨(),⟨rfl,rfl,rfl,rfl,rfl,rfl,rfl,rfl,rfl,rfl,trivial⟩,rfl⟩
  intro _
  refine an ?_
  intros
  refine lr rfl rfl ?_
  repeat' (first|(conv=>whnf);first|refine .w ?_|refine Ix.v ?_|refine Sd.v ?_|refine Sl.v ?_|apply eu|refine S7 ?_ ?_<;>(intro hb;try exact dd hb)|apply aT|(apply cR<;>intro hb)|(apply cX;intro hbd)|(apply cY;intro bl)|exact True.intro|(apply pB;intro C hC)|apply pz|apply oY|(apply oZ;exact rfl)|(show Rt _ _ _;exact cP)|fail)
  all_goals try conv=>whnf
  ·apply xq
   ·have hb:s.length-1=0:=by rw[<-k_];exact hb
    unfold KN;rw[if_pos a_]
   ·exact At _
  ·have hb:s.length-1≠0:=by rw[<-k_];exact hb
   have hb1:aa (s.drop 1) 0=aa s 1:=by simp[aa]
   have hl2:2<=s.length:=by omega
   have hq:=bB s 1
   rcases(show aa s 1=94\/aa s 1=110\/aa s 1=39\/(aa s 1≠94/\aa s 1≠110/\aa s 1≠39) by omega) with hk|hk|hk|⟨k1,k2,k3⟩
   ·have g2:=jw (i:=aa (s.drop 1) 0) (t:=.own 3 (.slice (some ⟨y.bt,0,none⟩) 3 3)) (v:=1) (by rw[hb1];exact hq) (by rw[hb1,hk];rfl)
    refine a7 mixed hC hGL true (λ(_:Unit)=>[(0,.own 2 (pv y.bg 0)),(1,.str (s.drop 1)),(2,.bool false),(6,.str []),(7,.int .i64 0),(8,.bool false),(9,.int .i64 0),(10,.own 4 (pv y.n1 0)),(11,.int .i64 1),(12,.int .u8 1)]) (λ_=>[x0,x1]++y.H) .p2 be ?_ ?_
    ·refine an ?_
     intros
     erw[<-g2]
     refine an ?_
     intros
     exact⟨(),⟨rfl,rfl,rfl,rfl,rfl,rfl,rfl,rfl,rfl,rfl,trivial⟩,rfl⟩
    intro _
    refine an ?_
    intros
    refine lr rfl rfl ?_
    refine xn ?_
    repeat' first|exact .n|apply Lc.mk
    all_goals intros
    all_goals (apply xq;(unfold KN;rw[if_neg a_,if_pos hk];rfl);exact At _)
   ·have g2:=jw (i:=aa (s.drop 1) 0) (t:=.own 3 (.slice (some ⟨y.bt,0,none⟩) 3 3)) (v:=2) (by rw[hb1];exact hq) (by rw[hb1,hk];rfl)
    refine a7 mixed hC hGL true (λ(_:Unit)=>[(0,.own 2 (pv y.bg 0)),(1,.str (s.drop 1)),(2,.bool false),(6,.str []),(7,.int .i64 0),(8,.bool false),(9,.int .i64 0),(10,.own 4 (pv y.n1 0)),(11,.int .i64 1),(12,.int .u8 2)]) (λ_=>[x0,x1]++y.H) .p2 be ?_ ?_
    ·refine an ?_
     intros
     erw[<-g2]
     refine an ?_
     intros
     exact⟨(),⟨rfl,rfl,rfl,rfl,rfl,rfl,rfl,rfl,rfl,rfl,trivial⟩,rfl⟩
    intro _
    refine an ?_
    intros
    refine lr rfl rfl ?_
    refine xn ?_
    repeat' first|exact .n|apply Lc.mk
    all_goals intros
    all_goals (apply xq;(unfold KN;rw[if_neg a_,if_neg a_,if_pos hk];rfl);exact At _)
   ·have g2:=jw (i:=aa (s.drop 1) 0) (t:=.own 3 (.slice (some ⟨y.bt,0,none⟩) 3 3)) (v:=0) (by rw[hb1];exact hq) (by rw[hb1,hk];rfl)
    refine a7 mixed hC hGL true (λ(_:Unit)=>[(0,.own 2 (pv y.bg 0)),(1,.str (s.drop 1)),(2,.bool false),(6,.str []),(7,.int .i64 0),(8,.bool false),(9,.int .i64 0),(10,.own 4 (pv y.n1 0)),(11,.int .i64 1),(12,.int .u8 0)]) (λ_=>[x0,x1]++y.H) .p2 be ?_ ?_
    ·refine an ?_
     intros
     erw[<-g2]
     refine an ?_
     intros
     exact⟨(),⟨rfl,rfl,rfl,rfl,rfl,rfl,rfl,rfl,rfl,rfl,trivial⟩,rfl⟩
    intro _
    refine an ?_
    intros
    refine lr rfl rfl ?_
    refine xn ?_
    repeat' first|exact .n|apply Lc.mk
    all_goals intros
    all_goals (apply xq;(unfold KN;rw[if_neg a_,if_neg a_,if_neg a_,if_pos hk];rfl);exact At _)
   ·have g2:=jw (i:=aa (s.drop 1) 0) (t:=.own 3 (.slice (some ⟨y.bt,0,none⟩) 3 3)) (v:=3) (by rw[hb1];exact hq) (by rw[hb1];unfold m2;rw[if_neg k3,if_neg k1,if_neg k2];rfl)
    refine a7 mixed hC hGL true (λ(_:Unit)=>[(0,.own 2 (pv y.bg 0)),(1,.str (s.drop 1)),(2,.bool false),(6,.str []),(7,.int .i64 0),(8,.bool false),(9,.int .i64 0),(10,.own 4 (pv y.n1 0)),(11,.int .i64 1),(12,.int .u8 3)]) (λ_=>[x0,x1]++y.H) .p2 be ?_ ?_
    ·refine an ?_
     intros
     erw[<-g2]
     refine an ?_
     intros
     exact⟨(),⟨rfl,rfl,rfl,rfl,rfl,rfl,rfl,rfl,rfl,rfl,trivial⟩,rfl⟩
    intro _
    refine xn ?_
    repeat' first|exact .n|apply Lc.mk
    all_goals intros
    ·apply xq
     ·unfold KN;rw[if_neg a_,if_neg k1,if_neg k2,if_neg k3]
     ·exact At _
end
section
theorem pM {s:ω}{i last:Nat}(h1:last<=i)(h2:i<s.length):(s.drop last).take (i+1-last)=(s.drop last).take (i-last)++(s.drop i).take 1:=by
 rw[show i+1-last=(i-last)+1 by omega,List.take_add,Q_,show last+(i-last)=i by omega]
theorem Qe {s:ω}{i:Nat}(hi:i<s.length):(∃e:UInt8,KN (s.drop i)=([e],2,true)/\i+1<s.length/\((aa s (i+1)=94/\e=94)\/(aa s (i+1)=110/\e=10)\/(aa s (i+1)=39/\e=34)))\/
  (KN (s.drop i)=([],0,false)/\(s.length<=i+1\/(aa s (i+1)≠94/\aa s (i+1)≠110/\aa s (i+1)≠39))):=by
 have h1:aa (s.drop i) 1=aa s (i+1):=by simp[aa]
 unfold KN
 rw[h1,k_]
 by_cases h2:s.length<=i+1
 ·right;exact⟨by rw[if_pos a_],.inl h2⟩
 ·rw[if_neg a_]
  by_cases h3:aa s (i+1)=94
  ·left;exact⟨94,by rw[if_pos h3],a_,.inl ⟨h3,rfl⟩⟩
  ·rw[if_neg h3]
   by_cases h4:aa s (i+1)=110
   ·left;exact⟨10,by rw[if_pos h4],a_,.inr (.inl ⟨h4,rfl⟩)⟩
   ·rw[if_neg h4]
    by_cases h5:aa s (i+1)=39
    ·left;exact⟨34,by rw[if_pos h5],a_,.inr (.inr ⟨h5,rfl⟩)⟩
    ·rw[if_neg h5]
     right;exact⟨rfl,.inr ⟨h3,h4,h5⟩⟩
theorem Du {s:ω}{i:Nat}:aa (s.drop i) 0=aa s i:=by simp[aa]
attribute [local irreducible] bJ au ax aR ab ad mapD cB
structure UY where
 i:Nat
 last:Nat
 va:Option Addr
 vk:Nat
 vc:Nat
 b:ω
abbrev Yo (bg bw:Nat)(s:ω)(x:UY):Env:=[(0,.own 2 (pv bg 0)),(2,.str s),(6,.int .i64 (x.b.length:Nat)),(7,.raw .nilIface),(8,.iface 427 (.raw (pv bw 0))),(9,.int .i64 (x.last:Nat)),(11,.bool false),(12,.int .i64 (x.i:Nat))]
abbrev Ym (x0 x1:HEnt)(y:uE)(bw:Nat)(x:UY):Heap:=[x0,x1]++y.H++[Cp (.slice x.va x.vk x.vc) x.b,VP bw (.slice x.va x.vk x.vc)]
abbrev Yn (s:ω)(x:UY):Prop:=x.i<=s.length+1/\x.last<=s.length/\x.last<=x.i/\x.b.length<=x.last/\x.b++(s.drop x.last).take (x.i-x.last)++cB (s.drop x.i)=cB s
theorem QF {G:Glo}(x0 x1:HEnt)(y:uE)(bw:Nat)(va:Option Addr)(vk vc:Nat)(s:ω)(hl:s.length<=1000000):
  ad prog G 332 [.raw (pv y.bg 0),.iface 427 (.raw (pv bw 0)),.str s] ([x0,x1]++y.H++[Cp (.slice va vk vc) [],VP bw (.slice va vk vc)])
   (λr H=>∃va vk vc n,r= .ret (.tuple [.int .i64 n,.raw .nilIface])/\H=[x0,x1]++y.H++[Cp (.slice va vk vc) (cB s),VP bw (.slice va vk vc)]):=by
 have hGL:ab G []:=al
 have e1:=W4 (G:=G) (pv bw 0)
 refine jx 2 func332 call332 rfl rfl rfl rfl hGL rfl ?_
 intro C hC
 refine an ?_
 intros
 refine lp hC hGL (Yo y.bg bw s) (Ym x0 x1 y bw) (Yn s) (λx=>s.length+1-x.i) (UY.mk 0 0 va vk vc []) ?_ ae rfl ?_
 ·refine⟨Nat.zero_le _,Nat.zero_le _,Nat.le_refl _,Nat.le_refl _,?_⟩
  simp
 ·rintro⟨i,last,va,vk,vc,b⟩ ⟨h1,h2,h3,h4,h5⟩
  have h1:i<=s.length+1:=h1
  have h2:last<=s.length:=h2
  have h3:last<=i:=h3
  have h4:b.length<=last:=h4
  have h5:b++(s.drop last).take (i-last)++cB (s.drop i)=cB s:=h5
  rcases(show i<s.length\/i=s.length\/i=s.length+1 by omega) with hi|rfl|rfl
  ·have g0:=bB s i
   have q3:bZ (.slice (some ⟨y.bt,0,none⟩) 3 3) y.bt 3:=⟨_,rfl⟩
   rcases(show aa s i=94\/aa s i=110\/aa s i=39\/(aa s i≠94/\aa s i≠110/\aa s i≠39) by omega) with hk|hk|hk|⟨k1,k2,k3⟩
   ·have g:=jw (i:=aa s i) (t:=.own 3 (.slice (some ⟨y.bt,0,none⟩) 3 3)) (v:=1) g0 (by rw[hk];rfl)
    refine an ?_
    intros
    refine a7 mixed hC hGL true (λ(_:Unit)=>Yo y.bg bw s ⟨i,last,va,vk,vc,b⟩++[(13,.int .i64 1)]) (λ_=>Ym x0 x1 y bw ⟨i,last,va,vk,vc,b⟩) .p5 be ?_ ?_
    ·refine an ?_
     intros
     erw[<-g]
     refine an ?_
     intros
     exact⟨(),⟨rfl,rfl,rfl,rfl,rfl,rfl,rfl,rfl,rfl,trivial⟩,rfl⟩
    intro _
    refine an ?_
    intros
    refine lr rfl rfl ?_
    refine an ?_
    intros
    have e2:=yd (G:=G) x0 x1 y (s.drop i) (by rw[k_];omega) (.inr (Du.trans hk))
    rcases Qe hi with⟨e,ek,hi2,he⟩|⟨ek,hn⟩
    ·rw[ek] at e2
     refine⟨_,dO [_,_] e2,?_,?_⟩
     ·rintro v H ⟨H1,⟨e,rfl⟩,rfl⟩
      cases e
      refine an ?_
      intros
      have w1:((s.take i).drop last).length=i-last:=by rw[k_,i_,Nat.min_eq_left a_]
      refine a7 mixed hC hGL false (λ(_:Option Addr×Nat×Nat)=>[(0,.own 2 (pv y.bg 0)),(2,.str s),(6,.int .i64 (b.length:Nat)),(7,.raw .nilIface),(8,.iface 427 (.raw (pv bw 0))),(9,.int .i64 (last:Nat)),(10,.int .i64 (((s.take i).drop last).length:Nat)),(11,.bool (bV 2 0)),(12,.int .i64 (i:Nat)),(14,.str [e]),(15,.int .i64 2)]) (λz=>[x0,x1]++y.H++[Cp (.slice z.1 z.2.1 z.2.2) (b++(s.take i).drop last),VP bw (.slice z.1 z.2.1 z.2.2)]) (.t 0 (.t 1 (.t 2 (.t 3 (.t 4 (.b 5 (.b 6 (.t 7 (.b 8 (.t 9 (.t 10 (.t 11 (.t 12 (.t 13 .done)))))))))))))) be ?_ ?_
      ·repeat' (first|(conv=>whnf);first|refine .w ?_|refine Ix.v ?_|refine Sd.v ?_|refine Sl.v ?_|apply eu|refine S7 ?_ ?_<;>(intro hb;try exact dd hb)|apply aT|(apply cR<;>intro hb)|(apply cX;intro hbd)|(apply cY;intro bl)|exact True.intro|(apply pB;intro C hC)|apply pz|apply oY|(apply oZ;exact rfl)|(show Rt _ _ _;exact cP)|fail)
       all_goals try conv=>whnf
       refine aY hC hGL (na rfl (Vh bw)) rfl rfl ?_
       refine an ?_
       intros
       refine iv 340 _ (P7 _) ⟨_,uy (G:=G) x0 x1 _ _ _ _ _ _ _ bw (.slice va vk vc) b ((s.take i).drop last) a_,?_,?_⟩
       ·rintro v H ⟨va2,vk2,vc2,e,rfl⟩
        cases e
        refine an ?_
        intros
        exact⟨(va2,vk2,vc2),⟨rfl,rfl,rfl,rfl,rfl,rfl,rfl,rfl,rfl,rfl,rfl,trivial⟩,rfl⟩
       ·rintro v H ⟨va2,vk2,vc2,e,rfl⟩
        cases e
      rintro⟨va2,vk2,vc2⟩
      refine an ?_
      intros
      refine iv 340 _ (P7 _) ⟨_,uy (G:=G) x0 x1 _ _ _ _ _ _ _ bw (.slice va2 vk2 vc2) (b++(s.take i).drop last) [e] (by rw[d_,w1];show b.length+(i-last)+1<=_;omega),?_,?_⟩
      ·rintro v H ⟨va3,vk3,vc3,e,rfl⟩
       cases e
       refine an ?_
       intros
       refine cQ ⟨i+2,i+2,va3,vk3,vc3,b++(s.take i).drop last++[e]⟩ ?_ ?_ ⟨rfl,rfl,?_,rfl,rfl,rfl,?_,rfl,trivial⟩ rfl
       ·refine⟨(show i+2<=s.length+1 by omega),(show i+2<=s.length by omega),Nat.le_refl _,?_,?_⟩
        ·show(b++(s.take i).drop last++[e]).length<=i+2
         rw[d_,d_,w1,Rf];omega
        ·show b++(s.take i).drop last++[e]++(s.drop (i+2)).take (i+2-(i+2))++cB (s.drop (i+2))=cB s
         rw[<-h5,v6 hi2 hk he,Nat.sub_self,aaa,List.drop_take]
         simp only[An,Dc,L_,Lu]
       ·show s.length+1-(i+2)<s.length+1-i;omega
       ·show some (AVal.int .i64 _)=some (AVal.int .i64 ((b++(s.take i).drop last++[e]).length:Nat))
        rw[d_,d_,Int.natCast_add,Int.natCast_add]
       ·show some (AVal.bool (bV 2 0))=some (AVal.bool false)
        rw[k9.2 (by decide:(2:Int)≠0)]
      ·rintro v H ⟨va3,vk3,vc3,e,rfl⟩
       cases e
     ·rintro v H ⟨H1,⟨e,rfl⟩,rfl⟩
      cases e
    ·rw[ek] at e2
     refine⟨_,dO [_,_] e2,?_,?_⟩
     ·rintro v H ⟨H1,⟨e,rfl⟩,rfl⟩
      cases e
      refine an ?_
      intros
      refine cQ (UY.mk (i+1) last va vk vc b) ?_ ?_ ae rfl
      ·refine⟨(show i+1<=s.length+1 by omega),h2,(show last<=i+1 by omega),h4,?_⟩
       show b++(s.drop last).take (i+1-last)++cB (s.drop (i+1))=cB s
       rw[<-h5,pM h3 hi,oa hi (.inr hn)]
       simp only[An]
      ·show s.length+1-(i+1)<s.length+1-i;omega
     ·rintro v H ⟨H1,⟨e,rfl⟩,rfl⟩
      cases e
   ·have g:=jw (i:=aa s i) (t:=.own 3 (.slice (some ⟨y.bt,0,none⟩) 3 3)) (v:=2) g0 (by rw[hk];rfl)
    refine an ?_
    intros
    refine a7 mixed hC hGL true (λ(_:Unit)=>Yo y.bg bw s ⟨i,last,va,vk,vc,b⟩++[(13,.int .i64 2)]) (λ_=>Ym x0 x1 y bw ⟨i,last,va,vk,vc,b⟩) .p5 be ?_ ?_
    ·refine an ?_
     intros
     erw[<-g]
     refine an ?_
     intros
     exact⟨(),⟨rfl,rfl,rfl,rfl,rfl,rfl,rfl,rfl,rfl,trivial⟩,rfl⟩
    intro _
    refine an ?_
    intros
    refine lr rfl rfl ?_
    refine an ?_
    intros
    refine cQ (UY.mk (i+1) last va vk vc b) ?_ ?_ ae rfl
    ·refine⟨(show i+1<=s.length+1 by omega),h2,(show last<=i+1 by omega),h4,?_⟩
     show b++(s.drop last).take (i+1-last)++cB (s.drop (i+1))=cB s
     rw[<-h5,pM h3 hi,oa hi (.inl a_)]
     simp only[An]
    ·show s.length+1-(i+1)<s.length+1-i;omega
   ·have g:=jw (i:=aa s i) (t:=.own 3 (.slice (some ⟨y.bt,0,none⟩) 3 3)) (v:=0) g0 (by rw[hk];rfl)
    refine an ?_
    intros
    refine a7 mixed hC hGL true (λ(_:Unit)=>Yo y.bg bw s ⟨i,last,va,vk,vc,b⟩++[(13,.int .i64 0)]) (λ_=>Ym x0 x1 y bw ⟨i,last,va,vk,vc,b⟩) .p5 be ?_ ?_
    ·refine an ?_
     intros
     erw[<-g]
     refine an ?_
     intros
     exact⟨(),⟨rfl,rfl,rfl,rfl,rfl,rfl,rfl,rfl,rfl,trivial⟩,rfl⟩
    intro _
    refine an ?_
    intros
    refine lr rfl rfl ?_
    refine an ?_
    intros
    refine cQ (UY.mk (i+1) last va vk vc b) ?_ ?_ ae rfl
    ·refine⟨(show i+1<=s.length+1 by omega),h2,(show last<=i+1 by omega),h4,?_⟩
     show b++(s.drop last).take (i+1-last)++cB (s.drop (i+1))=cB s
     rw[<-h5,pM h3 hi,oa hi (.inl a_)]
     simp only[An]
    ·show s.length+1-(i+1)<s.length+1-i;omega
   ·have g:=jw (i:=aa s i) (t:=.own 3 (.slice (some ⟨y.bt,0,none⟩) 3 3)) (v:=3) g0 (by unfold m2;rw[if_neg k3,if_neg k1,if_neg k2];rfl)
    refine an ?_
    intros
    refine a7 mixed hC hGL true (λ(_:Unit)=>Yo y.bg bw s ⟨i,last,va,vk,vc,b⟩++[(13,.int .i64 3)]) (λ_=>Ym x0 x1 y bw ⟨i,last,va,vk,vc,b⟩) .p5 be ?_ ?_
    ·refine an ?_
     intros
     erw[<-g]
     refine an ?_
     intros
     exact⟨(),⟨rfl,rfl,rfl,rfl,rfl,rfl,rfl,rfl,rfl,trivial⟩,rfl⟩
    intro _
    refine an ?_
    intros
    refine cQ (UY.mk (i+1) last va vk vc b) ?_ ?_ ae rfl
    ·refine⟨(show i+1<=s.length+1 by omega),h2,(show last<=i+1 by omega),h4,?_⟩
     show b++(s.drop last).take (i+1-last)++cB (s.drop (i+1))=cB s
     rw[<-h5,pM h3 hi,oa hi (.inl k1)]
     simp only[An]
    ·show s.length+1-(i+1)<s.length+1-i;omega
  ·have e2:=yd (G:=G) x0 x1 y (s.drop s.length) (by rw[k_];omega) (.inl (by rw[k_];omega))
   rw[show KN (s.drop s.length)=([],0,false) by unfold KN;rw[if_pos (by rw[k_];omega)]] at e2
   refine an ?_
   intros
   refine⟨_,dO [_,_] e2,?_,?_⟩
   ·rintro v H ⟨H1,⟨e,rfl⟩,rfl⟩
    cases e
    refine an ?_
    intros
    refine cQ (UY.mk (s.length+1) last va vk vc b) ?_ ?_ ae rfl
    ·refine⟨Nat.le_refl _,h2,(show last<=s.length+1 by omega),h4,?_⟩
     show b++(s.drop last).take (s.length+1-last)++cB (s.drop (s.length+1))=cB s
     rw[<-h5,List.drop_eq_nil_of_le (by omega:s.length<=s.length+1),List.drop_eq_nil_of_le (Nat.le_refl s.length),u_ (by rw[k_];omega),u_ (by rw[k_];omega)]
    ·show s.length+1-(s.length+1)<s.length+1-s.length;omega
   ·rintro v H ⟨H1,⟨e,rfl⟩,rfl⟩
    cases e
  ·have h6:b++s.drop last=cB s:=by
    rw[<-h5,List.drop_eq_nil_of_le (by omega:s.length<=s.length+1),u_ (by rw[k_];omega),Gw,Dc]
   refine xn ?_
   repeat' first|exact .n|apply Lc.mk
   all_goals intros
   ·refine a7 mixed hC hGL false (λ(_:Option Addr×Nat×Nat)=>[(6,.int .i64 (b.length:Nat)),(7,.raw .nilIface),(10,.int .i64 ((s.drop last).length:Nat))]) (λz=>[x0,x1]++y.H++[Cp (.slice z.1 z.2.1 z.2.2) (b++s.drop last),VP bw (.slice z.1 z.2.1 z.2.2)]) (.t 0 (.t 1 (.t 2 (.t 3 (.b 4 (.b 5 (.t 6 (.b 7 (.t 8 (.t 9 (.t 10 (.t 11 (.t 12 .done))))))))))))) be ?_ ?_
    ·repeat' (first|(conv=>whnf);first|refine .w ?_|refine Ix.v ?_|refine Sd.v ?_|refine Sl.v ?_|apply eu|refine S7 ?_ ?_<;>(intro hb;try exact dd hb)|apply aT|(apply cR<;>intro hb)|(apply cX;intro hbd)|(apply cY;intro bl)|exact True.intro|(apply pB;intro C hC)|apply pz|apply oY|(apply oZ;exact rfl)|(show Rt _ _ _;exact cP)|fail)
     all_goals try conv=>whnf
     refine aY hC hGL (na rfl (Vh bw)) rfl rfl ?_
     refine an ?_
     intros
     refine iv 340 _ (P7 _) ⟨_,uy (G:=G) x0 x1 _ _ _ _ _ _ _ bw (.slice va vk vc) b (s.drop last) (by rw[k_];omega),?_,?_⟩
     ·rintro v H ⟨va2,vk2,vc2,e,rfl⟩
      cases e
      refine an ?_
      intros
      exact⟨(va2,vk2,vc2),⟨rfl,rfl,rfl,trivial⟩,rfl⟩
     ·rintro v H ⟨va2,vk2,vc2,e,rfl⟩
      cases e
    rintro⟨va2,vk2,vc2⟩
    have h7:=congrArg List.length h6
    rw[d_,k_] at h7
    have h8:(s.drop last).length=s.length-last:=k_
    refine xn ?_
    repeat' first|exact .n|apply Lc.mk
    all_goals intros
    all_goals exact⟨_,At _,va2,vk2,vc2,_,rfl,by rw[h6]⟩
   ·have hb2:((last:Nat):Int)=(s.length:Nat):=by assumption
    have h9:last=s.length:=by omega
    subst h9
    rw[List.drop_eq_nil_of_le (Nat.le_refl _),Dc] at h6
    subst h6
    exact⟨_,At _,va,vk,vc,_,rfl,rfl⟩
end
section
attribute [local irreducible] bJ au ax aR ab ad mapD cB
theorem IX {G:Glo}(x0 x1:HEnt)(y:uE)(s:ω)(hl:s.length<=1000000):
  ad prog G 331 [.raw (pv y.bg 0),.str s] ([x0,x1]++y.H) (λr H=>r= .ret (.str (cB s))/\H=[]):=by
 have hGL:ab G []:=al;refine jx 2 func331 call331 rfl rfl rfl rfl hGL rfl ?_;intro C hC;refine an ?_;intros;refine tQ (m:=s.length) hC hGL rfl rfl a_ rfl rfl rfl rfl rfl rfl rfl (λbs=> ?_);refine an ?_;intros;rename Nat=>bw
 refine⟨_,QF x0 x1 y bw (some ⟨bs,0,none⟩) 0 s.length s hl,?_,?_⟩
 ·rintro v H ⟨va,vk,vc,n,e,rfl⟩;cases e;refine an ?_;intros;rcases va with _|⟨b9,_|o9,_|d9⟩
  all_goals (conv=>whnf)
  all_goals refine aY hC hGL (Ew (i:=9) rfl rfl rfl rfl rfl rfl rfl rfl) rfl rfl ?_
  all_goals (conv=>whnf)
  all_goals (apply aj;exact rfl)
 ·rintro v H ⟨va,vk,vc,n,e,rfl⟩;cases e
theorem ZN (a:AVal):∀R v,bn R a v→∀w,∃u,(Go.method (prog.types.size+Made.depth) 368 v "Replace").run prog w= .ok (331,u) w∧bn R a u:=by
 intro R v hv w
 exact⟨v,be,hv⟩
theorem EQ {G:Glo}(br bl vc:Nat)(s:ω)(hl:s.length<=1000000):
  ad prog G 213 [.raw (pv bl 0),.str s] [kT br vc,.cells bl (some 324) (fO (.slice (some ⟨br,0,none⟩) 6 vc))] (λr H=>r= .ret (.str (cB s))/\H=[]):=by
 have hGL:ab G []:=al;have e1:=Xs (G:=G) br bl vc;refine jx 1 func213 call213 rfl rfl rfl rfl hGL rfl ?_;intro C hC;refine an ?_;intros;refine⟨_,e1,?_,λv' H' ⟨y,e,_⟩=>by cases e⟩;rintro v' H' ⟨y,e,rfl⟩;cases e;have e3:=IX (G:=G) (kT br vc) (.cells bl (some 324) (Za y)) y s hl;refine an ?_;intros;refine iv 331 (.raw (pv y.bg 0)) (ZN _) (Do e3 ?_);exact eK
theorem Ds {G:Glo}(s:ω)(hl:s.length<=1000000):ai prog G 199 [.str s] (.str (cB s)):=by
 refine aw func199 call199 λC hC hGL=> ?_;refine an ?_;intros;refine⟨_,kW 6 _ b_ b_ ?_,?_,?_⟩
 ·unfold ax;exact lz rfl
 ·rintro v H' ⟨bl,va,vk,vc,hva,e,rfl⟩;cases e;obtain⟨br,rfl,rfl⟩:=hva a_;have e2:=EQ (G:=G) br bl vc s hl;refine an ?_;intros;refine Do e2 ?_;exact eK
 ·rintro v H' ⟨bl,va,vk,vc,hva,e,rfl⟩;cases e
end
section
attribute [local irreducible] bJ au aa ax aR ab ad aC dm kY eY fw gp
def firstTab:List AVal:=Go.Pinned.utf8FirstZ.map (λx:Nat=>AVal.int .u8 (x:Int))
def acceptTab:List AVal:=[.int .u8 128,.int .u8 191,.int .u8 160,.int .u8 191,.int .u8 128,.int .u8 159,.int .u8 144,.int .u8 191,.int .u8 128,.int .u8 143,.int .u8 0,.int .u8 0,.int .u8 0,.int .u8 0,.int .u8 0,.int .u8 0,.int .u8 0,.int .u8 0,.int .u8 0,.int .u8 0,.int .u8 0,.int .u8 0,.int .u8 0,.int .u8 0,.int .u8 0,.int .u8 0,.int .u8 0,.int .u8 0,.int .u8 0,.int .u8 0,.int .u8 0,.int .u8 0]
def rt (b:Nat):Nat:=
 if b<128 then 240 else if b<194 then 241 else if b<224 then 2 else if b=224 then 19 else if b<237 then 3 else if b=237 then 35 else if b<240 then 3 else if b=240 then 52
 else if b<244 then 4 else if b=244 then 68 else 241
theorem M4:∀b:Fin 256,Go.Pinned.utf8FirstZ[b.1]? =some (rt b.1):=by decide+kernel
theorem uV (b:Nat)(h:b<256):firstTab[b*1]? =some (.int .u8 (rt b:Int)):=by
 rw[Nat.mul_one];simp only[firstTab,List.getElem?_map,M4 ⟨b,h⟩,aal]
def iU (s:ω):Nat×Nat:=if s.length=0 then(65533,0) else if(aC s).2=0 then(65533,1) else aC s
theorem Sn (b:Int):IntKind.wrap .i32 (BitVec.ofInt 32 (IntKind.wrap .i32 (BitVec.ofInt 32 b&&& ~~~ BitVec.ofInt 32 (IntKind.wrap .i32 (241*2147483648)/2147483648)).toNat)|||BitVec.ofInt 32 (IntKind.wrap .i32 (BitVec.ofInt 32 65533&&& BitVec.ofInt 32 (IntKind.wrap .i32 (241*2147483648)/2147483648)).toNat)).toNat=65533:=by
 have e:(~~~ BitVec.ofInt 32 (IntKind.wrap .i32 (241*2147483648)/2147483648))=0#32:=by decide+kernel
 rw[e,BitVec.and_zero]
 decide+kernel
attribute [local irreducible] firstTab
abbrev utfTy:List (Nat×List AVal):=[(6,firstTab),(7,acceptTab)]
theorem Nf (b:Nat)(h:b<256)(h1:128<=b):
  (firstTab[b*1]? =some (.int .u8 241)/\(b<194\/245<=b))\/(firstTab[b*1]? =some (.int .u8 2)/\194<=b/\b<224)\/(firstTab[b*1]? =some (.int .u8 19)/\b=224)
  \/(firstTab[b*1]? =some (.int .u8 3)/\225<=b/\b<240/\b≠237)\/(firstTab[b*1]? =some (.int .u8 35)/\b=237)\/(firstTab[b*1]? =some (.int .u8 52)/\b=240)
  \/(firstTab[b*1]? =some (.int .u8 4)/\241<=b/\b<244)\/(firstTab[b*1]? =some (.int .u8 68)/\b=244):=by
 have e:=uV b h
 have key:∀c:Nat,rt b=c->firstTab[b*1]? =some (.int .u8 (c:Int)):=λc hc=>by rw[e,hc]
 by_cases c1:b<194\/245<=b
 ·refine .inl ⟨key 241 (by unfold rt;(repeat' split)<;>omega),c1⟩
 by_cases c2:b<224
 ·refine .inr (.inl ⟨key 2 (by unfold rt;(repeat' split)<;>omega),a_,c2⟩)
 by_cases c3:b=224
 ·subst c3;exact .inr (.inr (.inl ⟨key 19 rfl,rfl⟩))
 by_cases c5:b=237
 ·subst c5;exact .inr (.inr (.inr (.inr (.inl ⟨key 35 rfl,rfl⟩))))
 by_cases c4:b<240
 ·refine .inr (.inr (.inr (.inl ⟨key 3 (by unfold rt;(repeat' split)<;>omega),a_,c4,c5⟩)))
 by_cases c6:b=240
 ·subst c6;exact .inr (.inr (.inr (.inr (.inr (.inl ⟨key 52 rfl,rfl⟩)))))
 by_cases c7:b<244
 ·refine .inr (.inr (.inr (.inr (.inr (.inr (.inl ⟨key 4 (by unfold rt;(repeat' split)<;>omega),a_,c7⟩))))))
 have c8:b=244:=by omega
 subst c8
 exact .inr (.inr (.inr (.inr (.inr (.inr (.inr ⟨key 68 rfl,rfl⟩))))))
theorem EJ {s:ω}{a b:Int}(h0:¬s.length=0)(h:((aC s).1:Int)=0/\((aC s).2:Int)=0)(ha:a=65533)(hb:b=1):((iU s).1:Int)=a/\((iU s).2:Int)=b:=by
 have:(aC s).2=0:=by omega
 subst ha hb;simp[iU,h0,this]
theorem Kc {s:ω}{a b:Int}(h0:¬s.length=0)(h:((aC s).1:Int)=a/\((aC s).2:Int)=b)(hb:0<b):((iU s).1:Int)=a/\((iU s).2:Int)=b:=by
 have:¬(aC s).2=0:=by omega
 simpa[iU,h0,this] using h
theorem Rb {G:Glo}(hGL:ab G utfTy)(s:ω)(hs:s.length=0\/128<=aa s 0):
    ai prog G 180 [.str s] (.tuple [.int .i32 ((iU s).1:Int),.int .i64 ((iU s).2:Int)]):=by
  refine vz func180 call180 rfl rfl rfl rfl hGL ?_;intro C hC
  by_cases h0:s.length=0
  · refine aH ?_
    intros
    refine L0 ?_
    simp only[iU,if_pos h0]
    exact⟨rfl,rfl⟩
  replace hs:128<=aa s 0:=by omega
  have hdc:=Nf (aa s 0) (bB s 0) hs
  refine aH ?_
  intros
  rcases hdc with⟨hx,hb⟩|⟨hx,hb⟩|⟨hx,hb⟩|⟨hx,hb⟩|⟨hx,hb⟩|⟨hx,hb⟩|⟨hx,hb⟩|⟨hx,hb⟩
  all_goals (erw[hx])
  · refine aH ?_
    intros
    apply XL
    refine aH ?_
    intros
    apply XL
    refine aH ?_
    intros
    apply XL
    refine aH ?_
    intros
    clear hx
    refine L0 ?_
    refine EJ h0 ?_ (Sn _) rfl
    generalize hz:aC s=z
    unfold aC ca ll BC BB BA at hz
    try simp only[show Int.toNat 0=0 from rfl,show Int.toNat 1=1 from rfl,show Int.toNat (1+1)=2 from rfl,show Int.toNat (1+1+1)=3 from rfl] at*
    generalize aa s 0=b0 at*
    generalize aa s 1=b1 at*
    generalize aa s 2=b2 at*
    generalize aa s 3=b3 at*
    generalize s.length=l at*
    repeat' (split at hz;try (exfalso;omega))
    all_goals (try subst z)
    all_goals (first
      |exact⟨rfl,rfl⟩
      |(simp only[l_,Wk,n_,aad] at*;first|(exfalso;omega)|omega))
  all_goals (repeat' (first|(conv=>whnf);first|refine .w ?_|refine .v ?_|refine ez ?_ ?_<;>(intro hb;try exact dd hb)|apply aT|apply bP|(apply cR<;>intro hb)|(apply cX;intro hbd)|(apply cY;intro bl)|(apply dv;intro va vk vc hva)|(apply du;intro v)|(apply dw;intro bl cap hcap)|apply dP|(apply dq<;>intro hnx)|apply ef mixed hC hGL be|(show Rt _ _ _;exact cP)|fail)
             all_goals try conv=>whnf)
  all_goals (clear hx;refine L0 ?_)
  all_goals (first
    | (refine EJ h0 ?_ rfl rfl
       generalize hz:aC s=z
       unfold aC ca ll BC BB BA at hz
       try simp only[show Int.toNat 0=0 from rfl,show Int.toNat 1=1 from rfl,show Int.toNat (1+1)=2 from rfl,show Int.toNat (1+1+1)=3 from rfl] at*
       generalize aa s 0=b0 at*
       generalize aa s 1=b1 at*
       generalize aa s 2=b2 at*
       generalize aa s 3=b3 at*
       generalize s.length=l at*
       repeat' (split at hz;try (exfalso;omega))
       all_goals (try subst z)
       all_goals (first
         |exact⟨rfl,rfl⟩
         |(simp only[l_,Wk,n_,aad] at*;first|(exfalso;omega)|omega))
       done)
    | (refine Kc h0 ?_ b_
       generalize hz:aC s=z
       unfold aC ca ll BC BB BA at hz
       try simp only[show Int.toNat 0=0 from rfl,show Int.toNat 1=1 from rfl,show Int.toNat (1+1)=2 from rfl,show Int.toNat (1+1+1)=3 from rfl] at*
       generalize aa s 0=b0 at*
       generalize aa s 1=b1 at*
       generalize aa s 2=b2 at*
       generalize aa s 3=b3 at*
       generalize s.length=l at*
       repeat' (split at hz;try (exfalso;omega))
       all_goals (try subst z)
       all_goals (first
         |exact⟨rfl,rfl⟩
         |(simp only[l_,Wk,n_,aad] at*;first|(exfalso;omega)|omega))))
theorem Rc {G:Glo}(hGL:ab G utfTy)(s:ω):
    ai prog G 126 [.str s] (.tuple [.int .i32 ((iU s).1:Int),.int .i64 ((iU s).2:Int)]):=by
  refine vz func126 call126 rfl rfl rfl rfl hGL ?_;intro C hC;by_cases h0:s.length=0\/128<=aa s 0
  · have hd:=Rb (G:=G) hGL s h0;by_cases h1:s.length=0
    all_goals (repeat' (first|(conv=>whnf);first|refine .w ?_|refine .v ?_|refine ez ?_ ?_<;>(intro hb;try exact dd hb)|apply aT|apply bP|(apply cR<;>intro hb)|(apply cX;intro hbd)|(apply bG;exact hd)|(apply aV (i:=0) rfl;exact hd)|(apply cY;intro bl)|(apply dv;intro va vk vc hva)|(apply du;intro v)|(apply dw;intro bl cap hcap)|apply dP|(apply dq<;>intro hnx)|apply ef mixed hC hGL be|(apply cq;assumption;exact hd;exact rfl)|(show Rt _ _ _;exact cP)|fail)
               all_goals try conv=>whnf)
    all_goals (exfalso;simp only[Int.toNat_zero] at*;omega)
  · refine aH ?_;intros;refine L0 ?_;refine Kc a_ ?_ b_;generalize hz:aC s=z;unfold aC ca ll BC BB BA at hz;try simp only[show Int.toNat 0=0 from rfl,show Int.toNat 1=1 from rfl,show Int.toNat (1+1)=2 from rfl,show Int.toNat (1+1+1)=3 from rfl] at*
    generalize aa s 0=b0 at*
    generalize aa s 1=b1 at*
    generalize aa s 2=b2 at*
    generalize aa s 3=b3 at*
    generalize s.length=l at*
    repeat' (split at hz;try (exfalso;omega))
    all_goals (try subst z)
    all_goals (first
      |exact⟨rfl,rfl⟩
      |(simp only[l_,Wk,n_,aad] at*;first|(exfalso;omega)|omega))
end
section
attribute [local irreducible] bJ au aa ax aR ab ad aC dm kY eY fw gp firstTab iU
theorem uN (s:ω):((aC s).2=0->(aC s).1=0)/\((aC s).2=1->(aC s).1<128)/\(s.length=0->(aC s).2=0):=by
 refine⟨?_,?_,?_⟩
 ·unfold aC;(repeat' split)<;>simp
 ·unfold aC;(repeat' split)<;>simp;omega
 ·intro h;unfold aC;simp[h]
theorem Mh (s:ω):(((aC s).2:Int)=0->((iU s).2:Int)=0/\s.length=0\/((iU s).1:Int)=65533/\((iU s).2:Int)=1)/\(((aC s).2:Int)≠0->((iU s).1:Int)=(aC s).1/\((iU s).2:Int)=(aC s).2):=by
 have hf:=uN s;unfold iU;by_cases h0:s.length=0
 ·rw[if_pos h0];refine⟨λ_=>.inl ⟨rfl,h0⟩,λh=>absurd (hf.2.2 h0) a_⟩
 ·rw[if_neg h0];by_cases h1:(aC s).2=0
  ·rw[if_pos h1];exact⟨λ_=>.inr ⟨rfl,rfl⟩,λh=>absurd h1 a_⟩
  ·rw[if_neg h1];exact⟨λh=>absurd h a_,λ_=>⟨rfl,rfl⟩⟩
theorem Pg {G:Glo}(hU:ab G utfTy)(s:ω):
  ai prog G 131 [.str s] (.tuple [.int .i64 ((aC s).1:Int),.int .i64 ((aC s).2:Int)]):=by
 refine aw func131 call131 λC hC hGL=> ?_;have hd:=Rc (G:=G) hU s;have hn:=sm s;have hf:=uN s;have hr:=Mh s;have hk:((iU s).1:Int)<=1114111:=by
  by_cases h:(aC s).2=0
  ·unfold iU;rw[if_pos h];split<;>decide
  ·omega
 refine xw ?_;repeat' first|exact .n|apply Lc.mk
 all_goals intros
 all_goals (refine L0 ?_;omega)
theorem CF {G:Glo}(hU:ab G utfTy)(s:ω)(hl:s.length<=9223372036854775807):ai prog G 65 [.str s] (.int .i64 (dm s)):=by
 refine aw func65 call65 λC hC hGL=> ?_;have hle:=λk=>sm (s.drop k);have hN:=λt=>Pg (G:=G) hU t;repeat' (first|(conv=>whnf);first|refine .w ?_|refine .v ?_|refine ez ?_ ?_<;>(intro hb;try exact dd hb)|apply aT|apply bP|(apply cR<;>intro hb)|(apply cX;intro hbd)|(apply bG;exact hN _)|(apply aV (i:=0) rfl;exact hN _)|(apply cY;intro bl)|(apply dv;intro va vk vc hva)|(apply du;intro v)|(apply dw;intro bl cap hcap)|apply dP|(apply dq<;>intro hnx)|apply ef mixed hC hGL be|(apply cq;assumption;exact hN _;exact rfl)|(show Rt _ _ _;exact cP)|fail)
 all_goals try conv=>whnf
 refine lp hC hGL (λ(i:Nat)=>[(0,.str s),(7,.own 0 (.pointer (some ⟨bl,0,none⟩)))]) (λi=>[.iter bl s i]) (λi=>i<=s.length/\kY s=(kY (s.drop i)).map (· +i)) (λi=>s.length-i) 0 ?_ ae rfl ?_
 ·exact⟨Nat.zero_le _,by simp⟩
 rintro i ⟨hi,hb0⟩;have hn:=hle i;rw[k_] at hn;repeat' (first|(conv=>whnf);first|refine .w ?_|refine .v ?_|refine ez ?_ ?_<;>(intro hb;try exact dd hb)|apply aT|apply bP|(apply cR<;>intro hb)|(apply cX;intro hbd)|(apply bG;exact hN _)|(apply aV (i:=0) rfl;exact hN _)|(apply cY;intro bl)|(apply dv;intro va vk vc hva)|(apply du;intro v)|(apply dw;intro bl cap hcap)|apply dP|(apply dq<;>intro hnx)|apply ef mixed hC hGL be|(apply cq;assumption;exact hN _;exact rfl)|(show Rt _ _ _;exact cP)|fail)
 all_goals try conv=>whnf
 ·apply aj;refine congrArg (AVal.int .i64) ?_;have h1:=qq (s.drop i) (by rw[k_];omega);rw[if_pos a_] at h1;rw[h1] at hb0;simp only[dm,hb0,aal,Nat.zero_add]
 ·have h1:=qq (s.drop i) (by rw[k_];omega);rw[if_neg a_] at h1;have h2:eY (s.drop i)=(aC (s.drop i)).2:=by unfold eY;rw[if_neg a_]
  refine cQ (i+eY (s.drop i)) ⟨a_,?_⟩ a_ ⟨rfl,rfl,trivial⟩ rfl;rw[hb0,h1,Q_,h2];cases kY (s.drop (i+(aC (s.drop i)).2))<;>simp<;>omega
 ·apply aj;refine congrArg (AVal.int .i64) ?_;rw[GU (s.drop i) (by rw[k_];omega)] at hb0;simp only[dm,hb0,Option.map_none]
end
section
theorem sx {b:Bool}{c:Int}(h:(c<32/\c≠9/\c≠10)\/c=127\/(c=10/\b=false)):iJ b c=true:=decide_eq_true (by
 rcases h with h|h|h
 ·exact .inl ⟨h.1,h.2.1,.inl h.2.2⟩
 ·exact .inr h
 ·exact .inl ⟨a_,a_,.inr h.2⟩)
theorem C5 {b:Bool}{c:Int}(h1:c≠127)(h:32<=c\/c=9\/(c=10/\b=true)):iJ b c=false:=decide_eq_false (by
 rintro(k|k)
 ·rcases h with h|h|h
  ·omega
  ·omega
  ·rcases k.2.2 with m|m
   ·exact m h.1
   ·rw[h.2] at m;cases m
 ·exact h1 k)
theorem Vq {c:Int}:iJ true c=true↔(c<32/\c≠9/\c≠10)\/c=127:=by simp[iJ]
theorem Bj {c:Int}:iJ false c=true↔(c<32/\c≠9)\/c=127:=by simp[iJ]
theorem QB {b:Bool}{s:ω}{i:Nat}(hi:i<s.length)(h:iJ b (aa s i:Int)=true)(hb:∀j,j<i->iJ b (aa s j:Int)=false):fo b s=false:=by
 unfold fo;rw[mB hi h hb];exact decide_eq_false a_
theorem La {b:Bool}{s:ω}{i:Nat}(hi:s.length<=i)(hb:∀j,j<i->iJ b (aa s j:Int)=false):fo b s=nT (dm s) 0:=by
 unfold fo;rw[iZ (λj hj=>hb j a_),w_,oo];simp
attribute [local irreducible] bJ au aa ax aR ab ad iJ fo dm
theorem mt {G:Glo}(c:Int):ai prog G 70 [.int .u8 c] (.bool (iJ false c)):=by
 refine aw func70 call70 λC hC hGL=> ?_;refine xw ?_;repeat' first|exact .n|apply Lc.mk
 all_goals intros
 all_goals (apply aj;refine congrArg AVal.bool ?_)
 all_goals (rw[w_,Bj];simp only[fJ,reduceCtorEq,true_iff,false_iff];omega)
end
section
attribute [local irreducible] bJ au aa ax aR ab ad iJ fo dm
theorem nW {G:Glo}(c:Int):ai prog G 97 [.int .u8 c] (.bool (iJ false c)):=by
 refine aw func97 call97 λC hC hGL=> ?_;refine xw ?_;repeat' first|exact .n|apply Lc.mk
 all_goals intros
 all_goals (apply aj;refine congrArg AVal.bool ?_)
 all_goals (rw[w_,Bj];simp only[fJ,reduceCtorEq,true_iff,false_iff];omega)
end
section
theorem uh {a b c:UInt8}(r:Int):(0<=aS [a,b,c] r↔∃x∈[a,b,c],r=x.toNat):=by
 unfold aS;simp only[kE,p_,t_,or_false,exists_eq_or_imp,exists_eq_left];split
 ·omega
 ·split
  ·omega
  ·split<;>omega
end
section
abbrev pS (b:Nat):Value:=.pointer (some ⟨b,0,none⟩)
abbrev nO (b:Nat)(s:ω)(a:Nat)(c:Bool):HEnt:=.cells b (some 176) [.str s,.int .i64 (a:Nat),.bool c]
abbrev pj (e p:Int):AVal:=.iface 172 (.agg [.int .i64 e,.int .i64 p])
theorem qn {s:ω}{k j:Nat}:aa (s.drop k) j=aa s (k+j):=by
 unfold aa;simp[List.getD,List.getElem?_drop]
theorem xU {s:ω}{x:Nat}(h:x<s.length):isS ((s.take (x+1)).drop x)=aU (aa s x:Int):=by
 have hl:((s.take (x+1)).drop x).length=1:=by rw[k_,i_];omega
 have hb:aa ((s.take (x+1)).drop x) 0=aa s x:=by
  rw[qn,fc a_];rfl
 unfold isS;rw[hl];cases k:aU (aa s x:Int) with
 |true=>
  have:DK aU ((s.take (x+1)).drop x)=true:=uA.2 λj hj=>by
   rw[show j=0 by omega,hb];exact k
  rw[this];rfl
 |false=>
  have:DK aU ((s.take (x+1)).drop x)=false:=JN (j:=0) a_ (by rw[hb];exact k);rw[this];rfl
attribute [local irreducible] bJ au aa ax aR ab ad iJ fo dm isS cB aU
theorem nU {G:Glo}(v:Value)(e p:Int):ad prog G 96 [.raw v,.int .i64 e,.int .i64 p] [] (λr H=>r= .panic (pj e p)/\H=[]):=by
 refine aw func96 call96 λC hC hGL=> ?_;repeat' (first|(conv=>whnf);first|refine .w ?_|refine .v ?_|refine ez ?_ ?_<;>(intro hb;try exact dd hb)|apply aT|apply bP|(apply cR<;>intro hb)|(apply cX;intro hbd)|(apply cY;intro bl)|(apply dv;intro va vk vc hva)|(apply du;intro v)|(apply dw;intro bl cap hcap)|apply dP|(apply dq<;>intro hnx)|apply ef mixed hC hGL be|(show Rt _ _ _;exact cP)|fail)
 all_goals try conv=>whnf
 exact Vg rfl
theorem nV {G:Glo}(b:Nat)(s:ω)(a:Nat)(cr:Bool)(c:Int)(hl:s.length<=1000000)(ha:a<=s.length):ad prog G 94 [.raw (pS b),.int .u8 c] [nO b s a cr]
  (λr H=>r= .ret (.bool (eJ s a c))/\H=[nO b s (if eJ s a c then a+1 else a) cr]):=by
 have hGL:ab G []:=al;refine lU [(0,0,pS b)] func94 call94 rfl rfl rfl rfl (by repeat (first|exact trivial|refine And.intro ⟨rfl,rfl⟩ ?_)) ?_;intro C hC;cases h:eJ s a c with
 |true=>
  obtain⟨h1,h2⟩:=cK.1 h;rw[if_pos rfl];refine ar hC hGL (xw ?_);repeat' first|exact .n|apply Lc.mk
  all_goals intros
  all_goals skip
 |false=>
  have h1:=LI.1 h;rw[if_neg b_];refine ar hC hGL (xw ?_);repeat' first|exact .n|apply Lc.mk
  all_goals intros
  all_goals skip
theorem A5 {G:Glo}(b:Nat)(s:ω)(a:Nat)(cr:Bool)(hl:s.length<=1000000)(ha:a<=s.length):ad prog G 93 [.raw (pS b)] [nO b s a cr]
  (λr H=>(∃w j,bF s a= .ok (w,j)/\r= .ret (.str w)/\H=[nO b s j cr])\/(∃e p j,bF s a= .bad e p/\r= .panic (pj e p)/\H=[nO b s j cr])):=by
 have hI:=λt h=>p8 (G:=G) t h;have hc:=call152;have hT:=λe p=>nU (G:=G) (pS b) e p;have hGL:ab G []:=al;refine lU [(0,0,pS b)] func93 call93 rfl rfl rfl rfl (by repeat (first|exact trivial|refine And.intro ⟨rfl,rfl⟩ ?_)) ?_;intro C hC;refine ar hC hGL (aH ?_);refine lp hC hGL (λx:Nat=>[(0,.own 0 (pS b)),(3,.int .i64 (a:Nat))]) (λx=>[nO b s x cr]) (λx=>a<=x/\x<=s.length/\eZ aU s x=eZ aU s a) (λx=>s.length-x) a ⟨Nat.le_refl _,ha,rfl⟩ ae rfl ?_;rintro x ⟨h1,h2,h3⟩;by_cases hx:x<s.length
 ·have k1:ai prog G 152 [.str ((s.take (x+1)).drop x)] (.bool (aU (aa s x:Int))):=by
   have:=hI ((s.take (x+1)).drop x) (by rw[k_,i_];omega);rwa [xU hx] at this
  cases hk:aU (aa s x:Int) with
  |true=>
   rw[hk] at k1;refine aH ?_;intros;exact cQ (x+1) ⟨a_,a_,(rO hx hk).symm.trans h3⟩ a_ ae rfl
  |false=>
   rw[hk] at k1;have hsp:eZ aU s a=x:=h3.symm.trans (nG hk);have k2:=hI ((s.take x).drop a) (by rw[k_,i_];omega);cases hw:isS ((s.take x).drop a) with
   |true=>
    have hr:bF s a= .ok ((s.take x).drop a,x):=by unfold bF;rw[hsp,if_pos hw]
    rw[hw] at k2;refine aH ?_;intros;exact⟨_,At _,.inl ⟨_,_,hr,rfl,rfl⟩⟩
   |false=>
    have hr:bF s a= .bad 5 a:=by unfold bF;rw[hsp,if_neg (by rw[hw];decide)]
    rw[hw] at k2;refine aH ?_;intros;refine cd (hT 5 a) ?_;exact⟨_,At _,.inr ⟨_,_,_,hr,rfl,rfl⟩⟩
 ·have hsp:eZ aU s a=x:=h3.symm.trans (oO a_);have k2:=hI ((s.take x).drop a) (by rw[k_,i_];omega);cases hw:isS ((s.take x).drop a) with
  |true=>
   have hr:bF s a= .ok ((s.take x).drop a,x):=by unfold bF;rw[hsp,if_pos hw]
   rw[hw] at k2;refine aH ?_;intros;exact⟨_,At _,.inl ⟨_,_,hr,rfl,rfl⟩⟩
  |false=>
   have hr:bF s a= .bad 5 a:=by unfold bF;rw[hsp,if_neg (by rw[hw];decide)]
   rw[hw] at k2;refine aH ?_;intros;refine cd (hT 5 a) ?_;exact⟨_,At _,.inr ⟨_,_,_,hr,rfl,rfl⟩⟩
theorem QZ {q:Bool}{c:Int}(h0:0<=c)(h1:c<256):Aa q c=(decide (c=34)||(!q&&decide (0<=aS [44,59,58] c))):=by
 have e:0<=aS [44,59,58] c↔(c=44\/c=59\/c=58):=by
  have:=uh (a:=44) (b:=59) (c:=58) c;rw[this];simp
 rw[w_,Jg,Wk,l_,n_,n_,e];cases q<;>simp
theorem ye {G:Glo}(b:Nat)(s:ω)(a:Nat)(cr:Bool)(hl:s.length<=1000000)(ha:a<=s.length):ad prog G 153 [.raw (pS b)] [nO b s a cr]
  (λr H=>(∃v j,cw cr s a= .ok (v,j)/\r= .ret (.str v)/\H=[nO b s j cr])\/(∃e p j,cw cr s a= .bad e p/\r= .panic (pj e p)/\H=[nO b s j cr])):=by
 have hX:=λc h0 h1=>aK (G:=G) [44,59,58] c h0 h1;have hN:=λc=>nW (G:=G) c;have hT:=λe p=>nU (G:=G) (pS b) e p;have hD:=λt h=>Ds (G:=G) t h;have hi1:=nV (G:=G) b s a cr 34 hl ha;have hq:=rG s a;have eF:(if eJ s a 34 then a+1 else a)=gW s a:=rfl;rw[eF] at hi1;have hGL:ab G []:=al;refine lU [(0,0,pS b)] func153 call153 rfl rfl rfl rfl (by repeat (first|exact trivial|refine And.intro ⟨rfl,rfl⟩ ?_)) ?_;intro C hC;refine ar hC hGL (aH ?_);refine lp hC hGL (λx:Nat=>[(0,.own 0 (pS b)),(3,.bool (eJ s a 34)),(4,.int .i64 (gW s a:Nat))]) (λx=>[nO b s x cr]) (λx=>gW s a<=x/\x<=s.length/\eZ (NU (eJ s a 34)) s x=mj s a) (λx=>s.length-x) (gW s a) ⟨Nat.le_refl _,hq.2.2 ha,rfl⟩ ae rfl ?_;rintro x ⟨h1,h2,h3⟩;have hlv:((s.take x).drop (gW s a)).length<=1000000:=by rw[k_,i_];omega
 have hd:=hD ((s.take x).drop (gW s a)) hlv;have hi2:=nV (G:=G) b s x cr 34 hl h2;have fin:∀{v:ω} {j:Nat} {w:AVal} {H:Heap},cw cr s a= .ok (v,j)->w= .str v->H=[nO b s j cr]->Rt (λr H=>(∃v j,cw cr s a= .ok (v,j)/\r= .ret (.str v)/\H=[nO b s j cr])\/(∃e p j,cw cr s a= .bad e p/\r= .panic (pj e p)/\H=[nO b s j cr])) w H:=by
  rintro v j w H h1 rfl rfl;exact⟨_,At _,.inl ⟨_,_,h1,rfl,rfl⟩⟩
 have bad:∀{e p:Int} {n j:Nat} {H:Heap},cw cr s a= .bad e n->p=n->H=[nO b s j cr]->Pn (λr H=>(∃v j,cw cr s a= .ok (v,j)/\r= .ret (.str v)/\H=[nO b s j cr])\/(∃e p j,cw cr s a= .bad e p/\r= .panic (pj e p)/\H=[nO b s j cr])) (pj e p) H:=by
  rintro e p n j H h1 rfl rfl;exact⟨_,At _,.inr ⟨_,_,_,h1,rfl,rfl⟩⟩
 by_cases hx:x<s.length
 ·have hb:=bB s x;have hx1:=hX (aa s x:Int) a_ a_;have hn1:=hN (aa s x:Int);have he:=QZ (q:=eJ s a 34) (c:=(aa s x:Int)) a_ a_;generalize aS [44,59,58] (aa s x:Int)=ix at hx1 he;cases hk:Aa (eJ s a 34) (aa s x:Int) with
  |false=>
   have h34:(aa s x:Int)≠34:=λh=>(Xl.1 hk) (.inl h);rw[hk] at he;have hix:eJ s a 34=false->ix<0:=λh=>by
    rw[h] at he;have he:=he.symm;rw[Bool.or_eq_false_iff,Bool.not_false,aae,aaf,aaf] at he;omega
   cases hc:iJ false (aa s x:Int) with
   |false=>
    rw[hc] at hn1;have hgo:NU (eJ s a 34) (aa s x:Int)=true:=by unfold NU;rw[hk,hc];rfl
    have k:gW s a<=x+1/\x+1<=s.length/\eZ (NU (eJ s a 34)) s (x+1)=mj s a:=⟨a_,a_,(rO hx hgo).symm.trans h3⟩;cases hqa:eJ s a 34 with
    |true=>
     rw[hqa] at k;refine aH ?_;intros;exact cQ (x+1) k a_ ae rfl
    |false=>
     have hix:=hix hqa;rw[hqa] at k;refine aH ?_;intros;exact cQ (x+1) k a_ ae rfl
   |true=>
    rw[hc] at hn1;have hJ:mj s a=x:=h3.symm.trans (nG (by unfold NU;rw[hk,hc];rfl));have hv:cw cr s a= .bad 3 x:=by unfold cw;rw[hJ,if_pos ⟨hx,hk⟩]
    cases hqa:eJ s a 34 with
    |true=>
     refine aH ?_;intros;refine cd (hT 3 x) ?_;exact bad hv rfl rfl
    |false=>
     have hix:=hix hqa;refine aH ?_;intros;refine cd (hT 3 x) ?_;exact bad hv rfl rfl
  |true=>
   have hJ:mj s a=x:=h3.symm.trans (nG (by unfold NU;rw[hk];rfl));cases hqa:eJ s a 34 with
   |true=>
    rw[hqa] at hk;have h34:(aa s x:Int)=34:=by
     rcases Jg.1 hk with h|⟨h,_⟩
     ·exact h
     ·cases h
    rw[cK.2 ⟨hx,h34⟩,if_pos rfl] at hi2;have hv:cw cr s a= .ok (NW cr ((s.take x).drop (gW s a)),x+1):=by
     unfold cw;rw[hJ,hqa,if_neg (by rw[hk];simp),if_neg b_,if_pos hx]
    cases cr with
    |true=>
     refine aH ?_;intros;exact fin hv rfl rfl
    |false=>
     refine aH ?_;intros;exact fin hv rfl rfl
   |false=>
    rw[hk,hqa] at he;have hv:cw cr s a= .ok (NW cr ((s.take x).drop (gW s a)),x):=by
     unfold cw;rw[hJ,hk,if_neg (by simp),if_pos hqa]
    by_cases h34:(aa s x:Int)=34
    ·cases cr with
     |true=>
      refine aH ?_;intros;exact fin hv rfl rfl
     |false=>
      refine aH ?_;intros;exact fin hv rfl rfl
    ·have hix:0<=ix:=by
      rw[decide_eq_false h34] at he;simpa using he
     cases cr with
     |true=>
      refine aH ?_;intros;exact fin hv rfl rfl
     |false=>
      refine aH ?_;intros;exact fin hv rfl rfl
 ·have hJ:mj s a=x:=h3.symm.trans (oO a_);cases hqa:eJ s a 34 with
  |true=>
   rw[LI.2 a_,if_neg b_] at hi2;have hv:cw cr s a= .bad 7 x:=by
    unfold cw;rw[hJ,hqa,if_neg a_,if_neg b_,if_neg hx]
   refine aH ?_;intros;refine cd (hT 7 x) ?_;exact bad hv rfl rfl
  |false=>
   have hv:cw cr s a= .ok (NW cr ((s.take x).drop (gW s a)),x):=by
    unfold cw;rw[hJ,hqa,if_neg a_,if_pos rfl]
   cases cr with
   |true=>
    refine aH ?_;intros;exact fin hv rfl rfl
   |false=>
    refine aH ?_;intros;exact fin hv rfl rfl
end
section
def dG (ps:List Pr):List AVal:=ps.flatMap λq=>[.str q.n,.list 1 q.vs.length (aB q.vs)]
theorem xJ:∀ps:List Pr,(dG ps).length=ps.length*2
 |[]=>rfl
 |q::l=>by
  have:=xJ l;simp only[dG,O_,d_,j_,E_] at*
  omega
theorem AK (ps:List Pr)(q:Pr):dG (ps++[q])=dG ps++[.str q.n,.list 1 q.vs.length (aB q.vs)]:=by
 simp[dG]
theorem Ij:∀(l:List Pr) (i:Nat),i<l.length->(gg l i).cells=((dG l).drop (i*2)).take 2/\(gg l i).plain=true
 |[],i,h=>absurd h (Uf _)
 |q::l,0,h=>⟨by simp[gg,AVal.cells,dG],rfl⟩
 |q::l,i+1,h=>by
  have ih:=Ij l i (by simpa using h);refine⟨?_,rfl⟩;have e:gg (q::l) (i+1)=gg l i:=rfl;have e2:dG (q::l)=[.str q.n,.list 1 q.vs.length (aB q.vs)]++dG l:=by simp[dG]
  rw[e,ih.1,e2,show(i+1)*2=2+i*2 by omega,<-Q_];rfl
end
section
def qy (c:Bool)(s:ω)(a:Nat)(vs:List ω):PR (List ω×Nat):=if eJ s a 44 then ei c s (a+1) vs else .ok (vs,a)
theorem pJ {c:Bool}{s v:ω}{a b:Nat}{acc:List ω}(h:cw c s a= .ok (v,b)):ei c s a acc=qy c s b (acc++[v]):=by
 unfold qy;cases hb:eJ s b 44 with
 |true=>rw[mX h hb,if_pos rfl]
 |false=>rw[lv h hb,if_neg b_]
section
variable {C:Ctx} {n:Nat} {e:Env}
theorem J1 {h h':Heap}(hh:h'.Sublist h):To C n e h e h':=λR _ _ hm hf=>⟨R,Seal.le_refl R,hm.drop hh,hf⟩
theorem V1 {c0:HEnt}{va:Value}{acc:List Pr}{w:ω}{vs:List ω}{u:Value}{m bp:Nat}(hm:m=(acc++[(⟨w,vs⟩:Pr)]).length):To C n e [c0,.row va none 2 m (dG acc++([.str w,.own 3 u]:List AVal)),.cells bp (some 69) [.str w,.own 3 u],.row u none 1 vs.length (bu vs)] e
  [c0,.row va none 2 (acc++[(⟨w,vs⟩:Pr)]).length (dG (acc++[⟨w,vs⟩]))]:=by
 have hI:=xJ acc;rw[<-hm];have e1:(dG acc++([.str w,.own 3 u]:List AVal)).set (acc.length*2+1) (.list 1 vs.length (aB vs))=dG (acc++[⟨w,vs⟩]):=by
  rw[List.set_append_right _ _ a_,hI,T_,AK];rfl
 rw[<-e1];refine ak (ji (i:=3) (k:=1) (p:=acc.length*2+1) (aB vs) rfl rfl (gt vs) (λR hr=>.row (a:=.own 3 u) ?_ λ_=>ck hr)) (J1 ?_)
 ·rw[G_ a_,hI,T_];rfl
 ·exact V_ _ (V_ _ (Ug _))
end
attribute [local irreducible] bJ au aa ax aR ab ad iJ fo dm isS cB aU dG To
abbrev nz (a:Option Addr)(k c:Nat):Value:=.slice a k c
theorem FH {G:Glo}(b:Nat)(s:ω)(a:Nat)(cr:Bool)(hl:s.length<=1000000)(ha:a<=s.length):ad prog G 95 [.raw (pS b)] [nO b s a cr]
  (λr H=>(∃ps j va vk vc,cG cr s a []= .ok (ps,j)/\r= .ret (.own 1 (.slice va vk vc))/\H=[nO b s j cr,.row (.slice va vk vc) none 2 ps.length (dG ps)])\/(∃e p j,cG cr s a []= .bad e p/\r= .panic (pj e p)/\H=[nO b s j cr])):=by
 have hT:=λe p=>nU (G:=G) (pS b) e p;have bad:∀{e p:Int} {q j:Nat} {T:Heap},cG cr s a []= .bad e q->p=q->Pn (λr H=>(∃ps j va vk vc,cG cr s a []= .ok (ps,j)/\r= .ret (.own 1 (.slice va vk vc))/\H=[nO b s j cr,.row (.slice va vk vc) none 2 ps.length (dG ps)])\/(∃e p j,cG cr s a []= .bad e p/\r= .panic (pj e p)/\H=[nO b s j cr])) (pj e p) (nO b s j cr::T):=by
  rintro e p q j T h1 rfl;exact⟨_,V_ _ (Ug _),.inr ⟨_,_,_,h1,rfl,rfl⟩⟩
 have hGL:ab G []:=al;refine lU [(0,0,pS b)] func95 call95 rfl rfl rfl rfl (by repeat (first|exact trivial|refine And.intro ⟨rfl,rfl⟩ ?_)) ?_;intro C hC;refine ar hC hGL (an ?_);refine WT hC hGL (λx:Nat×List Pr×Option Addr×Nat×Nat=>[(0,.own 0 (pS b)),(3,.own 1 (nz x.2.2.1 x.2.2.2.1 x.2.2.2.2))]) (λx=>[nO b s x.1 cr,.row (nz x.2.2.1 x.2.2.2.1 x.2.2.2.2) none 2 x.2.1.length (dG x.2.1)]) (λx=>x.1<=s.length/\x.2.1.length<=20/\cG cr s x.1 x.2.1=cG cr s a []) (λx=>s.length-x.1) (a,[],none,0,0) ⟨ha,Nat.zero_le _,rfl⟩ ?_ ?_
 ·refine ak (ep 2) (ak (Hz (k:=3) (i:=1) rfl rfl) (bi ae ?_));rw[show dG []=[] by unfold dG;rfl];exact At _
 rintro⟨at0,acc,va,vk,vc⟩ ⟨h1,h2,h3⟩;dsimp only at h1 h2 h3 ⊢;have hi0:=nV (G:=G) b s at0 cr 59 hl h1;cases hq:eJ s at0 59 with
 |false=>
  rw[hq,if_neg b_] at hi0;refine an ?_;intros;exact⟨_,At _,.inl ⟨acc,at0,_,_,_,h3.symm.trans (iW hq),rfl,rfl⟩⟩
 |true=>
  rw[hq,if_pos rfl] at hi0;have hb1:=(cK.1 hq).1;have hw0:=A5 (G:=G) b s (at0+1) cr hl a_;refine an ?_;intros;refine⟨_,dO [.row (nz va vk vc) none 2 acc.length (dG acc)] hw0,?_,?_⟩;rotate_left
  ·rintro _ _ ⟨_,(⟨_,_,_,e,_⟩|⟨e',q,jj,hw,e,rfl⟩),rfl⟩
   ·cases e
   ·cases e;exact bad (h3.symm.trans (gx hq hw)) rfl
  rintro _ _ ⟨_,(⟨w,j,hw,e,rfl⟩|⟨_,_,_,_,e,_⟩),rfl⟩;rotate_left
  ·cases e
  cases e;have hj:=de hw;have hjl:j<=s.length:=hj.2.1 a_;have hi1:=nV (G:=G) b s j cr 61 hl hjl;cases h61:eJ s j 61 with
  |false=>
   rw[h61,if_neg b_] at hi1;refine an ?_;intros;refine cd (hT 7 j) ?_;exact bad (h3.symm.trans (kA hq hw h61)) rfl
  |true=>
   rw[h61,if_pos rfl] at hi1;have hb2:=(cK.1 h61).1;have hv0:=ye (G:=G) b s (j+1) cr hl a_;refine an ?_;intro bp;intros;refine cD mixed hC hGL false (λv h=>∃(e:Int) (q jj:Nat) (T:Heap),cw cr s (j+1)= .bad e q/\v=pj e q/\h=nO b s jj cr::T)
    (λ_:{x:ω×Nat×Option Addr×Nat×Nat//cw cr s (j+1)= .ok (x.1,x.2.1)}=>[(0,.own 0 (pS b)),(3,.own 1 (nz va vk vc)),(4,.int .i64 ((at0+1:Nat):Int)),(5,.own 2 (pS bp))])
    (λx=>[nO b s x.1.2.1 cr,.row (nz va vk vc) none 2 acc.length (dG acc),.cells bp (some 69) [.str w,.own 3 (nz x.1.2.2.1 x.1.2.2.2.1 x.1.2.2.2.2)],.row (nz x.1.2.2.1 x.1.2.2.2.1 x.1.2.2.2.2) none 1 1 (bu [x.1.1])])
    .p6 be ?_ ?_ ?_
   ·refine xn ?_;repeat' first|exact .n|apply Lc.mk
    all_goals intros
    all_goals (
     refine⟨_,dO [.row (nz va vk vc) none 2 acc.length (dG acc),.cells bp (some 69) [.str w,.raw (.slice none 0 0)]] hv0,?_,?_⟩
     ·rintro _ _ ⟨_,(⟨v,b',hv,e,rfl⟩|⟨_,_,_,_,e,_⟩),rfl⟩
      ·cases e;refine xn ?_;repeat' first|exact .n|apply Lc.mk
       all_goals intros
       all_goals exact⟨⟨(v,b',_,_,_),hv⟩,ae,aA⟩
      ·cases e
     ·rintro _ _ ⟨_,(⟨_,_,_,e,_⟩|⟨e',q,jj,hv,e,rfl⟩),rfl⟩
      ·cases e
      ·cases e;exact⟨e',q,jj,_,hv,rfl,rfl⟩)
   rotate_left
   ·rintro v h ⟨e',q,jj,T,hv,rfl,rfl⟩;exact bad (h3.symm.trans (fe hq hw h61 (gH hv))) rfl
   rintro⟨⟨v1,b1,ua,uk,uc⟩,hv1⟩;dsimp only at hv1 ⊢;have hg1:=jg hv1;refine an ?_;intros;refine WT hC hGL (λx:Nat×List ω×Option Addr×Nat×Nat=>[(0,.own 0 (pS b)),(3,.own 1 (nz va vk vc)),(4,.int .i64 ((at0+1:Nat):Int)),(5,.own 2 (pS bp))])
    (λx=>[nO b s x.1 cr,.row (nz va vk vc) none 2 acc.length (dG acc),.cells bp (some 69) [.str w,.own 3 (nz x.2.2.1 x.2.2.2.1 x.2.2.2.2)],.row (nz x.2.2.1 x.2.2.2.1 x.2.2.2.2) none 1 x.2.1.length (bu x.2.1)])
    (λx=>x.1<=s.length/\j+1<=x.1/\x.2.1.length<=x.1/\qy cr s x.1 x.2.1=ei cr s (j+1) []) (λx=>s.length-x.1) (b1,[v1],ua,uk,uc) ⟨hg1.2 a_,hg1.1,by simp only[j_,E_];omega,(pJ (acc:=[]) hv1).symm⟩ (bi ae aA) ?_
   rintro⟨at2,vs,ua,uk,uc⟩ ⟨g1,g2,g3,g4⟩;dsimp only at g1 g2 g3 g4 ⊢;have hi2:=nV (G:=G) b s at2 cr 44 hl g1;cases h44:eJ s at2 44 with
   |false=>
    rw[h44,if_neg b_] at hi2;have hvs:ei cr s (j+1) []= .ok (vs,at2):=by rw[<-g4];unfold qy;rw[h44,if_neg b_]
    by_cases h20:acc.length=20
    ·refine an ?_;intros;refine cd (hT 4 ((at0+1:Nat):Int)) ?_;exact bad (h3.symm.trans (iV hq hw h61 hvs h20)) rfl
    ·refine an ?_;intro wa wk wc _;intros;refine DT (at2,acc++[⟨w,vs⟩],wa,wk,wc) ⟨g1,by simp only[d_,j_,E_];omega,(ky hq hw h61 hvs h20).symm.trans h3⟩ (by dsimp only;omega) ?_;exact ak (bi ae (At _)) (V1 (by simp))
   |true=>
    rw[h44,if_pos rfl] at hi2;have hb3:=(cK.1 h44).1;have hv2:=ye (G:=G) b s (at2+1) cr hl a_;have hgo:qy cr s at2 vs=ei cr s (at2+1) vs:=by unfold qy;rw[h44,if_pos rfl]
    refine an ?_;intros;refine cD mixed hC hGL false (λv h=>∃(e:Int) (q jj:Nat) (T:Heap),cw cr s (at2+1)= .bad e q/\v=pj e q/\h=nO b s jj cr::T)
     (λ_:{x:ω×Nat×Option Addr×Nat×Nat//cw cr s (at2+1)= .ok (x.1,x.2.1)}=>[(0,.own 0 (pS b)),(3,.own 1 (nz va vk vc)),(4,.int .i64 ((at0+1:Nat):Int)),(5,.own 2 (pS bp))])
     (λx=>[nO b s x.1.2.1 cr,.row (nz va vk vc) none 2 acc.length (dG acc),.cells bp (some 69) [.str w,.own 3 (nz x.1.2.2.1 x.1.2.2.2.1 x.1.2.2.2.2)],.row (nz x.1.2.2.1 x.1.2.2.2.1 x.1.2.2.2.2) none 1 (vs++[x.1.1]).length (bu (vs++[x.1.1]))])
     .p6 be ?_ ?_ ?_
    ·refine xn ?_;repeat' first|exact .n|apply Lc.mk
     all_goals intros
     all_goals (
      refine⟨_,dO [.row (nz va vk vc) none 2 acc.length (dG acc),.cells bp (some 69) [.str w,.own 3 (nz ua uk uc)],.row (nz ua uk uc) none 1 vs.length (bu vs)] hv2,?_,?_⟩
      ·rintro _ _ ⟨_,(⟨v,b',hv,e,rfl⟩|⟨_,_,_,_,e,_⟩),rfl⟩
       ·cases e;refine xn ?_;repeat' first|exact .n|apply Lc.mk
        all_goals intros
        all_goals (
         rename_i wa wk wc wh;refine⟨⟨(v,b',wa,wk,wc),hv⟩,ae,?_⟩;dsimp only
         rw[<-cg,d_];exact aA)
       ·cases e
      ·rintro _ _ ⟨_,(⟨_,_,_,e,_⟩|⟨e',q,jj,hv,e,rfl⟩),rfl⟩
       ·cases e
       ·cases e;exact⟨e',q,jj,_,hv,rfl,rfl⟩)
    rotate_left
    ·rintro v h ⟨e',q,jj,T,hv,rfl,rfl⟩;exact bad (h3.symm.trans (fe hq hw h61 (g4.symm.trans (hgo.trans (gH hv))))) rfl
    rintro⟨⟨v3,b3,xa,xk,xc⟩,hv3⟩;dsimp only at hv3 ⊢;have hg3:=jg hv3;refine an ?_;intros;exact DT (b3,vs++[v3],xa,xk,xc) ⟨hg3.2 a_,a_,by simp only[d_,j_,E_];omega,((pJ hv3).symm.trans hgo.symm).trans g4⟩ (by dsimp only;omega) (bi ae aA)
end
section
abbrev mU (b:Nat)(g n:ω)(q:AVal)(v:ω):HEnt:=.cells b (some 97) [.str g,.str n,q,.str v]
abbrev Lj (b:Nat)(x:AVal):HEnt:=.cells b (some 29) [x]
abbrev kN:AVal:=.raw (.slice none 0 0)
abbrev RX (e p:Int):AVal:=.iface 79 (.rop [.int .i64 e,.int .i64 p] 0)
abbrev Nl (b4 b5:Nat):Deferred:={target:=.fn (.func 92) #[pS b4,pS b5],args:=#[]}
theorem JQ {G:Glo}{H:Heap}{i:Nat}(b:Nat)(s:ω)(a:Nat)(cr:Bool)(hi:H[i]? =some (nO b s a cr))(hl:s.length<=1000000)(ha:a<=s.length):ad prog G 93 [.raw (pS b)] H
  (λr H'=>(∃w j,bF s a= .ok (w,j)/\r= .ret (.str w)/\H'=H.set i (nO b s j cr))\/(∃e p j,bF s a= .bad e p/\r= .panic (pj e p)/\H'=H.set i (nO b s j cr))):=by
 refine(QM hi (A5 b s a cr hl ha) (by rintro _ _ (⟨_,_,_,_,rfl⟩|⟨_,_,_,_,_,rfl⟩)<;>simp)).mono ?_;rintro r H' ⟨y,t,(⟨w,j,h1,h2,h3⟩|⟨e,p,j,h1,h2,h3⟩),rfl⟩
 ·cases h3;exact .inl ⟨w,j,h1,h2,by simp⟩
 ·cases h3;exact .inr ⟨e,p,j,h1,h2,by simp⟩
theorem MF {G:Glo}{H:Heap}{i:Nat}(b:Nat)(s:ω)(a:Nat)(cr:Bool)(hi:H[i]? =some (nO b s a cr))(hl:s.length<=1000000)(ha:a<=s.length):ad prog G 95 [.raw (pS b)] H
  (λr H'=>(∃ps j va vk vc,cG cr s a []= .ok (ps,j)/\r= .ret (.own 1 (.slice va vk vc))/\H'=H.set i (nO b s j cr)++[.row (.slice va vk vc) none 2 ps.length (dG ps)])\/(∃e p j,cG cr s a []= .bad e p/\r= .panic (pj e p)/\H'=H.set i (nO b s j cr))):=by
 refine(QM hi (FH b s a cr hl ha) (by rintro _ _ (⟨_,_,_,_,_,_,_,rfl⟩|⟨_,_,_,_,_,rfl⟩)<;>simp)).mono ?_;rintro r H' ⟨y,t,(⟨ps,j,va,vk,vc,h1,h2,h3⟩|⟨e,p,j,h1,h2,h3⟩),rfl⟩
 ·cases h3;exact .inl ⟨ps,j,va,vk,vc,h1,h2,rfl⟩
 ·cases h3;exact .inr ⟨e,p,j,h1,h2,by simp⟩
theorem xQ {c:Bool}{s:ω}:∀(n:Nat) {a b:Nat} {acc ps:List Pr},s.length-a<=n->cG c s a acc= .ok (ps,b)->a<=b/\(a<=s.length->b<=s.length)
 |n,a,b,acc,ps,hn,h=>by
  cases hq:eJ s a 59 with
  |false=>rw[iW hq] at h;cases h;exact⟨Nat.le_refl _,id⟩
  |true=>
   have h1:=cK.1 hq;cases hw:bF s (a+1) with
   |bad e p=>rw[gx hq hw] at h;cases h
   |ok x=>
    obtain⟨w,j⟩:=x;have h2:=de hw;cases hj:eJ s j 61 with
    |false=>rw[kA hq hw hj] at h;cases h
    |true=>
     cases hv:ei c s (j+1) [] with
     |bad e p=>rw[fe hq hw hj hv] at h;cases h
     |ok x=>
      obtain⟨vs,d⟩:=x;have h3:=ki _ (Nat.le_refl _) hv;by_cases h20:acc.length=20
      ·rw[iV hq hw hj hv h20] at h;cases h
      ·rw[ky hq hw hj hv h20] at h;cases n with
       |zero=>omega
       |succ n=>
        have ih:=xQ n a_ h;have h4:=(cK.1 hj).1;omega
attribute [local irreducible] bJ au aa ax aR ab ad iJ fo dm isS cB aU dG To dS Lv gj
theorem FI {G:Glo}(b4 b5:Nat)(e p:Int)(g n v:ω)(q x:AVal):dS prog G 92 [.own 0 (pS b4),.own 1 (pS b5)] (.pan (pj e p)) [mU b4 g n q v,Lj b5 x]
  (λr m H=>m= .rcv (pj e p)/\r= .ret (.tuple [])/\H=[mU b4 [] [] kN [],Lj b5 (RX e p)]):=by
 have hGL:ab G []:=al;refine Up (Y:=Nat) (H1:=λb3=>[mU b4 [] [] kN [],Lj b5 (.iface 79 (.own 2 (pS b3))),.cells b3 (some 172) [.int .i64 e,.int .i64 p]]) ?_ ?_
 ·refine Dk (rs:=[]) (GL:=[]) func92 rfl rfl rfl rfl rfl rfl hGL ?_;intro C hC;refine an ?_;intro b3;intros;exact⟨_,At _,rfl,b3,rfl⟩
 ·intro b3 C R w hm;obtain⟨R',hle,hm',hr⟩:=MS.seal_cells (hm.perm (fd (i:=2) rfl));obtain⟨h1,h2⟩:=(mh.cells (R:=R') (b:=b5) (eT:=some 29) (p:=0) (a:=.iface 79 (.own 2 (pS b3))) (a':=RX e p) (cs:=[.iface 79 (.own 2 (pS b3))]) rfl (λv=>IV (Px hr))).holds (hm'.heap.holds _ (q_ (i:=1) rfl));exact⟨R',hle,hm'.setEnt (i:=1) rfl h2 h1⟩
theorem zS {G:Glo}(b4 b5:Nat)(x y:HEnt):dS prog G 92 [.own 0 (pS b4),.own 1 (pS b5)] .ret [x,y] (λr m H=>m= .ret/\r= .ret (.tuple [])/\H=[x,y]):=by
 have hGL:ab G []:=al;refine Dk (rs:=[]) (GL:=[]) func92 rfl rfl rfl rfl rfl rfl hGL ?_;intro C hC;exact eK
section
variable {G:Glo} {n:Nat} {env:Env} {Qf:co->Heap->Prop} {b4 b5:Nat} {T:Heap} {q x:AVal} {e p:Int} {g m v:ω}
theorem CJ (h4:Env.get env 4=some (.own 0 (pS b4)))(h5:Env.get env 5=some (.own 1 (pS b5)))(hx:x.isAgg=false){H':Heap}(hs:H'.Sublist T)(hq:Qf (.ret (.tuple [.agg [.str g,.str m,q,.str v],x])) H'):
  Lv prog G n [.cell 4 97,.cell 5 29] env [] .ret (mU b4 g m q v::Lj b5 x::T) Qf:=by
 refine Vj ⟨[.agg [.str g,.str m,q,.str v],x],H',⟨_,_,rfl,⟨b4,0,_,_,_,.inr ⟨0,h4⟩,rfl,rfl,rfl,.inl ⟨rfl,rfl⟩⟩,_,_,rfl,⟨b5,1,_,_,_,.inr ⟨1,h5⟩,rfl,rfl,rfl,.inr ⟨rfl,rfl,hx⟩⟩,rfl⟩,(hs.cons _).cons _,hq⟩
theorem Il (h4:Env.get env 4=some (.own 0 (pS b4)))(h5:Env.get env 5=some (.own 1 (pS b5)))(hq:Qf (.ret (.tuple [.agg [.str [],.str [],kN,.str []],RX e p])) []):
  Lv prog G n [.cell 4 97,.cell 5 29] env [Nl b4 b5] (.pan (pj e p)) (mU b4 g m q v::Lj b5 x::T) Qf:=by
 refine iz (pr T (FI (G:=G) b4 b5 e p g m v q x)) (λR=>⟨_,_,rfl,aE.2 ⟨rfl,rfl⟩,_,_,rfl,aE.2 ⟨rfl,rfl⟩,rfl⟩) call92 ?_;exact CJ h4 h5 rfl (Ug _) hq
theorem Pv (h4:Env.get env 4=some (.own 0 (pS b4)))(h5:Env.get env 5=some (.own 1 (pS b5)))(hx:x.isAgg=false){H':Heap}(hs:H'.Sublist T)(hq:Qf (.ret (.tuple [.agg [.str g,.str m,q,.str v],x])) H'):
  Lv prog G n [.cell 4 97,.cell 5 29] env [Nl b4 b5] .ret (mU b4 g m q v::Lj b5 x::T) Qf:=by
 refine iz (pr T (zS (G:=G) b4 b5 _ _)) (λR=>⟨_,_,rfl,aE.2 ⟨rfl,rfl⟩,_,_,rfl,aE.2 ⟨rfl,rfl⟩,rfl⟩) call92 ?_;exact CJ h4 h5 hx hs hq
end
theorem A6 {c:Bool}{s:ω}(h:0<=dm s):dI c s= .bad 3 (dm s).toNat:=by unfold dI;rw[if_neg a_]
theorem nX {c:Bool}{s:ω}{e:Int}{p:Nat}(h:dm s<0)(k:fI s= .bad e p):dI c s= .bad e p:=by unfold dI;rw[if_pos h,k]
theorem jZ {c:Bool}{s g n:ω}{a:Nat}{e:Int}{p:Nat}(h:dm s<0)(k:fI s= .ok ((g,n),a))(m:cG c s a []= .bad e p):dI c s= .bad e p:=by
 unfold dI;rw[if_pos h,k];dsimp only;rw[m]
theorem yg {c:Bool}{s g n:ω}{a b:Nat}{ps:List Pr}(h:dm s<0)(k:fI s= .ok ((g,n),a))(m:cG c s a []= .ok (ps,b)):dI c s=jk s g n ps b:=by
 unfold dI;rw[if_pos h,k];dsimp only;rw[m]
theorem K3 {s:ω}{e:Int}{p:Nat}(h:bF s 0= .bad e p):fI s= .bad e p:=by unfold fI;rw[h]
theorem K2 {s w:ω}{j:Nat}(h:bF s 0= .ok (w,j))(k:eJ s j 46=false):fI s= .ok (([],w),j):=by unfold fI;rw[h];dsimp only;rw[k];rfl
theorem K1 {s w:ω}{j p:Nat}{e:Int}(h:bF s 0= .ok (w,j))(k:eJ s j 46=true)(m:bF s (j+1)= .bad e p):fI s= .bad e p:=by unfold fI;rw[h];dsimp only;rw[k,if_pos rfl,m]
theorem KZ {s w n:ω}{j i:Nat}(h:bF s 0= .ok (w,j))(k:eJ s j 46=true)(m:bF s (j+1)= .ok (n,i)):fI s= .ok ((w,n),i):=by unfold fI;rw[h];dsimp only;rw[k,if_pos rfl,m]
theorem J2 {s g n:ω}{ps:List Pr}{b:Nat}(h:eJ s b 58=false):jk s g n ps b= .bad 7 b:=by unfold jk;rw[h];rfl
theorem SM {s g n:ω}{ps:List Pr}{b i:Nat}(h:eJ s b 58=true)(hb:b+1<=i)(hi:i<s.length)(hc:iJ false (aa s i:Int)=true)(h0:∀j,b+1<=j->j<i->iJ false (aa s j:Int)=false):jk s g n ps b= .bad 3 i:=by
 have e:gh (iJ false) (s.drop (b+1))=((i-(b+1):Nat):Int):=mB (i:=i-(b+1)) (by rw[k_];omega) (by rw[qn,show b+1+(i-(b+1))=i by omega];exact hc) (λj hj=>by rw[qn];exact h0 _ a_ a_);unfold jk;rw[h,if_pos rfl,e,if_neg a_,B_,show b+1+(i-(b+1))=i by omega]
theorem OH {s g n:ω}{ps:List Pr}{b i:Nat}(h:eJ s b 58=true)(hi:s.length<=i)(h0:∀j,b+1<=j->j<i->iJ false (aa s j:Int)=false):jk s g n ps b= .ok ⟨g,n,ps,s.drop (b+1)⟩:=by
 have e:gh (iJ false) (s.drop (b+1))= -1:=iZ (λj hj=>by rw[qn];rw[k_] at hj;exact h0 _ a_ a_);unfold jk;rw[h,if_pos rfl,e,if_pos b_]
attribute [local irreducible] dI fI bF jk
theorem FJ {G:Glo}(s:ω)(cr:Bool)(hl:s.length<=1000000):ad prog G 48 [.str s,.bool cr] []
  (λr H=>(∃(e:Int) (p:Nat),dI cr s= .bad e p/\r= .ret (.tuple [.agg [.str [],.str [],kN,.str []],RX e p])/\H=[])\/
   (∃(l:Ln) (v:Value),dI cr s= .ok l/\r= .ret (.tuple [.agg [.str l.g,.str l.n,.own 1 v,.str l.v],.raw .nilIface])/\H=[.row v none 2 l.ps.length (dG l.ps)])):=by
 have hGL:ab G []:=al;have hB:=BV (G:=G) s a_;refine Ua (rs:=[.cell 4 97,.cell 5 29]) func48 call48 rfl rfl rfl rfl ?_;intro C hC hD;refine ci hC hGL (λx:Nat×Nat=>[(0,.str s),(1,.bool cr),(4,.own 0 (pS x.1)),(5,.own 1 (pS x.2))]) (λx=>[mU x.1 [] [] kN [],Lj x.2 (.raw .nilIface)]) (λ_=>True) ?_ ?_
 ·refine an ?_;intro b4 b5;exact cy (b4,b5) trivial
 rintro⟨b4,b5⟩-
 dsimp only
 refine ci hC hGL (λ_:Unit=>[(0,.str s),(1,.bool cr),(4,.own 0 (pS b4)),(5,.own 1 (pS b5))]) (λ_=>[mU b4 [] [] kN [],Lj b5 (.raw .nilIface)]) (λ_=>dm s<0) ?_ ?_
 ·by_cases hb:0<=dm s
  ·have e9:dm s=(((dm s).toNat:Nat):Int):=by omega
   refine an ?_;intros;rw[hD];exact CJ rfl rfl rfl (Ug _) (.inl ⟨3,(dm s).toNat,A6 hb,by rw[<-e9];rfl,rfl⟩)
  ·refine an ?_;intros;exact cy () a_
 intro _ hb;refine fq (j5 hC hGL rfl ?_);refine an ?_;refine⟨_,rfl,?_⟩;refine(λ(h:∀C2:Ctx,C2.G=G->C2.D=[Nl b4 b5]->gj prog C2 _ _ _ _ _)=>h (withD C (Nl b4 b5::C.D)) hC (by show Nl b4 b5::C.D=_;rw[hD])) ?_;clear hC hD C;intro C hC hD;have thr:∀{n:Nat} {env:Env} {T:Heap} {q x:AVal} {g m v:ω} {e:Int} {p:Nat} {p':Int},Env.get env 4=some (.own 0 (pS b4))->Env.get env 5=some (.own 1 (pS b5))->dI cr s= .bad e p->p'=p->Lv prog G n [.cell 4 97,.cell 5 29] env [Nl b4 b5] (.pan (pj e p')) (mU b4 g m q v::Lj b5 x::T)
   (λr H=>(∃(e:Int) (p:Nat),dI cr s= .bad e p/\r= .ret (.tuple [.agg [.str [],.str [],kN,.str []],RX e p])/\H=[])\/
   (∃(l:Ln) (v:Value),dI cr s= .ok l/\r= .ret (.tuple [.agg [.str l.g,.str l.n,.own 1 v,.str l.v],.raw .nilIface])/\H=[.row v none 2 l.ps.length (dG l.ps)])):=by
  rintro n env T q x g m v e p p' h4 h5 h rfl;exact Il h4 h5 (.inl ⟨_,_,h,rfl,rfl⟩)
 refine ci hC hGL (λbr:Nat=>[(0,.str s),(4,.own 0 (pS b4)),(5,.own 1 (pS b5)),(7,.own 2 (pS br))]) (λbr=>[mU b4 [] [] kN [],Lj b5 (.raw .nilIface),nO br s 0 cr]) (λ_=>True) ?_ ?_
 ·refine Sg ?_;intro br;intros;exact cy br trivial
 intro br _;have hT:=λe p=>nU (G:=G) (pS br) e p;refine ci hC hGL (λx:ω×Nat=>[(0,.str s),(4,.own 0 (pS b4)),(5,.own 1 (pS b5)),(7,.own 2 (pS br))]) (λx=>[mU b4 [] x.1 kN [],Lj b5 (.raw .nilIface),nO br s x.2 cr]) (λx=>bF s 0= .ok x) ?_ ?_
 ·refine an ?_;intros;refine⟨_,JQ (i:=2) br s 0 cr rfl hl (Nat.zero_le _),?_,?_⟩
  ·rintro _ _ (⟨w,j,hw,e,rfl⟩|⟨_,_,_,_,e,_⟩)
   ·cases e;refine an ?_;intros;exact cy (w,j) hw
   ·cases e
  ·rintro _ _ (⟨_,_,_,e,_⟩|⟨e',p,j,hw,e,rfl⟩)
   ·cases e
   ·cases e
    (conv=>whnf)
    rw[hD];exact thr rfl rfl (nX hb (K3 hw)) rfl
 rintro⟨w,j⟩ hw;dsimp only
 have hg:=de hw;have hjl:=hg.2.1 (Nat.zero_le _);have hi1:=nV (G:=G) br s j cr 46 hl hjl;refine ci hC hGL (λx:ω×ω×Nat=>[(0,.str s),(4,.own 0 (pS b4)),(5,.own 1 (pS b5)),(7,.own 2 (pS br))]) (λx=>[mU b4 x.1 x.2.1 kN [],Lj b5 (.raw .nilIface),nO br s x.2.2 cr]) (λx=>fI s= .ok ((x.1,x.2.1),x.2.2)/\x.2.2<=s.length) ?_ ?_
 ·cases h46:eJ s j 46 with
  |false=>
   rw[h46,if_neg b_] at hi1;refine an ?_;intros;exact cy ([],w,j) ⟨K2 hw h46,hjl⟩
  |true=>
   rw[h46,if_pos rfl] at hi1;have hb1:=(cK.1 h46).1;refine an ?_;intros;refine⟨_,JQ (i:=2) br s (j+1) cr rfl hl a_,?_,?_⟩
   ·rintro _ _ (⟨n,k,hn,e,rfl⟩|⟨_,_,_,_,e,_⟩)
    ·cases e;refine an ?_;intros;exact cy (w,n,k) ⟨KZ hw h46 hn,(de hn).2.1 a_⟩
    ·cases e
   ·rintro _ _ (⟨_,_,_,e,_⟩|⟨e',p,k,hn,e,rfl⟩)
    ·cases e
    ·cases e
     (conv=>whnf)
     rw[hD];exact thr rfl rfl (nX hb (K1 hw h46 hn)) rfl
 rintro⟨g,n,a⟩ ⟨hh,hal⟩;dsimp only at hh hal ⊢;refine ci hC hGL (λx:List Pr×Nat×Option Addr×Nat×Nat=>[(0,.str s),(4,.own 0 (pS b4)),(5,.own 1 (pS b5)),(7,.own 2 (pS br))]) (λx=>[mU b4 g n (.own 1 (.slice x.2.2.1 x.2.2.2.1 x.2.2.2.2)) [],Lj b5 (.raw .nilIface),nO br s x.2.1 cr,.row (.slice x.2.2.1 x.2.2.2.1 x.2.2.2.2) none 2 x.1.length (dG x.1)]) (λx=>cG cr s a []= .ok (x.1,x.2.1)/\x.2.1<=s.length) ?_ ?_
 ·refine an ?_;intros;refine⟨_,MF (i:=2) br s a cr rfl hl hal,?_,?_⟩
  ·rintro _ _ (⟨ps,k,va,vk,vc,hn,e,rfl⟩|⟨_,_,_,_,e,_⟩)
   ·cases e;refine an ?_;intros;exact cy (ps,k,va,vk,vc) ⟨hn,(xQ _ (Nat.le_refl _) hn).2 hal⟩
   ·cases e
  ·rintro _ _ (⟨_,_,_,_,_,_,e,_⟩|⟨e',p,k,hn,e,rfl⟩)
   ·cases e
   ·cases e
    (conv=>whnf)
    rw[hD];exact thr rfl rfl (jZ hb hh hn) rfl
 rintro⟨ps,k,va,vk,vc⟩ ⟨hp,hkl⟩;dsimp only at hp hkl ⊢;have hLP:=yg (c:=cr) hb hh hp;have hi2:=nV (G:=G) br s k cr 58 hl hkl;cases h58:eJ s k 58 with
 |false=>
  rw[h58,if_neg b_] at hi2;refine dQ hC hGL (an ?_);intros;refine cd (hT 7 k) ?_
  (conv=>whnf)
  rw[hD];exact thr rfl rfl (hLP.trans (J2 h58)) rfl
 |true=>
  rw[h58,if_pos rfl] at hi2;have hb2:=(cK.1 h58).1;refine dQ hC hGL (an ?_);intros;refine lp hC hGL (λi:Nat=>[(0,.str s),(4,.own 0 (pS b4)),(5,.own 1 (pS b5)),(7,.own 2 (pS br)),(8,.int .i64 (i:Nat))]) (λ_=>[mU b4 g n (.own 1 (.slice va vk vc)) [],Lj b5 (.raw .nilIface),nO br s (k+1) cr,.row (.slice va vk vc) none 2 ps.length (dG ps)]) (λi=>k+1<=i/\i<=s.length/\∀j,k+1<=j->j<i->iJ false (aa s j:Int)=false) (λi=>s.length-i) (k+1) ⟨Nat.le_refl _,hb2,λj h1 h2=>by omega⟩ ae rfl ?_;rintro i ⟨i1,i2,i3⟩;by_cases hi:i<s.length
  ·have hN:=nW (G:=G) (aa s i:Int);cases hc:iJ false (aa s i:Int) with
   |false=>
    rw[hc] at hN;refine an ?_;intros;refine cQ (i+1) ⟨a_,a_,λj h1 h2=> ?_⟩ a_ ae rfl;rcases aaj j i with g|g
    ·exact i3 j h1 g
    ·rw[show j=i by omega];exact hc
   |true=>
    rw[hc] at hN;refine an ?_;intros;refine cd (hT 3 i) ?_
    (conv=>whnf)
    rw[hD];exact thr rfl rfl (hLP.trans (SM h58 i1 hi hc i3)) rfl
  ·refine an ?_;intros;rw[hD];refine Pv (H':=[.row (.slice va vk vc) none 2 ps.length (dG ps)]) rfl rfl rfl ?_ ?_
   ·exact List.Sublist.cons _ (At _)
   ·exact .inr ⟨⟨g,n,ps,s.drop (k+1)⟩,_,hLP.trans (OH h58 a_ i3),rfl,rfl⟩
end
end Go.Proofs.YtgpjhbhdbjdlgaaGreatDoor
