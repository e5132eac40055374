/- Parts of the proof of cardParses_card. -/
import GoSem.PinnedTables
import Derived.Test.YtnbaflecdkgihaaGreatDoorBag
set_option linter.unusedVariables false
set_option linter.unusedSimpArgs false
set_option linter.unusedSectionVars false
namespace Go.Proofs.YtnbaflecdkgihaaGreatDoor
open Go Go.RowKit
open Tryz
set_option maxRecDepth 20000
set_option maxHeartbeats 4000000
section
attribute [local irreducible] bG au az aR ab ad
abbrev FK:List AVal:=[.str [94,94],.str [94],.str [94,110],.str [10],.str [94,39],.str [34]]
abbrev kC (br vc:Nat):HEnt:=.row (.slice (some ⟨br,0,none⟩) 6 vc) none 1 6 FK
def vO:List AVal:=List.replicate 256 (.int .u8 0)
def mapM:List AVal:=(((vO.set 94 (.int .u8 1)).set 110 (.int .u8 1)).set 39 (.int .u8 1))
def m1 (i:Nat):Nat:=if i=39\/i=94\/i=110 then 1 else 0
def kE (i:Nat):Nat:=(if 39<i then 1 else 0)+(if 94<i then 1 else 0)+(if 110<i then 1 else 0)
theorem tS (i:Nat):kE (i+1)=kE i+m1 i:=by unfold kE m1;(repeat' split)<;>omega
theorem KD (i:Nat):kE i<=3:=by unfold kE;(repeat' split)<;>omega
theorem T4 (i:Nat):m1 i<=1:=by unfold m1;split<;>omega
theorem Fm {t:AVal}{n:Int}{M:List AVal}{i:Nat}{v:AVal}:(od t n M).take (0+6+i*1)++[v]++(od t n M).drop (0+6+i*1+1)=od t n (M.take i++[v]++M.drop (i+1)):=by
 rw[show 0+6+i*1=i+6 by omega,show i+6+1=(i+1)+6 by omega];rfl
theorem Fp {t:AVal}{n:Int}{M:List AVal}{i:Nat}(h:M.length=256)(hi:i<256):Nat.ble (0+6+i*1+1) (od t n M).length=true:=by
 refine Nat.ble_eq_true_of_le ?_;have:(od t n M).length=M.length+6:=rfl;omega
theorem Of {v w:AVal}{N a b c i:Nat}(hi:i<N):((((List.replicate N v).set a w).set b w).set c w)[i]? =some (if i=c\/i=a\/i=b then w else v):=by
 by_cases h1:i=c
 ·subst h1;rw[List.getElem?_set_self (by simpa using hi),if_pos (.inl rfl)]
 ·rw[M_ (Ne.symm h1)];by_cases h2:i=b
  ·subst h2;rw[List.getElem?_set_self (by simpa using hi),if_pos (.inr (.inr rfl))]
  ·rw[M_ (Ne.symm h2)];by_cases h3:i=a
   ·subst h3;rw[List.getElem?_set_self (by simpa using hi),if_pos (.inr (.inl rfl))]
   ·rw[M_ (Ne.symm h3),if_neg a_];simp[hi]
theorem EP {i:Nat}(hi:i<256):mapM[i]? =some (.int .u8 (m1 i:Nat)):=by
 unfold mapM vO m1;rw[Of hi];split<;>rfl
def m2 (i:Nat):Nat:=if i=39 then 0 else if i=94 then 1 else if i=110 then 2 else 3
theorem VD {i:Nat}(h:m1 i=0):m2 i=3:=by unfold m1 at h;unfold m2;(repeat' split)<;>(try split at h)<;>omega
theorem VC {i:Nat}(h:m1 i≠0):m2 i=kE i:=by unfold m1 at h;unfold m2 kE;split at h<;>(repeat' split)<;>omega
def r8 (i:Nat):List AVal:=(List.range 256).map λk=>.int .u8 ((if k<i then m2 k else m1 k:Nat):Int)
theorem EQ (i:Nat):(r8 i).length=256:=by simp[r8]
theorem Aw {i:Nat}(hi:i<256):(r8 i).take i++[.int .u8 (m2 i:Nat)]++(r8 i).drop (i+1)=r8 (i+1):=by
 refine List.ext_getElem? λk=> ?_;have hl:=EQ i;rcases Nat.lt_trichotomy k i with h|h|h
 ·rw[H_ (by simp;omega),H_ (by simp;omega),List.getElem?_take_of_lt h]
  unfold r8
  rw[List.getElem?_map,List.getElem?_map,List.getElem?_range a_]
  simp[h,show k<i+1 by omega]
 ·subst h
  rw[H_ (by simp;omega),G_ (by rw[i_];omega),i_,Nat.min_eq_left a_,Nat.sub_self]
  unfold r8
  rw[List.getElem?_map,List.getElem?_range hi]
  simp
 ·have h9:((r8 i).take i++[AVal.int .u8 (m2 i:Nat)]).length=i+1:=by rw[d_,i_];simp;omega
  rw[G_ a_,h9,List.getElem?_drop,show i+1+(k-(i+1))=k by omega]
  unfold r8
  rw[List.getElem?_map,List.getElem?_map]
  by_cases hk:k<256
  ·rw[List.getElem?_range hk]
   simp[show ¬k<i by omega,show ¬k<i+1 by omega]
  ·rw[P_ (by simp;omega)]
   rfl
abbrev gI (br vc bl:Nat)(l:Env):Env:=(0,.own 0 (.slice (some ⟨br,0,none⟩) 6 vc))::(3,.own 2 (pv bl 0))::l
abbrev gZ (bl:Nat)(l:List AVal):HEnt:=.cells bl (some 387) l
abbrev TW (bg bt n1 n2 n3 b7 n4:Nat):Heap:=[.cells bg (some 387) (od (.own 3 (.slice (some ⟨bt,0,none⟩) 3 3)) 3 mapD),.row (.slice (some ⟨bt,0,none⟩) 3 3) (some 382) 1 3 [.raw (.pointer none),.own 4 (pv n1 0),.raw (.pointer none)],.cells n1 (some 385) [.str [],.int .i64 0,.str [],.raw (.pointer none),.own 7 (.slice (some ⟨b7,0,none⟩) 3 3)],qk n2 [94] 6,qk n3 [10] 4,.row (.slice (some ⟨b7,0,none⟩) 3 3) (some 382) 1 3 [.own 8 (pv n4 0),.own 5 (pv n2 0),.own 6 (pv n3 0)],.cells n4 (some 385) [.str [34],.int .i64 2,.str [],.raw (.pointer none),.raw (.slice none 0 0)]]
theorem XE {G:Glo}(br vc:Nat)(e1:HEnt):ad prog G 259 [.raw (.slice (some ⟨br,0,none⟩) 6 vc)] [kC br vc,e1]
  (λr H=>∃bg bt n1 n2 n3 b7 n4,r= .ret (.own 2 (pv bg 0))/\H=[kC br vc,e1]++TW bg bt n1 n2 n3 b7 n4):=by
 have hGL:ab G []:=al;refine ji 0 func259 call259 rfl rfl rfl rfl hGL rfl ?_
 intro C hC
 have r0:cd (.slice (some ⟨br,0,none⟩) 6 vc) br 6:=⟨_,rfl⟩
 have d0:FK[0]? =some (.str [94,94]):=rfl
 have d1:FK[1]? =some (.str [94]):=rfl
 have d2:FK[2]? =some (.str [94,110]):=rfl
 have d3:FK[3]? =some (.str [10]):=rfl
 have d4:FK[4]? =some (.str [94,39]):=rfl
 have d5:FK[5]? =some (.str [34]):=rfl
 refine iS ?_
 intro bl
 intros
 refine mQ hC hGL 4 ?_
 refine iS ?_
 intros
 refine mQ hC hGL 3 ?_
 refine iS ?_
 intros
 refine bh mixed hC hGL false (λ(_:Unit)=>gI br vc bl [(4,.int .i64 0),(5,.str [94,94]),(6,.int .i64 0)]) (λ_=>[kC br vc,e1,gZ bl (od (.raw (.slice none 0 0)) 0 (vO.set 94 (.int .u8 1)))]) .p0 be ?_ ?_
 ·refine iS ?_
  intros
  exact⟨(),⟨rfl,rfl,rfl,rfl,rfl,trivial⟩,rfl⟩
 intro _
 refine iS ?_
 intros
 refine bh mixed hC hGL false (λ(_:Unit)=>gI br vc bl [(4,.int .i64 0),(5,.str [94,94]),(6,.int .i64 1)]) (λ_=>[kC br vc,e1,gZ bl (od (.raw (.slice none 0 0)) 0 (vO.set 94 (.int .u8 1)))]) .p0 be ?_ ?_
 ·refine iS ?_
  intros
  exact⟨(),⟨rfl,rfl,rfl,rfl,rfl,trivial⟩,rfl⟩
 intro _
 refine iS ?_
 intros
 refine mQ hC hGL 3 ?_
 refine iS ?_
 intros
 refine bh mixed hC hGL false (λ(_:Unit)=>gI br vc bl [(4,.int .i64 2),(5,.str [94,110]),(6,.int .i64 0)]) (λ_=>[kC br vc,e1,gZ bl (od (.raw (.slice none 0 0)) 0 (vO.set 94 (.int .u8 1)))]) .p0 be ?_ ?_
 ·refine iS ?_
  intros
  exact⟨(),⟨rfl,rfl,rfl,rfl,rfl,trivial⟩,rfl⟩
 intro _
 refine iS ?_
 intros
 refine bh mixed hC hGL false (λ(_:Unit)=>gI br vc bl [(4,.int .i64 2),(5,.str [94,110]),(6,.int .i64 1)]) (λ_=>[kC br vc,e1,gZ bl (od (.raw (.slice none 0 0)) 0 ((vO.set 94 (.int .u8 1)).set 110 (.int .u8 1)))]) .p0 be ?_ ?_
 ·refine iS ?_
  intros
  exact⟨(),⟨rfl,rfl,rfl,rfl,rfl,trivial⟩,rfl⟩
 intro _
 refine iS ?_
 intros
 refine mQ hC hGL 3 ?_
 refine iS ?_
 intros
 refine bh mixed hC hGL false (λ(_:Unit)=>gI br vc bl [(4,.int .i64 4),(5,.str [94,39]),(6,.int .i64 0)]) (λ_=>[kC br vc,e1,gZ bl (od (.raw (.slice none 0 0)) 0 ((vO.set 94 (.int .u8 1)).set 110 (.int .u8 1)))]) .p0 be ?_ ?_
 ·refine iS ?_
  intros
  exact⟨(),⟨rfl,rfl,rfl,rfl,rfl,trivial⟩,rfl⟩
 intro _
 refine iS ?_
 intros
 refine bh mixed hC hGL false (λ(_:Unit)=>gI br vc bl [(4,.int .i64 4),(5,.str [94,39]),(6,.int .i64 1)]) (λ_=>[kC br vc,e1,gZ bl (od (.raw (.slice none 0 0)) 0 mapM)]) .p0 be ?_ ?_
 ·refine iS ?_
  intros
  exact⟨(),⟨rfl,rfl,rfl,rfl,rfl,trivial⟩,rfl⟩
 intro _
 refine iS ?_
 intros
 have hs:∀i:Nat,((kE i:Nat):Int)+(m1 i:Nat)=((kE (i+1):Nat):Int):=λi=>by rw[tS,Int.natCast_add]
 refine lp hC hGL (λi:Nat=>gI br vc bl [(40,.agg mapM),(41,.int .i64 (i:Nat))]) (λi=>[kC br vc,e1,gZ bl (od (.raw (.slice none 0 0)) ((kE i:Nat):Int) mapM)]) (λi=>i<=256) (λi=>256-i) 0 ?_ ah rfl ?_
 ·omega
 ·intro i hi
  have hc3:=KD i
  have hm1:=T4 i
  by_cases hlt:i<256
  ·refine iS ?_
   intros
   refine aZ hC hGL (mN (i:=i) rfl rfl rfl rfl rfl rfl rfl hlt (EP hlt) rfl) rfl rfl ?_
   refine iS ?_
   intros
   refine cQ (i+1) ?_ ?_ ⟨rfl,rfl,rfl,rfl,trivial⟩ ?_
   ·show i+1<=256;omega
   ·show 256-(i+1)<256-i;omega
   ·show _=[kC br vc,e1,gZ bl (od (.raw (.slice none 0 0)) ((kE (i+1):Nat):Int) mapM)]
    rw[<-hs]
    rfl
  ·obtain rfl:i=256:=by omega
   refine iS ?_
   intros
   refine lp hC hGL (λx:Nat×List AVal=>gI br vc bl [(9,.int .u8 ((kE x.1:Nat):Int)),(57,.agg mapM),(58,.int .i64 (x.1:Nat))]) (λx=>[kC br vc,e1,gZ bl (od (.raw (.slice none 0 0)) 3 x.2)]) (λx=>x.1<=256/\x.2=r8 x.1) (λx=>256-x.1) (0,r8 0) ⟨Nat.zero_le _,rfl⟩ ⟨rfl,rfl,rfl,rfl,rfl,trivial⟩ rfl ?_
   rintro⟨i,M⟩ ⟨hi,hM⟩
   have hi:i<=256:=hi
   have hM:M=r8 i:=hM
   have hMl:M.length=256:=by rw[hM];exact EQ i
   have hc3:=KD i
   have hm1:=T4 i
   by_cases hlt:i<256
   ·refine iS ?_
    intros
    refine aZ hC hGL (mN (i:=i) rfl rfl rfl rfl rfl rfl rfl hlt (EP hlt) rfl) rfl rfl ?_
    refine xm ?_
    repeat' first|exact .n|apply Lc.mk
    all_goals intros
    ·refine bh mixed hC hGL false (λ(_:Unit)=>gI br vc bl [(9,.int .u8 ((kE i:Nat):Int)),(57,.agg mapM),(58,.int .i64 (i:Nat))]) (λ_=>[kC br vc,e1,gZ bl (od (.raw (.slice none 0 0)) 3 (M.take i++[.int .u8 3]++M.drop (i+1)))]) (.t 0 (.t 1 (.t 2 (.t 3 (.t 4 (.t 7 (.t 8 (.b 5 (.t 6 (.t 9 (.b 10 .done))))))))))) be ?_ ?_
     ·refine iS ?_
      intros
      erw[Fp hMl hlt]
      refine oA rfl ?_
      erw[cZ,Fm]
      refine iS ?_
      intros
      exact⟨(),⟨rfl,rfl,rfl,rfl,rfl,trivial⟩,rfl⟩
     ·intro _
      refine iS ?_
      intros
      have h0:m1 i=0:=by omega
      have h1:m1 i+kE i=kE (i+1):=by rw[tS];omega
      rw[h0,Nat.zero_add] at h1
      refine cQ (i+1,M.take i++[.int .u8 3]++M.drop (i+1)) ?_ ?_ ⟨rfl,rfl,?_,rfl,rfl,trivial⟩ rfl
      ·refine⟨hlt,?_⟩
       show M.take i++[.int .u8 3]++M.drop (i+1)=r8 (i+1)
       rw[hM,<-Aw hlt,VD h0]
       rfl
      ·show 256-(i+1)<256-i;omega
      ·show some (AVal.int .u8 ((kE i:Nat):Int))=some (AVal.int .u8 ((kE (i+1):Nat):Int))
       rw[h1]
    ·erw[Fp hMl hlt]
     refine oA rfl ?_
     erw[cZ,Fm]
     refine iS ?_
     intros
     have h0:m1 i≠0:=by omega
     have h1:m1 i+kE i=kE (i+1):=by rw[tS];omega
     refine cQ (i+1,M.take i++[.int .u8 ((kE i:Nat):Int)]++M.drop (i+1)) ?_ ?_ ⟨rfl,rfl,?_,rfl,rfl,trivial⟩ rfl
     ·refine⟨hlt,?_⟩
      show M.take i++[.int .u8 ((kE i:Nat):Int)]++M.drop (i+1)=r8 (i+1)
      rw[hM,<-Aw hlt,VC h0]
     ·show 256-(i+1)<256-i;omega
     ·show some (AVal.int .u8 (((kE i:Nat):Int)+1))=some (AVal.int .u8 ((kE (i+1):Nat):Int))
      rw[show((kE (i+1):Nat):Int)=(kE i:Nat)+1 by omega]
   ·obtain rfl:i=256:=by omega
    subst hM
    refine iS ?_
    intros
    refine Ah (m:=3) hC hGL rfl rfl a_ rfl rfl rfl rfl rfl rfl rfl rfl (λbt=> ?_)
    refine iS ?_
    intros
    refine mQ hC hGL 4 ?_
    refine iS ?_
    intros
    refine bh mixed hC hGL false (λ(_:Nat×Nat)=>gI br vc bl [(12,.int .i64 0)]) (λy=>[kC br vc,e1,vr bl bt,.row (.slice (some ⟨bt,0,none⟩) 3 3) (some 382) 1 3 [.raw (.pointer none),.own 4 (pv y.1 0),.raw (.pointer none)],.cells y.1 (some 385) [.str [],.int .i64 0,.str [94],.own 5 (pv y.2 0),.raw (.slice none 0 0)],.cells y.2 (some 385) [.str [94],.int .i64 6,.str [],.raw (.pointer none),.raw (.slice none 0 0)]]) .p10 be ?_ ?_
    ·refine xm ?_
     repeat' first|exact .n|apply Lc.mk
     all_goals intros
     ·refine⟨_,Oc bl bt _ _,?_,?_⟩
      ·rintro v H ⟨n1,n2,e,rfl⟩
       cases e
       refine iS ?_
       intros
       exact⟨(n1,n2),⟨rfl,rfl,rfl,trivial⟩,rfl⟩
      ·rintro v H ⟨n1,n2,e,rfl⟩
       cases e
     ·refine⟨_,Oc bl bt _ _,?_,?_⟩
      ·rintro v H ⟨n1,n2,e,rfl⟩
       cases e
       refine iS ?_
       intros
       exact⟨(n1,n2),⟨rfl,rfl,rfl,trivial⟩,rfl⟩
      ·rintro v H ⟨n1,n2,e,rfl⟩
       cases e
    intro y
    refine iS ?_
    intros
    refine bh mixed hC hGL false (λ(_:Nat×Nat)=>gI br vc bl [(12,.int .i64 2)]) (λz=>[kC br vc,e1,vr bl bt,.row (.slice (some ⟨bt,0,none⟩) 3 3) (some 382) 1 3 [.raw (.pointer none),.own 4 (pv y.1 0),.raw (.pointer none)],.cells y.1 (some 385) [.str [],.int .i64 0,.str [],.raw (.pointer none),.own 7 (.slice (some ⟨z.2,0,none⟩) 3 3)],.cells y.2 (some 385) [.str [94],.int .i64 6,.str [],.raw (.pointer none),.raw (.slice none 0 0)],.cells z.1 (some 385) [.str [10],.int .i64 4,.str [],.raw (.pointer none),.raw (.slice none 0 0)],.row (.slice (some ⟨z.2,0,none⟩) 3 3) (some 382) 1 3 [.raw (.pointer none),.own 5 (pv y.2 0),.own 6 (pv z.1 0)]]) .p10 be ?_ ?_
    ·refine xm ?_
     repeat' first|exact .n|apply Lc.mk
     all_goals intros
     ·refine⟨_,Ob bl bt y.1 y.2 _ _,?_,?_⟩
      ·rintro v H ⟨n3,b7,e,rfl⟩
       cases e
       refine iS ?_
       intros
       exact⟨(n3,b7),⟨rfl,rfl,rfl,trivial⟩,rfl⟩
      ·rintro v H ⟨n3,b7,e,rfl⟩
       cases e
     ·refine⟨_,Ob bl bt y.1 y.2 _ _,?_,?_⟩
      ·rintro v H ⟨n3,b7,e,rfl⟩
       cases e
       refine iS ?_
       intros
       exact⟨(n3,b7),⟨rfl,rfl,rfl,trivial⟩,rfl⟩
      ·rintro v H ⟨n3,b7,e,rfl⟩
       cases e
    intro z
    refine iS ?_
    intros
    refine bh mixed hC hGL false (λ(_:Nat)=>gI br vc bl [(12,.int .i64 4)]) (λq=>[kC br vc,e1,vr bl bt,.row (.slice (some ⟨bt,0,none⟩) 3 3) (some 382) 1 3 [.raw (.pointer none),.own 4 (pv y.1 0),.raw (.pointer none)],.cells y.1 (some 385) [.str [],.int .i64 0,.str [],.raw (.pointer none),.own 7 (.slice (some ⟨z.2,0,none⟩) 3 3)],.cells y.2 (some 385) [.str [94],.int .i64 6,.str [],.raw (.pointer none),.raw (.slice none 0 0)],.cells z.1 (some 385) [.str [10],.int .i64 4,.str [],.raw (.pointer none),.raw (.slice none 0 0)],.row (.slice (some ⟨z.2,0,none⟩) 3 3) (some 382) 1 3 [.own 8 (pv q 0),.own 5 (pv y.2 0),.own 6 (pv z.1 0)],.cells q (some 385) [.str [34],.int .i64 2,.str [],.raw (.pointer none),.raw (.slice none 0 0)]]) .p10 be ?_ ?_
    ·refine xm ?_
     repeat' first|exact .n|apply Lc.mk
     all_goals intros
     ·refine⟨_,Oa bl bt y.1 y.2 z.1 z.2 _ _,?_,?_⟩
      ·rintro v H ⟨n4,e,rfl⟩
       cases e
       refine iS ?_
       intros
       exact⟨n4,⟨rfl,rfl,rfl,trivial⟩,rfl⟩
      ·rintro v H ⟨n4,e,rfl⟩
       cases e
     ·refine⟨_,Oa bl bt y.1 y.2 z.1 z.2 _ _,?_,?_⟩
      ·rintro v H ⟨n4,e,rfl⟩
       cases e
       refine iS ?_
       intros
       exact⟨n4,⟨rfl,rfl,rfl,trivial⟩,rfl⟩
      ·rintro v H ⟨n4,e,rfl⟩
       cases e
    intro q
    refine iS ?_
    intros
    exact⟨_,At _,bl,bt,y.1,y.2,z.1,z.2,q,rfl,rfl⟩
end
section
attribute [local irreducible] bG au az aR ab ad
attribute [local irreducible] mapD
structure ug where
 bg:Nat
 bt:Nat
 n1:Nat
 n2:Nat
 n3:Nat
 b7:Nat
 n4:Nat
abbrev ug.H (y:ug):Heap:=TW y.bg y.bt y.n1 y.n2 y.n3 y.b7 y.n4
abbrev We (y:ug):AVal:=.iface 363 (.own 2 (pv y.bg 0))
abbrev Mo (br vc:Nat):List AVal:=(fH (.slice (some ⟨br,0,none⟩) 6 vc)).set 1 (.int .i32 1)
theorem ME {G:Glo}(br bl vc:Nat):ad prog G 247 [.raw (pv bl 0)] [kC br vc,.cells bl (some 319) (Mo br vc)]
  (λr H=>∃y:ug,r= .ret (We y)/\H=[kC br vc,.cells bl (some 319) (Mo br vc)]++y.H):=by
 have hGL:ab G []:=al;have e1:=XE (G:=G) br vc (.cells bl (some 319) (Mo br vc));unfold Mo fH at*
 refine ji 1 func247 call247 rfl rfl rfl rfl hGL rfl ?_;intro C hC;have r0:cd (.slice (some ⟨br,0,none⟩) 6 vc) br 6:=⟨_,rfl⟩;have d0:FK[0]? =some (.str [94,94]):=rfl;refine ao ?_;intros;refine mQ hC hGL 1 ?_;refine ao ?_;intros;refine⟨_,e1,?_,?_⟩
 ·rintro v H ⟨bg,bt,n1,n2,n3,b7,n4,e,rfl⟩;cases e;refine ao ?_;intros;exact⟨_,At _,⟨bg,bt,n1,n2,n3,b7,n4⟩,rfl,rfl⟩
 ·rintro v H ⟨bg,bt,n1,n2,n3,b7,n4,e,rfl⟩;cases e
abbrev XY (y:ug):List AVal:=[.int .u32 0,.int .i32 1,.int .u32 0,We y,.raw (.slice none 0 0)]
abbrev XX (y:ug):List AVal:=[.int .u32 1,.int .i32 0,.int .u32 0,We y,.raw (.slice none 0 0)]
theorem OJ {G:Glo}(br bl vc:Nat):ad prog G 234 [.raw (pv bl 0)] [kC br vc,.cells bl (some 319) (Mo br vc)]
  (λr H=>∃y:ug,r= .ret (.tuple [])/\H=[kC br vc,.cells bl (some 319) (XY y)]++y.H):=by
 have hGL:ab G []:=al;have e1:=ME (G:=G) br bl vc;unfold Mo fH at*
 refine ji 1 func234 call234 rfl rfl rfl rfl hGL rfl ?_;intro C hC;refine ao ?_;intros;refine⟨_,e1,?_,?_⟩
 ·rintro v' H2 ⟨y,e,rfl⟩;cases e;refine ao ?_;intros;exact⟨_,At _,y,rfl,rfl⟩
 ·rintro v' H2 ⟨y,e,rfl⟩;cases e
theorem Wc {G:Glo}(br bl vc:Nat):ad prog G 233 [.raw (pv bl 0),.func (.func 234) [.raw (pv bl 0)] []] [kC br vc,.cells bl (some 319) (fH (.slice (some ⟨br,0,none⟩) 6 vc))]
  (λr H=>∃y:ug,r= .ret (.tuple [])/\H=[kC br vc,.cells bl (some 319) (XX y)]++y.H):=by
 have e1:=OJ (G:=G) br bl vc;have e2:=JH (G:=G) (b:=bl) (off:=0) (fid:=234) (eT:=some 319) (cs:=fH (.slice (some ⟨br,0,none⟩) 6 vc)) (T:=[kC br vc]) (Y:=ug) (cs2:=XY) (T2:=λy=>kC br vc::y.H) (l1:=[.raw (pv bl 0)]) (l2:=[]) rfl rfl (λ_=>rfl) (λ_=>rfl) rfl rfl
  (by
   refine im (il (List.Perm.swap _ _ _) e1) ?_;rintro r H ⟨y,rfl,rfl⟩;exact⟨_,List.Perm.swap _ _ _,y,rfl,rfl⟩)
 refine im (il (List.Perm.swap _ _ _) e2) ?_;rintro r H ⟨y,rfl,rfl⟩;exact⟨_,List.Perm.swap _ _ _,y,rfl,rfl⟩
end
section
abbrev fY (s:List UInt8):List AVal:=s.map λc=>.int .u8 (c.toNat:Int)
abbrev BK (v:Value)(s:List UInt8):HEnt:=.row v (some 5) 1 s.length (fY s)
theorem N9 (v:Value)(s t:List UInt8):HEnt.row v (some 5) 1 (s.length+t.length) (fY s++fY t)=BK v (s++t):=by
 simp only[BK,fY,d_,Nm]
section
variable {P:Program} [Tab P] {C:Ctx} {n:Nat} {env:Env} {H:Heap} {Q:aM->Env->Heap->Prop} {ops:Array Oper} {rest:List Oper} {G:Glo} {GL:List (Nat×List AVal)}
variable {d:Nat} {t:TypeId} {p:String} {af:Array Edge} {g:Option (Nat×Bool)} {b:Bool}
variable {x y:Operand} {T:TypeId} {xT:TI} {tx ty:TypeId}
theorem EB {i n0:Nat}{v:Value}{s:List UInt8}{cs z:List AVal}{eT:Option TypeId}{e:TypeId}{xe xx:TI}(hC:C.G=G)(hGL:ab G GL)(hg:aQ ops env g=some (b,b))(hdn:Nat.ble (d+1) n=true)
  (hx:ai env x=some (.own i v)) (hi:H[i]? =some (.row v eT 1 n0 cs)) (hy:ai env y=some (.str s))
  (h1:bi P T=some xT) (h2:xT.desc= .slice e) (h3:bi P e=some xe) (h4:xe.size=1) (h6:Nat.ble xe.bytes 1024=true) (h7:bF xe.zero=some z) (h8:z.length=1) (h9:bi P tx=some xx) (h10:xx.desc= .string)
  (hlen:n0+s.length<=137438953472) (hty:UM eT e=true)
  (h:∀a k c,mt P C n G GL ops Q rest ((d,.own i (.slice a k c))::env) (H.set i (.row (.slice a k c) eT 1 (n0+s.length) (cs++fY s)))):
  uf P C n ops ({dst:=some d,op:=.call {callee:=.builtin .append,args:=[x,y].toArray,argTypes:=[T,tx].toArray},type:=t,pos:=p,after:=af,guard:=g}::rest) env H Q:=
 ⟨Ag hg hdn hx hi hy h1 h2 h3 h4 rfl h6 h7 h8 (λR v hv=>RR hv h9 h10) hlen (I6 hty) λv'=>mn (p5 hi) λ⟨a,k,c,e,_⟩=>by subst e;exact fc hC hGL _ _ _ (h a k c)⟩
theorem DM {s:List UInt8}{i m:Nat}{v:Value}{eT:Option TypeId}{S e:TypeId}{xS xe:TI}
  (hx:ai env x=some (.own i v)) (hi:H[i]? =some (.row v eT 1 m (fY s)))
  (h1:bi P S=some xS) (h2:xS.desc= .slice e) (h5:bi P e=some xe) (h6:xe.desc= .int .u8) (h3:bi P T=some xT) (h4:xT.desc= .string):bA P C H env (.convert S T x) (.str s):=by
 obtain⟨k,rfl,hs⟩:=ma hx;exact eI hs (G5 (by simp only[ai];exact ij) hi rfl h1 h2 h5 h6 h3 h4)
end
end
section
attribute [local irreducible] bG au az aR ab ad
attribute [local irreducible] mapD
abbrev UC (bw:Nat)(v:Value):HEnt:=.cells bw (some 421) [.own 9 v]
theorem tY {G:Glo}(x0 x1 x2 x3 x4 x5 x6 x7 x8:HEnt)(bw:Nat)(v:Value)(b t:List UInt8)(hl:b.length+t.length<=137438953472):
  ad prog G 339 [.raw (pv bw 0),.str t] [x0,x1,x2,x3,x4,x5,x6,x7,x8,BK v b,UC bw v]
  (λr H=>∃va vk vc,r= .ret (.tuple [.int .i64 t.length,.raw .nilIface])/\H=[x0,x1,x2,x3,x4,x5,x6,x7,x8,BK (.slice va vk vc) (b++t),UC bw (.slice va vk vc)]):=by
 have hGL:ab G []:=al;refine ji 10 func339 call339 rfl rfl rfl rfl hGL rfl ?_
 intro C hC
 refine ao ?_
 intros
 refine EB hC hGL rfl rfl rfl rfl rfl rfl rfl rfl rfl rfl rfl rfl rfl rfl hl rfl ?_
 intro va vk vc
 refine ao ?_
 intros
 exact⟨_,At _,va,vk,vc,rfl,by rw[N9]⟩
theorem XM:∀v w,(Instr.typeAssert (.iface 422 v) 424 426 true).run prog w= .ok (.tuple #[.iface 422 v,.bool true]) w:=by intro v w;kernel_rfl
theorem VP {G:Glo}(v:Value):ak prog G 332 [.iface 422 (.raw v)] (.iface 422 (.raw v)):=by
 have h:=XM
 refine ax func332 call332 λC hC hGL=> ?_;exact bB
theorem Pa (a:AVal):∀R v,bx R a v→∀w,∃u,(Go.method (prog.types.size+Made.depth) 422 v "WriteString").run prog w= .ok (339,u) w∧bx R a u:=by
 intro R v hv w
 exact⟨v,be,hv⟩
section
variable {P:Program} [Tab P] {C:Ctx} {env:Env} {H:Heap} {x:Operand}
theorem mM {T:TypeId}{a:AVal}{name:String}{l2:List AVal}(hx:ai env x=some (.func (.method name) [.iface T a] l2))
  (hn:∀R v,bx R a v->∀w,(nilAhead (P.types.size+Made.depth) T v name).run P w= .ok (some false) w):bA P C H env (.nilCheck x) (.func (.method name) [.iface T a] l2):=by
 intro R ρ w hm hf dst t p af g;have hr:=hf _ _ hx;obtain⟨A,B,e,h1,h2⟩:=bE hr rfl;simp only[o_,and_true] at e;obtain⟨v,l,hA,hv,rfl⟩:=h1;obtain⟨u,e2,hu⟩:=bE hv rfl;simp only[o_,and_true] at e2;subst e2;have hA0:A[0]? =some (.iface T u):=by rw[<-Array.getElem?_toList,hA];rfl
 have hp:(program).run P w= .ok P w:=rfl;refine⟨.func (.method name) A B,?_,by rw[<-e];exact hr⟩;simp only[execOp,e,hA0,e_,hp,c_,hn R u hu w,bne_self_eq_false,Bu,Zd,h_]
end
theorem T3 (b:Nat):∀R v,bx R (.raw (pv b 0)) v→∀w,(nilAhead (prog.types.size+Made.depth) 422 v "WriteString").run prog w= .ok (some false) w:=by
 intro R v hv w
 obtain rfl:=ar.1 hv
 kernel_rfl
end
section
theorem O7 {i:Nat}(hi:i<256):mapD[i]? =some (.int .u8 (m2 i:Nat)):=by
 unfold mapD m2;by_cases h1:i=110
 ·subst h1;rfl
 ·rw[M_ (Ne.symm h1)];by_cases h2:i=94
  ·subst h2;rfl
  ·rw[M_ (Ne.symm h2)];by_cases h3:i=39
   ·subst h3;rfl
   ·rw[M_ (Ne.symm h3),if_neg h3,if_neg h2,if_neg h1];rw[List.getElem?_replicate_of_lt hi];rfl
attribute [local irreducible] bG au az aR ab ad
attribute [local irreducible] mapD
theorem jh {i:Nat}{t:AVal}{v:Int}(hi:i<256)(h:(m2 i:Int)=v):some (AVal.int .u8 v)=(od t 3 mapD)[0+6+i*1]? :=by
 rw[show 0+6+i*1=i+6 by omega,<-h];exact(O7 hi).symm
def JU (s:List UInt8):List UInt8×Int×Bool:=
 if s.length<2 then([],0,false) else if aa s 1=94 then([94],2,true) else if aa s 1=110 then([10],2,true) else if aa s 1=39 then([34],2,true) else([],0,false)
theorem xz {G:Glo}(x0 x1:HEnt)(y:ug)(s:List UInt8)(hl:s.length<=1000000)(h0:s.length=0\/aa s 0=94):
  ad prog G 333 [.raw (pv y.bg 0),.str s,.bool false] ([x0,x1]++y.H)
   (λr H=>r= .ret (.tuple [.str (JU s).1,.int .i64 (JU s).2.1,.bool (JU s).2.2])/\H=[x0,x1]++y.H):=by
 have hGL:ab G []:=al
 refine ji 2 func333 call333 rfl rfl rfl rfl hGL rfl ?_
 intro C hC
 refine ao ?_
 intros
 refine mQ hC hGL 4 ?_
 repeat' (first|(conv=>whnf);first|refine .w ?_|refine Ix.v ?_|refine Sd.v ?_|refine Sl.v ?_|apply ef|refine RX ?_ ?_<;>(intro hb;try exact dd hb)|apply aT|(apply cR<;>intro hb)|(apply cX;intro hbd)|(apply cY;intro bl)|exact True.intro|(apply pk;intro C hC)|apply pi|apply oJ|(apply oK;exact rfl)|(show Rt _ _ _;exact cP)|fail)
 all_goals try conv=>whnf
 ·apply wG
  ·unfold JU;rw[if_pos a_];rfl
  ·exact At _
 ·have hb0:aa s 0=94:=h0.resolve_left hb
  have g:=jh (i:=aa s 0) (t:=.own 3 (.slice (some ⟨y.bt,0,none⟩) 3 3)) (v:=1) a_ (by rw[hb0];rfl)
  have q3:cd (.slice (some ⟨y.bt,0,none⟩) 3 3) y.bt 3:=⟨_,rfl⟩
  have q7:cd (.slice (some ⟨y.b7,0,none⟩) 3 3) y.b7 3:=⟨_,rfl⟩
  refine bh mixed hC hGL true (λ(_:Unit)=>[(0,.own 2 (pv y.bg 0)),(1,.str s),(2,.bool false),(6,.str []),(7,.int .i64 0),(8,.bool false),(9,.int .i64 0),(10,.own 2 (pv y.bg 0)),(11,.int .i64 0),(12,.int .u8 1)]) (λ_=>[x0,x1]++y.H) .p2 be ?_ ?_
  ·refine ao ?_
   intros
   erw[<-g]
   refine ao ?_
   intros
   exact⟨(),⟨rfl,rfl,rfl,rfl,rfl,rfl,rfl,rfl,rfl,rfl,trivial⟩,rfl⟩
  intro _
  refine ao ?_
  intros
  refine k7 rfl rfl ?_
  repeat' (first|(conv=>whnf);first|refine .w ?_|refine Ix.v ?_|refine Sd.v ?_|refine Sl.v ?_|apply ef|refine RX ?_ ?_<;>(intro hb;try exact dd hb)|apply aT|(apply cR<;>intro hb)|(apply cX;intro hbd)|(apply cY;intro bl)|exact True.intro|(apply pk;intro C hC)|apply pi|apply oJ|(apply oK;exact rfl)|(show Rt _ _ _;exact cP)|fail)
  all_goals try conv=>whnf
  ·apply wG
   ·have hb:s.length-1=0:=by rw[<-k_];exact hb
    unfold JU;rw[if_pos a_]
   ·exact At _
  ·have hb:s.length-1≠0:=by rw[<-k_];exact hb
   have hb1:aa (s.drop 1) 0=aa s 1:=by simp[aa]
   have hl2:2<=s.length:=by omega
   have hq:=bu s 1
   rcases(show aa s 1=94\/aa s 1=110\/aa s 1=39\/(aa s 1≠94/\aa s 1≠110/\aa s 1≠39) by omega) with hk|hk|hk|⟨k1,k2,k3⟩
   ·have g2:=jh (i:=aa (s.drop 1) 0) (t:=.own 3 (.slice (some ⟨y.bt,0,none⟩) 3 3)) (v:=1) (by rw[hb1];exact hq) (by rw[hb1,hk];rfl)
    refine bh mixed hC hGL true (λ(_:Unit)=>[(0,.own 2 (pv y.bg 0)),(1,.str (s.drop 1)),(2,.bool false),(6,.str []),(7,.int .i64 0),(8,.bool false),(9,.int .i64 0),(10,.own 4 (pv y.n1 0)),(11,.int .i64 1),(12,.int .u8 1)]) (λ_=>[x0,x1]++y.H) .p2 be ?_ ?_
    ·refine ao ?_
     intros
     erw[<-g2]
     refine ao ?_
     intros
     exact⟨(),⟨rfl,rfl,rfl,rfl,rfl,rfl,rfl,rfl,rfl,rfl,trivial⟩,rfl⟩
    intro _
    refine ao ?_
    intros
    refine k7 rfl rfl ?_
    refine xn ?_
    repeat' first|exact .n|apply Lc.mk
    all_goals intros
    all_goals (apply wG;(unfold JU;rw[if_neg a_,if_pos hk];rfl);exact At _)
   ·have g2:=jh (i:=aa (s.drop 1) 0) (t:=.own 3 (.slice (some ⟨y.bt,0,none⟩) 3 3)) (v:=2) (by rw[hb1];exact hq) (by rw[hb1,hk];rfl)
    refine bh mixed hC hGL true (λ(_:Unit)=>[(0,.own 2 (pv y.bg 0)),(1,.str (s.drop 1)),(2,.bool false),(6,.str []),(7,.int .i64 0),(8,.bool false),(9,.int .i64 0),(10,.own 4 (pv y.n1 0)),(11,.int .i64 1),(12,.int .u8 2)]) (λ_=>[x0,x1]++y.H) .p2 be ?_ ?_
    ·refine ao ?_
     intros
     erw[<-g2]
     refine ao ?_
     intros
     exact⟨(),⟨rfl,rfl,rfl,rfl,rfl,rfl,rfl,rfl,rfl,rfl,trivial⟩,rfl⟩
    intro _
    refine ao ?_
    intros
    refine k7 rfl rfl ?_
    refine xn ?_
    repeat' first|exact .n|apply Lc.mk
    all_goals intros
    all_goals (apply wG;(unfold JU;rw[if_neg a_,if_neg a_,if_pos hk];rfl);exact At _)
   ·have g2:=jh (i:=aa (s.drop 1) 0) (t:=.own 3 (.slice (some ⟨y.bt,0,none⟩) 3 3)) (v:=0) (by rw[hb1];exact hq) (by rw[hb1,hk];rfl)
    refine bh mixed hC hGL true (λ(_:Unit)=>[(0,.own 2 (pv y.bg 0)),(1,.str (s.drop 1)),(2,.bool false),(6,.str []),(7,.int .i64 0),(8,.bool false),(9,.int .i64 0),(10,.own 4 (pv y.n1 0)),(11,.int .i64 1),(12,.int .u8 0)]) (λ_=>[x0,x1]++y.H) .p2 be ?_ ?_
    ·refine ao ?_
     intros
     erw[<-g2]
     refine ao ?_
     intros
     exact⟨(),⟨rfl,rfl,rfl,rfl,rfl,rfl,rfl,rfl,rfl,rfl,trivial⟩,rfl⟩
    intro _
    refine ao ?_
    intros
    refine k7 rfl rfl ?_
    refine xn ?_
    repeat' first|exact .n|apply Lc.mk
    all_goals intros
    all_goals (apply wG;(unfold JU;rw[if_neg a_,if_neg a_,if_neg a_,if_pos hk];rfl);exact At _)
   ·have g2:=jh (i:=aa (s.drop 1) 0) (t:=.own 3 (.slice (some ⟨y.bt,0,none⟩) 3 3)) (v:=3) (by rw[hb1];exact hq) (by rw[hb1];unfold m2;rw[if_neg k3,if_neg k1,if_neg k2];rfl)
    refine bh mixed hC hGL true (λ(_:Unit)=>[(0,.own 2 (pv y.bg 0)),(1,.str (s.drop 1)),(2,.bool false),(6,.str []),(7,.int .i64 0),(8,.bool false),(9,.int .i64 0),(10,.own 4 (pv y.n1 0)),(11,.int .i64 1),(12,.int .u8 3)]) (λ_=>[x0,x1]++y.H) .p2 be ?_ ?_
    ·refine ao ?_
     intros
     erw[<-g2]
     refine ao ?_
     intros
     exact⟨(),⟨rfl,rfl,rfl,rfl,rfl,rfl,rfl,rfl,rfl,rfl,trivial⟩,rfl⟩
    intro _
    refine xn ?_
    repeat' first|exact .n|apply Lc.mk
    all_goals intros
    ·apply wG
     ·unfold JU;rw[if_neg a_,if_neg k1,if_neg k2,if_neg k3]
     ·exact At _
end
section
theorem pz {s:List UInt8}{i last:Nat}(h1:last<=i)(h2:i<s.length):(s.drop last).take (i+1-last)=(s.drop last).take (i-last)++(s.drop i).take 1:=by
 rw[show i+1-last=(i-last)+1 by omega,List.take_add,Q_,show last+(i-last)=i by omega]
theorem Pg {s:List UInt8}{i:Nat}(hi:i<s.length):(∃e:UInt8,JU (s.drop i)=([e],2,true)/\i+1<s.length/\((aa s (i+1)=94/\e=94)\/(aa s (i+1)=110/\e=10)\/(aa s (i+1)=39/\e=34)))\/
  (JU (s.drop i)=([],0,false)/\(s.length<=i+1\/(aa s (i+1)≠94/\aa s (i+1)≠110/\aa s (i+1)≠39))):=by
 have h1:aa (s.drop i) 1=aa s (i+1):=by simp[aa]
 unfold JU
 rw[h1,k_]
 by_cases h2:s.length<=i+1
 ·right;exact⟨by rw[if_pos a_],.inl h2⟩
 ·rw[if_neg a_]
  by_cases h3:aa s (i+1)=94
  ·left;exact⟨94,by rw[if_pos h3],a_,.inl ⟨h3,rfl⟩⟩
  ·rw[if_neg h3]
   by_cases h4:aa s (i+1)=110
   ·left;exact⟨10,by rw[if_pos h4],a_,.inr (.inl ⟨h4,rfl⟩)⟩
   ·rw[if_neg h4]
    by_cases h5:aa s (i+1)=39
    ·left;exact⟨34,by rw[if_pos h5],a_,.inr (.inr ⟨h5,rfl⟩)⟩
    ·rw[if_neg h5]
     right;exact⟨rfl,.inr ⟨h3,h4,h5⟩⟩
theorem CK {s:List UInt8}{i:Nat}:aa (s.drop i) 0=aa s i:=by simp[aa]
attribute [local irreducible] bG au az aR ab ad
attribute [local irreducible] mapD cx
structure TK where
 i:Nat
 last:Nat
 va:Option Addr
 vk:Nat
 vc:Nat
 b:List UInt8
abbrev Xa (bg bw:Nat)(s:List UInt8)(x:TK):Env:=[(0,.own 2 (pv bg 0)),(2,.str s),(6,.int .i64 (x.b.length:Nat)),(7,.raw .nilIface),(8,.iface 422 (.raw (pv bw 0))),(9,.int .i64 (x.last:Nat)),(11,.bool false),(12,.int .i64 (x.i:Nat))]
abbrev W8 (x0 x1:HEnt)(y:ug)(bw:Nat)(x:TK):Heap:=[x0,x1]++y.H++[BK (.slice x.va x.vk x.vc) x.b,UC bw (.slice x.va x.vk x.vc)]
abbrev W9 (s:List UInt8)(x:TK):Prop:=x.i<=s.length+1/\x.last<=s.length/\x.last<=x.i/\x.b.length<=x.last/\x.b++(s.drop x.last).take (x.i-x.last)++cx (s.drop x.i)=cx s
theorem PH {G:Glo}(x0 x1:HEnt)(y:ug)(bw:Nat)(va:Option Addr)(vk vc:Nat)(s:List UInt8)(hl:s.length<=1000000):
  ad prog G 331 [.raw (pv y.bg 0),.iface 422 (.raw (pv bw 0)),.str s] ([x0,x1]++y.H++[BK (.slice va vk vc) [],UC bw (.slice va vk vc)])
   (λr H=>∃va vk vc n,r= .ret (.tuple [.int .i64 n,.raw .nilIface])/\H=[x0,x1]++y.H++[BK (.slice va vk vc) (cx s),UC bw (.slice va vk vc)]):=by
 have hGL:ab G []:=al
 have e1:=VP (G:=G) (pv bw 0)
 refine ji 2 func331 call331 rfl rfl rfl rfl hGL rfl ?_
 intro C hC
 refine ao ?_
 intros
 refine lp hC hGL (Xa y.bg bw s) (W8 x0 x1 y bw) (W9 s) (λx=>s.length+1-x.i) (TK.mk 0 0 va vk vc []) ?_ ah rfl ?_
 ·refine⟨Nat.zero_le _,Nat.zero_le _,Nat.le_refl _,Nat.le_refl _,?_⟩
  simp
 ·rintro⟨i,last,va,vk,vc,b⟩ ⟨h1,h2,h3,h4,h5⟩
  have h1:i<=s.length+1:=h1
  have h2:last<=s.length:=h2
  have h3:last<=i:=h3
  have h4:b.length<=last:=h4
  have h5:b++(s.drop last).take (i-last)++cx (s.drop i)=cx s:=h5
  rcases(show i<s.length\/i=s.length\/i=s.length+1 by omega) with hi|rfl|rfl
  ·have g0:=bu s i
   have q3:cd (.slice (some ⟨y.bt,0,none⟩) 3 3) y.bt 3:=⟨_,rfl⟩
   rcases(show aa s i=94\/aa s i=110\/aa s i=39\/(aa s i≠94/\aa s i≠110/\aa s i≠39) by omega) with hk|hk|hk|⟨k1,k2,k3⟩
   ·have g:=jh (i:=aa s i) (t:=.own 3 (.slice (some ⟨y.bt,0,none⟩) 3 3)) (v:=1) g0 (by rw[hk];rfl)
    refine ao ?_
    intros
    refine bh mixed hC hGL true (λ(_:Unit)=>Xa y.bg bw s ⟨i,last,va,vk,vc,b⟩++[(13,.int .i64 1)]) (λ_=>W8 x0 x1 y bw ⟨i,last,va,vk,vc,b⟩) .p6 be ?_ ?_
    ·refine ao ?_
     intros
     erw[<-g]
     refine ao ?_
     intros
     exact⟨(),⟨rfl,rfl,rfl,rfl,rfl,rfl,rfl,rfl,rfl,trivial⟩,rfl⟩
    intro _
    refine ao ?_
    intros
    refine k7 rfl rfl ?_
    refine ao ?_
    intros
    have e2:=xz (G:=G) x0 x1 y (s.drop i) (by rw[k_];omega) (.inr (CK.trans hk))
    rcases Pg hi with⟨e,ek,hi2,he⟩|⟨ek,hn⟩
    ·rw[ek] at e2
     refine⟨_,dH [_,_] e2,?_,?_⟩
     ·rintro v H ⟨H1,⟨e,rfl⟩,rfl⟩
      cases e
      refine ao ?_
      intros
      have w1:((s.take i).drop last).length=i-last:=by rw[k_,i_,Nat.min_eq_left a_]
      refine bh mixed hC hGL false (λ(_:Option Addr×Nat×Nat)=>[(0,.own 2 (pv y.bg 0)),(2,.str s),(6,.int .i64 (b.length:Nat)),(7,.raw .nilIface),(8,.iface 422 (.raw (pv bw 0))),(9,.int .i64 (last:Nat)),(10,.int .i64 (((s.take i).drop last).length:Nat)),(11,.bool (bU 2 0)),(12,.int .i64 (i:Nat)),(14,.str [e]),(15,.int .i64 2)]) (λz=>[x0,x1]++y.H++[BK (.slice z.1 z.2.1 z.2.2) (b++(s.take i).drop last),UC bw (.slice z.1 z.2.1 z.2.2)]) (.t 0 (.t 1 (.t 2 (.t 3 (.t 4 (.b 5 (.b 6 (.t 7 (.b 8 (.t 9 (.t 10 (.t 11 (.t 12 (.t 13 .done)))))))))))))) be ?_ ?_
      ·repeat' (first|(conv=>whnf);first|refine .w ?_|refine Ix.v ?_|refine Sd.v ?_|refine Sl.v ?_|apply ef|refine RX ?_ ?_<;>(intro hb;try exact dd hb)|apply aT|(apply cR<;>intro hb)|(apply cX;intro hbd)|(apply cY;intro bl)|exact True.intro|(apply pk;intro C hC)|apply pi|apply oJ|(apply oK;exact rfl)|(show Rt _ _ _;exact cP)|fail)
       all_goals try conv=>whnf
       refine aZ hC hGL (mM rfl (T3 bw)) rfl rfl ?_
       refine ao ?_
       intros
       refine iv 339 _ (Pa _) ⟨_,tY (G:=G) x0 x1 _ _ _ _ _ _ _ bw (.slice va vk vc) b ((s.take i).drop last) a_,?_,?_⟩
       ·rintro v H ⟨va2,vk2,vc2,e,rfl⟩
        cases e
        refine ao ?_
        intros
        exact⟨(va2,vk2,vc2),⟨rfl,rfl,rfl,rfl,rfl,rfl,rfl,rfl,rfl,rfl,rfl,trivial⟩,rfl⟩
       ·rintro v H ⟨va2,vk2,vc2,e,rfl⟩
        cases e
      rintro⟨va2,vk2,vc2⟩
      refine ao ?_
      intros
      refine iv 339 _ (Pa _) ⟨_,tY (G:=G) x0 x1 _ _ _ _ _ _ _ bw (.slice va2 vk2 vc2) (b++(s.take i).drop last) [e] (by rw[d_,w1];show b.length+(i-last)+1<=_;omega),?_,?_⟩
      ·rintro v H ⟨va3,vk3,vc3,e,rfl⟩
       cases e
       refine ao ?_
       intros
       refine cQ ⟨i+2,i+2,va3,vk3,vc3,b++(s.take i).drop last++[e]⟩ ?_ ?_ ⟨rfl,rfl,?_,rfl,rfl,rfl,?_,rfl,trivial⟩ rfl
       ·refine⟨(show i+2<=s.length+1 by omega),(show i+2<=s.length by omega),Nat.le_refl _,?_,?_⟩
        ·show(b++(s.take i).drop last++[e]).length<=i+2
         rw[d_,d_,w1,Rf];omega
        ·show b++(s.take i).drop last++[e]++(s.drop (i+2)).take (i+2-(i+2))++cx (s.drop (i+2))=cx s
         rw[<-h5,vz hi2 hk he,Nat.sub_self,YP,List.drop_take]
         simp only[An,Dc,L_,Lu]
       ·show s.length+1-(i+2)<s.length+1-i;omega
       ·show some (AVal.int .i64 _)=some (AVal.int .i64 ((b++(s.take i).drop last++[e]).length:Nat))
        rw[d_,d_,Int.natCast_add,Int.natCast_add]
       ·show some (AVal.bool (bU 2 0))=some (AVal.bool false)
        rw[lK.2 (by decide:(2:Int)≠0)]
      ·rintro v H ⟨va3,vk3,vc3,e,rfl⟩
       cases e
     ·rintro v H ⟨H1,⟨e,rfl⟩,rfl⟩
      cases e
    ·rw[ek] at e2
     refine⟨_,dH [_,_] e2,?_,?_⟩
     ·rintro v H ⟨H1,⟨e,rfl⟩,rfl⟩
      cases e
      refine ao ?_
      intros
      refine cQ (TK.mk (i+1) last va vk vc b) ?_ ?_ ah rfl
      ·refine⟨(show i+1<=s.length+1 by omega),h2,(show last<=i+1 by omega),h4,?_⟩
       show b++(s.drop last).take (i+1-last)++cx (s.drop (i+1))=cx s
       rw[<-h5,pz h3 hi,nN hi (.inr hn)]
       simp only[An]
      ·show s.length+1-(i+1)<s.length+1-i;omega
     ·rintro v H ⟨H1,⟨e,rfl⟩,rfl⟩
      cases e
   ·have g:=jh (i:=aa s i) (t:=.own 3 (.slice (some ⟨y.bt,0,none⟩) 3 3)) (v:=2) g0 (by rw[hk];rfl)
    refine ao ?_
    intros
    refine bh mixed hC hGL true (λ(_:Unit)=>Xa y.bg bw s ⟨i,last,va,vk,vc,b⟩++[(13,.int .i64 2)]) (λ_=>W8 x0 x1 y bw ⟨i,last,va,vk,vc,b⟩) .p6 be ?_ ?_
    ·refine ao ?_
     intros
     erw[<-g]
     refine ao ?_
     intros
     exact⟨(),⟨rfl,rfl,rfl,rfl,rfl,rfl,rfl,rfl,rfl,trivial⟩,rfl⟩
    intro _
    refine ao ?_
    intros
    refine k7 rfl rfl ?_
    refine ao ?_
    intros
    refine cQ (TK.mk (i+1) last va vk vc b) ?_ ?_ ah rfl
    ·refine⟨(show i+1<=s.length+1 by omega),h2,(show last<=i+1 by omega),h4,?_⟩
     show b++(s.drop last).take (i+1-last)++cx (s.drop (i+1))=cx s
     rw[<-h5,pz h3 hi,nN hi (.inl a_)]
     simp only[An]
    ·show s.length+1-(i+1)<s.length+1-i;omega
   ·have g:=jh (i:=aa s i) (t:=.own 3 (.slice (some ⟨y.bt,0,none⟩) 3 3)) (v:=0) g0 (by rw[hk];rfl)
    refine ao ?_
    intros
    refine bh mixed hC hGL true (λ(_:Unit)=>Xa y.bg bw s ⟨i,last,va,vk,vc,b⟩++[(13,.int .i64 0)]) (λ_=>W8 x0 x1 y bw ⟨i,last,va,vk,vc,b⟩) .p6 be ?_ ?_
    ·refine ao ?_
     intros
     erw[<-g]
     refine ao ?_
     intros
     exact⟨(),⟨rfl,rfl,rfl,rfl,rfl,rfl,rfl,rfl,rfl,trivial⟩,rfl⟩
    intro _
    refine ao ?_
    intros
    refine k7 rfl rfl ?_
    refine ao ?_
    intros
    refine cQ (TK.mk (i+1) last va vk vc b) ?_ ?_ ah rfl
    ·refine⟨(show i+1<=s.length+1 by omega),h2,(show last<=i+1 by omega),h4,?_⟩
     show b++(s.drop last).take (i+1-last)++cx (s.drop (i+1))=cx s
     rw[<-h5,pz h3 hi,nN hi (.inl a_)]
     simp only[An]
    ·show s.length+1-(i+1)<s.length+1-i;omega
   ·have g:=jh (i:=aa s i) (t:=.own 3 (.slice (some ⟨y.bt,0,none⟩) 3 3)) (v:=3) g0 (by unfold m2;rw[if_neg k3,if_neg k1,if_neg k2];rfl)
    refine ao ?_
    intros
    refine bh mixed hC hGL true (λ(_:Unit)=>Xa y.bg bw s ⟨i,last,va,vk,vc,b⟩++[(13,.int .i64 3)]) (λ_=>W8 x0 x1 y bw ⟨i,last,va,vk,vc,b⟩) .p6 be ?_ ?_
    ·refine ao ?_
     intros
     erw[<-g]
     refine ao ?_
     intros
     exact⟨(),⟨rfl,rfl,rfl,rfl,rfl,rfl,rfl,rfl,rfl,trivial⟩,rfl⟩
    intro _
    refine ao ?_
    intros
    refine cQ (TK.mk (i+1) last va vk vc b) ?_ ?_ ah rfl
    ·refine⟨(show i+1<=s.length+1 by omega),h2,(show last<=i+1 by omega),h4,?_⟩
     show b++(s.drop last).take (i+1-last)++cx (s.drop (i+1))=cx s
     rw[<-h5,pz h3 hi,nN hi (.inl k1)]
     simp only[An]
    ·show s.length+1-(i+1)<s.length+1-i;omega
  ·have e2:=xz (G:=G) x0 x1 y (s.drop s.length) (by rw[k_];omega) (.inl (by rw[k_];omega))
   rw[show JU (s.drop s.length)=([],0,false) by unfold JU;rw[if_pos (by rw[k_];omega)]] at e2
   refine ao ?_
   intros
   refine⟨_,dH [_,_] e2,?_,?_⟩
   ·rintro v H ⟨H1,⟨e,rfl⟩,rfl⟩
    cases e
    refine ao ?_
    intros
    refine cQ (TK.mk (s.length+1) last va vk vc b) ?_ ?_ ah rfl
    ·refine⟨Nat.le_refl _,h2,(show last<=s.length+1 by omega),h4,?_⟩
     show b++(s.drop last).take (s.length+1-last)++cx (s.drop (s.length+1))=cx s
     rw[<-h5,List.drop_eq_nil_of_le (by omega:s.length<=s.length+1),List.drop_eq_nil_of_le (Nat.le_refl s.length),u_ (by rw[k_];omega),u_ (by rw[k_];omega)]
    ·show s.length+1-(s.length+1)<s.length+1-s.length;omega
   ·rintro v H ⟨H1,⟨e,rfl⟩,rfl⟩
    cases e
  ·have h6:b++s.drop last=cx s:=by
    rw[<-h5,List.drop_eq_nil_of_le (by omega:s.length<=s.length+1),u_ (by rw[k_];omega),FJ,Dc]
   refine xn ?_
   repeat' first|exact .n|apply Lc.mk
   all_goals intros
   ·refine bh mixed hC hGL false (λ(_:Option Addr×Nat×Nat)=>[(6,.int .i64 (b.length:Nat)),(7,.raw .nilIface),(10,.int .i64 ((s.drop last).length:Nat))]) (λz=>[x0,x1]++y.H++[BK (.slice z.1 z.2.1 z.2.2) (b++s.drop last),UC bw (.slice z.1 z.2.1 z.2.2)]) (.t 0 (.t 1 (.t 2 (.t 3 (.b 4 (.b 5 (.t 6 (.b 7 (.t 8 (.t 9 (.t 10 (.t 11 (.t 12 .done))))))))))))) be ?_ ?_
    ·repeat' (first|(conv=>whnf);first|refine .w ?_|refine Ix.v ?_|refine Sd.v ?_|refine Sl.v ?_|apply ef|refine RX ?_ ?_<;>(intro hb;try exact dd hb)|apply aT|(apply cR<;>intro hb)|(apply cX;intro hbd)|(apply cY;intro bl)|exact True.intro|(apply pk;intro C hC)|apply pi|apply oJ|(apply oK;exact rfl)|(show Rt _ _ _;exact cP)|fail)
     all_goals try conv=>whnf
     refine aZ hC hGL (mM rfl (T3 bw)) rfl rfl ?_
     refine ao ?_
     intros
     refine iv 339 _ (Pa _) ⟨_,tY (G:=G) x0 x1 _ _ _ _ _ _ _ bw (.slice va vk vc) b (s.drop last) (by rw[k_];omega),?_,?_⟩
     ·rintro v H ⟨va2,vk2,vc2,e,rfl⟩
      cases e
      refine ao ?_
      intros
      exact⟨(va2,vk2,vc2),⟨rfl,rfl,rfl,trivial⟩,rfl⟩
     ·rintro v H ⟨va2,vk2,vc2,e,rfl⟩
      cases e
    rintro⟨va2,vk2,vc2⟩
    have h7:=congrArg List.length h6
    rw[d_,k_] at h7
    have h8:(s.drop last).length=s.length-last:=k_
    refine xn ?_
    repeat' first|exact .n|apply Lc.mk
    all_goals intros
    all_goals exact⟨_,At _,va2,vk2,vc2,_,rfl,by rw[h6]⟩
   ·have hb2:((last:Nat):Int)=(s.length:Nat):=by assumption
    have h9:last=s.length:=by omega
    subst h9
    rw[List.drop_eq_nil_of_le (Nat.le_refl _),Dc] at h6
    subst h6
    exact⟨_,At _,va,vk,vc,_,rfl,rfl⟩
end
section
attribute [local irreducible] bG au az aR ab ad
attribute [local irreducible] mapD cx
theorem H6 {G:Glo}(x0 x1:HEnt)(y:ug)(s:List UInt8)(hl:s.length<=1000000):
  ad prog G 330 [.raw (pv y.bg 0),.str s] ([x0,x1]++y.H) (λr H=>r= .ret (.str (cx s))/\H=[]):=by
 have hGL:ab G []:=al;refine ji 2 func330 call330 rfl rfl rfl rfl hGL rfl ?_;intro C hC;refine ao ?_;intros;refine tq (m:=s.length) hC hGL rfl rfl a_ rfl rfl rfl rfl rfl rfl rfl (λbs=> ?_);refine ao ?_;intros;rename Nat=>bw
 refine⟨_,PH x0 x1 y bw (some ⟨bs,0,none⟩) 0 s.length s hl,?_,?_⟩
 ·rintro v H ⟨va,vk,vc,n,e,rfl⟩;cases e;refine ao ?_;intros;rcases va with _|⟨b9,_|o9,_|d9⟩
  all_goals (conv=>whnf)
  all_goals refine aZ hC hGL (DM (i:=9) rfl rfl rfl rfl rfl rfl rfl rfl) rfl rfl ?_
  all_goals (conv=>whnf)
  all_goals (apply aj;exact rfl)
 ·rintro v H ⟨va,vk,vc,n,e,rfl⟩;cases e
theorem Yz (a:AVal):∀R v,bx R a v→∀w,∃u,(Go.method (prog.types.size+Made.depth) 363 v "Replace").run prog w= .ok (330,u) w∧bx R a u:=by
 intro R v hv w
 exact⟨v,be,hv⟩
theorem D9 {G:Glo}(br bl vc:Nat)(s:List UInt8)(hl:s.length<=1000000):
  ad prog G 212 [.raw (pv bl 0),.str s] [kC br vc,.cells bl (some 319) (fH (.slice (some ⟨br,0,none⟩) 6 vc))] (λr H=>r= .ret (.str (cx s))/\H=[]):=by
 have hGL:ab G []:=al;have e1:=Wc (G:=G) br bl vc;refine ji 1 func212 call212 rfl rfl rfl rfl hGL rfl ?_;intro C hC;refine ao ?_;intros;refine⟨_,e1,?_,λv' H' ⟨y,e,_⟩=>by cases e⟩;rintro v' H' ⟨y,e,rfl⟩;cases e;have e3:=H6 (G:=G) (kC br vc) (.cells bl (some 319) (XX y)) y s hl;refine ao ?_;intros;refine iv 330 (.raw (pv y.bg 0)) (Yz _) (CF e3 ?_);exact eK
theorem CI {G:Glo}(s:List UInt8)(hl:s.length<=1000000):ak prog G 198 [.str s] (.str (cx s)):=by
 refine ax func198 call198 λC hC hGL=> ?_;refine ao ?_;intros;refine⟨_,kF 6 _ b_ b_ ?_,?_,?_⟩
 ·unfold az;exact ld rfl
 ·rintro v H' ⟨bl,va,vk,vc,hva,e,rfl⟩;cases e;obtain⟨br,rfl,rfl⟩:=hva a_;have e2:=D9 (G:=G) br bl vc s hl;refine ao ?_;intros;refine CF e2 ?_;exact eK
 ·rintro v H' ⟨bl,va,vk,vc,hva,e,rfl⟩;cases e
end
section
attribute [local irreducible] bG au aa az aR ab ad
attribute [local irreducible] aC dm kH eN fk gg
def firstTab:List AVal:=Go.Pinned.utf8FirstZ.map (λx:Nat=>AVal.int .u8 (x:Int))
def acceptTab:List AVal:=[.int .u8 128,.int .u8 191,.int .u8 160,.int .u8 191,.int .u8 128,.int .u8 159,.int .u8 144,.int .u8 191,.int .u8 128,.int .u8 143,.int .u8 0,.int .u8 0,.int .u8 0,.int .u8 0,.int .u8 0,.int .u8 0,.int .u8 0,.int .u8 0,.int .u8 0,.int .u8 0,.int .u8 0,.int .u8 0,.int .u8 0,.int .u8 0,.int .u8 0,.int .u8 0,.int .u8 0,.int .u8 0,.int .u8 0,.int .u8 0,.int .u8 0,.int .u8 0]
def q8 (b:Nat):Nat:=
 if b<128 then 240 else if b<194 then 241 else if b<224 then 2 else if b=224 then 19 else if b<237 then 3 else if b=237 then 35 else if b<240 then 3 else if b=240 then 52
 else if b<244 then 4 else if b=244 then 68 else 241
theorem Ma:∀b:Fin 256,Go.Pinned.utf8FirstZ[b.1]? =some (q8 b.1):=by decide+kernel
theorem uz (b:Nat)(h:b<256):firstTab[b*1]? =some (.int .u8 (q8 b:Int)):=by
 rw[Nat.mul_one];simp only[firstTab,List.getElem?_map,Ma ⟨b,h⟩,YZ]
def iH (s:List UInt8):Nat×Nat:=if s.length=0 then(65533,0) else if(aC s).2=0 then(65533,1) else aC s
theorem Re (b:Int):IntKind.wrap .i32 (BitVec.ofInt 32 (IntKind.wrap .i32 (BitVec.ofInt 32 b&&& ~~~ BitVec.ofInt 32 (IntKind.wrap .i32 (241*2147483648)/2147483648)).toNat)|||BitVec.ofInt 32 (IntKind.wrap .i32 (BitVec.ofInt 32 65533&&& BitVec.ofInt 32 (IntKind.wrap .i32 (241*2147483648)/2147483648)).toNat)).toNat=65533:=by
 have e:(~~~ BitVec.ofInt 32 (IntKind.wrap .i32 (241*2147483648)/2147483648))=0#32:=by decide+kernel
 rw[e,BitVec.and_zero]
 decide+kernel
attribute [local irreducible] firstTab
abbrev utfTy:List (Nat×List AVal):=[(6,firstTab),(7,acceptTab)]
theorem Mk (b:Nat)(h:b<256)(h1:128<=b):
  (firstTab[b*1]? =some (.int .u8 241)/\(b<194\/245<=b))\/(firstTab[b*1]? =some (.int .u8 2)/\194<=b/\b<224)\/(firstTab[b*1]? =some (.int .u8 19)/\b=224)
  \/(firstTab[b*1]? =some (.int .u8 3)/\225<=b/\b<240/\b≠237)\/(firstTab[b*1]? =some (.int .u8 35)/\b=237)\/(firstTab[b*1]? =some (.int .u8 52)/\b=240)
  \/(firstTab[b*1]? =some (.int .u8 4)/\241<=b/\b<244)\/(firstTab[b*1]? =some (.int .u8 68)/\b=244):=by
 have e:=uz b h
 have key:∀c:Nat,q8 b=c->firstTab[b*1]? =some (.int .u8 (c:Int)):=λc hc=>by rw[e,hc]
 by_cases c1:b<194\/245<=b
 ·refine .inl ⟨key 241 (by unfold q8;(repeat' split)<;>omega),c1⟩
 by_cases c2:b<224
 ·refine .inr (.inl ⟨key 2 (by unfold q8;(repeat' split)<;>omega),a_,c2⟩)
 by_cases c3:b=224
 ·subst c3;exact .inr (.inr (.inl ⟨key 19 rfl,rfl⟩))
 by_cases c5:b=237
 ·subst c5;exact .inr (.inr (.inr (.inr (.inl ⟨key 35 rfl,rfl⟩))))
 by_cases c4:b<240
 ·refine .inr (.inr (.inr (.inl ⟨key 3 (by unfold q8;(repeat' split)<;>omega),a_,c4,c5⟩)))
 by_cases c6:b=240
 ·subst c6;exact .inr (.inr (.inr (.inr (.inr (.inl ⟨key 52 rfl,rfl⟩)))))
 by_cases c7:b<244
 ·refine .inr (.inr (.inr (.inr (.inr (.inr (.inl ⟨key 4 (by unfold q8;(repeat' split)<;>omega),a_,c7⟩))))))
 have c8:b=244:=by omega
 subst c8
 exact .inr (.inr (.inr (.inr (.inr (.inr (.inr ⟨key 68 rfl,rfl⟩))))))
theorem D1 {s:List UInt8}{a b:Int}(h0:¬s.length=0)(h:((aC s).1:Int)=0/\((aC s).2:Int)=0)(ha:a=65533)(hb:b=1):((iH s).1:Int)=a/\((iH s).2:Int)=b:=by
 have:(aC s).2=0:=by omega
 subst ha hb;simp[iH,h0,this]
theorem Jm {s:List UInt8}{a b:Int}(h0:¬s.length=0)(h:((aC s).1:Int)=a/\((aC s).2:Int)=b)(hb:0<b):((iH s).1:Int)=a/\((iH s).2:Int)=b:=by
 have:¬(aC s).2=0:=by omega
 simpa[iH,h0,this] using h
theorem Qb {G:Glo}(hGL:ab G utfTy)(s:List UInt8)(hs:s.length=0\/128<=aa s 0):
    ak prog G 179 [.str s] (.tuple [.int .i32 ((iH s).1:Int),.int .i64 ((iH s).2:Int)]):=by
  refine uZ func179 call179 rfl rfl rfl rfl hGL ?_;intro C hC
  by_cases h0:s.length=0
  · refine aK ?_
    intros
    refine K3 ?_
    simp only[iH,if_pos h0]
    exact⟨rfl,rfl⟩
  replace hs:128<=aa s 0:=by omega
  have hdc:=Mk (aa s 0) (bu s 0) hs
  refine aK ?_
  intros
  rcases hdc with⟨hx,hb⟩|⟨hx,hb⟩|⟨hx,hb⟩|⟨hx,hb⟩|⟨hx,hb⟩|⟨hx,hb⟩|⟨hx,hb⟩|⟨hx,hb⟩
  all_goals (erw[hx])
  · refine aK ?_
    intros
    apply Wx
    refine aK ?_
    intros
    apply Wx
    refine aK ?_
    intros
    apply Wx
    refine aK ?_
    intros
    clear hx
    refine K3 ?_
    refine D1 h0 ?_ (Re _) rfl
    generalize hz:aC s=z
    unfold aC bW kY A1 A0 AZ at hz
    try simp only[show Int.toNat 0=0 from rfl,show Int.toNat 1=1 from rfl,show Int.toNat (1+1)=2 from rfl,show Int.toNat (1+1+1)=3 from rfl] at*
    generalize aa s 0=b0 at*
    generalize aa s 1=b1 at*
    generalize aa s 2=b2 at*
    generalize aa s 3=b3 at*
    generalize s.length=l at*
    repeat' (split at hz;try (exfalso;omega))
    all_goals (try subst z)
    all_goals (first
      |exact⟨rfl,rfl⟩
      |(simp only[l_,Wk,n_,YS] at*;first|(exfalso;omega)|omega))
  all_goals (repeat' (first|(conv=>whnf);first|refine .w ?_|refine .v ?_|refine eh ?_ ?_<;>(intro hb;try exact dd hb)|apply aT|apply bM|(apply cR<;>intro hb)|(apply cX;intro hbd)|(apply cY;intro bl)|(apply dv;intro va vk vc hva)|(apply du;intro v)|(apply dw;intro bl cap hcap)|apply dI|(apply dq<;>intro hnx)|apply d8 mixed hC hGL be|(show Rt _ _ _;exact cP)|fail)
             all_goals try conv=>whnf)
  all_goals (clear hx;refine K3 ?_)
  all_goals (first
    | (refine D1 h0 ?_ rfl rfl
       generalize hz:aC s=z
       unfold aC bW kY A1 A0 AZ at hz
       try simp only[show Int.toNat 0=0 from rfl,show Int.toNat 1=1 from rfl,show Int.toNat (1+1)=2 from rfl,show Int.toNat (1+1+1)=3 from rfl] at*
       generalize aa s 0=b0 at*
       generalize aa s 1=b1 at*
       generalize aa s 2=b2 at*
       generalize aa s 3=b3 at*
       generalize s.length=l at*
       repeat' (split at hz;try (exfalso;omega))
       all_goals (try subst z)
       all_goals (first
         |exact⟨rfl,rfl⟩
         |(simp only[l_,Wk,n_,YS] at*;first|(exfalso;omega)|omega))
       done)
    | (refine Jm h0 ?_ b_
       generalize hz:aC s=z
       unfold aC bW kY A1 A0 AZ at hz
       try simp only[show Int.toNat 0=0 from rfl,show Int.toNat 1=1 from rfl,show Int.toNat (1+1)=2 from rfl,show Int.toNat (1+1+1)=3 from rfl] at*
       generalize aa s 0=b0 at*
       generalize aa s 1=b1 at*
       generalize aa s 2=b2 at*
       generalize aa s 3=b3 at*
       generalize s.length=l at*
       repeat' (split at hz;try (exfalso;omega))
       all_goals (try subst z)
       all_goals (first
         |exact⟨rfl,rfl⟩
         |(simp only[l_,Wk,n_,YS] at*;first|(exfalso;omega)|omega))))
theorem Qc {G:Glo}(hGL:ab G utfTy)(s:List UInt8):
    ak prog G 125 [.str s] (.tuple [.int .i32 ((iH s).1:Int),.int .i64 ((iH s).2:Int)]):=by
  refine uZ func125 call125 rfl rfl rfl rfl hGL ?_;intro C hC;by_cases h0:s.length=0\/128<=aa s 0
  · have hd:=Qb (G:=G) hGL s h0;by_cases h1:s.length=0
    all_goals (repeat' (first|(conv=>whnf);first|refine .w ?_|refine .v ?_|refine eh ?_ ?_<;>(intro hb;try exact dd hb)|apply aT|apply bM|(apply cR<;>intro hb)|(apply cX;intro hbd)|(apply bD;exact hd)|(apply aV (i:=0) rfl;exact hd)|(apply cY;intro bl)|(apply dv;intro va vk vc hva)|(apply du;intro v)|(apply dw;intro bl cap hcap)|apply dI|(apply dq<;>intro hnx)|apply d8 mixed hC hGL be|(apply cq;assumption;exact hd;exact rfl)|(show Rt _ _ _;exact cP)|fail)
               all_goals try conv=>whnf)
    all_goals (exfalso;simp only[Int.toNat_zero] at*;omega)
  · refine aK ?_;intros;refine K3 ?_;refine Jm a_ ?_ b_;generalize hz:aC s=z;unfold aC bW kY A1 A0 AZ at hz;try simp only[show Int.toNat 0=0 from rfl,show Int.toNat 1=1 from rfl,show Int.toNat (1+1)=2 from rfl,show Int.toNat (1+1+1)=3 from rfl] at*
    generalize aa s 0=b0 at*
    generalize aa s 1=b1 at*
    generalize aa s 2=b2 at*
    generalize aa s 3=b3 at*
    generalize s.length=l at*
    repeat' (split at hz;try (exfalso;omega))
    all_goals (try subst z)
    all_goals (first
      |exact⟨rfl,rfl⟩
      |(simp only[l_,Wk,n_,YS] at*;first|(exfalso;omega)|omega))
end
section
attribute [local irreducible] bG au aa az aR ab ad
attribute [local irreducible] aC dm kH eN fk gg
attribute [local irreducible] firstTab iH
theorem ur (s:List UInt8):((aC s).2=0->(aC s).1=0)/\((aC s).2=1->(aC s).1<128)/\(s.length=0->(aC s).2=0):=by
 refine⟨?_,?_,?_⟩
 ·unfold aC;(repeat' split)<;>simp
 ·unfold aC;(repeat' split)<;>simp;omega
 ·intro h;unfold aC;simp[h]
theorem Lo (s:List UInt8):(((aC s).2:Int)=0->((iH s).2:Int)=0/\s.length=0\/((iH s).1:Int)=65533/\((iH s).2:Int)=1)/\(((aC s).2:Int)≠0->((iH s).1:Int)=(aC s).1/\((iH s).2:Int)=(aC s).2):=by
 have hf:=ur s;unfold iH;by_cases h0:s.length=0
 ·rw[if_pos h0];refine⟨λ_=>.inl ⟨rfl,h0⟩,λh=>absurd (hf.2.2 h0) a_⟩
 ·rw[if_neg h0];by_cases h1:(aC s).2=0
  ·rw[if_pos h1];exact⟨λ_=>.inr ⟨rfl,rfl⟩,λh=>absurd h1 a_⟩
  ·rw[if_neg h1];exact⟨λh=>absurd h a_,λ_=>⟨rfl,rfl⟩⟩
theorem Ok {G:Glo}(hU:ab G utfTy)(s:List UInt8):
  ak prog G 130 [.str s] (.tuple [.int .i64 ((aC s).1:Int),.int .i64 ((aC s).2:Int)]):=by
 refine ax func130 call130 λC hC hGL=> ?_;have hd:=Qc (G:=G) hU s;have hn:=rZ s;have hf:=ur s;have hr:=Lo s;have hk:((iH s).1:Int)<=1114111:=by
  by_cases h:(aC s).2=0
  ·unfold iH;rw[if_pos h];split<;>decide
  ·omega
 refine xw ?_;repeat' first|exact .n|apply Lc.mk
 all_goals intros
 all_goals (refine K3 ?_;omega)
theorem BV {G:Glo}(hU:ab G utfTy)(s:List UInt8)(hl:s.length<=9223372036854775807):ak prog G 63 [.str s] (.int .i64 (dm s)):=by
 refine ax func63 call63 λC hC hGL=> ?_;have hle:=λk=>rZ (s.drop k);have hN:=λt=>Ok (G:=G) hU t;repeat' (first|(conv=>whnf);first|refine .w ?_|refine .v ?_|refine eh ?_ ?_<;>(intro hb;try exact dd hb)|apply aT|apply bM|(apply cR<;>intro hb)|(apply cX;intro hbd)|(apply bD;exact hN _)|(apply aV (i:=0) rfl;exact hN _)|(apply cY;intro bl)|(apply dv;intro va vk vc hva)|(apply du;intro v)|(apply dw;intro bl cap hcap)|apply dI|(apply dq<;>intro hnx)|apply d8 mixed hC hGL be|(apply cq;assumption;exact hN _;exact rfl)|(show Rt _ _ _;exact cP)|fail)
 all_goals try conv=>whnf
 refine lp hC hGL (λ(i:Nat)=>[(0,.str s),(7,.own 0 (.pointer (some ⟨bl,0,none⟩)))]) (λi=>[.iter bl s i]) (λi=>i<=s.length/\kH s=(kH (s.drop i)).map (· +i)) (λi=>s.length-i) 0 ?_ ah rfl ?_
 ·exact⟨Nat.zero_le _,by simp⟩
 rintro i ⟨hi,hb0⟩;have hn:=hle i;rw[k_] at hn;repeat' (first|(conv=>whnf);first|refine .w ?_|refine .v ?_|refine eh ?_ ?_<;>(intro hb;try exact dd hb)|apply aT|apply bM|(apply cR<;>intro hb)|(apply cX;intro hbd)|(apply bD;exact hN _)|(apply aV (i:=0) rfl;exact hN _)|(apply cY;intro bl)|(apply dv;intro va vk vc hva)|(apply du;intro v)|(apply dw;intro bl cap hcap)|apply dI|(apply dq<;>intro hnx)|apply d8 mixed hC hGL be|(apply cq;assumption;exact hN _;exact rfl)|(show Rt _ _ _;exact cP)|fail)
 all_goals try conv=>whnf
 ·apply aj;refine congrArg (AVal.int .i64) ?_;have h1:=qd (s.drop i) (by rw[k_];omega);rw[if_pos a_] at h1;rw[h1] at hb0;simp only[dm,hb0,YZ,Nat.zero_add]
 ·have h1:=qd (s.drop i) (by rw[k_];omega);rw[if_neg a_] at h1;have h2:eN (s.drop i)=(aC (s.drop i)).2:=by unfold eN;rw[if_neg a_]
  refine cQ (i+eN (s.drop i)) ⟨a_,?_⟩ a_ ⟨rfl,rfl,trivial⟩ rfl;rw[hb0,h1,Q_,h2];cases kH (s.drop (i+(aC (s.drop i)).2))<;>simp<;>omega
 ·apply aj;refine congrArg (AVal.int .i64) ?_;rw[F6 (s.drop i) (by rw[k_];omega)] at hb0;simp only[dm,hb0,Option.map_none]
end
section
theorem se {b:Bool}{c:Int}(h:(c<32/\c≠9/\c≠10)\/c=127\/(c=10/\b=false)):iw b c=true:=decide_eq_true (by
 rcases h with h|h|h
 ·exact .inl ⟨h.1,h.2.1,.inl h.2.2⟩
 ·exact .inr h
 ·exact .inl ⟨a_,a_,.inr h.2⟩)
theorem Cl {b:Bool}{c:Int}(h1:c≠127)(h:32<=c\/c=9\/(c=10/\b=true)):iw b c=false:=decide_eq_false (by
 rintro(k|k)
 ·rcases h with h|h|h
  ·omega
  ·omega
  ·rcases k.2.2 with m|m
   ·exact m h.1
   ·rw[h.2] at m;cases m
 ·exact h1 k)
theorem Ua {c:Int}:iw true c=true↔(c<32/\c≠9/\c≠10)\/c=127:=by simp[iw]
theorem AN {c:Int}:iw false c=true↔(c<32/\c≠9)\/c=127:=by simp[iw]
theorem PE {b:Bool}{s:List UInt8}{i:Nat}(hi:i<s.length)(h:iw b (aa s i:Int)=true)(hb:∀j,j<i->iw b (aa s j:Int)=false):fd b s=false:=by
 unfold fd;rw[mf hi h hb];exact decide_eq_false a_
theorem Kh {b:Bool}{s:List UInt8}{i:Nat}(hi:s.length<=i)(hb:∀j,j<i->iw b (aa s j:Int)=false):fd b s=nY (dm s) 0:=by
 unfold fd;rw[iM (λj hj=>hb j a_),w_,nX];simp
attribute [local irreducible] bG au aa az aR ab ad
attribute [local irreducible] iw fd dm
theorem lY {G:Glo}(c:Int):ak prog G 68 [.int .u8 c] (.bool (iw false c)):=by
 refine ax func68 call68 λC hC hGL=> ?_;refine xw ?_;repeat' first|exact .n|apply Lc.mk
 all_goals intros
 all_goals (apply aj;refine congrArg AVal.bool ?_)
 all_goals (rw[w_,AN];simp only[fA,reduceCtorEq,true_iff,false_iff];omega)
end
section
attribute [local irreducible] bG au aa az aR ab ad
attribute [local irreducible] iw fd dm
theorem nE {G:Glo}(c:Int):ak prog G 96 [.int .u8 c] (.bool (iw false c)):=by
 refine ax func96 call96 λC hC hGL=> ?_;refine xw ?_;repeat' first|exact .n|apply Lc.mk
 all_goals intros
 all_goals (apply aj;refine congrArg AVal.bool ?_)
 all_goals (rw[w_,AN];simp only[fA,reduceCtorEq,true_iff,false_iff];omega)
end
section
theorem tI {a b c:UInt8}(r:Int):(0<=aS [a,b,c] r↔∃x∈[a,b,c],r=x.toNat):=by
 unfold aS;simp only[kh,p_,t_,or_false,exists_eq_or_imp,exists_eq_left];split
 ·omega
 ·split
  ·omega
  ·split<;>omega
end
section
abbrev pS (b:Nat):Value:=.pointer (some ⟨b,0,none⟩)
abbrev nw (b:Nat)(s:List UInt8)(a:Nat)(c:Bool):HEnt:=.cells b (some 171) [.str s,.int .i64 (a:Nat),.bool c]
abbrev oY (e p:Int):AVal:=.iface 167 (.agg [.int .i64 e,.int .i64 p])
theorem qa {s:List UInt8}{k j:Nat}:aa (s.drop k) j=aa s (k+j):=by
 unfold aa;simp[List.getD,List.getElem?_drop]
theorem xj {s:List UInt8}{x:Nat}(h:x<s.length):isS ((s.take (x+1)).drop x)=aU (aa s x:Int):=by
 have hl:((s.take (x+1)).drop x).length=1:=by rw[k_,i_];omega
 have hb:aa ((s.take (x+1)).drop x) 0=aa s x:=by
  rw[qa,eQ a_];rfl
 unfold isS;rw[hl];cases k:aU (aa s x:Int) with
 |true=>
  have:CZ aU ((s.take (x+1)).drop x)=true:=ub.2 λj hj=>by
   rw[show j=0 by omega,hb];exact k
  rw[this];rfl
 |false=>
  have:CZ aU ((s.take (x+1)).drop x)=false:=IV (j:=0) a_ (by rw[hb];exact k);rw[this];rfl
attribute [local irreducible] bG au aa az aR ab ad
attribute [local irreducible] iw fd dm isS cx aU
theorem nC {G:Glo}(v:Value)(e p:Int):ad prog G 95 [.raw v,.int .i64 e,.int .i64 p] [] (λr H=>r= .panic (oY e p)/\H=[]):=by
 refine ax func95 call95 λC hC hGL=> ?_;repeat' (first|(conv=>whnf);first|refine .w ?_|refine .v ?_|refine eh ?_ ?_<;>(intro hb;try exact dd hb)|apply aT|apply bM|(apply cR<;>intro hb)|(apply cX;intro hbd)|(apply cY;intro bl)|(apply dv;intro va vk vc hva)|(apply du;intro v)|(apply dw;intro bl cap hcap)|apply dI|(apply dq<;>intro hnx)|apply d8 mixed hC hGL be|(show Rt _ _ _;exact cP)|fail)
 all_goals try conv=>whnf
 exact T1 rfl
theorem nD {G:Glo}(b:Nat)(s:List UInt8)(a:Nat)(cr:Bool)(c:Int)(hl:s.length<=1000000)(ha:a<=s.length):ad prog G 93 [.raw (pS b),.int .u8 c] [nw b s a cr]
  (λr H=>r= .ret (.bool (ez s a c))/\H=[nw b s (if ez s a c then a+1 else a) cr]):=by
 have hGL:ab G []:=al;refine lE [(0,0,pS b)] func93 call93 rfl rfl rfl rfl (by repeat (first|exact trivial|refine And.intro ⟨rfl,rfl⟩ ?_)) ?_;intro C hC;cases h:ez s a c with
 |true=>
  obtain⟨h1,h2⟩:=cG.1 h;rw[if_pos rfl];refine ay hC hGL (xw ?_);repeat' first|exact .n|apply Lc.mk
  all_goals intros
  all_goals skip
 |false=>
  have h1:=KK.1 h;rw[if_neg b_];refine ay hC hGL (xw ?_);repeat' first|exact .n|apply Lc.mk
  all_goals intros
  all_goals skip
theorem AA {G:Glo}(b:Nat)(s:List UInt8)(a:Nat)(cr:Bool)(hl:s.length<=1000000)(ha:a<=s.length):ad prog G 92 [.raw (pS b)] [nw b s a cr]
  (λr H=>(∃w j,bC s a= .ok (w,j)/\r= .ret (.str w)/\H=[nw b s j cr])\/(∃e p j,bC s a= .bad e p/\r= .panic (oY e p)/\H=[nw b s j cr])):=by
 have hI:=λt h=>pQ (G:=G) t h;have hc:=call151;have hT:=λe p=>nC (G:=G) (pS b) e p;have hGL:ab G []:=al;refine lE [(0,0,pS b)] func92 call92 rfl rfl rfl rfl (by repeat (first|exact trivial|refine And.intro ⟨rfl,rfl⟩ ?_)) ?_;intro C hC;refine ay hC hGL (aK ?_);refine lp hC hGL (λx:Nat=>[(0,.own 0 (pS b)),(3,.int .i64 (a:Nat))]) (λx=>[nw b s x cr]) (λx=>a<=x/\x<=s.length/\eO aU s x=eO aU s a) (λx=>s.length-x) a ⟨Nat.le_refl _,ha,rfl⟩ ah rfl ?_;rintro x ⟨h1,h2,h3⟩;by_cases hx:x<s.length
 ·have k1:ak prog G 151 [.str ((s.take (x+1)).drop x)] (.bool (aU (aa s x:Int))):=by
   have:=hI ((s.take (x+1)).drop x) (by rw[k_,i_];omega);rwa [xj hx] at this
  cases hk:aU (aa s x:Int) with
  |true=>
   rw[hk] at k1;refine aK ?_;intros;exact cQ (x+1) ⟨a_,a_,(rA hx hk).symm.trans h3⟩ a_ ah rfl
  |false=>
   rw[hk] at k1;have hsp:eO aU s a=x:=h3.symm.trans (nl hk);have k2:=hI ((s.take x).drop a) (by rw[k_,i_];omega);cases hw:isS ((s.take x).drop a) with
   |true=>
    have hr:bC s a= .ok ((s.take x).drop a,x):=by unfold bC;rw[hsp,if_pos hw]
    rw[hw] at k2;refine aK ?_;intros;exact⟨_,At _,.inl ⟨_,_,hr,rfl,rfl⟩⟩
   |false=>
    have hr:bC s a= .bad 5 a:=by unfold bC;rw[hsp,if_neg (by rw[hw];decide)]
    rw[hw] at k2;refine aK ?_;intros;refine bY (hT 5 a) ?_;exact⟨_,At _,.inr ⟨_,_,_,hr,rfl,rfl⟩⟩
 ·have hsp:eO aU s a=x:=h3.symm.trans (oz a_);have k2:=hI ((s.take x).drop a) (by rw[k_,i_];omega);cases hw:isS ((s.take x).drop a) with
  |true=>
   have hr:bC s a= .ok ((s.take x).drop a,x):=by unfold bC;rw[hsp,if_pos hw]
   rw[hw] at k2;refine aK ?_;intros;exact⟨_,At _,.inl ⟨_,_,hr,rfl,rfl⟩⟩
  |false=>
   have hr:bC s a= .bad 5 a:=by unfold bC;rw[hsp,if_neg (by rw[hw];decide)]
   rw[hw] at k2;refine aK ?_;intros;refine bY (hT 5 a) ?_;exact⟨_,At _,.inr ⟨_,_,_,hr,rfl,rfl⟩⟩
theorem P0 {q:Bool}{c:Int}(h0:0<=c)(h1:c<256):zz q c=(decide (c=34)||(!q&&decide (0<=aS [44,59,58] c))):=by
 have e:0<=aS [44,59,58] c↔(c=44\/c=59\/c=58):=by
  have:=tI (a:=44) (b:=59) (c:=58) c;rw[this];simp
 rw[w_,Io,Wk,l_,n_,n_,e];cases q<;>simp
theorem xB {G:Glo}(b:Nat)(s:List UInt8)(a:Nat)(cr:Bool)(hl:s.length<=1000000)(ha:a<=s.length):ad prog G 152 [.raw (pS b)] [nw b s a cr]
  (λr H=>(∃v j,cp cr s a= .ok (v,j)/\r= .ret (.str v)/\H=[nw b s j cr])\/(∃e p j,cp cr s a= .bad e p/\r= .panic (oY e p)/\H=[nw b s j cr])):=by
 have hX:=λc h0 h1=>aL (G:=G) [44,59,58] c h0 h1;have hN:=λc=>nE (G:=G) c;have hT:=λe p=>nC (G:=G) (pS b) e p;have hD:=λt h=>CI (G:=G) t h;have hi1:=nD (G:=G) b s a cr 34 hl ha;have hq:=rm s a;have eF:(if ez s a 34 then a+1 else a)=gL s a:=rfl;rw[eF] at hi1;have hGL:ab G []:=al;refine lE [(0,0,pS b)] func152 call152 rfl rfl rfl rfl (by repeat (first|exact trivial|refine And.intro ⟨rfl,rfl⟩ ?_)) ?_;intro C hC;refine ay hC hGL (aK ?_);refine lp hC hGL (λx:Nat=>[(0,.own 0 (pS b)),(3,.bool (ez s a 34)),(4,.int .i64 (gL s a:Nat))]) (λx=>[nw b s x cr]) (λx=>gL s a<=x/\x<=s.length/\eO (MY (ez s a 34)) s x=lR s a) (λx=>s.length-x) (gL s a) ⟨Nat.le_refl _,hq.2.2 ha,rfl⟩ ah rfl ?_;rintro x ⟨h1,h2,h3⟩;have hlv:((s.take x).drop (gL s a)).length<=1000000:=by rw[k_,i_];omega
 have hd:=hD ((s.take x).drop (gL s a)) hlv;have hi2:=nD (G:=G) b s x cr 34 hl h2;have fin:∀{v:List UInt8} {j:Nat} {w:AVal} {H:Heap},cp cr s a= .ok (v,j)->w= .str v->H=[nw b s j cr]->Rt (λr H=>(∃v j,cp cr s a= .ok (v,j)/\r= .ret (.str v)/\H=[nw b s j cr])\/(∃e p j,cp cr s a= .bad e p/\r= .panic (oY e p)/\H=[nw b s j cr])) w H:=by
  rintro v j w H h1 rfl rfl;exact⟨_,At _,.inl ⟨_,_,h1,rfl,rfl⟩⟩
 have bad:∀{e p:Int} {n j:Nat} {H:Heap},cp cr s a= .bad e n->p=n->H=[nw b s j cr]->Pn (λr H=>(∃v j,cp cr s a= .ok (v,j)/\r= .ret (.str v)/\H=[nw b s j cr])\/(∃e p j,cp cr s a= .bad e p/\r= .panic (oY e p)/\H=[nw b s j cr])) (oY e p) H:=by
  rintro e p n j H h1 rfl rfl;exact⟨_,At _,.inr ⟨_,_,_,h1,rfl,rfl⟩⟩
 by_cases hx:x<s.length
 ·have hb:=bu s x;have hx1:=hX (aa s x:Int) a_ a_;have hn1:=hN (aa s x:Int);have he:=P0 (q:=ez s a 34) (c:=(aa s x:Int)) a_ a_;generalize aS [44,59,58] (aa s x:Int)=ix at hx1 he;cases hk:zz (ez s a 34) (aa s x:Int) with
  |false=>
   have h34:(aa s x:Int)≠34:=λh=>(V5.1 hk) (.inl h);rw[hk] at he;have hix:ez s a 34=false->ix<0:=λh=>by
    rw[h] at he;have he:=he.symm;rw[Bool.or_eq_false_iff,Bool.not_false,YT,YU,YU] at he;omega
   cases hc:iw false (aa s x:Int) with
   |false=>
    rw[hc] at hn1;have hgo:MY (ez s a 34) (aa s x:Int)=true:=by unfold MY;rw[hk,hc];rfl
    have k:gL s a<=x+1/\x+1<=s.length/\eO (MY (ez s a 34)) s (x+1)=lR s a:=⟨a_,a_,(rA hx hgo).symm.trans h3⟩;cases hqa:ez s a 34 with
    |true=>
     rw[hqa] at k;refine aK ?_;intros;exact cQ (x+1) k a_ ah rfl
    |false=>
     have hix:=hix hqa;rw[hqa] at k;refine aK ?_;intros;exact cQ (x+1) k a_ ah rfl
   |true=>
    rw[hc] at hn1;have hJ:lR s a=x:=h3.symm.trans (nl (by unfold MY;rw[hk,hc];rfl));have hv:cp cr s a= .bad 3 x:=by unfold cp;rw[hJ,if_pos ⟨hx,hk⟩]
    cases hqa:ez s a 34 with
    |true=>
     refine aK ?_;intros;refine bY (hT 3 x) ?_;exact bad hv rfl rfl
    |false=>
     have hix:=hix hqa;refine aK ?_;intros;refine bY (hT 3 x) ?_;exact bad hv rfl rfl
  |true=>
   have hJ:lR s a=x:=h3.symm.trans (nl (by unfold MY;rw[hk];rfl));cases hqa:ez s a 34 with
   |true=>
    rw[hqa] at hk;have h34:(aa s x:Int)=34:=by
     rcases Io.1 hk with h|⟨h,_⟩
     ·exact h
     ·cases h
    rw[cG.2 ⟨hx,h34⟩,if_pos rfl] at hi2;have hv:cp cr s a= .ok (M0 cr ((s.take x).drop (gL s a)),x+1):=by
     unfold cp;rw[hJ,hqa,if_neg (by rw[hk];simp),if_neg b_,if_pos hx]
    cases cr with
    |true=>
     refine aK ?_;intros;exact fin hv rfl rfl
    |false=>
     refine aK ?_;intros;exact fin hv rfl rfl
   |false=>
    rw[hk,hqa] at he;have hv:cp cr s a= .ok (M0 cr ((s.take x).drop (gL s a)),x):=by
     unfold cp;rw[hJ,hk,if_neg (by simp),if_pos hqa]
    by_cases h34:(aa s x:Int)=34
    ·cases cr with
     |true=>
      refine aK ?_;intros;exact fin hv rfl rfl
     |false=>
      refine aK ?_;intros;exact fin hv rfl rfl
    ·have hix:0<=ix:=by
      rw[decide_eq_false h34] at he;simpa using he
     cases cr with
     |true=>
      refine aK ?_;intros;exact fin hv rfl rfl
     |false=>
      refine aK ?_;intros;exact fin hv rfl rfl
 ·have hJ:lR s a=x:=h3.symm.trans (oz a_);cases hqa:ez s a 34 with
  |true=>
   rw[KK.2 a_,if_neg b_] at hi2;have hv:cp cr s a= .bad 7 x:=by
    unfold cp;rw[hJ,hqa,if_neg a_,if_neg b_,if_neg hx]
   refine aK ?_;intros;refine bY (hT 7 x) ?_;exact bad hv rfl rfl
  |false=>
   have hv:cp cr s a= .ok (M0 cr ((s.take x).drop (gL s a)),x):=by
    unfold cp;rw[hJ,hqa,if_neg a_,if_pos rfl]
   cases cr with
   |true=>
    refine aK ?_;intros;exact fin hv rfl rfl
   |false=>
    refine aK ?_;intros;exact fin hv rfl rfl
end
section
def dE (ps:List Pr):List AVal:=ps.flatMap λq=>[.str q.n,.list 1 q.vs.length (aB q.vs)]
theorem wX:∀ps:List Pr,(dE ps).length=ps.length*2
 |[]=>rfl
 |q::l=>by
  have:=wX l;simp only[dE,O_,d_,j_,E_] at*
  omega
theorem Aa (ps:List Pr)(q:Pr):dE (ps++[q])=dE ps++[.str q.n,.list 1 q.vs.length (aB q.vs)]:=by
 simp[dE]
theorem Hs:∀(l:List Pr) (i:Nat),i<l.length->(fU l i).cells=((dE l).drop (i*2)).take 2/\(fU l i).plain=true
 |[],i,h=>absurd h (Uf _)
 |q::l,0,h=>⟨by simp[fU,AVal.cells,dE],rfl⟩
 |q::l,i+1,h=>by
  have ih:=Hs l i (by simpa using h);refine⟨?_,rfl⟩;have e:fU (q::l) (i+1)=fU l i:=rfl;have e2:dE (q::l)=[.str q.n,.list 1 q.vs.length (aB q.vs)]++dE l:=by simp[dE]
  rw[e,ih.1,e2,show(i+1)*2=2+i*2 by omega,<-Q_];rfl
end
section
def qj (c:Bool)(s:List UInt8)(a:Nat)(vs:List (List UInt8)):PR (List (List UInt8)×Nat):=if ez s a 44 then ea c s (a+1) vs else .ok (vs,a)
theorem pu {c:Bool}{s v:List UInt8}{a b:Nat}{acc:List (List UInt8)}(h:cp c s a= .ok (v,b)):ea c s a acc=qj c s b (acc++[v]):=by
 unfold qj;cases hb:ez s b 44 with
 |true=>rw[mE h hb,if_pos rfl]
 |false=>rw[la h hb,if_neg b_]
section
variable {C:Ctx} {n:Nat} {e:Env}
theorem Ja {h h':Heap}(hh:h'.Sublist h):To C n e h e h':=λR _ _ hm hf=>⟨R,Seal.le_refl R,hm.drop hh,hf⟩
theorem UO {c0:HEnt}{va:Value}{acc:List Pr}{w:List UInt8}{vs:List (List UInt8)}{u:Value}{m bp:Nat}(hm:m=(acc++[(⟨w,vs⟩:Pr)]).length):To C n e [c0,.row va none 2 m (dE acc++([.str w,.own 3 u]:List AVal)),.cells bp (some 58) [.str w,.own 3 u],.row u none 1 vs.length (bj vs)] e
  [c0,.row va none 2 (acc++[(⟨w,vs⟩:Pr)]).length (dE (acc++[⟨w,vs⟩]))]:=by
 have hI:=wX acc;rw[<-hm];have e1:(dE acc++([.str w,.own 3 u]:List AVal)).set (acc.length*2+1) (.list 1 vs.length (aB vs))=dE (acc++[⟨w,vs⟩]):=by
  rw[List.set_append_right _ _ a_,hI,T_,Aa];rfl
 rw[<-e1];refine an (kS (i:=3) (k:=1) (p:=acc.length*2+1) (aB vs) rfl rfl (gi vs) (λR hr=>.row (a:=.own 3 u) ?_ λ_=>cE hr)) (Ja ?_)
 ·rw[G_ a_,hI,T_];rfl
 ·exact V_ _ (V_ _ (Ug _))
end
attribute [local irreducible] bG au aa az aR ab ad
attribute [local irreducible] iw fd dm isS cx aU dE To
abbrev ne (a:Option Addr)(k c:Nat):Value:=.slice a k c
theorem EY {G:Glo}(b:Nat)(s:List UInt8)(a:Nat)(cr:Bool)(hl:s.length<=1000000)(ha:a<=s.length):ad prog G 94 [.raw (pS b)] [nw b s a cr]
  (λr H=>(∃ps j va vk vc,cD cr s a []= .ok (ps,j)/\r= .ret (.own 1 (.slice va vk vc))/\H=[nw b s j cr,.row (.slice va vk vc) none 2 ps.length (dE ps)])\/(∃e p j,cD cr s a []= .bad e p/\r= .panic (oY e p)/\H=[nw b s j cr])):=by
 have hT:=λe p=>nC (G:=G) (pS b) e p;have bad:∀{e p:Int} {q j:Nat} {T:Heap},cD cr s a []= .bad e q->p=q->Pn (λr H=>(∃ps j va vk vc,cD cr s a []= .ok (ps,j)/\r= .ret (.own 1 (.slice va vk vc))/\H=[nw b s j cr,.row (.slice va vk vc) none 2 ps.length (dE ps)])\/(∃e p j,cD cr s a []= .bad e p/\r= .panic (oY e p)/\H=[nw b s j cr])) (oY e p) (nw b s j cr::T):=by
  rintro e p q j T h1 rfl;exact⟨_,V_ _ (Ug _),.inr ⟨_,_,_,h1,rfl,rfl⟩⟩
 have hGL:ab G []:=al;refine lE [(0,0,pS b)] func94 call94 rfl rfl rfl rfl (by repeat (first|exact trivial|refine And.intro ⟨rfl,rfl⟩ ?_)) ?_;intro C hC;refine ay hC hGL (ao ?_);refine VF hC hGL (λx:Nat×List Pr×Option Addr×Nat×Nat=>[(0,.own 0 (pS b)),(3,.own 1 (ne x.2.2.1 x.2.2.2.1 x.2.2.2.2))]) (λx=>[nw b s x.1 cr,.row (ne x.2.2.1 x.2.2.2.1 x.2.2.2.2) none 2 x.2.1.length (dE x.2.1)]) (λx=>x.1<=s.length/\x.2.1.length<=20/\cD cr s x.1 x.2.1=cD cr s a []) (λx=>s.length-x.1) (a,[],none,0,0) ⟨ha,Nat.zero_le _,rfl⟩ ?_ ?_
 ·refine an (fg 2) (an (GP (k:=3) (i:=1) rfl rfl) (bL ah ?_));rw[show dE []=[] by unfold dE;rfl];exact At _
 rintro⟨at0,acc,va,vk,vc⟩ ⟨h1,h2,h3⟩;dsimp only at h1 h2 h3 ⊢;have hi0:=nD (G:=G) b s at0 cr 59 hl h1;cases hq:ez s at0 59 with
 |false=>
  rw[hq,if_neg b_] at hi0;refine ao ?_;intros;exact⟨_,At _,.inl ⟨acc,at0,_,_,_,h3.symm.trans (iJ hq),rfl,rfl⟩⟩
 |true=>
  rw[hq,if_pos rfl] at hi0;have hb1:=(cG.1 hq).1;have hw0:=AA (G:=G) b s (at0+1) cr hl a_;refine ao ?_;intros;refine⟨_,dH [.row (ne va vk vc) none 2 acc.length (dE acc)] hw0,?_,?_⟩;rotate_left
  ·rintro _ _ ⟨_,(⟨_,_,_,e,_⟩|⟨e',q,jj,hw,e,rfl⟩),rfl⟩
   ·cases e
   ·cases e;exact bad (h3.symm.trans (gm hq hw)) rfl
  rintro _ _ ⟨_,(⟨w,j,hw,e,rfl⟩|⟨_,_,_,_,e,_⟩),rfl⟩;rotate_left
  ·cases e
  cases e;have hj:=de hw;have hjl:j<=s.length:=hj.2.1 a_;have hi1:=nD (G:=G) b s j cr 61 hl hjl;cases h61:ez s j 61 with
  |false=>
   rw[h61,if_neg b_] at hi1;refine ao ?_;intros;refine bY (hT 7 j) ?_;exact bad (h3.symm.trans (kb hq hw h61)) rfl
  |true=>
   rw[h61,if_pos rfl] at hi1;have hb2:=(cG.1 h61).1;have hv0:=xB (G:=G) b s (j+1) cr hl a_;refine ao ?_;intro bp;intros;refine cA mixed hC hGL false (λv h=>∃(e:Int) (q jj:Nat) (T:Heap),cp cr s (j+1)= .bad e q/\v=oY e q/\h=nw b s jj cr::T)
    (λ_:{x:List UInt8×Nat×Option Addr×Nat×Nat//cp cr s (j+1)= .ok (x.1,x.2.1)}=>[(0,.own 0 (pS b)),(3,.own 1 (ne va vk vc)),(4,.int .i64 ((at0+1:Nat):Int)),(5,.own 2 (pS bp))])
    (λx=>[nw b s x.1.2.1 cr,.row (ne va vk vc) none 2 acc.length (dE acc),.cells bp (some 58) [.str w,.own 3 (ne x.1.2.2.1 x.1.2.2.2.1 x.1.2.2.2.2)],.row (ne x.1.2.2.1 x.1.2.2.2.1 x.1.2.2.2.2) none 1 1 (bj [x.1.1])])
    .p7 be ?_ ?_ ?_
   ·refine xn ?_;repeat' first|exact .n|apply Lc.mk
    all_goals intros
    all_goals (
     refine⟨_,dH [.row (ne va vk vc) none 2 acc.length (dE acc),.cells bp (some 58) [.str w,.raw (.slice none 0 0)]] hv0,?_,?_⟩
     ·rintro _ _ ⟨_,(⟨v,b',hv,e,rfl⟩|⟨_,_,_,_,e,_⟩),rfl⟩
      ·cases e;refine xn ?_;repeat' first|exact .n|apply Lc.mk
       all_goals intros
       all_goals exact⟨⟨(v,b',_,_,_),hv⟩,ah,aF⟩
      ·cases e
     ·rintro _ _ ⟨_,(⟨_,_,_,e,_⟩|⟨e',q,jj,hv,e,rfl⟩),rfl⟩
      ·cases e
      ·cases e;exact⟨e',q,jj,_,hv,rfl,rfl⟩)
   rotate_left
   ·rintro v h ⟨e',q,jj,T,hv,rfl,rfl⟩;exact bad (h3.symm.trans (eR hq hw h61 (gw hv))) rfl
   rintro⟨⟨v1,b1,ua,uk,uc⟩,hv1⟩;dsimp only at hv1 ⊢;have hg1:=iU hv1;refine ao ?_;intros;refine VF hC hGL (λx:Nat×List (List UInt8)×Option Addr×Nat×Nat=>[(0,.own 0 (pS b)),(3,.own 1 (ne va vk vc)),(4,.int .i64 ((at0+1:Nat):Int)),(5,.own 2 (pS bp))])
    (λx=>[nw b s x.1 cr,.row (ne va vk vc) none 2 acc.length (dE acc),.cells bp (some 58) [.str w,.own 3 (ne x.2.2.1 x.2.2.2.1 x.2.2.2.2)],.row (ne x.2.2.1 x.2.2.2.1 x.2.2.2.2) none 1 x.2.1.length (bj x.2.1)])
    (λx=>x.1<=s.length/\j+1<=x.1/\x.2.1.length<=x.1/\qj cr s x.1 x.2.1=ea cr s (j+1) []) (λx=>s.length-x.1) (b1,[v1],ua,uk,uc) ⟨hg1.2 a_,hg1.1,by simp only[j_,E_];omega,(pu (acc:=[]) hv1).symm⟩ (bL ah aF) ?_
   rintro⟨at2,vs,ua,uk,uc⟩ ⟨g1,g2,g3,g4⟩;dsimp only at g1 g2 g3 g4 ⊢;have hi2:=nD (G:=G) b s at2 cr 44 hl g1;cases h44:ez s at2 44 with
   |false=>
    rw[h44,if_neg b_] at hi2;have hvs:ea cr s (j+1) []= .ok (vs,at2):=by rw[<-g4];unfold qj;rw[h44,if_neg b_]
    by_cases h20:acc.length=20
    ·refine ao ?_;intros;refine bY (hT 4 ((at0+1:Nat):Int)) ?_;exact bad (h3.symm.trans (iI hq hw h61 hvs h20)) rfl
    ·refine ao ?_;intro wa wk wc _;intros;refine C9 (at2,acc++[⟨w,vs⟩],wa,wk,wc) ⟨g1,by simp only[d_,j_,E_];omega,(ka hq hw h61 hvs h20).symm.trans h3⟩ (by dsimp only;omega) ?_;exact an (bL ah (At _)) (UO (by simp))
   |true=>
    rw[h44,if_pos rfl] at hi2;have hb3:=(cG.1 h44).1;have hv2:=xB (G:=G) b s (at2+1) cr hl a_;have hgo:qj cr s at2 vs=ea cr s (at2+1) vs:=by unfold qj;rw[h44,if_pos rfl]
    refine ao ?_;intros;refine cA mixed hC hGL false (λv h=>∃(e:Int) (q jj:Nat) (T:Heap),cp cr s (at2+1)= .bad e q/\v=oY e q/\h=nw b s jj cr::T)
     (λ_:{x:List UInt8×Nat×Option Addr×Nat×Nat//cp cr s (at2+1)= .ok (x.1,x.2.1)}=>[(0,.own 0 (pS b)),(3,.own 1 (ne va vk vc)),(4,.int .i64 ((at0+1:Nat):Int)),(5,.own 2 (pS bp))])
     (λx=>[nw b s x.1.2.1 cr,.row (ne va vk vc) none 2 acc.length (dE acc),.cells bp (some 58) [.str w,.own 3 (ne x.1.2.2.1 x.1.2.2.2.1 x.1.2.2.2.2)],.row (ne x.1.2.2.1 x.1.2.2.2.1 x.1.2.2.2.2) none 1 (vs++[x.1.1]).length (bj (vs++[x.1.1]))])
     .p7 be ?_ ?_ ?_
    ·refine xn ?_;repeat' first|exact .n|apply Lc.mk
     all_goals intros
     all_goals (
      refine⟨_,dH [.row (ne va vk vc) none 2 acc.length (dE acc),.cells bp (some 58) [.str w,.own 3 (ne ua uk uc)],.row (ne ua uk uc) none 1 vs.length (bj vs)] hv2,?_,?_⟩
      ·rintro _ _ ⟨_,(⟨v,b',hv,e,rfl⟩|⟨_,_,_,_,e,_⟩),rfl⟩
       ·cases e;refine xn ?_;repeat' first|exact .n|apply Lc.mk
        all_goals intros
        all_goals (
         rename_i wa wk wc wh;refine⟨⟨(v,b',wa,wk,wc),hv⟩,ah,?_⟩;dsimp only
         rw[<-ce,d_];exact aF)
       ·cases e
      ·rintro _ _ ⟨_,(⟨_,_,_,e,_⟩|⟨e',q,jj,hv,e,rfl⟩),rfl⟩
       ·cases e
       ·cases e;exact⟨e',q,jj,_,hv,rfl,rfl⟩)
    rotate_left
    ·rintro v h ⟨e',q,jj,T,hv,rfl,rfl⟩;exact bad (h3.symm.trans (eR hq hw h61 (g4.symm.trans (hgo.trans (gw hv))))) rfl
    rintro⟨⟨v3,b3,xa,xk,xc⟩,hv3⟩;dsimp only at hv3 ⊢;have hg3:=iU hv3;refine ao ?_;intros;exact C9 (b3,vs++[v3],xa,xk,xc) ⟨hg3.2 a_,a_,by simp only[d_,j_,E_];omega,((pu hv3).symm.trans hgo.symm).trans g4⟩ (by dsimp only;omega) (bL ah aF)
end
section
abbrev mB (b:Nat)(g n:List UInt8)(q:AVal)(v:List UInt8):HEnt:=.cells b (some 92) [.str g,.str n,q,.str v]
abbrev Kq (b:Nat)(x:AVal):HEnt:=.cells b (some 31) [x]
abbrev kw:AVal:=.raw (.slice none 0 0)
abbrev QV (e p:Int):AVal:=.iface 74 (.rop [.int .i64 e,.int .i64 p] 0)
abbrev dPar (b4 b5:Nat):Deferred:={target:=.fn (.func 91) #[pS b4,pS b5],args:=#[]}
theorem IY {G:Glo}{H:Heap}{i:Nat}(b:Nat)(s:List UInt8)(a:Nat)(cr:Bool)(hi:H[i]? =some (nw b s a cr))(hl:s.length<=1000000)(ha:a<=s.length):ad prog G 92 [.raw (pS b)] H
  (λr H'=>(∃w j,bC s a= .ok (w,j)/\r= .ret (.str w)/\H'=H.set i (nw b s j cr))\/(∃e p j,bC s a= .bad e p/\r= .panic (oY e p)/\H'=H.set i (nw b s j cr))):=by
 refine(PO hi (AA b s a cr hl ha) (by rintro _ _ (⟨_,_,_,_,rfl⟩|⟨_,_,_,_,_,rfl⟩)<;>simp)).mono ?_;rintro r H' ⟨y,t,(⟨w,j,h1,h2,h3⟩|⟨e,p,j,h1,h2,h3⟩),rfl⟩
 ·cases h3;exact .inl ⟨w,j,h1,h2,by simp⟩
 ·cases h3;exact .inr ⟨e,p,j,h1,h2,by simp⟩
theorem LN {G:Glo}{H:Heap}{i:Nat}(b:Nat)(s:List UInt8)(a:Nat)(cr:Bool)(hi:H[i]? =some (nw b s a cr))(hl:s.length<=1000000)(ha:a<=s.length):ad prog G 94 [.raw (pS b)] H
  (λr H'=>(∃ps j va vk vc,cD cr s a []= .ok (ps,j)/\r= .ret (.own 1 (.slice va vk vc))/\H'=H.set i (nw b s j cr)++[.row (.slice va vk vc) none 2 ps.length (dE ps)])\/(∃e p j,cD cr s a []= .bad e p/\r= .panic (oY e p)/\H'=H.set i (nw b s j cr))):=by
 refine(PO hi (EY b s a cr hl ha) (by rintro _ _ (⟨_,_,_,_,_,_,_,rfl⟩|⟨_,_,_,_,_,rfl⟩)<;>simp)).mono ?_;rintro r H' ⟨y,t,(⟨ps,j,va,vk,vc,h1,h2,h3⟩|⟨e,p,j,h1,h2,h3⟩),rfl⟩
 ·cases h3;exact .inl ⟨ps,j,va,vk,vc,h1,h2,rfl⟩
 ·cases h3;exact .inr ⟨e,p,j,h1,h2,by simp⟩
theorem xh {c:Bool}{s:List UInt8}:∀(n:Nat) {a b:Nat} {acc ps:List Pr},s.length-a<=n->cD c s a acc= .ok (ps,b)->a<=b/\(a<=s.length->b<=s.length)
 |n,a,b,acc,ps,hn,h=>by
  cases hq:ez s a 59 with
  |false=>rw[iJ hq] at h;cases h;exact⟨Nat.le_refl _,id⟩
  |true=>
   have h1:=cG.1 hq;cases hw:bC s (a+1) with
   |bad e p=>rw[gm hq hw] at h;cases h
   |ok x=>
    obtain⟨w,j⟩:=x;have h2:=de hw;cases hj:ez s j 61 with
    |false=>rw[kb hq hw hj] at h;cases h
    |true=>
     cases hv:ea c s (j+1) [] with
     |bad e p=>rw[eR hq hw hj hv] at h;cases h
     |ok x=>
      obtain⟨vs,d⟩:=x;have h3:=jY _ (Nat.le_refl _) hv;by_cases h20:acc.length=20
      ·rw[iI hq hw hj hv h20] at h;cases h
      ·rw[ka hq hw hj hv h20] at h;cases n with
       |zero=>omega
       |succ n=>
        have ih:=xh n a_ h;have h4:=(cG.1 hj).1;omega
attribute [local irreducible] bG au aa az aR ab ad
attribute [local irreducible] iw fd dm isS cx aU dE To dP Lv fZ
theorem EZ {G:Glo}(b4 b5:Nat)(e p:Int)(g n v:List UInt8)(q x:AVal):dP prog G 91 [.own 0 (pS b4),.own 1 (pS b5)] (.pan (oY e p)) [mB b4 g n q v,Kq b5 x]
  (λr m H=>m= .rcv (oY e p)/\r= .ret (.tuple [])/\H=[mB b4 [] [] kw [],Kq b5 (QV e p)]):=by
 have hGL:ab G []:=al;refine S8 (Y:=Nat) (H1:=λb3=>[mB b4 [] [] kw [],Kq b5 (.iface 74 (.own 2 (pS b3))),.cells b3 (some 167) [.int .i64 e,.int .i64 p]]) ?_ ?_
 ·refine CB (rs:=[]) (GL:=[]) func91 rfl rfl rfl rfl rfl rfl hGL ?_;intro C hC;refine ao ?_;intro b3;intros;exact⟨_,At _,rfl,b3,rfl⟩
 ·intro b3 C R w hm;obtain⟨R',hle,hm',hr⟩:=MS.seal_cells (hm.perm (fG (i:=2) rfl));obtain⟨h1,h2⟩:=(lP.cells (R:=R') (b:=b5) (eT:=some 31) (p:=0) (a:=.iface 74 (.own 2 (pS b3))) (a':=QV e p) (cs:=[.iface 74 (.own 2 (pS b3))]) rfl (λv=>H4 (OA hr))).holds (hm'.heap.holds _ (q_ (i:=1) rfl));exact⟨R',hle,hm'.setEnt (i:=1) rfl h2 h1⟩
theorem zm {G:Glo}(b4 b5:Nat)(x y:HEnt):dP prog G 91 [.own 0 (pS b4),.own 1 (pS b5)] .ret [x,y] (λr m H=>m= .ret/\r= .ret (.tuple [])/\H=[x,y]):=by
 have hGL:ab G []:=al;refine CB (rs:=[]) (GL:=[]) func91 rfl rfl rfl rfl rfl rfl hGL ?_;intro C hC;exact eK
section
variable {G:Glo} {n:Nat} {env:Env} {Qf:ct->Heap->Prop} {b4 b5:Nat} {T:Heap} {q x:AVal} {e p:Int} {g m v:List UInt8}
theorem BZ (h4:Env.get env 4=some (.own 0 (pS b4)))(h5:Env.get env 5=some (.own 1 (pS b5)))(hx:x.isAgg=false){H':Heap}(hs:H'.Sublist T)(hq:Qf (.ret (.tuple [.agg [.str g,.str m,q,.str v],x])) H'):
  Lv prog G n [.cell 4 92,.cell 5 31] env [] .ret (mB b4 g m q v::Kq b5 x::T) Qf:=by
 refine T5 ⟨[.agg [.str g,.str m,q,.str v],x],H',⟨_,_,rfl,⟨b4,0,_,_,_,.inr ⟨0,h4⟩,rfl,rfl,rfl,.inl ⟨rfl,rfl⟩⟩,_,_,rfl,⟨b5,1,_,_,_,.inr ⟨1,h5⟩,rfl,rfl,rfl,.inr ⟨rfl,rfl,hx⟩⟩,rfl⟩,(hs.cons _).cons _,hq⟩
theorem Hu (h4:Env.get env 4=some (.own 0 (pS b4)))(h5:Env.get env 5=some (.own 1 (pS b5)))(hq:Qf (.ret (.tuple [.agg [.str [],.str [],kw,.str []],QV e p])) []):
  Lv prog G n [.cell 4 92,.cell 5 31] env [dPar b4 b5] (.pan (oY e p)) (mB b4 g m q v::Kq b5 x::T) Qf:=by
 refine ig (o8 T (EZ (G:=G) b4 b5 e p g m v q x)) (λR=>⟨_,_,rfl,aG.2 ⟨rfl,rfl⟩,_,_,rfl,aG.2 ⟨rfl,rfl⟩,rfl⟩) call91 ?_;exact BZ h4 h5 rfl (Ug _) hq
theorem Oy (h4:Env.get env 4=some (.own 0 (pS b4)))(h5:Env.get env 5=some (.own 1 (pS b5)))(hx:x.isAgg=false){H':Heap}(hs:H'.Sublist T)(hq:Qf (.ret (.tuple [.agg [.str g,.str m,q,.str v],x])) H'):
  Lv prog G n [.cell 4 92,.cell 5 31] env [dPar b4 b5] .ret (mB b4 g m q v::Kq b5 x::T) Qf:=by
 refine ig (o8 T (zm (G:=G) b4 b5 _ _)) (λR=>⟨_,_,rfl,aG.2 ⟨rfl,rfl⟩,_,_,rfl,aG.2 ⟨rfl,rfl⟩,rfl⟩) call91 ?_;exact BZ h4 h5 hx hs hq
end
theorem AB {c:Bool}{s:List UInt8}(h:0<=dm s):dF c s= .bad 3 (dm s).toNat:=by unfold dF;rw[if_neg a_]
theorem nF {c:Bool}{s:List UInt8}{e:Int}{p:Nat}(h:dm s<0)(k:fy s= .bad e p):dF c s= .bad e p:=by unfold dF;rw[if_pos h,k]
theorem jK {c:Bool}{s g n:List UInt8}{a:Nat}{e:Int}{p:Nat}(h:dm s<0)(k:fy s= .ok ((g,n),a))(m:cD c s a []= .bad e p):dF c s= .bad e p:=by
 unfold dF;rw[if_pos h,k];dsimp only;rw[m]
theorem xD {c:Bool}{s g n:List UInt8}{a b:Nat}{ps:List Pr}(h:dm s<0)(k:fy s= .ok ((g,n),a))(m:cD c s a []= .ok (ps,b)):dF c s=iX s g n ps b:=by
 unfold dF;rw[if_pos h,k];dsimp only;rw[m]
theorem J9 {s:List UInt8}{e:Int}{p:Nat}(h:bC s 0= .bad e p):fy s= .bad e p:=by unfold fy;rw[h]
theorem J8 {s w:List UInt8}{j:Nat}(h:bC s 0= .ok (w,j))(k:ez s j 46=false):fy s= .ok (([],w),j):=by unfold fy;rw[h];dsimp only;rw[k];rfl
theorem J7 {s w:List UInt8}{j p:Nat}{e:Int}(h:bC s 0= .ok (w,j))(k:ez s j 46=true)(m:bC s (j+1)= .bad e p):fy s= .bad e p:=by unfold fy;rw[h];dsimp only;rw[k,if_pos rfl,m]
theorem J6 {s w n:List UInt8}{j i:Nat}(h:bC s 0= .ok (w,j))(k:ez s j 46=true)(m:bC s (j+1)= .ok (n,i)):fy s= .ok ((w,n),i):=by unfold fy;rw[h];dsimp only;rw[k,if_pos rfl,m]
theorem Jb {s g n:List UInt8}{ps:List Pr}{b:Nat}(h:ez s b 58=false):iX s g n ps b= .bad 7 b:=by unfold iX;rw[h];rfl
theorem RD {s g n:List UInt8}{ps:List Pr}{b i:Nat}(h:ez s b 58=true)(hb:b+1<=i)(hi:i<s.length)(hc:iw false (aa s i:Int)=true)(h0:∀j,b+1<=j->j<i->iw false (aa s j:Int)=false):iX s g n ps b= .bad 3 i:=by
 have e:fX (iw false) (s.drop (b+1))=((i-(b+1):Nat):Int):=mf (i:=i-(b+1)) (by rw[k_];omega) (by rw[qa,show b+1+(i-(b+1))=i by omega];exact hc) (λj hj=>by rw[qa];exact h0 _ a_ a_);unfold iX;rw[h,if_pos rfl,e,if_neg a_,B_,show b+1+(i-(b+1))=i by omega]
theorem NK {s g n:List UInt8}{ps:List Pr}{b i:Nat}(h:ez s b 58=true)(hi:s.length<=i)(h0:∀j,b+1<=j->j<i->iw false (aa s j:Int)=false):iX s g n ps b= .ok ⟨g,n,ps,s.drop (b+1)⟩:=by
 have e:fX (iw false) (s.drop (b+1))= -1:=iM (λj hj=>by rw[qa];rw[k_] at hj;exact h0 _ a_ a_);unfold iX;rw[h,if_pos rfl,e,if_pos b_]
attribute [local irreducible] dF fy bC iX
theorem E0 {G:Glo}(s:List UInt8)(cr:Bool)(hl:s.length<=1000000):ad prog G 46 [.str s,.bool cr] []
  (λr H=>(∃(e:Int) (p:Nat),dF cr s= .bad e p/\r= .ret (.tuple [.agg [.str [],.str [],kw,.str []],QV e p])/\H=[])\/
   (∃(l:Ln) (v:Value),dF cr s= .ok l/\r= .ret (.tuple [.agg [.str l.g,.str l.n,.own 1 v,.str l.v],.raw .nilIface])/\H=[.row v none 2 l.ps.length (dE l.ps)])):=by
 have hGL:ab G []:=al;have hB:=Bk (G:=G) s a_;refine SX (rs:=[.cell 4 92,.cell 5 31]) func46 call46 rfl rfl rfl rfl ?_;intro C hC hD;refine cf hC hGL (λx:Nat×Nat=>[(0,.str s),(1,.bool cr),(4,.own 0 (pS x.1)),(5,.own 1 (pS x.2))]) (λx=>[mB x.1 [] [] kw [],Kq x.2 (.raw .nilIface)]) (λ_=>True) ?_ ?_
 ·refine ao ?_;intro b4 b5;exact cy (b4,b5) trivial
 rintro⟨b4,b5⟩-
 dsimp only
 refine cf hC hGL (λ_:Unit=>[(0,.str s),(1,.bool cr),(4,.own 0 (pS b4)),(5,.own 1 (pS b5))]) (λ_=>[mB b4 [] [] kw [],Kq b5 (.raw .nilIface)]) (λ_=>dm s<0) ?_ ?_
 ·by_cases hb:0<=dm s
  ·have e9:dm s=(((dm s).toNat:Nat):Int):=by omega
   refine ao ?_;intros;rw[hD];exact BZ rfl rfl rfl (Ug _) (.inl ⟨3,(dm s).toNat,AB hb,by rw[<-e9];rfl,rfl⟩)
  ·refine ao ?_;intros;exact cy () a_
 intro _ hb;refine ff (jN hC hGL rfl ?_);refine ao ?_;refine⟨_,rfl,?_⟩;refine(λ(h:∀C2:Ctx,C2.G=G->C2.D=[dPar b4 b5]->fZ prog C2 _ _ _ _ _)=>h (withD C (dPar b4 b5::C.D)) hC (by show dPar b4 b5::C.D=_;rw[hD])) ?_;clear hC hD C;intro C hC hD;have thr:∀{n:Nat} {env:Env} {T:Heap} {q x:AVal} {g m v:List UInt8} {e:Int} {p:Nat} {p':Int},Env.get env 4=some (.own 0 (pS b4))->Env.get env 5=some (.own 1 (pS b5))->dF cr s= .bad e p->p'=p->Lv prog G n [.cell 4 92,.cell 5 31] env [dPar b4 b5] (.pan (oY e p')) (mB b4 g m q v::Kq b5 x::T)
   (λr H=>(∃(e:Int) (p:Nat),dF cr s= .bad e p/\r= .ret (.tuple [.agg [.str [],.str [],kw,.str []],QV e p])/\H=[])\/
   (∃(l:Ln) (v:Value),dF cr s= .ok l/\r= .ret (.tuple [.agg [.str l.g,.str l.n,.own 1 v,.str l.v],.raw .nilIface])/\H=[.row v none 2 l.ps.length (dE l.ps)])):=by
  rintro n env T q x g m v e p p' h4 h5 h rfl;exact Hu h4 h5 (.inl ⟨_,_,h,rfl,rfl⟩)
 refine cf hC hGL (λbr:Nat=>[(0,.str s),(4,.own 0 (pS b4)),(5,.own 1 (pS b5)),(7,.own 2 (pS br))]) (λbr=>[mB b4 [] [] kw [],Kq b5 (.raw .nilIface),nw br s 0 cr]) (λ_=>True) ?_ ?_
 ·refine Ra ?_;intro br;intros;exact cy br trivial
 intro br _;have hT:=λe p=>nC (G:=G) (pS br) e p;refine cf hC hGL (λx:List UInt8×Nat=>[(0,.str s),(4,.own 0 (pS b4)),(5,.own 1 (pS b5)),(7,.own 2 (pS br))]) (λx=>[mB b4 [] x.1 kw [],Kq b5 (.raw .nilIface),nw br s x.2 cr]) (λx=>bC s 0= .ok x) ?_ ?_
 ·refine ao ?_;intros;refine⟨_,IY (i:=2) br s 0 cr rfl hl (Nat.zero_le _),?_,?_⟩
  ·rintro _ _ (⟨w,j,hw,e,rfl⟩|⟨_,_,_,_,e,_⟩)
   ·cases e;refine ao ?_;intros;exact cy (w,j) hw
   ·cases e
  ·rintro _ _ (⟨_,_,_,e,_⟩|⟨e',p,j,hw,e,rfl⟩)
   ·cases e
   ·cases e
    (conv=>whnf)
    rw[hD];exact thr rfl rfl (nF hb (J9 hw)) rfl
 rintro⟨w,j⟩ hw;dsimp only
 have hg:=de hw;have hjl:=hg.2.1 (Nat.zero_le _);have hi1:=nD (G:=G) br s j cr 46 hl hjl;refine cf hC hGL (λx:List UInt8×List UInt8×Nat=>[(0,.str s),(4,.own 0 (pS b4)),(5,.own 1 (pS b5)),(7,.own 2 (pS br))]) (λx=>[mB b4 x.1 x.2.1 kw [],Kq b5 (.raw .nilIface),nw br s x.2.2 cr]) (λx=>fy s= .ok ((x.1,x.2.1),x.2.2)/\x.2.2<=s.length) ?_ ?_
 ·cases h46:ez s j 46 with
  |false=>
   rw[h46,if_neg b_] at hi1;refine ao ?_;intros;exact cy ([],w,j) ⟨J8 hw h46,hjl⟩
  |true=>
   rw[h46,if_pos rfl] at hi1;have hb1:=(cG.1 h46).1;refine ao ?_;intros;refine⟨_,IY (i:=2) br s (j+1) cr rfl hl a_,?_,?_⟩
   ·rintro _ _ (⟨n,k,hn,e,rfl⟩|⟨_,_,_,_,e,_⟩)
    ·cases e;refine ao ?_;intros;exact cy (w,n,k) ⟨J6 hw h46 hn,(de hn).2.1 a_⟩
    ·cases e
   ·rintro _ _ (⟨_,_,_,e,_⟩|⟨e',p,k,hn,e,rfl⟩)
    ·cases e
    ·cases e
     (conv=>whnf)
     rw[hD];exact thr rfl rfl (nF hb (J7 hw h46 hn)) rfl
 rintro⟨g,n,a⟩ ⟨hh,hal⟩;dsimp only at hh hal ⊢;refine cf hC hGL (λx:List Pr×Nat×Option Addr×Nat×Nat=>[(0,.str s),(4,.own 0 (pS b4)),(5,.own 1 (pS b5)),(7,.own 2 (pS br))]) (λx=>[mB b4 g n (.own 1 (.slice x.2.2.1 x.2.2.2.1 x.2.2.2.2)) [],Kq b5 (.raw .nilIface),nw br s x.2.1 cr,.row (.slice x.2.2.1 x.2.2.2.1 x.2.2.2.2) none 2 x.1.length (dE x.1)]) (λx=>cD cr s a []= .ok (x.1,x.2.1)/\x.2.1<=s.length) ?_ ?_
 ·refine ao ?_;intros;refine⟨_,LN (i:=2) br s a cr rfl hl hal,?_,?_⟩
  ·rintro _ _ (⟨ps,k,va,vk,vc,hn,e,rfl⟩|⟨_,_,_,_,e,_⟩)
   ·cases e;refine ao ?_;intros;exact cy (ps,k,va,vk,vc) ⟨hn,(xh _ (Nat.le_refl _) hn).2 hal⟩
   ·cases e
  ·rintro _ _ (⟨_,_,_,_,_,_,e,_⟩|⟨e',p,k,hn,e,rfl⟩)
   ·cases e
   ·cases e
    (conv=>whnf)
    rw[hD];exact thr rfl rfl (jK hb hh hn) rfl
 rintro⟨ps,k,va,vk,vc⟩ ⟨hp,hkl⟩;dsimp only at hp hkl ⊢;have hLP:=xD (c:=cr) hb hh hp;have hi2:=nD (G:=G) br s k cr 58 hl hkl;cases h58:ez s k 58 with
 |false=>
  rw[h58,if_neg b_] at hi2;refine dJ hC hGL (ao ?_);intros;refine bY (hT 7 k) ?_
  (conv=>whnf)
  rw[hD];exact thr rfl rfl (hLP.trans (Jb h58)) rfl
 |true=>
  rw[h58,if_pos rfl] at hi2;have hb2:=(cG.1 h58).1;refine dJ hC hGL (ao ?_);intros;refine lp hC hGL (λi:Nat=>[(0,.str s),(4,.own 0 (pS b4)),(5,.own 1 (pS b5)),(7,.own 2 (pS br)),(8,.int .i64 (i:Nat))]) (λ_=>[mB b4 g n (.own 1 (.slice va vk vc)) [],Kq b5 (.raw .nilIface),nw br s (k+1) cr,.row (.slice va vk vc) none 2 ps.length (dE ps)]) (λi=>k+1<=i/\i<=s.length/\∀j,k+1<=j->j<i->iw false (aa s j:Int)=false) (λi=>s.length-i) (k+1) ⟨Nat.le_refl _,hb2,λj h1 h2=>by omega⟩ ah rfl ?_;rintro i ⟨i1,i2,i3⟩;by_cases hi:i<s.length
  ·have hN:=nE (G:=G) (aa s i:Int);cases hc:iw false (aa s i:Int) with
   |false=>
    rw[hc] at hN;refine ao ?_;intros;refine cQ (i+1) ⟨a_,a_,λj h1 h2=> ?_⟩ a_ ah rfl;rcases YY j i with g|g
    ·exact i3 j h1 g
    ·rw[show j=i by omega];exact hc
   |true=>
    rw[hc] at hN;refine ao ?_;intros;refine bY (hT 3 i) ?_
    (conv=>whnf)
    rw[hD];exact thr rfl rfl (hLP.trans (RD h58 i1 hi hc i3)) rfl
  ·refine ao ?_;intros;rw[hD];refine Oy (H':=[.row (.slice va vk vc) none 2 ps.length (dE ps)]) rfl rfl rfl ?_ ?_
   ·exact List.Sublist.cons _ (At _)
   ·exact .inr ⟨⟨g,n,ps,s.drop (k+1)⟩,_,hLP.trans (NK h58 a_ i3),rfl,rfl⟩
end
end Go.Proofs.YtnbaflecdkgihaaGreatDoor
