/- Parts of the proof of streamCards_card. -/
import Derived.Lib.MapLaws
import Derived.Test.YtgpjhbhdbjdlgaaGreatDoorRows
import Derived.ProofKit
import Derived.LaidMore
import Derived.Lay
import Derived.Stop.Joined
import Derived.LaidSub
import Derived.LaidHandle
import Derived.OpenShut
import Derived.Lib.LastIndexByte
import Derived.Lib.Replace
import Derived.Test.YtgpjhbhdbjdlgaaGreatDoorBan
set_option linter.unusedVariables false
set_option linter.unusedSimpArgs false
set_option linter.unusedSectionVars false
namespace Go.Proofs.YtgpjhbhdbjdlgaaGreatDoor
open Go Go.RowKit
open Go.Proofs.Tryz Go.Proofs.YtgpjhbhdbjdlgaaGreatDoor.Tryz
set_option maxRecDepth 20000
set_option maxHeartbeats 4000000
section
theorem SL {s g n:ω}{ps:List Pr}{b:Nat}(h:eJ s b 58=true)(hf:¬gh (iJ false) (s.drop (b+1))<0):jk s g n ps b= .bad 3 (b+1+(gh (iJ false) (s.drop (b+1))).toNat):=by
 unfold jk;rw[h,if_pos rfl,if_neg hf]
theorem SK {s g n:ω}{ps:List Pr}{b:Nat}(h:eJ s b 58=true)(hf:gh (iJ false) (s.drop (b+1))<0):jk s g n ps b= .ok ⟨g,n,ps,s.drop (b+1)⟩:=by
 unfold jk;rw[h,if_pos rfl,if_pos hf]
section
variable {C:Ctx} {n:Nat} {e:Env}
theorem SF {c0 c1 c2 c3 c4 c5:HEnt}{va:Value}{acc:List Pr}{w:ω}{vs:List ω}{u:Value}{m bp:Nat}(hm:m=(acc++[(⟨w,vs⟩:Pr)]).length):To C n e [c0,c1,c2,c3,c4,c5,.row va none 2 m (dG acc++([.str w,.own 8 u]:List AVal)),.cells bp (some 69) [.str w,.own 8 u],.row u none 1 vs.length (bu vs)] e
  [c0,c1,c2,c3,c4,c5,.row va none 2 (acc++[(⟨w,vs⟩:Pr)]).length (dG (acc++[⟨w,vs⟩]))]:=by
 have hI:=xJ acc;rw[<-hm];have e1:(dG acc++([.str w,.own 8 u]:List AVal)).set (acc.length*2+1) (.list 1 vs.length (aB vs))=dG (acc++[⟨w,vs⟩]):=by
  rw[List.set_append_right _ _ a_,hI,T_,AK];rfl
 rw[<-e1];refine ak (ji (i:=8) (k:=6) (p:=acc.length*2+1) (aB vs) rfl rfl (gt vs) (λR hr=>.row (a:=.own 8 u) ?_ λ_=>ck hr)) (J1 ?_)
 ·rw[G_ a_,hI,T_];rfl
 ·exact V_ _ (V_ _ (V_ _ (V_ _ (V_ _ (V_ _ (V_ _ (Ug _)))))))
end
attribute [local irreducible] bJ au aa ax aR ab ad iJ fo dm isS cB aU dG To dS Lv gj dI fI bF jk PJ
abbrev Vk (b2 b3 b4 b5 b7 b8:Nat)(l:Env):Env:=(2,.own 0 (pS b2))::(4,.own 2 (pS b4))::(5,.own 3 (pS b5))::(7,.own 4 (pS b7))::(8,.own 5 (pS b8))::(9,.func (.func 67) [] [.own 4 (pS b7),.own 0 (pS b2)])::(10,.func (.func 69) [] [.own 5 (pS b8),.own 4 (pS b7),.own 0 (pS b2),.own 1 (pS b3)])::l
theorem xD {G:Glo}{m:Int}(hU:ab G utfTy)(hM:ab G (bQ m))(s:ω)(cr:Bool)(hl:s.length<=1000000):ad prog G 34 [.str s,.bool cr] []
  (λr H=>(∃(e:Int) (p:Nat),dI cr s= .bad e p/\r= .ret (.tuple [.agg [.str [],.str [],kN,.str []],.agg [.int .i64 e,.int .i64 p]])/\H=[])\/
   (∃(l:Ln) (i:Nat) (v:Value),dI cr s= .ok l/\r= .ret (.tuple [.agg [.str l.g,.str l.n,.own i v,.str l.v],.agg [.int .i64 0,.int .i64 (-1)]])/\H=[.row v none 2 l.ps.length (dG l.ps)])):=by
 have hGL:ab G []:=al;have hB:=CF (G:=G) hU s a_;have hG0:=fb (G:=G);have hT:=λe p=>pV (G:=G) e p;refine Ua (rs:=[.cell 4 97,.cell 5 25]) func34 call34 rfl rfl rfl rfl ?_;intro C hC hD;refine ci hC hGL (λx:Nat×Nat×Nat×Nat=>[(2,.own 0 (pS x.1)),(3,.own 1 (pS x.2.1)),(4,.own 2 (pS x.2.2.1)),(5,.own 3 (pS x.2.2.2))]) (λx=>[la x.1 s,oz x.2.1 cr,mU x.2.2.1 [] [] kN [],jy x.2.2.2 0 0]) (λ_=>True) ?_ ?_
 ·refine Sg ?_
  intro b2 b3 b4 b5
  intros
  exact cy (b2,b3,b4,b5) trivial
 rintro⟨b2,b3,b4,b5⟩-
 dsimp only
 refine ci hC hGL (λ_:Unit=>[(2,.own 0 (pS b2)),(3,.own 1 (pS b3)),(4,.own 2 (pS b4)),(5,.own 3 (pS b5))]) (λ_=>[la b2 s,oz b3 cr,mU b4 [] [] kN [],jy b5 0 (-1)]) (λ_=>True) ?_ ?_
 ·refine an ?_
  intros
  exact cy () trivial
 intro _ _
 refine fq (j5 hC hGL rfl ?_)
 refine an ?_
 refine⟨_,rfl,?_⟩
 refine fq (j5 hC hGL rfl ?_)
 refine an ?_
 refine⟨_,rfl,?_⟩
 refine(λ(h:∀C2:Ctx,C2.G=G->C2.D=[No b5,Jm b4 b5]->gj prog C2 _ _ _ _ _)=>h (withD C (No b5::Jm b4 b5::C.D)) hC (by show No b5::Jm b4 b5::C.D=_;rw[hD])) ?_
 clear hC hD C
 intro C hC hD
 have thr:∀{n:Nat} {env:Env} {T:Heap} {q:AVal} {y z:AVal} {g m v:ω} {e:Int} {p:Nat} {p':Int},Env.get env 4=some (.own 2 (pS b4))->Env.get env 5=some (.own 3 (pS b5))->dI cr s= .bad e p->p'=p->Lv prog G n [.cell 4 97,.cell 5 25] env [No b5,Jm b4 b5] (.pan (qZ e p')) (la b2 s::oz b3 cr::mU b4 g m q v:: .cells b5 (some 25) [y,z]::T)
   (λr H=>(∃(e:Int) (p:Nat),dI cr s= .bad e p/\r= .ret (.tuple [.agg [.str [],.str [],kN,.str []],.agg [.int .i64 e,.int .i64 p]])/\H=[])\/
   (∃(l:Ln) (i:Nat) (v:Value),dI cr s= .ok l/\r= .ret (.tuple [.agg [.str l.g,.str l.n,.own i v,.str l.v],.agg [.int .i64 0,.int .i64 (-1)]])/\H=[.row v none 2 l.ps.length (dG l.ps)])):=by
  rintro n env T q y z g m v e p p' h4 h5 h rfl
  exact Iw h4 h5 (FK h) (.inl ⟨_,_,h,rfl,rfl⟩)
 refine ci hC hGL (λ_:Unit=>[(2,.own 0 (pS b2)),(3,.own 1 (pS b3)),(4,.own 2 (pS b4)),(5,.own 3 (pS b5))]) (λ_=>[la b2 s,oz b3 cr,mU b4 [] [] kN [],jy b5 0 (-1)]) (λ_=>dm s<0) ?_ ?_
 ·by_cases hb:0<=dm s
  ·have e9:dm s=(((dm s).toNat:Nat):Int):=by omega
   refine an ?_
   intros
   refine cd (hT 3 (dm s)) ?_
   (conv=>whnf)
   rw[hD]
   exact thr rfl rfl (A6 hb) e9
  ·refine an ?_
   intros
   exact cy () a_
 intro _ hb
 refine ci hC hGL (λb7:Nat=>[(2,.own 0 (pS b2)),(3,.own 1 (pS b3)),(4,.own 2 (pS b4)),(5,.own 3 (pS b5)),(7,.own 4 (pS b7))]) (λb7=>[la b2 s,oz b3 cr,mU b4 [] [] kN [],jy b5 0 (-1),mG b7 0]) (λ_=>True) ?_ ?_
 ·refine Sg ?_
  intro b7
  intros
  exact cy b7 trivial
 intro b7 _
 refine ci hC hGL (λb8:Nat=>[(2,.own 0 (pS b2)),(3,.own 1 (pS b3)),(4,.own 2 (pS b4)),(5,.own 3 (pS b5)),(7,.own 4 (pS b7)),(8,.own 5 (pS b8))]) (λb8=>[la b2 s,oz b3 cr,mU b4 [] [] kN [],jy b5 0 (-1),mG b7 0,rF b8 4 0 b7 b2]) (λ_=>True) ?_ ?_
 ·refine Sg ?_
  intro b8
  intros
  exact cy b8 trivial
 intro b8 _
 refine ci hC hGL (λ_:Unit=>[(2,.own 0 (pS b2)),(3,.own 1 (pS b3)),(4,.own 2 (pS b4)),(5,.own 3 (pS b5)),(7,.own 4 (pS b7)),(8,.own 5 (pS b8)),(9,.func (.func 67) [] [.own 4 (pS b7),.own 0 (pS b2)])]) (λ_=>[la b2 s,oz b3 cr,mU b4 [] [] kN [],jy b5 0 (-1),mG b7 0,rF b8 4 0 b7 b2]) (λ_=>True) ?_ ?_
 ·refine an ?_
  intros
  exact cy () trivial
 intro _ _
 refine ci hC hGL (λ_:Unit=>(Vk b2 b3 b4 b5 b7 b8 [])) (λ_=>[la b2 s,oz b3 cr,mU b4 [] [] kN [],jy b5 0 (-1),mG b7 0,rF b8 4 0 b7 b2]) (λ_=>True) ?_ ?_
 ·refine an ?_
  intros
  exact cy () trivial
 intro _ _
 refine ci hC hGL (λ_:ω×Nat=>(Vk b2 b3 b4 b5 b7 b8 [])) (λx=>[la b2 s,oz b3 cr,mU b4 [] x.1 kN [],jy b5 0 (-1),mG b7 x.2,rF b8 4 0 b7 b2]) (λx=>bF s 0= .ok x) ?_ ?_
 ·refine an ?_
  refine yW hl (Nat.zero_le _) (λw j hw=> ?_) (λe p j hw=> ?_)
  ·refine an ?_
   intros
   exact cy (w,j) hw
  ·(conv=>whnf)
   rw[hD]
   exact thr rfl rfl (nX hb (K3 hw)) rfl
 rintro⟨w,j⟩ hw
 dsimp only
 have hg:=de hw
 have hjl:=hg.2.1 (Nat.zero_le _)
 refine ci hC hGL (λ_:ω×ω×Nat=>(Vk b2 b3 b4 b5 b7 b8 [])) (λx=>[la b2 s,oz b3 cr,mU b4 x.1 x.2.1 kN [],jy b5 0 (-1),mG b7 x.2.2,rF b8 4 0 b7 b2]) (λx=>fI s= .ok ((x.1,x.2.1),x.2.2)/\x.2.2<=s.length) ?_ ?_
 ·cases h46:eJ s j 46 with
  |false=>
   have hne:=AT b_ h46
   refine an ?_
   refine eI hl hjl ?_
   refine an ?_
   intros
   exact cy ([],w,j) ⟨K2 hw h46,hjl⟩
  |true=>
   have hy:=AS b_ h46
   have hb1:j+1<=s.length:=(cK.1 h46).1
   refine an ?_
   refine eI hl hjl ?_
   rw[hy]
   refine an ?_
   intros
   refine yW hl hb1 (λn k hn=> ?_) (λe p k hn=> ?_)
   ·refine an ?_
    intros
    exact cy (w,n,k) ⟨KZ hw h46 hn,(de hn).2.1 hb1⟩
   ·(conv=>whnf)
    rw[hD]
    exact thr rfl rfl (nX hb (K1 hw h46 hn)) rfl
 rintro⟨g,n,a⟩ ⟨hh,hal⟩
 dsimp only at hh hal ⊢
 refine ci hC hGL (λ_:List Pr×Nat×Option Addr×Nat×Nat=>(Vk b2 b3 b4 b5 b7 b8 [])) (λx=>[la b2 s,oz b3 cr,mU b4 g n (.own 6 (nz x.2.2.1 x.2.2.2.1 x.2.2.2.2)) [],jy b5 0 (-1),mG b7 x.2.1,rF b8 4 0 b7 b2,.row (nz x.2.2.1 x.2.2.2.1 x.2.2.2.2) none 2 x.1.length (dG x.1)]) (λx=>cG cr s a []= .ok (x.1,x.2.1)/\x.2.1<=s.length) ?_ ?_
 ·refine an ?_
  refine WT hC hGL (λx:Nat×List Pr×Option Addr×Nat×Nat=>(Vk b2 b3 b4 b5 b7 b8 [])) (λx=>[la b2 s,oz b3 cr,mU b4 g n (.own 6 (nz x.2.2.1 x.2.2.2.1 x.2.2.2.2)) [],jy b5 0 (-1),mG b7 x.1,rF b8 4 0 b7 b2,.row (nz x.2.2.1 x.2.2.2.1 x.2.2.2.2) none 2 x.2.1.length (dG x.2.1)]) (λx=>x.1<=s.length/\x.2.1.length<=20/\cG cr s x.1 x.2.1=cG cr s a []) (λx=>s.length-x.1) (a,[],none,0,0) ⟨hal,Nat.zero_le _,rfl⟩ ?_ ?_
  ·refine ak (ep 2) (ak (iq (i:=2) (p:=2) (x:=mU b4 g n kN []) (a':=.own 6 (.slice none 0 0)) rfl (λR=>.cells rfl λ_=>iy)) (bi ae ?_))
   rw[show dG []=[] by unfold dG;rfl]
   exact At _
  rintro⟨at0,acc,va,vk,vc⟩ ⟨h1,h2,h3⟩
  dsimp only at h1 h2 h3 ⊢
  cases hq:eJ s at0 59 with
  |false=>
   have hne:=AT b_ hq
   refine an ?_
   refine eI hl h1 ?_
   refine an ?_
   intros
   exact cy (acc,at0,va,vk,vc) ⟨h3.symm.trans (iW hq),h1⟩
  |true=>
   have hy:=AS b_ hq
   have hb1:at0+1<=s.length:=(cK.1 hq).1
   refine an ?_
   refine eI hl h1 ?_
   rw[hy]
   refine an ?_
   intros
   refine yW hl hb1 (λw j hw=> ?_) (λe p j hw=> ?_)
   rotate_left
   ·(conv=>whnf)
    rw[hD]
    exact thr rfl rfl (jZ hb hh (h3.symm.trans (gx hq hw))) rfl
   have hj:=de hw
   have hjl:j<=s.length:=hj.2.1 hb1
   refine an ?_
   intro bp
   intros
   refine eI hl hjl ?_
   cases h61:eJ s j 61 with
   |false=>
    have hne:=AT b_ h61
    refine an ?_
    intros
    refine cd (hT 7 j) ?_
    (conv=>whnf)
    rw[hD]
    exact thr rfl rfl (jZ hb hh (h3.symm.trans (kA hq hw h61))) rfl
   |true=>
    have hy61:=AS b_ h61
    have hb2:j+1<=s.length:=(cK.1 h61).1
    rw[hy61]
    refine an ?_
    intros
    refine WT hC hGL (λx:Nat×List ω×Option Addr×Nat×Nat=>Vk b2 b3 b4 b5 b7 b8 [(11,.int .i64 ((at0+1:Nat):Int)),(12,.own 7 (pS bp))])
     (λx=>[la b2 s,oz b3 cr,mU b4 g n (.own 6 (nz va vk vc)) [],jy b5 0 (-1),mG b7 x.1,rF b8 4 0 b7 b2,.row (nz va vk vc) none 2 acc.length (dG acc),.cells bp (some 69) [.str w,.own 8 (nz x.2.2.1 x.2.2.2.1 x.2.2.2.2)],.row (nz x.2.2.1 x.2.2.2.1 x.2.2.2.2) none 1 x.2.1.length (bu x.2.1)])
     (λx=>x.1<=s.length/\x.2.1.length<=x.1/\((x.2.1=[]/\j=x.1)\/(x.2.1≠[]/\j+1<=x.1/\qy cr s x.1 x.2.1=ei cr s (j+1) []))) (λx=>s.length-x.1) (j,[],none,0,0) ⟨hjl,Nat.zero_le _,.inl ⟨rfl,rfl⟩⟩ ?_ ?_
    ·refine ak (ep 1) (ak (iq (i:=7) (p:=1) (x:=.cells bp (some 69) [.str w,.raw (.slice none 0 0)]) (a':=.own 8 (.slice none 0 0)) rfl (λR=>.cells rfl λ_=>iy)) (bi ae ?_))
     exact At _
    rintro⟨at2,vs,ua,uk,uc⟩ ⟨g1,g2,g3⟩
    dsimp only at g1 g2 g3 ⊢
    rcases g3 with⟨rfl,rfl⟩|⟨g3,g4,g5⟩
    ·refine an ?_
     refine eI hl hjl ?_
     rw[hy61]
     refine an ?_
     intros
     refine Vz [(4,.own 2 (pS b4)),(5,.own 3 (pS b5))] be mixed hC hGL false (λv h=>∃(e:Int) (q:Nat) (jj:Nat) (T:Heap),cw cr s (j+1)= .bad e q/\v=qZ e q/\h=la b2 s::oz b3 cr::mU b4 g n (.own 6 (nz va vk vc)) []::jy b5 0 (-1)::T)
      (λ_:{x:ω×Nat×Option Addr×Nat×Nat//cw cr s (j+1)= .ok (x.1,x.2.1)}=>Vk b2 b3 b4 b5 b7 b8 [(11,.int .i64 ((at0+1:Nat):Int)),(12,.own 7 (pS bp))])
      (λx=>[la b2 s,oz b3 cr,mU b4 g n (.own 6 (nz va vk vc)) [],jy b5 0 (-1),mG b7 x.1.2.1,rF b8 4 0 b7 b2,.row (nz va vk vc) none 2 acc.length (dG acc),.cells bp (some 69) [.str w,.own 8 (nz x.1.2.2.1 x.1.2.2.2.1 x.1.2.2.2.2)],.row (nz x.1.2.2.1 x.1.2.2.2.1 x.1.2.2.2.2) none 1 (([]:List ω)++[x.1.1]).length (bu (([]:List ω)++[x.1.1]))])
      .p6 be ?_ ?_ ?_
     ·refine xn ?_
      repeat' first|exact .n|apply Lc.mk
      all_goals intros
      all_goals (
       refine Lt hM hl (hb2) (λv b' hv=> ?_) (λe' q jj hv=> ?_)
       ·refine xn ?_
        repeat' first|exact .n|apply Lc.mk
        all_goals intros
        all_goals (
         rename_i wa wk wc wh
         refine⟨⟨(v,b',wa,wk,wc),hv⟩,ae,?_⟩
         dsimp only
         rw[<-cg,d_]
         exact aA)
       ·exact⟨⟨e',q,jj,_,hv,rfl,rfl⟩,rfl,rfl,trivial⟩)
     rotate_left
     ·rintro v h ⟨e',q,jj,T,hv,rfl,rfl⟩
      (conv=>whnf)
      rw[hD]
      exact thr rfl rfl (jZ hb hh (h3.symm.trans (fe hq hw h61 (gH hv)))) rfl
     rintro⟨⟨v3,b3',xa,xk,xc⟩,hv3⟩
     dsimp only at hv3 ⊢
     have hg3:=jg hv3
     refine an ?_
     intros
     exact DT (b3',[]++[v3],xa,xk,xc) ⟨hg3.2 hb2,by simp only[L_,j_,E_];omega,.inr ⟨by simp,hg3.1,(pJ (acc:=[]) hv3).symm⟩⟩ (by dsimp only;omega) (bi ae aA)
    ·have hvl:vs.length≠0:=λh=>g3 (s_ h)
     cases h44:eJ s at2 44 with
     |true=>
      have hy:=AS b_ h44
      have hb3:at2+1<=s.length:=(cK.1 h44).1
      have hgo:qy cr s at2 vs=ei cr s (at2+1) vs:=by unfold qy;rw[h44,if_pos rfl]
      refine an ?_
      refine eI hl g1 ?_
      rw[hy]
      refine an ?_
      intros
      refine eI hl g1 ?_
      rw[hy]
      refine an ?_
      intros
      refine Vz [(4,.own 2 (pS b4)),(5,.own 3 (pS b5))] be mixed hC hGL false (λv h=>∃(e:Int) (q:Nat) (jj:Nat) (T:Heap),cw cr s (at2+1)= .bad e q/\v=qZ e q/\h=la b2 s::oz b3 cr::mU b4 g n (.own 6 (nz va vk vc)) []::jy b5 0 (-1)::T)
       (λ_:{x:ω×Nat×Option Addr×Nat×Nat//cw cr s (at2+1)= .ok (x.1,x.2.1)}=>Vk b2 b3 b4 b5 b7 b8 [(11,.int .i64 ((at0+1:Nat):Int)),(12,.own 7 (pS bp))])
       (λx=>[la b2 s,oz b3 cr,mU b4 g n (.own 6 (nz va vk vc)) [],jy b5 0 (-1),mG b7 x.1.2.1,rF b8 4 0 b7 b2,.row (nz va vk vc) none 2 acc.length (dG acc),.cells bp (some 69) [.str w,.own 8 (nz x.1.2.2.1 x.1.2.2.2.1 x.1.2.2.2.2)],.row (nz x.1.2.2.1 x.1.2.2.2.1 x.1.2.2.2.2) none 1 (vs++[x.1.1]).length (bu (vs++[x.1.1]))])
       .p6 be ?_ ?_ ?_
      ·refine xn ?_
       repeat' first|exact .n|apply Lc.mk
       all_goals intros
       all_goals (
        refine Lt hM hl (hb3) (λv b' hv=> ?_) (λe' q jj hv=> ?_)
        ·refine xn ?_
         repeat' first|exact .n|apply Lc.mk
         all_goals intros
         all_goals (
          rename_i wa wk wc wh
          refine⟨⟨(v,b',wa,wk,wc),hv⟩,ae,?_⟩
          dsimp only
          rw[<-cg,d_]
          exact aA)
        ·exact⟨⟨e',q,jj,_,hv,rfl,rfl⟩,rfl,rfl,trivial⟩)
      rotate_left
      ·rintro v h ⟨e',q,jj,T,hv,rfl,rfl⟩
       (conv=>whnf)
       rw[hD]
       exact thr rfl rfl (jZ hb hh (h3.symm.trans (fe hq hw h61 (g5.symm.trans (hgo.trans (gH hv)))))) rfl
      rintro⟨⟨v3,b3',xa,xk,xc⟩,hv3⟩
      dsimp only at hv3 ⊢
      have hg3:=jg hv3
      refine an ?_
      intros
      exact DT (b3',vs++[v3],xa,xk,xc) ⟨hg3.2 hb3,by simp only[d_,j_,E_];omega,.inr ⟨by simp,a_,((pJ hv3).symm.trans hgo.symm).trans g5⟩⟩ (by dsimp only;omega) (bi ae aA)
     |false=>
      have hvs:ei cr s (j+1) []= .ok (vs,at2):=by rw[<-g5];unfold qy;rw[h44,if_neg b_]
      have hne:=AT b_ h44
      by_cases h20:acc.length=20
      ·by_cases h61':(PJ s at2:Int)=61
       all_goals (
        refine an ?_
        refine eI hl g1 ?_
        try rw[h61']
        refine an ?_
        intros
        refine eI hl g1 ?_
        try rw[h61']
        refine an ?_
        intros
        refine cd (hT 4 ((at0+1:Nat):Int)) ?_
        (conv=>whnf)
        rw[hD]
        exact thr rfl rfl (jZ hb hh (h3.symm.trans (iV hq hw h61 hvs h20))) rfl)
      ·by_cases h61':(PJ s at2:Int)=61
       all_goals (
        refine an ?_
        refine eI hl g1 ?_
        try rw[h61']
        refine an ?_
        intros
        refine eI hl g1 ?_
        try rw[h61']
        refine an ?_
        intro wa wk wc _
        intros
        refine DT (at2,acc++[⟨w,vs⟩],wa,wk,wc) ⟨g1,by simp only[d_,j_,E_];omega,(ky hq hw h61 hvs h20).symm.trans h3⟩ (by dsimp only;omega) ?_
        exact ak (bi ae (At _)) (SF (by simp)))
 rintro⟨ps,k,va,vk,vc⟩ ⟨hp,hkl⟩
 dsimp only at hp hkl ⊢
 have hLP:=yg (c:=cr) hb hh hp
 cases h58:eJ s k 58 with
 |false=>
  have hne:=AT b_ h58
  refine dQ hC hGL (an ?_)
  refine eI hl hkl ?_
  refine an ?_
  intros
  refine cd (hT 7 k) ?_
  (conv=>whnf)
  rw[hD]
  exact thr rfl rfl (hLP.trans (J2 h58)) rfl
 |true=>
  have hy:=AS b_ h58
  have hb2:k+1<=s.length:=(cK.1 h58).1
  have hf:=mr (G:=G) (s.drop (k+1)) 70 (iJ false) (by rw[k_];omega) (λc _=>mt (c:Int))
  by_cases hfst:gh (iJ false) (s.drop (k+1))<0
  ·have hE:=hLP.trans (SK h58 hfst)
   generalize gh (iJ false) (s.drop (k+1))=fi at*
   refine dQ hC hGL (an ?_)
   refine eI hl hkl ?_
   rw[hy]
   refine an ?_
   intros
   refine a7 mixed hC hGL false (λ(_:Unit)=>[(4,.own 2 (pS b4)),(5,.own 3 (pS b5))]) (λ_=>[la b2 s,oz b3 cr,mU b4 g n (.own 6 (nz va vk vc)) (s.drop (k+1)),jy b5 0 (-1),mG b7 (k+1),rF b8 4 0 b7 b2,.row (nz va vk vc) none 2 ps.length (dG ps)]) .p8 be xu ?_
   intro _
   refine an ?_
   intros
   rw[hD]
   refine Qa (H':=[.row (nz va vk vc) none 2 ps.length (dG ps)]) rfl rfl ?_ ?_
   ·exact List.Sublist.cons _ (List.Sublist.cons _ (At _))
   ·exact .inr ⟨⟨g,n,ps,s.drop (k+1)⟩,6,_,hE,rfl,rfl⟩
  ·have hE:=hLP.trans (SL h58 hfst)
   have hfl:gh (iJ false) (s.drop (k+1))<=1000000:=by
    rcases gB (iJ false) (s.drop (k+1)) with⟨h,_⟩|⟨m',h1,h2,_⟩
    ·rw[h];omega
    ·rw[h2];rw[k_] at h1;omega
   generalize gh (iJ false) (s.drop (k+1))=fi at*
   refine dQ hC hGL (an ?_)
   refine eI hl hkl ?_
   rw[hy]
   refine an ?_
   intros
   refine cd (hT 3 _) ?_
   (conv=>whnf)
   rw[hD]
   exact thr rfl rfl hE a_
end
section
theorem IE {G:Glo}(s:ω)(cr:Bool)(hl:s.length<=1000000):ai prog G 48 [.str s,.bool cr] (.tuple [(jb cr s).A,(rE cr s).A]):=by
 refine dB (FJ s cr hl) ?_;rintro r H (⟨e,p,h,rfl,rfl⟩|⟨l,v,h,rfl,rfl⟩)
 ·rintro C R w e' hm ⟨x,rfl,hx⟩;have e1:jb cr s=Ln.no:=by unfold jb;rw[h]
  have e2:rE cr s= .atp e p:=by unfold rE;rw[h]
  rw[e1,e2];exact⟨R,hm,x,rfl,gL (Seal.le_refl R) hx λu hu=>jB (p:=2) (a':=.list 2 0 (gg [])) (Seal.le_refl R) hu rfl (λv=>lN)⟩
 ·rintro C R w e' hm ⟨x,rfl,hx⟩;have e1:jb cr s=l:=by unfold jb;rw[h]
  have e2:rE cr s= .none:=by unfold rE;rw[h]
  rw[e1,e2];obtain⟨R',hle,m2,hr⟩:=MS.seal_row (f:=gg l.ps) hm (Ij l.ps);exact⟨R',m2,x,rfl,gL hle hx λu hu=>jB (p:=2) (a':=.list 2 l.ps.length (gg l.ps)) hle hu rfl (λv=>ck hr)⟩
end
section
theorem zK {G:Glo}{m:Int}(hU:ab G utfTy)(hM:ab G (bQ m))(s:ω)(cr:Bool)(hl:s.length<=1000000):ai prog G 34 [.str s,.bool cr] (.tuple [(jb cr s).A,.agg [.int .i64 (rE cr s).e,.int .i64 (rE cr s).p]]):=by
 refine dB (xD hU hM s cr hl) ?_;rintro r H (⟨e,p,h,rfl,rfl⟩|⟨l,i,v,h,rfl,rfl⟩)
 ·rintro C R w e' hm ⟨x,rfl,hx⟩;have e1:jb cr s=Ln.no:=by unfold jb;rw[h]
  have e2:rE cr s= .atp e p:=by unfold rE;rw[h]
  rw[e1,e2];exact⟨R,hm,x,rfl,gL (Seal.le_refl R) hx λu hu=>jB (p:=2) (a':=.list 2 0 (gg [])) (Seal.le_refl R) hu rfl (λv=>lN)⟩
 ·rintro C R w e' hm ⟨x,rfl,hx⟩;have e1:jb cr s=l:=by unfold jb;rw[h]
  have e2:rE cr s= .none:=by unfold rE;rw[h]
  rw[e1,e2];obtain⟨R',hle,m2,hr⟩:=MS.seal_row (f:=gg l.ps) hm (Ij l.ps);exact⟨R',m2,x,rfl,gL hle hx λu hu=>jB (p:=2) (a':=.list 2 l.ps.length (gg l.ps)) hle hu rfl (λv=>ck hr)⟩
end
section
theorem AN {c:Bool}{s:ω}:∀(n:Nat) {a b:Nat} {acc ps:List Pr},s.length-a<=n->acc.length<=20->(∀q∈acc,q.vs.length<=s.length+1)->cG c s a acc= .ok (ps,b)->ps.length<=20/\∀q∈ps,q.vs.length<=s.length+1
 |n,a,b,acc,ps,hn,h0,h1,h=>by
  cases hq:eJ s a 59 with
  |false=>rw[iW hq] at h;cases h;exact⟨h0,h1⟩
  |true=>
   have g1:=cK.1 hq;cases hw:bF s (a+1) with
   |bad e' p'=>rw[gx hq hw] at h;cases h
   |ok x=>
    obtain⟨w,j⟩:=x;have g2:=de hw;cases hj:eJ s j 61 with
    |false=>rw[kA hq hw hj] at h;cases h
    |true=>
     have g4:=(cK.1 hj).1;cases hv:ei c s (j+1) [] with
     |bad e' p'=>rw[fe hq hw hj hv] at h;cases h
     |ok x=>
      obtain⟨vs,d⟩:=x;have g3:=ki _ (Nat.le_refl _) hv;by_cases h20:acc.length=20
      ·rw[iV hq hw hj hv h20] at h;cases h
      ·rw[ky hq hw hj hv h20] at h;cases n with
       |zero=>omega
       |succ n=>
        refine AN n a_ (by rw[d_,Rf];omega) (λq hq=> ?_) h;rcases List.mem_append.1 hq with hq|hq
        ·exact h1 q hq
        ·rw[List.mem_singleton.1 hq];have:=g3.2.1 a_;have:=g3.2.2.2;rw[E_] at this;show vs.length<=_;omega
theorem CY (c:Bool)(s:ω):(jb c s).ps.length<=20/\∀q∈(jb c s).ps,q.vs.length<=s.length+1:=by
 unfold jb;cases hl:dI c s with
 |bad e p=>exact⟨Nat.zero_le _,λq hq=>by cases hq⟩
 |ok l=>
  unfold dI at hl;split at hl
  ·cases hh:fI s with
   |bad e p=>rw[hh] at hl;cases hl
   |ok x=>
    obtain⟨⟨g,n⟩,a⟩:=x;rw[hh] at hl;dsimp only at hl;cases hp:cG c s a [] with
    |bad e p=>rw[hp] at hl;cases hl
    |ok x=>
     obtain⟨ps,b⟩:=x;rw[hp] at hl;dsimp only at hl;have hb:=AN _ (Nat.le_refl _) (Nat.zero_le _) (λq hq=>by cases hq) hp;unfold jk at hl
     (repeat' split at hl)<;>first|(cases hl;exact hb)|cases hl
  ·cases hl
attribute [local irreducible] bJ au aa ax aR ab ad jb rE
end
section
section
variable {c:Bool} {s:ω} {e:Int} {p:Nat}
theorem VU {v:ω}{a b:Nat}(h:cw c s a= .ok (v,b)):v.length+a<=b:=by
 have h1:∀i j:Nat,(NW c ((s.take i).drop j)).length<=i-j:=λi j=>by
  have e1:((s.take i).drop j).length<=i-j:=by rw[k_,i_];omega
  unfold NW;split
  ·exact aai (sR _) e1
  ·exact e1
 have h2:=h1 (mj s a) (gW s a);have h3:=(rG s a).1;have h4:=(jg h).1;unfold cw at h
 (repeat' split at h)<;>(cases h;try omega)
theorem A7 (l:List ω)(v:ω):Lib.lens (l++[v])=Lib.lens l+v.length:=by
 induction l with
 |nil=>simp[Lib.lens]
 |cons x l ih=>
  rw[Lu];have e1:Lib.lens (x::(l++[v]))=x.length+Lib.lens (l++[v]):=by simp[Lib.lens]
  have e2:Lib.lens (x::l)=x.length+Lib.lens l:=by simp[Lib.lens]
  rw[e1,e2,ih];omega
theorem JU:∀(n:Nat) {a b:Nat} {acc vs:List ω},s.length-a<=n->ei c s a acc= .ok (vs,b)->Lib.lens vs+a<=Lib.lens acc+b
 |n,a,b,acc,vs,hn,h=>by
  cases hv:cw c s a with
  |bad e' p'=>rw[gH hv] at h;cases h
  |ok x=>
   obtain⟨v,d⟩:=x;have h1:=jg hv;have h3:=VU hv;cases hb:eJ s d 44 with
   |true=>
    have h2:=cK.1 hb;rw[mX hv hb] at h;cases n with
    |zero=>omega
    |succ n=>
     have:=JU n a_ h;rw[A7] at this;omega
   |false=>rw[lv hv hb] at h;cases h;rw[A7];omega
theorem Ky:∀(n:Nat) {a b:Nat} {acc ps:List Pr},s.length-a<=n->(∀q∈acc,Lib.lens q.vs<=s.length)->cG c s a acc= .ok (ps,b)->∀q∈ps,Lib.lens q.vs<=s.length
 |n,a,b,acc,ps,hn,h0,h=>by
  cases hq:eJ s a 59 with
  |false=>rw[iW hq] at h;cases h;exact h0
  |true=>
   have h1:=(cK.1 hq).1;cases hw:bF s (a+1) with
   |bad e' p'=>rw[gx hq hw] at h;cases h
   |ok x=>
    obtain⟨w,j⟩:=x;have h2:=de hw;have h4:=h2.2.1 h1;cases hj:eJ s j 61 with
    |false=>rw[kA hq hw hj] at h;cases h
    |true=>
     have h5:=(cK.1 hj).1;cases hv:ei c s (j+1) [] with
     |bad e' p'=>rw[fe hq hw hj hv] at h;cases h
     |ok x=>
      obtain⟨vs,d⟩:=x;have h3:=ki _ (Nat.le_refl _) hv;by_cases h20:acc.length=20
      ·rw[iV hq hw hj hv h20] at h;cases h
      ·rw[ky hq hw hj hv h20] at h;cases n with
       |zero=>omega
       |succ n=>
        refine Ky n a_ (λq hq=> ?_) h;rcases List.mem_append.1 hq with hq|hq
        ·exact h0 q hq
        ·rw[List.mem_singleton.1 hq];have g1:=h3.2.1 h5;have g2:=JU _ (Nat.le_refl _) hv;have g3:Lib.lens ([]:List ω)=0:=rfl;show Lib.lens vs<=_;omega
end
theorem YS (c:Bool)(s:ω):(jb c s).g.length<=s.length/\∀q∈(jb c s).ps,Lib.lens q.vs<=s.length:=by
 unfold jb;cases hl:dI c s with
 |bad e p=>exact⟨Nat.zero_le _,λq hq=>by cases hq⟩
 |ok l=>
  unfold dI at hl;split at hl
  ·cases hh:fI s with
   |bad e p=>rw[hh] at hl;cases hl
   |ok x=>
    obtain⟨⟨g,n⟩,a⟩:=x;have hg:g.length<=s.length:=by
     unfold fI at hh;cases hw:bF s 0 with
     |bad e'' p''=>rw[hw] at hh;cases hh
     |ok x=>
      obtain⟨w,j⟩:=x;have g1:=(de hw).2.2.1;rw[hw] at hh;dsimp only at hh;split at hh
      ·cases hv:bF s (j+1) with
       |bad e'' p''=>rw[hv] at hh;cases hh
       |ok x=>
        obtain⟨w2,j2⟩:=x;rw[hv] at hh;cases hh;rw[g1,k_,i_];omega
      ·cases hh;exact Nat.zero_le _
    rw[hh] at hl;dsimp only at hl;cases hp:cG c s a [] with
    |bad e p=>rw[hp] at hl;cases hl
    |ok x=>
     obtain⟨ps,b⟩:=x;rw[hp] at hl;dsimp only at hl;have hb:=Ky _ (Nat.le_refl _) (λq hq=>by cases hq) hp;unfold jk at hl
     (repeat' split at hl)<;>first|(cases hl;exact⟨hg,hb⟩)|cases hl
  ·cases hl
theorem Zf {v:Int}{l:LineS}(hl:l.t.length<=1500):Itm.OK 2500 (px v l):=by
 have h1:=Iy (bV v 4) l.t;have h2:=YS (bV v 4) l.t;have h3:=CY (bV v 4) l.t;have hP:(⟨(jb (bV v 4) l.t).g,(jb (bV v 4) l.t).n,(jb (bV v 4) l.t).ps,[]⟩:Ln).OK 2500:=by
  refine⟨by show(jb _ _).g.length<=_;omega,by show(jb _ _).n.length<=_;omega,Nat.zero_le _,by show(jb _ _).ps.length<=_;omega,λk=> ?_⟩;by_cases hk:k<(jb (bV v 4) l.t).ps.length
  ·show((jb (bV v 4) l.t).ps.getD k Pr.z).n.length<=_/\((jb (bV v 4) l.t).ps.getD k Pr.z).vs.length<=_/\Lib.lens ((jb (bV v 4) l.t).ps.getD k Pr.z).vs<=_;rw[f_,y_ hk,aam];have hm:=K_ hk;have g1:=h1.2.2 _ hm;have g2:=h2.2 _ hm;exact⟨by have:=g1.1;omega,by have:=g1.2.1;omega,a_⟩
  ·show((jb (bV v 4) l.t).ps.getD k Pr.z).n.length<=_/\((jb (bV v 4) l.t).ps.getD k Pr.z).vs.length<=_/\Lib.lens ((jb (bV v 4) l.t).ps.getD k Pr.z).vs<=_;rw[f_,P_ a_,Option.getD_none];exact⟨Nat.zero_le _,Nat.zero_le _,Nat.zero_le _⟩
 have hno:Itm.OK 2500 (Ln.no,Vl.no):=⟨⟨Nat.zero_le _,Nat.zero_le _,Nat.zero_le _,Nat.zero_le _,λk=>by
  show(([]:List Pr).getD k Pr.z).n.length<=_/\(([]:List Pr).getD k Pr.z).vs.length<=_/\Lib.lens (([]:List Pr).getD k Pr.z).vs<=_;rw[List.getD_nil];exact⟨Nat.zero_le _,Nat.zero_le _,Nat.zero_le _⟩⟩,Nat.zero_le _,jP⟩
 unfold px;split
 ·have h4:=N8 (s:=(jb (bV v 4) l.t).v) (by have:=h1.2.1;omega) (NX v l.t);exact⟨hP,aai h4.1 (by have:=h1.2.1;omega),h4.2⟩
 ·exact hno
theorem IN {v:Int}{L:List LineS}{n:Nat}{t:ω}(hb:∀l∈L,me t l):∀x∈lm v L n,Itm.OK 2500 x:=by
 intro x hx;unfold lm at hx;obtain⟨i,_,rfl⟩:=List.mem_map.1 hx;refine Zf ?_;by_cases hk:i+2<L.length
 ·show(L.getD (i+2) ⟨[],0,[]⟩).t.length<=_;rw[f_,y_ hk,aam];exact(hb _ (K_ hk)).2.1
 ·show(L.getD (i+2) ⟨[],0,[]⟩).t.length<=_;rw[f_,P_ a_,Option.getD_none];exact Nat.zero_le _
end
section
def Hg (l:LineS):Bool:=aW (qz l.t) kG
def fD:List LineS->List LineS->List (List LineS)
 |c,[]=>if c.length=0 then[] else[c]
 |c,l::r=>if Hg l=true then(c++[l])::fD [] r else fD (c++[l]) r
def mD (o:Nat):List LineS->List Nat
 |[]=>[]
 |l::r=>if Hg l=true\/r.length=0 then(o+1)::mD (o+1) r else mD (o+1) r
theorem Jj:∀(r:List LineS) (c:List LineS) (o:Nat),(r=[]->c=[])->(mD o r).length=(fD c r).length
 |[],c,o,h=>by rw[h rfl];rfl
 |l::r,c,o,_=>by
  unfold mD fD;by_cases h1:Hg l=true
  ·rw[if_pos (.inl h1),if_pos h1,j_,j_,Jj r [] (o+1) λ_=>rfl]
  ·rw[if_neg h1];by_cases h2:r.length=0
   ·obtain rfl:=s_ h2;rw[if_pos (.inr rfl)];simp[mD,fD]
   ·rw[if_neg (λh=>h.elim h1 h2),Jj r (c++[l]) (o+1) λh=>absurd (by rw[h];rfl) h2]
theorem Jk:∀(r:List LineS) (c P:List LineS) (o:Nat),o=(P++c).length->(r=[]->c=[])->∀k,k<(mD o r).length->((P++c++r).take ((mD o r).getD k 0)).drop (if k=0 then P.length else(mD o r).getD (k-1) 0)=(fD c r).getD k []/\(mD o r).getD k 0<=(P++c++r).length/\o<(mD o r).getD k 0
 |[],c,P,o,_,_,k,hk=>absurd hk (Uf _)
 |l::r,c,P,o,ho,_,k,hk=>by
  have hpl:(P++c).length=P.length+c.length:=d_;have key:((P++c++l::r).take (o+1)).drop P.length=c++[l]:=by
   rw[show P++c++l::r=P++(c++[l])++r by simp,List.take_append_of_le_length (by simp only[d_,j_,E_];omega),u_ (by simp only[d_,j_,E_];omega),List.drop_left]
  have hlen:o+1<=(P++c++l::r).length:=by simp only[d_,j_];omega
  by_cases h1:Hg l=true
  ·have eE:mD o (l::r)=(o+1)::mD (o+1) r:=by rw[mD,if_pos (.inl h1)]
   have eG:fD c (l::r)=(c++[l])::fD [] r:=by rw[fD,if_pos h1]
   rw[eE] at hk ⊢;rw[eG];cases k with
   |zero=>exact⟨key,hlen,aak o⟩
   |succ k=>
    have ih:=Jk r [] (P++(c++[l])) (o+1) (by simp only[d_,j_,E_];omega) (λ_=>rfl) k (by simpa using hk);rw[show P++(c++[l])++[]++r=P++c++l::r by simp] at ih;refine⟨?_,ih.2.1,Nat.lt_of_succ_lt ih.2.2⟩;have:=ih.1;rw[if_neg (Nat.succ_ne_zero k)];simp only[List.getD_cons_succ,Nat.add_sub_cancel];rw[<-this];cases k with
    |zero=>
     rw[if_pos rfl,show((o+1)::mD (o+1) r).getD 0 0=o+1 from rfl,show(P++(c++[l])).length=o+1 by simp only[d_,j_,E_];omega]
    |succ k=>rw[if_neg (Nat.succ_ne_zero k)];simp
  ·have eG:fD c (l::r)=fD (c++[l]) r:=by rw[fD,if_neg h1]
   rw[eG];by_cases h2:r.length=0
   ·obtain rfl:=s_ h2;have eE:mD o [l]=[o+1]:=by rw[mD,if_pos (.inr rfl)];rfl
    rw[eE] at hk ⊢;have h0:k=0:=by simp at hk;omega
    subst h0;refine⟨?_,hlen,aak o⟩;rw[if_pos rfl,show[o+1].getD 0 0=o+1 from rfl,key];simp[fD]
   ·have eE:mD o (l::r)=mD (o+1) r:=by rw[mD,if_neg (λh=>h.elim h1 h2)]
    rw[eE] at hk ⊢;have ih:=Jk r (c++[l]) P (o+1) (by simp only[d_,j_,E_];omega) (λh=>absurd (by rw[h];rfl) h2) k hk;rw[show P++(c++[l])++r=P++c++l::r by simp] at ih;exact⟨ih.1,ih.2.1,Nat.lt_of_succ_lt ih.2.2⟩
end
section
theorem vT:∀(r c:List LineS) (g:List LineS),g∈fD c r->g.length≠0/\∀l∈g,l∈c\/l∈r
 |[],c,g,h=>by
  rw[fD] at h;split at h
  ·cases h
  ·obtain rfl:=List.mem_singleton.1 h;exact⟨by assumption,λl hl=>.inl hl⟩
 |x::r,c,g,h=>by
  rw[fD] at h;split at h
  ·rcases List.mem_cons.1 h with rfl|h
   ·refine⟨by simp,λl hl=> ?_⟩;rcases List.mem_append.1 hl with h|h
    ·exact .inl h
    ·exact .inr (List.mem_cons.2 (.inl (List.mem_singleton.1 h)))
   ·obtain⟨h1,h2⟩:=vT r [] g h;exact⟨h1,λl hl=>(h2 l hl).elim (λh=>by cases h) λh=>.inr (List.mem_cons_of_mem _ h)⟩
  ·obtain⟨h1,h2⟩:=vT r (c++[x]) g h;refine⟨h1,λl hl=> ?_⟩;rcases h2 l hl with h|h
   ·rcases List.mem_append.1 h with h|h
    ·exact .inl h
    ·exact .inr (List.mem_cons.2 (.inl (List.mem_singleton.1 h)))
   ·exact .inr (List.mem_cons_of_mem _ h)
theorem C7:∀(r c:List LineS),(fD c r).length<=r.length+(if c.length=0 then 0 else 1)/\∀g∈fD c r,g.length<=c.length+r.length
 |[],c=>by
  rw[fD];split<;>simp_all
 |x::r,c=>by
  rw[fD];split
  ·obtain⟨h1,h2⟩:=C7 r [];simp only[E_,aap] at h1 h2;refine⟨by simp only[j_];split<;>omega,λg hg=> ?_⟩;rcases List.mem_cons.1 hg with rfl|hg
   ·simp only[d_,j_,E_];omega
   ·have:=h2 g hg;simp only[j_];omega
  ·obtain⟨h1,h2⟩:=C7 r (c++[x]);have hl:(c++[x]).length=c.length+1:=by simp
   rw[hl,if_neg (Nat.succ_ne_zero _)] at h1;refine⟨by simp only[j_];split<;>omega,λg hg=> ?_⟩;have:=h2 g hg;rw[hl] at this;simp only[j_];omega
def kS (t:ω)(G:List (List LineS))(k:Nat):Nat:=if k+1<G.length then(bS (G.getD (k+1) []) 0).a else t.length
def Sj (t:ω)(G:List (List LineS)):Nat->Err
 |0=>.none
 |n+1=>match Sj t G n with
  |.none=>fY (G.getD n []) (kS t G n)
  |e=>e
def xi (t:ω)(G:List (List LineS))(n:Nat):List Crd:=(List.range n).map λi=>od (G.getD i []) (kS t G i)
section
variable {t:ω} {G:List (List LineS)}
theorem rV:∀{n:Nat},(∀j,j<n->fY (G.getD j []) (kS t G j)= .none)->Sj t G n= .none
 |0,_=>rfl
 |n+1,h=>by rw[Sj,rV λj hj=>h j a_];exact h n a_
theorem HN {k:Nat}:∀{n:Nat},k<n->(∀j,j<k->fY (G.getD j []) (kS t G j)= .none)->fY (G.getD k []) (kS t G k)≠ .none->Sj t G n=fY (G.getD k []) (kS t G k)
 |0,h,_,_=>absurd h (Uf _)
 |n+1,h,h1,h2=>by
  rw[Sj];rcases aaj k n with g|g
  ·rw[HN g h1 h2];split
   ·rename_i h3;exact absurd h3 h2
   ·rfl
  ·obtain rfl:k=n:=by omega
   rw[rV h1]
theorem Eu (n:Nat):xi t G (n+1)=xi t G n++[od (G.getD n []) (kS t G n)]:=by
 unfold xi;rw[List.range_succ,Nm];rfl
theorem Ca (n:Nat):(xi t G n).length=n:=by unfold xi;rw[C_,List.length_range]
end
def bH (t:ω):List (List LineS):=fD [] (bD t)
def mK (t:ω):Err:=match cA t with
 |.none=>if 20<(bH t).length then .errno 4 else Sj t (bH t) (bH t).length
 |x=>x
def mL (t:ω):List Crd:=match mK t with
 |.none=>xi t (bH t) (bH t).length
 |_=>[]
theorem pN (t:ω):(bH t).length<=(bD t).length/\∀g∈bH t,g.length<=(bD t).length/\g.length≠0/\∀l∈g,l∈bD t:=by
 obtain⟨h1,h2⟩:=C7 (bD t) [];refine⟨by show(fD [] (bD t)).length<=_;simpa using h1,λg hg=>⟨by have:=h2 g hg;simpa using this,(vT _ _ g hg).1,λl hl=> ?_⟩⟩;rcases(vT _ _ g hg).2 l hl with h|h
 ·cases h
 ·exact h
theorem Rx {t:ω}{L:List LineS}{e:Nat}(hb:∀l∈L,me t l)(hl:L.length<=1000000):(od L e).ok:=by
 unfold od;split
 ·refine⟨?_,λx hx=>(IN hb x hx).mono b_⟩;show(lm _ _ _).length<=1000000;rw[jv];omega
 ·exact⟨Nat.zero_le _,λx hx=>by cases hx⟩
end
section
def Crd.z:Crd:=⟨0,[]⟩
instance:Inhabited Crd:=⟨Crd.z⟩
def vC (L:List Crd)(i:Nat):AVal:=(L.getD i Crd.z).A
theorem XA {p:Crd->Prop}{l:List Crd}(h:∀x∈l,p x){k:Nat}(hk:k<l.length):p (l.getD k Crd.z):=by
 rw[f_,y_ hk];exact h _ (K_ hk)
end
section
def dA (r:Int):Int:=if 48<=r/\r<=57 then 57 else r
theorem Rd {l:ω}(h:l≠[]):Lib.decodeL l=(fw l,eY l):=by
 have h0:0<l.length:=List.length_pos_iff.2 h;unfold Lib.decodeL;rw[sQ l 0 h0,aa_];unfold fw eY;split<;>rfl
theorem Um {r:Int}(h:128<=r):∃x t,Lib.encodeRune r=x::t/\128<=x.toNat:=by
 unfold Lib.encodeRune Lib.encodeRuneZ;rw[if_neg a_];have hb:∀z:Int,128<=z->z<256->128<=(z.toNat.toUInt8).toNat:=by
  intro z h1 h2;rw[Nat.toUInt8,UInt8.toNat_ofNat_of_lt' (by simp;omega)];omega
 split
 ·exact⟨_,_,rfl,hb _ a_ a_⟩
 ·split
  ·exact⟨_,_,rfl,hb _ a_ a_⟩
  ·split
   ·exact⟨_,_,rfl,hb _ a_ a_⟩
   ·exact⟨_,_,rfl,hb _ a_ a_⟩
theorem Ul {r:Int}(h0:0<=r)(h:r<128):Lib.encodeRune r=[UInt8.ofNat r.toNat]:=by
 unfold Lib.encodeRune;rw[Lib.encodeRuneZ_one h0 a_];rfl
theorem Es (x:UInt8)(l:ω):aP (x::l)=UInt8.ofNat (fV x.toNat)::aP l:=rfl
theorem KJ:∀(n:Nat) (l u:ω),l.length<=n->(∀c∈u,c.toNat<128)->(Lib.mapD dA l=u↔aP l=u)
 |n,[],u,_,_=>by
  have e:Lib.mapD dA []=[]:=rfl;rw[e]
  exact Iff.rfl
 |0,x::l,u,h,_=>by simp at h
 |n+1,x::l,u,h,hu=>by
  have hne:x::l≠[]:=by simp
  have hr:=tD (x::l) (by simp)
  have hx:aa (x::l) 0=x.toNat:=rfl
  rw[Lib.mapD_step dA (x::l) hne,Rd hne]
  dsimp only
  by_cases h1:(fw (x::l):Int)<128
  ·obtain⟨h2,h3⟩:=hr.2.2.2.1 h1
   rw[hx] at h3
   have e1:dA (fw (x::l):Int)=(fV x.toNat:Int):=by
    rw[<-h3]
    unfold dA fV
    split<;>split<;>omega
   have h4:fV x.toNat<128:=by unfold fV;split<;>omega
   rw[if_pos (by rw[e1];omega),e1,Ul a_ a_,h2,aab,aa_,B_,Es,List.singleton_append]
   cases u with
   |nil=>simp
   |cons y t=>
    have ih:=KJ n l t (by simpa using h) (λc hc=>hu c (List.mem_cons_of_mem _ hc))
    simp only[o_,ih]
  ·have h5:=hr.2.2.2.2 a_ 0 hr.2.1
   rw[hx] at h5
   have e1:dA (fw (x::l):Int)=fw (x::l):=by unfold dA;rw[if_neg a_]
   obtain⟨y,t,e2,h6⟩:=Um (r:=(fw (x::l):Int)) a_
   rw[if_pos (by rw[e1];omega),e1,e2,Es]
   have e3:fV x.toNat=x.toNat:=by unfold fV;rw[if_neg a_]
   constructor
   ·rintro rfl
    have:=hu y (by simp)
    omega
   ·rintro rfl
    have:=hu (UInt8.ofNat (fV x.toNat)) (by simp)
    rw[e3,UInt8.ofNat_toNat] at this
    omega
theorem tT {l u:ω}(hu:∀c∈u,c.toNat<128):Lib.mapD dA l=u↔aP l=u:=KJ l.length l u (Nat.le_refl _) hu
end
section
theorem Tryz.own:ownKnob prog.godebug=none:=by kernel_rfl
def cj (W:World)(k:Nat):Seal:=λb=>if b<k then W.heap[b]? else none
theorem B9 (W:World)(k:Nat):fh (cj W k) W:=by
 intro b o h;unfold cj at h;split at h
 ·exact h
 ·cases h
theorem Ft (W:World)(R:Seal)(G:Glo)(hG:G.p R)(hs:fh R W):MS ⟨W,R,eR [],G,hG,[]⟩ R [] W:=
 ⟨hs,Seal.le_refl R,λ_ hb=>.inl hb,⟨λ_ h=>absurd h t_,List.nodup_nil,λ_ h=>absurd h t_⟩,λ_ h=>absurd h t_,NP.refl W _⟩
theorem ym {W W':World}(h:NP W [] W')(may:MemPlace->Prop):W.keptBut W' may:=by
 refine⟨h.os,h.output,λi hi=> ?_⟩;rw[h.block i hi (by simp)];generalize W.heap[i]? =o
 cases o with
 |none=>rfl
 |some o=>
  cases o with
  |cells c t fr=>exact⟨rfl,rfl,rfl,λ_ _=>rfl⟩
  |map es clock=>exact .inr ⟨rfl,rfl⟩
  |_=>rfl
theorem TQ {P:Program}{G:Glo}{f:FuncId}{avs:List AVal}{c:Bool}{args:Array Value}{W:World}{R:Seal}(hs:ai P G f avs (.bool c))(hc:(callFunc f args).run P W= .ok (.enter f args) W)
  (hG:G.p R) (hR:fh R W) (ha:dy R avs args.toList):Calls P f args W λe W'=>e= .returned (.bool c)/\∀may,W.keptBut W' may:=by
 rcases hs R W args hG (Ft W R G hG hR) ha with⟨_,h⟩|⟨v,w',h,_⟩
 ·refine h.mono λe W' ⟨res,H',R',⟨hr,hH⟩,he,hm⟩=> ?_;subst hr;obtain⟨x,rfl,hx⟩:=he;refine⟨by rw[aO.1 hx],λmay=>ym hm.ext may⟩
 ·rw[hc] at h;cases h
theorem FL {x:ByteArray}(h:x.size<=maxLen):x.data.toList.length<=9223372036854775807:=by
 have:x.data.toList.length=x.size:=by cases x;rfl
 rw[this];exact h
end
section
theorem wH {P:Program}{w:World}{n:String}{g:Nat}{cs:Array Value}(hg:P.globalNamed n=some g)(hv:w.var? P n=some cs):∃e fz,w.heap[g]? =some (.cells cs e fz):=by
 simp only[World.var?,hg,Option.bind_some] at hv;split at hv
 ·rename_i c e fz hh;cases hv;exact⟨_,_,hh⟩
 ·cases hv
def Vu (L:List (Nat×List AVal)):Glo:=⟨λR=>∀x,x∈L->dR R x.1 0 x.2,λ_ _ hle h x hx=>by
 obtain⟨C,e,fz,h1,h2⟩:=h x hx;exact⟨C,e,fz,hle _ _ h1,ec hle _ _ h2⟩⟩
theorem yH:∀(L:List (Nat×List AVal)) {g:Nat} {cs:List AVal},ph L g=some cs->(g,cs)∈L
 |[],_,_,h=>by simp[ph] at h
 |(k,c)::r,g,cs,h=>by
  unfold ph at h;split at h
  ·rename_i e;obtain rfl:=m_ e;cases h;exact z_
  ·exact List.mem_cons_of_mem _ (yH r h)
theorem qh {L L':List (Nat×List AVal)}(h:∀x,x∈L'->x∈L):ab (Vu L) L':=λg cs hg R hR=>hR (g,cs) (h _ (yH L' hg))
theorem jo {W:World}{k g:Nat}{C:Array Value}{e:TypeId}{fz:Nat×Nat}{cs:List AVal}(hk:g<k)(hW:W.heap[g]? =some (.cells C e fz))(h:cb (cj W k) cs (C.toList.take cs.length)):dR (cj W k) g 0 cs:=
 ⟨C,e,fz,by unfold cj;rw[if_pos hk];exact hW,by rw[aa_];exact h⟩
theorem xr:∀ty,ty<prog.types.size->prog.rowNamed ty [101,114,114,111,114]=true->ty=29:=by
 have h:((List.range prog.types.size).all λty=> !prog.rowNamed ty [101,114,114,111,114]||Nat.beq ty 29)=true:=by kernel_rfl
 intro ty h1 h2;have:=List.all_eq_true.1 h ty (List.mem_range.2 h1);rw[h2] at this;exact m_ (by simpa using this)
theorem Jf {W:World}{k:Nat}(hk:0<k){laid:List (String×DataW Unit)}(hL:laidMetH prog laid W)(hm:("errors.errorType",Rows.laid_errors_errorType)∈laid):dR (cj W k) 0 0 [rty 29]:=by
 have h:=(laidMetH_iff.1 hL).2 _ (List.mem_filter.2 ⟨hm,be⟩)
 have h:∃name u ty,(Rows.laid_errors_errorType (H:=Unit)).handleName? =some name∧(prog.cutTypes.find? (·.1== "internal/reflectlite.rtype")).map (·.2)=some u∧ty<prog.types.size∧prog.rowNamed ty name=true∧
   W.var? prog "errors.errorType" =some #[.iface u (.agg #[typeHandle prog ty])]:=h
 obtain⟨name,u,ty,h1,h2,h3,h4,h5⟩:=h
 obtain rfl:[101,114,114,111,114]=name:=Option.some.inj ((show(Rows.laid_errors_errorType (H:=Unit)).handleName? =some [101,114,114,111,114] by kernel_rfl).symm.trans h1)
 obtain rfl:245=u:=Option.some.inj ((show(prog.cutTypes.find? (·.1== "internal/reflectlite.rtype")).map (·.2)=some 245 by kernel_rfl).symm.trans h2)
 obtain rfl:=xr ty h3 h4
 obtain⟨e,fz,hh⟩:=wH (show prog.globalNamed "errors.errorType" =some 0 by kernel_rfl) h5
 exact jo hk hh ⟨_,_,rfl,(sa _).1,rfl⟩
noncomputable def mA (os:Os):World:=
 let w0:=World.holding prog os ⟨#[],#[],[]⟩
 { w0 with heap:=w0.heap.modify 0 fun
   |.cells _ t frozen=>.cells #[.iface 245 (.agg #[ke 29])] t frozen
   |o=>o}
def kc (laid:List (String×DataW Unit)):List (String×DataW Unit):=laid.filter λx=>x.2.handleName?.isNone
noncomputable def j3 (os:Os)(laid:List (String×DataW Unit)):World:=(mA os).layVars prog (kc laid)
theorem zZ (os:Os)(laid:List (String×DataW Unit)):(j3 os laid).os=os:=World.layVars_os _ _ _
theorem yE {os:Os}{laid:List (String×DataW Unit)}(args:Array Value)(hf:(mA os).layFits prog (kc laid) []=true)(hi:(mA os).layIfaces prog (kc laid) (j3 os laid)=true)
  (hh:((laid.filter λx=>x.2.handleName?.isSome).all (handleAtB prog ((j3 os laid).forCall (λ_ _=>0) ⟨#[],args,[]⟩).memory))=true):
  laidMetH prog laid ((j3 os laid).forCall (λ_ _=>0) ⟨#[],args,[]⟩).memory:=by
 refine laidMetH_of_parts ?_ hh;have e1:((kc laid).filter λx=>((kc laid).map (·.1)).contains x.1)=kc laid:=List.filter_eq_self.2 λx hx=>List.contains_iff_mem.2 (List.mem_map.2 ⟨x,hx,rfl⟩);have e2:((kc laid).filter λx=> !((kc laid).map (·.1)).contains x.1)=[]:=List.filter_eq_nil_iff.2 λx hx=>by rw[List.contains_iff_mem.2 (List.mem_map.2 ⟨x,hx,rfl⟩)];simp
 have h:laidMet prog (kc laid) (j3 os laid):=laidMet_layVars (w0:=mA os) ((kc laid).map (·.1)) [] (by rw[e1];rfl) (by rw[e1];exact hf) (by rw[e1];exact hi) (by rw[e2];exact LaidIn.none);exact h.of_heap (by simp[World.memory,World.forCall,Input.heap])
theorem Xk {W:World}{laid:List (String×DataW Unit)}(hL:laidMetH prog laid W)(hm:("errors.errorType",Rows.laid_errors_errorType)∈laid):0<W.heap.size:=by
 have h:=(laidMetH_iff.1 hL).2 _ (List.mem_filter.2 ⟨hm,be⟩)
 obtain⟨name,u,ty,h1,h2,h3,h4,h5⟩:=h
 obtain⟨e,fz,hh⟩:=wH (show prog.globalNamed "errors.errorType" =some 0 by kernel_rfl) h5
 exact(Array.getElem?_eq_some_iff.1 hh).1
end
section
theorem zx {R:Seal}{w W:World}(hs:fh R w)(hb:Below w.heap.size w W):fh R W:=λb o h=>by
 have h1:=hs b o h;rw[hb.block b ((Array.getElem?_eq_some_iff.1 h1).1)];exact h1
theorem QO (c:Nat)(h:c<256):firstTab[c]? =some (.int .u8 (Lib.firstT c)):=by
 have:=uV c h;rwa [Nat.mul_one] at this
theorem R8 (i:Nat)(h:i<16):acceptTab[2*i]? =some (.int .u8 (Lib.accLo i))/\acceptTab[2*i+1]? =some (.int .u8 (Lib.accHi i)):=by
 match i,h with
 |0,_=>exact⟨rfl,rfl⟩
 |1,_=>exact⟨rfl,rfl⟩
 |2,_=>exact⟨rfl,rfl⟩
 |3,_=>exact⟨rfl,rfl⟩
 |4,_=>exact⟨rfl,rfl⟩
 |5,_=>exact⟨rfl,rfl⟩
 |6,_=>exact⟨rfl,rfl⟩
 |7,_=>exact⟨rfl,rfl⟩
 |8,_=>exact⟨rfl,rfl⟩
 |9,_=>exact⟨rfl,rfl⟩
 |10,_=>exact⟨rfl,rfl⟩
 |11,_=>exact⟨rfl,rfl⟩
 |12,_=>exact⟨rfl,rfl⟩
 |13,_=>exact⟨rfl,rfl⟩
 |14,_=>exact⟨rfl,rfl⟩
 |15,_=>exact⟨rfl,rfl⟩
 |n+16,h=>exact absurd h a_
theorem Oi {G:Glo}(hU:ab G utfTy){R:Seal}{w:World}(hG:G.p R)(hs:fh R w):Lib.Utf8Tabs 6 7 w:=by
 have h1:dR R 6 0 firstTab:=hU _ _ rfl R hG;have h2:dR R 7 0 acceptTab:=hU _ _ rfl R hG
 refine⟨λc hc=> ?_,λi hi=>⟨?_,?_⟩⟩
 ·obtain⟨v,hv,hr⟩:=h1.cell hs (QO c hc)
  rw[Nat.zero_add] at hv
  rw[hv,ap.1 (cT hr rfl)]
 ·obtain⟨v,hv,hr⟩:=h2.cell hs (R8 i hi).1
  rw[Nat.zero_add] at hv
  rw[hv,ap.1 (cT hr rfl)]
 ·obtain⟨v,hv,hr⟩:=h2.cell hs (R8 i hi).2
  rw[Nat.zero_add] at hv
  rw[hv,ap.1 (cT hr rfl)]
theorem IH {P:Program}{G:Glo}{f:FuncId}{avs:List AVal}{k:IntKind}{c:Int}{args:Array Value}{W:World}{R:Seal}(hs:ai P G f avs (.int k c))(hc:(callFunc f args).run P W= .ok (.enter f args) W)
  (hG:G.p R) (hR:fh R W) (ha:dy R avs args.toList):Calls P f args W λe W'=>e= .returned (.int k c)/\Go.RowKit.Below W.heap.size W W':=by
 rcases hs R W args hG (Ft W R G hG hR) ha with⟨_,h⟩|⟨v,w',h,_⟩
 ·refine h.mono λe W' ⟨res,H',R',⟨hr,hH⟩,he,hm⟩=> ?_;subst hr;obtain⟨x,rfl,hx⟩:=he;exact⟨by rw[ap.1 hx],⟨hm.ext.os,hm.ext.tape,hm.ext.output,hm.ext.size,λk hk=>hm.ext.block k hk (λh=>absurd h t_)⟩⟩
 ·rw[hc] at h;cases h
theorem Ek {G:Glo}(hU:ab G utfTy)(f:Int->Int)(g:Nat)(s:ω)(hl:s.length<=1000000)(hg:∀r:Nat,r<=1114111->ai prog G g [.int .i32 (r:Int)] (.int .i32 (f r)))(hf:∀x:Nat,x<=1114111-> -2147483648<=f x/\f x<=2147483647)
  (hc:∀args w,(callFunc g args).run prog w= .ok (.enter g args) w):ai prog G 62 [.func (.func g) [] [],.str s] (.str (Lib.mapD f s)):=by
 refine bO rfl call62 ?_;rintro R args ⟨x,t,e,hx,y,t',e',hy,rfl⟩ w hG hs;have hx0:=hx;obtain⟨⟨xa,xb,ex,r1,r2⟩,hx2⟩:=hx0;obtain rfl:=aD.1 hy;have hxv:x= .func (.func g) #[] #[]:=by
  cases x<;>first|(simp[Value.cells] at ex;done)|skip
  all_goals (try (simp[dc,AVal.isAgg] at hx2;done))
  simp only[Value.cells,o_,and_true,Value.func.injEq] at ex;obtain⟨e1,e2,e3⟩:=ex;have h1:xa.toList=[]:=r1;have h2:xb.toList=[]:=r2;rw[Array.toList_eq_nil_iff] at h1 h2;rw[e1,e2,e3,h1,h2]
 subst hxv;subst e';obtain rfl:=fR e;refine(strings_Map_grows g #[] hc f ⟨s.toArray⟩ w (by rw[bM];omega) ?_ hf (Oi hU hG hs)).mono ?_
 ·intro W r hr hb;exact(IH (hg r hr) (hc _ _) hG (zx hs hb) ⟨_,_,rfl,ap.2 rfl,rfl⟩).mono λe w' h=>h
 ·rintro e w' ⟨rfl,hb⟩;exact⟨by simp[AVal.conc],hb⟩
end
section
theorem bh {s u:ω}{i:Nat}(h:aP s=u)(hi:i<u.length)(h57:aa u i=57):48<=aa s i/\aa s i<=57:=gm.1 (((eq h).2 i hi).trans h57)
theorem kU {s:ω}{a b i:Nat}(h:i<b-a):aa ((s.take b).drop a) i=aa s (a+i):=by
 rw[cW,ir a_]
attribute [local irreducible] bJ au aa ax aR ab ad aP dA
theorem u5 {G:Glo}(s:ω)(hl:s.length=2)(h0:48<=aa s 0/\aa s 0<=57)(h1:48<=aa s 1/\aa s 1<=57):ai prog G 202 [.str s] (.tuple [.int .i64 (dx s 0),.bool true]):=by
 refine aw func202 call202 λC hC hGL=> ?_;refine aH ?_;refine rds hC hGL 3 ?_;refine xw ?_;repeat' first|exact .n|apply Lc.mk
 all_goals intros
 all_goals try (exfalso;simp only[Nat.zero_add,Nat.reduceAdd] at*;omega)
 apply aj;unfold dx bU;simp only[Nat.zero_add,Nat.reduceAdd] at*
 congr 3
 omega
theorem tj {G:Glo}(s:ω)(hl:s.length=4)(h0:48<=aa s 0/\aa s 0<=57)(h1:48<=aa s 1/\aa s 1<=57)(h2:48<=aa s 2/\aa s 2<=57)(h3:48<=aa s 3/\aa s 3<=57):ai prog G 202 [.str s] (.tuple [.int .i64 (kF s 0),.bool true]):=by
 refine aw func202 call202 λC hC hGL=> ?_;refine aH ?_;refine rds hC hGL 5 ?_;refine xw ?_;repeat' first|exact .n|apply Lc.mk
 all_goals intros
 all_goals try (exfalso;simp only[Nat.zero_add,Nat.reduceAdd] at*;omega)
 apply aj;unfold kF bU;simp only[Nat.zero_add,Nat.reduceAdd] at*
 congr 3
 omega
theorem DY {G:Glo}(r:Nat)(h:r<=1114111):ai prog G 230 [.int .i32 (r:Int)] (.int .i32 (dA r)):=by
 refine aw func230 call230 λC hC hGL=> ?_;refine xw ?_;repeat' first|exact .n|apply Lc.mk
 all_goals intros
 all_goals (apply aj;refine congrArg (AVal.int .i32) ?_;unfold dA;split<;>omega)
theorem wE {G:Glo}(hU:ab G utfTy)(s:ω)(hl:s.length<=1000000):ai prog G 201 [.str s] (.str (Lib.mapD dA s)):=by
 have k1:=Ek (G:=G) hU dA 230 s hl (λr hr=>DY r hr) (λx hx=>by unfold dA;split<;>omega) call230;refine aw func201 call201 λC hC hGL=> ?_;exact bq
end
section
def dL (k i:Nat):Int:=([[-1, -1, -1],[0, -1, -1],[0,5, -1],[0,4,6],[-1,2, -1],[-1,2,4],[-1, -1,3]].getD k [0,0,0]).getD i 0
def dV (k:Nat)(s:ω)(i:Nat):Int:=if i=0 then dY k s else if i=1 then dM k s else dD k s
def dW (i:Nat):Int:=if i=0 then 4 else 2
def cL (k i:Nat):Int:=([[0,0,0],[0, -1, -1],[0,2, -1],[0,2,4],[-1,1, -1],[-1,1,3],[-1, -1,2]].getD k [0,0,0]).getD i 0
def cV (k:Nat)(s:ω)(i:Nat):Int:=if i=0 then cH k s else if i=1 then cI k s else cS k s
def Dt (d:ω):Nat:=if aP d=aX 1 then 1 else if aP d=aX 2 then 2 else if aP d=aX 3 then 3 else if aP d=aX 4 then 4 else if aP d=aX 5 then 5 else if aP d=aX 6 then 6 else 7
theorem JA {d:ω}{k:Nat}(h1:1<=k)(hk:k<=6)(h:aP d=aX k):Dt d=k:=by
  unfold Dt
  (repeat' split)
  all_goals first
    |(rename_i e;exact(LD h1 hk b_ b_ (h.symm.trans e)).symm)
    | (exfalso
       rcases(show k=1\/k=2\/k=3\/k=4\/k=5\/k=6 by omega) with rfl|rfl|rfl|rfl|rfl|rfl<;>contradiction)
theorem RH {d:ω}(h:∀k,1<=k->k<=6->aP d≠aX k):Dt d=7:=by
 unfold Dt;rw[if_neg (h 1 b_ b_),if_neg (h 2 b_ b_),if_neg (h 3 b_ b_),if_neg (h 4 b_ b_),if_neg (h 5 b_ b_),if_neg (h 6 b_ b_)]
theorem BF (d:ω):(Dt d=7/\∀k,1<=k->k<=6->aP d≠aX k)\/∃k,1<=k/\k<=6/\Dt d=k/\aP d=aX k:=by
 by_cases h:∃k,1<=k/\k<=6/\aP d=aX k
 ·obtain⟨k,h1,h2,h3⟩:=h;exact .inr ⟨k,h1,h2,JA h1 h2 h3,h3⟩
 ·have h:∀k,1<=k->k<=6->aP d≠aX k:=λk h1 h2 h3=>h ⟨k,h1,h2,h3⟩;exact .inl ⟨RH h,h⟩
theorem Nn (d:ω):(mF d=7/\∀k,k<=6->aP d≠bT k)\/∃k,k<=6/\mF d=k/\aP d=bT k:=by
 by_cases h:∃k,k<=6/\aP d=bT k
 ·obtain⟨k,h2,h3⟩:=h;exact .inr ⟨k,h2,yV h2 h3,h3⟩
 ·have h:∀k,k<=6->aP d≠bT k:=λk h2 h3=>h ⟨k,h2,h3⟩;exact .inl ⟨Jn h,h⟩
theorem Ow {s:ω}{a b:Nat}(h:b=a+2):dx ((s.take b).drop a) 0=dx s a:=by
 subst h;unfold dx bU;rw[kU a_,kU a_];simp only[Nat.add_zero,Nat.zero_add]
theorem M1 {s:ω}{a b:Nat}(h:b=a+4):kF ((s.take b).drop a) 0=kF s a:=by
 subst h;unfold kF bU;rw[kU a_,kU a_,kU a_,kU a_];simp only[Nat.add_zero,Nat.zero_add]
theorem KD {G:Glo}{s u:ω}(h:aP s=u)(a b:Nat)(hb:b=a+2)(hl:b<=u.length)(h0:aa u a=57)(h1:aa u (a+1)=57):ai prog G 202 [.str ((s.take b).drop a)] (.tuple [.int .i64 (dx s a),.bool true]):=by
 have hsl:=(eq h).1;have:=u5 (G:=G) ((s.take b).drop a) (by rw[k_,i_];omega) (by rw[kU a_];exact bh h a_ h0) (by rw[kU a_];exact bh h a_ h1);rwa [Ow hb] at this
theorem PK {G:Glo}{s u:ω}(h:aP s=u)(a b:Nat)(hb:b=a+4)(hl:b<=u.length)(h0:aa u a=57)(h1:aa u (a+1)=57)(h2:aa u (a+2)=57)(h3:aa u (a+3)=57):ai prog G 202 [.str ((s.take b).drop a)] (.tuple [.int .i64 (kF s a),.bool true]):=by
 have hsl:=(eq h).1;have:=tj (G:=G) ((s.take b).drop a) (by rw[k_,i_];omega) (by rw[kU a_];exact bh h a_ h0) (by rw[kU a_];exact bh h a_ h1) (by rw[kU a_];exact bh h a_ h2) (by rw[kU a_];exact bh h a_ h3);rwa [M1 hb] at this
def VN (G:Glo)(s:ω)(l w v:Int):Prop:=(l<0/\v= -1)\/(0<=l/\0<=l+w/\l<=l+w/\l+w<=s.length/\ai prog G 202 [.str ((s.take (l+w).toNat).drop l.toNat)] (.tuple [.int .i64 v,.bool true]))
theorem yS {G:Glo}{s:ω}{k:Nat}(hk:k<=6)(h:aP s=bT k):∀i,i<3->VN G s (dL k i) (dW i) (dV k s i):=by
 have hl:=(eq h).1;intro i hi;rcases(show k=0\/k=1\/k=2\/k=3\/k=4\/k=5\/k=6 by omega) with rfl|rfl|rfl|rfl|rfl|rfl|rfl<;>rcases(show i=0\/i=1\/i=2 by omega) with rfl|rfl|rfl
 all_goals first
  |exact .inl ⟨b_,rfl⟩
  |exact .inr ⟨b_,b_,b_,by rw[hl];decide,PK h _ _ b_ b_ b_ b_ b_ b_⟩
  |exact .inr ⟨b_,b_,b_,by rw[hl];decide,KD h _ _ b_ b_ b_ b_⟩
theorem uu {G:Glo}{s:ω}{k:Nat}(h1:1<=k)(hk:k<=6)(h:aP s=aX k):∀i,i<3->VN G s (cL k i) 2 (cV k s i):=by
 have hl:=(eq h).1;intro i hi;rcases(show k=1\/k=2\/k=3\/k=4\/k=5\/k=6 by omega) with rfl|rfl|rfl|rfl|rfl|rfl<;>rcases(show i=0\/i=1\/i=2 by omega) with rfl|rfl|rfl
 all_goals first
  |exact .inl ⟨b_,rfl⟩
  |exact .inr ⟨b_,b_,b_,by rw[hl];decide,KD h _ _ b_ b_ b_ b_⟩
theorem KI {s u:ω}(hu:∀c∈u,c.toNat<128)(h:Lib.mapD dA s=u):aP s=u:=(tT hu).1 h
theorem Ls:∀k,k<=6->∀c∈bT k,c.toNat<128:=by
 intro k hk;rcases(show k=0\/k=1\/k=2\/k=3\/k=4\/k=5\/k=6 by omega) with rfl|rfl|rfl|rfl|rfl|rfl|rfl<;>decide
theorem Rz:∀k,k<=6->∀c∈aX k,c.toNat<128:=by
 intro k hk;rcases(show k=0\/k=1\/k=2\/k=3\/k=4\/k=5\/k=6 by omega) with rfl|rfl|rfl|rfl|rfl|rfl|rfl<;>decide
theorem oc {s:ω}(k:Nat)(hk:k<=6)(h:Lib.mapD dA s=bT k):k=mF s:=(yV hk (KI (Ls k hk) h)).symm
theorem qp {s:ω}(k:Nat)(h1:1<=k)(hk:k<=6)(h:Lib.mapD dA s=aX k):k=Dt s:=(JA h1 hk (KI (Rz k hk) h)).symm
theorem Ri {s:ω}(h:(Lib.mapD dA s).length=0):0=mF s:=oc 0 b_ (s_ h)
theorem Rh {s:ω}(g0:(Lib.mapD dA s).length≠0)(h1:Lib.mapD dA s≠bT 1)(h2:Lib.mapD dA s≠bT 2)(h3:Lib.mapD dA s≠bT 3)(h4:Lib.mapD dA s≠bT 4)(h5:Lib.mapD dA s≠bT 5)(h6:Lib.mapD dA s≠bT 6):7=mF s:=by
 have h0:Lib.mapD dA s≠bT 0:=λh=>g0 (by rw[h];rfl);refine(Jn λk hk h=> ?_).symm
 have h:=(tT (Ls k hk)).2 h
 rcases(show k=0\/k=1\/k=2\/k=3\/k=4\/k=5\/k=6 by omega) with rfl|rfl|rfl|rfl|rfl|rfl|rfl<;>contradiction
theorem RI {s:ω}(h1:Lib.mapD dA s≠aX 1)(h2:Lib.mapD dA s≠aX 2)(h3:Lib.mapD dA s≠aX 3)(h4:Lib.mapD dA s≠aX 4)(h5:Lib.mapD dA s≠aX 5)(h6:Lib.mapD dA s≠aX 6):7=Dt s:=by
 refine(RH λk g1 hk h=> ?_).symm;have h:=(tT (Rz k hk)).2 h;rcases(show k=1\/k=2\/k=3\/k=4\/k=5\/k=6 by omega) with rfl|rfl|rfl|rfl|rfl|rfl<;>contradiction
abbrev pW (b:Nat):Value:=.pointer (some ⟨b,0,none⟩)
abbrev pF (b o:Nat):AVal:=.own 0 (.pointer (some ⟨b,o,none⟩))
abbrev ja (b:Nat)(y m d h i s:Int)(z:Bool)(o:Int):HEnt:=.cells b (some 61) [.int .i64 y,.int .i64 m,.int .i64 d,.int .i64 h,.int .i64 i,.int .i64 s,.bool z,.int .i64 o]
def qO (v:Int)(i r:Nat):Int:=if i<r then v else-1
attribute [local irreducible] bJ au aa ax aR ab ad aP dA mF Dt
theorem Vs (v:Int)(i:Nat):qO v i 0= -1:=by unfold qO;rw[if_neg a_]
abbrev Sh (q:Nat)(s:ω)(l0 l1 l2:Int)(P:Nat->AVal)(k r:Nat):Env:=[(0,.str s),(6,.rop [.int .i64 l0,.int .i64 l1,.int .i64 l2] 0),(q,.list 1 3 (dH [(0,P k),(1,P (k+1)),(2,P (k+2))])),(q+1,.int .i64 3),(q+2,.int .i64 (r:Nat))]
abbrev N7:DPlan:=.take 0 (.t 1 (.t 2 (.t 3 (.t 4 (.t 5 (.t 6 (.t 7 (.t 12 (.t 13 (.b 8 (.br 9 (.b 10 (.t 11 (.b 14 (.t 15 (.t 16 (.b 17 (.t 18 (.t 19 (.t 20 (.t 21 (.b 22 .done))))))))))) (.b 10 (.b 9 (.t 11 (.b 14 (.t 15 (.t 16 (.b 17 (.t 18 (.t 19 (.t 20 (.t 21 (.b 22 .done)))))))))))))))))))))))
theorem LQ {G:Glo}(hU:ab G utfTy)(b:Nat)(s:ω)(hl:s.length<=1000000)(h i c:Int)(z:Bool)(o:Int):ad prog G 155 [.str s,.raw (pW b)] [ja b (-1) (-1) (-1) h i c z o]
  (λr H=>r= .ret (.bool (decide (mF s≠7)))/\H=[ja b (dY (mF s) s) (dM (mF s) s) (dD (mF s) s) h i c z o]):=by
 have k0:=wE (G:=G) hU s hl;have hGL:ab G []:=al
 refine lU [(1,0,pW b)] func155 call155 rfl rfl rfl rfl (by repeat (first|exact trivial|refine And.intro ⟨rfl,rfl⟩ ?_)) ?_
 intro C hC
 refine cut hC hGL [(0,.str s),(1,.own 0 (pW b))] [ja b (-1) (-1) (-1) h i c z o] True bq λ_=> ?_
 refine gr hC hGL (X:=Nat) (λbm=>[(0,.str s),(1,.own 0 (pW b)),(5,.own 1 (.map (some bm)))]) (λbm=>[ja b (-1) (-1) (-1) h i c z o,.mp bm [(.str [],.agg [.int .i64 (-1),.int .i64 (-1),.int .i64 (-1)]),(.str [57,57,57,57],.agg [.int .i64 0,.int .i64 (-1),.int .i64 (-1)]),(.str [57,57,57,57,45,57,57],.agg [.int .i64 0,.int .i64 5,.int .i64 (-1)]),(.str [57,57,57,57,57,57,57,57],.agg [.int .i64 0,.int .i64 4,.int .i64 6]),(.str [45,45,57,57],.agg [.int .i64 (-1),.int .i64 2,.int .i64 (-1)]),(.str [45,45,57,57,57,57],.agg [.int .i64 (-1),.int .i64 2,.int .i64 4]),(.str [45,45,45,57,57],.agg [.int .i64 (-1),.int .i64 (-1),.int .i64 3])]]) (λ_=>True) ?_ λbm _=> ?_
 ·refine aH ?_
  intro bm
  intros
  exact cy bm trivial
 refine gr hC hGL (X:=Nat×Nat) (λx=>[(0,.str s),(1,.own 0 (pW b)),(6,.own 2 (pW x.2)),(7,.bool (decide (x.1≠7)))]) (λx=>[ja b (-1) (-1) (-1) h i c z o,.mp bm [(.str [],.agg [.int .i64 (-1),.int .i64 (-1),.int .i64 (-1)]),(.str [57,57,57,57],.agg [.int .i64 0,.int .i64 (-1),.int .i64 (-1)]),(.str [57,57,57,57,45,57,57],.agg [.int .i64 0,.int .i64 5,.int .i64 (-1)]),(.str [57,57,57,57,57,57,57,57],.agg [.int .i64 0,.int .i64 4,.int .i64 6]),(.str [45,45,57,57],.agg [.int .i64 (-1),.int .i64 2,.int .i64 (-1)]),(.str [45,45,57,57,57,57],.agg [.int .i64 (-1),.int .i64 2,.int .i64 4]),(.str [45,45,45,57,57],.agg [.int .i64 (-1),.int .i64 (-1),.int .i64 3])],.cells x.2 (some 270) [.int .i64 (dL x.1 0),.int .i64 (dL x.1 1),.int .i64 (dL x.1 2)]]) (λx=>x.1=mF s) ?_ λx hx=> ?_
 ·refine xw ?_
  repeat' first|exact .n|apply Lc.mk
  all_goals intros
  all_goals first
   |exact cy (0,_) (Ri (by assumption))
   |exact cy (1,_) (oc 1 b_ (by assumption))
   |exact cy (2,_) (oc 2 b_ (by assumption))
   |exact cy (3,_) (oc 3 b_ (by assumption))
   |exact cy (4,_) (oc 4 b_ (by assumption))
   |exact cy (5,_) (oc 5 b_ (by assumption))
   |exact cy (6,_) (oc 6 b_ (by assumption))
   |exact cy (7,_) (Rh (by assumption) (by assumption) (by assumption) (by assumption) (by assumption) (by assumption) (by assumption))
 obtain⟨k,b6⟩:=x
 obtain rfl:k=mF s:=hx
 dsimp only
 rcases Nn s with⟨h7, -⟩|⟨k,hk,hk2,hk3⟩
 ·rw[h7]
  exact ar hC hGL bq
 have n0:=yS (G:=G) hk hk3 0 b_
 have n1:=yS (G:=G) hk hk3 1 b_
 have n2:=yS (G:=G) hk hk3 2 b_
 rw[hk2]
 have e7:decide (k≠7)=true:=decide_eq_true a_
 rw[e7]
 rw[show dY k s=dV k s 0 from rfl]
 rw[show dM k s=dV k s 1 from rfl]
 rw[show dD k s=dV k s 2 from rfl]
 generalize dL k 0=l0 at*
 generalize dL k 1=l1 at*
 generalize dL k 2=l2 at*
 generalize dV k s 0=v0 at*
 generalize dV k s 1=v1 at*
 generalize dV k s 2=v2 at*
 rw[show dW 0=4 from rfl] at n0
 rw[show dW 1=2 from rfl] at n1
 rw[show dW 2=2 from rfl] at n2
 refine ar hC hGL (an ?_)
 intros
 refine cD mixed hC hGL false (λ_ _=>False) (λ(_:Unit)=>[(0,.str s),(6,.own 2 (pW b6)),(37,.list 1 3 (dH [(0,pF b 0),(1,pF b 1),(2,pF b 2)])),(38,.int .i64 3),(39,.int .i64 0)]) (λ_=>[ja b (-1) (-1) (-1) h i c z o,.mp bm [(.str [],.agg [.int .i64 (-1),.int .i64 (-1),.int .i64 (-1)]),(.str [57,57,57,57],.agg [.int .i64 0,.int .i64 (-1),.int .i64 (-1)]),(.str [57,57,57,57,45,57,57],.agg [.int .i64 0,.int .i64 5,.int .i64 (-1)]),(.str [57,57,57,57,57,57,57,57],.agg [.int .i64 0,.int .i64 4,.int .i64 6]),(.str [45,45,57,57],.agg [.int .i64 (-1),.int .i64 2,.int .i64 (-1)]),(.str [45,45,57,57,57,57],.agg [.int .i64 (-1),.int .i64 2,.int .i64 4]),(.str [45,45,45,57,57],.agg [.int .i64 (-1),.int .i64 (-1),.int .i64 3])],.cells b6 (some 270) [.int .i64 l0,.int .i64 l1,.int .i64 l2]]) .p19 be xu ?_ (λ_ _ h=>h.elim)
 intro _
 refine an ?_
 refine FD (ak (az (i:=2) (k:=6) rfl rfl) (bi (e':=(Sh 37 s l0 l1 l2 (pF b) 0 0)) (h':=[ja b (-1) (-1) (-1) h i c z o]) ae (V_ _ (Ug _)))) ?_
 refine lp hC hGL (λr:Nat=>(Sh 37 s l0 l1 l2 (pF b) 0 (r:Nat))) (λr=>[ja b (qO v0 0 r) (qO v1 1 r) (qO v2 2 r) h i c z o]) (λr=>r<=3) (λr=>3-r) 0 b_ ae (by simp only[Vs]) ?_
 intro r hr
 rcases(show r=0\/r=1\/r=2\/r=3 by omega) with rfl|rfl|rfl|rfl
 ·rcases n0 with⟨g1,g2⟩|⟨g1,g2,g3,g4,g5⟩
  ·refine aH ?_
   intros
   refine cQ 1 b_ b_ ae ?_
   simp[qO,g2]
  ·refine an ?_
   intros
   refine cD mixed hC hGL false (λ_ _=>False) (λ(_:Unit)=>(Sh 37 s l0 l1 l2 (pF b) 0 (0:Nat)++[(8,.int .i64 (0:Nat))])) (λ_=>[ja b (qO v0 0 1) (qO v1 1 1) (qO v2 2 1) h i c z o]) N7 be xu ?_ (λ_ _ h=>h.elim)
   ·intro _
    refine aH ?_
    intros
    exact cQ 1 b_ b_ ae rfl
 ·rcases n1 with⟨g1,g2⟩|⟨g1,g2,g3,g4,g5⟩
  ·refine aH ?_
   intros
   refine cQ 2 b_ b_ ae ?_
   simp[qO,g2]
  ·refine an ?_
   intros
   refine cD mixed hC hGL false (λ_ _=>False) (λ(_:Unit)=>(Sh 37 s l0 l1 l2 (pF b) 0 (1:Nat)++[(8,.int .i64 (1:Nat))])) (λ_=>[ja b (qO v0 0 2) (qO v1 1 2) (qO v2 2 2) h i c z o]) N7 be xu ?_ (λ_ _ h=>h.elim)
   ·intro _
    refine aH ?_
    intros
    exact cQ 2 b_ b_ ae rfl
 ·rcases n2 with⟨g1,g2⟩|⟨g1,g2,g3,g4,g5⟩
  ·refine aH ?_
   intros
   refine cQ 3 b_ b_ ae ?_
   simp[qO,g2]
  ·refine an ?_
   intros
   refine cD mixed hC hGL false (λ_ _=>False) (λ(_:Unit)=>(Sh 37 s l0 l1 l2 (pF b) 0 (2:Nat)++[(8,.int .i64 (2:Nat))])) (λ_=>[ja b (qO v0 0 3) (qO v1 1 3) (qO v2 2 3) h i c z o]) N7 be xu ?_ (λ_ _ h=>h.elim)
   ·intro _
    refine aH ?_
    intros
    exact cQ 3 b_ b_ ae rfl
 ·exact bq
theorem Hj {G:Glo}(hU:ab G utfTy)(b:Nat)(s:ω)(hl:s.length<=1000000)(y m d:Int)(z:Bool)(o:Int):ad prog G 157 [.str s,.raw (pW b)] [ja b y m d (-1) (-1) (-1) z o]
  (λr H=>r= .ret (.bool (decide (Dt s≠7)))/\H=[ja b y m d (cH (Dt s) s) (cI (Dt s) s) (cS (Dt s) s) z o]):=by
 have k0:=wE (G:=G) hU s hl;have hGL:ab G []:=al;refine lU [(1,0,pW b)] func157 call157 rfl rfl rfl rfl (by repeat (first|exact trivial|refine And.intro ⟨rfl,rfl⟩ ?_)) ?_;intro C hC;refine cut hC hGL [(0,.str s),(1,.own 0 (pW b))] [ja b y m d (-1) (-1) (-1) z o] True bq λ_=> ?_;refine gr hC hGL (X:=Nat) (λbm=>[(0,.str s),(1,.own 0 (pW b)),(5,.own 1 (.map (some bm)))]) (λbm=>[ja b y m d (-1) (-1) (-1) z o,.mp bm [(.str [57,57],.agg [.int .i64 0,.int .i64 (-1),.int .i64 (-1)]),(.str [57,57,57,57],.agg [.int .i64 0,.int .i64 2,.int .i64 (-1)]),(.str [57,57,57,57,57,57],.agg [.int .i64 0,.int .i64 2,.int .i64 4]),(.str [45,57,57],.agg [.int .i64 (-1),.int .i64 1,.int .i64 (-1)]),(.str [45,57,57,57,57],.agg [.int .i64 (-1),.int .i64 1,.int .i64 3]),(.str [45,45,57,57],.agg [.int .i64 (-1),.int .i64 (-1),.int .i64 2])]]) (λ_=>True) ?_ λbm _=> ?_
 ·refine aH ?_;intro bm;intros;exact cy bm trivial
 refine gr hC hGL (X:=Nat×Nat) (λx=>[(0,.str s),(1,.own 0 (pW b)),(6,.own 2 (pW x.2)),(7,.bool (decide (x.1≠7)))]) (λx=>[ja b y m d (-1) (-1) (-1) z o,.mp bm [(.str [57,57],.agg [.int .i64 0,.int .i64 (-1),.int .i64 (-1)]),(.str [57,57,57,57],.agg [.int .i64 0,.int .i64 2,.int .i64 (-1)]),(.str [57,57,57,57,57,57],.agg [.int .i64 0,.int .i64 2,.int .i64 4]),(.str [45,57,57],.agg [.int .i64 (-1),.int .i64 1,.int .i64 (-1)]),(.str [45,57,57,57,57],.agg [.int .i64 (-1),.int .i64 1,.int .i64 3]),(.str [45,45,57,57],.agg [.int .i64 (-1),.int .i64 (-1),.int .i64 2])],.cells x.2 (some 270) [.int .i64 (cL x.1 0),.int .i64 (cL x.1 1),.int .i64 (cL x.1 2)]]) (λx=>x.1=Dt s) ?_ λx hx=> ?_
 ·refine xw ?_;repeat' first|exact .n|apply Lc.mk
  all_goals intros
  all_goals first
   |exact cy (1,_) (qp 1 b_ b_ (by assumption))
   |exact cy (2,_) (qp 2 b_ b_ (by assumption))
   |exact cy (3,_) (qp 3 b_ b_ (by assumption))
   |exact cy (4,_) (qp 4 b_ b_ (by assumption))
   |exact cy (5,_) (qp 5 b_ b_ (by assumption))
   |exact cy (6,_) (qp 6 b_ b_ (by assumption))
   |exact cy (7,_) (RI (by assumption) (by assumption) (by assumption) (by assumption) (by assumption) (by assumption))
 obtain⟨k,b6⟩:=x;obtain rfl:k=Dt s:=hx;dsimp only
 rcases BF s with⟨h7, -⟩|⟨k,hk1,hk,hk2,hk3⟩
 ·rw[h7];exact ar hC hGL bq
 have n0:=uu (G:=G) hk1 hk hk3 0 b_;have n1:=uu (G:=G) hk1 hk hk3 1 b_;have n2:=uu (G:=G) hk1 hk hk3 2 b_;rw[hk2];have e7:decide (k≠7)=true:=decide_eq_true a_;rw[e7];rw[show cH k s=cV k s 0 from rfl];rw[show cI k s=cV k s 1 from rfl];rw[show cS k s=cV k s 2 from rfl];generalize cL k 0=l0 at*
 generalize cL k 1=l1 at*
 generalize cL k 2=l2 at*
 generalize cV k s 0=v0 at*
 generalize cV k s 1=v1 at*
 generalize cV k s 2=v2 at*
 refine ar hC hGL (an ?_);intros;refine cD mixed hC hGL false (λ_ _=>False) (λ(_:Unit)=>[(0,.str s),(6,.own 2 (pW b6)),(36,.list 1 3 (dH [(0,pF b 3),(1,pF b 4),(2,pF b 5)])),(37,.int .i64 3),(38,.int .i64 0)]) (λ_=>[ja b y m d (-1) (-1) (-1) z o,.mp bm [(.str [57,57],.agg [.int .i64 0,.int .i64 (-1),.int .i64 (-1)]),(.str [57,57,57,57],.agg [.int .i64 0,.int .i64 2,.int .i64 (-1)]),(.str [57,57,57,57,57,57],.agg [.int .i64 0,.int .i64 2,.int .i64 4]),(.str [45,57,57],.agg [.int .i64 (-1),.int .i64 1,.int .i64 (-1)]),(.str [45,57,57,57,57],.agg [.int .i64 (-1),.int .i64 1,.int .i64 3]),(.str [45,45,57,57],.agg [.int .i64 (-1),.int .i64 (-1),.int .i64 2])],.cells b6 (some 270) [.int .i64 l0,.int .i64 l1,.int .i64 l2]]) .p19 be xu ?_ (λ_ _ h=>h.elim);intro _;refine an ?_;refine FD (ak (az (i:=2) (k:=6) rfl rfl) (bi (e':=(Sh 36 s l0 l1 l2 (pF b) 3 0)) (h':=[ja b y m d (-1) (-1) (-1) z o]) ae (V_ _ (Ug _)))) ?_;refine lp hC hGL (λr:Nat=>(Sh 36 s l0 l1 l2 (pF b) 3 (r:Nat))) (λr=>[ja b y m d (qO v0 0 r) (qO v1 1 r) (qO v2 2 r) z o]) (λr=>r<=3) (λr=>3-r) 0 b_ ae (by simp only[Vs]) ?_;intro r hr;rcases(show r=0\/r=1\/r=2\/r=3 by omega) with rfl|rfl|rfl|rfl
 ·rcases n0 with⟨g1,g2⟩|⟨g1,g2,g3,g4,g5⟩
  ·refine aH ?_;intros;refine cQ 1 b_ b_ ae ?_;simp[qO,g2]
  ·refine an ?_;intros;refine cD mixed hC hGL false (λ_ _=>False) (λ(_:Unit)=>(Sh 36 s l0 l1 l2 (pF b) 3 (0:Nat)++[(8,.int .i64 (0:Nat))])) (λ_=>[ja b y m d (qO v0 0 1) (qO v1 1 1) (qO v2 2 1) z o]) .p12 be xu ?_ (λ_ _ h=>h.elim)
   ·intro _;refine aH ?_;intros;exact cQ 1 b_ b_ ae rfl
 ·rcases n1 with⟨g1,g2⟩|⟨g1,g2,g3,g4,g5⟩
  ·refine aH ?_;intros;refine cQ 2 b_ b_ ae ?_;simp[qO,g2]
  ·refine an ?_;intros;refine cD mixed hC hGL false (λ_ _=>False) (λ(_:Unit)=>(Sh 36 s l0 l1 l2 (pF b) 3 (1:Nat)++[(8,.int .i64 (1:Nat))])) (λ_=>[ja b y m d (qO v0 0 2) (qO v1 1 2) (qO v2 2 2) z o]) .p12 be xu ?_ (λ_ _ h=>h.elim)
   ·intro _;refine aH ?_;intros;exact cQ 2 b_ b_ ae rfl
 ·rcases n2 with⟨g1,g2⟩|⟨g1,g2,g3,g4,g5⟩
  ·refine aH ?_;intros;refine cQ 3 b_ b_ ae ?_;simp[qO,g2]
  ·refine an ?_;intros;refine cD mixed hC hGL false (λ_ _=>False) (λ(_:Unit)=>(Sh 36 s l0 l1 l2 (pF b) 3 (2:Nat)++[(8,.int .i64 (2:Nat))])) (λ_=>[ja b y m d (qO v0 0 3) (qO v1 1 3) (qO v2 2 3) z o]) .p12 be xu ?_ (λ_ _ h=>h.elim)
   ·intro _;refine aH ?_;intros;exact cQ 3 b_ b_ ae rfl
 ·exact bq
end
section
theorem U0 (t:Stm):(t.E= .none/\t.e=0)\/∃x,x≠0/\t.E= .errno x/\t.e=x:=by
 unfold Stm.E Stm.e
 (repeat' split)
 ·exact .inl ⟨rfl,rfl⟩
 ·exact .inr ⟨2,b_,rfl,rfl⟩
 ·exact .inr ⟨3,b_,rfl,rfl⟩
theorem Y5 {t:Stm}(h:t.e=0):pn t=(t,.none):=by unfold pn;rw[if_pos h]
theorem Y4 {t:Stm}{x:Int}(h:t.e=x)(hx:x≠0):pn t=(Stm.no,.errno x):=by unfold pn;rw[if_neg (by rw[h];exact hx),h]
theorem Lw {s:ω}{c:Int}(h:(fE s c).2.2=false):(fE s c).2.1=[]:=by
 unfold fE at*
 split
 ·rfl
 ·rename_i h1;rw[if_neg h1] at h;cases h
theorem GC (s:ω)(c:Int):(fE s c).1.length<=s.length/\(fE s c).2.1.length<=s.length:=by
 unfold fE;split
 ·simp
 ·simp only[i_,k_];omega
theorem U5 {d t:ω}{b:Bool}(h:mF d=7):mJ d b t=(Stm.no,.errno 3):=by unfold mJ;rw[if_pos h]
theorem U3 {d t:ω}(h:mF d≠7):mJ d false t=pn (Hm (mF d) d 0 [] []):=by unfold mJ;rw[if_neg h,if_pos rfl]
theorem N6 {d t:ω}(h:mF d≠7)(h0:oN t=0):mJ d true t=(Stm.no,.errno 3):=by unfold mJ;rw[if_neg h,if_neg b_,if_pos h0]
theorem OV:oN []=0:=by
 refine Decidable.byContradiction λh=> ?_;have g:=B6 h;have h1:=g.hn;have h2:=(Dr g.j1 g.j6).1
 rw[<-g.len] at h2
 simp at h1
 omega
theorem Sq {d t:ω}{k:Nat}(h:mF d≠7)(hk:LM t k)(hc:Dt (t.take k)=7):mJ d true t=(Stm.no,.errno 3):=by
 have hn:∀j,1<=j->j<=6->aP (t.take k)≠aX j:=λj h1 h6 e=>by
  rw[JA h1 h6 e] at hc;omega
 rcases OT hk hn with h0|⟨h0,h1,h2⟩
 ·exact N6 h h0
 ·unfold mJ;rw[if_neg h,if_neg b_,if_neg h0,if_pos ⟨λe=>by have:=congrArg List.length e;rw[k_,E_] at this;omega,by rw[h2];decide⟩,h2]
theorem Yp {d t:ω}{k j:Nat}(h:mF d≠7)(hk:LM t k)(h1:1<=j)(h6:j<=6)(hs:aP (t.take k)=aX j)(hl:k<t.length)(hz:(bN (t.drop k)).2≠0):mJ d true t=(Stm.no,.errno (bN (t.drop k)).2):=by
 obtain⟨e1,e2⟩:=Eo hk h1 h6 hs;unfold mJ;rw[if_neg h,if_neg b_,if_neg a_,e2,if_pos ⟨λe=>by have:=congrArg List.length e;rw[k_,E_] at this;omega,hz⟩]
theorem N5 {d t:ω}{k j:Nat}(h:mF d≠7)(hk:LM t k)(h1:1<=j)(h6:j<=6)(hs:aP (t.take k)=aX j)(hz:k<t.length->(bN (t.drop k)).2=0):mJ d true t=pn (Hm (mF d) d j (t.take k) (t.drop k)):=by
 obtain⟨e1,e2⟩:=Eo hk h1 h6 hs;unfold mJ;rw[if_neg h,if_neg b_,if_neg a_,e1,e2,if_neg];rintro⟨g1,g2⟩;rcases aaj k t.length with g|g
 ·exact g2 (hz g)
 ·exact g1 (List.drop_eq_nil_of_le g)
theorem N3 {i j:Nat}{d c z:ω}(h:z≠[]):Hm i d j c z=⟨dY i d,dM i d,dD i d,cH j c,cI j c,cS j c,true,(bN z).1⟩:=by
 unfold Hm;rw[if_neg h,decide_eq_true h]
theorem N4 {i j:Nat}{d c:ω}:Hm i d j c []=⟨dY i d,dM i d,dD i d,cH j c,cI j c,cS j c,false,0⟩:=rfl
theorem Hi (z:ω):(ig z= .none/\(bN z).2=0)\/∃e,e≠0/\ig z= .errno e/\(bN z).2=e:=by
 unfold ig;by_cases h:(bN z).2=0
 ·rw[if_pos h];exact .inl ⟨rfl,h⟩
 ·rw[if_neg h];exact .inr ⟨_,h,rfl,rfl⟩
def ZA (t:ω):Int:=if 0<=Lib.indexAny t [90,43] then Lib.indexAny t [90,43] else if 2<=gT t 45 t.length then gT t 45 t.length else t.length
theorem yz (t:ω):(Lib.indexAny t [90,43]= -1/\∀j,j<t.length->aa t j≠90/\aa t j≠43)\/∃m,m<t.length/\Lib.indexAny t [90,43]=(m:Int)/\(aa t m=90\/aa t m=43)/\∀j,j<m->aa t j≠90/\aa t j≠43:=by
 have key:∀j (hj:j<t.length),([90,43]:ω).contains t[j]=true↔(aa t j=90\/aa t j=43):=by
  intro j hj
  rw[bx hj,List.contains_iff_mem]
  simp only[p_,t_,or_false]
  constructor
  ·rintro(h|h)<;>rw[h]
   ·exact .inl rfl
   ·exact .inr rfl
  ·rintro(h|h)
   ·exact .inl (UInt8.toNat_inj.1 h)
   ·exact .inr (UInt8.toNat_inj.1 h)
 by_cases h:∃m,m<t.length/\(aa t m=90\/aa t m=43)/\∀j,j<m->aa t j≠90/\aa t j≠43
 ·obtain⟨m,h1,h2,h3⟩:=h
  refine .inr ⟨m,h1,?_,h2,h3⟩
  refine Lib.indexAny_hit (λj x hj hx=> ?_) (y_ h1) ((key m h1).2 h2)
  obtain⟨hj',rfl⟩:=List.getElem?_eq_some_iff.1 hx
  rw[Bool.eq_false_iff]
  intro hc
  have:=(key j hj').1 hc
  have:=h3 j hj
  omega
 ·have hn:∀n,n<=t.length->∀j,j<n->aa t j≠90/\aa t j≠43:=by
   intro n
   induction n with
   |zero=>intro _ j hj;omega
   |succ n ih=>
    intro hl j hj
    rcases aaj j n with g|g
    ·exact ih a_ j g
    ·refine Decidable.byContradiction λhc=>h ⟨n,a_,?_,ih a_⟩
     rw[show j=n by omega] at hc
     omega
  refine .inl ⟨Lib.indexAny_none λj x hj hx=> ?_,hn _ (Nat.le_refl _)⟩
  obtain⟨hj',rfl⟩:=List.getElem?_eq_some_iff.1 hx
  rw[Bool.eq_false_iff]
  intro hc
  have:=(key j hj').1 hc
  have:=hn _ (Nat.le_refl _) j hj'
  omega
theorem Yl (t:ω):∃k:Nat,ZA t=k/\LM t k:=by
 unfold ZA LM;rcases yz t with⟨h1,h2⟩|⟨m,h1,h2,h3,h4⟩
 ·rw[h1,if_neg b_];rcases uS t 45 t.length with⟨g1,g2⟩|⟨m,g1,g2,g3,g4⟩
  ·rw[g1,if_neg b_];exact⟨_,rfl,.inr ⟨h2,.inr ⟨rfl,λj _ hj=>by have:=g2 j hj;omega⟩⟩⟩
  ·rw[g2];split
   ·exact⟨m,rfl,.inr ⟨h2,.inl ⟨g1,a_,a_,λj k1 k2=>by have:=g4 j k1 k2;omega⟩⟩⟩
   ·exact⟨_,rfl,.inr ⟨h2,.inr ⟨rfl,λj k1 k2=>by have:=g4 j a_ k2;omega⟩⟩⟩
 ·rw[h2,if_pos a_];exact⟨m,rfl,.inl ⟨h1,h3,h4⟩⟩
attribute [local irreducible] bJ au aa ax aR ab ad aP dA mF Dt mJ Hm pn fE bN ig gT LM Lib.indexAny
theorem Hl {G:Glo}{m:Int}(hU:ab G utfTy)(hM:ab G (bQ m))(s:ω)(hl:s.length<=10000):ai prog G 104 [.str s] (.tuple [(Ha s).1.A,(Ha s).2.A]):=by
  have k1:ai prog G 110 [.str s,.str [84]] (.tuple [.str (fE s 84).1,.str (fE s 84).2.1,.bool (fE s 84).2.2]):=on s 84 a_;have hn:=Lw (s:=s) (c:=84);have hlen:=GC s 84;unfold Ha;generalize (fE s 84).1=d at*
  generalize (fE s 84).2.1=t at*
  generalize (fE s 84).2.2=timed at*
  have hD:=λb=>LQ (G:=G) hU b d a_ (-1) (-1) (-1) false 0;have hR:=λu=>lF (G:=G) hM u;have k2:=sw (G:=G) (a:=90) (b:=43) b_ b_ t a_;have k3:=ox (G:=G) t 45 b_ b_ a_;have hZ:=λx h=>wu (G:=G) x h;have hC4:=λb x h=>Hj (G:=G) hU b x h (dY (mF d) d) (dM (mF d) d) (dD (mF d) d) false 0;refine k7 func104 call104 λC hC hGL=> ?_;refine gr hC hGL (λb2:Nat=>[(0,.str s),(2,.own 0 (pW b2))]) (λb2=>[ja b2 0 0 0 0 0 0 false 0]) (λ_=>True) ?_ λb2 _=> ?_
  · refine aH ?_;intro b2;exact cy b2 trivial
  refine gr hC hGL (λb4:Nat=>[(0,.str s),(2,.own 0 (pW b2)),(4,.own 1 (pW b4))]) (λb4=>[ja b2 0 0 0 0 0 0 false 0,ja b4 (-1) (-1) (-1) (-1) (-1) (-1) false 0]) (λ_=>True) ?_ λb4 _=> ?_
  · refine aH ?_;intro b4;exact cy b4 trivial
  refine cut hC hGL [(2,.own 0 (pW b2)),(4,.own 1 (pW b4)),(5,.str d),(6,.str t),(7,.bool timed)] [ja b2 0 0 0 0 0 0 false 0,ja b4 (-1) (-1) (-1) (-1) (-1) (-1) false 0] True bq λ_=> ?_;refine cut hC hGL [(2,.own 0 (pW b2)),(4,.own 1 (pW b4)),(6,.str t),(7,.bool timed)] [ja b2 0 0 0 0 0 0 false 0,ja b4 (dY (mF d) d) (dM (mF d) d) (dD (mF d) d) (-1) (-1) (-1) false 0] (mF d≠7/\(timed=true->t≠[])) ?_ λhd=> ?_
  · refine aH ?_;refine aV (i:=1) rfl (hD b4) ?_;by_cases h7:mF d=7
    · rw[U5 h7,h7];exact bq
    · rw[show decide (mF d≠7)=true from decide_eq_true h7];cases timed with
      | false=>
        obtain rfl:=hn rfl;refine xw ?_;repeat' first|exact .n|apply Lc.mk
        all_goals intros
        all_goals first
          |(exfalso;rename_i wb;rw[ce.2 rfl] at wb;cases wb;done)
          |exact⟨h7,λh=>by cases h⟩
          |skip
      | true=>
        refine xw ?_;repeat' first|exact .n|apply Lc.mk
        all_goals intros
        all_goals first
          | (rename_i wb
             have e:t=[]:=ce.1 (by simpa using wb)
             subst e
             rw[N6 h7 OV]
             exact cP)
          | (rename_i wb
             exact⟨h7,λ_=>kM.1 (by simpa using wb)⟩)
          |skip
  obtain⟨h7,ht⟩:=hd;refine gr hC hGL (λ_:Stm=>[(2,.own 0 (pW b2)),(4,.own 1 (pW b4))]) (λu=>[ja b2 0 0 0 0 0 0 false 0,ja b4 u.y u.m u.d u.h u.i u.s u.z u.o]) (λu=>mJ d timed t=pn u) ?_ λu hu=> ?_
  · cases timed with
    | false=>
      refine aH ?_;intros;exact cy (Hm (mF d) d 0 [] []) (U3 h7) ae (by unfold Hm;rfl)
    | true=>
      obtain⟨k,hk,hI⟩:∃k:Nat,LM t k/\((Lib.indexAny t [90,43]=(k:Int))\/(Lib.indexAny t [90,43]= -1/\gT t 45 t.length=(k:Int)/\2<=k)\/(Lib.indexAny t [90,43]= -1/\gT t 45 t.length<2/\k=t.length)):=by
        obtain⟨k,h1,h2⟩:=Yl t;refine⟨k,h2,?_⟩;have g1:=Lib.indexAny_ge [90,43] t;unfold ZA at h1;split at h1
        · exact .inl h1
        · split at h1
          · exact .inr (.inl ⟨a_,h1,a_⟩)
          · exact .inr (.inr ⟨a_,a_,a_⟩)
      have hkl:=IK hk;have hc:=And.intro trivial (hC4 b4 (t.take k) (by rw[i_];omega));have hz:=hZ (t.drop k) (by rw[k_];omega);generalize Lib.indexAny t [90,43]=ia at*
      generalize gT t 45 t.length=ib at*
      have key:∀j,Dt (t.take k)=j->1<=j/\j<=6/\aP (t.take k)=aX j\/j=7:=by
        rintro j rfl;rcases BF (t.take k) with⟨h,_⟩|⟨j,h1,h2,h3,h4⟩
        · exact .inr h
        · rw[h3];exact .inl ⟨h1,h2,h4⟩
      generalize hj:Dt (t.take k)=j at*
      have hzc:=Hi (t.drop k);have hdr:k<t.length->t.drop k≠[]:=λh e=>by
        have:=congrArg List.length e;rw[k_,E_] at this;omega
      rcases hI with rfl|⟨rfl,rfl,hI⟩|⟨rfl,hI,hI2⟩
      all_goals (
        refine aH ?_
        intros
        try (have hI3:(t.length:Int)=(k:Int):=by omega))
      all_goals (
        try (rw[<-hI2])
        refine aV (i:=1) rfl hc.2 ?_
        rcases key j rfl with⟨j1,j6,js⟩|rfl)
      all_goals first
        | (rw[Sq h7 hk hj]
           exact bq)
        |skip
      all_goals (
        rw[show decide (j≠7)=true from decide_eq_true a_]
        by_cases hkt:k<t.length
        · first
          |(exfalso;omega)
          | (have hdr:=hdr hkt
             rcases hzc with⟨z1,z2⟩|⟨e,e0,z1,z2⟩
             · rw[z1] at hz;refine aH ?_;intros;exact cy ⟨dY (mF d) d,dM (mF d) d,dD (mF d) d,cH j (t.take k),cI j (t.take k),cS j (t.take k),true,(bN (t.drop k)).1⟩ (by rw[N5 h7 hk j1 j6 js (λ_=>z2),N3 hdr])
             · rw[z1] at hz;rw[Yp h7 hk j1 j6 js hkt (by rw[z2];exact e0),z2];exact bq)
        · have hd0:t.drop k=[]:=List.drop_eq_nil_of_le a_;refine aH ?_;intros;exact cy ⟨dY (mF d) d,dM (mF d) d,dD (mF d) d,cH j (t.take k),cI j (t.take k),cS j (t.take k),false,0⟩ (by rw[N5 h7 hk j1 j6 js (λh=>absurd h hkt),hd0,N4]))
  have hu1:mJ d timed t=pn u:=hu;have hR1:ai prog G 158 [.agg [.int .i64 u.y,.int .i64 u.m,.int .i64 u.d,.int .i64 u.h,.int .i64 u.i,.int .i64 u.s,.bool u.z,.int .i64 u.o]] u.E.A:=hR u;rw[hu1];rcases U0 u with⟨e1,e2⟩|⟨x,x0,e1,e2⟩
  · rw[e1] at hR1;rw[Y5 e2];exact ar hC hGL bq
  · rw[e1] at hR1;rw[Y4 e2 x0];exact ar hC hGL bq
end
section
abbrev i7:AVal:=.raw (.slice none 0 0)
attribute [local irreducible] bJ au aa ax aR ab ad
abbrev U9 (v:Vl)(q:AVal):AVal:=.agg [.int .i64 v.t,.str v.s,q,.int .i64 v.st.y,.int .i64 v.st.m,.int .i64 v.st.d,.int .i64 v.st.h,.int .i64 v.st.i,.int .i64 v.st.s,.bool v.st.z,.int .i64 v.st.o,.int .i64 v.n]
attribute [local irreducible] iJ fo dm zp jF kw a8 gJ dJ Ha bN ig kx FC
def Zu (s:ω)(k:Int)(r:co)(H:Heap):Prop:=
 (∃q,r= .ret (.tuple [U9 (nx s k).1 q,(nx s k).2.A])/\H=[]/\((q=i7/\(nx s k).1.L=[])\/(q= .list 1 (kw s).length (kx (kw s))/\(nx s k).1.L=kw s)))\/
 (∃g,r= .ret (.tuple [U9 (nx s k).1 (.list 1 1 g),.raw .nilIface])/\g 0= .list 1 (jF s).length (aB (jF s))/\(nx s k).1.L=[jF s]/\(nx s k).2= .none/\H=[])
theorem D1 {G:Glo}{m:Int}(hU:ab G utfTy)(hM:ab G (bQ m))(s:ω)(k:Int)(hl:s.length<=10000):ad prog G 52 [.str s,.int .i64 k] [] (Zu s k):=by
 have hH:=oB (G:=G) s false a_;refine aw func52 call52 λC hC hGL=> ?_;by_cases hk:k<1\/9<=k
 ·have e:nx s k=(Vl.no,.errno 1):=by unfold nx;rw[if_pos hk]
  unfold Zu;rw[e];refine xw ?_;repeat' first|exact .n|apply Lc.mk
  all_goals intros
  all_goals exact⟨[],Ug _,.inl ⟨i7,rfl,rfl,.inl ⟨rfl,rfl⟩⟩⟩
 cases hh:fo false s with
 |false=>
  have e:nx s k=(Vl.no,.errno 3):=by unfold nx;rw[if_neg hk,if_pos hh]
  unfold Zu;rw[e];rw[hh] at hH;refine xw ?_;repeat' first|exact .n|apply Lc.mk
  all_goals intros
  all_goals exact⟨[],Ug _,.inl ⟨i7,rfl,rfl,.inl ⟨rfl,rfl⟩⟩⟩
 |true=>
  rw[hh] at hH;have hv:nx s k=(match (om s k).2 with|.none=>om s k|e=>(Vl.no,e)):=by unfold nx;rw[if_neg hk,if_neg (by rw[hh];decide)];cases (om s k).2<;>rfl
  have h1:=zq (G:=G) s a_;have h2:=L1 (G:=G) s a_;have h3:=HA (G:=G) s a_;have h4:=Ap (G:=G) s a_;have h5:=Hl (G:=G) hU hM s a_;have h6:=wu (G:=G) s a_;have h7:=rm (G:=G) s a_;unfold Zu;rw[hv];rcases(show k=1\/k=2\/k=3\/k=4\/k=5\/k=6\/k=7\/k=8 by omega) with rfl|rfl|rfl|rfl|rfl|rfl|rfl|rfl
  all_goals simp only[om,if_pos,if_neg,Int.reduceEq,reduceIte]
  ·rcases hq:a8 s 0 with _|e|⟨e,p⟩
   all_goals
    rw[hq] at h1;simp only[Err.A,ls] at h1;refine aH ?_;intros;exact⟨[],Ug _,.inl ⟨i7,rfl,rfl,.inl ⟨rfl,rfl⟩⟩⟩
  ·rcases hq:a8 s 0 with _|e|⟨e,p⟩
   all_goals
    rw[hq] at h2;simp only[Err.A,ls] at h2;refine an ?_
    intros
    first
     |exact⟨[],Ug _,.inl ⟨i7,rfl,rfl,.inl ⟨rfl,rfl⟩⟩⟩
     |exact⟨[],Ug _,.inr ⟨_,rfl,rfl,rfl,rfl,rfl⟩⟩
  ·rcases hq:a8 s 0 with _|e|⟨e,p⟩
   all_goals
    rw[hq] at h3;simp only[Err.A,ls] at h3;refine aH ?_;intros;first
     |exact⟨[],Ug _,.inl ⟨_,rfl,rfl,.inr ⟨rfl,rfl⟩⟩⟩
     |exact⟨[],Ug _,.inl ⟨i7,rfl,rfl,.inl ⟨rfl,rfl⟩⟩⟩
  ·rcases hq:gJ s with _|e|⟨e,p⟩
   all_goals
    rw[hq] at h4;simp only[Err.A,ls] at h4;refine aH ?_;intros;exact⟨[],Ug _,.inl ⟨i7,rfl,rfl,.inl ⟨rfl,rfl⟩⟩⟩
  ·rcases hq:(Ha s).2 with _|e|⟨e,p⟩
   all_goals
    rw[hq] at h5;simp only[Err.A,ls] at h5;generalize (Ha s).1=t at*
    refine aH ?_;intros;exact⟨[],Ug _,.inl ⟨i7,rfl,rfl,.inl ⟨rfl,rfl⟩⟩⟩
  ·rcases hq:ig s with _|e|⟨e,p⟩
   all_goals
    rw[hq] at h6;simp only[Err.A,ls] at h6;refine aH ?_;intros;exact⟨[],Ug _,.inl ⟨i7,rfl,rfl,.inl ⟨rfl,rfl⟩⟩⟩
  ·rcases hq:dJ s with _|e|⟨e,p⟩
   all_goals
    rw[hq] at h7;simp only[Err.A,ls] at h7;refine aH ?_;intros;exact⟨[],Ug _,.inl ⟨i7,rfl,rfl,.inl ⟨rfl,rfl⟩⟩⟩
  ·refine aH ?_
   intros
   exact⟨[],Ug _,.inl ⟨i7,rfl,rfl,.inl ⟨rfl,trivial⟩⟩⟩
end
section
def Vl.R (v:Vl):AVal:=U9 v (.list 1 v.L.length (kx v.L))
def Zz (L:List (List ω))(q:AVal):Prop:=(q=i7/\L=[])\/q= .list 1 L.length (kx L)\/∃l g,q= .list 1 1 g/\g 0=FC l/\L=[l]
theorem vJ {v:Vl}{q B:AVal}(h:Zz v.L q):BO (.ret (.tuple [U9 v q,B])) [] (.tuple [v.R,B]):=by
 rintro C R w e' hm ⟨x,rfl,hx⟩;refine⟨R,hm,x,rfl,gL (Seal.le_refl R) hx λu hu=> ?_⟩;rcases h with⟨rfl,hL⟩|rfl|⟨l,g,rfl,hg,hL⟩
 ·have e:v.R=U9 v (.list 1 0 (kx [])):=by unfold Vl.R;rw[hL];rfl
  rw[e];exact jB (p:=2) (a':=.list 1 0 (kx [])) (Seal.le_refl R) hu rfl (λv=>lN)
 ·exact hu
 ·have e:v.R=U9 v (.list 1 1 (kx [l])):=by unfold Vl.R;rw[hL];rfl
  rw[e];refine jB (p:=2) (a':=.list 1 1 (kx [l])) (Seal.le_refl R) hu rfl (λv=>IA λi hi=> ?_);obtain rfl:i=0:=by omega
  rw[hg];rfl
theorem Ho {G:Glo}{m:Int}(hU:ab G utfTy)(hM:ab G (bQ m))(s:ω)(k:Int)(hl:s.length<=10000):ai prog G 52 [.str s,.int .i64 k] (.tuple [(nx s k).1.R,(nx s k).2.A]):=by
 refine dB (D1 hU hM s k hl) ?_;rintro r H (⟨q,rfl,rfl,⟨rfl,hL⟩|⟨rfl,hL⟩⟩|⟨g,rfl,hg,hL,he,rfl⟩)
 ·exact vJ (.inl ⟨rfl,hL⟩)
 ·exact vJ (.inr (.inl (by rw[hL])))
 ·rw[he];exact vJ (.inr (.inr ⟨jF s,g,rfl,hg,hL⟩))
end
section
theorem MA (L:List (List ω)):kx L=gX L:=by
 funext i
 rfl
def su (l:List Itm):List AVal:=l.flatMap df
theorem FT:su []=[]:=rfl
theorem Bf (l:List Itm)(x:Itm):su l++df x=su (l++[x]):=by
 unfold su;rw[List.flatMap_append,List.flatMap_singleton]
theorem KU:∀(l:List Itm) (i:Nat),i<l.length->df (l.getD i Itm.z)=((su l).drop (i*15)).take 15
 |[],i,h=>absurd h (Uf _)
 |x::l,0,_=>by
  show df x=((df x++su l).drop 0).take 15;rw[aa_,List.take_append_of_le_length (by simp)];rfl
 |x::l,i+1,h=>by
  have ih:=KU l i (by simpa using h);have e:su (x::l)=df x++su l:=rfl;rw[e,show(i+1)*15=15+i*15 by omega,<-Q_,List.drop_left' (show(df x).length=15 from rfl),List.getD_cons_succ];exact ih
theorem KT (l:List Itm):∀i,i<l.length->(dK l i).cells=((su l).drop (i*15)).take 15/\(dK l i).plain=true:=by
 intro i hi;exact⟨KU l i hi,rfl⟩
abbrev HP (v:Value)(l:List Itm):HEnt:=.row v none 15 l.length (su l)
abbrev jL (b:Nat)(v:Int)(q:AVal):HEnt:=.cells b (some 36) [.int .i64 v,q]
def XJ (c:Crd)(x:AVal)(r:co)(H:Heap):Prop:=∃q,r= .ret (.tuple [.agg [.int .i64 c.v,q],x])/\H=[]/\((q=i7/\c.l=[])\/q= .list 15 c.l.length (dK c.l))
theorem GH {c:Crd}{x:AVal}{r:co}{H:Heap}(h:XJ c x r H):BO r H (.tuple [c.A,x]):=by
 obtain⟨q,rfl,rfl,h⟩:=h;rintro C R w e' hm ⟨y,rfl,hx⟩
 refine⟨R,hm,y,rfl,gL (Seal.le_refl R) hx λu hu=> ?_⟩
 rcases h with⟨rfl,hl⟩|rfl
 ·unfold Crd.A
  rw[hl] at*
  exact jB (p:=1) (a':=.list 15 0 (dK [])) (Seal.le_refl R) hu rfl (λv=>lN)
 ·exact hu
end
end Go.Proofs.YtgpjhbhdbjdlgaaGreatDoor
