/- Parts of the proof of cardParses_card. -/
import Derived.Test.YtnbaflecdkgihaaGreatDoorRows
import Derived.ProofKit
import Derived.LaidMore
import Derived.Lay
import Derived.Stop.Joined
import Derived.LaidSub
import Derived.LaidHandle
import Derived.OpenShut
import Derived.Deep.Strs
import Derived.Shelf.Vars
import Derived.SizedLaws
import Derived.Test.YtnbaflecdkgihaaGreatDoorBan
set_option linter.unusedVariables false
set_option linter.unusedSimpArgs false
set_option linter.unusedSectionVars false
namespace Go.Proofs.YtnbaflecdkgihaaGreatDoor
open Go Go.RowKit
open Go.Proofs.Tryz Go.Proofs.YtnbaflecdkgihaaGreatDoor.Tryz
set_option maxRecDepth 20000
set_option maxHeartbeats 4000000
section
theorem RC {s g n:List UInt8}{ps:List Pr}{b:Nat}(h:ez s b 58=true)(hf:¬fX (iw false) (s.drop (b+1))<0):iX s g n ps b= .bad 3 (b+1+(fX (iw false) (s.drop (b+1))).toNat):=by
 unfold iX;rw[h,if_pos rfl,if_neg hf]
theorem RB {s g n:List UInt8}{ps:List Pr}{b:Nat}(h:ez s b 58=true)(hf:fX (iw false) (s.drop (b+1))<0):iX s g n ps b= .ok ⟨g,n,ps,s.drop (b+1)⟩:=by
 unfold iX;rw[h,if_pos rfl,if_pos hf]
section
variable {C:Ctx} {n:Nat} {e:Env}
theorem Rx {c0 c1 c2 c3 c4 c5:HEnt}{va:Value}{acc:List Pr}{w:List UInt8}{vs:List (List UInt8)}{u:Value}{m bp:Nat}(hm:m=(acc++[(⟨w,vs⟩:Pr)]).length):To C n e [c0,c1,c2,c3,c4,c5,.row va none 2 m (dE acc++([.str w,.own 8 u]:List AVal)),.cells bp (some 58) [.str w,.own 8 u],.row u none 1 vs.length (bj vs)] e
  [c0,c1,c2,c3,c4,c5,.row va none 2 (acc++[(⟨w,vs⟩:Pr)]).length (dE (acc++[⟨w,vs⟩]))]:=by
 have hI:=wX acc;rw[<-hm];have e1:(dE acc++([.str w,.own 8 u]:List AVal)).set (acc.length*2+1) (.list 1 vs.length (aB vs))=dE (acc++[⟨w,vs⟩]):=by
  rw[List.set_append_right _ _ a_,hI,T_,Aa];rfl
 rw[<-e1];refine an (kS (i:=8) (k:=6) (p:=acc.length*2+1) (aB vs) rfl rfl (gi vs) (λR hr=>.row (a:=.own 8 u) ?_ λ_=>cE hr)) (Ja ?_)
 ·rw[G_ a_,hI,T_];rfl
 ·exact V_ _ (V_ _ (V_ _ (V_ _ (V_ _ (V_ _ (V_ _ (Ug _)))))))
end
attribute [local irreducible] bG au aa az aR ab ad
attribute [local irreducible] iw fd dm isS cx aU dE To dP Lv fZ dF fy bC iX ON
theorem wP {G:Glo}{m:Int}(hU:ab G utfTy)(hM:ab G (bP m))(s:List UInt8)(cr:Bool)(hl:s.length<=1000000):ad prog G 32 [.str s,.bool cr] []
  (λr H=>(∃(e:Int) (p:Nat),dF cr s= .bad e p/\r= .ret (.tuple [.agg [.str [],.str [],kw,.str []],.agg [.int .i64 e,.int .i64 p]])/\H=[])\/
   (∃(l:Ln) (i:Nat) (v:Value),dF cr s= .ok l/\r= .ret (.tuple [.agg [.str l.g,.str l.n,.own i v,.str l.v],.agg [.int .i64 0,.int .i64 (-1)]])/\H=[.row v none 2 l.ps.length (dE l.ps)])):=by
 have hGL:ab G []:=al;have hB:=BV (G:=G) hU s a_;have hG0:=fp (G:=G);have hT:=λe p=>pI (G:=G) e p;refine SX (rs:=[.cell 4 92,.cell 5 27]) func32 call32 rfl rfl rfl rfl ?_;intro C hC hD;refine cf hC hGL (λx:Nat×Nat×Nat×Nat=>[(2,.own 0 (pS x.1)),(3,.own 1 (pS x.2.1)),(4,.own 2 (pS x.2.2.1)),(5,.own 3 (pS x.2.2.2))]) (λx=>[kO x.1 s,oe x.2.1 cr,mB x.2.2.1 [] [] kw [],kM x.2.2.2 0 0]) (λ_=>True) ?_ ?_
 ·refine Ra ?_;intro b2 b3 b4 b5;intros;exact cy (b2,b3,b4,b5) trivial
 rintro⟨b2,b3,b4,b5⟩-
 dsimp only
 refine cf hC hGL (λ_:Unit=>[(2,.own 0 (pS b2)),(3,.own 1 (pS b3)),(4,.own 2 (pS b4)),(5,.own 3 (pS b5))]) (λ_=>[kO b2 s,oe b3 cr,mB b4 [] [] kw [],kM b5 0 (-1)]) (λ_=>True) ?_ ?_
 ·refine ao ?_;intros;exact cy () trivial
 intro _ _;refine ff (jN hC hGL rfl ?_);refine ao ?_;refine⟨_,rfl,?_⟩;refine ff (jN hC hGL rfl ?_);refine ao ?_;refine⟨_,rfl,?_⟩;refine(λ(h:∀C2:Ctx,C2.G=G->C2.D=[Ms b5,Is b4 b5]->fZ prog C2 _ _ _ _ _)=>h (withD C (Ms b5::Is b4 b5::C.D)) hC (by show Ms b5::Is b4 b5::C.D=_;rw[hD])) ?_;clear hC hD C;intro C hC hD;have thr:∀{n:Nat} {env:Env} {T:Heap} {q:AVal} {y z:AVal} {g m v:List UInt8} {e:Int} {p:Nat} {p':Int},Env.get env 4=some (.own 2 (pS b4))->Env.get env 5=some (.own 3 (pS b5))->dF cr s= .bad e p->p'=p->Lv prog G n [.cell 4 92,.cell 5 27] env [Ms b5,Is b4 b5] (.pan (qK e p')) (kO b2 s::oe b3 cr::mB b4 g m q v:: .cells b5 (some 27) [y,z]::T)
   (λr H=>(∃(e:Int) (p:Nat),dF cr s= .bad e p/\r= .ret (.tuple [.agg [.str [],.str [],kw,.str []],.agg [.int .i64 e,.int .i64 p]])/\H=[])\/
   (∃(l:Ln) (i:Nat) (v:Value),dF cr s= .ok l/\r= .ret (.tuple [.agg [.str l.g,.str l.n,.own i v,.str l.v],.agg [.int .i64 0,.int .i64 (-1)]])/\H=[.row v none 2 l.ps.length (dE l.ps)])):=by
  rintro n env T q y z g m v e p p' h4 h5 h rfl;exact HD h4 h5 (E1 h) (.inl ⟨_,_,h,rfl,rfl⟩)
 refine cf hC hGL (λ_:Unit=>[(2,.own 0 (pS b2)),(3,.own 1 (pS b3)),(4,.own 2 (pS b4)),(5,.own 3 (pS b5))]) (λ_=>[kO b2 s,oe b3 cr,mB b4 [] [] kw [],kM b5 0 (-1)]) (λ_=>dm s<0) ?_ ?_
 ·by_cases hb:0<=dm s
  ·have e9:dm s=(((dm s).toNat:Nat):Int):=by omega
   refine ao ?_;intros;refine bY (hT 3 (dm s)) ?_
   (conv=>whnf)
   rw[hD];exact thr rfl rfl (AB hb) e9
  ·refine ao ?_;intros;exact cy () a_
 intro _ hb;refine cf hC hGL (λb7:Nat=>[(2,.own 0 (pS b2)),(3,.own 1 (pS b3)),(4,.own 2 (pS b4)),(5,.own 3 (pS b5)),(7,.own 4 (pS b7))]) (λb7=>[kO b2 s,oe b3 cr,mB b4 [] [] kw [],kM b5 0 (-1),mm b7 0]) (λ_=>True) ?_ ?_
 ·refine Ra ?_;intro b7;intros;exact cy b7 trivial
 intro b7 _;refine cf hC hGL (λb8:Nat=>[(2,.own 0 (pS b2)),(3,.own 1 (pS b3)),(4,.own 2 (pS b4)),(5,.own 3 (pS b5)),(7,.own 4 (pS b7)),(8,.own 5 (pS b8))]) (λb8=>[kO b2 s,oe b3 cr,mB b4 [] [] kw [],kM b5 0 (-1),mm b7 0,rl b8 4 0 b7 b2]) (λ_=>True) ?_ ?_
 ·refine Ra ?_;intro b8;intros;exact cy b8 trivial
 intro b8 _;refine cf hC hGL (λ_:Unit=>[(2,.own 0 (pS b2)),(3,.own 1 (pS b3)),(4,.own 2 (pS b4)),(5,.own 3 (pS b5)),(7,.own 4 (pS b7)),(8,.own 5 (pS b8)),(9,.func (.func 65) [] [.own 4 (pS b7),.own 0 (pS b2)])]) (λ_=>[kO b2 s,oe b3 cr,mB b4 [] [] kw [],kM b5 0 (-1),mm b7 0,rl b8 4 0 b7 b2]) (λ_=>True) ?_ ?_
 ·refine ao ?_;intros;exact cy () trivial
 intro _ _;refine cf hC hGL (λ_:Unit=>[(2,.own 0 (pS b2)),(4,.own 2 (pS b4)),(5,.own 3 (pS b5)),(7,.own 4 (pS b7)),(8,.own 5 (pS b8)),(9,.func (.func 65) [] [.own 4 (pS b7),.own 0 (pS b2)]),(10,.func (.func 67) [] [.own 5 (pS b8),.own 4 (pS b7),.own 0 (pS b2),.own 1 (pS b3)])]) (λ_=>[kO b2 s,oe b3 cr,mB b4 [] [] kw [],kM b5 0 (-1),mm b7 0,rl b8 4 0 b7 b2]) (λ_=>True) ?_ ?_
 ·refine ao ?_;intros;exact cy () trivial
 intro _ _;refine cf hC hGL (λ_:List UInt8×Nat=>[(2,.own 0 (pS b2)),(4,.own 2 (pS b4)),(5,.own 3 (pS b5)),(7,.own 4 (pS b7)),(8,.own 5 (pS b8)),(9,.func (.func 65) [] [.own 4 (pS b7),.own 0 (pS b2)]),(10,.func (.func 67) [] [.own 5 (pS b8),.own 4 (pS b7),.own 0 (pS b2),.own 1 (pS b3)])]) (λx=>[kO b2 s,oe b3 cr,mB b4 [] x.1 kw [],kM b5 0 (-1),mm b7 x.2,rl b8 4 0 b7 b2]) (λx=>bC s 0= .ok x) ?_ ?_
 ·refine ao ?_;refine yu hl (Nat.zero_le _) (λw j hw=> ?_) (λe p j hw=> ?_)
  ·refine ao ?_;intros;exact cy (w,j) hw
  ·(conv=>whnf)
   rw[hD];exact thr rfl rfl (nF hb (J9 hw)) rfl
 rintro⟨w,j⟩ hw;dsimp only
 have hg:=de hw;have hjl:=hg.2.1 (Nat.zero_le _);refine cf hC hGL (λ_:List UInt8×List UInt8×Nat=>[(2,.own 0 (pS b2)),(4,.own 2 (pS b4)),(5,.own 3 (pS b5)),(7,.own 4 (pS b7)),(8,.own 5 (pS b8)),(9,.func (.func 65) [] [.own 4 (pS b7),.own 0 (pS b2)]),(10,.func (.func 67) [] [.own 5 (pS b8),.own 4 (pS b7),.own 0 (pS b2),.own 1 (pS b3)])]) (λx=>[kO b2 s,oe b3 cr,mB b4 x.1 x.2.1 kw [],kM b5 0 (-1),mm b7 x.2.2,rl b8 4 0 b7 b2]) (λx=>fy s= .ok ((x.1,x.2.1),x.2.2)/\x.2.2<=s.length) ?_ ?_
 ·cases h46:ez s j 46 with
  |false=>
   have hne:=Ak b_ h46;refine ao ?_;refine eu hl hjl ?_;refine ao ?_;intros;exact cy ([],w,j) ⟨J8 hw h46,hjl⟩
  |true=>
   have hy:=Aj b_ h46;have hb1:j+1<=s.length:=(cG.1 h46).1;refine ao ?_;refine eu hl hjl ?_;rw[hy];refine ao ?_;intros;refine yu hl hb1 (λn k hn=> ?_) (λe p k hn=> ?_)
   ·refine ao ?_;intros;exact cy (w,n,k) ⟨J6 hw h46 hn,(de hn).2.1 hb1⟩
   ·(conv=>whnf)
    rw[hD];exact thr rfl rfl (nF hb (J7 hw h46 hn)) rfl
 rintro⟨g,n,a⟩ ⟨hh,hal⟩;dsimp only at hh hal ⊢;refine cf hC hGL (λ_:List Pr×Nat×Option Addr×Nat×Nat=>[(2,.own 0 (pS b2)),(4,.own 2 (pS b4)),(5,.own 3 (pS b5)),(7,.own 4 (pS b7)),(8,.own 5 (pS b8)),(9,.func (.func 65) [] [.own 4 (pS b7),.own 0 (pS b2)]),(10,.func (.func 67) [] [.own 5 (pS b8),.own 4 (pS b7),.own 0 (pS b2),.own 1 (pS b3)])]) (λx=>[kO b2 s,oe b3 cr,mB b4 g n (.own 6 (ne x.2.2.1 x.2.2.2.1 x.2.2.2.2)) [],kM b5 0 (-1),mm b7 x.2.1,rl b8 4 0 b7 b2,.row (ne x.2.2.1 x.2.2.2.1 x.2.2.2.2) none 2 x.1.length (dE x.1)]) (λx=>cD cr s a []= .ok (x.1,x.2.1)/\x.2.1<=s.length) ?_ ?_
 ·refine ao ?_;refine VF hC hGL (λx:Nat×List Pr×Option Addr×Nat×Nat=>[(2,.own 0 (pS b2)),(4,.own 2 (pS b4)),(5,.own 3 (pS b5)),(7,.own 4 (pS b7)),(8,.own 5 (pS b8)),(9,.func (.func 65) [] [.own 4 (pS b7),.own 0 (pS b2)]),(10,.func (.func 67) [] [.own 5 (pS b8),.own 4 (pS b7),.own 0 (pS b2),.own 1 (pS b3)])]) (λx=>[kO b2 s,oe b3 cr,mB b4 g n (.own 6 (ne x.2.2.1 x.2.2.2.1 x.2.2.2.2)) [],kM b5 0 (-1),mm b7 x.1,rl b8 4 0 b7 b2,.row (ne x.2.2.1 x.2.2.2.1 x.2.2.2.2) none 2 x.2.1.length (dE x.2.1)]) (λx=>x.1<=s.length/\x.2.1.length<=20/\cD cr s x.1 x.2.1=cD cr s a []) (λx=>s.length-x.1) (a,[],none,0,0) ⟨hal,Nat.zero_le _,rfl⟩ ?_ ?_
  ·refine an (fg 2) (an (jO (i:=2) (p:=2) (x:=mB b4 g n kw []) (a':=.own 6 (.slice none 0 0)) rfl (λR=>.cells rfl λ_=>jU)) (bL ah ?_));rw[show dE []=[] by unfold dE;rfl];exact At _
  rintro⟨at0,acc,va,vk,vc⟩ ⟨h1,h2,h3⟩;dsimp only at h1 h2 h3 ⊢;cases hq:ez s at0 59 with
  |false=>
   have hne:=Ak b_ hq;refine ao ?_;refine eu hl h1 ?_;refine ao ?_;intros;exact cy (acc,at0,va,vk,vc) ⟨h3.symm.trans (iJ hq),h1⟩
  |true=>
   have hy:=Aj b_ hq;have hb1:at0+1<=s.length:=(cG.1 hq).1;refine ao ?_;refine eu hl h1 ?_;rw[hy];refine ao ?_;intros;refine yu hl hb1 (λw j hw=> ?_) (λe p j hw=> ?_);rotate_left
   ·(conv=>whnf)
    rw[hD];exact thr rfl rfl (jK hb hh (h3.symm.trans (gm hq hw))) rfl
   have hj:=de hw;have hjl:j<=s.length:=hj.2.1 hb1;refine ao ?_;intro bp;intros;refine eu hl hjl ?_;cases h61:ez s j 61 with
   |false=>
    have hne:=Ak b_ h61;refine ao ?_;intros;refine bY (hT 7 j) ?_
    (conv=>whnf)
    rw[hD];exact thr rfl rfl (jK hb hh (h3.symm.trans (kb hq hw h61))) rfl
   |true=>
    have hy61:=Aj b_ h61;have hb2:j+1<=s.length:=(cG.1 h61).1;rw[hy61];refine ao ?_;intros;refine VF hC hGL (λx:Nat×List (List UInt8)×Option Addr×Nat×Nat=>[(2,.own 0 (pS b2)),(4,.own 2 (pS b4)),(5,.own 3 (pS b5)),(7,.own 4 (pS b7)),(8,.own 5 (pS b8)),(9,.func (.func 65) [] [.own 4 (pS b7),.own 0 (pS b2)]),(10,.func (.func 67) [] [.own 5 (pS b8),.own 4 (pS b7),.own 0 (pS b2),.own 1 (pS b3)]),(11,.int .i64 ((at0+1:Nat):Int)),(12,.own 7 (pS bp))])
     (λx=>[kO b2 s,oe b3 cr,mB b4 g n (.own 6 (ne va vk vc)) [],kM b5 0 (-1),mm b7 x.1,rl b8 4 0 b7 b2,.row (ne va vk vc) none 2 acc.length (dE acc),.cells bp (some 58) [.str w,.own 8 (ne x.2.2.1 x.2.2.2.1 x.2.2.2.2)],.row (ne x.2.2.1 x.2.2.2.1 x.2.2.2.2) none 1 x.2.1.length (bj x.2.1)])
     (λx=>x.1<=s.length/\x.2.1.length<=x.1/\((x.2.1=[]/\j=x.1)\/(x.2.1≠[]/\j+1<=x.1/\qj cr s x.1 x.2.1=ea cr s (j+1) []))) (λx=>s.length-x.1) (j,[],none,0,0) ⟨hjl,Nat.zero_le _,.inl ⟨rfl,rfl⟩⟩ ?_ ?_
    ·refine an (fg 1) (an (jO (i:=7) (p:=1) (x:=.cells bp (some 58) [.str w,.raw (.slice none 0 0)]) (a':=.own 8 (.slice none 0 0)) rfl (λR=>.cells rfl λ_=>jU)) (bL ah ?_));exact At _
    rintro⟨at2,vs,ua,uk,uc⟩ ⟨g1,g2,g3⟩;dsimp only at g1 g2 g3 ⊢;rcases g3 with⟨rfl,rfl⟩|⟨g3,g4,g5⟩
    ·refine ao ?_;refine eu hl hjl ?_;rw[hy61];refine ao ?_;intros;refine Uk [(4,.own 2 (pS b4)),(5,.own 3 (pS b5))] be mixed hC hGL false (λv h=>∃(e:Int) (q:Nat) (jj:Nat) (T:Heap),cp cr s (j+1)= .bad e q/\v=qK e q/\h=kO b2 s::oe b3 cr::mB b4 g n (.own 6 (ne va vk vc)) []::kM b5 0 (-1)::T)
      (λ_:{x:List UInt8×Nat×Option Addr×Nat×Nat//cp cr s (j+1)= .ok (x.1,x.2.1)}=>[(2,.own 0 (pS b2)),(4,.own 2 (pS b4)),(5,.own 3 (pS b5)),(7,.own 4 (pS b7)),(8,.own 5 (pS b8)),(9,.func (.func 65) [] [.own 4 (pS b7),.own 0 (pS b2)]),(10,.func (.func 67) [] [.own 5 (pS b8),.own 4 (pS b7),.own 0 (pS b2),.own 1 (pS b3)]),(11,.int .i64 ((at0+1:Nat):Int)),(12,.own 7 (pS bp))])
      (λx=>[kO b2 s,oe b3 cr,mB b4 g n (.own 6 (ne va vk vc)) [],kM b5 0 (-1),mm b7 x.1.2.1,rl b8 4 0 b7 b2,.row (ne va vk vc) none 2 acc.length (dE acc),.cells bp (some 58) [.str w,.own 8 (ne x.1.2.2.1 x.1.2.2.2.1 x.1.2.2.2.2)],.row (ne x.1.2.2.1 x.1.2.2.2.1 x.1.2.2.2.2) none 1 (([]:List (List UInt8))++[x.1.1]).length (bj (([]:List (List UInt8))++[x.1.1]))])
      .p7 be ?_ ?_ ?_
     ·refine xn ?_;repeat' first|exact .n|apply Lc.mk
      all_goals intros
      all_goals (
       refine Kx hM hl (hb2) (λv b' hv=> ?_) (λe' q jj hv=> ?_)
       ·refine xn ?_;repeat' first|exact .n|apply Lc.mk
        all_goals intros
        all_goals (
         rename_i wa wk wc wh
         refine⟨⟨(v,b',wa,wk,wc),hv⟩,ah,?_⟩
         dsimp only
         rw[<-ce,d_]
         exact aF)
       ·exact⟨⟨e',q,jj,_,hv,rfl,rfl⟩,rfl,rfl,trivial⟩)
     rotate_left
     ·rintro v h ⟨e',q,jj,T,hv,rfl,rfl⟩
      (conv=>whnf)
      rw[hD];exact thr rfl rfl (jK hb hh (h3.symm.trans (eR hq hw h61 (gw hv)))) rfl
     rintro⟨⟨v3,b3',xa,xk,xc⟩,hv3⟩;dsimp only at hv3 ⊢;have hg3:=iU hv3;refine ao ?_;intros;exact C9 (b3',[]++[v3],xa,xk,xc) ⟨hg3.2 hb2,by simp only[L_,j_,E_];omega,.inr ⟨by simp,hg3.1,(pu (acc:=[]) hv3).symm⟩⟩ (by dsimp only;omega) (bL ah aF)
    ·have hvl:vs.length≠0:=λh=>g3 (s_ h);cases h44:ez s at2 44 with
     |true=>
      have hy:=Aj b_ h44;have hb3:at2+1<=s.length:=(cG.1 h44).1;have hgo:qj cr s at2 vs=ea cr s (at2+1) vs:=by unfold qj;rw[h44,if_pos rfl]
      refine ao ?_;refine eu hl g1 ?_;rw[hy];refine ao ?_;intros;refine eu hl g1 ?_;rw[hy];refine ao ?_;intros;refine Uk [(4,.own 2 (pS b4)),(5,.own 3 (pS b5))] be mixed hC hGL false (λv h=>∃(e:Int) (q:Nat) (jj:Nat) (T:Heap),cp cr s (at2+1)= .bad e q/\v=qK e q/\h=kO b2 s::oe b3 cr::mB b4 g n (.own 6 (ne va vk vc)) []::kM b5 0 (-1)::T)
       (λ_:{x:List UInt8×Nat×Option Addr×Nat×Nat//cp cr s (at2+1)= .ok (x.1,x.2.1)}=>[(2,.own 0 (pS b2)),(4,.own 2 (pS b4)),(5,.own 3 (pS b5)),(7,.own 4 (pS b7)),(8,.own 5 (pS b8)),(9,.func (.func 65) [] [.own 4 (pS b7),.own 0 (pS b2)]),(10,.func (.func 67) [] [.own 5 (pS b8),.own 4 (pS b7),.own 0 (pS b2),.own 1 (pS b3)]),(11,.int .i64 ((at0+1:Nat):Int)),(12,.own 7 (pS bp))])
       (λx=>[kO b2 s,oe b3 cr,mB b4 g n (.own 6 (ne va vk vc)) [],kM b5 0 (-1),mm b7 x.1.2.1,rl b8 4 0 b7 b2,.row (ne va vk vc) none 2 acc.length (dE acc),.cells bp (some 58) [.str w,.own 8 (ne x.1.2.2.1 x.1.2.2.2.1 x.1.2.2.2.2)],.row (ne x.1.2.2.1 x.1.2.2.2.1 x.1.2.2.2.2) none 1 (vs++[x.1.1]).length (bj (vs++[x.1.1]))])
       .p7 be ?_ ?_ ?_
      ·refine xn ?_;repeat' first|exact .n|apply Lc.mk
       all_goals intros
       all_goals (
        refine Kx hM hl (hb3) (λv b' hv=> ?_) (λe' q jj hv=> ?_)
        ·refine xn ?_;repeat' first|exact .n|apply Lc.mk
         all_goals intros
         all_goals (
          rename_i wa wk wc wh
          refine⟨⟨(v,b',wa,wk,wc),hv⟩,ah,?_⟩
          dsimp only
          rw[<-ce,d_]
          exact aF)
        ·exact⟨⟨e',q,jj,_,hv,rfl,rfl⟩,rfl,rfl,trivial⟩)
      rotate_left
      ·rintro v h ⟨e',q,jj,T,hv,rfl,rfl⟩
       (conv=>whnf)
       rw[hD];exact thr rfl rfl (jK hb hh (h3.symm.trans (eR hq hw h61 (g5.symm.trans (hgo.trans (gw hv)))))) rfl
      rintro⟨⟨v3,b3',xa,xk,xc⟩,hv3⟩;dsimp only at hv3 ⊢;have hg3:=iU hv3;refine ao ?_;intros;exact C9 (b3',vs++[v3],xa,xk,xc) ⟨hg3.2 hb3,by simp only[d_,j_,E_];omega,.inr ⟨by simp,a_,((pu hv3).symm.trans hgo.symm).trans g5⟩⟩ (by dsimp only;omega) (bL ah aF)
     |false=>
      have hvs:ea cr s (j+1) []= .ok (vs,at2):=by rw[<-g5];unfold qj;rw[h44,if_neg b_]
      have hne:=Ak b_ h44;by_cases h20:acc.length=20
      ·by_cases h61':(ON s at2:Int)=61;all_goals (
        refine ao ?_
        refine eu hl g1 ?_
        try rw[h61']
        refine ao ?_
        intros
        refine eu hl g1 ?_
        try rw[h61']
        refine ao ?_
        intros
        refine bY (hT 4 ((at0+1:Nat):Int)) ?_
        (conv=>whnf)
        rw[hD]
        exact thr rfl rfl (jK hb hh (h3.symm.trans (iI hq hw h61 hvs h20))) rfl)
      ·by_cases h61':(ON s at2:Int)=61;all_goals (
        refine ao ?_
        refine eu hl g1 ?_
        try rw[h61']
        refine ao ?_
        intros
        refine eu hl g1 ?_
        try rw[h61']
        refine ao ?_
        intro wa wk wc _
        intros
        refine C9 (at2,acc++[⟨w,vs⟩],wa,wk,wc) ⟨g1,by simp only[d_,j_,E_];omega,(ka hq hw h61 hvs h20).symm.trans h3⟩ (by dsimp only;omega) ?_
        exact an (bL ah (At _)) (Rx (by simp)))
 rintro⟨ps,k,va,vk,vc⟩ ⟨hp,hkl⟩;dsimp only at hp hkl ⊢;have hLP:=xD (c:=cr) hb hh hp;cases h58:ez s k 58 with
 |false=>
  have hne:=Ak b_ h58;refine dJ hC hGL (ao ?_);refine eu hl hkl ?_;refine ao ?_;intros;refine bY (hT 7 k) ?_
  (conv=>whnf)
  rw[hD];exact thr rfl rfl (hLP.trans (Jb h58)) rfl
 |true=>
  have hy:=Aj b_ h58;have hb2:k+1<=s.length:=(cG.1 h58).1;have hf:=lX (G:=G) (s.drop (k+1)) 68 (iw false) (by rw[k_];omega) (λc _=>lY (c:Int));by_cases hfst:fX (iw false) (s.drop (k+1))<0
  ·have hE:=hLP.trans (RB h58 hfst);generalize fX (iw false) (s.drop (k+1))=fi at*
   refine dJ hC hGL (ao ?_);refine eu hl hkl ?_;rw[hy];refine ao ?_;intros;refine bh mixed hC hGL false (λ(_:Unit)=>[(4,.own 2 (pS b4)),(5,.own 3 (pS b5))]) (λ_=>[kO b2 s,oe b3 cr,mB b4 g n (.own 6 (ne va vk vc)) (s.drop (k+1)),kM b5 0 (-1),mm b7 (k+1),rl b8 4 0 b7 b2,.row (ne va vk vc) none 2 ps.length (dE ps)]) .p9 be xu ?_;intro _;refine ao ?_;intros;rw[hD];refine Pd (H':=[.row (ne va vk vc) none 2 ps.length (dE ps)]) rfl rfl ?_ ?_
   ·exact List.Sublist.cons _ (List.Sublist.cons _ (At _))
   ·exact .inr ⟨⟨g,n,ps,s.drop (k+1)⟩,6,_,hE,rfl,rfl⟩
  ·have hE:=hLP.trans (RC h58 hfst);have hfl:fX (iw false) (s.drop (k+1))<=1000000:=by
    rcases gq (iw false) (s.drop (k+1)) with⟨h,_⟩|⟨m',h1,h2,_⟩
    ·rw[h];omega
    ·rw[h2];rw[k_] at h1;omega
   generalize fX (iw false) (s.drop (k+1))=fi at*
   refine dJ hC hGL (ao ?_);refine eu hl hkl ?_;rw[hy];refine ao ?_;intros;refine bY (hT 3 _) ?_
   (conv=>whnf)
   rw[hD];exact thr rfl rfl hE a_
end
section
theorem HK {G:Glo}(s:List UInt8)(cr:Bool)(hl:s.length<=1000000):ak prog G 46 [.str s,.bool cr] (.tuple [(iQ cr s).A,(rk cr s).A]):=by
 refine dA (E0 s cr hl) ?_;rintro r H (⟨e,p,h,rfl,rfl⟩|⟨l,v,h,rfl,rfl⟩)
 ·rintro C R w e' hm ⟨x,rfl,hx⟩;have e1:iQ cr s=Ln.no:=by unfold iQ;rw[h]
  have e2:rk cr s= .at e p:=by unfold rk;rw[h]
  rw[e1,e2];exact⟨R,hm,x,rfl,gz (Seal.le_refl R) hx λu hu=>jn (p:=2) (a':=.list 2 0 (fU [])) (Seal.le_refl R) hu rfl (λv=>lx)⟩
 ·rintro C R w e' hm ⟨x,rfl,hx⟩;have e1:iQ cr s=l:=by unfold iQ;rw[h]
  have e2:rk cr s= .none:=by unfold rk;rw[h]
  rw[e1,e2];obtain⟨R',hle,m2,hr⟩:=MS.seal_row (f:=fU l.ps) hm (Hs l.ps);exact⟨R',m2,x,rfl,gz hle hx λu hu=>jn (p:=2) (a':=.list 2 l.ps.length (fU l.ps)) hle hu rfl (λv=>cE hr)⟩
end
section
theorem ze {G:Glo}{m:Int}(hU:ab G utfTy)(hM:ab G (bP m))(s:List UInt8)(cr:Bool)(hl:s.length<=1000000):ak prog G 32 [.str s,.bool cr] (.tuple [(iQ cr s).A,.agg [.int .i64 (rk cr s).e,.int .i64 (rk cr s).p]]):=by
 refine dA (wP hU hM s cr hl) ?_;rintro r H (⟨e,p,h,rfl,rfl⟩|⟨l,i,v,h,rfl,rfl⟩)
 ·rintro C R w e' hm ⟨x,rfl,hx⟩;have e1:iQ cr s=Ln.no:=by unfold iQ;rw[h]
  have e2:rk cr s= .at e p:=by unfold rk;rw[h]
  rw[e1,e2];exact⟨R,hm,x,rfl,gz (Seal.le_refl R) hx λu hu=>jn (p:=2) (a':=.list 2 0 (fU [])) (Seal.le_refl R) hu rfl (λv=>lx)⟩
 ·rintro C R w e' hm ⟨x,rfl,hx⟩;have e1:iQ cr s=l:=by unfold iQ;rw[h]
  have e2:rk cr s= .none:=by unfold rk;rw[h]
  rw[e1,e2];obtain⟨R',hle,m2,hr⟩:=MS.seal_row (f:=fU l.ps) hm (Hs l.ps);exact⟨R',m2,x,rfl,gz hle hx λu hu=>jn (p:=2) (a':=.list 2 l.ps.length (fU l.ps)) hle hu rfl (λv=>cE hr)⟩
end
section
theorem Af {c:Bool}{s:List UInt8}:∀(n:Nat) {a b:Nat} {acc ps:List Pr},s.length-a<=n->acc.length<=20->(∀q∈acc,q.vs.length<=s.length+1)->cD c s a acc= .ok (ps,b)->ps.length<=20/\∀q∈ps,q.vs.length<=s.length+1
 |n,a,b,acc,ps,hn,h0,h1,h=>by
  cases hq:ez s a 59 with
  |false=>rw[iJ hq] at h;cases h;exact⟨h0,h1⟩
  |true=>
   have g1:=cG.1 hq;cases hw:bC s (a+1) with
   |bad e' p'=>rw[gm hq hw] at h;cases h
   |ok x=>
    obtain⟨w,j⟩:=x;have g2:=de hw;cases hj:ez s j 61 with
    |false=>rw[kb hq hw hj] at h;cases h
    |true=>
     have g4:=(cG.1 hj).1;cases hv:ea c s (j+1) [] with
     |bad e' p'=>rw[eR hq hw hj hv] at h;cases h
     |ok x=>
      obtain⟨vs,d⟩:=x;have g3:=jY _ (Nat.le_refl _) hv;by_cases h20:acc.length=20
      ·rw[iI hq hw hj hv h20] at h;cases h
      ·rw[ka hq hw hj hv h20] at h;cases n with
       |zero=>omega
       |succ n=>
        refine Af n a_ (by rw[d_,Rf];omega) (λq hq=> ?_) h;rcases List.mem_append.1 hq with hq|hq
        ·exact h1 q hq
        ·rw[List.mem_singleton.1 hq];have:=g3.2.1 a_;have:=g3.2.2.2;rw[E_] at this;show vs.length<=_;omega
theorem Cf (c:Bool)(s:List UInt8):(iQ c s).ps.length<=20/\∀q∈(iQ c s).ps,q.vs.length<=s.length+1:=by
 unfold iQ;cases hl:dF c s with
 |bad e p=>exact⟨Nat.zero_le _,λq hq=>by cases hq⟩
 |ok l=>
  unfold dF at hl;split at hl
  ·cases hh:fy s with
   |bad e p=>rw[hh] at hl;cases hl
   |ok x=>
    obtain⟨⟨g,n⟩,a⟩:=x;rw[hh] at hl;dsimp only at hl;cases hp:cD c s a [] with
    |bad e p=>rw[hp] at hl;cases hl
    |ok x=>
     obtain⟨ps,b⟩:=x;rw[hp] at hl;dsimp only at hl;have hb:=Af _ (Nat.le_refl _) (Nat.zero_le _) (λq hq=>by cases hq) hp;unfold iX at hl
     (repeat' split at hl)<;>first|(cases hl;exact hb)|cases hl
  ·cases hl
attribute [local irreducible] bG au aa az aR ab ad
attribute [local irreducible] iQ rk
end
section
section
variable {c:Bool} {s:List UInt8} {e:Int} {p:Nat}
theorem UH {v:List UInt8}{a b:Nat}(h:cp c s a= .ok (v,b)):v.length+a<=b:=by
 have h1:∀i j:Nat,(M0 c ((s.take i).drop j)).length<=i-j:=λi j=>by
  have e1:((s.take i).drop j).length<=i-j:=by rw[k_,i_];omega
  unfold M0;split
  ·exact YX (sq _) e1
  ·exact e1
 have h2:=h1 (lR s a) (gL s a);have h3:=(rm s a).1;have h4:=(iU h).1;unfold cp at h
 (repeat' split at h)<;>(cases h;try omega)
theorem AC (l:List (List UInt8))(v:List UInt8):Lib.lens (l++[v])=Lib.lens l+v.length:=by
 induction l with
 |nil=>simp[Lib.lens]
 |cons x l ih=>
  rw[Lu];have e1:Lib.lens (x::(l++[v]))=x.length+Lib.lens (l++[v]):=by simp[Lib.lens]
  have e2:Lib.lens (x::l)=x.length+Lib.lens l:=by simp[Lib.lens]
  rw[e1,e2,ih];omega
theorem I3:∀(n:Nat) {a b:Nat} {acc vs:List (List UInt8)},s.length-a<=n->ea c s a acc= .ok (vs,b)->Lib.lens vs+a<=Lib.lens acc+b
 |n,a,b,acc,vs,hn,h=>by
  cases hv:cp c s a with
  |bad e' p'=>rw[gw hv] at h;cases h
  |ok x=>
   obtain⟨v,d⟩:=x;have h1:=iU hv;have h3:=UH hv;cases hb:ez s d 44 with
   |true=>
    have h2:=cG.1 hb;rw[mE hv hb] at h;cases n with
    |zero=>omega
    |succ n=>
     have:=I3 n a_ h;rw[AC] at this;omega
   |false=>rw[la hv hb] at h;cases h;rw[AC];omega
theorem JF:∀(n:Nat) {a b:Nat} {acc ps:List Pr},s.length-a<=n->(∀q∈acc,Lib.lens q.vs<=s.length)->cD c s a acc= .ok (ps,b)->∀q∈ps,Lib.lens q.vs<=s.length
 |n,a,b,acc,ps,hn,h0,h=>by
  cases hq:ez s a 59 with
  |false=>rw[iJ hq] at h;cases h;exact h0
  |true=>
   have h1:=(cG.1 hq).1;cases hw:bC s (a+1) with
   |bad e' p'=>rw[gm hq hw] at h;cases h
   |ok x=>
    obtain⟨w,j⟩:=x;have h2:=de hw;have h4:=h2.2.1 h1;cases hj:ez s j 61 with
    |false=>rw[kb hq hw hj] at h;cases h
    |true=>
     have h5:=(cG.1 hj).1;cases hv:ea c s (j+1) [] with
     |bad e' p'=>rw[eR hq hw hj hv] at h;cases h
     |ok x=>
      obtain⟨vs,d⟩:=x;have h3:=jY _ (Nat.le_refl _) hv;by_cases h20:acc.length=20
      ·rw[iI hq hw hj hv h20] at h;cases h
      ·rw[ka hq hw hj hv h20] at h;cases n with
       |zero=>omega
       |succ n=>
        refine JF n a_ (λq hq=> ?_) h;rcases List.mem_append.1 hq with hq|hq
        ·exact h0 q hq
        ·rw[List.mem_singleton.1 hq];have g1:=h3.2.1 h5;have g2:=I3 _ (Nat.le_refl _) hv;have g3:Lib.lens ([]:List (List UInt8))=0:=rfl;show Lib.lens vs<=_;omega
end
theorem XG (c:Bool)(s:List UInt8):(iQ c s).g.length<=s.length/\∀q∈(iQ c s).ps,Lib.lens q.vs<=s.length:=by
 unfold iQ;cases hl:dF c s with
 |bad e p=>exact⟨Nat.zero_le _,λq hq=>by cases hq⟩
 |ok l=>
  unfold dF at hl;split at hl
  ·cases hh:fy s with
   |bad e p=>rw[hh] at hl;cases hl
   |ok x=>
    obtain⟨⟨g,n⟩,a⟩:=x;have hg:g.length<=s.length:=by
     unfold fy at hh;cases hw:bC s 0 with
     |bad e'' p''=>rw[hw] at hh;cases hh
     |ok x=>
      obtain⟨w,j⟩:=x;have g1:=(de hw).2.2.1;rw[hw] at hh;dsimp only at hh;split at hh
      ·cases hv:bC s (j+1) with
       |bad e'' p''=>rw[hv] at hh;cases hh
       |ok x=>
        obtain⟨w2,j2⟩:=x;rw[hv] at hh;cases hh;rw[g1,k_,i_];omega
      ·cases hh;exact Nat.zero_le _
    rw[hh] at hl;dsimp only at hl;cases hp:cD c s a [] with
    |bad e p=>rw[hp] at hl;cases hl
    |ok x=>
     obtain⟨ps,b⟩:=x;rw[hp] at hl;dsimp only at hl;have hb:=JF _ (Nat.le_refl _) (λq hq=>by cases hq) hp;unfold iX at hl
     (repeat' split at hl)<;>first|(cases hl;exact⟨hg,hb⟩)|cases hl
  ·cases hl
theorem X3 {v:Int}{l:LineS}(hl:l.t.length<=1500):Itm.OK 2500 (pg v l):=by
 have h1:=HE (bU v 4) l.t;have h2:=XG (bU v 4) l.t;have h3:=Cf (bU v 4) l.t;have hP:(⟨(iQ (bU v 4) l.t).g,(iQ (bU v 4) l.t).n,(iQ (bU v 4) l.t).ps,[]⟩:Ln).OK 2500:=by
  refine⟨by show(iQ _ _).g.length<=_;omega,by show(iQ _ _).n.length<=_;omega,Nat.zero_le _,by show(iQ _ _).ps.length<=_;omega,λk=> ?_⟩;by_cases hk:k<(iQ (bU v 4) l.t).ps.length
  ·show((iQ (bU v 4) l.t).ps.getD k Pr.z).n.length<=_/\((iQ (bU v 4) l.t).ps.getD k Pr.z).vs.length<=_/\Lib.lens ((iQ (bU v 4) l.t).ps.getD k Pr.z).vs<=_;rw[f_,y_ hk,Z_];have hm:=K_ hk;have g1:=h1.2.2 _ hm;have g2:=h2.2 _ hm;exact⟨by have:=g1.1;omega,by have:=g1.2.1;omega,a_⟩
  ·show((iQ (bU v 4) l.t).ps.getD k Pr.z).n.length<=_/\((iQ (bU v 4) l.t).ps.getD k Pr.z).vs.length<=_/\Lib.lens ((iQ (bU v 4) l.t).ps.getD k Pr.z).vs<=_;rw[f_,P_ a_,Option.getD_none];exact⟨Nat.zero_le _,Nat.zero_le _,Nat.zero_le _⟩
 have hno:Itm.OK 2500 (Ln.no,Vl.no):=⟨⟨Nat.zero_le _,Nat.zero_le _,Nat.zero_le _,Nat.zero_le _,λk=>by
  show(([]:List Pr).getD k Pr.z).n.length<=_/\(([]:List Pr).getD k Pr.z).vs.length<=_/\Lib.lens (([]:List Pr).getD k Pr.z).vs<=_;rw[List.getD_nil];exact⟨Nat.zero_le _,Nat.zero_le _,Nat.zero_le _⟩⟩,Nat.zero_le _,jC⟩
 unfold pg;split
 ·have h4:=Nc (s:=(iQ (bU v 4) l.t).v) (by have:=h1.2.1;omega) (M3 v l.t);exact⟨hP,YX h4.1 (by have:=h1.2.1;omega),h4.2⟩
 ·exact hno
theorem HT {v:Int}{L:List LineS}{n:Nat}{t:List UInt8}(hb:∀l∈L,nP t l):∀x∈kZ v L n,Itm.OK 2500 x:=by
 intro x hx;unfold kZ at hx;obtain⟨i,_,rfl⟩:=List.mem_map.1 hx;refine X3 ?_;by_cases hk:i+2<L.length
 ·show(L.getD (i+2) ⟨[],0,[]⟩).t.length<=_;rw[f_,y_ hk,Z_];exact(hb _ (K_ hk)).2.1
 ·show(L.getD (i+2) ⟨[],0,[]⟩).t.length<=_;rw[f_,P_ a_,Option.getD_none];exact Nat.zero_le _
end
section
attribute [local irreducible] bG au aa az aR ab ad
theorem uB {G:Glo}(v:Int):ak prog G 47 [.int .i64 v] (.bool (bU v 4)):=by
 refine ax func47 call47 λC hC hGL=> ?_;exact bB
end
section
theorem Tryz.own:ownKnob prog.godebug=none:=by kernel_rfl
def cg (W:World)(k:Nat):Seal:=λb=>if b<k then W.heap[b]? else none
theorem By (W:World)(k:Nat):eZ (cg W k) W:=by
 intro b o h;unfold cg at h;split at h
 ·exact h
 ·cases h
theorem EK (W:World)(R:Seal)(G:Glo)(hG:G.p R)(hs:eZ R W):MS ⟨W,R,eG [],G,hG,[]⟩ R [] W:=
 ⟨hs,Seal.le_refl R,λ_ hb=>.inl hb,⟨λ_ h=>absurd h t_,List.nodup_nil,λ_ h=>absurd h t_⟩,λ_ h=>absurd h t_,MT.refl W _⟩
theorem xI {W W':World}(h:MT W [] W')(may:MemPlace->Prop):W.keptBut W' may:=by
 refine⟨h.os,h.output,λi hi=> ?_⟩;rw[h.block i hi (by simp)];generalize W.heap[i]? =o;cases o with
 |none=>rfl
 |some o=>
  cases o with
  |cells c t fr=>exact⟨rfl,rfl,rfl,λ_ _=>rfl⟩
  |map es clock=>exact .inr ⟨rfl,rfl⟩
  |_=>rfl
theorem SH {P:Program}{G:Glo}{f:FuncId}{avs:List AVal}{c:Bool}{args:Array Value}{W:World}{R:Seal}(hs:ak P G f avs (.bool c))(hc:(callFunc f args).run P W= .ok (.enter f args) W)
  (hG:G.p R) (hR:eZ R W) (ha:dO R avs args.toList):Calls P f args W λe W'=>e= .returned (.bool c)/\∀may,W.keptBut W' may:=by
 rcases hs R W args hG (EK W R G hG hR) ha with⟨_,h⟩|⟨v,w',h,_⟩
 ·refine h.mono λe W' ⟨res,H',R',⟨hr,hH⟩,he,hm⟩=> ?_;subst hr;obtain⟨x,rfl,hx⟩:=he;refine⟨by rw[aO.1 hx],λmay=>xI hm.ext may⟩
 ·rw[hc] at h;cases h
theorem E2 {x:ByteArray}(h:x.size<=maxLen):x.data.toList.length<=9223372036854775807:=by
 have:x.data.toList.length=x.size:=by cases x;rfl
 rw[this];exact h
end
section
theorem vV {P:Program}{w:World}{n:String}{g:Nat}{cs:Array Value}(hg:P.globalNamed n=some g)(hv:w.var? P n=some cs):∃e fz,w.heap[g]? =some (.cells cs e fz):=by
 simp only[World.var?,hg,Option.bind_some] at hv;split at hv
 ·rename_i c e fz hh;cases hv;exact⟨_,_,hh⟩
 ·cases hv
def Ud (L:List (Nat×List AVal)):Glo:=⟨λR=>∀x,x∈L->dK R x.1 0 x.2,λ_ _ hle h x hx=>by
 obtain⟨C,e,fz,h1,h2⟩:=h x hx;exact⟨C,e,fz,hle _ _ h1,dZ hle _ _ h2⟩⟩
theorem ye:∀(L:List (Nat×List AVal)) {g:Nat} {cs:List AVal},oW L g=some cs->(g,cs)∈L
 |[],_,_,h=>by simp[oW] at h
 |(k,c)::r,g,cs,h=>by
  unfold oW at h;split at h
  ·rename_i e;obtain rfl:=m_ e;cases h;exact z_
  ·exact List.mem_cons_of_mem _ (ye r h)
theorem p4 {L L':List (Nat×List AVal)}(h:∀x,x∈L'->x∈L):ab (Ud L) L':=λg cs hg R hR=>hR (g,cs) (h _ (ye L' hg))
theorem i7 {W:World}{k g:Nat}{C:Array Value}{e:TypeId}{fz:Nat×Nat}{cs:List AVal}(hk:g<k)(hW:W.heap[g]? =some (.cells C e fz))(h:bX (cg W k) cs (C.toList.take cs.length)):dK (cg W k) g 0 cs:=
 ⟨C,e,fz,by unfold cg;rw[if_pos hk];exact hW,by rw[YO];exact h⟩
theorem wH:∀ty,ty<prog.types.size->prog.rowNamed ty [101,114,114,111,114]=true->ty=31:=by
 have h:((List.range prog.types.size).all λty=> !prog.rowNamed ty [101,114,114,111,114]||Nat.beq ty 31)=true:=by kernel_rfl
 intro ty h1 h2;have:=List.all_eq_true.1 h ty (List.mem_range.2 h1);rw[h2] at this;exact m_ (by simpa using this)
theorem In {W:World}{k:Nat}(hk:0<k){laid:List (String×DataW Unit)}(hL:laidMetH prog laid W)(hm:("errors.errorType",Rows.laid_errors_errorType)∈laid):dK (cg W k) 0 0 [rty 31]:=by
 have h:=(laidMetH_iff.1 hL).2 _ (List.mem_filter.2 ⟨hm,be⟩)
 have h:∃name u ty,(Rows.laid_errors_errorType (H:=Unit)).handleName? =some name∧(prog.cutTypes.find? (·.1== "internal/reflectlite.rtype")).map (·.2)=some u∧ty<prog.types.size∧prog.rowNamed ty name=true∧
   W.var? prog "errors.errorType" =some #[.iface u (.agg #[typeHandle prog ty])]:=h
 obtain⟨name,u,ty,h1,h2,h3,h4,h5⟩:=h
 obtain rfl:[101,114,114,111,114]=name:=Option.some.inj ((show(Rows.laid_errors_errorType (H:=Unit)).handleName? =some [101,114,114,111,114] by kernel_rfl).symm.trans h1)
 obtain rfl:240=u:=Option.some.inj ((show(prog.cutTypes.find? (·.1== "internal/reflectlite.rtype")).map (·.2)=some 240 by kernel_rfl).symm.trans h2)
 obtain rfl:=wH ty h3 h4
 obtain⟨e,fz,hh⟩:=vV (show prog.globalNamed "errors.errorType" =some 0 by kernel_rfl) h5
 exact i7 hk hh ⟨_,_,rfl,(rN _).1,rfl⟩
noncomputable def me (os:Os):World:=
 let w0:=World.holding prog os ⟨#[],#[],[]⟩
 { w0 with heap:=w0.heap.modify 0 fun
   |.cells _ t frozen=>.cells #[.iface 240 (.agg #[jV 31])] t frozen
   |o=>o}
def jT (laid:List (String×DataW Unit)):List (String×DataW Unit):=laid.filter λx=>x.2.handleName?.isNone
noncomputable def jL (os:Os)(laid:List (String×DataW Unit)):World:=(me os).layVars prog (jT laid)
theorem zw (os:Os)(laid:List (String×DataW Unit)):(jL os laid).os=os:=World.layVars_os _ _ _
theorem x9 {os:Os}{laid:List (String×DataW Unit)}(args:Array Value)(hf:(me os).layFits prog (jT laid) []=true)(hi:(me os).layIfaces prog (jT laid) (jL os laid)=true)
  (hh:((laid.filter λx=>x.2.handleName?.isSome).all (handleAtB prog ((jL os laid).forCall (λ_ _=>0) ⟨#[],args,[]⟩).memory))=true):
  laidMetH prog laid ((jL os laid).forCall (λ_ _=>0) ⟨#[],args,[]⟩).memory:=by
 refine laidMetH_of_parts ?_ hh;have e1:((jT laid).filter λx=>((jT laid).map (·.1)).contains x.1)=jT laid:=List.filter_eq_self.2 λx hx=>List.contains_iff_mem.2 (List.mem_map.2 ⟨x,hx,rfl⟩);have e2:((jT laid).filter λx=> !((jT laid).map (·.1)).contains x.1)=[]:=List.filter_eq_nil_iff.2 λx hx=>by rw[List.contains_iff_mem.2 (List.mem_map.2 ⟨x,hx,rfl⟩)];simp
 have h:laidMet prog (jT laid) (jL os laid):=laidMet_layVars (w0:=me os) ((jT laid).map (·.1)) [] (by rw[e1];rfl) (by rw[e1];exact hf) (by rw[e1];exact hi) (by rw[e2];exact LaidIn.none);exact h.of_heap (by simp[World.memory,World.forCall,Input.heap])
theorem V4 {W:World}{laid:List (String×DataW Unit)}(hL:laidMetH prog laid W)(hm:("errors.errorType",Rows.laid_errors_errorType)∈laid):0<W.heap.size:=by
 have h:=(laidMetH_iff.1 hL).2 _ (List.mem_filter.2 ⟨hm,be⟩)
 obtain⟨name,u,ty,h1,h2,h3,h4,h5⟩:=h
 obtain⟨e,fz,hh⟩:=vV (show prog.globalNamed "errors.errorType" =some 0 by kernel_rfl) h5
 exact(Array.getElem?_eq_some_iff.1 hh).1
end
section
theorem Iz {α β:Type}(k:Nat)(E:α->List β)(hE:∀z,(E z).length=k):∀(zs:List α) (cs:List β),cs.length=zs.length*k->
  (∀i z,zs[i]? =some z->(cs.drop (i*k)).take k=E z)->cs=zs.flatMap E
 |[],cs,hl,_=>by
  simp only[E_,Nat.zero_mul] at hl;simp[s_ hl]
 |z::zs,cs,hl,h=>by
  have h0:=h 0 z rfl;simp only[Nat.zero_mul,YO] at h0;have hr:=Iz k E hE zs (cs.drop k) (by rw[k_,hl,j_,U_];omega) (λi y hy=>by
   have:=h (i+1) y hy;rw[Q_];rw[U_,Nat.add_comm] at this;exact this)
  rw[O_,<-h0,<-hr,List.take_append_drop]
theorem td {R:Seal}:∀(l:List (IntKind×Int)),bX R (l.map λx=>.int x.1 x.2) (l.map λx=>.int x.1 x.2)
 |[]=>rfl
 |_::l=>⟨_,_,rfl,rfl,td l⟩
section
variable {P:Program} {H:Type} {enc:TypeId×Value->H} {w:World} {base:Nat} {spare:Nat->Bool} {held:Bool}
theorem sT {t e n fuel:Nat}{k:IntKind}{cs:List Value}{ps:List MemPlace}{zs:List Nat}(ht:P.underlying t=some (.array n e))(he:P.underlying e=some (.int k))(hc:P.cellsOf e=1)(hct:P.cellsOf t=n)
  (h:DataW.trod enc P w base spare held fuel t cs=some (.agg (zs.map λx:Nat=>.lit (.int k (x:Int))),ps)) (hz:zs.length=n):cs=zs.flatMap λx:Nat=>[Value.int k (x:Int)]:=by
 obtain⟨xs,m,_,ex,hl,hxl,hel⟩:=DataW.trod_array ht h;have e3:(xs.map (·.1))=zs.map λx:Nat=>.lit (.int k x):=(DataW.agg.inj (Prod.mk.inj ex).1).symm;refine Iz 1 _ (λ_=>rfl) zs cs a_ (λi z hi=> ?_)
 have hin:i<zs.length:=(List.getElem?_eq_some_iff.1 hi).1;have hE:=hel i a_;rw[hc,y_ a_] at hE;obtain⟨y,e1,e2,_⟩:=DataW.trod_int he hE;have e4:(xs.map (·.1))[i]? =(zs.map λx:Nat=>(DataW.lit (.int k x):DataW H))[i]? :=by rw[e3]
 rw[List.getElem?_map,List.getElem?_map,y_ (by omega:i<xs.length),hi,e2] at e4;simp only[YZ,g_,DataW.lit.injEq,Lit.int.injEq,true_and] at e4;rw[e1,e4]
end
theorem nI {P:Program}{W:World}{laid:List (String×DataW Unit)}(hL:laidMetH P laid W){n:String}{d:DataW Unit}(hm:(n,d)∈laid)(hn:d.handleName?.isNone=true){g:Nat}{t:TypeId}(hg:P.globalNamed n=some g)(ht:(P.globals[g]?).map (·.type)=some t):
  ∃cs e fz fuel p,W.heap[g]? =some (.cells cs e fz)/\DataW.trod (λ_=>()) P W 0 (λ_=>true) false fuel t cs.toList=some (d,p):=by
 have h1:=(laidMetH_iff.1 hL).1;obtain⟨ps,h,_⟩:=h1;have key:∀(l:List (String×DataW Unit)) (ps:List MemPlace),DataW.LaidVars P W l ps->(n,d)∈l->∃cs e fz fuel p,W.heap[g]? =some (.cells cs e fz)/\DataW.trod (λ_=>()) P W 0 (λ_=>true) false fuel t cs.toList=some (d,p):=by
  intro l;induction l with
  |nil=>intro ps _ hm;cases hm
  |cons a r ih=>
   obtain⟨m,b⟩:=a;rintro ps ⟨g',t',cs,fuel,p,q,e1,e2,e3,e4,e5,_⟩ hm;rcases List.mem_cons.1 hm with hm|hm
   ·cases hm;obtain rfl:=Option.some.inj (hg.symm.trans e1);obtain rfl:=Option.some.inj (ht.symm.trans e2);obtain⟨e,fz,hh⟩:=vV hg e3;exact⟨cs,e,fz,fuel,p,hh,e4⟩
   ·exact ih q e5 hm
 exact key _ ps h (List.mem_filter.2 ⟨hm,hn⟩)
theorem nv {H:Type}{enc:TypeId×Value->H}{a:Assume}{C:Checked}{os:Os}{f:FuncId}{fn:Func}{s:ChangeSpec}{conds:List PathCond}{apart fresh handsOn again:Bool}{X:World->Array Value->Prop}
  (hX:∀(w w':World) (args:Array Value),w.heap=w'.heap->X w args->X w' args)
  (own:ownKnob C.prog.godebug=none) (started:os.Started) (noInit:C.prog.inits.idxOf? f=none) (hfn:C.prog.funcs[f]? =some fn)
  (witness:∃(w:World) (tape:Tape) (i:Input),w.os=os/\(w.forCall tape i).Shaped C.prog/\i.vars=[]/\Input.okWide C.prog (w.forCall tape i) .any w.heap.size f i/\
   ((s.pre enc C.prog fn conds apart (w.forCall tape i).memory i.args/\X (w.forCall tape i).memory i.args)/\sizedMet enc C.prog fn (OpenSpec.ofChange s) apart (w.forCall tape i).memory i.args)/\a.holds C.prog (lone (Frame.enter C.prog f i.args .normal) [] (w.forCall tape i)))
  (contract:∀(W:World) (base:Nat) (args:Array Value) (ds gs:List (DataW H)) (before:List MemPlace),
   (∀(j:Nat) t v,fn.params[j]? =some t->args[j]? =some v->Value.okWide C.prog W .any base t v)->
   DataW.Whole enc C.prog fn.params.toList s.vars apart W args.toList ds gs before->
   conds.all (PathCond.test C.prog ⟨fn.params.toList,ds,s.plain.varTypes C.prog,gs⟩)=true->
   X W args->W.ShapedOpen C.prog->
   Calls C.prog f args W λe W'=>∃v,e= .returned v/\s.post enc C.prog fn apart fresh handsOn again W args v W'):
  ReturnsInHanded a C os f .any (λw args=>(s.pre enc C.prog fn conds apart w args/\X w args)/\sizedMet enc C.prog fn (OpenSpec.ofChange s) apart w args) (s.post enc C.prog fn apart fresh handsOn again):=by
 refine returnsInHanded_of_calls own started noInit witness ?_;intro w tape i _ hsh _ hok hpre _;obtain⟨_,_,_,fn',hfn',_,_,_,_,hval⟩:=hok;have e:fn'=fn:=Option.some.inj (hfn'.symm.trans hfn);subst e;obtain⟨⟨⟨ds,gs,before,hw,hc⟩,hx⟩,_⟩:=hpre;have hw':=DataW.Whole.of_heap (w':=w.forCall tape i) (by rfl) hw;refine(contract (w.forCall tape i) w.heap.size i.args ds gs before hval hw' hc (hX _ _ _ (by rfl) hx) hsh).mono λe W' ⟨v,he,hp⟩=> ?_;subst he;exact ChangeSpec.post_blind hp
theorem O2 {W:World}(h:W.ShapedOpen prog):∃m,W.cell? ⟨2,0,none⟩=some (.int .i64 m):=
 cell_of_shapedOpen_int (t:=3) (zero:=#[.int .i64 0]) h (of_decide_eq_true be) be rfl be be underlying3
theorem HA {W:World}{k:Nat}(hk:2<k){m:Int}(h:W.cell? ⟨2,0,none⟩=some (.int .i64 m)):dK (cg W k) 2 0 [.int .i64 m]:=by
 unfold World.cell? at h
 split at h
 ·rename_i C e fz hW
  refine i7 hk hW ?_
  have h:C[0]? =some (.int .i64 m):=h
  have h0:=(Array.getElem?_eq_some_iff.1 h)
  obtain⟨hlt,h1⟩:=h0
  have e1:C.toList.take 1=[.int .i64 m]:=by
   have hl:0<C.toList.length:=by simpa using hlt
   have:=x_ (l:=C.toList) (i:=0) hl
   simp at this;rw[show(1:Nat)=0+1 from rfl,x_ hl];simp[h1]
  show bX _ _ (C.toList.take 1);rw[e1];exact⟨_,_,rfl,rfl,rfl⟩
 ·cases h
def Cn (A B:Glo):Glo:=⟨λR=>A.p R/\B.p R,λR R' h k=>⟨A.mono R R' h k.1,B.mono R R' h k.2⟩⟩
theorem sf {A B:Glo}{L:List (Nat×List AVal)}(h:ab A L):ab (Cn A B) L:=λg cs hg R hR=>h g cs hg R hR.1
def PI:Glo:=⟨λR=>∃e fz,R 10=some (.cells (Lib.pow10Tab.map λz=>Value.int .u64 z).toArray e fz),λ_ _ hle ⟨e,fz,h⟩=>⟨e,fz,hle _ _ h⟩⟩
theorem Ov {W:World}{k:Nat}(hk:10<k){laid:List (String×DataW Unit)}(hL:laidMetH prog laid W)(hm:("internal/strconv.uint64pow10",Rows.laid_internal_strconv_uint64pow10)∈laid):PI.p (cg W k):=by
 obtain⟨C,e,fz,fuel,p,hW,hd⟩:=nI hL hm be (g:=10) (t:=372) be be
 have hc:=sT (n:=20) (zs:=(List.range 20).map (10^ ·)) underlying372 underlying332 be be hd (by simp)
 have e1:C=(Lib.pow10Tab.map fun z=>Value.int .u64 z).toArray:=by
  apply Array.ext'
  rw[hc]
  unfold Lib.pow10Tab
  simp
  rfl
 refine⟨e,fz,?_⟩
 unfold cg
 rw[if_pos hk,hW,e1]
theorem pj {W:World}{g:Nat}{o:Obj}(h:W.heap[g]? =some o):g<W.heap.size:=(Array.getElem?_eq_some_iff.1 h).1
theorem vp {W:World}{laid:List (String×DataW Unit)}(hL:laidMetH prog laid W){n:String}{d:DataW Unit}(hm:(n,d)∈laid)(hn:d.handleName?.isNone=true){g:Nat}{t:TypeId}(hg:prog.globalNamed n=some g)(ht:(prog.globals[g]?).map (·.type)=some t):g<W.heap.size:=by
 obtain⟨_,_,_,_,_,hW,_⟩:=nI hL hm hn hg ht;exact pj hW
end
section
section
variable {P:Program} {H:Type} {enc:TypeId×Value->H} {w:World} {base:Nat} {spare:Nat->Bool} {held:Bool}
theorem GM {t e n fuel u:Nat}{k:IntKind}{f0 f1:Field}{cs:List Value}{ps:List MemPlace}{zs:List (Nat×Nat)}(ht:P.underlying t=some (.array n e))(he:P.underlying e=some (.struct #[f0,f1]))(hc:P.cellsOf e=2)(hct:P.cellsOf t=n*2)
  (hf0:f0.type=u) (hf1:f1.type=u) (ho0:f0.offset=0) (ho1:f1.offset=1) (hu:P.underlying u=some (.int k)) (hcu:P.cellsOf u=1)
  (h:DataW.trod enc P w base spare held fuel t cs=some (.agg (zs.map λx:Nat×Nat=>.agg [.lit (.int k (x.1:Int)),.lit (.int k (x.2:Int))]),ps)) (hz:zs.length=n):cs=zs.flatMap λx:Nat×Nat=>[Value.int k (x.1:Int),Value.int k (x.2:Int)]:=by
 obtain⟨xs,m,_,ex,hl,hxl,hel⟩:=DataW.trod_array ht h;have e3:(xs.map (·.1))=zs.map λx:Nat×Nat=>.agg [.lit (.int k x.1),.lit (.int k x.2)]:=(DataW.agg.inj (Prod.mk.inj ex).1).symm;refine Iz 2 _ (λ_=>rfl) zs cs a_ (λi z hi=> ?_);have hin:i<zs.length:=(List.getElem?_eq_some_iff.1 hi).1;have hE:=hel i a_;rw[hc,y_ a_] at hE;generalize hcc:(cs.drop (i*2)).take 2=c at hE;obtain⟨y0,y1,m',e2,hl2,h0,h1⟩:=Go.ChangeShapes.trod_struct2 he hE;rw[hf0,ho0,hcu] at h0;rw[hf1,ho1,hcu] at h1;obtain⟨a0,c0,d0,_⟩:=DataW.trod_int hu h0;obtain⟨a1,c1,d1,_⟩:=DataW.trod_int hu h1;have e4:(xs.map (·.1))[i]? =(zs.map λx:Nat×Nat=>(DataW.agg [.lit (.int k x.1),.lit (.int k x.2)]:DataW H))[i]? :=by rw[e3]
 rw[List.getElem?_map,List.getElem?_map,y_ (by omega:i<xs.length),hi,e2,d0,d1] at e4;simp only[YZ,g_,DataW.agg.injEq,o_,DataW.lit.injEq,Lit.int.injEq,true_and,and_true] at e4;rw[hc] at hl2
 match c,hl2 with
 |[x0,x1],_=>
  simp only[YO,YR,YP,o_,and_true,YQ] at c0 c1;rw[c0,c1,e4.1,e4.2]
end
theorem Ig {W:World}{k:Nat}(hk:6<k){laid:List (String×DataW Unit)}(hL:laidMetH prog laid W)(hm:("unicode/utf8.first",Rows.laid_unicode_utf8_first)∈laid):dK (cg W k) 6 0 firstTab:=by
 obtain⟨C,e,fz,fuel,p,hW,hd⟩:=nI hL hm be (g:=6) (t:=236) be be
 refine i7 hk hW ?_
 have hc:=sT (n:=256) (zs:=Go.Pinned.utf8FirstZ) underlying236 underlying5 be be hd be
 have e1:firstTab=(Go.Pinned.utf8FirstZ.map fun x:Nat=>(IntKind.u8,(x:Int))).map fun x=>.int x.1 x.2:=by simp[firstTab]
 have e2:C.toList.take firstTab.length=(Go.Pinned.utf8FirstZ.map fun x:Nat=>(IntKind.u8,(x:Int))).map fun x=>.int x.1 x.2:=by
  have:C.toList=Go.Pinned.utf8FirstZ.map fun x:Nat=>Value.int .u8 (x:Int):=by
   rw[hc];generalize Go.Pinned.utf8FirstZ=l;induction l<;>simp_all
  rw[this,u_ (by simp[firstTab])]
  simp
 rw[e2,e1]
 exact td _
def KN:List (Nat×Nat):=[(128,191),(160,191),(128,159),(144,191),(128,143),(0,0),(0,0),(0,0),(0,0),(0,0),(0,0),(0,0),(0,0),(0,0),(0,0),(0,0)]
theorem Gg {W:World}{k:Nat}(hk:7<k){laid:List (String×DataW Unit)}(hL:laidMetH prog laid W)(hm:("unicode/utf8.acceptRanges",Rows.laid_unicode_utf8_acceptRanges)∈laid):dK (cg W k) 7 0 acceptTab:=by
 obtain⟨C,e,fz,fuel,p,hW,hd⟩:=nI hL hm be (g:=7) (t:=295) be be
 refine i7 hk hW ?_
 rw[GM (n:=16) (zs:=KN) underlying295 underlying294 be be rfl rfl rfl rfl underlying5 be hd be]
 exact td ((KN.flatMap fun x:Nat×Nat=>[x.1,x.2]).map fun x:Nat=>(IntKind.u8,(x:Int)))
end
section
attribute [local irreducible] bG au az aR ab ad
attribute [local irreducible] dP Lv fZ To
abbrev XU (br vc:Nat):HEnt:=HEnt.row (.slice (some ⟨br,0,none⟩) 8 vc) none 1 8 [.str [92],.str [92,92],.str [44],.str [92,44],.str [59],.str [92,59],.str [10],.str [92,110]]
abbrev YG (br bl vc:Nat)(cs:List AVal)(va:Option Addr)(vk vt bz b1 c1 b2 c2 b3 c3 b4 c4:Nat):Heap:=[XU br vc,.cells bl (some 319) cs,.row (.slice va vk vt) (some 9) 1 4 [.str [10],.str [59],.str [44],.str [92]],.cells bz (some 369) (qe (.own 4 (.slice (some ⟨b1,0,none⟩) 2 c1)) (.own 5 (.slice (some ⟨b2,0,none⟩) 2 c2)) (.own 6 (.slice (some ⟨b3,0,none⟩) 2 c3)) (.own 7 (.slice (some ⟨b4,0,none⟩) 2 c4)) (.own 2 (.slice va vk vt))),.buf b1 [92,110] c1,.buf b2 [92,59] c2,.buf b3 [92,44] c3,.buf b4 [92,92] c4]
theorem MC {G:Glo}(br bl vc:Nat):ad prog G 247 [.raw (pv bl 0)] [XU br vc,.cells bl (some 319) ((fH (.slice (some ⟨br,0,none⟩) 8 vc)).set 1 (.int .i32 1))]
  (λr H=>∃va vk vt bz b1 c1 b2 c2 b3 c3 b4 c4,Gj 4 va vk/\r= .ret (.iface 370 (.own 3 (pv bz 0)))/\H=YG br bl vc ((fH (.slice (some ⟨br,0,none⟩) 8 vc)).set 1 (.int .i32 1)) va vk vt bz b1 c1 b2 c2 b3 c3 b4 c4):=by
 have hGL:ab G []:=al;unfold fH;refine ji 1 func247 call247 rfl rfl rfl rfl hGL rfl ?_;intro C hC;refine ao ?_;intros;have d0:([.str [92],.str [92,92],.str [44],.str [92,44],.str [59],.str [92,59],.str [10],.str [92,110]]:List AVal)[0]? =some (.str [92]):=rfl;have r0:cd (.slice (some ⟨br,0,none⟩) 8 vc) br 8/\0<8*1:=⟨⟨_,rfl⟩,b_⟩;have d1:([.str [92],.str [92,92],.str [44],.str [92,44],.str [59],.str [92,59],.str [10],.str [92,110]]:List AVal)[1]? =some (.str [92,92]):=rfl;have r1:cd (.slice (some ⟨br,0,none⟩) 8 vc) br 8/\1<8*1:=⟨⟨_,rfl⟩,b_⟩;have d2:([.str [92],.str [92,92],.str [44],.str [92,44],.str [59],.str [92,59],.str [10],.str [92,110]]:List AVal)[2]? =some (.str [44]):=rfl;have r2:cd (.slice (some ⟨br,0,none⟩) 8 vc) br 8/\2<8*1:=⟨⟨_,rfl⟩,b_⟩;have d3:([.str [92],.str [92,92],.str [44],.str [92,44],.str [59],.str [92,59],.str [10],.str [92,110]]:List AVal)[3]? =some (.str [92,44]):=rfl;have r3:cd (.slice (some ⟨br,0,none⟩) 8 vc) br 8/\3<8*1:=⟨⟨_,rfl⟩,b_⟩;have d4:([.str [92],.str [92,92],.str [44],.str [92,44],.str [59],.str [92,59],.str [10],.str [92,110]]:List AVal)[4]? =some (.str [59]):=rfl;have r4:cd (.slice (some ⟨br,0,none⟩) 8 vc) br 8/\4<8*1:=⟨⟨_,rfl⟩,b_⟩;have d5:([.str [92],.str [92,92],.str [44],.str [92,44],.str [59],.str [92,59],.str [10],.str [92,110]]:List AVal)[5]? =some (.str [92,59]):=rfl;have r5:cd (.slice (some ⟨br,0,none⟩) 8 vc) br 8/\5<8*1:=⟨⟨_,rfl⟩,b_⟩;have d6:([.str [92],.str [92,92],.str [44],.str [92,44],.str [59],.str [92,59],.str [10],.str [92,110]]:List AVal)[6]? =some (.str [10]):=rfl;have r6:cd (.slice (some ⟨br,0,none⟩) 8 vc) br 8/\6<8*1:=⟨⟨_,rfl⟩,b_⟩;have d7:([.str [92],.str [92,92],.str [44],.str [92,44],.str [59],.str [92,59],.str [10],.str [92,110]]:List AVal)[7]? =some (.str [92,110]):=rfl
 have r7:cd (.slice (some ⟨br,0,none⟩) 8 vc) br 8/\7<8*1:=⟨⟨_,rfl⟩,b_⟩
 refine mQ hC hGL 5 ?_
 refine ao ?_
 intros
 refine tq (m:=4) hC hGL rfl rfl a_ rfl rfl rfl rfl rfl rfl rfl (λbt=> ?_)
 refine ao ?_
 intros
 refine mQ hC hGL 5 ?_
 refine ao ?_
 intros
 refine aZ hC hGL (gk [10] rfl (by intro v hv;simp only[p_,t_,or_false] at hv;omega) rfl rfl rfl rfl rfl rfl) rfl rfl ?_
 refine ao ?_
 intros
 refine aZ hC hGL (gk [59] rfl (by intro v hv;simp only[p_,t_,or_false] at hv;omega) rfl rfl rfl rfl rfl rfl) rfl rfl ?_
 refine ao ?_
 intros
 refine aZ hC hGL (gk [44] rfl (by intro v hv;simp only[p_,t_,or_false] at hv;omega) rfl rfl rfl rfl rfl rfl) rfl rfl ?_
 refine ao ?_
 intros
 refine aZ hC hGL (gk [92] rfl (by intro v hv;simp only[p_,t_,or_false] at hv;omega) rfl rfl rfl rfl rfl rfl) rfl rfl ?_
 refine ao ?_
 intros
 exact⟨_,At _,_,_,_,_,_,_,_,_,_,_,_,_,by assumption,rfl,rfl⟩
end
section
abbrev XT:List AVal:=[.str [92],.str [92,92],.str [44],.str [92,44],.str [59],.str [92,59],.str [10],.str [92,110]]
set_option maxRecDepth 20000 in
theorem RH (a0 a1 a2 a3 t x:AVal):(qe a0 a1 a2 a3 t).set 10 x=qe x a1 a2 a3 t:=rfl
set_option maxRecDepth 20000 in
theorem RF (a0 a1 a2 a3 t x:AVal):(qe a0 a1 a2 a3 t).set 59 x=qe a0 x a2 a3 t:=rfl
set_option maxRecDepth 20000 in
theorem RG (a0 a1 a2 a3 t x:AVal):(qe a0 a1 a2 a3 t).set 44 x=qe a0 a1 x a3 t:=rfl
set_option maxRecDepth 20000 in
theorem RE (a0 a1 a2 a3 t x:AVal):(qe a0 a1 a2 a3 t).set 92 x=qe a0 a1 a2 x t:=rfl
set_option maxRecDepth 20000 in
theorem NQ (a0 a1 a2 a3 t x:AVal):(qe a0 a1 a2 a3 t).set 256 x=qe a0 a1 a2 a3 x:=rfl
abbrev V3 (i:Nat):AVal:=.str [([10,59,44,92]:List UInt8).getD i 0]
theorem S1:TN escF [10,59,44,92] (qe (.list 1 2 (kG [92,110])) (.list 1 2 (kG [92,59])) (.list 1 2 (kG [92,44])) (.list 1 2 (kG [92,92])) (.list 1 4 V3)):=by
 refine⟨λc hc=> ?_,λc hc=> ?_,Dx ..,b_⟩
 ·rw[mI c.toNat_lt];simp only[p_,t_,or_false] at hc;rcases hc with rfl|rfl|rfl|rfl
  all_goals exact⟨rfl,rfl⟩
 ·rw[mI c.toNat_lt];simp only[p_,t_,or_false,not_or] at hc;have h:∀k:UInt8,c≠k->c.toNat≠k.toNat:=λk hk e=>hk (UInt8.toNat_inj.1 e);have h0:c.toNat≠10:=h 10 hc.1;have h1:c.toNat≠59:=h 59 hc.2.1;have h2:c.toNat≠44:=h 44 hc.2.2.1;have h3:c.toNat≠92:=h 92 hc.2.2.2;exact⟨by rw[if_neg h3,if_neg h2,if_neg h1,if_neg h0],FD h3 h2 h1 h0⟩
theorem PW (s:List UInt8):escS s=s.flatMap escF:=rfl
attribute [local irreducible] bG au aa az aR ab ad
attribute [local irreducible] qe escF escS
theorem IK {G:Glo}:Gn G 8 XT escF [10,59,44,92]:=λbr bl vc=>by
 refine Fw (MC (G:=G) br bl vc) ?_
 rintro r H ⟨va,vk,vt,bz,b1,c1,b2,c2,b3,c3,b4,c4,hva,rfl,rfl⟩;intro C R w e hm he;obtain⟨r2,H2,R2,⟨e1,e2⟩,h2,h3⟩:=v6 (a':=.rop (qe (.list 1 2 (kG [92,110])) (.list 1 2 (kG [92,59])) (.list 1 2 (kG [92,44])) (.list 1 2 (kG [92,92])) (.list 1 4 V3)) 0) (H':=[QI br 8 vc XT,.cells bl (some 319) (W3 br 8 vc)])
  (λC=>an (lq (i:=7) (k:=3) (p:=92) rfl rfl λR hr=>jm (RE ..) (mI b_) λ_=>cE hr)
   (an (lq (i:=6) (k:=3) (p:=44) rfl rfl λR hr=>jm (RG ..) (mI b_) λ_=>cE hr)
   (an (lq (i:=5) (k:=3) (p:=59) rfl rfl λR hr=>jm (RF ..) (mI b_) λ_=>cE hr)
   (an (lq (i:=4) (k:=3) (p:=10) rfl rfl λR hr=>jm (RH ..) (mI b_) λ_=>cE hr)
   (an (kS (i:=2) (k:=2) (p:=256) V3 rfl rfl (λj hj=>by rcases(show j=0\/j=1\/j=2\/j=3 by omega) with rfl|rfl|rfl|rfl<;>exact⟨rfl,rfl⟩) λR hr=>jm (NQ ..) (Dx ..) λ_=>cE hr)
   (an (aA (i:=2) (k:=0) rfl rfl) (bL ah aF))))))) C R w e hm he
 exact⟨r2,H2,R2,⟨_,S1,e1,e2⟩,h2,h3⟩
theorem ui {G:Glo}(s:List UInt8)(hl:s.length<=2000000)(hct:∀c,ak prog G 223 [.str s,.str [c]] (.int .i64 (s.countP (· ==c):Nat))):ak prog G 207 [.str s] (.str (escS s)):=by
 refine ax func207 call207 λC hC hGL=> ?_;refine ao ?_;intros;refine⟨_,kF 8 _ b_ b_ ?_,?_,?_⟩
 ·unfold az;exact ld rfl
 ·rintro v H' ⟨bl,va,vk,vc,hva,e,rfl⟩;cases e;obtain⟨br,rfl,rfl⟩:=hva a_;have e2:=un (IK (G:=G)) b_ br bl vc s hl hct;rw[<-PW] at e2;refine ao ?_;intros;refine CF e2 ?_;exact eK
 ·rintro v H' ⟨bl,va,vk,vc,hva,e,rfl⟩;cases e
end
section
attribute [local irreducible] bG au aa az aR ab ad
attribute [local irreducible] escF escS
theorem K5 {G:Glo}(l:List (List UInt8))(hn:l.length<=2000000)(hl:Lib.lens l<=2000000):ak prog G 230 [.list 1 l.length (aB l)] (.tuple [.str (joinT l),(sb l).A]):=by
 have hE:=λk=>ui (G:=G) (l.getD k []) (by have:=ii (l:=l) (k:=k);omega) (qb _);have hj:=pT l;refine ax func230 call230 λC hC hGL=> ?_;cases l with
 |nil=>
  exact bB
 |cons x r=>
  refine aK ?_;intros;refine nB 4 1 rfl ?_;refine lp hC hGL (λ(y:List (List UInt8)×Value)=>[(4,.own 0 y.2),(11,.list 1 (x::r).length (aB (x::r))),(12,.int .i64 ((x::r).length:Nat)),(13,.int .i64 (y.1.length:Nat))]) (λy=>[.row y.2 none 1 y.1.length (bj y.1)]) (λy=>y.1.length<=(x::r).length/\y.1=((x::r).map escS).take y.1.length) (λy=>(x::r).length-y.1.length) ([],.slice none 0 0) ?_ ah rfl ?_
  ·exact⟨Nat.zero_le _,rfl⟩
  ·rintro⟨ps,v⟩ ⟨h1,h2⟩;have h1:ps.length<=(x::r).length:=h1;have h2:ps=((x::r).map escS).take ps.length:=h2;repeat' (first|(conv=>whnf);first|refine .w ?_|refine .v ?_|refine eh ?_ ?_<;>(intro hb;try exact dd hb)|apply aT|apply bM|(apply cR<;>intro hb)|(apply cX;intro hbd)|(apply bD;exact hE _)|(apply aV (i:=0) rfl;exact hE _)|(apply cY;intro bl)|(apply dv;intro va vk vc hva)|(apply du;intro v)|(apply dw;intro bl cap hcap)|apply dI|(apply dq<;>intro hnx)|apply d8 mixed hC hGL be|(apply cq;assumption;exact hE _;exact rfl)|(show Rt _ _ _;exact cP)|fail)
   all_goals try conv=>whnf
   ·have hb:((ps.length:Nat):Int)<(((x::r).length:Nat):Int):=hb;have hlt:ps.length<(x::r).length:=by omega
    refine cQ (ps++[escS ((x::r).getD ps.length [])],.slice va vk vc) ?_ ?_ ⟨rfl,rfl,rfl,?_,trivial⟩ ?_
    ·refine⟨?_,?_⟩
     ·show(ps++[escS ((x::r).getD ps.length [])]).length<=(x::r).length;rw[d_,Rf];omega
     ·show ps++[escS ((x::r).getD ps.length [])]=((x::r).map escS).take (ps++[escS ((x::r).getD ps.length [])]).length;rw[d_,Rf,yW hlt,<-h2]
    ·show(x::r).length-(ps++[escS ((x::r).getD ps.length [])]).length<(x::r).length-ps.length;rw[d_,Rf];omega
    ·show some (AVal.int .i64 (((ps.length:Nat):Int)+1))=some (AVal.int .i64 ((ps++[escS ((x::r).getD ps.length [])]).length:Nat));rw[d_];rfl
    ·dsimp only
     rw[<-ce,d_];rfl
   ·have hb:(((x::r).length:Nat):Int)<=((ps.length:Nat):Int):=hb;have h3:ps=(x::r).map escS:=by rw[h2,u_ (by rw[C_];omega)]
    subst h3;refine aV (i:=0) rfl (fh ((x::r).map escS) [44] v a_ (by have:(Lib.join ((x::r).map escS) [44]).length<=_:=hj;omega)) ?_;exact bB
theorem Ol {G:Glo}(l:List (List UInt8))(hn:l.length<=2000000)(hl:Lib.lens l<=2000000):ak prog G 226 [.list 1 l.length (aB l)] (.tuple [.str (joinT l),.int .i64 (sb l).e]):=by
 have hE:=λk=>wQ (G:=G) (l.getD k []) (by have:=ii (l:=l) (k:=k);omega);have hj:=pT l;refine ax func226 call226 λC hC hGL=> ?_;cases l with
 |nil=>
  exact bB
 |cons x r=>
  have hq:∀k,(escS x++Lib.joinTail [44] ((r.map escS).take k)).length<=(joinT (x::r)).length:=λk=>by
   unfold joinT;rw[S_,Lib.join_cons,d_,d_];have:=Lib.joinTail_take_le [44] (r.map escS) k;omega
  have hx:∀k,(escS ((x::r).getD k [])).length<=4000000:=λk=>by
   have h1:=(sl ((x::r).getD k [])).2;have h2:=ii (l:=x::r) (k:=k);omega
  have k1:=@hE;refine aK ?_;intros;refine lp hC hGL (λk:Nat=>[(4,.str (escS x++Lib.joinTail [44] ((r.map escS).take k))),(15,.list 1 ((x::r).length-1) (λk=>aB (x::r) (1+k))),(16,.int .i64 (((x::r).length-1:Nat):Int)),(17,.int .i64 (k:Nat))]) (λ_=>[]) (λk=>k<=r.length) (λk=>r.length-k) 0 (Nat.zero_le _) ⟨?_,rfl,rfl,rfl,trivial⟩ rfl ?_
  ·show some (AVal.str (escS x))=some (AVal.str (escS x++Lib.joinTail [44] []));simp[Lib.joinTail]
  ·intro k hk;have hq1:=hq k;have hx1:=hx (1+k);have hgl:(x::r).getD (1+k) []=r.getD k []:=by rw[Nat.add_comm];rfl
   repeat' (first|(conv=>whnf);first|refine .w ?_|refine .v ?_|refine eh ?_ ?_<;>(intro hb;try exact dd hb)|apply aT|apply bM|(apply cR<;>intro hb)|(apply cX;intro hbd)|(apply bD;exact hE _)|(apply aV (i:=0) rfl;exact hE _)|(apply cY;intro bl)|(apply dv;intro va vk vc hva)|(apply du;intro v)|(apply dw;intro bl cap hcap)|apply dI|(apply dq<;>intro hnx)|apply d8 mixed hC hGL be|(apply cq;assumption;exact hE _;exact rfl)|(show Rt _ _ _;exact cP)|fail)
   all_goals try conv=>whnf
   ·have hb2:((k:Nat):Int)<((r.length:Nat):Int):=hb;have hlt:k<r.length:=by omega
    refine cQ (k+1) ?_ ?_ ⟨?_,rfl,rfl,rfl,trivial⟩ rfl
    ·exact hlt
    ·show r.length-(k+1)<r.length-k;omega
    ·show some (AVal.str (escS x++Lib.joinTail [44] ((r.map escS).take k)++([44]++escS ((x::r).getD (1+k) []))))=some (AVal.str (escS x++Lib.joinTail [44] ((r.map escS).take (k+1))));rw[Lib.joinTail_take_succ [44] (r.map escS) k (escS (r.getD k [])) (by rw[List.getElem?_map,f_,y_ hlt];rfl),hgl];simp only[An]
   ·have hb2:((r.length:Nat):Int)<=((k:Nat):Int):=hb;apply aj;unfold joinT;rw[u_ (by rw[C_];omega),S_,Lib.join_cons];rfl
end
section
attribute [local irreducible] bG au aa az aR ab ad
attribute [local irreducible] escF escS joinT sb
theorem AH:sb []= .errno 8:=by unfold sb;rw[if_pos rfl]
theorem xM {l:List (List UInt8)}(h:l≠[]):sb l= .none:=by unfold sb;rw[if_neg h]
theorem we {G:Glo}(L:List (List (List UInt8)))(hs:Small L):ak prog G 208 [.list 1 L.length (gM L)] (.tuple [.str (iq L),(jf L).A]):=by
 have hJ:=λk=>K5 (G:=G) (L.getD k []) (hs.k k).1 (hs.k k).2;have hn:=hs.n;by_cases h0:L=[]
 ·subst h0;refine ax func208 call208 λC hC hGL=> ?_;exact bB
 ·have h00:L.length≠0:=λh=>h0 (s_ h);refine ax func208 call208 λC hC hGL=> ?_;refine aK ?_;intros;refine nB 4 1 rfl ?_;refine lp hC hGL (λ(y:List (List UInt8)×Value)=>[(4,.own 0 y.2),(13,.list 1 L.length (gM L)),(14,.int .i64 (L.length:Nat)),(15,.int .i64 (y.1.length:Nat))]) (λy=>[.row y.2 none 1 y.1.length (bj y.1)]) (λy=>y.1.length<=eA L/\y.1=(L.map joinT).take y.1.length) (λy=>L.length-y.1.length) ([],.slice none 0 0) ?_ ah rfl ?_
  ·exact⟨Nat.zero_le _,rfl⟩
  ·rintro⟨ps,v⟩ ⟨h1,h2⟩;have h1:ps.length<=eA L:=h1;have h2:ps=(L.map joinT).take ps.length:=h2;have h3:=rY L;by_cases hlt:ps.length<L.length
   ·have hJ1:=hJ ps.length;by_cases hnil:L.getD ps.length []=[]
    ·have hk:=tt hlt h1 hnil;rw[show sb (L.getD ps.length [])= .errno 8 by rw[hnil];exact AH] at hJ1;refine aK ?_;intros;apply aj;unfold iq jf;rw[if_pos a_,if_neg h0,if_pos a_,hk];rfl
    ·rw[xM hnil] at hJ1;repeat' (first|(conv=>whnf);first|refine .w ?_|refine .v ?_|refine eh ?_ ?_<;>(intro hb;try exact dd hb)|apply aT|apply bM|(apply cR<;>intro hb)|(apply cX;intro hbd)|(apply bD;exact hJ1)|(apply aV (i:=0) rfl;exact hJ1)|(apply cY;intro bl)|(apply dv;intro va vk vc hva)|(apply du;intro v)|(apply dw;intro bl cap hcap)|apply dI|(apply dq<;>intro hnx)|apply d8 mixed hC hGL be|(apply cq;assumption;exact hJ1;exact rfl)|(show Rt _ _ _;exact cP)|fail)
     all_goals try conv=>whnf
     have hm:=qQ hlt h1 hnil;refine cQ (ps++[joinT (L.getD ps.length [])],.slice va vk vc) ?_ ?_ ⟨rfl,rfl,rfl,?_,trivial⟩ ?_
     ·refine⟨?_,?_⟩
      ·show(ps++[joinT (L.getD ps.length [])]).length<=eA L;rw[d_,Rf];exact hm
      ·show ps++[joinT (L.getD ps.length [])]=(L.map joinT).take (ps++[joinT (L.getD ps.length [])]).length;rw[d_,Rf,ot hlt,<-h2]
     ·show L.length-(ps++[joinT (L.getD ps.length [])]).length<L.length-ps.length;rw[d_,Rf];omega
     ·show some (AVal.int .i64 (((ps.length:Nat):Int)+1))=some (AVal.int .i64 ((ps++[joinT (L.getD ps.length [])]).length:Nat));rw[d_];rfl
     ·dsimp only
      rw[<-ce,d_];rfl
   ·refine aK ?_;intros;have h5:eA L=L.length:=by omega
    have h4:ps=L.map joinT:=by rw[h2,u_ (by rw[C_];omega)]
    subst h4;refine aV (i:=0) rfl (fh (L.map joinT) [59] v a_ (wo hs)) ?_;refine aK ?_;intros;apply aj;unfold iq jf;rw[if_neg a_,if_neg h0,if_neg a_];rfl
theorem zg {G:Glo}(L:List (List (List UInt8)))(hs:Small L):ak prog G 191 [.list 1 L.length (gM L)] (.tuple [.str (iq L),.agg [.int .i64 (jf L).e,.int .i64 (jf L).p]]):=by
 have hJ:=λk=>Ol (G:=G) (L.getD k []) (hs.k k).1 (hs.k k).2;have hn:=hs.n;have hb8:=jc (G:=G) 8;have hg:=fp (G:=G);by_cases h0:L=[]
 ·subst h0;refine ax func191 call191 λC hC hGL=> ?_;exact bB
 ·have h00:L.length≠0:=λh=>h0 (s_ h);refine ax func191 call191 λC hC hGL=> ?_;refine aK ?_;intro bl;intros;refine nB 4 1 rfl ?_;refine lp hC hGL (λ(y:List (List UInt8)×Value)=>[(0,.list 1 L.length (gM L)),(3,.own 0 (pv bl 0)),(4,.own 1 y.2),(13,.int .i64 (L.length:Nat)),(14,.int .i64 (y.1.length:Nat))]) (λy=>[.cells bl (some 27) [.int .i64 0,.int .i64 0],.row y.2 none 1 y.1.length (bj y.1)]) (λy=>y.1.length<=eA L/\y.1=(L.map joinT).take y.1.length) (λy=>L.length-y.1.length) ([],.slice none 0 0) ?_ ah rfl ?_
  ·exact⟨Nat.zero_le _,rfl⟩
  ·rintro⟨ps,v⟩ ⟨h1,h2⟩;have h1:ps.length<=eA L:=h1;have h2:ps=(L.map joinT).take ps.length:=h2;have h3:=rY L;by_cases hlt:ps.length<L.length
   ·have hJ1:=hJ ps.length;by_cases hnil:L.getD ps.length []=[]
    ·have hk:=tt hlt h1 hnil;rw[show sb (L.getD ps.length [])= .errno 8 by rw[hnil];exact AH] at hJ1;have hJ1:ak prog G 226 [.list 1 (L.getD ps.length []).length (aB (L.getD ps.length []))] (.tuple [.str (joinT (L.getD ps.length [])),.int .i64 8]):=hJ1;refine aK ?_;intros;apply aj;unfold iq jf;rw[if_pos a_,if_neg h0,if_pos a_,hk];rfl
    ·rw[xM hnil] at hJ1;have hJ1:ak prog G 226 [.list 1 (L.getD ps.length []).length (aB (L.getD ps.length []))] (.tuple [.str (joinT (L.getD ps.length [])),.int .i64 0]):=hJ1;repeat' (first|(conv=>whnf);first|refine .w ?_|refine .v ?_|refine eh ?_ ?_<;>(intro hb;try exact dd hb)|apply aT|apply bM|(apply cR<;>intro hb)|(apply cX;intro hbd)|(apply bD;exact hJ1)|(apply aV (i:=0) rfl;exact hJ1)|(apply cY;intro bl)|(apply dv;intro va vk vc hva)|(apply du;intro v)|(apply dw;intro bl cap hcap)|apply dI|(apply dq<;>intro hnx)|apply d8 mixed hC hGL be|(apply cq;assumption;exact hJ1;exact rfl)|(show Rt _ _ _;exact cP)|fail)
     all_goals try conv=>whnf
     have hm:=qQ hlt h1 hnil;refine cQ (ps++[joinT (L.getD ps.length [])],.slice va vk vc) ?_ ?_ ⟨rfl,rfl,rfl,rfl,?_,trivial⟩ ?_
     ·refine⟨?_,?_⟩
      ·show(ps++[joinT (L.getD ps.length [])]).length<=eA L;rw[d_,Rf];exact hm
      ·show ps++[joinT (L.getD ps.length [])]=(L.map joinT).take (ps++[joinT (L.getD ps.length [])]).length;rw[d_,Rf,ot hlt,<-h2]
     ·show L.length-(ps++[joinT (L.getD ps.length [])]).length<L.length-ps.length;rw[d_,Rf];omega
     ·show some (AVal.int .i64 (((ps.length:Nat):Int)+1))=some (AVal.int .i64 ((ps++[joinT (L.getD ps.length [])]).length:Nat));rw[d_];rfl
     ·dsimp only
      rw[<-ce,d_];rfl
   ·refine aK ?_;intros;have h5:eA L=L.length:=by omega
    have h4:ps=L.map joinT:=by rw[h2,u_ (by rw[C_];omega)]
    subst h4;refine aV (i:=1) rfl (fh (L.map joinT) [59] v a_ (wo hs)) ?_;refine aK ?_;intros;apply aj;unfold iq jf;rw[if_neg a_,if_neg h0,if_neg a_];rfl
end
section
attribute [local irreducible] bG au aa az aR ab ad
attribute [local irreducible] am dX Pr.fit Ln.E Ln.T Vl.E Vl.T jv cz jM
theorem FW {G:Glo}(s:List UInt8)(hs:s.length<=1000000):ak prog G 111 [.str s] (.bool (L5 s)):=by
 have h1:=jI (G:=G) s a_;unfold L5;generalize am 97 122 (-32) s=u at*
 refine ax func111 call111 λC hC hGL=> ?_;refine xw ?_;repeat' first|exact .n|apply Lc.mk
 all_goals intros
 all_goals
  apply aj;refine congrArg AVal.bool ?_;rw[w_];simp only[Wk,bZ];simp[*]
theorem Nk {G:Glo}{m:Int}(hE:ab G errTy)(hM:ab G (bP m))(x:Vl)(hs:x.s.length<=10000)(hL:Small x.L)(hv:x.OK):ak prog G 167 [x.A] (.tuple [.str x.T,x.E.A]):=
 Dh x (uh hE hM x hv) (ui x.s a_ (qb _)) (we x.L hL) (Gz hM x.st)
theorem My {G:Glo}{m:Int}(hE:ab G errTy)(hM:ab G (bP m))(v:Int)(x:Itm)(hx:x.OK 10000):ak prog G 114 [J2 x,.int .i64 v] (.tuple [x.ln.A,x.2.E.A]):=by
 have h1:=Nk hE hM x.2 hx.s hx.L hx.v;generalize x.2.E=e at*
 unfold Vl.A at h1;rcases e with _|e|⟨e,p⟩
 ·simp only[Err.A] at h1 ⊢;refine ax func114 call114 λC hC hGL=> ?_;exact bB
 ·simp only[Err.A,lJ] at h1 ⊢;refine ax func114 call114 λC hC hGL=> ?_;exact bB
 ·simp only[Err.A,sP] at h1 ⊢;refine ax func114 call114 λC hC hGL=> ?_;exact bB
theorem Qy {G:Glo}{m:Int}(hE:ab G errTy)(hE2:pq G)(hP:fC G)(hM:ab G (bP m))(hS:qh G)(v:Int)(hv:v=3\/v=4)(x:Itm)(hx:x.OK 10000):ak prog G 52 [J2 x,.int .i64 v] (.int .i64 (x.w v)):=by
 have q1:=call47;have q2:=call110;have q3:=call115;have hc:=uB (G:=G) v;have h1:=xC (G:=G) x.p (bU v 4) hx.p.fit;have h4:=sG (G:=G) hE (x.p.E (bU v 4));have hn:x.1.n.length<=10000:=hx.p.n;have hps:x.1.ps.length<=10000:=hx.p.ps;have hq:∀k,(x.1.ps.getD k Pr.z).n.length<=1100000/\(x.1.ps.getD k Pr.z).vs.length<=10000/\Lib.lens (x.1.ps.getD k Pr.z).vs<=10000:=hx.p.q;have hvl:∀k j,((x.1.ps.getD k Pr.z).vs.getD j []).length<=10000:=λk j=>by
  have:=ii (l:=(x.1.ps.getD k Pr.z).vs) (k:=j);have:=(hq k).2.2;omega
 have hF:=FW (G:=G) x.1.n a_;have hve:eM v= .none:=by unfold eM;rw[if_pos hv]
 have hT:=wD (G:=G) hS v x.1.n x.1.ps a_ a_ (λk=>by have:=(hq k).1;omega) (λk=>⟨by have:=(hq k).2.1;omega,by have:=hvl k 0;omega⟩);have hV:=uh hE hM x.2 hx.v;have h5:=sG (G:=G) hE x.2.E;have hR:=rK (G:=G) hS v x.1.n a_;have hpr:=My (G:=G) hE hM v x hx;have hLP:=HJ (G:=G) x.ln (bU v 4) (Itm.fit hx);have hw:∀(_:x.p.E (bU v 4)= .none) (_:L5 x.1.n=false),(qN x.1.ps≠0->x.w v=qN x.1.ps)/\(qN x.1.ps=0->(x.k v≠x.2.t->x.w v=1)/\(x.k v=x.2.t->(x.2.E≠ .none->x.w v=x.2.E.e)/\(x.2.E= .none->x.w v=x.r v))):=λa b=>⟨TT a b,λc=>⟨TU a b c,λd=>⟨TS a b c d,w_r a b c d⟩⟩⟩;have hwl:=λa=>UF (v:=v) (x:=x) a;have hwf:=λa b=>Xd (v:=v) (x:=x) a b;have hln:x.2.E= .none->x.p.E (bU v 4)= .none->x.ln.E (bU v 4)= .none:=λ_ b=>Ln.E_v (p:=x.ln) b (Vl.T_hd _);rw[hve] at hT hR;generalize x.w v=W at*
 unfold Itm.r Itm.L at hw;unfold Itm.k at hw;obtain⟨⟨g,n,ps,vv⟩,u⟩:=x;unfold J2 at hpr ⊢;unfold Vl.A at hV;unfold Itm.p at h1 h4 hw hwl hwf hln;unfold Itm.ln at hpr hLP hln hw;dsimp only at*
 generalize Ln.E (bU v 4) ⟨g,n,ps,u.T⟩=eL at*
 generalize Ln.T (bU v 4) ⟨g,n,ps,u.T⟩=tL at*
 generalize jv v n ps=K at*
 generalize cz v n=r at*
 unfold Rl.A at hR;obtain⟨r0,r1,r2,r3⟩:=r;dsimp only at*
 generalize u.E=eV at*
 generalize u.T=tV at*
 generalize hE0:Ln.E (bU v 4) ⟨g,n,ps,[]⟩=e0 at*
 rcases e0 with _|e|⟨e,p⟩
 ·simp only[Err.A] at h1;cases hfr:L5 n with
  |true=>
   rw[hwf rfl hfr];rw[hfr] at hF;refine ax func52 call52 λC hC hGL=> ?_;exact bB
  |false=>
   rw[hfr] at hF;have hw:=hw rfl hfr;refine ax func52 call52 λC hC hGL=> ?_;refine aK ?_;intros;refine lp hC hGL (λk:Nat=>[(1,.int .i64 v),(2,.rop (df (⟨g,n,ps,vv⟩,u)) 0),(35,.list 2 ps.length (fU ps)),(36,.int .i64 (ps.length:Nat)),(37,.int .i64 (k:Nat))]) (λ_=>[]) (λk=>k<=ps.length/\∀j,j<k->pE ps j=0) (λk=>ps.length-k) 0 ⟨Nat.zero_le _,λj h=>absurd h (Uf _)⟩ ah rfl ?_;rintro k ⟨k1,k2⟩;by_cases hk:k<ps.length
   ·have hqk:=hq k;have hfi:=Hb hE2 hP hM (ps.getD k Pr.z) a_ a_ (λj=>by have:=hvl k j;omega);have hsa:=lh (G:=G) (ps.getD k Pr.z).n nTYP a_ b_;rw[show am 97 122 (-32) nTYP=nTYP by decide+kernel] at hsa;have hfd:=wE (G:=G) ps (ps.getD k Pr.z).n a_ (λk=>by have:=(hq k).1;omega) a_;cases hf:(ps.getD k Pr.z).fit with
    |false=>
     rw[hf] at hfi;have e:=Xt hf;rw[hw.1 (by rw[lZ hk k2 (by rw[e];decide),e];decide),lZ hk k2 (by rw[e];decide),e];exact bB
    |true=>
     rw[hf] at hfi;cases hty:aY (am 97 122 (-32) (ps.getD k Pr.z).n) nTYP with
     |true=>
      rw[hty] at hsa;have e:=Vt hf (λh=>h.1 (bZ.1 hty));refine aK ?_;intros;exact ga (k+1) ⟨a_,bO k2 e⟩ a_ ah aF
     |false=>
      rw[hty] at hsa;by_cases hd:dX (ps.getD k Pr.z).n ps 0<(k:Int)
      ·have e:=Xs hf (ku.1 hty) hd;rw[hw.1 (by rw[lZ hk k2 (by rw[e];decide),e];decide),lZ hk k2 (by rw[e];decide),e];exact bB
      ·have e:=Vt hf (λh=>hd h.2);refine aK ?_;intros;exact ga (k+1) ⟨a_,bO k2 e⟩ a_ ah aF
   ·have hw:=hw.2 (Oz a_ k2);by_cases hK:K=u.t
    ·have hw:=hw.2 hK;rcases eV with _|e|⟨e,p⟩
     ·have hw:=hw.2 rfl;have hln:=hln rfl rfl;subst hln;simp only[Err.A] at hV hpr hLP;subst hw;obtain rfl:=hK;by_cases ha:u.t=3/\0<r3/\r3≠(u.L.length:Int)
      ·rw[if_pos ha];obtain⟨a1,a2,a3⟩:=ha;have a4:(u.L.length:Int)≠r3:=λh=>a3 h.symm;exact bB
      ·rw[if_neg ha];by_cases a1:u.t=3
       ·by_cases a2:0<r3
        ·have a3:(u.L.length:Int)=r3:=by
          apply Classical.byContradiction;intro h;exact ha ⟨a1,a2,λk=>h k.symm⟩
         by_cases hl:1500<tL.length
         ·rw[if_pos hl];refine ao ?_;intros;rename_i b11 b13 _ _ _ _ _;refine eq (aA (i:=1) (k:=13) rfl rfl) ?_;refine bh mixed hC hGL false (λ_:Unit=>[(15,.str tL)]) (λ_=>[.cells b11 (some 105) [.int .i64 r0,.int .i64 r1,.int .i64 r2,.int .i64 r3],eD]) .p1 be xu ?_;intro _;exact bB
         ·rw[if_neg hl];refine ao ?_;intros;rename_i b11 b13 _ _ _ _ _;refine eq (aA (i:=1) (k:=13) rfl rfl) ?_;refine bh mixed hC hGL false (λ_:Unit=>[(15,.str tL)]) (λ_=>[.cells b11 (some 105) [.int .i64 r0,.int .i64 r1,.int .i64 r2,.int .i64 r3],eD]) .p1 be xu ?_;intro _;exact bB
        ·have a2':¬0<r3:=a2;by_cases hl:1500<tL.length
         ·rw[if_pos hl];refine ao ?_;intros;rename_i b11 b13 _ _ _ _;refine eq (aA (i:=1) (k:=13) rfl rfl) ?_;refine bh mixed hC hGL false (λ_:Unit=>[(15,.str tL)]) (λ_=>[.cells b11 (some 105) [.int .i64 r0,.int .i64 r1,.int .i64 r2,.int .i64 r3],eD]) .p1 be xu ?_;intro _;exact bB
         ·rw[if_neg hl];refine ao ?_;intros;rename_i b11 b13 _ _ _ _;refine eq (aA (i:=1) (k:=13) rfl rfl) ?_;refine bh mixed hC hGL false (λ_:Unit=>[(15,.str tL)]) (λ_=>[.cells b11 (some 105) [.int .i64 r0,.int .i64 r1,.int .i64 r2,.int .i64 r3],eD]) .p1 be xu ?_;intro _;exact bB
       ·by_cases hl:1500<tL.length
        ·rw[if_pos hl];refine ao ?_;intros;rename_i b11 b13 _ _ _;refine eq (aA (i:=1) (k:=13) rfl rfl) ?_;refine bh mixed hC hGL false (λ_:Unit=>[(15,.str tL)]) (λ_=>[.cells b11 (some 105) [.int .i64 r0,.int .i64 r1,.int .i64 r2,.int .i64 r3],eD]) .p1 be xu ?_;intro _;exact bB
        ·rw[if_neg hl];refine ao ?_;intros;rename_i b11 b13 _ _ _;refine eq (aA (i:=1) (k:=13) rfl rfl) ?_;refine bh mixed hC hGL false (λ_:Unit=>[(15,.str tL)]) (λ_=>[.cells b11 (some 105) [.int .i64 r0,.int .i64 r1,.int .i64 r2,.int .i64 r3],eD]) .p1 be xu ?_;intro _;exact bB
     ·rw[hw.1 (λh=>by cases h)];simp only[Err.A,Err.e,lJ] at hV h5 ⊢;exact bB
     ·rw[hw.1 (λh=>by cases h)];simp only[Err.A,Err.e,sP] at hV h5 ⊢;exact bB
    ·rw[hw.1 hK];exact bB
 ·rw[hwl (λh=>by cases h)];simp only[Err.A,Err.e,lJ] at h1 h4 ⊢;refine ax func52 call52 λC hC hGL=> ?_;exact bB
 ·rw[hwl (λh=>by cases h)];simp only[Err.A,Err.e,sP] at h1 h4 ⊢;refine ax func52 call52 λC hC hGL=> ?_;refine ao ?_;intros;refine bh mixed hC hGL false (λ_:Unit=>[(5,sP e p)]) (λ_=>[]) (.t 0 (.t 1 (.t 2 (.t 3 (.t 4 (.t 5 (.t 6 (.t 7 (.b 8 (.b 9 (.t 10 .done))))))))))) be xu ?_;intro _;exact bB
end
section
def jq (L:List (List UInt8×Int)):List (AVal×AVal):=L.map λx=>(.str x.1,.int .i64 x.2)
def ei (s:List UInt8):List (List UInt8×Int)->Nat->Option (Nat×Int)
 |[],_=>none
 |x::L,i=>if aY s x.1 then some (i,x.2) else ei s L (i+1)
def lv (s:List UInt8)(L:List (List UInt8×Int)):Int:=match ei s L 0 with
 |some (_,n)=>n
 |none=>0
theorem ke (s:List UInt8):∀(L:List (List UInt8×Int)) (i:Nat),ei s L i=(ei s L 0).map λx=>(x.1+i,x.2)
 |[],_=>rfl
 |x::L,i=>by
  simp only[ei];split
  ·simp
  ·rw[ke s L (i+1),ke s L (0+1)];cases ei s L 0 with
   |none=>rfl
   |some y=>simp only[YZ];congr 2;omega
theorem jH (s:List UInt8)(x:List UInt8×Int)(L:List (List UInt8×Int)):lv s (x::L)=if aY s x.1 then x.2 else lv s L:=by
 cases h:aY s x.1 with
 |true=>
  unfold lv;simp only[ei,h,Zc]
 |false=>
  unfold lv;simp only[ei,h,Bu,Zd];rw[ke s L (0+1)];cases ei s L 0 with
  |none=>rfl
  |some y=>rfl
theorem Al {s t:List UInt8}{n:Int}:∀{L:List (List UInt8×Int)},ei t L 0=none->lv s (L++[(t,n)])=if aY s t then n else lv s L
 |[],_=>by rw[L_,jH]
 |x::L,h=>by
  simp only[ei] at h;split at h
  ·cases h
  ·rename_i hx;rw[ke t L (0+1)] at h;have h0:ei t L 0=none:=by
    cases h1:ei t L 0 with
    |none=>rfl
    |some y=>rw[h1] at h;cases h
   rw[Lu,jH,Al h0,jH];cases h1:aY s x.1 with
   |false=>rfl
   |true=>
    have e1:=bZ.1 h1;cases h2:aY s t with
    |false=>rfl
    |true=>
     have e2:=bZ.1 h2;exact absurd (bZ.2 (e2.symm.trans e1)) hx
theorem EF {s t:List UInt8}{n m:Int}:∀{L:List (List UInt8×Int)} {j:Nat},ei t L 0=some (j,m)->lv s (L.set j (t,n))=if aY s t then n else lv s L
 |[],_,h=>by cases h
 |x::L,j,h=>by
  simp only[ei] at h;split at h
  ·rename_i hx;cases h;rw[List.set_cons_zero,jH,jH];dsimp only
   rw[bZ.1 hx];split<;>rfl
  ·rename_i hx;rw[ke t L (0+1)] at h;cases h1:ei t L 0 with
   |none=>rw[h1] at h;cases h
   |some y=>
    rw[h1] at h;simp only[YZ,g_,YV] at h;obtain⟨rfl,rfl⟩:=h;rw[show y.1+(0+1)=y.1+1 by omega,List.set_cons_succ,jH,EF (m:=y.2) h1,jH];cases h2:aY s x.1 with
    |false=>rfl
    |true=>
     have e1:=bZ.1 h2;cases h3:aY s t with
     |false=>rfl
     |true=>exact absurd (bZ.2 ((bZ.1 h3).symm.trans e1)) hx
theorem tv (L:List (List UInt8×Int))(s:List UInt8)(n:Int):jq L++[(AVal.str s,AVal.int .i64 n)]=jq (L++[(s,n)]):=by
 unfold jq;rw[Nm];rfl
theorem xy (L:List (List UInt8×Int))(j:Nat)(s:List UInt8)(n:Int):(jq L).set j (AVal.str s,AVal.int .i64 n)=jq (L.set j (s,n)):=by
 unfold jq;rw[List.map_set]
def kR (s:List UInt8)(n:Int)(L:List (List UInt8×Int)):List (List UInt8×Int):=match ei s L 0 with
 |some (j,_)=>L.set j (s,n)
 |none=>L++[(s,n)]
theorem OP (s t:List UInt8)(n:Int)(L:List (List UInt8×Int)):lv s (kR t n L)=if aY s t then n else lv s L:=by
 unfold kR;cases h:ei t L 0 with
 |none=>exact Al h
 |some y=>exact EF (m:=y.2) h
end
section
theorem lz (s:List UInt8){z:Nat->Prop}{f:AVal×AVal->List (AVal×AVal)->(Nat->Prop)->Nat->Prop}{L:List (List UInt8×Int)}(h:f (.str s,.int .i64 (lv s L)) [] (λ_=>True) 0)
  (hf:∀t n r ih i,(aY s t=true->f (.str s,.int .i64 n) [] (λ_=>True) 0)->(aY s t=false->ih (i+1))->f (.str t,.int .i64 n) r ih i:=by exact λ_ _ _ _ _ h1 h2=>(⟨λe=>(h1 e).1 (bZ.2 rfl),h2⟩:Sc _ _ _))
  (hz:f (.str s,.int .i64 0) [] (λ_=>True) 0->∀i,z i:=by exact λh _=>h.1 (bZ.2 rfl)):List.rec (motive:=λ_=>Nat->Prop) z f (jq L) 0:=by
 have h1:∀(L:List (List UInt8×Int)) (i:Nat),(match ei s L i with|some (_,n)=>f (.str s,.int .i64 n) [] (λ_=>True) 0|none=>∀i,z i)->List.rec (motive:=λ_=>Nat->Prop) z f (jq L) i:=by
  intro L;induction L with
  |nil=>exact λi h=>h i
  |cons x L ih=>
   intro i h;refine hf x.1 x.2 (jq L) _ i (λe=> ?_) (λe=> ?_)
   ·simp only[ei,e,Zc] at h;exact h
   ·simp only[ei,e,Bu,Zd] at h;exact ih (i+1) h
 refine h1 L 0 ?_;unfold lv at h;cases hl:ei s L 0 with
 |none=>rw[hl] at h;exact hz h
 |some y=>rw[hl] at h;exact h
theorem B9 (s:List UInt8){z:Nat->Prop}{f:AVal×AVal->List (AVal×AVal)->(Nat->Prop)->Nat->Prop}{L:List (List UInt8×Int)}(h1:∀j n,ei s L 0=some (j,n)->f (.str s,.int .i64 n) [] (λ_=>True) j)(h2:ei s L 0=none->∀i,z i)
  (hf:∀t n r ih i,(aY s t=true->f (.str s,.int .i64 n) [] (λ_=>True) i)->(aY s t=false->ih (i+1))->f (.str t,.int .i64 n) r ih i:=by exact λ_ _ _ _ _ h1 h2=>(⟨λe=>(h1 e).1 (bZ.2 rfl),h2⟩:Sc _ _ _)):List.rec (motive:=λ_=>Nat->Prop) z f (jq L) 0:=by
 have g:∀(L:List (List UInt8×Int)) (i:Nat),(∀j n,ei s L i=some (j,n)->f (.str s,.int .i64 n) [] (λ_=>True) j)->(ei s L i=none->∀i,z i)->List.rec (motive:=λ_=>Nat->Prop) z f (jq L) i:=by
  intro L;induction L with
  |nil=>exact λi _ h=>h rfl i
  |cons x L ih=>
   intro i k1 k2;refine hf x.1 x.2 (jq L) _ i (λe=> ?_) (λe=> ?_)
   ·exact k1 i x.2 (by simp only[ei,e,Zc])
   ·refine ih (i+1) (λj n hj=>k1 j n ?_) (λhj=>k2 ?_)
    ·simp only[ei,e,Bu,Zd];exact hj
    ·simp only[ei,e,Bu,Zd];exact hj
 exact g L 0 h1 h2
theorem GJ (s:List UInt8):(am 97 122 (-32) s).length=s.length:=by unfold am;rw[C_]
theorem Up {v:Int}{l:List Itm}(hv:v=3\/v=4)(h:60<l.length):Crd.E ⟨v,l⟩= .errno 4:=by unfold Crd.E;rw[if_pos hv,if_pos h]
theorem Uq {v:Int}{l:List Itm}(hv:¬(v=3\/v=4)):Crd.E ⟨v,l⟩= .errno 1:=by unfold Crd.E;rw[if_neg hv]
theorem Um {v:Int}{l:List Itm}(hv:v=3\/v=4)(h:¬60<l.length){k:Nat}(hk:k<l.length)(hj:∀j,j<k->(l.getD j Itm.z).w v=0)(hb:(l.getD k Itm.z).w v≠0):Crd.E ⟨v,l⟩= .at ((l.getD k Itm.z).w v) k:=by
 unfold Crd.E;rw[if_pos hv,if_neg h,Cu (f:=λi=>(l.getD i Itm.z).w v) hk hj hb]
theorem Un {v:Int}{l:List Itm}(hv:v=3\/v=4)(h:¬60<l.length)(hw:∀j,j<l.length->(l.getD j Itm.z).w v=0){k:Nat}(hk:k<l.length)(hj:∀j,j<k->ly v l j=0)(hb:ly v l k≠0):Crd.E ⟨v,l⟩= .at (ly v l k) k:=by
 unfold Crd.E;rw[if_pos hv,if_neg h,mX (f:=λi=>(l.getD i Itm.z).w v) hw];dsimp only
 rw[Cu hk hj hb]
theorem Uo {v:Int}{l:List Itm}(hv:v=3\/v=4)(h:¬60<l.length)(hw:∀j,j<l.length->(l.getD j Itm.z).w v=0)(hm:∀j,j<l.length->ly v l j=0):Crd.E ⟨v,l⟩=if Cr (JY v l) (aE v).length=0 then .none else .errno 7:=by
 unfold Crd.E;rw[if_pos hv,if_neg h,mX (f:=λi=>(l.getD i Itm.z).w v) hw];dsimp only
 rw[mX hm]
theorem OY {v:Int}{l:List Itm}{i:Nat}(h:0<(cz v (l.getD i Itm.z).1.n).b)(h2:(cz v (l.getD i Itm.z).1.n).b<=(jM l (am 97 122 (-32) (l.getD i Itm.z).1.n) i:Int)):ly v l i=9:=by unfold ly;rw[if_pos ⟨h,h2⟩]
theorem OZ {v:Int}{l:List Itm}{i:Nat}(h:¬(0<(cz v (l.getD i Itm.z).1.n).b/\(cz v (l.getD i Itm.z).1.n).b<=(jM l (am 97 122 (-32) (l.getD i Itm.z).1.n) i:Int))):ly v l i=0:=by unfold ly;rw[if_neg h]
theorem XJ {v:Int}{l:List Itm}{i:Nat}(h:(jM l ((aE v).getD i []) l.length:Int)<(cz v ((aE v).getD i [])).a):JY v l i=7:=by unfold JY;rw[if_pos h]
theorem XK {v:Int}{l:List Itm}{i:Nat}(h:¬(jM l ((aE v).getD i []) l.length:Int)<(cz v ((aE v).getD i [])).a):JY v l i=0:=by unfold JY;rw[if_neg h]
theorem Th {l:List Itm}{k:Nat}(hk:k<l.length){L:List (List UInt8×Int)}(h:∀s,lv s L=jM l s k):∀s,lv s (kR (am 97 122 (-32) (l.getD k Itm.z).1.n) (lv (am 97 122 (-32) (l.getD k Itm.z).1.n) L+1) L)=jM l s (k+1):=by
 intro s;rw[OP,tR hk,h,h];cases hs:aY s (am 97 122 (-32) (l.getD k Itm.z).1.n) with
 |true=>
  have:=bZ.1 hs;rw[if_pos rfl,<-this,if_pos (bZ.2 rfl)];omega
 |false=>
  rw[if_neg b_,if_neg (λh=>absurd (bZ.2 (bZ.1 h).symm) (by rw[hs];decide))];omega
attribute [local irreducible] bG au aa az aR ab ad
attribute [local irreducible] am cz jM jq ei lv kR aE Itm.w ly JY
theorem ID {G:Glo}{m:Int}(hE:ab G errTy)(hE2:pq G)(hP:fC G)(hM:ab G (bP m))(hS:qh G)(c:Crd)(hf:c.ok):ak prog G 28 [c.A] c.E.A:=by
 obtain⟨v,l⟩:=c;obtain⟨h70,ho⟩:=hf;dsimp only at h70 ho;have hN:=D6 (G:=G) v;by_cases hv:v=3\/v=4
 ·have hve:eM v= .none:=by unfold eM;rw[if_pos hv]
  rw[hve] at hN;simp only[Err.A] at hN;by_cases h60:60<l.length
  ·rw[Up hv h60];refine ax func28 call28 λC hC hGL=> ?_;exact bB
  ·have hone:∀k,k<l.length->ak prog G 52 [J2 (l.getD k Itm.z),.int .i64 v] (.int .i64 ((l.getD k Itm.z).w v)):=λk hk=>Qy hE hE2 hP hM hS v hv _ (tE ho hk);refine ax func28 call28 λC hC hGL=> ?_;refine aK ?_;intros;refine lp hC hGL (λk:Nat=>[(1,.rop [.int .i64 v,.list 15 l.length (eS l)] 0),(3,.list 1 (aE v).length (aB (aE v))),(33,.list 15 l.length (eS l)),(34,.int .i64 (l.length:Nat)),(35,.int .i64 (k:Nat))]) (λ_=>[]) (λk=>k<=l.length/\∀j,j<k->(l.getD j Itm.z).w v=0) (λk=>l.length-k) 0 ⟨Nat.zero_le _,λj h=>absurd h (Uf _)⟩ ah rfl ?_;rintro k ⟨k1,k2⟩;by_cases hk:k<l.length
   ·have h1:=hone k hk;unfold J2 at h1;by_cases hw:(l.getD k Itm.z).w v=0
    ·rw[hw] at h1;refine aK ?_;intros;exact ga (k+1) ⟨hk,bO k2 hw⟩ a_ ah aF
    ·rw[Um hv h60 hk k2 hw];simp only[Err.A,sP];exact bB
   ·obtain rfl:k=l.length:=by omega
    refine aK ?_;intro bl;intros;refine lp hC hGL (λz:Nat×List (List UInt8×Int)=>[(1,.rop [.int .i64 v,.list 15 l.length (eS l)] 0),(3,.list 1 (aE v).length (aB (aE v))),(8,.own 0 (.map (some bl))),(54,.list 15 l.length (eS l)),(55,.int .i64 (l.length:Nat)),(56,.int .i64 (z.1:Nat))]) (λz=>[.mp bl (jq z.2)]) (λz=>z.1<=l.length/\(∀s,lv s z.2=jM l s z.1)/\∀j,j<z.1->ly v l j=0) (λz=>l.length-z.1) (0,[]) ⟨Nat.zero_le _,λs=>by rw[A2];unfold lv;simp only[ei];rfl,λj h=>absurd h (Uf _)⟩ ah (by unfold jq;rfl) ?_;rintro⟨k,L⟩ ⟨k1,kL,km⟩;dsimp only at k1 kL km ⊢;by_cases hk:k<l.length
    ·have hnl:(l.getD k Itm.z).1.n.length<=10000:=(tE ho hk).p.n;have hU:=jI (G:=G) (l.getD k Itm.z).1.n a_;have hul:=GJ (l.getD k Itm.z).1.n;have hR:=rK (G:=G) hS v (am 97 122 (-32) (l.getD k Itm.z).1.n) a_;have hcnt:=kL (am 97 122 (-32) (l.getD k Itm.z).1.n);have hcl:=sv l (am 97 122 (-32) (l.getD k Itm.z).1.n) k;have hupd:=Th hk kL;have h9:=OY (v:=v) (l:=l) (i:=k);have h0:=OZ (v:=v) (l:=l) (i:=k);have hsc:=hupd (am 97 122 (-32) (l.getD k Itm.z).1.n);have hsu:=tR (s:=am 97 122 (-32) (l.getD k Itm.z).1.n) hk;rw[if_pos (bZ.2 rfl)] at hsu;rw[R7,hve] at hR;unfold Rl.A at hR;simp only[Err.A] at hR;refine aK ?_;intros;have hcm:=λh=>Un (v:=v) hv h60 k2 hk km h;generalize cz v (l.getD k Itm.z).1.n=r at*
     obtain⟨r0,r1,r2,r3⟩:=r;dsimp only at*
     generalize am 97 122 (-32) (l.getD k Itm.z).1.n=U at*
     refine lz U ?_;generalize lv U L=NN at*
     generalize jM l U k=cn at*
     by_cases hb:0<r2
     ·by_cases hc:r2<=(cn:Int)
      ·have h9:=h9 hb hc;rw[h9] at hcm;rw[hcm b_];simp only[Err.A,sP];refine aK ?_;intros;refine B9 U (λj n hl=> ?_) (λhl i=> ?_)
       ·have eL:(jq L).set j (AVal.str U,AVal.int .i64 (NN+1))=jq (kR U (NN+1) L):=by rw[xy];unfold kR;rw[hl]
        refine aK ?_;intros;rw[eL];refine lz U ?_;generalize lv U (kR U (NN+1) L)=N2 at*
        exact bB
       ·have eL:jq L++[(AVal.str U,AVal.int .i64 (NN+1))]=jq (kR U (NN+1) L):=by rw[tv];unfold kR;rw[hl]
        refine aK ?_;intros;rw[eL];refine lz U ?_;generalize lv U (kR U (NN+1) L)=N2 at*
        exact bB
      ·have h0:=h0 (λh=>hc h.2);refine aK ?_;intros;refine B9 U (λj n hl=> ?_) (λhl i=> ?_)
       ·have eL:(jq L).set j (AVal.str U,AVal.int .i64 (NN+1))=jq (kR U (NN+1) L):=by rw[xy];unfold kR;rw[hl]
        refine aK ?_;intros;rw[eL];refine lz U ?_;have hsc2:=hsc;generalize lv U (kR U (NN+1) L)=N2 at hsc2 ⊢;refine aK ?_;intros;exact ga (k+1,kR U (NN+1) L) ⟨hk,hupd,bO km h0⟩ (by dsimp only;omega) ah aF
       ·have eL:jq L++[(AVal.str U,AVal.int .i64 (NN+1))]=jq (kR U (NN+1) L):=by rw[tv];unfold kR;rw[hl]
        refine aK ?_;intros;rw[eL];refine lz U ?_;have hsc2:=hsc;generalize lv U (kR U (NN+1) L)=N2 at hsc2 ⊢;refine aK ?_;intros;exact ga (k+1,kR U (NN+1) L) ⟨hk,hupd,bO km h0⟩ (by dsimp only;omega) ah aF
     ·have h0:=h0 (λh=>hb h.1);refine aK ?_;intros;refine B9 U (λj n hl=> ?_) (λhl i=> ?_)
      ·have eL:(jq L).set j (AVal.str U,AVal.int .i64 (NN+1))=jq (kR U (NN+1) L):=by rw[xy];unfold kR;rw[hl]
       refine aK ?_;intros;rw[eL];exact ga (k+1,kR U (NN+1) L) ⟨hk,hupd,bO km h0⟩ (by dsimp only;omega) ah aF
      ·have eL:jq L++[(AVal.str U,AVal.int .i64 (NN+1))]=jq (kR U (NN+1) L):=by rw[tv];unfold kR;rw[hl]
       refine aK ?_;intros;rw[eL];exact ga (k+1,kR U (NN+1) L) ⟨hk,hupd,bO km h0⟩ (by dsimp only;omega) ah aF
    ·obtain rfl:k=l.length:=by omega
     rw[Uo hv h60 k2 km];refine aK ?_;intros;refine lp hC hGL (λk:Nat=>[(1,.rop [.int .i64 v,.list 15 l.length (eS l)] 0),(8,.own 0 (.map (some bl))),(91,.list 1 (aE v).length (aB (aE v))),(92,.int .i64 ((aE v).length:Nat)),(93,.int .i64 (k:Nat))]) (λ_=>[.mp bl (jq L)]) (λk=>k<=(aE v).length/\∀j,j<k->JY v l j=0) (λk=>(aE v).length-k) 0 ⟨Nat.zero_le _,λj h=>absurd h (Uf _)⟩ ah rfl ?_;rintro k ⟨k1,kl⟩;by_cases hk:k<(aE v).length
     ·have hnn:=EJ hk;have hnl:=Ao v;have hR:=rK (G:=G) hS v ((aE v).getD k []) a_;have hcl:=sv l ((aE v).getD k []) l.length;have hcnt:=kL ((aE v).getD k []);rw[hve] at hR;unfold Rl.A at hR;simp only[Err.A] at hR;have h7:=XJ (v:=v) (l:=l) (i:=k);have h0:=XK (v:=v) (l:=l) (i:=k);have hf7:=λh=>vu (f:=JY v l) hk kl h;generalize cz v ((aE v).getD k [])=r at*
      obtain⟨r0,r1,r2,r3⟩:=r;dsimp only at*
      generalize jM l ((aE v).getD k []) l.length=N at*
      by_cases hb:(N:Int)<r1
      ·have h7:=h7 hb;rw[h7] at hf7;rw[hf7 b_,if_neg b_];simp only[Err.A,lJ];refine aK ?_;intros;refine lz ((aE v).getD k []) ?_;rw[hcnt];exact bB
      ·have h0:=h0 hb;refine aK ?_;intros;refine lz ((aE v).getD k []) ?_;rw[hcnt];refine aK ?_;intros;exact ga (k+1) ⟨hk,bO kl h0⟩ a_ ah aF
     ·obtain rfl:k=(aE v).length:=by omega
      rw[mW (f:=JY v l) kl,if_pos rfl];simp only[Err.A];exact bB
 ·rw[Uq hv];have hve:eM v= .errno 1:=by unfold eM;rw[if_neg hv]
  rw[hve] at hN;simp only[Err.A,lJ] at hN ⊢;refine ax func28 call28 λC hC hGL=> ?_;exact bB
end
section
theorem yf {f:Nat->Int}:∀{n:Nat},(yg f n= .none)\/∃k,k<n/\yg f n= .at (f k) k/\f k≠0
 |0=>.inl rfl
 |n+1=>by
  rcases yf (f:=f) (n:=n) with h|⟨k,h1,h2,h3⟩
  ·rw[yg,h];by_cases h0:f n=0
   ·exact .inl (by simp only[h0,Zc])
   ·exact .inr ⟨n,a_,by simp only[h0,Zd],h0⟩
  ·exact .inr ⟨k,a_,by rw[yg,h2],h3⟩
theorem Wl (c:Crd):c.E= .none\/(c.E.e≠0/\∀e p,c.E= .at e p->0<=p):=by
 unfold Crd.E;split
 ·split
  ·exact .inr ⟨b_,λe p h=>by cases h⟩
  ·rcases yf (f:=λi=>(c.l.getD i Itm.z).w c.v) (n:=c.l.length) with h|⟨k,h1,h2,h3⟩
   ·rw[h];dsimp only
    rcases yf (f:=ly c.v c.l) (n:=c.l.length) with h|⟨k,h1,h2,h3⟩
    ·rw[h];dsimp only
     split
     ·exact .inl rfl
     ·exact .inr ⟨b_,λe p h=>by cases h⟩
    ·rw[h2];exact .inr ⟨h3,λe p h=>by cases h;omega⟩
   ·rw[h2];exact .inr ⟨h3,λe p h=>by cases h;omega⟩
 ·exact .inr ⟨b_,λe p h=>by cases h⟩
theorem KA {c:Crd}{e p:Int}(h:c.E= .at e p):0<=p/\p<c.l.length:=by
 unfold Crd.E at h;split at h
 ·split at h
  ·cases h
  ·rcases yf (f:=λi=>(c.l.getD i Itm.z).w c.v) (n:=c.l.length) with g|⟨k,h1,h2,h3⟩
   ·rw[g] at h;dsimp only at h;rcases yf (f:=ly c.v c.l) (n:=c.l.length) with g|⟨k,h1,h2,h3⟩
    ·rw[g] at h;dsimp only at h;split at h<;>cases h
    ·rw[h2] at h;cases h;omega
   ·rw[h2] at h;cases h;omega
 ·cases h
end
end Go.Proofs.YtnbaflecdkgihaaGreatDoor
