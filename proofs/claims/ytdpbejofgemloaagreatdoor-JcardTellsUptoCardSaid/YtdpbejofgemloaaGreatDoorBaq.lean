/- Parts of the proof of jcardTells_card: Jte, Jtf. -/
import Derived.Test.YtdpbejofgemloaaGreatDoorBap
import Derived.Test.YtdpbejofgemloaaGreatDoorBai
import Derived.Test.YtdpbejofgemloaaGreatDoorBak
import Derived.Test.YtdpbejofgemloaaGreatDoorBae
set_option linter.unusedVariables false
set_option linter.unusedSimpArgs false
set_option linter.unusedSectionVars false
namespace Go.Proofs.YtdpbejofgemloaaGreatDoor
set_option maxRecDepth 20000
set_option maxHeartbeats 4000000
section
open Go Go.RowKit
theorem nO {G:Glo}(d:Nat)(l:List Js)(n:Nat)(h:l.length=n):FnIs Tryz.prog G 14 [.list 4 n (jsF d l)] (.agg (Js.C d (aJ l))):=h▸rv d l
abbrev jFz (b:Nat):HEnt:=.cells b (some 32) [.int .i64 0,.int .i64 0]
abbrev obD (b:Nat)(v1 v2:Value):HEnt:=.cells b (some 29) [.int .i64 7,.str [],.own 4 v1,.own 5 v2]
abbrev rfA (d:Nat)(T:Js)(e p:Int):AVal:=.tuple [.agg (Js.C d T),.agg [.int .i64 e,.int .i64 p]]
attribute [local irreducible] AWp AOps aa aA OrOk ad ah
attribute [local irreducible] Crd.E Itm.w a7 cP aj Vl.T Vl.E itJ parJ verJ typL kvP kvO anyT isT isV
theorem DN {G:Glo}{m:Int}(hU:ad G utfTy)(hM:ad G (bW m))(hH:ad G shapesTy)(hP:cQ G)(hS:SpIs G)(c:Crd)(hf:c.ok):ah Tryz.prog G 5 [c.A] [] (toQ 5 c.jT (.agg [.int .i64 c.jE.e,.int .i64 c.jE.p])):=by
 have hR:=pu hU hM hH hP c hf
 have hI:=gF (G:=G) c.E.e c.E.p
 by_cases h0:c.E= .none
 case neg=>
  rw[qn (by rw[rR h0];exact h0),rR h0]
  have he:=((Gn c).resolve_left h0).1
  rw[ic.2 he] at hI
  unfold Crd.A at hR ⊢
  generalize c.E.e=e at*
  generalize c.E.p=p at*
  have hGL:ad G []:=ab
  refine fn_x Tryz.func5 Tryz.call5 rfl rfl rfl rfl hGL ?_
  intro C hC
  refine xn1 ?_
  intro b2 b3 b4
  intros
  refine dw_p mixed hC hGL false (fun _:Unit=>[(2,.own 0 (jAt b2)),(3,.own 1 (jAt b3))]) (fun _=>[jZ b2,.cells b3 (some 32) [.int .i64 e,.int .i64 p],.cells b4 (some 32) [.int .i64 e,.int .i64 p]]) (.take 0 (.br 1 (.br 2 (.br 3 (.done) (.nil)) (.nil)) (.br 2 (.br 1 (.br 3 (.done) (.nil)) (.nil)) (.nil)))) (by kernel_rfl) ?_ ?_
  ·refine xn ?_
   repeat' (first|exact Le.n|refine Lc.mk ?_ ?_)
   all_goals intros
   all_goals exact⟨(),ae,rfl⟩
  intro _
  refine xn1 ?_
  exact nA rfl rfl
 rw[h0] at hR hI
 rw[dp.2 (show Err.none.e=0 from rfl)] at hI
 by_cases hv:c.v=4
 case neg=>
  have hB:=fb (G:=G) 6
  rw[qn (by rw[rQ h0 hv];exact fun h=>by cases h),rQ h0 hv]
  unfold Crd.A at hR ⊢
  simp only[Err.e,Err.p] at hR hI ⊢
  have hGL:ad G []:=ab
  refine fn_x Tryz.func5 Tryz.call5 rfl rfl rfl rfl hGL ?_
  intro C hC
  refine xn1 ?_
  intros
  exact nA rfl rfl
 obtain⟨-,h60,hw⟩:=yV h0
 have hok:=hf.2
 have hJ:=Ce h0 hv
 generalize hje:c.jE=E at*
 generalize hjt:c.jT=T at*
 obtain⟨v,l⟩:=c
 obtain rfl:v=4:=hv
 dsimp only at*
 unfold Crd.A at hR ⊢
 simp only[Err.e,Err.p] at hR hI
 have t1:=fun s=>dS (G:=G) 2 s
 have hver:=DK (G:=G) 2
 have hGL:ad G []:=ab
 refine fn_a Tryz.func5 Tryz.call5 rfl rfl rfl rfl ?_
 intro C hC
 refine cuty hC hGL (fun b:Nat×Nat=>[(1,.rop [.int .i64 4,.list 15 l.length (itsF l)] 0),(2,.own 0 (jAt b.1)),(3,.own 1 (jAt b.2))]) (fun b=>[jZ b.1,jFz b.2]) (fun _=>True) ?_ ?_
 ·refine xn1 ?_
  intro b2 b3
  intros
  exact cy (b2,b3) trivial
 rintro⟨b2,b3⟩-
 dsimp only
 refine cutA (fun _:Unit=>[(1,.rop [.int .i64 4,.list 15 l.length (itsF l)] 0),(2,.own 0 (jAt b2)),(3,.own 1 (jAt b3))]) (fun _=>[jZ b2,jFz b3]) (fun _=>True) (ap hC hGL (xn1 ?_)) ?_
 ·intros
  exact cyT () trivial (bm ae aB)
 intro _ _
 refine cut hC hGL [(1,.rop [.int .i64 4,.list 15 l.length (itsF l)] 0),(2,.own 0 (jAt b2)),(3,.own 1 (jAt b3))] [jZ b2,jFz b3] True xn0 fun _=> ?_
 refine cutA (fun v:Value=>[(1,.rop [.int .i64 4,.list 15 l.length (itsF l)] 0),(2,.own 0 (jAt b2)),(3,.own 1 (jAt b3)),(5,.own 2 v)]) (fun v=>[jZ b2,jFz b3,jRw 3 1 v [verJ]]) (fun _=>True) (ap hC hGL ?_) ?_
 ·repeat' (first|(conv=>whnf);first|refine .w ?_|refine .v ?_|refine sc_c ?_ ?_<;>(intro hb;try exact dd hb)|apply ao|apply aG|(apply sc_i<;>intro hb)|(apply bx_i;intro hbd)|(apply ax;first|exact t1 _)|(apply aw (i:=0) rfl;first|exact t1 _)|(apply ab_i;intro bl)|(apply as_i;intro va vk vc hva)|(apply av_i;intro v)|(apply ac_i;intro bl cap hcap)|(apply nx_i<;>intro hnx)|exact True.intro|(apply bc_i;intro C hC)|apply bt_i|apply og_n|(apply og_a;exact rfl)|(show Rt _ _ _;exact rt_w)|fail)
  all_goals try conv=>whnf
  refine bo_l ?_
  repeat' (first|(conv=>whnf);first|refine .w ?_|refine .v ?_|refine sc_c ?_ ?_<;>(intro hb;try exact dd hb)|apply ao|apply aG|(apply sc_i<;>intro hb)|(apply bx_i;intro hbd)|(apply ax;first|exact hver)|(apply aw (i:=0) rfl;first|exact hver)|(apply ab_i;intro bl)|(apply as_i;intro va vk vc hva)|(apply av_i;intro v)|(apply ac_i;intro bl cap hcap)|(apply nx_i<;>intro hnx)|exact True.intro|(apply bc_i;intro C hC)|apply bt_i|apply og_n|(apply og_a;exact rfl)|(show Rt _ _ _;exact rt_w)|fail)
  all_goals try conv=>whnf
  refine bo_r ?_
  repeat' (first|(conv=>whnf);first|refine .w ?_|refine .v ?_|refine sc_c ?_ ?_<;>(intro hb;try exact dd hb)|apply ao|apply aG|(apply sc_i<;>intro hb)|(apply bx_i;intro hbd)|(apply ax;first|fail)|(apply aw (i:=0) rfl;first|fail)|(apply ab_i;intro bl)|(apply as_i;intro va vk vc hva)|(apply av_i;intro v)|(apply ac_i;intro bl cap hcap)|(apply nx_i<;>intro hnx)|exact True.intro|(apply bc_i;intro C hC)|apply bt_i|apply og_n|(apply og_a;exact rfl)|(show Rt _ _ _;exact rt_w)|fail)
  all_goals try conv=>whnf
  intros
  exact cyT (.slice va vk vc) trivial (bm ae aB)
 intro v _
 --MAIN
 refine cutA (fun v:Value=>[(2,.own 0 (jAt b2)),(3,.own 1 (jAt b3)),(5,.own 2 v)]) (fun v=>[jZ b2,jFz b3,jRw 3 (l.length+1) v (verJ::l.map itJ)]) (fun _=>E= .none) ?_ ?_
 ·refine ap hC hGL (xn1 ?_)
  intros
  refine lpA hC hGL (fun y:Nat×Value=>[(2,.own 0 (jAt b2)),(3,.own 1 (jAt b3)),(5,.own 2 y.2),(43,.list 15 l.length (itsF l)),(44,.int .i64 (l.length:Nat)),(45,.int .i64 (y.1:Nat))]) (fun y=>[jZ b2,jFz b3,jRw 3 (y.1+1) y.2 (verJ::(l.take y.1).map itJ)]) (fun y=>y.1≤l.length∧∀j,j<y.1→gpE (l.getD j Itm.z)=0) (fun y=>l.length-y.1) (0,v) ⟨Nat.zero_le _,fun j h=>absurd h (Nat.not_lt_zero _)⟩ ae rfl ?_
  rintro⟨k,v⟩ ⟨k1,kg⟩
  dsimp only at k1 kg ⊢
  by_cases hk:k<l.length
  case neg=>
   obtain rfl:k=l.length:=by omega
   rw[List.take_length]
   refine ap hC hGL (xn1 ?_)
   intros
   exact cyT v (hJ.trans (dO kg)) (bm ae aB)
  have hx:=iF hok hk
  have hwx:=hw k hk
  refine bq (ap hC hGL (xn1 ?_))
  refine bq (ap hC hGL (xn1 ?_))
  intros
  refine bq (cX ?_)
  refine cuty hC hGL (fun b7:Nat=>[(2,.own 0 (jAt b2)),(3,.own 1 (jAt b3)),(5,.own 2 v),(43,.list 15 l.length (itsF l)),(44,.int .i64 (l.length:Nat)),(45,.int .i64 (k:Nat)),(6,.int .i64 (k:Nat)),(7,.own 3 (jAt b7))]) (fun b7=>[jZ b2,jFz b3,jRw 3 (k+1) v (verJ::(l.take k).map itJ),.cells b7 (some 48) (bh (l.getD k Itm.z))]) (fun _=>True) ?_ ?_
  ·refine xn1 ?_
   intro b7
   intros
   exact cy b7 trivial
  intro b7 _
  have hnl:∀j,((l.getD k Itm.z).1.ps.getD j Pr.z).n.length≤2500:=fun j=>(hx.p.q j).1
  have hps:(l.getD k Itm.z).1.ps.length≤2500:=hx.p.ps
  have hFi:=tG (G:=G) (l.getD k Itm.z).1.ps grpL (by omega) (fun j=>by have:=hnl j;omega) (by decide)
  rw[uF (s:=grpL) (t:=grpN) (by decide+kernel)] at hFi
  by_cases hg:a7 grpN (l.getD k Itm.z).1.ps 0<0
  case neg=>
   have he:=k7 (f:=fun i=>gpE (l.getD i Itm.z)) hk kg (by show gpE _≠0;rw[yH hg];decide)
   rw[show gpE (l.getD k Itm.z)=3 from yH hg] at he
   rw[←hJ] at he
   subst he
   have hT:T=Js.z:=hjt▸qn (by rw[hje];exact fun h=>by cases h)
   simp only[Err.e,Err.p]
   refine bq (ap hC hGL (xn1 ?_))
   intros
   exact nA hT rfl
  have kg2:∀j,j<k+1→gpE (l.getD j Itm.z)=0:=aQ kg (E5 hg)
  have hpush:verJ::(l.take (k+1)).map itJ=(verJ::(l.take k).map itJ)++[itJ (l.getD k Itm.z)]:=by
   rw[List.take_succ_eq_append_getElem hk,List.map_append,List.getD_eq_getElem?_getD,List.getElem?_eq_getElem hk]
   rfl
  have hLow:=f9 (G:=G) (l.getD k Itm.z).1.n (by have:(l.getD k Itm.z).1.n.length≤2500:=hx.p.n;omega)
  have hKi:=By (G:=G) hS (l.getD k Itm.z).2.t
  have hxe:=w_E hwx
  generalize verJ::(l.take k).map itJ=L at*
  generalize (l.getD k Itm.z)=x at*
  refine cut hC hGL [(2,.own 0 (jAt b2)),(3,.own 1 (jAt b3)),(5,.own 2 v),(43,.list 15 l.length (itsF l)),(44,.int .i64 (l.length:Nat)),(45,.int .i64 (k:Nat)),(7,.own 3 (jAt b7))] [jZ b2,jFz b3,jRw 3 (k+1) v L,.cells b7 (some 48) (bh x)] True xn0 fun _=> ?_
  refine fp (aM (bn (i:=3) (k:=7) rfl rfl) (bm (e':=[(2,.own 0 (jAt b2)),(3,.own 1 (jAt b3)),(5,.own 2 v),(43,.list 15 l.length (itsF l)),(44,.int .i64 (l.length:Nat)),(45,.int .i64 (k:Nat)),(7,.rop (bh x) 0)]) (h':=[jZ b2,jFz b3,jRw 3 (k+1) v L]) ae aB)) ?_
  refine cuty hC hGL (fun b8:Nat=>[(2,.own 0 (jAt b2)),(3,.own 1 (jAt b3)),(5,.own 2 v),(43,.list 15 l.length (itsF l)),(44,.int .i64 (l.length:Nat)),(45,.int .i64 (k:Nat)),(7,.rop (bh x) 0),(8,.own 3 (jAt b8))]) (fun b8=>[jZ b2,jFz b3,jRw 3 (k+1) v L,.cells b8 (some 29) [.int .i64 7,.str [],jN,jN]]) (fun _=>True) ?_ ?_
  ·refine xn1 ?_
   intro b8
   intros
   exact cy b8 trivial
  intro b8 _
  have hkl:=nc x
  refine cutA (fun _:Value×Value=>[(2,.own 0 (jAt b2)),(3,.own 1 (jAt b3)),(5,.own 2 v),(43,.list 15 l.length (itsF l)),(44,.int .i64 (l.length:Nat)),(45,.int .i64 (k:Nat)),(7,.rop (bh x) 0),(8,.own 3 (jAt b8))]) (fun y=>[jZ b2,jFz b3,jRw 3 (k+1) v L,obD b8 y.1 y.2]++obR 1 y.1 y.2 (kvP x 0)) (fun _=>True) ?_ ?_
  ·by_cases hgl:x.1.g.length=0
   ·rw[show kvP x 0=[] by unfold kvP;rw[if_pos (List.length_eq_zero_iff.1 hgl)]]
    refine ap hC hGL (xn1 ?_)
    intros
    refine cyT (.slice none 0 0,.slice none 0 0) trivial (aM (d8 1) (aM (d8 4) (aM (cK (i:=3) (p:=2) (x:=.cells b8 (some 29) [.int .i64 7,.str [],jN,jN]) (a':=.own 4 (.slice none 0 0)) rfl (fun R=>.cells rfl fun _=>gI)) (aM (cK (i:=3) (p:=3) (x:=.cells b8 (some 29) [.int .i64 7,.str [],.own 4 (.slice none 0 0),jN]) (a':=.own 5 (.slice none 0 0)) rfl (fun R=>.cells rfl fun _=>gI)) (bm ae aB)))))
   ·rw[show kvP x 0=[(grpL,[x.1.g])] by unfold kvP;rw[if_neg (fun h=>hgl (by rw[h];rfl))]]
    have ts:=dS (G:=G) 1 x.1.g
    refine ap hC hGL ?_
    refine xb1 ?_
    intro va ua vk uk vc uc
    intros
    exact cyT (.slice va vk vc,.slice ua uk uc) trivial (bm ae aB)
  rintro⟨w1,w2⟩-
  dsimp only
  have hvs:∀k,(x.1.ps.getD k Pr.z).vs.length≤2500:=fun k=>(hx.p.q k).2.1
  have htl:∀k,k≤2500→(typL x.1.ps k).length≤6250000:=fun k hk=>Nat.le_trans (kn hvs k) (Nat.mul_le_mul_right 2500 hk)
  have hT:∀k,FnIs Tryz.prog G 17 [.str (x.1.ps.getD k Pr.z).n,.str [116,121,112,101]] (.bool (isT (x.1.ps.getD k Pr.z))):=fun k=>by
   have h:=cT (G:=G) (x.1.ps.getD k Pr.z).n typM (by have:=hnl k;omega) (by decide)
   rw[dA,show aj 97 122 (-32) typM=nTYP by decide+kernel] at h
   unfold isT
   exact h
  have hV:∀k,FnIs Tryz.prog G 17 [.str (x.1.ps.getD k Pr.z).n,.str [118,97,108,117,101]] (.bool (isV (x.1.ps.getD k Pr.z))):=fun k=>by
   have h:=cT (G:=G) (x.1.ps.getD k Pr.z).n [118,97,108,117,101] (by have:=hnl k;omega) (by decide)
   rw[dA,show aj 97 122 (-32) [118,97,108,117,101]=valN by decide+kernel] at h
   unfold isV
   exact h
  refine cut hC hGL [(2,.own 0 (jAt b2)),(3,.own 1 (jAt b3)),(5,.own 2 v),(43,.list 15 l.length (itsF l)),(44,.int .i64 (l.length:Nat)),(45,.int .i64 (k:Nat)),(7,.rop (bh x) 0),(8,.own 3 (jAt b8)),(9,.bool (anyT x.1.ps 0))] ([jZ b2,jFz b3,jRw 3 (k+1) v L,obD b8 w1 w2]++obR 1 w1 w2 (kvP x 0)) True (by rw[show anyT x.1.ps 0=false by unfold anyT;rfl];exact xn0) fun _=> ?_
  refine cutA (fun _:Value×Value=>[(2,.own 0 (jAt b2)),(3,.own 1 (jAt b3)),(5,.own 2 v),(43,.list 15 l.length (itsF l)),(44,.int .i64 (l.length:Nat)),(45,.int .i64 (k:Nat)),(7,.rop (bh x) 0),(8,.own 3 (jAt b8))]) (fun y=>[jZ b2,jFz b3,jRw 3 (k+1) v L,obD b8 y.1 y.2]++obR 1 y.1 y.2 (kvP x x.1.ps.length)) (fun _=>True) ?_ ?_
  ·refine ap hC hGL (xn1 ?_)
   intros
   refine lpA hC hGL (fun y:Nat×Value×Value=>[(2,.own 0 (jAt b2)),(3,.own 1 (jAt b3)),(5,.own 2 v),(43,.list 15 l.length (itsF l)),(44,.int .i64 (l.length:Nat)),(45,.int .i64 (k:Nat)),(7,.rop (bh x) 0),(8,.own 3 (jAt b8)),(9,.bool (anyT x.1.ps y.1)),(69,.list 2 x.1.ps.length (prF x.1.ps)),(70,.int .i64 (x.1.ps.length:Nat)),(71,.int .i64 (y.1:Nat))]) (fun y=>[jZ b2,jFz b3,jRw 3 (k+1) v L,obD b8 y.2.1 y.2.2]++obR 1 y.2.1 y.2.2 (kvP x y.1)) (fun y=>y.1≤x.1.ps.length) (fun y=>x.1.ps.length-y.1) (0,w1,w2) (Nat.zero_le _) ae rfl ?_
   rintro⟨j,w1,w2⟩ j1
   have j1:j≤x.1.ps.length:=j1
   dsimp only
   by_cases hj:j<x.1.ps.length
   case neg=>
    obtain rfl:j=x.1.ps.length:=by omega
    refine ap hC hGL (xn1 ?_)
    intros
    exact cyT (w1,w2) trivial (bm ae aB)
   have hlt:x.1.ps.length-(j+1)<x.1.ps.length-j:=by omega
   have hTj:=hT j
   have hVj:=hV j
   have hlj:=hkl j
   refine bq (ap hC hGL (xn1 ?_))
   refine bq (ap hC hGL (xn1 ?_))
   intros
   refine bq (cX ?_)
   refine cuty hC hGL (fun b11:Nat=>[(2,.own 0 (jAt b2)),(3,.own 1 (jAt b3)),(5,.own 2 v),(43,.list 15 l.length (itsF l)),(44,.int .i64 (l.length:Nat)),(45,.int .i64 (k:Nat)),(7,.rop (bh x) 0),(8,.own 3 (jAt b8)),(69,.list 2 x.1.ps.length (prF x.1.ps)),(70,.int .i64 (x.1.ps.length:Nat)),(71,.int .i64 (j:Nat)),(9,.bool (anyT x.1.ps j)),(11,.own 6 (jAt b11))]) (fun b11=>[jZ b2,jFz b3,jRw 3 (k+1) v L,obD b8 w1 w2]++obR 1 w1 w2 (kvP x j)++[.cells b11 (some 60) [.str (x.1.ps.getD j Pr.z).n,.list 1 (x.1.ps.getD j Pr.z).vs.length (aq (x.1.ps.getD j Pr.z).vs)]]) (fun _=>True) ?_ ?_
   ·refine xn1 ?_
    intro b11
    intros
    exact cy b11 trivial
   intro b11 _
   refine cut hC hGL [(2,.own 0 (jAt b2)),(3,.own 1 (jAt b3)),(5,.own 2 v),(43,.list 15 l.length (itsF l)),(44,.int .i64 (l.length:Nat)),(45,.int .i64 (k:Nat)),(7,.rop (bh x) 0),(8,.own 3 (jAt b8)),(69,.list 2 x.1.ps.length (prF x.1.ps)),(70,.int .i64 (x.1.ps.length:Nat)),(71,.int .i64 (j:Nat)),(9,.bool (anyT x.1.ps j)),(11,.own 6 (jAt b11)),(12,.list 1 (x.1.ps.getD j Pr.z).vs.length (aq (x.1.ps.getD j Pr.z).vs))] ([jZ b2,jFz b3,jRw 3 (k+1) v L,obD b8 w1 w2]++obR 1 w1 w2 (kvP x j)++[.cells b11 (some 60) [.str (x.1.ps.getD j Pr.z).n,.list 1 (x.1.ps.getD j Pr.z).vs.length (aq (x.1.ps.getD j Pr.z).vs)]]) True xn0 fun _=> ?_
   refine fp (aM (bn (i:=6) (k:=11) rfl rfl) (bm (e':=[(2,.own 0 (jAt b2)),(3,.own 1 (jAt b3)),(5,.own 2 v),(43,.list 15 l.length (itsF l)),(44,.int .i64 (l.length:Nat)),(45,.int .i64 (k:Nat)),(7,.rop (bh x) 0),(8,.own 3 (jAt b8)),(69,.list 2 x.1.ps.length (prF x.1.ps)),(70,.int .i64 (x.1.ps.length:Nat)),(71,.int .i64 (j:Nat)),(9,.bool (anyT x.1.ps j)),(11,.rop [.str (x.1.ps.getD j Pr.z).n,.list 1 (x.1.ps.getD j Pr.z).vs.length (aq (x.1.ps.getD j Pr.z).vs)] 0),(12,.list 1 (x.1.ps.getD j Pr.z).vs.length (aq (x.1.ps.getD j Pr.z).vs))]) (h':=[jZ b2,jFz b3,jRw 3 (k+1) v L,obD b8 w1 w2]++obR 1 w1 w2 (kvP x j)) ae aB)) ?_
   have hav:anyT x.1.ps (j+1)=(anyT x.1.ps j||isT (x.1.ps.getD j Pr.z)):=AE
   have hkp:kvP x (j+1)=kvP x j++kvO x.1.ps j:=B8
   cases hcv:isV (x.1.ps.getD j Pr.z) with
   |true=>
    have hct:=G2 hcv
    rw[hcv] at hVj
    have hkv:kvP x (j+1)=kvP x j:=by rw[hkp,EZ hcv,List.append_nil]
    have han:anyT x.1.ps (j+1)=anyT x.1.ps j:=by rw[hav,hct,Bool.or_false]
    refine bq (ap hC hGL (xn1 ?_))
    intros
    refine⟨fun _=> ?_,fun h=>absurd rfl h⟩
    refine ap hC hGL (xn1 ?_)
    intros
    refine nxs (j+1,w1,w2) hj hlt (by rw[han];exact ae) ?_
    show([jZ b2,jFz b3,jRw 3 (k+1) v L,obD b8 w1 w2]++obR 1 w1 w2 (kvP x (j+1))).Sublist _
    rw[hkv]
    exact aB
   |false=>
    rw[hcv] at hVj
    by_cases hex:isT (x.1.ps.getD j Pr.z)=true∧anyT x.1.ps j=true
    ·obtain⟨hct,ha⟩:=hex
     rw[hct] at hTj
     have hkv:kvP x (j+1)=kvP x j:=by rw[hkp,E0 hct ha,List.append_nil]
     have han:anyT x.1.ps (j+1)=anyT x.1.ps j:=by rw[hav,hct,ha];rfl
     rw[ha] at han ⊢
     refine bq (ap hC hGL (xn1 ?_))
     intros
     refine⟨fun _=> ?_,fun h=>absurd rfl h⟩
     refine ap hC hGL (xn1 ?_)
     intros
     refine nxs (j+1,w1,w2) hj hlt (by rw[han];exact ae) ?_
     show([jZ b2,jFz b3,jRw 3 (k+1) v L,obD b8 w1 w2]++obR 1 w1 w2 (kvP x (j+1))).Sublist _
     rw[hkv]
     exact aB
    obtain⟨W,hW,hWl,hWk⟩:∃W:List (List UInt8),W=(if isT (x.1.ps.getD j Pr.z) then typL x.1.ps x.1.ps.length else(x.1.ps.getD j Pr.z).vs)∧W.length≤10000000∧kvP x (j+1)=kvP x j++[(aj 65 90 32 (x.1.ps.getD j Pr.z).n,W)]:=by
     refine⟨_,rfl,?_,?_⟩
     ·have:=htl x.1.ps.length hps
      have:=hvs j
      split<;>omega
     ·rw[hkp]
      cases hct:isT (x.1.ps.getD j Pr.z) with
      |true=>
       have ha:anyT x.1.ps j=false:=Bool.eq_false_iff.2 fun h=>hex ⟨hct,h⟩
       rw[E2 hcv hct ha,DZ hct]
       rfl
      |false=>
       rw[E1 hcv hct]
       rfl
    refine G6 (fun _:Unit=>[(2,.own 0 (jAt b2)),(3,.own 1 (jAt b3)),(5,.own 2 v),(43,.list 15 l.length (itsF l)),(44,.int .i64 (l.length:Nat)),(45,.int .i64 (k:Nat)),(7,.rop (bh x) 0),(8,.own 3 (jAt b8)),(69,.list 2 x.1.ps.length (prF x.1.ps)),(70,.int .i64 (x.1.ps.length:Nat)),(71,.int .i64 (j:Nat)),(9,.bool (anyT x.1.ps (j+1))),(11,.rop [.str (x.1.ps.getD j Pr.z).n,.list 1 (x.1.ps.getD j Pr.z).vs.length (aq (x.1.ps.getD j Pr.z).vs)] 0),(12,.list 1 W.length (aq W))]) (fun _=>[jZ b2,jFz b3,jRw 3 (k+1) v L,obD b8 w1 w2]++obR 1 w1 w2 (kvP x j)) (fun _=>True) ?_ ?_
    ·rw[hav]
     cases hct:isT (x.1.ps.getD j Pr.z) with
     |false=>
      rw[hct] at hTj hW
      subst hW
      rw[Bool.or_false]
      cases ha:anyT x.1.ps j with
      |true=>
       refine ap hC hGL (xn1 ?_)
       intros
       refine ap hC hGL (xn1 ?_)
       intros
       exact cyT () trivial (bm ae aB)
      |false=>
       refine ap hC hGL (xn1 ?_)
       intros
       refine ap hC hGL (xn1 ?_)
       intros
       exact cyT () trivial (bm ae aB)
     |true=>
      have ha:anyT x.1.ps j=false:=Bool.eq_false_iff.2 fun h=>hex ⟨hct,h⟩
      rw[hct] at hTj hW
      rw[if_pos rfl] at hW
      rw[ha,Bool.false_or]
      refine ap hC hGL (xn1 ?_)
      intros
      refine ap hC hGL (xn1 ?_)
      intros
      refine iD 12 1 rfl ?_
      refine lp hC hGL (fun y:Nat×Value=>[(2,.own 0 (jAt b2)),(3,.own 1 (jAt b3)),(5,.own 2 v),(43,.list 15 l.length (itsF l)),(44,.int .i64 (l.length:Nat)),(45,.int .i64 (k:Nat)),(7,.rop (bh x) 0),(8,.own 3 (jAt b8)),(69,.list 2 x.1.ps.length (prF x.1.ps)),(70,.int .i64 (x.1.ps.length:Nat)),(71,.int .i64 (j:Nat)),(9,.bool true),(11,.rop [.str (x.1.ps.getD j Pr.z).n,.list 1 (x.1.ps.getD j Pr.z).vs.length (aq (x.1.ps.getD j Pr.z).vs)] 0),(12,.own 6 y.2),(92,.list 2 x.1.ps.length (prF x.1.ps)),(93,.int .i64 (x.1.ps.length:Nat)),(94,.int .i64 (y.1:Nat))]) (fun y=>[jZ b2,jFz b3,jRw 3 (k+1) v L,obD b8 w1 w2]++obR 1 w1 w2 (kvP x j)++[.row y.2 none 1 (typL x.1.ps y.1).length (aS (typL x.1.ps y.1))]) (fun y=>y.1≤x.1.ps.length) (fun y=>x.1.ps.length-y.1) (0,.slice none 0 0) (Nat.zero_le _) ae ?_ ?_
      ·unfold typL
       rfl
      rintro⟨i,u⟩ i1
      have i1:i≤x.1.ps.length:=i1
      dsimp only
      by_cases hi:i<x.1.ps.length
      ·have hT:=hT i
       have hsrc:=sU (x.1.ps.getD i Pr.z).vs
       have hvi:=hvs i
       have hti:=htl i (by omega)
       cases hc:isT (x.1.ps.getD i Pr.z) with
       |true=>
        rw[hc] at hT
        have hp:=sS hc
        refine xn1 ?_
        intro b14 va vk vc
        intros
        refine nxs (i+1,Value.slice va vk vc) hi (by show x.1.ps.length-(i+1)<x.1.ps.length-i;omega) ae ?_
        show([jZ b2,jFz b3,jRw 3 (k+1) v L,obD b8 w1 w2]++obR 1 w1 w2 (kvP x j)++[HEnt.row (Value.slice va vk vc) none 1 (typL x.1.ps (i+1)).length (aS (typL x.1.ps (i+1)))]).Sublist _
        rw[←hp.1,←hp.2]
        exact aB
       |false=>
        rw[hc] at hT
        refine xn1 ?_
        intros
        refine nxs (i+1,u) hi (by show x.1.ps.length-(i+1)<x.1.ps.length-i;omega) ae ?_
        show([jZ b2,jFz b3,jRw 3 (k+1) v L,obD b8 w1 w2]++obR 1 w1 w2 (kvP x j)++[HEnt.row u none 1 (typL x.1.ps (i+1)).length (aS (typL x.1.ps (i+1)))]).Sublist _
        rw[sR hc]
        exact aB
      ·obtain rfl:i=x.1.ps.length:=by omega
       refine xn1 ?_
       intros
       subst hW
       exact cyT () trivial (aM (fY (i:=6) (k:=12) (aq (typL x.1.ps x.1.ps.length)) rfl rfl (ea _)) (bm ae aB))
    intro _ _
    have hLo:=f9 (G:=G) (x.1.ps.getD j Pr.z).n (by have:=hnl j;omega)
    have hSt:=tE (G:=G) 0 W (by omega)
    refine ap hC hGL (xn1 ?_)
    intros
    refine dw_p mixed hC hGL false (fun _:(Option Addr×Nat×Nat)×Option Addr×Nat×Nat=>[(2,.own 0 (jAt b2)),(3,.own 1 (jAt b3)),(5,.own 2 v),(43,.list 15 l.length (itsF l)),(44,.int .i64 (l.length:Nat)),(45,.int .i64 (k:Nat)),(7,.rop (bh x) 0),(8,.own 3 (jAt b8)),(69,.list 2 x.1.ps.length (prF x.1.ps)),(70,.int .i64 (x.1.ps.length:Nat)),(71,.int .i64 (j:Nat)),(9,.bool (anyT x.1.ps (j+1)))]) (fun y=>[jZ b2,jFz b3,jRw 3 (k+1) v L,obD b8 (.slice y.1.1 y.1.2.1 y.1.2.2) (.slice y.2.1 y.2.2.1 y.2.2.2),.row (.slice y.1.1 y.1.2.1 y.1.2.2) none 1 ((kvP x j).length+1) (aS (keyJ (kvP x j))++[.str (aj 65 90 32 (x.1.ps.getD j Pr.z).n)]),.row (.slice y.2.1 y.2.2.1 y.2.2.2) none 4 ((kvP x j).length+1) (jsC 1 (txtJ (kvP x j))++Js.C 1 (tsJ W))]) (.take 0 (.take 2 (.take 3 (.take 7 (.take 9 (.br 1 (.br 4 (.br 5 (.br 6 (.br 8 (.take 13 (.br 10 (.br 11 (.br 12 (.br 14 (.take 15 (.br 16 (.done) (.nil))) (.nil)) (.nil)) (.nil)) (.nil))) (.br 10 (.br 8 (.take 13 (.br 11 (.br 12 (.br 14 (.take 15 (.br 16 (.done) (.nil))) (.nil)) (.nil)) (.nil))) (.br 11 (.br 8 (.take 13 (.br 12 (.br 14 (.take 15 (.br 16 (.done) (.nil))) (.nil)) (.nil))) (.nil)) (.nil))) (.nil))) (.br 8 (.br 6 (.take 13 (.br 10 (.br 11 (.br 12 (.br 14 (.take 15 (.br 16 (.done) (.nil))) (.nil)) (.nil)) (.nil)) (.nil))) (.nil)) (.nil))) (.br 8 (.br 5 (.br 6 (.take 13 (.br 10 (.br 11 (.br 12 (.br 14 (.take 15 (.br 16 (.done) (.nil))) (.nil)) (.nil)) (.nil)) (.nil))) (.nil)) (.nil)) (.nil))) (.br 8 (.br 4 (.br 5 (.br 6 (.take 13 (.br 10 (.br 11 (.br 12 (.br 14 (.take 15 (.br 16 (.done) (.nil))) (.nil)) (.nil)) (.nil)) (.nil))) (.nil)) (.nil)) (.nil)) (.nil))) (.br 4 (.br 1 (.br 5 (.br 6 (.br 8 (.take 13 (.br 10 (.br 11 (.br 12 (.br 14 (.take 15 (.br 16 (.done) (.nil))) (.nil)) (.nil)) (.nil)) (.nil))) (.br 10 (.br 8 (.take 13 (.br 11 (.br 12 (.br 14 (.take 15 (.br 16 (.done) (.nil))) (.nil)) (.nil)) (.nil))) (.br 11 (.br 8 (.take 13 (.br 12 (.br 14 (.take 15 (.br 16 (.done) (.nil))) (.nil)) (.nil))) (.nil)) (.nil))) (.nil))) (.br 8 (.br 6 (.take 13 (.br 10 (.br 11 (.br 12 (.br 14 (.take 15 (.br 16 (.done) (.nil))) (.nil)) (.nil)) (.nil)) (.nil))) (.nil)) (.nil))) (.br 8 (.br 5 (.br 6 (.take 13 (.br 10 (.br 11 (.br 12 (.br 14 (.take 15 (.br 16 (.done) (.nil))) (.nil)) (.nil)) (.nil)) (.nil))) (.nil)) (.nil)) (.nil))) (.br 5 (.br 1 (.br 6 (.br 8 (.take 13 (.br 10 (.br 11 (.br 12 (.br 14 (.take 15 (.br 16 (.done) (.nil))) (.nil)) (.nil)) (.nil)) (.nil))) (.br 10 (.br 8 (.take 13 (.br 11 (.br 12 (.br 14 (.take 15 (.br 16 (.done) (.nil))) (.nil)) (.nil)) (.nil))) (.br 11 (.br 8 (.take 13 (.br 12 (.br 14 (.take 15 (.br 16 (.done) (.nil))) (.nil)) (.nil))) (.nil)) (.nil))) (.nil))) (.br 8 (.br 6 (.take 13 (.br 10 (.br 11 (.br 12 (.br 14 (.take 15 (.br 16 (.done) (.nil))) (.nil)) (.nil)) (.nil)) (.nil))) (.nil)) (.nil))) (.br 8 (.br 1 (.br 6 (.take 13 (.br 10 (.br 11 (.br 12 (.br 14 (.take 15 (.br 16 (.done) (.nil))) (.nil)) (.nil)) (.nil)) (.nil))) (.nil)) (.nil)) (.nil))) (.br 8 (.br 1 (.br 5 (.br 6 (.take 13 (.br 10 (.br 11 (.br 12 (.br 14 (.take 15 (.br 16 (.done) (.nil))) (.nil)) (.nil)) (.nil)) (.nil))) (.nil)) (.nil)) (.br 5 (.br 1 (.br 6 (.take 13 (.br 10 (.br 11 (.br 12 (.br 14 (.take 15 (.br 16 (.done) (.nil))) (.nil)) (.nil)) (.nil)) (.nil))) (.nil)) (.nil)) (.nil))) (.nil)))) (.br 8 (.br 1 (.br 4 (.br 5 (.br 6 (.take 13 (.br 10 (.br 11 (.br 12 (.br 14 (.take 15 (.br 16 (.done) (.nil))) (.nil)) (.nil)) (.nil)) (.nil))) (.nil)) (.nil)) (.nil)) (.br 4 (.br 1 (.br 5 (.br 6 (.take 13 (.br 10 (.br 11 (.br 12 (.br 14 (.take 15 (.br 16 (.done) (.nil))) (.nil)) (.nil)) (.nil)) (.nil))) (.nil)) (.nil)) (.br 5 (.br 1 (.br 6 (.take 13 (.br 10 (.br 11 (.br 12 (.br 14 (.take 15 (.br 16 (.done) (.nil))) (.nil)) (.nil)) (.nil)) (.nil))) (.nil)) (.nil)) (.nil))) (.nil))) (.nil))))))))) (by kernel_rfl) ?_ ?_
    ·refine xn ?_
     repeat' (first|exact Le.n|refine Lc.mk ?_ ?_)
     all_goals intros
     all_goals exact⟨((_,_,_),_,_,_),ae,rfl⟩
    rintro⟨⟨va,vk,vc⟩,ua,uk,uc⟩
    dsimp only
    rw[qh (kvP x j) (aj 65 90 32 (x.1.ps.getD j Pr.z).n) W,pM 1 (kvP x j) (aj 65 90 32 (x.1.ps.getD j Pr.z).n) W,←B7 (kvP x j) (aj 65 90 32 (x.1.ps.getD j Pr.z).n) W,←hWk]
    refine xn1 ?_
    intros
    refine ap hC hGL (xn1 ?_)
    intros
    exact nxs (j+1,Value.slice va vk vc,Value.slice ua uk uc) hj hlt ae aB
  rintro⟨w1,w2⟩-
  dsimp only
  have e1:(keyJ (kvP x x.1.ps.length)).length=(kvP x x.1.ps.length).length:=List.length_map ..
  have e2:(txtJ (kvP x x.1.ps.length)).length=(kvP x x.1.ps.length).length:=List.length_map ..
  have hpj:Js.C 2 (parJ x)=[.int .i64 7,.str [],.list 1 (kvP x x.1.ps.length).length (aq (keyJ (kvP x x.1.ps.length))),.list 4 (kvP x x.1.ps.length).length (jsF 2 (txtJ (kvP x x.1.ps.length)))]:=by
   unfold parJ obJ Js.C
   dsimp only[Js.k,Js.t,Js.ks,Js.l]
   rw[e1,e2]
  refine fp (aM (ft (i:=5) (k:=3) (p:=3) (jsF 2 (txtJ (kvP x x.1.ps.length))) rfl rfl (fun j hj=>fM 1 _ j (by omega)) (fun R hr=>.cells (a:=.own 5 w2) rfl fun _=>eg hr)) (aM (ft (i:=4) (k:=3) (p:=2) (aq (keyJ (kvP x x.1.ps.length))) rfl rfl (fun j hj=>ea _ j (by omega)) (fun R hr=>.cells (a:=.own 4 w1) rfl fun _=>eg hr)) (aM (bn (i:=3) (k:=8) rfl rfl) (bm (e':=[(2,.own 0 (jAt b2)),(3,.own 1 (jAt b3)),(5,.own 2 v),(43,.list 15 l.length (itsF l)),(44,.int .i64 (l.length:Nat)),(45,.int .i64 (k:Nat)),(7,.rop (bh x) 0),(8,.rop (Js.C 2 (parJ x)) 0)]) (h':=[jZ b2,jFz b3,jRw 3 (k+1) v L]) (by rw[hpj];exact ae) aB)))) ?_
  have tsa:=dS (G:=G) 2 (aj 65 90 32 x.1.n)
  have tsb:=dS (G:=G) 2 (cP x.2.t)
  refine cutA (fun w:Value=>[(2,.own 0 (jAt b2)),(3,.own 1 (jAt b3)),(5,.own 2 v),(43,.list 15 l.length (itsF l)),(44,.int .i64 (l.length:Nat)),(45,.int .i64 (k:Nat)),(7,.rop (bh x) 0),(15,.own 3 w)]) (fun w=>[jZ b2,jFz b3,jRw 3 (k+1) v L,jRw 2 3 w [sJ (aj 65 90 32 x.1.n),parJ x,sJ (cP x.2.t)]]) (fun _=>True) (ap hC hGL ?_) ?_
  ·refine xn1 ?_
   intros
   refine dw_p mixed hC hGL false (fun z:Option Addr×Nat×Nat=>[(2,.own 0 (jAt b2)),(3,.own 1 (jAt b3)),(5,.own 2 v),(43,.list 15 l.length (itsF l)),(44,.int .i64 (l.length:Nat)),(45,.int .i64 (k:Nat)),(7,.rop (bh x) 0),(15,.own 3 (.slice z.1 z.2.1 z.2.2))]) (fun z=>[jZ b2,jFz b3,jRw 3 (k+1) v L,jRw 2 3 (.slice z.1 z.2.1 z.2.2) [sJ (aj 65 90 32 x.1.n),parJ x,sJ (cP x.2.t)]]) (.take 0 (.take 1 (.take 4 (.take 5 (.take 6 (.take 7 (.br 2 (.br 3 (.br 8 (.br 9 (.br 10 (.take 11 (.done)) (.nil)) (.nil)) (.nil)) (.nil)) (.nil)))))))) (by kernel_rfl) ?_ ?_
   ·refine xb ?_
    repeat' (first|exact Le.n|refine Lc.mk ?_ ?_)
    all_goals intros
    all_goals exact⟨(_,_,_),ae,rfl⟩
   rintro⟨va,vk,vc⟩
   exact cyT (.slice va vk vc) trivial (bm ae aB)
  intro w _
  have hAl:[sJ (aj 65 90 32 x.1.n),parJ x,sJ (cP x.2.t)].length=3:=rfl
  have hit:itJ x=aJ ([sJ (aj 65 90 32 x.1.n),parJ x,sJ (cP x.2.t)]++valJ x):=by unfold itJ;rfl
  generalize [sJ (aj 65 90 32 x.1.n),parJ x,sJ (cP x.2.t)]=A at*
  have hL1:x.2.L.length≤2000000:=hx.L.n
  have hL2:=fun j=>(hx.L.k j).1
  refine cutA (fun w:Value=>[(2,.own 0 (jAt b2)),(3,.own 1 (jAt b3)),(5,.own 2 v),(43,.list 15 l.length (itsF l)),(44,.int .i64 (l.length:Nat)),(45,.int .i64 (k:Nat)),(15,.own 3 w)]) (fun w=>[jZ b2,jFz b3,jRw 3 (k+1) v L,jRw 2 (3+(valJ x).length) w (A++valJ x)]) (fun _=>True) ?_ ?_
  ·refine cut hC hGL [(2,.own 0 (jAt b2)),(3,.own 1 (jAt b3)),(5,.own 2 v),(43,.list 15 l.length (itsF l)),(44,.int .i64 (l.length:Nat)),(45,.int .i64 (k:Nat)),(7,.rop (bh x) 0),(15,.own 3 w),(135,.int .i64 x.2.t)] [jZ b2,jFz b3,jRw 3 (k+1) v L,jRw 2 3 w A] True xn0 fun _=> ?_
   refine cX ?_
   by_cases ht1:x.2.t=1
   ·have hv:valJ x=[sJ x.2.s]:=by unfold valJ;rw[if_neg (by omega),if_neg (by omega),if_pos ht1]
    have ts:=dS (G:=G) 2 x.2.s
    rw[hv]
    refine ap hC hGL (xn1 ?_)
    intro va vk vc
    intros
    refine cyT (.slice va vk vc) trivial ?_
    show To _ _ _ _ _ [jZ b2,jFz b3,jRw 3 (k+1) v L,HEnt.row (.slice va vk vc) none 4 (3+1) (jsC 2 (A++[sJ x.2.s]))]
    rw[←bQ]
    exact bm ae aB
   refine bq (ap hC hGL (xn1 ?_))
   refine cW (congrArg (fun z=>some (AVal.bool z)) (ic.2 ht1)) ?_
   refine bq (ap hC hGL (xn1 ?_))
   by_cases ht2:x.2.t=2
   ·have hp1:=yi hxe ht2
    have hv:valJ x=(x.2.L.getD 0 []).map sJ:=by unfold valJ;rw[if_pos ht2]
    have hl0:=hL2 0
    have ts:=fun j=>dS (G:=G) 2 ((x.2.L.getD 0 []).getD j [])
    rw[hv,List.length_map]
    refine gU (congrArg (fun z=>some (AVal.bool z)) (dp.2 ht2)) ?_
    refine ap hC hGL (xn1 ?_)
    intros
    refine lp hC hGL (fun y:Nat×Value=>[(2,.own 0 (jAt b2)),(3,.own 1 (jAt b3)),(5,.own 2 v),(43,.list 15 l.length (itsF l)),(44,.int .i64 (l.length:Nat)),(45,.int .i64 (k:Nat)),(15,.own 3 y.2),(162,.list 1 (x.2.L.getD 0 []).length (aq (x.2.L.getD 0 []))),(163,.int .i64 ((x.2.L.getD 0 []).length:Nat)),(164,.int .i64 (y.1:Nat))]) (fun y=>[jZ b2,jFz b3,jRw 3 (k+1) v L,jRw 2 (3+y.1) y.2 (A++((x.2.L.getD 0 []).take y.1).map sJ)]) (fun y=>y.1≤(x.2.L.getD 0 []).length) (fun y=>(x.2.L.getD 0 []).length-y.1) (0,w) (Nat.zero_le _) ae (by rw[List.take_zero,List.map_nil,List.append_nil];rfl) ?_
    rintro⟨j,w⟩ j1
    have j1:j≤(x.2.L.getD 0 []).length:=j1
    dsimp only
    by_cases hj:j<(x.2.L.getD 0 []).length
    ·have ts:=ts j
     refine xn1 ?_
     intro va vk vc
     intros
     refine nxs (j+1,Value.slice va vk vc) hj (by show(x.2.L.getD 0 []).length-(j+1)<(x.2.L.getD 0 []).length-j;omega) ae ?_
     show[jZ b2,jFz b3,jRw 3 (k+1) v L,HEnt.row (.slice va vk vc) none 4 (3+(j+1)) (jsC 2 (A++((x.2.L.getD 0 []).take (j+1)).map sJ))].Sublist _
     rw[m7 hj,←List.append_assoc,←bQ]
     exact List.Sublist.refl _
    ·obtain rfl:j=(x.2.L.getD 0 []).length:=by omega
     rw[List.take_length]
     refine xn1 ?_
     intros
     exact cyT w trivial (bm ae aB)
   refine cW (congrArg (fun z=>some (AVal.bool z)) (ic.2 ht2)) ?_
   refine bq (ap hC hGL (xn1 ?_))
   by_cases ht3:x.2.t=3
   ·refine gU (congrArg (fun z=>some (AVal.bool z)) (dp.2 ht3)) ?_
    have hv:valJ x=[aJ (x.2.L.map tsJ)]:=by unfold valJ;rw[if_neg ht2,if_pos ht3]
    rw[hv]
    refine cut hC hGL [(2,.own 0 (jAt b2)),(3,.own 1 (jAt b3)),(5,.own 2 v),(43,.list 15 l.length (itsF l)),(44,.int .i64 (l.length:Nat)),(45,.int .i64 (k:Nat)),(7,.rop (bh x) 0),(15,.own 3 w),(18,jN)] [jZ b2,jFz b3,jRw 3 (k+1) v L,jRw 2 3 w A] True xn0 fun _=> ?_
    have hml:(x.2.L.map tsJ).length=x.2.L.length:=List.length_map ..
    refine cutA (fun _:Unit=>[(2,.own 0 (jAt b2)),(3,.own 1 (jAt b3)),(5,.own 2 v),(43,.list 15 l.length (itsF l)),(44,.int .i64 (l.length:Nat)),(45,.int .i64 (k:Nat)),(15,.own 3 w),(18,.list 4 x.2.L.length (jsF 2 (x.2.L.map tsJ)))]) (fun _=>[jZ b2,jFz b3,jRw 3 (k+1) v L,jRw 2 3 w A]) (fun _=>True) ?_ ?_
    ·refine ap hC hGL (xn1 ?_)
     intros
     refine iD 18 4 rfl ?_
     refine lp hC hGL (fun y:Nat×Value=>[(2,.own 0 (jAt b2)),(3,.own 1 (jAt b3)),(5,.own 2 v),(43,.list 15 l.length (itsF l)),(44,.int .i64 (l.length:Nat)),(45,.int .i64 (k:Nat)),(15,.own 3 w),(18,.own 4 y.2),(178,.list 1 x.2.L.length (bY x.2.L)),(179,.int .i64 (x.2.L.length:Nat)),(180,.int .i64 (y.1:Nat))]) (fun y=>[jZ b2,jFz b3,jRw 3 (k+1) v L,jRw 2 3 w A,jRw 1 y.1 y.2 ((x.2.L.take y.1).map tsJ)]) (fun y=>y.1≤x.2.L.length) (fun y=>x.2.L.length-y.1) (0,.slice none 0 0) (Nat.zero_le _) ae rfl ?_
     rintro⟨j,u⟩ j1
     have j1:j≤x.2.L.length:=j1
     dsimp only
     by_cases hj:j<x.2.L.length
     ·have ts:=tE (G:=G) 0 (x.2.L.getD j []) (by have:=hL2 j;omega)
      refine xn1 ?_
      intro va vk vc
      intros
      refine nxs (j+1,Value.slice va vk vc) hj (by show x.2.L.length-(j+1)<x.2.L.length-j;omega) ae ?_
      show[jZ b2,jFz b3,jRw 3 (k+1) v L,jRw 2 3 w A,HEnt.row (.slice va vk vc) none 4 (j+1) (jsC 1 ((x.2.L.take (j+1)).map tsJ))].Sublist _
      rw[List.take_succ_eq_append_getElem hj,List.map_append,List.map_singleton,←bQ,List.getElem_eq_getD []]
      exact List.Sublist.refl _
     ·obtain rfl:j=x.2.L.length:=by omega
      rw[List.take_length]
      refine xn1 ?_
      intros
      exact cyT () trivial (aM (fY (i:=4) (k:=18) (jsF 2 (x.2.L.map tsJ)) rfl rfl (fun i hi=>fM 1 _ i (by omega))) (bm ae aB))
    intro _ _
    have hAr:=nO (G:=G) 2 (x.2.L.map tsJ) _ hml
    refine ap hC hGL (xn1 ?_)
    intro va vk vc
    intros
    refine cyT (.slice va vk vc) trivial ?_
    show To _ _ _ _ _ [jZ b2,jFz b3,jRw 3 (k+1) v L,HEnt.row (.slice va vk vc) none 4 (3+1) (jsC 2 (A++[aJ (x.2.L.map tsJ)]))]
    rw[←bQ]
    exact bm ae aB
   refine cW (congrArg (fun z=>some (AVal.bool z)) (ic.2 ht3)) ?_
   have hv:valJ x=[sJ x.2.T]:=by unfold valJ;rw[if_neg ht2,if_neg ht3,if_neg ht1]
   have ts:=dS (G:=G) 2 x.2.T
   have hWr:=Bs hU hM hH hP x.2 hx.s hx.L hx.v
   rw[hxe] at hWr
   unfold Vl.A at hWr
   rw[hv]
   refine ap hC hGL (xn1 ?_)
   intro va vk vc
   intros
   refine cyT (.slice va vk vc) trivial ?_
   show To _ _ _ _ _ [jZ b2,jFz b3,jRw 3 (k+1) v L,HEnt.row (.slice va vk vc) none 4 (3+1) (jsC 2 (A++[sJ x.2.T]))]
   rw[←bQ]
   exact bm ae aB
  intro w _
  have hl:(A++valJ x).length=3+(valJ x).length:=by rw[List.length_append,hAl]
  have hAr:=nO (G:=G) 3 (A++valJ x) _ hl
  rw[←hit] at hAr
  refine fp (fY (i:=3) (k:=15) (jsF 3 (A++valJ x)) rfl rfl (fun i hi=>fM 2 _ i (by omega))) ?_
  refine ap hC hGL (xn1 ?_)
  intro va vk vc
  intros
  refine ap hC hGL (xn1 ?_)
  intros
  refine nxs (k+1,Value.slice va vk vc) ⟨hk,kg2⟩ (by show l.length-(k+1)<l.length-k;omega) ae ?_
  show[jZ b2,jFz b3,HEnt.row (.slice va vk vc) none 4 (k+1+1) (jsC 3 (verJ::(l.take (k+1)).map itJ))].Sublist _
  rw[hpush,←bQ]
  exact aB
 intro v hEn
 subst hEn
 have hT:T=crJ l:=hjt▸E3 hje
 have hl2:(verJ::l.map itJ).length=l.length+1:=by rw[List.length_cons,List.length_map]
 have tv:=dS (G:=G) 4 [118,99,97,114,100]
 have hAr:=nO (G:=G) 4 (verJ::l.map itJ) _ hl2
 have hTw:=DL (G:=G) 4 (sJ [118,99,97,114,100]) (aJ (verJ::l.map itJ))
 have hGo:=fa (G:=G)
 refine fp (fY (i:=2) (k:=5) (jsF 4 (verJ::l.map itJ)) rfl rfl (fun i hi=>fM 3 _ i (by omega))) ?_
 subst hT
 refine ap hC hGL (xn1 ?_)
 exact EV rfl
theorem FP {G:Glo}{m:Int}(hU:ad G utfTy)(hM:ad G (bW m))(hH:ad G shapesTy)(hP:cQ G)(hS:SpIs G)(c:Crd)(hf:c.ok):FnIs Tryz.prog G 5 [c.A] (rfA 5 c.jT c.jE.e c.jE.p):=
 gO (DN hU hM hH hP hS c hf) fun _ _ h=>xR h
end
section
open Go Go.RowKit
attribute [local irreducible] AWp AOps aa aA OrOk ad ah
attribute [local irreducible] Crd.jE Crd.jT
theorem oi {G:Glo}{m:Int}(hU:ad G utfTy)(hE:ad G errTy)(hE2:lz G)(hP:cQ G)(hM:ad G (bW m))(hH:ad G shapesTy)(hS:SpIs G)(c:Crd)(ho:∀x∈c.l,Itm.OK 1048576 x)(hl:c.l.length≤1048576):FnIs Tryz.prog G 3 [c.A] (.bool true):=by
 have hB:=D4 (G:=G) c ho hl
 have hf1:=fun hf:c.fine=>FP hU hM hH hP hS c hf.ok
 have hf2:=fun hf:c.fine=>G1 hE hE2 hP hM hS c hf.ok
 have hf3:=fun hf:c.fine=>zT (G:=G) 10000000 (by decide) 5 c.jT (D7 hf.ok)
 have hpl:=zH (G:=G) hE c.jE
 have hc1:=Tryz.call7
 have hc2:=Tryz.call8
 unfold Crd.A at*
 generalize c.jE=e at*
 generalize c.jT=T at*
 have hGL:ad G []:=ab
 refine fn_x Tryz.func3 Tryz.call3 rfl rfl rfl rfl hGL ?_
 intro C hC
 refine xw1 ?_
 intros
 refine sj hB ?_
 rintro _ ⟨b,rfl,hb⟩
 cases b with
 |true=>exact xw0
 |false=>
  have h1:=hf1 (hb rfl)
  have h2:=hf2 (hb rfl)
  have h3:=hf3 (hb rfl)
  cases e<;>simp only[Err.A,Err.e,Err.p,errA,atA] at h1 h2 hpl
  all_goals exact xw0
end
end Go.Proofs.YtdpbejofgemloaaGreatDoor
