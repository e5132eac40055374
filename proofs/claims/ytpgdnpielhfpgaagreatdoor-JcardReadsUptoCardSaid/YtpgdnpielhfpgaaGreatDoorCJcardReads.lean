/- Proved here: jcardReads_card, the given statement of that law: for every input of the kind the row names the call returns true and leaves its argument as it read. Conditions: none beside the row's own. -/
import Derived.Test.YtpgdnpielhfpgaaGreatDoorTie
import Derived.Test.YtpgdnpielhfpgaaGreatDoorCards
import Derived.SevenTiedAt
import Derived.Test.YtpgdnpielhfpgaaGreatDoorBaq
set_option linter.unusedVariables false
set_option linter.unusedSimpArgs false
set_option linter.unusedSectionVars false
namespace Go.Proofs.YtpgdnpielhfpgaaGreatDoor
open Go.Proofs.Tryz Go.Proofs.YtpgdnpielhfpgaaGreatDoor.Tryz
set_option maxRecDepth 20000
set_option maxHeartbeats 4000000
section
open Go.ChangeShapes Go.WideShapes Go.ChangeAt Go.RowKit Go.WideMaps Go.WideElems
theorem Tryz.laidOut:laidOutB prog=true:=by kernel_rfl
def V4:Value:=.agg #[.int .i64 0,.string ⟨#[]⟩,.slice none 0 0,.slice none 0 0]
set_option maxHeartbeats 4000000 in
set_option maxRecDepth 100000 in
theorem jcardReads_lifted (os:Os)(started:os.Started)(H:Type)(enc:TypeId×Value->H)(F:Stop.Interp):
  ReturnsInHanded {} checked os 3 .any ((Rows.OpenSpec.upto Rows.jcardReadsSpec).preRow enc prog f3 Rows.jcardReadsUptoRow.domain false Rows.jcardReadsUptoRow.laid) (((Rows.OpenSpec.upto Rows.jcardReadsSpec).at F).post enc prog f3 false true false false):=by
 have hx:∃places,DataW.whole enc prog ((fM os Rows.jcardReadsUptoRow.laid).forCall (λ_ _=>0) ⟨#[],#[V4],[]⟩).memory f3.params.toList Rows.jcardReadsSpec.vars false #[V4].toList 8=some ([.agg [.lit (.int .i64 0),.lit (.string []),.nil,.nil]],[],places):=⟨[],by kernel_rfl⟩;obtain⟨places,hx⟩:=hx;have hok:Input.okWideB prog ((fM os Rows.jcardReadsUptoRow.laid).forCall (λ_ _=>0) ⟨#[],#[V4],[]⟩) 3 ⟨#[],#[V4],[]⟩=true:=by kernel_rfl
 refine returnsInHanded_of_row (C:=checked) (s:=Rows.OpenSpec.upto Rows.jcardReadsSpec) own started (by kernel_rfl) func3
  ⟨fM os Rows.jcardReadsUptoRow.laid,λ_ _=>0,⟨#[],#[V4],[]⟩,yC _ _,World.shaped_of_ZipB (by kernel_rfl) (by kernel_rfl),(Input.okWide_of_okWideB (base:=0) hok).1,(Input.okWide_of_okWideB hok).2,
   OpenSpec.preRow_of_cond 8 hx (by kernel_rfl) (λk hk=>by cases hk;kernel_rfl) (by kernel_rfl) (wP _ (by kernel_rfl) (by kernel_rfl) (by kernel_rfl)),by
    simp only[Assume.holds];exact⟨by simp,by simp,by simp,by simp,by simp⟩⟩ ?_
 intro W base args ds gs before hval0 hW _ hcond _ hL hsh _;obtain⟨m,hm⟩:=M6 hsh;have hW':=hW;obtain⟨p,q,hA0,hV,rfl,_,_⟩:=hW;have hA:DataW.TrodAll enc prog W 0 (λ_=>true) true f3.params.toList args.toList ds p:=hA0;rw[params3] at hA;obtain⟨v0,d0,rfl,rfl,h0⟩:=trodAll_one hA;obtain⟨rfl,rfl⟩:=trodVars_none hV;simp only[List.append_nil] at hW';have hk:=hcond _ rfl;have hbulk:Rows.uptoBulkAll ([d0]++([]:List (DataW H)))<=1048576:=of_decide_eq_true hk;simp only[List.append_nil,Rows.uptoBulkAll,Nat.add_zero] at hbulk;have h0k:=h0;obtain⟨fuel,h0⟩:=h0;obtain⟨u,hr,hd,hz⟩:=za _ h0 hbulk;have hz:Js.sz _ u<=Rows.uptoBulk d0:=hz;have hag:cU v0=true:=by
  have hl:=(DataW.trod_struct underlying25 h0);obtain⟨_,_,_,_,hl,_,_⟩:=hl;rw[show prog.cellsOf 25=4 by kernel_rfl] at hl;cases v0 with
  |agg cs=>rfl
  |_=>exact absurd hl (by simp[Value.cells])
 have fin:=JY (W:=W) (R:=bi W W.heap.size) (args:=#[v0]) (wo UD UH RE UF UG UE Wq _ u hd (by omega)) (call3 _ _) (T9 hm (by repeat (first|exact List.Mem.head _|apply List.Mem.tail)) (by repeat (first|exact List.Mem.head _|apply List.Mem.tail)) (by repeat (first|exact List.Mem.head _|apply List.Mem.tail)) (by repeat (first|exact List.Mem.head _|apply List.Mem.tail)) (by repeat (first|exact List.Mem.head _|apply List.Mem.tail)) (by repeat (first|exact List.Mem.head _|apply List.Mem.tail)) (by repeat (first|exact List.Mem.head _|apply List.Mem.tail)) (by repeat (first|exact List.Mem.head _|apply List.Mem.tail)) hL) (Ay W _) ⟨_,_,rfl,⟨hr,hag.symm⟩,rfl⟩;have hlt:∀x∈p,x.block<W.heap.size:=λx hx=>by simpa using hW'.lt x hx
 refine fin.mono λe W' ⟨he,hw,hb⟩=> ?_;subst he;refine⟨_,rfl,_,_,_,[],p,[],hW',?_,?_,?_,hw _,λh=>by cases h⟩
 ·exact trodAll_mk1 (shut_bool underlying4 true)
 ·exact trodAll_mk1 (Below.trod laidOut (by kernel_rfl) (of_decide_eq_true (by kernel_rfl)) h0k hb hlt)
 ·rfl
theorem Lm:(Rows.jcardReadsUptoRow.inPlace==pinned.checked.prog.inPlace 3)=true:=by kernel_rfl
theorem SV:(Rows.jcardReadsUptoRow.unfollowed==pinned.checked.prog.unfollowed 3)=true:=by kernel_rfl
theorem SW:(Rows.jcardReadsUptoRow.recurses==pinned.checked.prog.recurses 3)=true:=by kernel_rfl
theorem Lo:(Rows.jcardReadsUptoRow.named==pinned.checked.prog.varsNamed 3)=true:=by kernel_rfl
theorem IW:joinedFacts pinned.checked.prog 3 f3 (Rows.OpenSpec.upto Rows.jcardReadsSpec).bare Rows.jcardReadsUptoRow=true:=by
 unfold joinedFacts;rw[Lm,SV,SW,Lo];kernel_rfl
theorem tS:Rows.JcardReadsUptoSaid:=
 OpenClaim.holds_of_cond 3 f3 rfl rfl rfl rfl rfl rfl rfl ⟨rfl,rfl,rfl,rfl,rfl⟩ rfl rfl rfl rfl rfl (by kernel_rfl) func3 IW
  (of_decide_eq_true (by kernel_rfl)) (by unfold Func.isWrapper;first|(rw[if_pos (by decide+kernel)];kernel_rfl)|(rw[if_neg (by decide+kernel)];exact⟨rfl,rfl⟩))
  (λos started H enc _ F=>by rw[OpenClaim.pre_eq_preRow];exact jcardReads_lifted os started H enc F)
theorem jcardReads_card:Rows.JcardReadsUptoCardSaid:=
 Claim7.holds_tied_plain_at .later [] _ _ _ _ tS (fun _ h=>by cases h) (by as_aux_lemma=>kernel_rfl) (fun _ h=>by cases h) jcardReadsUpto_row_tie rfl ⟨rfl,rfl⟩ (by as_aux_lemma=>kernel_rfl) rfl
  (fun f fn hf hfn=>by
   obtain rfl:f=3:=Option.some.inj ((show prog.funcNamed "visitingcard/visitingcardlaw.JcardReads" =some 3 by kernel_rfl).symm.trans hf) |>.symm
   obtain rfl:fn=f3:=(Option.some.inj (func3.symm.trans hfn)).symm
   exact⟨by as_aux_lemma=>kernel_rfl,fun j t ht=>by
    rw[params3] at ht
    have hm:t∈[25]:=by simpa using Array.mem_of_getElem? ht
    have hall:([25].all fun u=> !prog.wantsStandIn u)=true:=by as_aux_lemma=>kernel_rfl
    exact(show prog.wantsStandIn t=false by simpa using List.all_eq_true.1 hall t hm)⟩)
  (by as_aux_lemma=>kernel_rfl)
#print axioms jcardReads_card
end
end Go.Proofs.YtpgdnpielhfpgaaGreatDoor
