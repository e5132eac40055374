/- Proved here: streamCards_card, the given statement of that law: for every input of the kind the row names the call returns true and leaves its argument as it read. Conditions: none beside the row's own. -/
import Derived.Test.YtgpjhbhdbjdlgaaGreatDoorTie
import Derived.Test.YtgpjhbhdbjdlgaaGreatDoorCards
import Derived.SevenTiedAt
import Derived.Test.YtgpjhbhdbjdlgaaGreatDoorBar
set_option linter.unusedVariables false
set_option linter.unusedSimpArgs false
set_option linter.unusedSectionVars false
namespace Go.Proofs.YtgpjhbhdbjdlgaaGreatDoor
open Go.Proofs.Tryz Go.Proofs.YtgpjhbhdbjdlgaaGreatDoor.Tryz
set_option maxRecDepth 20000
set_option maxHeartbeats 4000000
section
open Go.ChangeShapes Go.WideShapes Go.ChangeAt Go.RowKit Go.WideMaps Go.WideElems
open Go.ChangeMaps (setBlock shut_map_nil open_string shut_string keptBut_setBlock)
set_option maxRecDepth 100000 in
theorem streamCards_lifted (os:Os)(started:os.Started)(H:Type)(enc:TypeId×Value->H):
  ReturnsInHanded {} checked os 3 .any (λw args=>(Rows.streamCardsSpec.pre enc prog f3 Rows.streamCardsRow.domain false w args/\laidMetH prog Rows.streamCardsRow.laid w)/\sizedMet enc prog f3 (OpenSpec.ofChange Rows.streamCardsSpec) false w args)
   (Rows.streamCardsSpec.post enc prog f3 false true false false):=by
 refine nN (C:=checked) (X:=λw _=>laidMetH prog Rows.streamCardsRow.laid w) (λ_ _ _ hh h=>h.of_heap hh) own started be func3
  (ChangeSpec.witness_shaped (enc:=enc) (C:=checked) (os:=os) (X:=λw _=>laidMetH prog Rows.streamCardsRow.laid w) false (j3 os Rows.streamCardsRow.laid) #[.string ⟨#[]⟩] 8 (zZ _ _)
   (World.shaped_of_ZipB be be) be be be
   (yE _ be be be)) ?_
 intro W base args ds gs before hval0 hW hc hL hsh;obtain⟨m,hm⟩:=PZ hsh;have hval:∀(j:Nat) t v,f3.params[j]? =some t->args[j]? =some v->Value.okWide prog W .any base t v:=hval0;have hW':=hW;obtain⟨p,q,hA0,hV,rfl,_,_⟩:=hW;have hA:DataW.TrodAll enc prog W 0 (λ_=>true) true f3.params.toList args.toList ds p:=hA0;rw[params3] at hA hval;obtain⟨v0,d0,rfl,rfl,h0⟩:=trodAll_one hA;obtain⟨rfl,rfl⟩:=trodVars_none hV;obtain⟨x0,rfl,rfl,rfl,w0⟩:=open_string underlying9 (hval 0 9 v0 rfl rfl) h0;simp only[Dc] at hW';have fin:=TQ (W:=W) (R:=cj W W.heap.size) (args:=#[.string x0]) (vu XB XF Uw XD XE XC Zd x0.data.toList (FL w0)) (call3 _ _) (W3 hm (by repeat (first|exact List.Mem.head _|apply List.Mem.tail)) (by repeat (first|exact List.Mem.head _|apply List.Mem.tail)) (by repeat (first|exact List.Mem.head _|apply List.Mem.tail)) (by repeat (first|exact List.Mem.head _|apply List.Mem.tail)) (by repeat (first|exact List.Mem.head _|apply List.Mem.tail)) (by repeat (first|exact List.Mem.head _|apply List.Mem.tail)) (by repeat (first|exact List.Mem.head _|apply List.Mem.tail)) (by repeat (first|exact List.Mem.head _|apply List.Mem.tail)) hL) (B9 W _)
  ⟨_,_,rfl,aD.2 (by rw[B2]),rfl⟩
 refine fin.mono λe W' ⟨he,hw⟩=> ?_;subst he;refine⟨_,rfl,_,_,_,[],[],[],hW',?_,?_,?_,hw _,λh=>by cases h⟩
 ·exact trodAll_mk1 (shut_bool underlying4 true)
 ·exact trodAll_mk1 (shut_string underlying9 w0)
 ·rfl
theorem Rp:(Rows.streamCardsRow.inPlace==pinned.checked.prog.inPlace 3)=true:=by kernel_rfl
theorem XG:(Rows.streamCardsRow.unfollowed==pinned.checked.prog.unfollowed 3)=true:=by kernel_rfl
theorem XH:(Rows.streamCardsRow.recurses==pinned.checked.prog.recurses 3)=true:=by kernel_rfl
theorem Rq:(Rows.streamCardsRow.named==pinned.checked.prog.varsNamed 3)=true:=by kernel_rfl
theorem Nq:joinedFacts pinned.checked.prog 3 f3 Rows.streamCardsSpec Rows.streamCardsRow=true:=by
 unfold joinedFacts;rw[Rp,XG,XH,Rq];kernel_rfl
theorem streamCards_holds:Rows.StreamCardsSaid:=
 OpenClaim.holds_of_wide 3 f3 rfl rfl rfl rfl rfl rfl rfl ⟨rfl,rfl,rfl,rfl,rfl⟩ rfl rfl rfl rfl rfl be func3 Nq
  (of_decide_eq_true be) (by unfold Func.isWrapper;first|(rw[if_pos (by decide+kernel)];kernel_rfl)|(rw[if_neg (by decide+kernel)];exact⟨rfl,rfl⟩))
  (λos started H enc _=>streamCards_lifted os started H enc)
theorem streamCards_card:Rows.StreamCardsCardSaid:=
 Claim7.holds_tied_plain_at .later [] [.data,.data,.data,.data,.handle,.sentinel,.sentinel,.listed,.data,.widerDeep,.pinned,.pinned] true Rows.streamCardsCard.stood.harness true
  streamCards_holds (fun _ h=>by cases h) be (fun _ h=>by cases h) streamCards_row_tie rfl ⟨rfl,rfl⟩ be rfl
  (fun f fn hf hfn=>by
   obtain rfl:f=3:=Option.some.inj ((show prog.funcNamed "visitingcard/visitingcardlaw.StreamCards" =some 3 by kernel_rfl).symm.trans hf) |>.symm
   obtain rfl:fn=f3:=(Option.some.inj (func3.symm.trans hfn)).symm
   exact⟨be,fun j t ht=>by
    rw[params3] at ht
    have hm:t∈[9]:=by simpa using Array.mem_of_getElem? ht
    have hall:([9].all fun u=> !prog.wantsStandIn u)=true:=by kernel_rfl
    exact(show prog.wantsStandIn t=false by simpa using List.all_eq_true.1 hall t hm)⟩)
  be
#print axioms streamCards_card
end
end Go.Proofs.YtgpjhbhdbjdlgaaGreatDoor
