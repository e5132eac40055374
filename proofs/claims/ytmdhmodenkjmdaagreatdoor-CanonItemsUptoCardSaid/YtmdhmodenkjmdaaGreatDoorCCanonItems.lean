/- Proved here: canonItems_card, the given statement of that law: for every input of the kind the row names the call returns true and leaves its argument as it read. Conditions: none beside the row's own. -/
import Derived.Test.YtmdhmodenkjmdaaGreatDoorTie
import Derived.Test.YtmdhmodenkjmdaaGreatDoorCards
import Derived.SevenTiedAt
import Derived.Test.YtmdhmodenkjmdaaGreatDoorBan
set_option linter.unusedVariables false
set_option linter.unusedSimpArgs false
set_option linter.unusedSectionVars false
namespace Go.Proofs.YtmdhmodenkjmdaaGreatDoor
open Go.Proofs.Tryz Go.Proofs.YtmdhmodenkjmdaaGreatDoor.Tryz
set_option maxRecDepth 20000
set_option maxHeartbeats 4000000
section
open Go.ChangeShapes Go.WideShapes Go.ChangeAt Go.RowKit Go.WideMaps Go.WideElems
open Go.ChangeMaps (open_string shut_string)
theorem Tryz.laidOut:laidOutB prog=true:=by kernel_rfl
def Ns:Array Value:=#[.agg #[.string ⟨#[]⟩,.string ⟨#[]⟩,.slice none 0 0,.int .i64 0,.string ⟨#[]⟩,.slice none 0 0,.int .i64 0,.int .i64 0,.int .i64 0,.int .i64 0,.int .i64 0,.int .i64 0,.bool false,.int .i64 0,.int .i64 0],.int .i64 0]
set_option maxRecDepth 100000 in
theorem canonItems_lifted (os:Os)(started:os.Started)(H:Type)(enc:TypeId×Value->H)(F:Stop.Interp):
  ReturnsInHanded {} checked os 3 .any ((Rows.OpenSpec.upto Rows.canonItemsSpec).preRow enc prog f3 Rows.canonItemsUptoRow.domain false Rows.canonItemsUptoRow.laid) (((Rows.OpenSpec.upto Rows.canonItemsSpec).at F).post enc prog f3 false true false false):=by
 have hx:∃places,DataW.whole enc prog ((dX os Rows.canonItemsUptoRow.laid).forCall (λ_ _=>0) ⟨#[],Ns,[]⟩).memory f3.params.toList Rows.canonItemsSpec.vars false Ns.toList 8=some ([.agg [.lit (.string []),.lit (.string []),.nil,.agg [.lit (.int .i64 0),.lit (.string []),.nil,.agg [.lit (.int .i64 0),.lit (.int .i64 0),.lit (.int .i64 0),.lit (.int .i64 0),.lit (.int .i64 0),.lit (.int .i64 0),.lit (.bool false),.lit (.int .i64 0)],.lit (.int .i64 0)]],.lit (.int .i64 0)],[],places):=⟨[],by kernel_rfl⟩;obtain⟨places,hx⟩:=hx;have hok:Input.okWideB prog ((dX os Rows.canonItemsUptoRow.laid).forCall (λ_ _=>0) ⟨#[],Ns,[]⟩) 3 ⟨#[],Ns,[]⟩=true:=by kernel_rfl
 refine returnsInHanded_of_row (C:=checked) (s:=Rows.OpenSpec.upto Rows.canonItemsSpec) own started (by kernel_rfl) func3
  ⟨dX os Rows.canonItemsUptoRow.laid,λ_ _=>0,⟨#[],Ns,[]⟩,sY _ _,World.shaped_of_ZipB (by kernel_rfl) (by kernel_rfl),(Input.okWide_of_okWideB (base:=0) hok).1,(Input.okWide_of_okWideB hok).2,
   OpenSpec.preRow_of_cond 8 hx (by kernel_rfl) (λk hk=>by cases hk;kernel_rfl) (by kernel_rfl) (rK _ (by kernel_rfl) (by kernel_rfl) (by kernel_rfl)),by
    simp only[Assume.holds];exact⟨by simp,by simp,by simp,by simp,by simp⟩⟩ ?_
 intro W base args ds gs before hval0 hW _ hcond _ hL hsh _;obtain⟨m,hm⟩:=G0 hsh;have hW':=hW;obtain⟨p,q,hA0,hV,rfl,_,_⟩:=hW;have hA:DataW.TrodAll enc prog W 0 (λ_=>true) true f3.params.toList args.toList ds p:=hA0;rw[params3] at hA;obtain⟨v0,v1,d0,d1,p0,p1,rfl,rfl,rfl,h0,h1⟩:=trodAll_two hA;obtain⟨rfl,rfl⟩:=trodVars_none hV;have hval1:∀(j:Nat) t v,f3.params[j]? =some t->#[v0,v1][j]? =some v->Value.okWide prog W .any base t v:=hval0;rw[params3] at hval1;obtain⟨x1,rfl,rfl,rfl,w1⟩:=open_int underlying3 (hval1 1 3 v1 rfl rfl) h1;simp only[List.append_nil] at hW';have hk:=hcond _ rfl;have hbulk:Rows.uptoBulkAll ([d0,.lit (.int .i64 x1)]++([]:List (DataW H)))<=1048576:=of_decide_eq_true hk;simp only[List.append_nil,Rows.uptoBulkAll,Rows.uptoBulk,Nat.add_zero] at hbulk;have h0k:=h0;obtain⟨c,hr,ho⟩:=Ec h0 (by omega);have fin:=Ez (W:=W) (R:=aL W W.heap.size) (args:=#[v0,.int .i64 x1]) (rq MR MW Ka MU MV MT N6 x1 c ho) (call3 _ _) (Mq hm (by repeat (first|exact List.Mem.head _|apply List.Mem.tail)) (by repeat (first|exact List.Mem.head _|apply List.Mem.tail)) (by repeat (first|exact List.Mem.head _|apply List.Mem.tail)) (by repeat (first|exact List.Mem.head _|apply List.Mem.tail)) (by repeat (first|exact List.Mem.head _|apply List.Mem.tail)) (by repeat (first|exact List.Mem.head _|apply List.Mem.tail)) (by repeat (first|exact List.Mem.head _|apply List.Mem.tail)) (by repeat (first|exact List.Mem.head _|apply List.Mem.tail)) hL) (vi W _)
  ⟨_,_,rfl,hr,⟨_,_,rfl,am.2 rfl,rfl⟩⟩
 have hlt:∀x∈p0,x.block<W.heap.size:=λx hx=>by simpa using hW'.lt x (by simpa using hx)
 refine fin.mono λe W' ⟨he,hw,hb⟩=> ?_;subst he;refine⟨_,rfl,_,_,_,[],p0,[],hW',?_,?_,?_,hw _,λh=>by cases h⟩
 ·exact trodAll_mk1 (shut_bool underlying4 true)
 ·have:=trodAll_mk2 (Below.trod laidOut (by kernel_rfl) (of_decide_eq_true (by kernel_rfl)) h0k hb hlt) (shut_int (enc:=enc) (P:=prog) (w:=W') (base:=0) (spare:=λb=>decide (b<W.heap.size)) (held:=true) underlying3 w1);simp only[List.append_nil] at this;exact this
 ·rfl
theorem FF:(Rows.canonItemsUptoRow.inPlace==pinned.checked.prog.inPlace 3)=true:=by kernel_rfl
theorem Lm:(Rows.canonItemsUptoRow.unfollowed==pinned.checked.prog.unfollowed 3)=true:=by kernel_rfl
theorem Lo:(Rows.canonItemsUptoRow.recurses==pinned.checked.prog.recurses 3)=true:=by kernel_rfl
theorem FG:(Rows.canonItemsUptoRow.named==pinned.checked.prog.varsNamed 3)=true:=by kernel_rfl
theorem Dz:joinedFacts pinned.checked.prog 3 f3 (Rows.OpenSpec.upto Rows.canonItemsSpec).bare Rows.canonItemsUptoRow=true:=by
 unfold joinedFacts;rw[FF,Lm,Lo,FG];kernel_rfl
theorem pM:Rows.CanonItemsUptoSaid:=
 OpenClaim.holds_of_cond 3 f3 rfl rfl rfl rfl rfl rfl rfl ⟨rfl,rfl,rfl,rfl,rfl⟩ rfl rfl rfl rfl rfl (by kernel_rfl) func3 Dz
  (of_decide_eq_true (by kernel_rfl)) (by unfold Func.isWrapper;first|(rw[if_pos (by decide+kernel)];kernel_rfl)|(rw[if_neg (by decide+kernel)];exact⟨rfl,rfl⟩))
  (λos started H enc _ F=>by rw[OpenClaim.pre_eq_preRow];exact canonItems_lifted os started H enc F)
theorem canonItems_card:Rows.CanonItemsUptoCardSaid:=
 Claim7.holds_tied_plain_at .later [] _ _ _ _ pM (fun _ h=>by cases h) (by kernel_rfl) (fun _ h=>by cases h) canonItemsUpto_row_tie rfl ⟨rfl,rfl⟩ (by kernel_rfl) rfl
  (fun f fn hf hfn=>by
   obtain rfl:f=3:=Option.some.inj ((show prog.funcNamed "visitingcard/visitingcardlaw.CanonItems" =some 3 by kernel_rfl).symm.trans hf) |>.symm
   obtain rfl:fn=f3:=(Option.some.inj (func3.symm.trans hfn)).symm
   exact⟨by kernel_rfl,fun j t ht=>by
    rw[params3] at ht
    have hm:t∈[29,3]:=by simpa using Array.mem_of_getElem? ht
    have hall:([29,3].all fun u=> !prog.wantsStandIn u)=true:=by kernel_rfl
    exact(show prog.wantsStandIn t=false by simpa using List.all_eq_true.1 hall t hm)⟩)
  (by kernel_rfl)
#print axioms canonItems_card
end
end Go.Proofs.YtmdhmodenkjmdaaGreatDoor
