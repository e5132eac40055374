/- States told otherwise: what a cell holds, rows within rows, loops that end their rounds so. -/
import Derived.Test.YtlmihggafbmkaaaGreatDoorDeg
namespace Go.Proofs.YtlmihggafbmkaaaGreatDoor
open Go Go.RowKit
theorem filterMap_set {α β : Type} {f : α → Option β} {x y : α} (hf : f y = f x) : ∀ {h : List α} {i : Nat}, h[i]? = some x → (h.set i y).filterMap f = h.filterMap f
  | [], i, e => by simp at e
  | z :: h, 0, e => by
    simp only [List.getElem?_cons_zero, Option.some.injEq] at e
    subst e
    simp [List.filterMap_cons, hf]
  | z :: h, i + 1, e => by
    simp only [List.getElem?_cons_succ] at e
    simp only [List.set_cons_succ, List.filterMap_cons, filterMap_set hf e]
theorem MS.setEnt {C : Ctx} {R : Seal} {H : Heap} {w : World} {i : Nat} {x y : HEnt} (h : MS C R H w) (hi : H[i]? = some x) (hb : y.blk = x.blk) (hy : y.holds R w) : MS C R (H.set i y) w := by
  have hx : x ∈ H := List.mem_of_getElem? hi
  have hm : ∀ z, z ∈ H.set i y → z ∈ H ∨ z = y := fun z hz => List.mem_or_eq_of_mem_set hz
  refine ⟨h.sealed, h.ge, h.fresh, ⟨fun z hz => ?_, ?_, fun z hz b hzb => ?_⟩, fun z hz b hzb => ?_, h.ext⟩
  · rcases hm z hz with h1 | rfl
    · exact h.heap.holds z h1
    · exact hy
  · rw [filterMap_set hb hi]; exact h.heap.nodup
  · rcases hm z hz with h1 | rfl
    · exact h.heap.apart z h1 b hzb
    · exact h.heap.apart x hx b (by rw [← hb]; exact hzb)
  · rcases hm z hz with h1 | rfl
    · exact h.own z h1 b hzb
    · exact h.own x hx b (by rw [← hb]; exact hzb)
theorem relL_set {R : Seal} {a a' : AVal} (ht : ∀ v, RelC R a [v] → RelC R a' [v]) : ∀ {cs : List AVal} {vs : List Value} {p : Nat}, RelL R cs vs → cs[p]? = some a → RelL R (cs.set p a') vs
  | [], _, _, _, e => by simp at e
  | c :: cs, _, 0, ⟨v, t, rfl, h1, h2⟩, e => by
    simp only [List.getElem?_cons_zero, Option.some.injEq] at e
    subst e
    exact ⟨v, t, rfl, ht v h1, h2⟩
  | c :: cs, _, p + 1, ⟨v, t, rfl, h1, h2⟩, e => by
    simp only [List.getElem?_cons_succ] at e
    exact ⟨v, t, rfl, h1, relL_set ht h2 e⟩
/-- An entry whose cell is told otherwise. -/
inductive CellTo (R : Seal) (p : Nat) (a' : AVal) : HEnt → HEnt → Prop
  | cells {b eT cs a} (hp : cs[p]? = some a) (ht : ∀ v, RelC R a [v] → RelC R a' [v]) : CellTo R p a' (.cells b eT cs) (.cells b eT (cs.set p a'))
  | row {v eT sz n cs a} (hp : cs[p]? = some a) (ht : ∀ v, RelC R a [v] → RelC R a' [v]) : CellTo R p a' (.row v eT sz n cs) (.row v eT sz n (cs.set p a'))
theorem CellTo.holds {R : Seal} {p : Nat} {a' : AVal} {x y : HEnt} {w : World} (h : CellTo R p a' x y) (hx : x.holds R w) : y.holds R w ∧ y.blk = x.blk := by
  cases h with
  | cells hp ht =>
    obtain ⟨C, e, fz, hb, hl, hf⟩ := hx
    exact ⟨⟨C, e, fz, hb, relL_set ht hl hp, hf⟩, rfl⟩
  | row hp ht =>
    rename_i v eT sz n cs a
    obtain ⟨hlen, y⟩ := hx
    refine ⟨⟨by rw [List.length_set]; exact hlen, ?_⟩, by cases v with | slice a l c => cases a <;> rfl | _ => rfl⟩
    rcases y with ⟨h1, h2⟩ | ⟨b, cap, C, e, fz, rfl, hb, hs, hn, hl, hf⟩
    · exact .inl ⟨h1, h2⟩
    · exact .inr ⟨b, cap, C, e, fz, rfl, hb, hs, hn, relL_set ht hl hp, hf⟩
def To (C : Ctx) (n : Nat) (e : Env) (h : Heap) (e' : Env) (h' : Heap) : Prop :=
  ∀ R a w, MS C R h w → FS C.D n R e a → ∃ R', R.le R' ∧ MS C R' h' w ∧ FS C.D n R' e' a
section
variable {C : Ctx} {n : Nat} {e e' e'' : Env} {h h' h'' : Heap}
theorem to_refl : To C n e h e h := fun R _ _ hm hf => ⟨R, Seal.le_refl R, hm, hf⟩
theorem to_trans (a : To C n e h e' h') (b : To C n e' h' e'' h'') : To C n e h e'' h'' := fun R x w hm hf =>
  let ⟨R1, l1, m1, f1⟩ := a R x w hm hf
  let ⟨R2, l2, m2, f2⟩ := b R1 x w m1 f1
  ⟨R2, Seal.le_trans l1 l2, m2, f2⟩
theorem to_sub (hs : Env.sub e e') (hh : h'.Sublist h) : To C n e h e' h' := fun R _ _ hm hf => ⟨R, Seal.le_refl R, hm.drop hh, hf.sub hs⟩
theorem to_own {k i : Nat} {v : Value} (hv : vAgg v = false) (hk : Env.get e k = some (.raw v)) : To C n e h ((k, .own i v) :: e) h := fun R _ _ hm hf => ⟨R, Seal.le_refl R, hm, fs_own hv hk hf⟩
theorem to_ghost (sz : Nat) : To C n e h e (h ++ [.row (.slice none 0 0) none sz 0 []]) := fun R a w hm hf => by
  refine ⟨R, Seal.le_refl R, MS.perm (H := .row (.slice none 0 0) none sz 0 [] :: h) ?_ (List.perm_append_singleton _ h).symm, hf⟩
  refine ⟨hm.sealed, hm.ge, hm.fresh, ⟨fun z hz => ?_, hm.heap.nodup, fun z hz b hb => ?_⟩, fun z hz b hb => ?_, hm.ext⟩
  · rcases List.mem_cons.1 hz with rfl | hz
    · exact ⟨by simp, .inl ⟨rfl, rfl⟩⟩
    · exact hm.heap.holds z hz
  · rcases List.mem_cons.1 hz with rfl | hz
    · cases hb
    · exact hm.heap.apart z hz b hb
  · rcases List.mem_cons.1 hz with rfl | hz
    · cases hb
    · exact hm.own z hz b hb
theorem to_cell {i p : Nat} {a' : AVal} {x y : HEnt} (hi : h[i]? = some x) (hc : ∀ R, CellTo R p a' x y) : To C n e h e (h.set i y) := fun R a w hm hf => by
  obtain ⟨h1, h2⟩ := (hc R).holds (hm.heap.holds x (List.mem_of_getElem? hi))
  exact ⟨R, Seal.le_refl R, hm.setEnt hi h2 h1, hf⟩
/-- A row of the call's own is sealed; the cell that holds it is told so. -/
theorem to_seal {i k p sz m : Nat} {v : Value} {eT : Option TypeId} {cs : List AVal} {x y : HEnt} (f : Nat → AVal) (hi : h[i]? = some (.row v eT sz m cs)) (hk : (h.eraseIdx i)[k]? = some x)
    (hf : ∀ j, j < m → (f j).cells = (cs.drop (j * sz)).take sz ∧ (f j).plain = true) (hc : ∀ R, Rel R (.list sz m f) v → CellTo R p (.list sz m f) x y) : To C n e h e ((h.eraseIdx i).set k y) := fun R a w hm hfs => by
  obtain ⟨R', hle, hm', hr⟩ := MS.seal_row (hm.perm (perm_front hi)) hf
  obtain ⟨h1, h2⟩ := (hc R' hr).holds (hm'.heap.holds x (List.mem_of_getElem? hk))
  exact ⟨R', hle, hm'.setEnt hk h2 h1, hfs.mono hle⟩
theorem own_list {R : Seal} {j sz m : Nat} {u v : Value} {f : Nat → AVal} (hr : Rel R (.list sz m f) v) : RelC R (.own j v) [u] → RelC R (.list sz m f) [u] := by
  rintro ⟨e, _⟩
  simp only [List.cons.injEq, and_true] at e
  subst e
  exact rel_one hr rfl
theorem nil_own {R : Seal} {j : Nat} {u : Value} : RelC R (.raw (.slice none 0 0)) [u] → RelC R (.own j (.slice none 0 0)) [u] := by
  intro e
  have e : [u] = [.slice none 0 0] := e
  exact ⟨e, rfl⟩
theorem nil_list {R : Seal} {sz : Nat} {f : Nat → AVal} {u : Value} : RelC R (.raw (.slice none 0 0)) [u] → RelC R (.list sz 0 f) [u] := by
  intro e
  have e : [u] = [.slice none 0 0] := e
  exact ⟨none, 0, e, Nat.le_refl _, .inl rfl⟩
end
section
variable {P : Program} [Tab P] {C : Ctx} {n : Nat} {env : Env} {H : Heap} {Q : AExit → Env → Heap → Prop} {G : Glo} {GL : List (Nat × List AVal)}
structure NxT {X : Type} (C : Ctx) (n : Nat) (I : X → Env) (J : X → Heap) (Inv : X → Prop) (μ : X → Nat) (x : X) (e : Env) (h : Heap) : Prop where
  h : ∃ x', Inv x' ∧ μ x' < μ x ∧ To C n e h (I x') (J x')
theorem nxT {X : Type} {I : X → Env} {J : X → Heap} {Inv : X → Prop} {μ : X → Nat} {x : X} {e : Env} {h : Heap} (x' : X) (h1 : Inv x') (h2 : μ x' < μ x) (h3 : To C n e h (I x') (J x')) : NxT C n I J Inv μ x e h := ⟨⟨x', h1, h2, h3⟩⟩
theorem lpT {c : Code} {X : Type} (hC : C.G = G) (hGL : GloAll G GL) (I : X → Env) (J : X → Heap) (Inv : X → Prop) (μ : X → Nat) (x0 : X) (h0 : Inv x0) (hto : To C n env H (I x0) (J x0))
    (round : ∀ x, Inv x → codeX P C n G GL c (I x) (J x) (thenQ (fun e h => NxT C n I J Inv μ x e h) Q)) : Lp P C n c env H Q := by
  refine ⟨fun R a w hm hf => ?_⟩
  obtain ⟨R0, _, hm, hf⟩ := hto R a w hm hf
  refine wp_loop_ghost (fun m a w => ∃ x R, Inv x ∧ μ x = m ∧ MS C R (J x) w ∧ FS C.D n R (I x) a) (μ x0) ⟨x0, R0, h0, rfl, hm, hf⟩ ?_
  rintro m a w ⟨x, R, hx, rfl, hm, hf⟩
  refine wp_mono (codeX_ok hC hGL _ _ _ _ (round x hx) R a w hm hf) ?_
  rintro e a' w' ⟨x', en, H', R', q, er, hm', hf'⟩
  cases x' with
  | normal =>
    simp only [ExitRel] at er; subst er
    obtain ⟨x', hx', hlt, hto⟩ := NxT.h q
    obtain ⟨R2, _, hm2, hf2⟩ := hto R' a' w' hm' hf'
    exact ⟨μ x', hlt, x', R2, hx', rfl, hm2, hf2⟩
  | exit i => simp only [ExitRel] at er; subst er; exact ⟨.exit i, en, H', R', q, rfl, hm', hf'⟩
  | goto i => simp only [ExitRel] at er; subst er; exact ⟨.goto i, en, H', R', q, rfl, hm', hf'⟩
  | ret => simp only [ExitRel] at er; subst er; exact ⟨.ret, en, H', R', q, rfl, hm', hf'⟩
  | panic v => obtain ⟨y, rfl, hr⟩ := er; exact ⟨.panic v, en, H', R', q, ⟨y, rfl, hr⟩, hm', hf'⟩
omit [Tab P] in
theorem lp_to {c : Code} {e' : Env} {h' : Heap} (hto : To C n env H e' h') (k : Lp P C n c e' h' Q) : Lp P C n c env H Q := by
  refine ⟨fun R a w hm hf => ?_⟩
  obtain ⟨R0, _, hm, hf⟩ := hto R a w hm hf
  exact k.h R0 a w hm hf
omit [Tab P] in
theorem dw_to {id : Nat} {ops : Array Oper} {e' : Env} {h' : Heap} (hto : To C n env H e' h') (k : Dw P C n id ops e' h' Q) : Dw P C n id ops env H Q := by
  refine ⟨fun R a w hm hf => ?_⟩
  obtain ⟨R0, _, hm, hf⟩ := hto R a w hm hf
  exact k.h R0 a w hm hf
/-- What is handed back may be told otherwise. -/
def ResTo (res : ARes) (H : Heap) (v : AVal) : Prop := ∀ (C : Ctx) (R : Seal) (w : World) (e : Ending), MS C R H w → EndRel R res e → ∃ R', MS C R' [] w ∧ EndRel R' (.ret v) e
omit [Tab P] in
theorem fn_told {f : FuncId} {avs : List AVal} {H : Heap} {Qf : ARes → Heap → Prop} {v : AVal} (h : FnSpec P G f avs H Qf) (hq : ∀ r H', Qf r H' → ResTo r H' v) : FnSpec P G f avs H (fun r H' => r = .ret v ∧ H' = []) := by
  intro R w args hG hm ha
  rcases h R w args hG hm ha with ⟨h1, h2⟩ | ⟨x, w', h1, res, H', R', q, er, hm'⟩
  · exact .inl ⟨h1, h2.mono fun e w' ⟨res, H', R', q, er, hm'⟩ => let ⟨R2, m2, e2⟩ := hq _ _ q _ _ _ _ hm' er; ⟨.ret v, [], R2, ⟨rfl, rfl⟩, e2, m2⟩⟩
  · obtain ⟨R2, m2, e2⟩ := hq _ _ q _ _ _ _ hm' er
    exact .inr ⟨x, w', h1, .ret v, [], R2, ⟨rfl, rfl⟩, e2, m2⟩
end
end Go.Proofs.YtlmihggafbmkaaaGreatDoor
