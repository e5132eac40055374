/- How the memory's side of my abstract states goes through a new block, a write to an owned block, a sealing, a call. -/
import Derived.Test.YtlmihggafbmkaaaGreatDoorAbs
namespace Go.Proofs.YtlmihggafbmkaaaGreatDoor
open Go

theorem heap_lt {w : World} {b : Nat} {o : Obj} (h : w.heap[b]? = some o) : b < w.heap.size := by
  rcases Nat.lt_or_ge b w.heap.size with k | k
  · exact k
  · simp [Array.getElem?_eq_none k] at h

/-- A world that has one block more. -/
def grow (w : World) (o : Obj) : World := { w with heap := w.heap.push o }
theorem grow_at (w : World) (o : Obj) : (grow w o).heap[w.heap.size]? = some o := by
  show (w.heap.push o)[w.heap.size]? = some o
  simp
theorem grow_lt {w : World} {o : Obj} {b : Nat} (h : b < w.heap.size) : (grow w o).heap[b]? = w.heap[b]? := by
  simp only [grow, Array.getElem?_push]; rw [if_neg (by omega)]
theorem Ext.grow {w0 w : World} {B : List Nat} (h : Ext w0 B w) (o : Obj) : Ext w0 B (grow w o) :=
  ⟨h.os, h.tape, h.output, by have := h.size; simp only [Go.Proofs.YtlmihggafbmkaaaGreatDoor.grow, Array.size_push]; omega,
   fun b hb hB => by rw [grow_lt (by have := h.size; omega)]; exact h.block b hb hB⟩
theorem Sealed.grow {R : Seal} {w : World} (h : Sealed R w) (o : Obj) : Sealed R (grow w o) := fun b o' hb => by
  have := h b o' hb
  rw [grow_lt (heap_lt this)]; exact this

theorem HeapRel.blk_lt {R : Seal} {w : World} {H : Heap} (h : HeapRel R w H) {b : Nat} (hb : b ∈ H.filterMap HEnt.blk) : b < w.heap.size := by
  obtain ⟨e, he, hb⟩ := List.mem_filterMap.1 hb
  exact HEnt.blk_lt (h.holds e he) hb

/-- A new block that is owned. -/
theorem MS.alloc {C : Ctx} {R : Seal} {H : Heap} {w : World} (h : MS C R H w) (o : Obj) (x : HEnt) (hb : x.blk = some w.heap.size)
    (hx : x.holds R (grow w o)) : MS C R (x :: H) (grow w o) where
  sealed := h.sealed.grow o
  ge := h.ge
  fresh := h.fresh
  heap := by
    refine ⟨fun y hy => ?_, ?_, fun y hy b hyb => ?_⟩
    · rcases List.mem_cons.1 hy with rfl | hy
      · exact hx
      · refine HEnt.holds_mono (h.heap.holds y hy) (Seal.le_refl R) fun b hyb => ?_
        exact grow_lt (HEnt.blk_lt (h.heap.holds y hy) hyb)
    · simp only [List.filterMap_cons, hb]
      refine List.nodup_cons.2 ⟨fun hm => ?_, h.heap.nodup⟩
      exact absurd (h.heap.blk_lt hm) (Nat.lt_irrefl _)
    · rcases List.mem_cons.1 hy with rfl | hy
      · rw [hb] at hyb
        simp only [Option.some.injEq] at hyb
        subst hyb
        cases hR : R w.heap.size with
        | none => rfl
        | some o' => exact absurd (heap_lt (h.sealed _ _ hR)) (Nat.lt_irrefl _)
      · exact h.heap.apart y hy b hyb
  own := fun y hy b hyb => by
    rcases List.mem_cons.1 hy with rfl | hy
    · rw [hb] at hyb
      simp only [Option.some.injEq] at hyb
      subst hyb
      exact .inl h.ext.size
    · exact h.own y hy b hyb
  ext := h.ext.grow o

/-- A new block that is sealed at once. -/
def Seal.put (R : Seal) (b : Nat) (o : Obj) : Seal := fun k => if k = b then some o else R k
theorem Seal.put_le {R : Seal} {b : Nat} {o : Obj} (h : R b = none) : R.le (R.put b o) := fun k o' hk => by
  simp only [Seal.put]
  by_cases e : k = b
  · subst e; rw [h] at hk; cases hk
  · rw [if_neg e]; exact hk
theorem Seal.put_at (R : Seal) (b : Nat) (o : Obj) : R.put b o b = some o := by simp [Seal.put]
theorem MS.seal_free {C : Ctx} {R : Seal} {H : Heap} {w : World} (h : MS C R H w) : R w.heap.size = none := by
  cases hR : R w.heap.size with
  | none => rfl
  | some o' => exact absurd (heap_lt (h.sealed _ _ hR)) (Nat.lt_irrefl _)
theorem MS.alloc_sealed {C : Ctx} {R : Seal} {H : Heap} {w : World} (h : MS C R H w) (o : Obj) : MS C (R.put w.heap.size o) H (grow w o) where
  sealed := fun b o' hb => by
    simp only [Seal.put] at hb
    by_cases e : b = w.heap.size
    · subst e; rw [if_pos rfl] at hb; rw [grow_at]; exact hb
    · rw [if_neg e] at hb; exact h.sealed.grow o b o' hb
  ge := Seal.le_trans h.ge (Seal.put_le h.seal_free)
  fresh := fun b hb => by
    simp only [Seal.put] at hb
    by_cases e : b = w.heap.size
    · subst e; exact .inr (.inl h.ext.size)
    · rw [if_neg e] at hb; exact h.fresh b hb
  heap := by
    refine ⟨fun y hy => ?_, h.heap.nodup, fun y hy b hyb => ?_⟩
    · refine HEnt.holds_mono (h.heap.holds y hy) (Seal.put_le h.seal_free) fun b hyb => ?_
      exact grow_lt (HEnt.blk_lt (h.heap.holds y hy) hyb)
    · have := HEnt.blk_lt (h.heap.holds y hy) hyb
      simp only [Seal.put]
      rw [if_neg (by omega)]
      exact h.heap.apart y hy b hyb
  own := h.own
  ext := h.ext.grow o

/-- Two worlds that differ in one block. -/
structure OneBlk (w : World) (b : Nat) (o : Obj) (w' : World) : Prop where
  os : w'.os = w.os
  tape : w'.tape = w.tape
  output : w'.output = w.output
  size : w'.heap.size = w.heap.size
  at_ : w'.heap[b]? = some o
  other : ∀ k, k ≠ b → w'.heap[k]? = w.heap[k]?

theorem set_split {α : Type} {l : List α} {i : Nat} {x y : α} (h : l[i]? = some x) : ∃ a c, l = a ++ x :: c ∧ l.set i y = a ++ y :: c := by
  induction l generalizing i with
  | nil => simp at h
  | cons z t ih =>
    cases i with
    | zero => simp only [List.getElem?_cons_zero, Option.some.injEq] at h; subst h; exact ⟨[], t, rfl, rfl⟩
    | succ i =>
      simp only [List.getElem?_cons_succ] at h
      obtain ⟨a, c, h1, h2⟩ := ih h
      exact ⟨z :: a, c, by rw [h1]; rfl, by simp [h2]⟩

/-- A write to an owned block. -/
theorem MS.write {C : Ctx} {R : Seal} {H : Heap} {w w' : World} {i b : Nat} {x y : HEnt} {o : Obj} (h : MS C R H w) (hi : H[i]? = some x) (hb : x.blk = some b)
    (hw : OneBlk w b o w') (hyb : y.blk = some b) (hy : y.holds R w') : MS C R (H.set i y) w' := by
  obtain ⟨a, c, rfl, hset⟩ := set_split (y := y) hi
  rw [hset]
  have hx : x ∈ a ++ x :: c := by simp
  have hlt := HEnt.blk_lt (h.heap.holds x hx) hb
  have hRb := h.heap.apart x hx b hb
  have hnd := h.heap.nodup
  rw [List.filterMap_append, List.filterMap_cons, hb] at hnd
  have hother : ∀ z, z ∈ a ∨ z ∈ c → ∀ k, z.blk = some k → k ≠ b := by
    rintro z hz k hk rfl
    have hd := List.nodup_append.1 hnd
    rcases hz with hz | hz
    · exact hd.2.2 k (List.mem_filterMap.2 ⟨z, hz, hk⟩) k (by simp) rfl
    · exact (List.nodup_cons.1 hd.2.1).1 (List.mem_filterMap.2 ⟨z, hz, hk⟩)
  have hmem : ∀ z, z ∈ a ++ y :: c → z = y ∨ ((z ∈ a ∨ z ∈ c) ∧ z ∈ a ++ x :: c) := by
    intro z hz
    simp only [List.mem_append, List.mem_cons] at hz ⊢
    rcases hz with hz | hz | hz
    · exact .inr ⟨.inl hz, .inl hz⟩
    · exact .inl hz
    · exact .inr ⟨.inr hz, .inr (.inr hz)⟩
  refine ⟨?_, h.ge, h.fresh, ⟨?_, ?_, ?_⟩, ?_, ?_⟩
  · intro k o' hk
    rw [hw.other k (by rintro rfl; rw [hRb] at hk; cases hk)]
    exact h.sealed k o' hk
  · intro z hz
    rcases hmem z hz with rfl | ⟨hz', hz''⟩
    · exact hy
    · exact HEnt.holds_mono (h.heap.holds z hz'') (Seal.le_refl R) fun k hk => hw.other k (hother z hz' k hk)
  · rw [List.filterMap_append, List.filterMap_cons, hyb]; exact hnd
  · intro z hz k hk
    rcases hmem z hz with rfl | ⟨_, hz''⟩
    · rw [hyb] at hk; simp only [Option.some.injEq] at hk; subst hk; exact hRb
    · exact h.heap.apart z hz'' k hk
  · intro z hz k hk
    rcases hmem z hz with rfl | ⟨_, hz''⟩
    · rw [hyb] at hk; simp only [Option.some.injEq] at hk; subst hk; exact h.own x hx b hb
    · exact h.own z hz'' k hk
  · have hob := h.own x hx b hb
    refine ⟨hw.os.trans h.ext.os, hw.tape.trans h.ext.tape, hw.output.trans h.ext.output, by rw [hw.size]; exact h.ext.size, fun k hk hB => ?_⟩
    rw [hw.other k (by rintro rfl; rcases hob with h1 | h1; omega; exact hB h1)]
    exact h.ext.block k hk hB

/-- Some of what is owned is let go. -/
theorem MS.drop {C : Ctx} {R : Seal} {H H' : Heap} {w : World} (h : MS C R H w) (hs : H'.Sublist H) : MS C R H' w :=
  ⟨h.sealed, h.ge, h.fresh, ⟨fun y hy => h.heap.holds y (hs.subset hy), h.heap.nodup.sublist (hs.filterMap _), fun y hy => h.heap.apart y (hs.subset hy)⟩,
   fun y hy => h.own y (hs.subset hy), h.ext⟩
/-- The order of what is owned is of no account. -/
theorem MS.perm {C : Ctx} {R : Seal} {H H' : Heap} {w : World} (h : MS C R H w) (hs : H.Perm H') : MS C R H' w :=
  ⟨h.sealed, h.ge, h.fresh, ⟨fun y hy => h.heap.holds y (hs.mem_iff.2 hy), (hs.filterMap _).nodup_iff.1 h.heap.nodup, fun y hy => h.heap.apart y (hs.mem_iff.2 hy)⟩,
   fun y hy => h.own y (hs.mem_iff.2 hy), h.ext⟩

/-- An owned block is sealed. -/
theorem MS.fixed {C : Ctx} {R : Seal} {H : Heap} {w : World} {x : HEnt} {b : Nat} {o : Obj} (h : MS C R (x :: H) w) (hb : x.blk = some b) (ho : w.heap[b]? = some o) :
    MS C (R.put b o) H w ∧ R.le (R.put b o) := by
  have hx : x ∈ x :: H := by simp
  have hRb := h.heap.apart x hx b hb
  have hle := Seal.put_le (o := o) hRb
  have hnd := h.heap.nodup
  rw [List.filterMap_cons, hb] at hnd
  refine ⟨⟨?_, Seal.le_trans h.ge hle, ?_, ⟨fun y hy => ?_, (List.nodup_cons.1 hnd).2, fun y hy k hk => ?_⟩, fun y hy => h.own y (by simp [hy]), h.ext⟩, hle⟩
  · intro k o' hk
    simp only [Seal.put] at hk
    by_cases e : k = b
    · subst e; rw [if_pos rfl] at hk; rw [ho]; exact hk
    · rw [if_neg e] at hk; exact h.sealed k o' hk
  · intro k hk
    simp only [Seal.put] at hk
    by_cases e : k = b
    · subst e; exact .inr (h.own x hx k hb)
    · rw [if_neg e] at hk; exact h.fresh k hk
  · exact HEnt.holds_mono (h.heap.holds y (by simp [hy])) hle fun _ _ => rfl
  · have : k ≠ b := by
      rintro rfl
      exact (List.nodup_cons.1 hnd).1 (List.mem_filterMap.2 ⟨y, hy, hk⟩)
    simp only [Seal.put]
    rw [if_neg this]
    exact h.heap.apart y (by simp [hy]) k hk

def blks (H : Heap) : List Nat := H.filterMap HEnt.blk

theorem MS.glo {C : Ctx} {R : Seal} {H : Heap} {w : World} (h : MS C R H w) : C.G.p R := C.G.mono _ _ h.ge C.hG

/-- BEHIND A CALL: the callee had the first part of what is owned. -/
theorem MS.call {C : Ctx} {R R' : Seal} {H1 H1' H2 : Heap} {w w' : World} {G : Glo} {hG : G.p R} (h : MS C R (H1 ++ H2) w) (h' : MS ⟨w, R, blks H1, G, hG, []⟩ R' H1' w') : MS C R' (H1' ++ H2) w' := by
  have hnd := h.heap.nodup
  rw [List.filterMap_append] at hnd
  have hd := List.nodup_append.1 hnd
  have hB1 : ∀ b, b ∈ blks H1 → C.w0.heap.size ≤ b ∨ b ∈ C.B0 := by
    intro b hb
    obtain ⟨e, he, hb⟩ := List.mem_filterMap.1 hb
    exact h.own e (by simp [he]) b hb
  have h2 : ∀ z ∈ H2, ∀ b, z.blk = some b → b < w.heap.size ∧ b ∉ blks H1 := by
    intro z hz b hb
    refine ⟨HEnt.blk_lt (h.heap.holds z (by simp [hz])) hb, fun hm => ?_⟩
    exact hd.2.2 b hm b (List.mem_filterMap.2 ⟨z, hz, hb⟩) rfl
  refine ⟨h'.sealed, Seal.le_trans h.ge h'.ge, ?_, ⟨?_, ?_, ?_⟩, ?_, ?_⟩
  · intro b hb
    rcases h'.fresh b hb with h1 | h1 | h1
    · exact h.fresh b h1
    · exact .inr (.inl (Nat.le_trans h.ext.size h1))
    · exact .inr (hB1 b h1)
  · intro z hz
    rcases List.mem_append.1 hz with hz | hz
    · exact h'.heap.holds z hz
    · exact HEnt.holds_mono (h.heap.holds z (by simp [hz])) h'.ge fun b hb => h'.ext.block b (h2 z hz b hb).1 (h2 z hz b hb).2
  · rw [List.filterMap_append]
    refine List.nodup_append.2 ⟨h'.heap.nodup, hd.2.1, ?_⟩
    rintro b hb k hk rfl
    obtain ⟨e, he, hb⟩ := List.mem_filterMap.1 hb
    obtain ⟨z, hz, hk⟩ := List.mem_filterMap.1 hk
    have := h2 z hz b hk
    rcases h'.own e he b hb with h1 | h1
    · exact absurd (show w.heap.size ≤ b from h1) (by have := this.1; omega)
    · exact this.2 h1
  · intro z hz b hb
    rcases List.mem_append.1 hz with hz | hz
    · exact h'.heap.apart z hz b hb
    · cases hR : R' b with
      | none => rfl
      | some o =>
        have := h2 z hz b hb
        rcases h'.fresh b (by simp [hR]) with h1 | h1 | h1
        · exact absurd (h.heap.apart z (by simp [hz]) b hb) h1
        · exact absurd h1 (by have := this.1; show ¬ w.heap.size ≤ b; omega)
        · exact absurd h1 this.2
  · intro z hz b hb
    rcases List.mem_append.1 hz with hz | hz
    · rcases h'.own z hz b hb with h1 | h1
      · exact .inl (Nat.le_trans h.ext.size h1)
      · exact hB1 b h1
    · exact h.own z (by simp [hz]) b hb
  · refine ⟨h'.ext.os.trans h.ext.os, h'.ext.tape.trans h.ext.tape, h'.ext.output.trans h.ext.output, Nat.le_trans h.ext.size h'.ext.size, fun b hb hB => ?_⟩
    rw [h'.ext.block b (Nat.lt_of_lt_of_le hb h.ext.size) (fun hm => by rcases hB1 b hm with h1 | h1; omega; exact hB h1)]
    exact h.ext.block b hb hB

/-- At a call's begin. -/
theorem MS.enter {C : Ctx} {R : Seal} {H1 H2 : Heap} {w : World} {G : Glo} {hG : G.p R} (h : MS C R (H1 ++ H2) w) : MS ⟨w, R, blks H1, G, hG, []⟩ R H1 w :=
  have hd := h.drop (H' := H1) (by simp)
  ⟨h.sealed, Seal.le_refl R, fun _ hb => .inl hb, hd.heap, fun z hz b hb => .inr (List.mem_filterMap.2 ⟨z, hz, hb⟩), Ext.refl w _⟩
end Go.Proofs.YtlmihggafbmkaaaGreatDoor
