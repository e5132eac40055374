/- strings.Split at one byte; a call's new row. -/
import Derived.Test.YtlmihggafbmkaaaDoorShc
import Derived.Lib.Split
namespace Go.Proofs.YtlmihggafbmkaaaDoor
open Go Go.RowKit
/-- A text cut at a byte. -/
def splS (c : UInt8) : List UInt8 → List (List UInt8)
  | [] => [[]]
  | x :: t => if x = c then [] :: splS c t else match splS c t with
    | [] => [[x]]
    | p :: ps => (x :: p) :: ps
theorem splS_ne (c : UInt8) : ∀ s : List UInt8, splS c s ≠ []
  | [] => by simp [splS]
  | x :: t => by
    unfold splS
    split
    · simp
    · split <;> simp
theorem index_nil1 (c : UInt8) : Lib.index [] [c] = -1 := rfl
theorem index_hit1 {x c : UInt8} {t : List UInt8} (h : x = c) : Lib.index (x :: t) [c] = 0 := by
  subst h
  simp [Lib.index, List.isPrefixOf]
theorem index_skip1 {x c : UInt8} {t : List UInt8} (h : x ≠ c) : Lib.index (x :: t) [c] = if Lib.index t [c] == -1 then -1 else Lib.index t [c] + 1 := by
  have : (c == x) = false := by simpa using Ne.symm h
  simp [Lib.index, List.isPrefixOf, this]
theorem splitK_hit {sep s : List UInt8} {k i : Nat} (h : Lib.index s sep = i) : Lib.splitK sep 0 (k + 1) s = s.take i :: Lib.splitK sep 0 k (s.drop (i + sep.length)) := by
  have hm : ¬ (Lib.index s sep == -1) = true := fun e => by have := beq_iff_eq.1 e; omega
  rw [Lib.splitK, if_neg hm, h]
  simp
theorem split_splS (c : UInt8) : ∀ s : List UInt8, Lib.splitK [c] 0 (Lib.count s [c]) s = splS c s
  | [] => by rw [Lib.count_miss (index_nil1 c)]; rfl
  | x :: t => by
    have ih := split_splS c t
    by_cases hx : x = c
    · have h0 : Lib.index (x :: t) [c] = (0 : Nat) := index_hit1 hx
      rw [Lib.count_hit (by simp) h0, Nat.add_comm, splitK_hit h0]
      simp only [List.take_zero, List.length_cons, List.length_nil, Nat.zero_add, List.drop_succ_cons, List.drop_zero]
      rw [ih, splS, if_pos hx]
    · have h1 := index_skip1 (t := t) hx
      rcases Lib.index_spec t [c] with ⟨h2, _⟩ | ⟨i, h2, _⟩
      · rw [h2] at h1
        have h1 : Lib.index (x :: t) [c] = -1 := by simpa using h1
        rw [Lib.count_miss h2] at ih
        rw [Lib.count_miss h1, splS, if_neg hx, ← ih]
        rfl
      · have hne : ¬ ((i : Int) == -1) = true := fun e => by have := beq_iff_eq.1 e; omega
        rw [h2, if_neg hne] at h1
        have h1 : Lib.index (x :: t) [c] = ((i + 1 : Nat) : Int) := by rw [h1]; omega
        rw [Lib.count_hit (by simp) h2, Nat.add_comm, splitK_hit h2] at ih
        rw [Lib.count_hit (by simp) h1, Nat.add_comm, splitK_hit h1, splS, if_neg hx, ← ih]
        rfl
/-- A fresh row that a call hands back. -/
theorem fnspec_new_row {P : Program} {G : Glo} {f : FuncId} {avs : List AVal} {H : Heap} {sz m : Nat} {cs : List AVal} {T : TypeId} (hc : ∀ args w, (callFunc f args).run P w = .ok (.enter f args) w)
    (hlen : cs.length = m * sz)
    (h : ∀ C R args, RelV R avs args.toList → ∀ w, G.p R → MS C R H w → Calls P f args w fun e w' => ∃ (w1 : World) (Cs : Array Value), Below w.heap.size w w1 ∧ e = .returned (.slice (some ⟨w1.heap.size, 0, none⟩) m m) ∧ w' = w1.alloc (.cells Cs T) ∧ Cs.size = m * sz ∧ ∀ R, RelL R cs Cs.toList) :
    FnSpec P G f avs H (fun r H' => ∃ b, r = .ret (.own H.length (.slice (some ⟨b, 0, none⟩) m m)) ∧ H' = H ++ [.row (.slice (some ⟨b, 0, none⟩) m m) (some T) sz m cs]) := by
  intro R w args hG hm ha
  refine .inl ⟨hc args w, (h _ R args ha w hG hm).mono ?_⟩
  rintro e w' ⟨w1, Cs, hb, rfl, rfl, hsz, hr⟩
  have hm1 := hm.below hb
  have hm2 := hm1.alloc (.cells Cs T) (.row (.slice (some ⟨w1.heap.size, 0, none⟩) m m) (some T) sz m cs) rfl ?_
  · exact ⟨_, _, R, ⟨w1.heap.size, rfl, rfl⟩, ⟨_, rfl, rel_own.2 ⟨rfl, rfl⟩⟩, hm2.perm (List.perm_append_singleton _ _).symm⟩
  · refine ⟨hlen, .inr ⟨w1.heap.size, m, Cs, T, (0, 0), rfl, grow_at _ _, hsz, Nat.le_refl _, ?_, .inl (Nat.le_refl _), fun t ht => Option.some.inj ht⟩⟩
    have := hr R
    have hl := relL_length this
    rwa [List.take_of_length_le (by omega)]
theorem relL_strs (R : Seal) : ∀ l : List (List UInt8), RelL R (strsC l) (l.map fun s => Value.string ⟨s.toArray⟩)
  | [] => rfl
  | _ :: l => ⟨_, _, rfl, rfl, relL_strs R l⟩
/-- What is known of the bound that package bytealg keeps. -/
noncomputable abbrev maxTy (m : Int) : List (Nat × List AVal) := [(1, [.int .i64 m])]
theorem max_cell {G : Glo} {m : Int} (hU : GloAll G (maxTy m)) {R : Seal} {w : World} (hG : G.p R) (hs : Sealed R w) : w.cell? ⟨1, 0, none⟩ = some (.int .i64 m) := by
  obtain ⟨v, hc, hr⟩ := SealedAt.cell hs (hU 1 [.int .i64 m] rfl R hG) (i := 0) rfl
  have hr : [v] = [Value.int .i64 m] := hr
  rw [(List.cons.inj hr).1] at hc
  exact hc
theorem split_row {G : Glo} {m : Int} (hU : GloAll G (maxTy m)) (H : Heap) (s : List UInt8) (c : UInt8) (hl : s.length < 100000) :
    FnSpec Tryd.prog G 95 [.str s, .str [c]] H (fun r H' => ∃ b, r = .ret (.own H.length (.slice (some ⟨b, 0, none⟩) (splS c s).length (splS c s).length)) ∧ H' = H ++ [.row (.slice (some ⟨b, 0, none⟩) (splS c s).length (splS c s).length) (some 9) 1 (splS c s).length (strsC (splS c s))]) := by
  refine fnspec_new_row Tryd.call95 (by rw [strsC_len, Nat.mul_one]) ?_
  rintro C R args ⟨x, t, e, hx, y, t', e', hy, rfl⟩ w hG hm
  obtain rfl := rel_str.1 hx
  obtain rfl := rel_str.1 hy
  subst e'
  obtain rfl := arr_of e
  refine (Tryd.strings_Split ⟨s.toArray⟩ ⟨#[c]⟩ m w (by rw [str_size]; omega) (max_cell hU hG hm.sealed) (Nat.le_refl 1)).mono ?_
  rintro e w' ⟨rfl, rfl⟩
  have hd := Lib.splitB_data ⟨#[c]⟩ 0 (Lib.countB ⟨s.toArray⟩ ⟨#[c]⟩) ⟨s.toArray⟩
  have hd : (Lib.splitB ⟨#[c]⟩ 0 (Lib.countB ⟨s.toArray⟩ ⟨#[c]⟩) ⟨s.toArray⟩).map (·.data.toList) = splS c s := hd.trans (split_splS c s)
  have hn : (splS c s).length = Lib.countB ⟨s.toArray⟩ ⟨#[c]⟩ + 1 := by
    have h1 := Lib.splitB_all ⟨#[c]⟩ (Nat.le_refl 1) 0 _ ⟨s.toArray⟩ rfl
    rw [← hd, List.length_map, h1]
  rw [hn]
  have hm2 : (Lib.splitB ⟨#[c]⟩ 0 (Lib.countB ⟨s.toArray⟩ ⟨#[c]⟩) ⟨s.toArray⟩).map Value.string = (splS c s).map fun s => Value.string ⟨s.toArray⟩ := by
    rw [← hd, List.map_map]
    refine List.map_congr_left fun x _ => ?_
    simp
  refine ⟨w, _, Below.refl _ _, rfl, rfl, ?_, fun R => ?_⟩
  · rw [hm2]; simp [hn]
  · rw [hm2]
    exact relL_strs R _
theorem split_list {G : Glo} {m : Int} (hU : GloAll G (maxTy m)) (s : List UInt8) (c : UInt8) (hl : s.length < 100000) :
    FnIs Tryd.prog G 95 [.str s, .str [c]] (.list 1 (splS c s).length (strsF (splS c s))) :=
  fn_seal (fun a => a) mk_id (strsF (splS c s)) (strsF_ok _) ((split_row hU [] s c hl).mono fun _ _ ⟨_, h1, h2⟩ => ⟨_, _, h1, h2⟩)
/-- A call that hands back a new row. -/
theorem cx_row {P : Program} [Tab P] {G : Glo} {f : FuncId} {avs : List AVal} {H : Heap} {K Kp : AVal → Heap → Prop} {m sz : Nat} {cs : List AVal} {eT : Option TypeId} (hs : FnSpec P G f avs H (fun r H' => ∃ b, r = .ret (.own H.length (.slice (some ⟨b, 0, none⟩) m m)) ∧ H' = H ++ [.row (.slice (some ⟨b, 0, none⟩) m m) eT sz m cs]))
    (k : Ab fun b => forceH (H ++ [.row (.slice (some ⟨b, 0, none⟩) m m) eT sz m cs]) (K (.own H.length (.slice (some ⟨b, 0, none⟩) m m)))) : Cx P G f avs H K Kp := by
  refine .mk _ hs ?_ ?_
  · rintro v H' ⟨b, h1, rfl⟩
    cases h1
    have := k.h b
    rwa [forceH_eq] at this
  · rintro v H' ⟨b, h1, _⟩
    cases h1
end Go.Proofs.YtlmihggafbmkaaaDoor
