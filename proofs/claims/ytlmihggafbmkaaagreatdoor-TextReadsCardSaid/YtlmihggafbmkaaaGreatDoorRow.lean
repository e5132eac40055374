/- The rules of slices of the call's own: append, make, conversions from and to strings; ranging over a string; interfaces. -/
import Derived.Test.YtlmihggafbmkaaaGreatDoorHeap
import Derived.Deep.AppendSrc
import Derived.Laws.IdiomStrings
namespace Go.Proofs.YtlmihggafbmkaaaGreatDoor
open Go
set_option linter.unusedSimpArgs false
set_option linter.unusedSectionVars false

/-- A new block, and a draw. -/
theorem Ext.drew {w0 w : World} {B : List Nat} (h : Ext w0 B w) : Ext w0 B w.drew := ⟨h.os, h.tape, h.output, h.size, h.block⟩
theorem MS.drew {C : Ctx} {R : Seal} {H : Heap} {w : World} (h : MS C R H w) : MS C R H w.drew :=
  ⟨h.sealed, h.ge, h.fresh, ⟨fun y hy => HEnt.holds_mono (h.heap.holds y hy) (Seal.le_refl R) fun _ _ => rfl, h.heap.nodup, h.heap.apart⟩, h.own, h.ext.drew⟩
theorem grow_alloc (w : World) (o : Obj) : w.alloc o = grow w o := rfl

/-- A new block takes an entry's place. -/
theorem MS.replace {C : Ctx} {R : Seal} {H : Heap} {w : World} {i : Nat} {x y : HEnt} (h : MS C R H w) (hi : H[i]? = some x) (o : Obj) (hb : y.blk = some w.heap.size)
    (hy : y.holds R (grow w o)) : MS C R (H.set i y) (grow w o) := by
  obtain ⟨a, c, rfl, hset⟩ := set_split (y := y) hi
  rw [hset]
  have h1 : MS C R (a ++ c) w := h.drop (List.Sublist.append (List.Sublist.refl a) (List.sublist_cons_self x c))
  exact (h1.alloc o y hb hy).perm List.perm_middle.symm
/-- An entry that has no block turns into another that has none. -/
theorem MS.swap {C : Ctx} {R : Seal} {H : Heap} {w : World} {i : Nat} {x y : HEnt} (h : MS C R H w) (hi : H[i]? = some x) (hb : y.blk = x.blk) (hy : y.holds R w) : MS C R (H.set i y) w := by
  obtain ⟨a, c, rfl, hset⟩ := set_split (y := y) hi
  rw [hset]
  have hx : x ∈ a ++ x :: c := by simp
  have hmem : ∀ z, z ∈ a ++ y :: c → z = y ∨ z ∈ a ++ x :: c := by
    intro z hz
    simp only [List.mem_append, List.mem_cons] at hz ⊢
    rcases hz with hz | hz | hz
    · exact .inr (.inl hz)
    · exact .inl hz
    · exact .inr (.inr (.inr hz))
  refine ⟨h.sealed, h.ge, h.fresh, ⟨?_, ?_, ?_⟩, ?_, h.ext⟩
  · intro z hz
    rcases hmem z hz with rfl | hz
    · exact hy
    · exact h.heap.holds z hz
  · have := h.heap.nodup
    rw [List.filterMap_append, List.filterMap_cons] at this ⊢
    rw [hb]
    exact this
  · intro z hz k hk
    rcases hmem z hz with rfl | hz
    · exact h.heap.apart x hx k (hb ▸ hk)
    · exact h.heap.apart z hz k hk
  · intro z hz k hk
    rcases hmem z hz with rfl | hz
    · exact h.own x hx k (hb ▸ hk)
    · exact h.own z hz k hk

theorem oneCell_of {v : Value} (h : vAgg v = false ∧ ∀ l, v ≠ .tuple l) : v.oneCell' = true := by
  cases v <;> first | rfl | (simp [vAgg] at h; done) | exact absurd rfl (h.2 _)
theorem relL_one {R : Seal} {cs : List AVal} {vs : List Value} (h : RelL R cs vs) (ho : allOK cs = true) : ∀ u ∈ vs, u.oneCell' = true :=
  fun u hu => oneCell_of (allOK_vals h ho u hu)

/-- What an append's second argument yields. -/
def SrcIs (P : Program) (R : Seal) (sz : Nat) (tx : TypeId) (v : Value) (m : Nat) (new : List AVal) : Prop :=
  ∀ w, Sealed R w → ∃ news, Src P sz tx v m news w ∧ RelL R new news

section
variable {P : Program} [Tab P] {C : Ctx} {n : Nat} {env : Env} {H : Heap} {Q : AExit → Env → Heap → Prop} {ops : Array Oper} {rest : List Oper}
variable {eT : Option TypeId}
variable {d : Nat} {t : TypeId} {p : String} {af : Array Edge} {g : Option (Nat × Bool)} {b : Bool} {av : AVal}
variable {x y : Operand} {T : TypeId} {xT : TI}

theorem list_cells {R : Seal} {w : World} (hs : Sealed R w) {b o sz m : Nat} {Cs : Array Value} {e : TypeId} {fz : Nat × Nat} {f : Nat → AVal} (hR : R b = some (.cells Cs e fz))
    (hall : ∀ i, i < m → RelC R (f i) ((Cs.toList.drop (o + i * sz)).take sz)) (hp : ∀ i, i < m → (f i).plain = true ∧ (f i).cells.length = sz) :
    ((Cs.toList.drop o).take (m * sz)).length = m * sz ∧ RelL R ((List.range m).flatMap fun i => (f i).cells) ((Cs.toList.drop o).take (m * sz)) ∧
      ∀ (j : Nat) (u : Value), ((Cs.toList.drop o).take (m * sz))[j]? = some u → w.cell? ((⟨b, o, none⟩ : Addr).add j) = some u := by
  refine ⟨?_, ?_, ?_⟩
  · induction m with
    | zero => simp
    | succ m ih =>
      have := ih (fun i hi => hall i (by omega)) (fun i hi => hp i (by omega))
      have h1 := relL_length (relC_cells (hall m (by omega)) (hp m (by omega)).1)
      rw [(hp m (by omega)).2] at h1
      simp only [List.length_take, List.length_drop, Nat.succ_mul] at *
      omega
  · induction m with
    | zero => simp [RelL]
    | succ m ih =>
      have h2 := ih (fun i hi => hall i (by omega)) (fun i hi => hp i (by omega))
      have h1 := relC_cells (hall m (by omega)) (hp m (by omega)).1
      rw [List.range_succ, List.flatMap_append]
      simp only [List.flatMap_cons, List.flatMap_nil, List.append_nil]
      rw [Nat.succ_mul, List.take_add]
      refine relL_append h2 ?_
      rw [List.drop_drop]
      exact h1
  · intro j u hu
    have hj : j < m * sz := by
      have := (List.getElem?_eq_some_iff.1 hu).1
      simp only [List.length_take] at this
      omega
    rw [List.getElem?_take_of_lt hj, List.getElem?_drop] at hu
    have hadd : (⟨b, o, none⟩ : Addr).add j = ⟨b, o + j, none⟩ := by
      simp only [Addr.add]
      by_cases h0 : j = 0
      · simp [h0]
      · simp [h0]
    rw [hadd]
    simp only [World.cell?, hs b _ hR]
    simpa using hu
theorem src_list {R : Seal} {tx e : TypeId} {xx : TI} {sz m : Nat} {f : Nat → AVal} {v : Value} (hv : Rel R (.list sz m f) v) (h1 : tab P tx = some xx) (h2 : xx.desc = .slice e)
    (hp : ∀ i, i < m → (f i).plain = true ∧ (f i).cells.length = sz ∧ allOK (f i).cells = true) : SrcIs P R sz tx v m ((List.range m).flatMap fun i => (f i).cells) := by
  intro w hs
  obtain ⟨a, cap, e1, hle0, h5⟩ := rel_one hv rfl
  clear hle0
  simp only [List.cons.injEq, and_true] at e1
  subst e1
  have hk : P.underlying tx = some (.slice e) := by rw [tab_und h1, h2]
  by_cases hm : m = 0
  · subst hm
    refine ⟨[], ?_, by simp [RelL]⟩
    cases a with
    | none => exact Src.ofNil w hk cap
    | some a => exact Src.ofSlice w hk a 0 cap [] (by simp) (by simp) (by simp)
  · rcases h5 with h5 | ⟨bl, o, Cs, el, fz, rfl, hR, hall⟩
    · exact absurd h5 hm
    obtain ⟨h3, h4, h6⟩ := list_cells hs hR hall (fun i hi => ⟨(hp i hi).1, (hp i hi).2.1⟩)
    refine ⟨_, Src.ofSlice w hk _ m cap _ h3 h6 (relL_one h4 ?_), h4⟩
    clear h3 h4 h6 hall hm hv
    induction m with
    | zero => rfl
    | succ m ih =>
      have happ : ∀ a b : List AVal, allOK (a ++ b) = (allOK a && allOK b) := by
        intro a b
        induction a with
        | nil => rfl
        | cons c a ih => simp [allOK, ih, Bool.and_assoc]
      rw [List.range_succ, List.flatMap_append, happ, ih (fun i hi => hp i (by omega))]
      simp [(hp m (by omega)).2.2]
theorem src_str {R : Seal} {tx : TypeId} {xx : TI} {s : List UInt8} {v : Value} (hv : Rel R (.str s) v) (h1 : tab P tx = some xx) (h2 : xx.desc = .string) :
    SrcIs P R 1 tx v s.length (s.map fun c => .int .u8 (c.toNat : Int)) := by
  intro w _
  have hv := rel_str.1 hv
  subst hv
  have hk : P.underlying tx = some .string := by rw [tab_und h1, h2]
  have := Src.ofString w hk ⟨s.toArray⟩
  rw [str_size] at this
  refine ⟨_, this, ?_⟩
  simp only [byteCells]
  clear this hv
  induction s with
  | nil => rfl
  | cons c s ih => exact ⟨_, _, rfl, rfl, ih⟩

/-- An append to a slice of the call's own. -/
theorem append_row {R : Seal} {w : World} {i m n0 sz : Nat} {v xv : Value} {cs new : List AVal} {T tx e : TypeId} {xT xe : TI} (ty : TypeId) (hm : MS C R H w) (hi : H[i]? = some (.row v eT sz n0 cs))
    (h1 : tab P T = some xT) (h2 : xT.desc = .slice e) (h3 : tab P e = some xe) (h4 : xe.size = sz) (hz : ∃ z, xe.zero = some z ∧ z.cells.size = sz) (hby : xe.bytes ≤ 1024) (hs : SrcIs P R sz tx xv m new) (_hsz : 1 ≤ sz)
    (hlen : n0 + m ≤ 137438953472) (hty : ∀ t, eT = some t → e = t) :
    ∃ v' w', (Builtin.append_ #[T, tx] ty #[v, xv]).run P w = .ok v' w' ∧ MS C R (H.set i (.row v' eT sz (n0 + m) (cs ++ new))) w' := by
  have hht : P.underlying T = some (.slice e) := by rw [tab_und h1, h2]
  obtain ⟨ie, hie, hs1, hs2, hs3, _⟩ := tab_info h3
  obtain ⟨z, hz1, hz2⟩ := hz
  rw [hz1] at hs3
  obtain ⟨news, hsrc, hnew⟩ := hs w hm.sealed
  have hnl := relL_length hnew
  obtain ⟨hcl, hx⟩ := hm.heap.holds _ (List.mem_of_getElem? hi)
  have hns := hsrc.newsLen
  have hgrow : ∀ (old : Nat) (base : Option Addr) (olds : List Value), RelL R cs olds → old < n0 + m → (Builtin.firstCells ie.size n0 (.slice base n0 old)).run P w.drew = .ok olds.toArray w.drew → v = .slice base n0 old →
      ∃ v' w', (Builtin.append_ #[T, tx] ty #[v, xv]).run P w = .ok v' w' ∧ MS C R (H.set i (.row v' eT sz (n0 + m) (cs ++ new))) w' := by
    rintro old base olds hol hold hfc rfl
    have hfit := growslice_fits (bytes := ie.bytes) hold (by
      have : (n0 + m) * ie.bytes ≤ 137438953472 * 1024 := Nat.mul_le_mul hlen (by rw [hs2]; exact hby)
      omega)
    have hr := run_append_grow_src w T tx ty e ie z hht hie hs3 base n0 old olds hfc xv m news (by rw [hs1, h4]; exact hsrc) hold (by omega) hfit
    refine ⟨_, _, hr, ?_⟩
    have hm' := hm.drew
    rw [grow_alloc]
    have hge := grownCap_ge w (n0 + m) old e
    refine hm'.replace hi _ rfl ⟨by rw [List.length_append, hcl, ← hnl, hns, Nat.add_mul], .inr ⟨w.heap.size, _, _, _, _, rfl, grow_at w.drew _, ?_, hge, ?_, .inl (Nat.le_refl _), hty⟩⟩
    · have hol' := relL_length hol
      simp only [Array.size_append, List.size_toArray, List.length_append, size_zeroCells, hz2, hol', hcl, hns, ← Nat.add_mul]
      congr 1
      omega
    · have hol' := relL_length hol
      simp only [Array.toList_append, List.append_assoc]
      rw [← List.append_assoc, List.take_append_of_le_length (by simp only [List.length_append]; rw [hol', hcl, hns, Nat.add_mul]; exact Nat.le_refl _)]
      rw [List.take_of_length_le (by simp only [List.length_append]; rw [hol', hcl, hns, Nat.add_mul]; exact Nat.le_refl _)]
      exact relL_append hol hnew
  rcases hx with ⟨rfl, rfl⟩ | ⟨bl, cap, Cs, el, fz, rfl, hb, hcs, hnc, hl, hfz⟩
  · have hcs0 : cs = [] := List.eq_nil_of_length_eq_zero (by simpa using hcl)
    subst hcs0
    by_cases hm0 : m = 0
    · subst hm0
      have hnews : news = [] := List.eq_nil_of_length_eq_zero (by simpa using hns)
      subst hnews
      have hnew0 : new = [] := List.eq_nil_of_length_eq_zero (by simpa using hnl.symm)
      subst hnew0
      have hfit : Builtin.append_ #[T, tx] ty #[.slice none 0 0, xv] = Builtin.append_ #[T, tx] ty #[.slice none 0 0, xv] := rfl
      refine ⟨.slice none 0 0, w, ?_, hm.swap hi rfl ⟨by simp, .inl ⟨rfl, rfl⟩⟩⟩
      rcases hsrc.kind with ⟨e', hk⟩ | hk <;>
        simp [Builtin.append_, run_underlying hht, run_underlying hk, sizeOf, typeInfo, hie, hsrc.len, hs1, h4, hsrc.cells]
    · exact hgrow 0 none [] rfl (by omega) (run_firstCells_none w.drew ie.size 0 0 0) rfl
  · have hll : RelL R cs (Cs.toList.take (n0 * sz)) := hl
    have hlen' := relL_length hll
    by_cases hroom : n0 + m ≤ cap
    · have hfit : n0 * sz + news.length ≤ Cs.size := by rw [hns, hcs, ← Nat.add_mul]; exact Nat.mul_le_mul_right _ hroom
      have hfro : ∀ j, j < Cs.size → w.frozen? ⟨bl, j, none⟩ = false := by
        intro j hj
        obtain ⟨lo, hi⟩ := fz
        have hfz := hfz.1
        simp only [World.frozen?, hb, Loose] at hfz ⊢
        simp
        omega
      have hr := run_append_room_src (P := P) w T tx ty e ie hht hie bl 0 n0 cap xv m news (by rw [hs1, h4]; exact hsrc) hroom
        (fun j hj => by rw [hs1, h4]; simp only [World.cell?, hb]; simp; omega) (fun j hj => hfro _ (by rw [hs1, h4]; omega))
      refine ⟨_, _, hr, ?_⟩
      rw [hs1, h4]
      simp only [Nat.zero_add]
      obtain ⟨w', hw', ho⟩ := storeCells_run (P := P) news (n0 * sz) 0 Cs w hb (by omega) hfz.1 (fun u hu => by
        have := hsrc.one u hu
        cases u <;> first | (simp [vAgg]; done) | (simp [Value.oneCell'] at this))
      have hst := run_storeCells_cells (P := P) bl (n0 * sz) news 0 w (fun j hj => by simp only [World.cell?, hb]; simp; omega) (fun j hj => hfro _ (by omega)) hsrc.one
      rw [hst] at hw'
      simp only [Result.ok.injEq, true_and] at hw'
      simp only [Nat.add_zero] at hw' ho
      rw [hw']
      refine hm.write hi rfl ho rfl ⟨by rw [List.length_append, hcl, ← hnl, hns, Nat.add_mul], .inr ⟨bl, cap, _, _, _, rfl, ho.at_, ?_, hroom, ?_, ?_⟩⟩
      · simp only [List.size_toArray, List.length_append, List.length_take, List.length_drop, Array.length_toList]; omega
      · have h6 : (Cs.toList.take (n0 * sz) ++ news).length = (n0 + m) * sz := by
          rw [List.length_append, hlen', hcl, hns, Nat.add_mul]
        simp only []
        rw [List.take_append_of_le_length (by omega), List.take_of_length_le (by omega)]
        exact relL_append hll hnew
      · have : (Cs.toList.take (n0 * sz) ++ news ++ Cs.toList.drop (n0 * sz + news.length)).toArray.size = Cs.size := by
          simp only [List.size_toArray, List.length_append, List.length_take, List.length_drop, Array.length_toList]; omega
        rw [this]; exact hfz
    · refine hgrow cap (some ⟨bl, 0, none⟩) _ hll (by omega) ?_ rfl
      have hsz' : (Cs.toList.take (n0 * sz)).length = n0 * ie.size := by rw [hlen', hcl, hs1, h4]
      refine run_firstCells_some (P := P) w.drew ie.size n0 ⟨bl, 0, none⟩ n0 cap (Cs.toList.take (n0 * sz)) hsz' ?_
      intro j u hu
      have hj : j < n0 * sz := by
        have := (List.getElem?_eq_some_iff.1 hu).1
        simp only [List.length_take] at this
        omega
      rw [List.getElem?_take_of_lt hj] at hu
      have hadd : (⟨bl, 0, none⟩ : Addr).add j = ⟨bl, j, none⟩ := by
        simp only [Addr.add]
        by_cases h0 : j = 0
        · simp [h0]
        · simp [h0]
      have hb' : w.drew.heap[bl]? = some (.cells Cs el fz) := hb
      rw [hadd]
      simp only [World.cell?, hb']
      simpa using hu

theorem zero_size {xe : TI} {sz : Nat} {z : List AVal} (h : zeroCellsA xe.zero = some z) (hl : z.length = sz) : ∃ v, xe.zero = some v ∧ v.cells.size = sz := by
  obtain ⟨v, hv, hr⟩ := zeroCellsA_rel (R := fun _ => none) h
  have := relL_length hr
  simp only [Array.length_toList] at this
  exact ⟨v, hv, by omega⟩

/-- 'append(out, x)', 'append(out, xs...)': out is the call's own. -/
theorem ao_append {i m n0 sz : Nat} {v : Value} {xa : AVal} {cs new z : List AVal} {tx e : TypeId} {xe : TI} (hg : guardA ops env g = some (b, b)) (hdn : Nat.ble (d + 1) n = true)
    (hx : evalA env x = some (.raw v)) (hi : H[i]? = some (.row v eT sz n0 cs)) (hy : evalA env y = some xa)
    (h1 : tab P T = some xT) (h2 : xT.desc = .slice e) (h3 : tab P e = some xe) (h4 : xe.size = sz) (h5 : Nat.ble 1 sz = true) (h6 : Nat.ble xe.bytes 1024 = true) (h7 : zeroCellsA xe.zero = some z) (h8 : z.length = sz)
    (hs : ∀ R v, Rel R xa v → SrcIs P R sz tx v m new) (hlen : n0 + m ≤ 137438953472) (hty : ∀ t, eT = some t → e = t)
    (h : ∀ v' : Value, AOps P C n ops rest ((d, .raw v') :: env) (H.set i (.row v' eT sz (n0 + m) (cs ++ new))) Q) :
    AOps P C n ops ({ dst := some d, op := .call { callee := .builtin .append, args := [x, y].toArray, argTypes := [T, tx].toArray }, type := t, pos := p, after := af, guard := g } :: rest) env H Q := by
  refine ao_valX (av := fun v' : Value => .raw v') (H' := fun v' => H.set i (.row v' eT sz (n0 + m) (cs ++ new))) hg rfl hdn (fun R ρ w hm hf => ?_) h
  obtain ⟨v', w', hr, hm'⟩ := append_row (T := T) (tx := tx) t hm hi h1 h2 h3 h4 (zero_size h7 h8) (Nat.le_of_ble_eq_true h6) (hs R _ (hf _ _ hy)) (Nat.le_of_ble_eq_true h5) hlen hty
  refine ⟨v', v', w', R, ?_, Seal.le_refl R, rel_raw.2 rfl, hm'⟩
  simp only [execOp, resolve, Sem.run_bind, Sem.run_pure, Result.andThen_ok, invoke, builtin, List.map_toArray, List.map_cons, List.map_nil, rel_raw.1 (hf _ _ hx), hr]
/-- 'append(nil, xs...)': a new slice of the call's own. -/
theorem MS.ghost {R : Seal} {w : World} (h : MS C R H w) (sz : Nat) : MS C R (.row (.slice none 0 0) eT sz 0 [] :: H) w := by
  refine ⟨h.sealed, h.ge, h.fresh, ⟨fun y hy => ?_, ?_, fun y hy k hk => ?_⟩, fun y hy k hk => ?_, h.ext⟩
  · rcases List.mem_cons.1 hy with rfl | hy
    · exact ⟨by simp, .inl ⟨rfl, rfl⟩⟩
    · exact h.heap.holds y hy
  · show (List.filterMap HEnt.blk H).Nodup
    exact h.heap.nodup
  · rcases List.mem_cons.1 hy with rfl | hy
    · cases hk
    · exact h.heap.apart y hy k hk
  · rcases List.mem_cons.1 hy with rfl | hy
    · cases hk
    · exact h.own y hy k hk
theorem aw_ghost_row {c : Code} (sz : Nat) (h : AWp P C n c env (.row (.slice none 0 0) eT sz 0 [] :: H) Q) : AWp P C n c env H Q :=
  fun R a w hm hf => h R a w (hm.ghost sz) hf
theorem ao_ghost_row {l : List Oper} (sz : Nat) (h : AOps P C n ops l env (.row (.slice none 0 0) eT sz 0 [] :: H) Q) : AOps P C n ops l env H Q :=
  fun R a w hm hf => h R a w (hm.ghost sz) hf

/-- What is owned is sealed: a slice. -/
theorem relC_of_cells {R : Seal} {a : AVal} {vs : List Value} (h : RelL R a.cells vs) (hp : a.plain = true) : RelC R a vs := by
  have one : ∀ x, a = x → RelL R [x] vs → (∀ v, RelC R x [v] → RelC R a [v]) → RelC R a vs := by
    rintro x rfl ⟨v, t, rfl, hv, ht⟩ _
    simp only [RelL] at ht
    subst ht
    exact hv
  cases a with
  | agg cs => exact h
  | _ => exact one _ rfl h (fun _ h => h)
theorem MS.seal_row {R : Seal} {w : World} {v : Value} {sz m : Nat} {cs : List AVal} {f : Nat → AVal} (h : MS C R (.row v eT sz m cs :: H) w)
    (hf : ∀ i, i < m → (f i).cells = (cs.drop (i * sz)).take sz ∧ (f i).plain = true) :
    ∃ R', R.le R' ∧ MS C R' H w ∧ Rel R' (.list sz m f) v := by
  obtain ⟨hlen, hx⟩ := h.heap.holds _ (List.mem_cons_self ..)
  rcases hx with ⟨rfl, rfl⟩ | ⟨bl, cap, Cs, el, fz, rfl, hb, hcs, hnc, hl, hfz⟩
  · exact ⟨R, Seal.le_refl R, h.drop (List.sublist_cons_self _ _), ⟨⟨none, 0, rfl, Nat.le_refl _, .inl rfl⟩, rfl⟩⟩
  · obtain ⟨h1, h2⟩ := h.fixed (b := bl) rfl hb
    refine ⟨_, h2, h1, ⟨⟨_, cap, rfl, hnc, ?_⟩, rfl⟩⟩
    refine .inr ⟨bl, 0, Cs, el, fz, rfl, Seal.put_at _ _ _, fun i hi => ?_⟩
    refine relC_of_cells ?_ (hf i hi).2
    rw [(hf i hi).1, Nat.zero_add]
    have := relL_take sz (relL_drop (i * sz) (relL_mono h2 _ _ hl))
    rw [List.drop_take, List.take_take] at this
    have hle : sz ≤ m * sz - i * sz := by
      rw [← Nat.sub_mul]; exact Nat.le_mul_of_pos_left _ (by omega)
    rw [Nat.min_eq_left hle] at this
    exact this
/-- The entry at a place comes to the front. -/
theorem perm_front {α : Type} {l : List α} {i : Nat} {x : α} (h : l[i]? = some x) : l.Perm (x :: l.eraseIdx i) := by
  induction l generalizing i with
  | nil => simp at h
  | cons y t ih =>
    cases i with
    | zero => simp only [List.getElem?_cons_zero, Option.some.injEq] at h; subst h; exact List.Perm.refl _
    | succ i =>
      simp only [List.getElem?_cons_succ] at h
      exact ((ih h).cons y).trans (List.Perm.swap x y _)
theorem FS.set {D : List Deferred} {R : Seal} {a : Act} {k : Nat} {av : AVal} {v : Value} (h : FS D n R env a) (hk : Env.get env k = some (.raw v)) (hv : Rel R av v) : FS D n R ((k, av) :: env) a := by
  refine ⟨fun j x hj => ?_, h.size, h.defers⟩
  simp only [Env.get] at hj
  cases hb : Nat.beq k j with
  | true =>
    rw [hb] at hj
    have := Nat.eq_of_beq_eq_true hb
    subst this
    simp only [Option.some.injEq] at hj
    subst hj
    obtain ⟨y, hy, hr⟩ := h.fr k _ hk
    rw [rel_raw.1 hr] at hy
    exact ⟨v, hy, hv⟩
  | false => rw [hb] at hj; exact h.fr j x hj
theorem aw_seal_row {c : Code} {k i sz m : Nat} {v : Value} {cs : List AVal} (f : Nat → AVal) (hk : Env.get env k = some (.raw v)) (hi : H[i]? = some (.row v eT sz m cs))
    (hf : ∀ i, i < m → (f i).cells = (cs.drop (i * sz)).take sz ∧ (f i).plain = true) (h : AWp P C n c ((k, .list sz m f) :: env) (H.eraseIdx i) Q) : AWp P C n c env H Q := by
  intro R a w hm hfr
  obtain ⟨R', hR, hm', hr⟩ := MS.seal_row (hm.perm (perm_front hi)) hf
  exact h R' a w hm' ((hfr.mono hR).set hk hr)
theorem ao_seal_row {l : List Oper} {k i sz m : Nat} {v : Value} {cs : List AVal} (f : Nat → AVal) (hk : Env.get env k = some (.raw v)) (hi : H[i]? = some (.row v eT sz m cs))
    (hf : ∀ i, i < m → (f i).cells = (cs.drop (i * sz)).take sz ∧ (f i).plain = true) (h : AOps P C n ops l ((k, .list sz m f) :: env) (H.eraseIdx i) Q) : AOps P C n ops l env H Q := by
  intro R a w hm hfr
  obtain ⟨R', hR, hm', hr⟩ := MS.seal_row (hm.perm (perm_front hi)) hf
  exact h R' a w hm' ((hfr.mono hR).set hk hr)

/-! ### Strings and bytes -/
theorem relL_bytes (R : Seal) : ∀ s : List UInt8, RelL R (s.map byteA) (s.map fun c => Value.int .u8 (c.toNat : Int))
  | [] => rfl
  | _ :: s => ⟨_, _, rfl, rfl, relL_bytes R s⟩
theorem relL_bytes_inv {R : Seal} : ∀ {s : List UInt8} {vs : List Value}, RelL R (s.map byteA) vs → vs = s.map fun c => Value.int .u8 (c.toNat : Int)
  | [], _, h => by simpa [RelL] using h
  | c :: s, _, h => by
    obtain ⟨v, t, rfl, hv, h⟩ := h
    simp only [byteA, RelC, List.cons.injEq, and_true] at hv
    rw [hv, relL_bytes_inv h]; rfl
theorem relL_replicate {R : Seal} {a : AVal} {v : Value} (h : RelC R a [v]) : ∀ k, RelL R (List.replicate k a) (List.replicate k v)
  | 0 => rfl
  | k + 1 => ⟨_, _, rfl, h, relL_replicate h k⟩
theorem run_conv_op {ρ : Operand → Value} {S : TypeId} {w w' : World} {v u : Value} (hv : ρ x = v) (hr : (convert S T v).run P w = .ok u w') :
    (execOp ρ { dst := some d, op := .convert S T x, type := t, pos := p, after := af, guard := g }).run P w = .ok (.value u) w' := by
  simp only [execOp, hv, Sem.run_bind, hr, Result.andThen_ok, Sem.run_pure]
/-- '[]byte(s)', its bytes to be written. -/
theorem ao_bytes_own {s : List UInt8} {S e : TypeId} {xS xe : TI} (hg : guardA ops env g = some (b, b)) (hdn : Nat.ble (d + 1) n = true) (hx : evalA env x = some (.str s))
    (h1 : tab P S = some xS) (h2 : xS.desc = .string) (h3 : tab P T = some xT) (h4 : xT.desc = .slice e) (h5 : tab P e = some xe) (h6 : xe.desc = .int .u8)
    (h : ∀ (bl cap : Nat), s.length ≤ cap → AOps P C n ops rest ((d, .raw (.slice (some ⟨bl, 0, none⟩) s.length cap)) :: env) (.cells bl none (s.map byteA ++ List.replicate (cap - s.length) (.int .u8 0)) :: H) Q) :
    AOps P C n ops ({ dst := some d, op := .convert S T x, type := t, pos := p, after := af, guard := g } :: rest) env H Q := by
  refine ao_valX (X := { z : Nat × Nat // s.length ≤ z.2 }) (av := fun z => .raw (.slice (some ⟨z.1.1, 0, none⟩) s.length z.1.2)) (H' := fun z => .cells z.1.1 none (s.map byteA ++ List.replicate (z.1.2 - s.length) (.int .u8 0)) :: H) hg rfl hdn (fun R ρ w hm hf => ?_) (fun z => h z.1.1 z.1.2 z.2)
  have hr := run_bytes_of_string (P := P) w S T e ⟨s.toArray⟩ (by rw [tab_und h1, h2]) (by rw [tab_und h3, h4]) (by rw [tab_und h5, h6])
  rw [str_size] at hr
  have hle := grownCap_ge w s.length 0 e
  have hrun := run_conv_op (d := d) (t := t) (p := p) (af := af) (g := g) (rel_str.1 (hf _ _ hx)) hr
  refine ⟨⟨(w.heap.size, grownCap w s.length 0 e), hle⟩, _, _, R, hrun, Seal.le_refl R, rel_raw.2 rfl, ?_⟩
  · rw [grow_alloc]
    refine hm.drew.alloc _ _ rfl ⟨_, _, _, grow_at w.drew _, ?_, .inr (Nat.le_refl _), fun _ h => nomatch h⟩
    have : (bytesRow ⟨s.toArray⟩ (grownCap w s.length 0 e)).toList = (s.map fun c => Value.int .u8 (c.toNat : Int)) ++ List.replicate (grownCap w s.length 0 e - s.length) (.int .u8 0) := by
      simp [bytesRow, str_size]
    rw [this]
    exact relL_append (relL_bytes R s) (relL_replicate (show RelC R (.int .u8 0) [.int .u8 0] from rfl) _)
/-- '[]byte(s)', its bytes only read. -/
theorem ao_bytes_sealed {s : List UInt8} {S e : TypeId} {xS xe : TI} (hg : guardA ops env g = some (b, b)) (hdn : Nat.ble (d + 1) n = true) (hx : evalA env x = some (.str s))
    (h1 : tab P S = some xS) (h2 : xS.desc = .string) (h3 : tab P T = some xT) (h4 : xT.desc = .slice e) (h5 : tab P e = some xe) (h6 : xe.desc = .int .u8)
    (h : AOps P C n ops rest ((d, .list 1 s.length (fun i => .int .u8 ((s.getD i 0).toNat : Int))) :: env) H Q) :
    AOps P C n ops ({ dst := some d, op := .convert S T x, type := t, pos := p, after := af, guard := g } :: rest) env H Q := by
  refine ao_val hg rfl hdn (fun R ρ w hm hf => ?_) h
  have hr := run_bytes_of_string (P := P) w S T e ⟨s.toArray⟩ (by rw [tab_und h1, h2]) (by rw [tab_und h3, h4]) (by rw [tab_und h5, h6])
  rw [str_size] at hr
  have hm' := hm.drew
  have hfree := hm'.seal_free
  have hrun := run_conv_op (d := d) (t := t) (p := p) (af := af) (g := g) (rel_str.1 (hf _ _ hx)) hr
  refine ⟨_, _, _, hrun, Seal.put_le hfree, ⟨⟨_, grownCap w s.length 0 e, rfl, grownCap_ge w s.length 0 e, .inr ⟨w.heap.size, 0, _, _, _, rfl, Seal.put_at _ _ _, fun i hi => ?_⟩⟩, rfl⟩, hm'.alloc_sealed _⟩
  · have hlt : i < s.length := hi
    simp only [bytesRow, Nat.zero_add, Nat.mul_one, RelC]
    simp [List.drop_append, hlt, List.getElem?_eq_getElem hlt, str_size]
    rw [List.drop_eq_getElem_cons (by simpa using hlt)]
    simp

/-- 'string(b)', b's cells known. -/
theorem bytes_back {w : World} {S e : TypeId} {xS xe : TI} {a : Addr} {s : List UInt8} {cap : Nat} (h1 : tab P S = some xS) (h2 : xS.desc = .slice e) (h5 : tab P e = some xe) (h6 : xe.desc = .int .u8) (h3 : tab P T = some xT) (h4 : xT.desc = .string)
    (hc : ∀ j (hj : j < s.length), w.cell? (a.add j) = some (.int .u8 (s[j].toNat : Int))) :
    (convert S T (.slice (some a) s.length cap)).run P w = .ok (.string ⟨s.toArray⟩) w :=
  run_convert_bytes_back w S T e a cap s (by rw [tab_und h1, h2]) (by rw [tab_und h5, h6]) (by rw [tab_und h3, h4]) hc
theorem add_off (bl o j : Nat) : (⟨bl, o, none⟩ : Addr).add j = ⟨bl, o + j, none⟩ := by
  simp only [Addr.add]
  by_cases h0 : j = 0
  · simp [h0]
  · simp [h0]
theorem bytes_cell {R : Seal} {w : World} {bl o : Nat} {Cs : Array Value} {e : TypeId} {fz : Nat × Nat} {s : List UInt8} (hb : w.heap[bl]? = some (.cells Cs e fz)) (hl : RelL R (s.map byteA) ((Cs.toList.drop o).take s.length)) :
    ∀ j (hj : j < s.length), w.cell? ((⟨bl, o, none⟩ : Addr).add j) = some (.int .u8 (s[j].toNat : Int)) := by
  intro j hj
  have := relL_bytes_inv hl
  rw [add_off]
  simp only [World.cell?, hb]
  have h2 : ((Cs.toList.drop o).take s.length)[j]? = (s.map fun c => Value.int .u8 (c.toNat : Int))[j]? := by rw [this]
  rw [List.getElem?_take_of_lt hj, List.getElem?_drop] at h2
  simpa [List.getElem?_eq_getElem hj] using h2
theorem ao_str_own {s : List UInt8} {i bl cap : Nat} {cs : List AVal} {S e : TypeId} {xS xe : TI} (hg : guardA ops env g = some (b, b)) (hdn : Nat.ble (d + 1) n = true)
    (hx : evalA env x = some (.raw (.slice (some ⟨bl, 0, none⟩) s.length cap))) (hi : H[i]? = some (.cells bl eT cs)) (hc : cs.take s.length = s.map byteA)
    (h1 : tab P S = some xS) (h2 : xS.desc = .slice e) (h5 : tab P e = some xe) (h6 : xe.desc = .int .u8) (h3 : tab P T = some xT) (h4 : xT.desc = .string)
    (h : AOps P C n ops rest ((d, .str s) :: env) H Q) :
    AOps P C n ops ({ dst := some d, op := .convert S T x, type := t, pos := p, after := af, guard := g } :: rest) env H Q := by
  refine ao_pure hg rfl hdn (fun R ρ w hm hf => ⟨_, ?_, rel_str.2 rfl⟩) h
  obtain ⟨Cs, el, fz, hb, hl, _⟩ := own_cells hm hi
  have hl' := relL_take s.length hl
  rw [hc] at hl'
  simp only [execOp, rel_raw.1 (hf _ _ hx), Sem.run_bind, bytes_back h1 h2 h5 h6 h3 h4 (bytes_cell (o := 0) hb (by simpa using hl')), Result.andThen_ok, Sem.run_pure]
theorem ao_str_row {s : List UInt8} {i m : Nat} {v : Value} {cs : List AVal} {S e : TypeId} {xS xe : TI} (hg : guardA ops env g = some (b, b)) (hdn : Nat.ble (d + 1) n = true)
    (hx : evalA env x = some (.raw v)) (hi : H[i]? = some (.row v eT 1 m cs)) (hc : cs = s.map byteA)
    (h1 : tab P S = some xS) (h2 : xS.desc = .slice e) (h5 : tab P e = some xe) (h6 : xe.desc = .int .u8) (h3 : tab P T = some xT) (h4 : xT.desc = .string)
    (h : AOps P C n ops rest ((d, .str s) :: env) H Q) :
    AOps P C n ops ({ dst := some d, op := .convert S T x, type := t, pos := p, after := af, guard := g } :: rest) env H Q := by
  refine ao_pure hg rfl hdn (fun R ρ w hm hf => ⟨_, ?_, rel_str.2 rfl⟩) h
  obtain ⟨hlen, hx'⟩ := hm.heap.holds _ (List.mem_of_getElem? hi)
  have hm' : m = s.length := by rw [hc] at hlen; simpa using hlen.symm
  subst hm'
  rcases hx' with ⟨rfl, h0⟩ | ⟨bl, cap, Cs, el, fz, rfl, hb, hcs, hnc, hl, hfz⟩
  · have : s = [] := List.eq_nil_of_length_eq_zero h0
    subst this
    simp only [execOp, rel_raw.1 (hf _ _ hx), Sem.run_bind]
    rw [run_convert_bytes_string w S T e none 0 0 (by rw [tab_und h1, h2]) (by rw [tab_und h5, h6]) (by rw [tab_und h3, h4])]
    rfl
  · rw [hc] at hl
    simp only [execOp, rel_raw.1 (hf _ _ hx), Sem.run_bind, bytes_back h1 h2 h5 h6 h3 h4 (bytes_cell (o := 0) hb (by simpa using hl)), Result.andThen_ok, Sem.run_pure]
theorem ao_str_list {m : Nat} (s : List UInt8) {f : Nat → AVal} {S e : TypeId} {xS xe : TI} (hg : guardA ops env g = some (b, b)) (hdn : Nat.ble (d + 1) n = true)
    (hx : evalA env x = some (.list 1 m f)) (hl : s.length = m) (hc : ∀ i, i < s.length → f i = byteA (s.getD i 0))
    (h1 : tab P S = some xS) (h2 : xS.desc = .slice e) (h5 : tab P e = some xe) (h6 : xe.desc = .int .u8) (h3 : tab P T = some xT) (h4 : xT.desc = .string)
    (h : AOps P C n ops rest ((d, .str s) :: env) H Q) :
    AOps P C n ops ({ dst := some d, op := .convert S T x, type := t, pos := p, after := af, guard := g } :: rest) env H Q := by
  subst hl
  refine ao_pure hg rfl hdn (fun R ρ w hm hf => ⟨_, ?_, rel_str.2 rfl⟩) h
  obtain ⟨a, cap, e1, _, h7⟩ := rel_one (hf _ _ hx) rfl
  simp only [List.cons.injEq, and_true] at e1
  rcases h7 with h7 | ⟨bl, o, Cs, el, fz, rfl, hR, hall⟩
  · have : s = [] := List.eq_nil_of_length_eq_zero h7
    subst this
    simp only [execOp, e1, Sem.run_bind, List.length_nil]
    rw [run_convert_bytes_string w S T e a 0 cap (by rw [tab_und h1, h2]) (by rw [tab_und h5, h6]) (by rw [tab_und h3, h4])]
    cases a with
    | none => rfl
    | some a => simp [Conv.bytesToString, loadCells, loadCellsFrom]; rfl
  · have hcell : ∀ j (hj : j < s.length), w.cell? ((⟨bl, o, none⟩ : Addr).add j) = some (.int .u8 (s[j].toNat : Int)) := by
      intro j hj
      have hr := hall j hj
      rw [hc j hj] at hr
      simp only [byteA, RelC, Nat.mul_one] at hr
      rw [add_off]
      simp only [World.cell?, hm.sealed _ _ hR]
      have : (List.take 1 (List.drop (o + j) Cs.toList))[0]? = some (Value.int .u8 ((s.getD j 0).toNat : Int)) := by rw [hr]; rfl
      rw [List.getElem?_take_of_lt (by omega), List.getElem?_drop] at this
      simpa [List.getElem?_eq_getElem hj] using this
    simp only [execOp, e1, Sem.run_bind, bytes_back h1 h2 h5 h6 h3 h4 hcell, Result.andThen_ok, Sem.run_pure]

/-! ### A slice written out -/
/-- The element at a place of a row of cells. -/
def elemA (ag : Bool) (sz : Nat) (cs : List AVal) (i : Nat) : AVal :=
  match ag with
  | true => .agg ((cs.drop (i * sz)).take sz)
  | false => cs.getD (i * sz) (.raw undef)
/-- A slice written out holds its parts one behind the other. -/
def inOrder : Nat → List (Nat × AVal) → Bool
  | _, [] => true
  | i, (j, v) :: t => Nat.beq i j && v.plain && inOrder (i + 1) t
def partCells : List (Nat × AVal) → List AVal
  | [] => []
  | (_, v) :: t => v.cells ++ partCells t
def partSizes (sz : Nat) : List (Nat × AVal) → Bool
  | [] => true
  | (_, v) :: t => Nat.beq v.cells.length sz && partSizes sz t
theorem fill_inOrder {R : Seal} {sz : Nat} : ∀ {ps : List (Nat × AVal)} {vs : List (Nat × Value)} {i : Nat} {pre : List Value} {Cs : Array Value}, PartsRel R ps vs → inOrder i ps = true → partSizes sz ps = true →
    pre.length = i * sz → (∃ z, Cs.toList = pre ++ z ∧ z.length = ps.length * sz) → ∃ Cs' new, Instr.fill (fun i => some (i * sz, sz)) Cs vs = some Cs' ∧ Cs'.toList = pre ++ new ∧ RelL R (partCells ps) new
  | [], _, i, pre, Cs, hp, _, _, _, hz => by
    simp only [PartsRel] at hp
    subst hp
    obtain ⟨z, hz, hl⟩ := hz
    have : z = [] := List.eq_nil_of_length_eq_zero (by simpa using hl)
    subst this
    exact ⟨Cs, [], rfl, by simpa using hz, rfl⟩
  | (j, a) :: ps, _, i, pre, Cs, hp, ho, hs, hpre, hz => by
    obtain ⟨⟨j', v⟩, vs, rfl, ⟨e, hr⟩, hp⟩ := hp
    simp only at e hr
    subst e
    simp only [inOrder, Bool.and_eq_true] at ho
    simp only [partSizes, Bool.and_eq_true] at hs
    have hj := Nat.eq_of_beq_eq_true ho.1.1
    subst hj
    have hsz := Nat.eq_of_beq_eq_true hs.1
    have hv := rel_cells hr ho.1.2
    have hvl := relL_length hv
    simp only [Array.length_toList] at hvl
    obtain ⟨z, hz, hzl⟩ := hz
    simp only [List.length_cons, Nat.succ_mul] at hzl
    have hCs : Cs.size = i * sz + z.length := by rw [← Array.length_toList, hz, List.length_append, hpre]
    have hf : (v.cells.zipIdx.foldl (fun cs (x : Value × Nat) => cs.setIfInBounds (i * sz + x.2) x.1) Cs).toList = (pre ++ v.cells.toList) ++ z.drop sz := by
      have := foldl_set v.cells.toList (i * sz) 0 Cs (by simp; omega)
      rw [← Array.foldl_toList, Array.toList_zipIdx]
      rw [this, Nat.add_zero, hz, List.take_append_of_le_length (by omega), List.take_of_length_le (by omega), List.drop_append, List.drop_eq_nil_of_le (by simp; omega), List.nil_append]
      congr 2
      simp only [Array.length_toList]
      omega
    obtain ⟨Cs', new, h1, h2, h3⟩ := fill_inOrder hp ho.2 hs.2 (pre := pre ++ v.cells.toList) (Cs := v.cells.zipIdx.foldl (fun cs (x : Value × Nat) => cs.setIfInBounds (i * sz + x.2) x.1) Cs)
      (by rw [List.length_append, hpre, Array.length_toList, hvl, hsz, Nat.succ_mul]) ⟨z.drop sz, hf, by rw [List.length_drop]; omega⟩
    refine ⟨Cs', v.cells.toList ++ new, ?_, by rw [h2, List.append_assoc], relL_append hv h3⟩
    simp only [Instr.fill]
    rw [if_neg (by simp only [Bool.or_eq_true, decide_eq_true_eq, not_or]; omega)]
    exact h1
theorem partCells_get {sz : Nat} : ∀ {ps : List (Nat × AVal)} {i : Nat}, inOrder i ps = true → partSizes sz ps = true → ∀ k (hk : k < ps.length), ((partCells ps).drop (k * sz)).take sz = (ps[k].2).cells ∧ (ps[k].2).plain = true
  | [], _, _, _, k, hk => by simp at hk
  | (j, a) :: ps, i, ho, hs, k, hk => by
    simp only [inOrder, Bool.and_eq_true] at ho
    simp only [partSizes, Bool.and_eq_true] at hs
    have hsz := Nat.eq_of_beq_eq_true hs.1
    cases k with
    | zero => 
      refine ⟨?_, ho.1.2⟩
      simp only [partCells, Nat.zero_mul, List.drop_zero, List.getElem_cons_zero]
      rw [List.take_append_of_le_length (by omega), List.take_of_length_le (by omega)]
    | succ k =>
      have := partCells_get ho.2 hs.2 k (by simpa using hk)
      refine ⟨?_, by simpa using this.2⟩
      simp only [partCells, List.getElem_cons_succ]
      rw [List.drop_append, List.drop_eq_nil_of_le (by rw [hsz, Nat.succ_mul]; omega), List.nil_append, hsz]
      rw [show (k + 1) * sz - sz = k * sz by rw [Nat.succ_mul]; omega]
      exact this.1
theorem partCells_length {sz : Nat} : ∀ {ps : List (Nat × AVal)}, partSizes sz ps = true → (partCells ps).length = ps.length * sz
  | [], _ => by simp [partCells]
  | (_, a) :: ps, hs => by
    simp only [partSizes, Bool.and_eq_true] at hs
    simp only [partCells, List.length_append, List.length_cons, Nat.succ_mul, partCells_length hs.2, Nat.eq_of_beq_eq_true hs.1]
    omega
theorem buildSlice_run {R : Seal} {ρ : Operand → Value} {w : World} {l : List (Nat × Operand)} {ps : List (Nat × AVal)} {m : Nat} {e : TypeId} {xe : TI} {z : List AVal} (hf : Evals R env ρ)
    (hl : partsA env l = some ps) (h1 : tab P T = some xT) (h2 : xT.desc = .slice e) (h3 : tab P e = some xe) (h4 : zeroCellsA xe.zero = some z) (h5 : Nat.beq z.length xe.size = true) (h6 : inOrder 0 ps = true) (h7 : partSizes xe.size ps = true) (h8 : Nat.beq ps.length m = true)
    (h9 : Nat.ble (m * xe.size) 16777216 = true) :
    ∃ Cs : Array Value, (Instr.buildSlice T m (l.toArray.map fun (i, x) => (i, ρ x))).run P w = .ok (.slice (some ⟨w.heap.size, 0, none⟩) m m) (grow w (.cells Cs e)) ∧ RelL R (partCells ps) Cs.toList := by
  have h8 := Nat.eq_of_beq_eq_true h8
  subst h8
  have h9 := Nat.le_of_ble_eq_true h9
  have h5 := Nat.eq_of_beq_eq_true h5
  obtain ⟨v, hv, hr⟩ := zeroCellsA_rel (R := R) h4
  have hzl := relL_length hr
  simp only [Array.length_toList] at hzl
  have hmap : (l.toArray.map fun x : Nat × Operand => (x.1, ρ x.2)).toList = l.map fun x => (x.1, ρ x.2) := by simp
  obtain ⟨Cs, new, hC, hCl, hn⟩ := fill_inOrder (R := R) (pre := []) (Cs := (Array.range (ps.length * xe.size)).map (fun i => (if ps.length * xe.size = 0 then #[] else v.cells)[i % (if ps.length * xe.size = 0 then #[] else v.cells).size]!)) (partsA_rel hf hl) h6 h7 (by simp) ⟨_, by simp; rfl, by simp⟩
  refine ⟨Cs, ?_, by rw [hCl]; exact hn⟩
  simp only [Instr.buildSlice, Sem.run_bind, tab_run_und h1, h2, Result.andThen_ok, tab_run_size h3]
  rw [if_neg (by omega)]
  by_cases hz0 : ps.length * xe.size = 0
  · simp only [hz0, if_true] at hC ⊢
    simp only [Sem.run_bind, Sem.run_pure, Result.andThen_ok]
    rw [show (Array.map (fun x : Nat × Operand => match x with | (i, x) => (i, ρ x)) l.toArray).toList = l.map fun x => (x.1, ρ x.2) from hmap, hC]
    rfl
  · simp only [if_neg hz0] at hC ⊢
    simp only [Sem.run_bind, Sem.run_pure, Result.andThen_ok, tab_run_zero h3 hv]
    rw [show (Array.map (fun x : Nat × Operand => match x with | (i, x) => (i, ρ x)) l.toArray).toList = l.map fun x => (x.1, ρ x.2) from hmap, hC]
    rfl
theorem run_build_op {ρ : Operand → Value} {w w' : World} {l : List (Nat × Operand)} {m : Nat} {u : Value} (hr : (Instr.buildSlice T m (l.toArray.map fun (i, x) => (i, ρ x))).run P w = .ok u w') :
    (execOp ρ { dst := some d, op := .buildSlice T m l.toArray, type := t, pos := p, after := af, guard := g }).run P w = .ok (.value u) w' := by
  show (Sem.run P (do pure (.value (← Instr.buildSlice T m (l.toArray.map fun (i, x) => (i, ρ x)))) : Sem Next) w) = _
  rw [Sem.run_bind, hr]
  rfl
/-- The elements of a slice written out. -/
def partElem (ps : List (Nat × AVal)) (i : Nat) : AVal := match ps[i]? with
  | some x => x.2
  | none => .raw undef
theorem ao_buildSlice_sealed {l : List (Nat × Operand)} {ps : List (Nat × AVal)} {m : Nat} {e : TypeId} {xe : TI} {z : List AVal} (hg : guardA ops env g = some (b, b)) (hdn : Nat.ble (d + 1) n = true)
    (hl : partsA env l = some ps) (h1 : tab P T = some xT) (h2 : xT.desc = .slice e) (h3 : tab P e = some xe) (h4 : zeroCellsA xe.zero = some z) (h5 : Nat.beq z.length xe.size = true) (h6 : inOrder 0 ps = true) (h7 : partSizes xe.size ps = true) (h8 : Nat.beq ps.length m = true)
    (h9 : Nat.ble (m * xe.size) 16777216 = true)
    (h : AOps P C n ops rest ((d, .list xe.size m (partElem ps)) :: env) H Q) :
    AOps P C n ops ({ dst := some d, op := .buildSlice T m l.toArray, type := t, pos := p, after := af, guard := g } :: rest) env H Q := by
  refine ao_val hg rfl hdn (fun R ρ w hm hf => ?_) h
  obtain ⟨Cs, hr, hrel⟩ := buildSlice_run (T := T) (w := w) hf hl h1 h2 h3 h4 h5 h6 h7 h8 h9
  have hfree := hm.seal_free
  have h8 := Nat.eq_of_beq_eq_true h8
  subst h8
  refine ⟨_, _, _, run_build_op hr, Seal.put_le hfree, ⟨⟨_, _, rfl, Nat.le_refl _, .inr ⟨w.heap.size, 0, Cs, e, _, rfl, Seal.put_at _ _ _, fun i hi => ?_⟩⟩, rfl⟩, hm.alloc_sealed _⟩
  · obtain ⟨k1, k2⟩ := partCells_get h6 h7 i hi
    have : partElem ps i = (ps[i]).2 := by simp [partElem, hi]
    rw [this, Nat.zero_add]
    refine relC_of_cells ?_ k2
    rw [← k1]
    exact relL_take _ (relL_drop _ (relL_mono (Seal.put_le hfree) _ _ hrel))
theorem ao_buildSlice_row {l : List (Nat × Operand)} {ps : List (Nat × AVal)} {m : Nat} {e : TypeId} {xe : TI} {z : List AVal} (hg : guardA ops env g = some (b, b)) (hdn : Nat.ble (d + 1) n = true)
    (hl : partsA env l = some ps) (h1 : tab P T = some xT) (h2 : xT.desc = .slice e) (h3 : tab P e = some xe) (h4 : zeroCellsA xe.zero = some z) (h5 : Nat.beq z.length xe.size = true) (h6 : inOrder 0 ps = true) (h7 : partSizes xe.size ps = true) (h8 : Nat.beq ps.length m = true)
    (h9 : Nat.ble (m * xe.size) 16777216 = true)
    (h : ∀ v : Value, AOps P C n ops rest ((d, .raw v) :: env) (.row v none xe.size m (partCells ps) :: H) Q) :
    AOps P C n ops ({ dst := some d, op := .buildSlice T m l.toArray, type := t, pos := p, after := af, guard := g } :: rest) env H Q := by
  refine ao_valX (av := fun v : Value => .raw v) (H' := fun v => .row v none xe.size m (partCells ps) :: H) hg rfl hdn (fun R ρ w hm hf => ?_) h
  obtain ⟨Cs, hr, hrel⟩ := buildSlice_run (T := T) (w := w) hf hl h1 h2 h3 h4 h5 h6 h7 h8 h9
  have h8 := Nat.eq_of_beq_eq_true h8
  subst h8
  have hpl := partCells_length h7
  have hcl := relL_length hrel
  simp only [Array.length_toList] at hcl
  refine ⟨.slice (some ⟨w.heap.size, 0, none⟩) ps.length ps.length, _, _, R, run_build_op hr, Seal.le_refl R, rel_raw.2 rfl, hm.alloc _ _ rfl ⟨hpl, .inr ⟨w.heap.size, ps.length, Cs, e, (0, 0), rfl, grow_at w _, by omega, Nat.le_refl _, ?_, .inl (Nat.le_refl _), fun _ h => nomatch h⟩⟩⟩
  · rw [List.take_of_length_le (by simp; omega)]; exact hrel
end
end Go.Proofs.YtlmihggafbmkaaaGreatDoor
