/- copy(dst[o:], src) over bytes of the call's own; dst[o:]. -/
import Derived.Test.YtlmihggafbmkaaaGreatDoorMak
import Derived.Laws.IdiomCopy
namespace Go.Proofs.YtlmihggafbmkaaaGreatDoor
open Go Go.RowKit
set_option linter.unusedSectionVars false
section
variable {P : Program} [Tab P] {C : Ctx} {n : Nat} {env : Env} {H : Heap} {Q : AExit → Env → Heap → Prop} {ops : Array Oper} {rest : List Oper} {G : Glo} {GL : List (Nat × List AVal)}
variable {d : Nat} {t : TypeId} {p : String} {af : Array Edge} {g : Option (Nat × Bool)} {b : Bool}
variable {x y : Operand} {T T2 e : TypeId} {xT xe : TI}
theorem ownB_put {s s2 : List UInt8} {cap o : Nat} (ho : o + s2.length ≤ s.length) (hc : s.length ≤ cap) :
    ownB (s.take o ++ s2 ++ s.drop (o + s2.length)) cap = (ownB s cap).take o ++ s2.map byteA ++ (ownB s cap).drop (o + s2.length) := by
  have e : (s.take o ++ s2 ++ s.drop (o + s2.length)).length = s.length := by
    simp only [List.length_append, List.length_take, List.length_drop]; omega
  unfold ownB
  rw [e, List.map_append, List.map_append, List.map_take, List.map_drop]
  rw [List.take_append_of_le_length (by simp; omega), List.drop_append_of_le_length (by simp; omega), ← List.append_assoc]
theorem run_copy_op {ρ : Operand → Value} {ty : TypeId} {w w' : World} {a c u : Value} (ha : ρ x = a) (hc : ρ y = c) (hr : (Builtin.copy_ #[T, T2] t #[a, c]).run P w = .ok u w') :
    (execOp ρ { dst := some d, op := .call { callee := .builtin .copy, args := #[x, y], argTypes := #[T, T2] }, type := t, pos := p, after := af, guard := g }).run P w = .ok (.value u) w' := by
  simp only [execOp, resolve, Sem.run_bind, Sem.run_pure, Result.andThen_ok, invoke, List.map_toArray, List.map_cons, List.map_nil, ha, hc]
  simp only [builtin, Sem.run_bind, hr, Result.andThen_ok, Sem.run_pure]
theorem op1_copyB {i j bl o l c b2 c2 cap cap2 : Nat} {s s2 : List UInt8} (hC : C.G = G) (hGL : GloAll G GL) (hx : evalA env x = some (.own i (.slice (some ⟨bl, o, none⟩) l c))) (hy : evalA env y = some (.own j (.slice (some ⟨b2, 0, none⟩) s2.length c2)))
    (hi : H[i]? = some (.buf bl s cap)) (hj : H[j]? = some (.buf b2 s2 cap2)) (ho : o + s2.length ≤ s.length) (hl : s2.length ≤ l) (ht : tab P T = some xT) (hd : xT.desc = .slice e) (he : tab P e = some xe) (hs : xe.size = 1)
    (hg : guardA ops env g = some (b, b)) (hdn : Nat.ble (d + 1) n = true)
    (k : opsX P C n G GL ops Q rest ((d, .int .i64 s2.length) :: env) (H.set i (.buf bl (s.take o ++ s2 ++ s.drop (o + s2.length)) cap))) :
    Op1 P C n ops ({ dst := some d, op := .call { callee := .builtin .copy, args := #[x, y], argTypes := #[T, T2] }, type := t, pos := p, after := af, guard := g } :: rest) env H Q := by
  refine ⟨ao_val hg rfl hdn (av := .int .i64 s2.length) (H' := H.set i (.buf bl (s.take o ++ s2 ++ s.drop (o + s2.length)) cap)) (fun R ρ w hm hf => ?_) (opsX_ok hC hGL _ _ _ k)⟩
  obtain ⟨hcap, Cs, e1, fz, hb, hrel, hfz⟩ := hm.heap.holds _ (List.mem_of_getElem? hi)
  obtain ⟨hcap2, Cs2, e2, fz2, hb2, hrel2, hfz2⟩ := hm.heap.holds _ (List.mem_of_getElem? hj)
  have hlen := relL_length hrel
  have hown : (ownB s cap).length = cap := by simp [ownB]; omega
  rw [hown, Array.length_toList] at hlen
  obtain ⟨ti, hti, his, _, _, _⟩ := tab_info he
  have hn1 : (s2.map fun c => Value.int .u8 (c.toNat : Int)).length = s2.length := by simp
  have hone : ∀ v ∈ s2.map (fun c => Value.int .u8 (c.toNat : Int)), v.oneCell' = true := by
    intro v hv
    obtain ⟨c, _, rfl⟩ := List.mem_map.1 hv
    rfl
  have hcell : ∀ j, j < (s2.map fun c => Value.int .u8 (c.toNat : Int)).length → (w.cell? ⟨bl, o + j, none⟩).isSome = true := by
    intro j hj
    rw [hn1] at hj
    simp only [World.cell?, hb]
    simp
    omega
  have hfro : ∀ j, j < (s2.map fun c => Value.int .u8 (c.toNat : Int)).length → w.frozen? ⟨bl, o + j, none⟩ = false := by
    intro j hj
    rw [hn1] at hj
    obtain ⟨lo, hi'⟩ := fz
    simp only [World.frozen?, hb, Loose] at hfz ⊢
    simp
    omega
  have hsrc : ∀ j v, (s2.map fun c => Value.int .u8 (c.toNat : Int))[j]? = some v → w.cell? ((⟨b2, 0, none⟩ : Addr).add j) = some v := by
    intro j v hv
    have hj2 : j < s2.length := by
      have := (List.getElem?_eq_some_iff.1 hv).1
      simpa using this
    rw [List.getElem?_map, List.getElem?_eq_getElem hj2] at hv
    simp only [Option.map_some, Option.some.injEq] at hv
    have hg2 : (ownB s2 cap2)[j]? = some (byteA s2[j]) := by
      unfold ownB
      rw [List.getElem?_append_left (by simpa using hj2), List.getElem?_map, List.getElem?_eq_getElem hj2]
      rfl
    obtain ⟨u, hu, hr⟩ := relL_get hrel2 hg2
    simp only [byteA, RelC, List.cons.injEq, and_true] at hr
    subst hr
    subst hv
    have hadd : (⟨b2, 0, none⟩ : Addr).add j = ⟨b2, j, none⟩ := by
      simp only [Addr.add]
      by_cases h0 : j = 0
      · simp [h0]
      · simp [h0]
    rw [hadd]
    simp only [World.cell?, hb2]
    simpa using hu
  have hr := run_copy_cells (P := P) w T T2 t e bl o l c ⟨b2, 0, none⟩ s2.length c2 _ (by rw [tab_und ht, hd]) (by rw [hti]; simp [his, hs]) (by rw [hn1]; exact (Nat.min_eq_left hl).symm) hsrc hcell hfro hone
  have hrun := run_copy_op (ty := t) (d := d) (p := p) (af := af) (g := g) (rel_own.1 (hf _ _ hx)).1 (rel_own.1 (hf _ _ hy)).1 hr
  obtain ⟨w', hw', ho'⟩ := storeCells_run (P := P) (s2.map fun c => Value.int .u8 (c.toNat : Int)) o 0 Cs w hb (by rw [hn1]; omega) hfz (fun u hu => by
    obtain ⟨c, _, rfl⟩ := List.mem_map.1 hu
    exact ⟨rfl, fun a h => by cases h⟩)
  have hst := run_storeCells_cells (P := P) bl o (s2.map fun c => Value.int .u8 (c.toNat : Int)) 0 w (by simpa using hcell) (by simpa using hfro) hone
  rw [hst] at hw'
  simp only [Result.ok.injEq, true_and] at hw'
  simp only [Nat.add_zero] at hw' ho'
  refine ⟨_, _, R, hrun, Seal.le_refl R, ?_, ?_⟩
  · rw [hn1]; exact rel_int.2 rfl
  · rw [hw']
    refine hm.write hi rfl ho' rfl ⟨?_, _, _, _, ho'.at_, ?_, ?_⟩
    · simp only [List.length_append, List.length_take, List.length_drop]; omega
    · rw [ownB_put ho hcap, hn1]
      exact relL_append (relL_append (relL_take _ hrel) (relL_bytes R s2)) (relL_drop _ hrel)
    · have : ((Cs.toList.take o ++ (s2.map fun c => Value.int .u8 (c.toNat : Int)) ++ Cs.toList.drop (o + (s2.map fun c => Value.int .u8 (c.toNat : Int)).length)).toArray).size = Cs.size := by
        simp only [List.size_toArray, List.length_append, List.length_take, List.length_drop, Array.length_toList, hn1]; omega
      rw [this]
      exact hfz
/-- dst[o:]. -/
theorem op1_sliceB {i bl l c o : Nat} {k0 : IntKind} (hC : C.G = G) (hGL : GloAll G GL) (hx : evalA env x = some (.own i (.slice (some ⟨bl, 0, none⟩) l c))) (hy : evalA env y = some (.int k0 (o : Int))) (ho : o ≤ l) (hoc : o < c) (ht : tab P T = some xT) (hd : xT.desc = .slice e) (he : tab P e = some xe) (hs : xe.size = 1)
    (hg : guardA ops env g = some (b, b)) (hdn : Nat.ble (d + 1) n = true)
    (k : opsX P C n G GL ops Q rest ((d, .own i (.slice (some ⟨bl, o, none⟩) (l - o) (c - o))) :: env) H) :
    Op1 P C n ops ({ dst := some d, op := .slice T x (some y) none none, type := t, pos := p, after := af, guard := g } :: rest) env H Q := by
  refine ⟨ao_val hg rfl hdn (av := .own i (.slice (some ⟨bl, o, none⟩) (l - o) (c - o))) (H' := H) (fun R ρ w hm hf => ?_) (opsX_ok hC hGL _ _ _ k)⟩
  have hel : P.elem T = e := by simp [Program.elem, tab_und ht, hd]
  have hr := run_slice_l (P := P) w T (some ⟨bl, 0, none⟩) l c (by rw [tab_und ht, hd, hel]) k0 (o : Int) (by omega) (by omega)
  have hsz := tab_run_size he w
  refine ⟨.slice (some ⟨bl, o, none⟩) (l - o) (c - o), w, R, ?_, Seal.le_refl R, rel_own.2 ⟨rfl, rfl⟩, hm⟩
  simp only [execOp, (rel_own.1 (hf _ _ hx)).1, Option.map_some, Option.map_none, rel_int.1 (hf _ _ hy), Sem.run_bind, run_sliceAt_slice w T _ _ _ _ (show P.underlying T = some (.slice (P.elem T)) by rw [tab_und ht, hd, hel]), hr, hel, hsz, Result.andThen_ok, Sem.run_pure]
  simp only [sliced, Int.toNat_natCast]
  rw [if_neg (by omega)]
  simp [hs, Addr.add]
  by_cases h0 : o = 0
  · simp [h0]
  · simp [h0]
end
end Go.Proofs.YtlmihggafbmkaaaGreatDoor
