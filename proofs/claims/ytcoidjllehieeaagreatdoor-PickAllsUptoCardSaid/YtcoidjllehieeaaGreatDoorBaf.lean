/- Parts of the proof of pickAlls_card: Fta, Ftb, Lao, Ftc, Mxc, Thr, Ftd, Pka, Sta, Stb, Stc, Std, Ste. -/
import Derived.Lib.AtoiAll
import Derived.Test.YtcoidjllehieeaaGreatDoorBae
import Derived.Test.YtcoidjllehieeaaGreatDoorBad
import Derived.Test.YtcoidjllehieeaaGreatDoorBaa
set_option linter.unusedVariables false
set_option linter.unusedSimpArgs false
namespace Go.Proofs.YtcoidjllehieeaaGreatDoor
open Go Go.RowKit
/-- A number from 1 to so many. -/
def cntB (m : Nat) (s : List UInt8) : Bool := (List.range m).any fun i => decide (Lib.decDigits (i + 1) = s)
theorem cntB_t {m : Nat} {s : List UInt8} : cntB m s = true ↔ ∃ n, 1 ≤ n ∧ n ≤ m ∧ Lib.decDigits n = s := by
  unfold cntB
  rw [List.any_eq_true]
  constructor
  · rintro ⟨i, hi, h⟩
    exact ⟨i + 1, by omega, by have := List.mem_range.1 hi; omega, of_decide_eq_true h⟩
  · rintro ⟨n, h1, h2, h3⟩
    exact ⟨n - 1, List.mem_range.2 (by omega), decide_eq_true (by rw [show n - 1 + 1 = n by omega]; exact h3)⟩
theorem cntB_f {m : Nat} {s : List UInt8} : cntB m s = false ↔ ∀ n, 1 ≤ n → n ≤ m → Lib.decDigits n ≠ s := by
  rw [← Bool.not_eq_true, cntB_t]
  exact ⟨fun h n h1 h2 h3 => h ⟨n, h1, h2, h3⟩, fun h ⟨n, h1, h2, h3⟩ => h n h1 h2 h3⟩
def pidB (v : List UInt8) : Bool := cntB 999 (Lib.cut v [46]).1 && (!(Lib.cut v [46]).2.2 || cntB 999 (Lib.cut v [46]).2.1)
/-- Whether a parameter fits, by its name in great letters. -/
def fitN (n : List UInt8) (vs : List (List UInt8)) : Bool :=
  if n = [86, 65, 76, 85, 69] ∨ n = [65, 76, 84, 73, 68] ∨ n = [77, 69, 68, 73, 65, 84, 89, 80, 69] ∨ n = [69, 78, 67, 79, 68, 73, 78, 71] then decide (vs.length = 1)
  else if n = [76, 65, 78, 71, 85, 65, 71, 69] then decide (vs.length = 1) && (langX (vs.getD 0 [])).isNone
  else if n = [80, 82, 69, 70] then decide (vs.length = 1) && cntB 100 (vs.getD 0 [])
  else if n = [84, 89, 80, 69] then vs.all isS && decide (0 < vs.length)
  else if n = [80, 73, 68] then vs.all pidB && decide (0 < vs.length)
  else decide (0 < vs.length)
def Pr.fit (q : Pr) : Bool := fitN (turnS 97 122 (-32) q.n) q.vs
/-- What strconv.Atoi answers. -/
def AtoiQ (s : List UInt8) (a : AVal) : Prop := (∃ n, a = .tuple [.int .i64 n, .raw .nilIface] ∧ Lib.atoiAll s = .ok n) ∨ (∃ n t v, a = .tuple [.int .i64 n, .iface t (.raw v)] ∧ ∀ k, Lib.atoiAll s ≠ .ok k)
def ErrAt (g : Nat) (R : Seal) : Prop := ∃ t v e fz, R g = some (.cells #[.iface t v] e fz)
def ErrsG (G : Glo) : Prop := ∀ R, G.p R → ErrAt 0 R ∧ ErrAt 1 R
theorem fnq_of_calls {P : Program} {G : Glo} {f : FuncId} {avs : List AVal} {Qf : AVal → Prop} (hc : ∀ args w, (callFunc f args).run P w = .ok (.enter f args) w)
    (h : ∀ R args, RelV R avs args.toList → ∀ w, G.p R → Sealed R w → Calls P f args w fun e w' => (∃ u a, e = .returned u ∧ Qf a ∧ ∀ R, Rel R a u) ∧ Below w.heap.size w w') : FnSpec P G f avs [] (fun r H => (∃ v, r = .ret v ∧ Qf v) ∧ H = []) := by
  intro R w args hG hm ha
  refine .inl ⟨hc args w, (h R args ha w hG hm.sealed).mono ?_⟩
  rintro e w' ⟨⟨u, a, rfl, hq, hr⟩, hb⟩
  refine ⟨.ret a, [], R, ⟨⟨a, rfl, hq⟩, rfl⟩, ⟨_, rfl, hr R⟩, ?_⟩
  refine ⟨?_, Seal.le_refl R, fun _ hb => .inl hb, ⟨fun _ h => absurd h List.not_mem_nil, List.nodup_nil, fun _ h => absurd h List.not_mem_nil⟩, fun _ h => absurd h List.not_mem_nil,
    ⟨hb.os, hb.tape, hb.output, hb.size, fun b hlt _ => hb.block b hlt⟩⟩
  intro b o ho
  have h1 := hm.sealed b o ho
  have hlt : b < w.heap.size := (Array.getElem?_eq_some_iff.1 h1).1
  rw [hb.block b hlt, h1]
theorem err_cell {g : Nat} {R : Seal} {w : World} (h : ErrAt g R) (hs : Sealed R w) : ∃ t v, w.cell? ⟨g, 0, none⟩ = some (.iface t v) := by
  obtain ⟨t, v, e, fz, h⟩ := h
  refine ⟨t, v, ?_⟩
  unfold World.cell?
  simp [hs _ _ h]
theorem strconv_Atoi {G : Glo} (hE : ErrsG G) (s : List UInt8) (hl : s.length ≤ 1000000) : FnSpec Tryz.prog G 30 [.str s] [] (fun r H => (∃ v, r = .ret v ∧ AtoiQ s v) ∧ H = []) := by
  refine fnq_of_calls Tryz.call30 ?_
  intro R args hr w hG hs
  obtain ⟨x, t, e', hx, rfl⟩ := hr
  obtain rfl := rel_str.1 hx
  obtain rfl := arr_of e'
  have hsz : (⟨s.toArray⟩ : ByteArray).size ≤ 1000000 := by rw [str_size]; exact hl
  obtain ⟨⟨t1, v1, c1⟩, t2, v2, c2⟩ : (∃ t v, w.cell? ⟨0, 0, none⟩ = some (.iface t v)) ∧ ∃ t v, w.cell? ⟨1, 0, none⟩ = some (.iface t v) := ⟨err_cell (hE R hG).1 hs, err_cell (hE R hG).2 hs⟩
  cases ha : Lib.atoiAll s
  · rename_i n
    refine (Tryz.strconv_Atoi_ok ⟨s.toArray⟩ (by omega) n (by simpa using ha) w).mono ?_
    rintro e w' ⟨rfl, hw⟩
    refine ⟨⟨_, _, rfl, .inl ⟨n, rfl, ha⟩, fun R => rel_tup2 (rel_int.2 rfl) (rel_raw.2 rfl)⟩, ?_⟩
    rcases hw with rfl | ⟨t, rfl⟩
    · exact Below.refl _ _
    · exact ⟨rfl, rfl, rfl, by rw [Lib.bytesWorld_size]; omega, fun k hk => Lib.bytesWorld_at_old _ _ _ _ hk⟩
  · refine (Tryz.strconv_Atoi_syntax ⟨s.toArray⟩ (by omega) (by simpa using ha) _ w c1 (.inr ⟨_, _, rfl⟩)).mono ?_
    rintro e w' ⟨N, rfl, _, _, hb⟩
    exact ⟨⟨_, _, rfl, .inr ⟨0, _, _, rfl, fun k h => by rw [ha] at h; cases h⟩, fun R => rel_tup2 (rel_int.2 rfl) ⟨⟨_, rfl, rfl, rfl⟩, rfl⟩⟩, hb⟩
  · refine (Tryz.strconv_Atoi_range ⟨s.toArray⟩ (by omega) (by simpa using ha) _ w c2 (.inr ⟨_, _, rfl⟩)).mono ?_
    rintro e w' ⟨N, rfl, _, _, hb⟩
    exact ⟨⟨_, _, rfl, .inr ⟨_, _, _, rfl, fun k h => by rw [ha] at h; cases h⟩, fun R => rel_tup2 (rel_int.2 rfl) ⟨⟨_, rfl, rfl, rfl⟩, rfl⟩⟩, hb⟩
theorem atoi_num : ∀ k : Fin 1000, Lib.atoiAll (Lib.decDigits k.val) = .ok (k.val : Int) := by decide +kernel
set_option maxRecDepth 20000
set_option maxHeartbeats 4000000
set_option linter.unusedSimpArgs false
set_option linter.unusedVariables false
attribute [local irreducible] AWp AOps byteAt SrcOK OrOk GloAll FnSpec
theorem rules_counts {G : Glo} (hE : ErrsG G) (hP : PowIs G) (s : List UInt8) (m : Nat) (hl : s.length ≤ 1000000) (hm : m ≤ 999) : FnIs Tryz.prog G 53 [.str s, .int .i64 (m : Int)] (.bool (cntB m s)) := by
  have hA := strconv_Atoi hE s hl
  have hI := fun n h => strconv_Itoa (G := G) hP n h
  have hGL : GloAll G [] := gloAll_nil
  refine fn_x Tryz.func53 Tryz.call53 rfl rfl rfl rfl hGL ?_
  intro C hC
  refine xw1 ?_
  intros
  refine cx_any hA ?_
  rintro a (⟨n, rfl, h⟩ | ⟨n, t, v, rfl, h⟩)
  · by_cases hn : 1 ≤ n ∧ n ≤ m
    · obtain ⟨k, rfl⟩ : ∃ k : Nat, n = k := ⟨n.toNat, by omega⟩
      have hI := hI k (by omega)
      have e : seqB (Lib.decDigits k) s = cntB m s := by
        cases hc : cntB m s with
        | true =>
          obtain ⟨j, h1, h2, h3⟩ := cntB_t.1 hc
          have := atoi_num ⟨j, by omega⟩
          rw [h3, h] at this
          have e : (k : Int) = j := by simpa using this
          rw [Int.ofNat.inj e, h3]
          exact seqB_t.2 rfl
        | false => exact seqB_f.2 (cntB_f.1 hc k (by omega) (by omega))
      rw [← e]
      exact xw0
    · have e : cntB m s = false := by
        refine cntB_f.2 fun j h1 h2 h3 => hn ?_
        have := atoi_num ⟨j, by omega⟩
        rw [h3, h] at this
        have e : n = j := by simpa using this
        omega
      rw [e]
      exact xw0
  · have e : cntB m s = false := by
      refine cntB_f.2 fun j h1 h2 h3 => h (j : Int) ?_
      have := atoi_num ⟨j, by omega⟩
      rwa [h3] at this
    rw [e]
    exact xw0
end Go.Proofs.YtcoidjllehieeaaGreatDoor
namespace Go.Proofs.YtcoidjllehieeaaGreatDoor
open Go Go.RowKit
abbrev prA (q : Pr) : AVal := .agg [.str q.n, .list 1 q.vs.length (strsF q.vs)]
abbrev nVAL : List UInt8 := [86, 65, 76, 85, 69]
abbrev nALT : List UInt8 := [65, 76, 84, 73, 68]
abbrev nMED : List UInt8 := [77, 69, 68, 73, 65, 84, 89, 80, 69]
abbrev nENC : List UInt8 := [69, 78, 67, 79, 68, 73, 78, 71]
abbrev nLAN : List UInt8 := [76, 65, 78, 71, 85, 65, 71, 69]
abbrev nPRE : List UInt8 := [80, 82, 69, 70]
abbrev nTYP : List UInt8 := [84, 89, 80, 69]
abbrev nPID : List UInt8 := [80, 73, 68]
/-- The names that are told apart. -/
inductive NmC (n : List UInt8) : Prop
  | one (h : n = nVAL ∨ n = nALT ∨ n = nMED ∨ n = nENC)
  | lan (h : n = nLAN)
  | pre (h : n = nPRE)
  | typ (h : n = nTYP)
  | pid (h : n = nPID)
  | els (h1 : n ≠ nVAL) (h2 : n ≠ nALT) (h3 : n ≠ nMED) (h4 : n ≠ nENC) (h5 : n ≠ nLAN) (h6 : n ≠ nPRE) (h7 : n ≠ nTYP) (h8 : n ≠ nPID)
theorem nmC (n : List UInt8) : NmC n := by
  by_cases h : n = nVAL ∨ n = nALT ∨ n = nMED ∨ n = nENC
  · exact .one h
  simp only [not_or] at h
  obtain ⟨h1, h2, h3, h4⟩ := h
  by_cases h5 : n = nLAN
  · exact .lan h5
  by_cases h6 : n = nPRE
  · exact .pre h6
  by_cases h7 : n = nTYP
  · exact .typ h7
  by_cases h8 : n = nPID
  · exact .pid h8
  exact .els h1 h2 h3 h4 h5 h6 h7 h8
/-- The first so many are so. -/
theorem all_upto {p : List UInt8 → Bool} {l : List (List UInt8)} (h : ∀ k, k < l.length → p (l.getD k []) = true) : l.all p = true := by
  rw [List.all_eq_true]
  intro x hx
  obtain ⟨i, hi, rfl⟩ := List.getElem_of_mem hx
  have := h i hi
  rwa [List.getD_eq_getElem?_getD, List.getElem?_eq_getElem hi] at this
theorem all_not {p : List UInt8 → Bool} {l : List (List UInt8)} {k : Nat} (hk : k < l.length) (h : p (l.getD k []) = false) : l.all p = false := by
  rw [List.all_eq_false]
  refine ⟨l[k], List.getElem_mem hk, ?_⟩
  rw [List.getD_eq_getElem?_getD, List.getElem?_eq_getElem hk] at h
  simpa using h
theorem cut_lens (s : List UInt8) (c : UInt8) : (Lib.cut s [c]).1.length ≤ s.length ∧ (Lib.cut s [c]).2.1.length ≤ s.length := by
  unfold Lib.cut
  split
  · exact ⟨List.length_take_le' .., by dsimp only; rw [List.length_drop]; omega⟩
  · exact ⟨Nat.le_refl _, Nat.zero_le _⟩
set_option maxRecDepth 20000
set_option maxHeartbeats 4000000
set_option linter.unusedSimpArgs false
set_option linter.unusedVariables false
attribute [local irreducible] AWp AOps byteAt SrcOK OrOk GloAll FnSpec
attribute [local irreducible] cntB langX isS pidB Lib.cut
theorem rules_Fits {G : Glo} {m : Int} (hE : ErrsG G) (hP : PowIs G) (hM : GloAll G (maxTy m)) (q : Pr) (h0 : q.n.length ≤ 1000000) (h1 : q.vs.length ≤ 1000000) (h2 : ∀ k, (q.vs.getD k []).length ≤ 90000) : FnIs Tryz.prog G 34 [prA q] (.bool q.fit) := by
  have hU := name_Upper (G := G) q.n (by omega)
  unfold Pr.fit
  obtain ⟨nm, vs⟩ := q
  dsimp only at h0 h1 h2 hU ⊢
  generalize turnS 97 122 (-32) nm = n at *
  cases nmC n with
  | one h =>
    have e : fitN n vs = eqB (vs.length : Int) 1 := by
      unfold fitN
      rw [if_pos h]
      unfold eqB
      exact decide_eq_decide.2 (by omega)
    rw [e]
    rcases h with rfl | rfl | rfl | rfl
    all_goals
      have hGL : GloAll G [] := gloAll_nil
      refine fn_x Tryz.func34 Tryz.call34 rfl rfl rfl rfl hGL ?_
      intro C hC
      exact xw0
  | lan h =>
    subst h
    have hR := lang_Right (G := G) (vs.getD 0 []) (by have := h2 0; omega)
    have e : fitN nLAN vs = (decide (vs.length = 1) && (langX (vs.getD 0 [])).isNone) := rfl
    rw [e]
    by_cases hv : vs.length = 1
    · rw [decide_eq_true hv]
      rcases hx : langX (vs.getD 0 []) with _ | e | ⟨e, p⟩
      all_goals
        rw [hx] at hR
        have hGL : GloAll G [] := gloAll_nil
        refine fn_x Tryz.func34 Tryz.call34 rfl rfl rfl rfl hGL ?_
        intro C hC
        exact xw0
    · rw [decide_eq_false hv]
      have hGL : GloAll G [] := gloAll_nil
      refine fn_x Tryz.func34 Tryz.call34 rfl rfl rfl rfl hGL ?_
      intro C hC
      exact xw0
  | pre h =>
    subst h
    have hR := rules_counts hE hP (vs.getD 0 []) 100 (by have := h2 0; omega) (by decide)
    have e : fitN nPRE vs = (decide (vs.length = 1) && cntB 100 (vs.getD 0 [])) := rfl
    rw [e]
    by_cases hv : vs.length = 1
    · rw [decide_eq_true hv]
      have hGL : GloAll G [] := gloAll_nil
      refine fn_x Tryz.func34 Tryz.call34 rfl rfl rfl rfl hGL ?_
      intro C hC
      exact xw0
    · rw [decide_eq_false hv]
      have hGL : GloAll G [] := gloAll_nil
      refine fn_x Tryz.func34 Tryz.call34 rfl rfl rfl rfl hGL ?_
      intro C hC
      exact xw0
  | typ h =>
    subst h
    have e : fitN nTYP vs = (vs.all isS && ltB 0 (vs.length : Int)) := by
      unfold ltB
      rw [show decide ((0 : Int) < (vs.length : Int)) = decide (0 < vs.length) from decide_eq_decide.2 (by omega)]
      rfl
    rw [e]
    have hGL : GloAll G [] := gloAll_nil
    refine fn_x Tryz.func34 Tryz.call34 rfl rfl rfl rfl hGL ?_
    intro C hC
    refine xw1 ?_
    intros
    refine lp hC hGL (fun k : Nat => [(1, .rop [.str nm, .list 1 vs.length (strsF vs)] 0), (48, .list 1 vs.length (strsF vs)), (49, .int .i64 (vs.length : Int)), (50, .int .i64 (k : Int))]) (fun _ => []) (fun k => k ≤ vs.length ∧ ∀ j, j < k → isS (vs.getD j []) = true) (fun k => vs.length - k) 0 ⟨Nat.zero_le _, fun j h => absurd h (Nat.not_lt_zero _)⟩ env_w rfl ?_
    rintro k ⟨hk1, hk2⟩
    by_cases hk : k < vs.length
    · have hI := name_Is (G := G) (vs.getD k []) (by have := h2 k; omega)
      cases hs : isS (vs.getD k []) with
      | true =>
        rw [hs] at hI
        refine xw1 ?_
        intros
        refine nxt (k + 1) ⟨by omega, fun j hj => ?_⟩ (by omega) env_w rfl
        rcases Nat.lt_or_eq_of_le (Nat.le_of_lt_succ hj) with h | rfl
        · exact hk2 j h
        · exact hs
      | false =>
        rw [hs] at hI
        rw [all_not hk hs]
        exact xw0
    · rw [all_upto fun j hj => hk2 j (by omega)]
      exact xw0
  | pid h =>
    subst h
    have e : fitN nPID vs = (vs.all pidB && ltB 0 (vs.length : Int)) := by
      unfold ltB
      rw [show decide ((0 : Int) < (vs.length : Int)) = decide (0 < vs.length) from decide_eq_decide.2 (by omega)]
      rfl
    rw [e]
    have hGL : GloAll G [] := gloAll_nil
    refine fn_x Tryz.func34 Tryz.call34 rfl rfl rfl rfl hGL ?_
    intro C hC
    refine xw1 ?_
    intros
    refine lp hC hGL (fun k : Nat => [(1, .rop [.str nm, .list 1 vs.length (strsF vs)] 0), (61, .list 1 vs.length (strsF vs)), (62, .int .i64 (vs.length : Int)), (63, .int .i64 (k : Int))]) (fun _ => []) (fun k => k ≤ vs.length ∧ ∀ j, j < k → pidB (vs.getD j []) = true) (fun k => vs.length - k) 0 ⟨Nat.zero_le _, fun j h => absurd h (Nat.not_lt_zero _)⟩ env_w rfl ?_
    rintro k ⟨hk1, hk2⟩
    by_cases hk : k < vs.length
    · have hl := h2 k
      have hcut := strings_cut (G := G) hM (vs.getD k []) 46 (by omega)
      have hcl := cut_lens (vs.getD k []) 46
      have hp : pidB (vs.getD k []) = (cntB 999 (Lib.cut (vs.getD k []) [46]).1 && (!(Lib.cut (vs.getD k []) [46]).2.2 || cntB 999 (Lib.cut (vs.getD k []) [46]).2.1)) := by unfold pidB; rfl
      generalize Lib.cut (vs.getD k []) [46] = cu at *
      obtain ⟨a, b, tw⟩ := cu
      dsimp only at hcut hcl hp
      have hA := rules_counts hE hP a 999 (by omega) (by decide)
      have hB := rules_counts hE hP b 999 (by omega) (by decide)
      have go : pidB (vs.getD k []) = true → k + 1 ≤ vs.length ∧ ∀ j, j < k + 1 → pidB (vs.getD j []) = true := fun hs => ⟨by omega, fun j hj => by
        rcases Nat.lt_or_eq_of_le (Nat.le_of_lt_succ hj) with h | rfl
        · exact hk2 j h
        · exact hs⟩
      cases ha : cntB 999 a with
      | false =>
        rw [ha] at hA hp
        rw [all_not hk hp]
        exact xw0
      | true =>
        rw [ha] at hA hp
        cases tw with
        | false =>
          refine xw1 ?_
          intros
          exact nxt (k + 1) (go hp) (by omega) env_w rfl
        | true =>
          cases hb : cntB 999 b with
          | true =>
            rw [hb] at hB hp
            refine xw1 ?_
            intros
            exact nxt (k + 1) (go hp) (by omega) env_w rfl
          | false =>
            rw [hb] at hB hp
            rw [all_not hk hp]
            exact xw0
    · rw [all_upto fun j hj => hk2 j (by omega)]
      exact xw0
  | els h3 h4 h5 h6 h7 h8 h9 h10 =>
    have e : fitN n vs = ltB 0 (vs.length : Int) := by
      unfold fitN
      rw [if_neg (by simp [*]), if_neg h7, if_neg h8, if_neg h9, if_neg h10]
      unfold ltB
      exact decide_eq_decide.2 (by omega)
    rw [e]
    have hGL : GloAll G [] := gloAll_nil
    refine fn_x Tryz.func34 Tryz.call34 rfl rfl rfl rfl hGL ?_
    intro C hC
    exact xw0
end Go.Proofs.YtcoidjllehieeaaGreatDoor
namespace Go.Proofs.YtcoidjllehieeaaGreatDoor
open Go Go.RowKit
theorem isS_byte {c : Nat} (h : c < 256) : isS (bytesI [(c : Int)]) = letterB c := by
  have hb : byteAt (bytesI [(c : Int)]) 0 = c := by
    unfold bytesI byteAt
    simp
    omega
  rw [Bool.eq_iff_iff, isS]
  have hl : (bytesI [(c : Int)]).length = 1 := rfl
  rw [hl]
  simp only [Bool.and_eq_true, allB_t, hl, decide_eq_true_eq]
  constructor
  · intro h; have := h.1 0 (by omega); rwa [hb] at this
  · intro h; exact ⟨fun j hj => by rw [show j = 0 by omega, hb]; exact h, by omega, by omega⟩
theorem letter_dig {c : Int} (h : letterB c = true) (hc : c ≠ 45) : (48 ≤ c ∧ c ≤ 57) ↔ c ≤ 57 := by
  rw [letterB_t] at h; omega
theorem langE_cons {b : Bool} {a : Nat} {x : List UInt8} {xs : List (List UInt8)} : langE b a (x :: xs) = if (pieceX b a x).isNone then langE false (a + x.length + 1) xs else pieceX b a x := by rw [langE]
theorem not_mem_byte {x : List UInt8} (h : (45 : UInt8) ∉ x) {j : Nat} (hj : j < x.length) : byteAt x j ≠ 45 := by
  intro e
  rw [byteAt_getElem hj] at e
  exact h (by rw [← show x[j] = 45 from UInt8.toNat_inj.1 (by rw [e]; rfl)]; exact List.getElem_mem hj)
theorem pieceX_bad {first : Bool} {a : Nat} {x : List UInt8} {i : Nat} (hi : i < x.length) (hb : lgB first (byteAt x i : Int) = false) (h0 : ∀ j, j < i → lgB first (byteAt x j : Int) = true) : pieceX first a x = .at 3 ((a : Int) + i) := by
  have hf : fstB (fun c => !lgB first c) x = i := fstB_at hi (by rw [hb]; rfl) (fun j hj => by rw [h0 j hj]; rfl)
  unfold pieceX
  rw [hf, if_pos (by omega)]
theorem pieceX_good {first : Bool} {a : Nat} {x : List UInt8} (h0 : ∀ j, j < x.length → lgB first (byteAt x j : Int) = true) : pieceX first a x = if x.length = 0 then .at 7 a else if 8 < x.length then .at 4 a else .none := by
  have hf : fstB (fun c => !lgB first c) x = -1 := fstB_none (fun j hj => by rw [h0 j hj]; rfl)
  unfold pieceX
  rw [hf, if_neg (by omega)]
theorem splS_lens (c : UInt8) : ∀ s : List UInt8, (splS c s).length ≤ s.length + 1 ∧ ∀ p, p ∈ splS c s → p.length ≤ s.length
  | [] => ⟨Nat.le_refl _, fun p h => by simp [splS] at h; subst h; exact Nat.le_refl _⟩
  | x :: t => by
    obtain ⟨h1, h2⟩ := splS_lens c t
    by_cases hx : x = c
    · rw [splS, if_pos hx]
      refine ⟨by simp only [List.length_cons]; omega, fun p hp => ?_⟩
      rcases List.mem_cons.1 hp with rfl | hp
      · simp
      · have := h2 p hp; simp only [List.length_cons]; omega
    · rw [splS, if_neg hx]
      cases h3 : splS c t with
      | nil => exact absurd h3 (splS_ne c t)
      | cons q qs =>
        rw [h3] at h1 h2
        refine ⟨by simp only [List.length_cons] at *; omega, fun p hp => ?_⟩
        rcases List.mem_cons.1 hp with rfl | hp
        · have := h2 q (by simp); simp only [List.length_cons]; omega
        · have := h2 p (by simp [hp]); simp only [List.length_cons]; omega
set_option maxRecDepth 20000
set_option maxHeartbeats 4000000
set_option linter.unusedSimpArgs false
set_option linter.unusedVariables false
attribute [local irreducible] AWp AOps byteAt SrcOK OrOk GloAll FnSpec
attribute [local irreducible] splS langE lgB isS letterB pieceX
theorem ref_LangRight {G : Glo} {m : Int} (hM : GloAll G (maxTy m)) (s : List UInt8) (hl : s.length ≤ 3000) : FnIs Tryz.prog G 42 [.str s] (.agg [.int .i64 (langX s).e, .int .i64 (langX s).p]) := by
  have h1 := split_list (G := G) hM s 45 (by omega)
  have hgd := ref_Good (G := G)
  have hmem : ∀ k, k < (splS 45 s).length → (45 : UInt8) ∉ (splS 45 s).getD k [] := fun k hk => by
    rw [List.getD_eq_getElem?_getD, List.getElem?_eq_getElem hk]
    exact splS_mem (List.getElem_mem hk)
  have hX : langX s = langE true 0 (splS 45 s) := rfl
  have hlen : ∀ p, p ∈ splS 45 s → p.length ≤ 3000 := fun p hp => Nat.le_trans ((splS_lens 45 s).2 p hp) hl
  have hPl : (splS 45 s).length ≤ 3001 := by have := (splS_lens 45 s).1; omega
  generalize splS 45 s = P at *
  have hGL : GloAll G [] := gloAll_nil
  refine fn_x Tryz.func42 Tryz.call42 rfl rfl rfl rfl hGL ?_
  intro C hC
  refine xw1 ?_
  intros
  rename Nat => bl0
  refine lp hC hGL (fun (x : Nat × Nat) => [(2, .own 0 (.pointer (some ⟨bl0, 0, none⟩))), (3, .int .i64 x.2), (9, .list 1 P.length (strsF P)), (10, .int .i64 P.length), (11, .int .i64 x.1)]) (fun _ => [.cells bl0 (some 71) [.int .i64 0, .int .i64 0]]) (fun x => x.1 ≤ P.length ∧ x.2 ≤ 4000 * x.1 ∧ langX s = langE (decide (x.1 = 0)) x.2 (P.drop x.1)) (fun x => P.length - x.1) (0, 0) ?_ env_w rfl ?_
  · exact ⟨Nat.zero_le _, Nat.zero_le _, hX⟩
  rintro ⟨k, a⟩ ⟨g1, g2, g3⟩
  dsimp only at g1 g2 g3 ⊢
  by_cases hk : k < P.length
  · have hx : ∃ x, P.getD k [] = x ∧ P.drop k = x :: P.drop (k + 1) ∧ (45 : UInt8) ∉ x ∧ x.length ≤ 3000 := by
      refine ⟨P.getD k [], rfl, ?_, hmem k hk, ?_⟩
      · rw [List.drop_eq_getElem_cons hk, List.getD_eq_getElem?_getD, List.getElem?_eq_getElem hk]; rfl
      · rw [List.getD_eq_getElem?_getD, List.getElem?_eq_getElem hk]; exact hlen _ (List.getElem_mem hk)
    obtain ⟨x, hx, hd, hm, hxl⟩ := hx
    have hxe : strsF P k = .str x := by unfold strsF; rw [hx]
    rw [hd, langE_cons] at g3
    have hkl : k ≤ 4000 * k := by omega
    repeat' (first | (conv => whnf); first | refine .w ?_ | refine .v ?_ | refine sc_c ?_ ?_ <;> (intro hb; try exact dd hb) | apply sc_not | apply sc_or | (apply sc_i <;> intro hb) | (apply bx_i; intro hbd) | (apply cx_is; first | exact hgd) | (apply cx_do (i := 0) rfl; first | exact hgd) | (apply ab_i; intro bl) | (apply as_i; intro va vk vc hva) | (apply av_i; intro v) | (apply ac_i; intro bl cap hcap) | apply bo_l | (apply nx_i <;> intro hnx) | exact rt_w | apply dw_q mixed hC hGL (by kernel_rfl) | (apply cq; assumption; (first | exact hgd); exact rfl))
    all_goals try conv => whnf
    rw [hx] at *
    rw [hxe] at *
    refine lp hC hGL (fun (i : Nat) => [(2, .own 0 (.pointer (some ⟨bl0, 0, none⟩))), (3, .int .i64 a), (4, .int .i64 k), (5, .str x), (9, .list 1 P.length (strsF P)), (10, .int .i64 P.length), (11, .int .i64 k), (17, .own 1 (.slice (some ⟨bl, 0, none⟩) x.length cap)), (18, .int .i64 x.length), (19, .int .i64 i)]) (fun _ => [.cells bl0 (some 71) [.int .i64 0, .int .i64 0], .buf bl x cap]) (fun i => i ≤ x.length ∧ ∀ j, j < i → lgB (decide (k = 0)) (byteAt x j : Int) = true) (fun i => x.length - i) 0 ?_ env_w rfl ?_
    · exact ⟨Nat.zero_le _, by intro j hj; omega⟩
    rintro i ⟨hi, hb0⟩
    have hI : i < x.length → FnIs Tryz.prog G 45 [.str (bytesI [(byteAt x i : Int)])] (.bool (letterB (byteAt x i))) := fun h => by
      have := ref_Is (G := G) (bytesI [(byteAt x i : Int)]) (by show 1 ≤ _; omega)
      rwa [isS_byte (byteAt_lt _ _)] at this
    have hW := ref_within (G := G) (byteAt x i : Int) 48 57
    refine xw ?_
    repeat' (first | exact Le.n | refine Lc.mk ?_ ?_)
    all_goals intros
    · refine op1_run hC hGL (rv_bytes [_] rfl (by intro v hv; simp only [List.mem_cons, List.not_mem_nil, or_false] at hv; omega) rfl rfl rfl rfl rfl rfl) rfl rfl ?_
      repeat' (first | (conv => whnf); first | refine .w ?_ | refine .v ?_ | refine sc_c ?_ ?_ <;> (intro hb; try exact dd hb) | apply sc_not | apply sc_or | (apply sc_i <;> intro hb) | (apply bx_i; intro hbd) | (apply cx_is; first | exact hI (by omega) | exact hW) | (apply cx_do (i := 0) rfl; first | exact hI (by omega) | exact hW) | (apply ab_i; intro bl) | (apply as_i; intro va vk vc hva) | (apply av_i; intro v) | (apply ac_i; intro bl cap hcap) | apply bo_l | (apply nx_i <;> intro hnx) | exact rt_w | apply dw_q mixed hC hGL (by kernel_rfl) | (apply cq; assumption; (first | exact hI (by omega) | exact hW); exact rfl))
      all_goals try conv => whnf
      · apply rt_is
        rw [Bool.and_eq_true, decide_eq_true_eq, decide_eq_true_eq] at hb
        rw [g3, pieceX_bad (by omega) (lgB_f.2 (.inr ⟨by simp; omega, by omega⟩)) hb0]
        rfl
      · rw [Bool.and_eq_false_iff, decide_eq_false_iff_not, decide_eq_false_iff_not] at hb
        refine nxt (i + 1) ?_ ?_ env_w rfl
        · refine ⟨by omega, below_succ hb0 (lgB_t.2 ⟨by assumption, fun _ => ?_⟩)⟩
          have := (letter_dig (c := (byteAt x i : Int)) (by assumption) (by have := not_mem_byte hm (j := i) (by omega); omega))
          omega
        · omega
      · refine nxt (i + 1) ?_ ?_ env_w rfl
        · exact ⟨by omega, below_succ hb0 (lgB_t.2 ⟨by assumption, fun h => by simp at h; omega⟩)⟩
        · omega
      · apply rt_is
        rw [g3, pieceX_bad (by omega) (lgB_f.2 (.inl hb)) hb0]
        rfl
    · apply rt_is
      have hp := pieceX_good (first := decide (k = 0)) (a := a) (x := x) (fun j hj => hb0 j (by omega))
      rw [if_pos (by omega)] at hp
      rw [g3, hp]
      rfl
    · apply rt_is
      have hp := pieceX_good (first := decide (k = 0)) (a := a) (x := x) (fun j hj => hb0 j (by omega))
      rw [if_neg (by omega), if_pos (by omega)] at hp
      rw [g3, hp]
      rfl
    · have hp := pieceX_good (first := decide (k = 0)) (a := a) (x := x) (fun j hj => hb0 j (by omega))
      rw [if_neg (by omega), if_neg (by omega)] at hp
      rw [hp, if_pos (show Err.none.isNone = true from rfl)] at g3
      refine nxs (k + 1, a + x.length + 1) ⟨by omega, by dsimp only; omega, ?_⟩ (by dsimp only; omega) ⟨rfl, ?_, rfl, rfl, rfl, trivial⟩ (by repeat (first | exact List.nil_sublist _ | apply List.Sublist.cons_cons | apply List.Sublist.cons))
      · dsimp only
        rw [g3]
        simp
      · exact congrArg (fun z => some (AVal.int .i64 z)) (by dsimp only; omega)
  · refine xw1 ?_
    intros
    apply rt_is
    rw [g3, List.drop_eq_nil_of_le (by omega), langE]
    rfl
end Go.Proofs.YtcoidjllehieeaaGreatDoor
namespace Go.Proofs.YtcoidjllehieeaaGreatDoor
open Go Go.RowKit
theorem spl_cut2 (c : UInt8) (s : List UInt8) : splS c s = if (Lib.cut s [c]).2.2 then (Lib.cut s [c]).1 :: splS c (Lib.cut s [c]).2.1 else [s] := by
  have h := split_splS c s
  rcases Lib.index_spec s [c] with ⟨h2, _⟩ | ⟨i, h2, _⟩
  · rw [Lib.count_miss h2] at h
    have e : Lib.cut s [c] = (s, [], false) := by unfold Lib.cut; rw [if_neg (by omega)]
    rw [e, if_neg Bool.false_ne_true, ← h]
    rfl
  · have e : Lib.cut s [c] = (s.take i, s.drop (i + 1), true) := by unfold Lib.cut; rw [if_pos (by omega), h2]; rfl
    rw [Lib.count_hit (by simp) h2, Nat.add_comm, splitK_hit h2] at h
    rw [e, if_pos rfl, ← h]
    congr 1
    exact split_splS c _
theorem dec_nodot : ∀ k : Fin 1000, (46 : UInt8) ∉ Lib.decDigits k.val := by decide +kernel
theorem cnt_nodot {m : Nat} {s : List UInt8} (hm : m ≤ 999) (h : (46 : UInt8) ∈ s) : cntB m s = false := by
  refine cntB_f.2 fun n h1 h2 h3 => ?_
  subst h3
  exact dec_nodot ⟨n, by omega⟩ h
theorem cut_in {s : List UInt8} {c : UInt8} (h : (Lib.cut s [c]).2.2 = true) : c ∈ s := by
  unfold Lib.cut at h
  split at h
  · rename_i hi
    rw [Lib.index_one] at hi
    rcases Classical.em (c ∈ s) with g | g
    · exact g
    · exfalso
      have : Lib.indexByte s c = -1 := by
        have := Lib.index_spec s [c]
        rcases this with ⟨h1, _⟩ | ⟨i, h1, h2, h3, _⟩
        · rwa [Lib.index_one] at h1
        · exfalso
          apply g
          unfold Lib.occAt at h3
          cases hd : s.drop i with
          | nil => rw [hd] at h3; simp at h3
          | cons x t =>
            rw [hd] at h3
            have : c = x := by simpa [List.isPrefixOf] using h3
            rw [this]
            exact List.mem_of_mem_drop (by rw [hd]; exact List.mem_cons_self ..)
      omega
  · cases h
def pidL (l : List (List UInt8)) : Bool := decide (l.length ≤ 2) && l.all (cntB 999)
theorem pidL_eq (v : List UInt8) : pidL (splS 46 v) = pidB v := by
  rw [spl_cut2]
  unfold pidB pidL
  cases ht : (Lib.cut v [46]).2.2 with
  | false =>
    have e : (Lib.cut v [46]).1 = v := by
      unfold Lib.cut at ht ⊢
      split at ht
      · cases ht
      · rename_i h; rw [if_neg h]
    rw [e]
    simp
  | true =>
    rw [if_pos rfl, spl_cut2]
    cases ht2 : (Lib.cut (Lib.cut v [46]).2.1 [46]).2.2 with
    | false => simp
    | true =>
      have h1 := cnt_nodot (m := 999) (Nat.le_refl _) (cut_in ht2)
      rw [h1, if_pos rfl]
      have h3 := splS_ne 46 (Lib.cut (Lib.cut v [46]).2.1 [46]).2.1
      have h4 : 0 < (splS 46 (Lib.cut (Lib.cut v [46]).2.1 [46]).2.1).length := List.length_pos_iff.2 h3
      rw [decide_eq_false (by simp only [List.length_cons]; omega)]
      simp
/-- The names of which one value is asked, with blanks between. -/
abbrev sixS : List UInt8 := [32, 86, 65, 76, 85, 69, 32, 65, 76, 84, 73, 68, 32, 77, 69, 68, 73, 65, 84, 89, 80, 69, 32, 69, 78, 67, 79, 68, 73, 78, 71, 32, 76, 65, 78, 71, 85, 65, 71, 69, 32, 80, 82, 69, 70, 32]
set_option maxRecDepth 4000
def sixB (n : List UInt8) : Bool := decide (n = nVAL ∨ n = nALT ∨ n = nMED ∨ n = nENC ∨ n = nLAN ∨ n = nPRE)
theorem pre_word : ∀ {n L : List UInt8}, (n ++ [32]).isPrefixOf L = true → (32 : UInt8) ∉ n → n = L.takeWhile (· != 32)
  | [], [], h, _ => by simp at h
  | [], x :: L, h, _ => by
    simp only [List.nil_append, List.isPrefixOf, Bool.and_true, beq_iff_eq] at h
    subst h
    simp
  | a :: n, [], h, _ => by simp at h
  | a :: n, x :: L, h, hn => by
    simp only [List.cons_append, List.isPrefixOf, Bool.and_eq_true, beq_iff_eq] at h
    obtain ⟨rfl, h⟩ := h
    have ha : a ≠ 32 := fun e => hn (by rw [e]; exact List.mem_cons_self ..)
    have := pre_word h (fun e => hn (List.mem_cons_of_mem _ e))
    rw [List.takeWhile_cons, if_pos (by simpa using ha), ← this]
theorem six_words : ∀ i : Fin 47, ∀ L, sixS.drop i.val = 32 :: L → L.takeWhile (· != 32) = [] ∨ sixB (L.takeWhile (· != 32)) = true := by
  have h : ∀ i : Fin 47, (match sixS.drop i.val with | x :: L => x != 32 || ((L.takeWhile (· != 32)).isEmpty || sixB (L.takeWhile (· != 32))) | [] => true) = true := by decide +kernel
  intro i L hL
  have := h i
  rw [hL] at this
  replace this : ((32 : UInt8) != 32 || ((L.takeWhile (· != 32)).isEmpty || sixB (L.takeWhile (· != 32)))) = true := this
  generalize L.takeWhile (· != 32) = u at *
  rw [show ((32 : UInt8) != 32) = false by decide, Bool.false_or, Bool.or_eq_true, List.isEmpty_iff] at this
  exact this
theorem six_in {n : List UInt8} (h : sixB n = true) : Lib.contains sixS (32 :: n ++ [32]) = true := by
  have h : n = nVAL ∨ n = nALT ∨ n = nMED ∨ n = nENC ∨ n = nLAN ∨ n = nPRE := of_decide_eq_true h
  rcases h with rfl | rfl | rfl | rfl | rfl | rfl <;> decide +kernel
theorem six_eq {n : List UInt8} (h0 : n ≠ []) (hn : (32 : UInt8) ∉ n) : Lib.contains sixS (32 :: n ++ [32]) = sixB n := by
  cases hb : sixB n with
  | true => exact six_in hb
  | false =>
    unfold Lib.contains
    rcases Lib.index_spec sixS (32 :: n ++ [32]) with ⟨h1, _⟩ | ⟨i, h1, h2, h3, _⟩
    · rw [h1]; rfl
    · exfalso
      unfold Lib.occAt at h3
      cases hd : sixS.drop i with
      | nil => rw [hd] at h3; simp at h3
      | cons x L =>
        rw [hd] at h3
        simp only [List.cons_append, List.isPrefixOf, Bool.and_eq_true, beq_iff_eq] at h3
        obtain ⟨rfl, h3⟩ := h3
        have e := pre_word h3 hn
        rcases six_words ⟨i, by have : sixS.length = 46 := rfl; omega⟩ L hd with h | h
        · exact h0 (e.trans h)
        · rw [← e, hb] at h; cases h
/-- A name's bytes are no blanks. -/
theorem name_noblank {s : List UInt8} (h : isS s = true) : turnS 97 122 (-32) s ≠ [] ∧ (32 : UInt8) ∉ turnS 97 122 (-32) s := by
  unfold isS at h
  simp only [Bool.and_eq_true, decide_eq_true_eq] at h
  obtain ⟨h1, h2, _⟩ := h
  refine ⟨fun e => h2 ?_, fun hm => ?_⟩
  · have := congrArg List.length e
    unfold turnS at this
    rwa [List.length_map] at this
  · unfold turnS at hm
    rw [List.mem_map] at hm
    obtain ⟨c, hc, e⟩ := hm
    unfold allB at h1
    have hl := List.all_eq_true.1 h1 c hc
    unfold letterB at hl
    have hl := of_decide_eq_true hl
    have e := congrArg UInt8.toNat e
    rw [UInt8.toNat_ofNat'] at e
    have hlt := UInt8.toNat_lt c
    unfold turnN at e
    have e32 : (32 : UInt8).toNat = 32 := rfl
    rw [e32] at e
    split at e <;> omega
end Go.Proofs.YtcoidjllehieeaaGreatDoor
namespace Go.Proofs.YtcoidjllehieeaaGreatDoor
open Go Go.RowKit
theorem strings_contains {G : Glo} {m : Int} (hU : GloAll G (maxTy m)) (s t : List UInt8) (hl : s.length < 100000) : FnIs Tryz.prog G 41 [.str s, .str t] (.bool (Lib.contains s t)) := by
  refine fnis_of_calls rfl Tryz.call41 ?_
  rintro R args ⟨x, u, e, hx, y, u', e', hy, rfl⟩ w hG hs
  obtain rfl := rel_str.1 hx
  obtain rfl := rel_str.1 hy
  subst e'
  obtain rfl := arr_of e
  refine (Tryz.strings_Contains ⟨s.toArray⟩ ⟨t.toArray⟩ m w (by show s.toArray.size < _; simp; omega) (max_cell hU hG hs)).mono ?_
  rintro e w' ⟨rfl, rfl⟩
  exact ⟨by simp [AVal.conc], Below.refl _ _⟩
end Go.Proofs.YtcoidjllehieeaaGreatDoor
namespace Go.Proofs.YtcoidjllehieeaaGreatDoor
open Go Go.RowKit
set_option maxRecDepth 20000
set_option maxHeartbeats 4000000
set_option linter.unusedSimpArgs false
set_option linter.unusedVariables false
attribute [local irreducible] AWp AOps byteAt SrcOK OrOk GloAll FnSpec
attribute [local irreducible] To
theorem ref_Fault_Is {G : Glo} (e p : Int) : FnIs Tryz.prog G 43 [.agg [.int .i64 e, .int .i64 p]] (.bool (eqB e 0)) := by
  have hGL : GloAll G [] := gloAll_nil
  refine fn_x Tryz.func43 Tryz.call43 rfl rfl rfl rfl hGL ?_
  intro C hC
  repeat' (first | (conv => whnf); first | refine .w ?_ | refine .v ?_ | refine sc_c ?_ ?_ <;> (intro hb; try exact dd hb) | apply sc_not | apply sc_or | (apply sc_i <;> intro hb) | (apply bx_i; intro hbd) | (apply cx_is; first | fail) | (apply cx_do (i := 0) rfl; first | fail) | (apply ab_i; intro bl) | (apply as_i; intro va vk vc hva) | (apply av_i; intro v) | (apply ac_i; intro bl cap hcap) | apply bo_l | (apply nx_i <;> intro hnx) | exact rt_w | apply dw_q mixed hC hGL (by kernel_rfl) | (apply cq; assumption; (first | fail); exact rfl))
  all_goals try conv => whnf
  all_goals skip
end Go.Proofs.YtcoidjllehieeaaGreatDoor
namespace Go.Proofs.YtcoidjllehieeaaGreatDoor
open Go Go.RowKit
/-- Whether a value may be a parameter's of a name. -/
def okV (n : List UInt8) (v : List UInt8) : Bool := if n = nLAN then (langX v).isNone else if n = nPRE then cntB 100 v else if n = nTYP then isS v else if n = nPID then pidB v else true
theorem fit_eq (n : List UInt8) (vs : List (List UInt8)) : fitN n vs = (decide (vs.length ≠ 0) && ((!sixB n || decide (vs.length = 1)) && vs.all (okV n))) := by
  have one : ∀ {p : List UInt8 → Bool}, vs.length = 1 → vs.all p = p (vs.getD 0 []) := fun h => by
    obtain ⟨v, rfl⟩ := List.length_eq_one_iff.1 h
    simp
  cases nmC n with
  | one h =>
    have e : ∀ v, okV n v = true := fun v => by
      unfold okV
      rcases h with rfl | rfl | rfl | rfl <;> rfl
    have e2 : vs.all (okV n) = true := List.all_eq_true.2 fun v _ => e v
    have e3 : sixB n = true := by rcases h with rfl | rfl | rfl | rfl <;> rfl
    unfold fitN
    rw [if_pos h, e2, e3]
    by_cases hv : vs.length = 1
    · simp [hv]
    · simp [hv]
  | lan h =>
    subst h
    show (decide (vs.length = 1) && (langX (vs.getD 0 [])).isNone) = _
    rw [show sixB nLAN = true from rfl]
    by_cases hv : vs.length = 1
    · rw [one hv]; simp [hv, okV]
    · simp [hv]
  | pre h =>
    subst h
    show (decide (vs.length = 1) && cntB 100 (vs.getD 0 [])) = _
    rw [show sixB nPRE = true from rfl]
    by_cases hv : vs.length = 1
    · rw [one hv]; simp [hv, okV]
    · simp [hv]
  | typ h =>
    subst h
    show (vs.all isS && decide (0 < vs.length)) = _
    rw [show sixB nTYP = false from rfl, show okV nTYP = isS from rfl]
    by_cases hv : vs.length = 0
    · simp [hv]
    · simp [hv, Nat.pos_of_ne_zero hv]
  | pid h =>
    subst h
    show (vs.all pidB && decide (0 < vs.length)) = _
    rw [show sixB nPID = false from rfl, show okV nPID = pidB from rfl]
    by_cases hv : vs.length = 0
    · simp [hv]
    · simp [hv, Nat.pos_of_ne_zero hv]
  | els h1 h2 h3 h4 h5 h6 h7 h8 =>
    have e : ∀ v, okV n v = true := fun v => by
      unfold okV
      rw [if_neg h5, if_neg h6, if_neg h7, if_neg h8]
    have e2 : vs.all (okV n) = true := List.all_eq_true.2 fun v _ => e v
    have e3 : sixB n = false := by
      unfold sixB
      exact decide_eq_false (by simp only [not_or]; exact ⟨h1, h2, h3, h4, h5, h6⟩)
    unfold fitN
    rw [if_neg (by simp only [not_or]; exact ⟨h1, h2, h3, h4⟩), if_neg h5, if_neg h6, if_neg h7, if_neg h8, e2, e3]
    by_cases hv : vs.length = 0
    · simp [hv]
    · simp [hv, Nat.pos_of_ne_zero hv]
theorem langE_nil : ∀ (b : Bool) (a : Nat) (l : List (List UInt8)), (langE b a l).isNone = eqB (langE b a l).e 0
  | b, a, [] => by unfold langE; exact (eqB_t.2 rfl).symm
  | b, a, x :: l => by
    unfold langE
    have ih := langE_nil false (a + x.length + 1) l
    have hp : pieceX b a x = .none ∨ ∃ e p, pieceX b a x = .at e p ∧ e ≠ 0 := by
      unfold pieceX
      split
      · exact .inr ⟨_, _, rfl, by decide⟩
      · split
        · exact .inr ⟨_, _, rfl, by decide⟩
        · split
          · exact .inr ⟨_, _, rfl, by decide⟩
          · exact .inl rfl
    rcases hp with h | ⟨e, p, h, he⟩
    · rw [h]; exact ih
    · rw [h]; exact (eqB_f.2 he).symm
theorem langX_nil (s : List UInt8) : (langX s).isNone = eqB (langX s).e 0 := langE_nil true 0 (splS 45 s)
set_option maxRecDepth 20000
set_option maxHeartbeats 4000000
set_option linter.unusedSimpArgs false
set_option linter.unusedVariables false
attribute [local irreducible] AWp AOps byteAt SrcOK OrOk GloAll FnSpec
attribute [local irreducible] cntB langX isS pidB splS okV sixB
theorem ref_counted {G : Glo} (hP : PowIs G) (s : List UInt8) (m : Nat) (hm : m ≤ 999) : FnIs Tryz.prog G 44 [.str s, .int .i64 (m : Int)] (.bool (cntB m s)) := by
  have hGL : GloAll G [] := gloAll_nil
  refine fn_x Tryz.func44 Tryz.call44 rfl rfl rfl rfl hGL ?_
  intro C hC
  refine xw1 ?_
  intros
  refine lp hC hGL (fun k : Nat => [(0, .str s), (1, .int .i64 (m : Int)), (5, .int .i64 (k : Int))]) (fun _ => []) (fun k => 1 ≤ k ∧ k ≤ m + 1 ∧ ∀ n, 1 ≤ n → n < k → Lib.decDigits n ≠ s) (fun k => m + 1 - k) 1 ⟨Nat.le_refl _, by omega, fun n h1 h2 => by omega⟩ env_w rfl ?_
  rintro k ⟨h1, h2, h3⟩
  by_cases hk : k ≤ m
  · have hI := strconv_Itoa (G := G) hP k (by omega)
    by_cases he : Lib.decDigits k = s
    · rw [cntB_t.2 ⟨k, h1, hk, he⟩]
      exact xw0
    · refine xw1 ?_
      intros
      refine nxt (k + 1) ⟨by omega, by omega, fun n g1 g2 => ?_⟩ (by omega) env_w rfl
      rcases Nat.lt_or_eq_of_le (Nat.le_of_lt_succ g2) with h | rfl
      · exact h3 n g1 h
      · exact he
  · rw [cntB_f.2 fun n g1 g2 => h3 n g1 (by omega)]
    exact xw0
theorem ref_Fits {G : Glo} {m : Int} (hP : PowIs G) (hM : GloAll G (maxTy m)) (q : Pr) (hq : isS q.n = true) (h0 : q.n.length ≤ 1000000) (h1 : q.vs.length ≤ 1000000) (h2 : ∀ k, (q.vs.getD k []).length ≤ 3000) : FnIs Tryz.prog G 29 [prA q] (.bool q.fit) := by
  have hU := ref_Upper (G := G) q.n (by omega)
  obtain ⟨hb1, hb2⟩ := name_noblank hq
  unfold Pr.fit
  rw [fit_eq]
  obtain ⟨nm, vs⟩ := q
  dsimp only at h0 h1 h2 hU hb1 hb2 ⊢
  have hnl : (turnS 97 122 (-32) nm).length ≤ 1000000 := by unfold turnS; rw [List.length_map]; exact h0
  clear hq
  generalize turnS 97 122 (-32) nm = n at *
  have hS := strings_contains (G := G) hM sixS (32 :: n ++ [32]) (by decide)
  rw [six_eq hb1 hb2] at hS
  by_cases hv : vs.length = 0
  · rw [decide_eq_false (by omega)]
    have hGL : GloAll G [] := gloAll_nil
    refine fn_x Tryz.func29 Tryz.call29 rfl rfl rfl rfl hGL ?_
    intro C hC
    exact xw0
  rw [decide_eq_true hv]
  by_cases hs : sixB n = true ∧ vs.length ≠ 1
  · rw [hs.1] at hS ⊢
    rw [decide_eq_false hs.2]
    have hGL : GloAll G [] := gloAll_nil
    refine fn_x Tryz.func29 Tryz.call29 rfl rfl rfl rfl hGL ?_
    intro C hC
    exact xw0
  have e1 : (!sixB n || decide (vs.length = 1)) = true := by
    rcases Bool.eq_false_or_eq_true (sixB n) with h | h
    · rw [h, decide_eq_true (Classical.not_not.1 fun g => hs ⟨h, g⟩)]; rfl
    · rw [h]; rfl
  rw [e1, Bool.true_and, Bool.true_and]
  have ok1 : ∀ {k : Nat}, k < vs.length → okV n (vs.getD k []) = true → (∀ j, j < k → okV n (vs.getD j []) = true) → ∀ j, j < k + 1 → okV n (vs.getD j []) = true := fun hk h g j hj => by
    rcases Nat.lt_or_eq_of_le (Nat.le_of_lt_succ hj) with h' | rfl
    · exact g j h'
    · exact h
  have hGL : GloAll G [] := gloAll_nil
  refine fn_a Tryz.func29 Tryz.call29 rfl rfl rfl rfl ?_
  intro C hC
  refine cut hC hGL [(1, .rop [.str nm, .list 1 vs.length (strsF vs)] 0)] [] True ?_ fun _ => ?_
  · exact xw0
  refine cut hC hGL [(1, .rop [.str nm, .list 1 vs.length (strsF vs)] 0)] [] True ?_ fun _ => ?_
  · exact xw0
  refine cut hC hGL [(1, .rop [.str nm, .list 1 vs.length (strsF vs)] 0), (3, .str n)] [] True ?_ fun _ => ?_
  · exact xw0
  refine cut hC hGL [(1, .rop [.str nm, .list 1 vs.length (strsF vs)] 0), (3, .str n)] [] True ?_ fun _ => ?_
  · cases h6 : sixB n with
    | true =>
      rw [h6] at hS hs
      have hl1 : vs.length = 1 := Classical.not_not.1 fun g => hs ⟨rfl, g⟩
      exact xw0
    | false =>
      rw [h6] at hS
      exact xw0
  refine aw_code hC hGL (xw1 ?_)
  intros
  refine lp hC hGL (fun k : Nat => [(3, .str n), (28, .list 1 vs.length (strsF vs)), (29, .int .i64 (vs.length : Int)), (30, .int .i64 (k : Int))]) (fun _ => []) (fun k => k ≤ vs.length ∧ ∀ j, j < k → okV n (vs.getD j []) = true) (fun k => vs.length - k) 0 ⟨Nat.zero_le _, fun j h => absurd h (Nat.not_lt_zero _)⟩ env_w rfl ?_
  rintro k ⟨hk1, hk2⟩
  by_cases hk : k < vs.length
  · have hl := h2 k
    have ok2 := fun h => ok1 hk h hk2
    have bad : okV n (vs.getD k []) = false → vs.all (okV n) = false := all_not hk
    have hLR := ref_LangRight hM (vs.getD k []) hl
    have hFI := ref_Fault_Is (G := G) (langX (vs.getD k [])).e (langX (vs.getD k [])).p
    have hCN := ref_counted hP (vs.getD k []) 100 (by decide)
    have hIS := ref_Is (G := G) (vs.getD k []) (by omega)
    have hSP := split_list (G := G) hM (vs.getD k []) 46 (by omega)
    have hCT := fun x => ref_counted hP x 999 (Nat.le_refl _)
    have hlE := langX_nil (vs.getD k [])
    have hpE := pidL_eq (vs.getD k [])
    have hd : okV n (vs.getD k []) = (if n = nLAN then (langX (vs.getD k [])).isNone else if n = nPRE then cntB 100 (vs.getD k []) else if n = nTYP then isS (vs.getD k []) else if n = nPID then pidB (vs.getD k []) else true) := by unfold okV; rfl
    cases nmC n with
    | one h =>
      have e : (if n = nLAN then (langX (vs.getD k [])).isNone else if n = nPRE then cntB 100 (vs.getD k []) else if n = nTYP then isS (vs.getD k []) else if n = nPID then pidB (vs.getD k []) else true) = true := by rcases h with rfl | rfl | rfl | rfl <;> rfl
      have e := ok2 (hd.trans e)
      rcases h with rfl | rfl | rfl | rfl
      all_goals
        refine xw1 ?_
        intros
        exact nxt (k + 1) ⟨by omega, e⟩ (by omega) env_w rfl
    | lan h =>
      subst h
      cases hc : (langX (vs.getD k [])).isNone with
      | true =>
        rw [hc] at hlE
        rw [← hlE] at hFI
        refine xw1 ?_
        intros
        exact nxt (k + 1) ⟨by omega, ok2 (by rw [hd]; exact hc)⟩ (by omega) env_w rfl
      | false =>
        rw [hc] at hlE
        rw [← hlE] at hFI
        rw [bad (by rw [hd]; exact hc)]
        exact xw0
    | pre h =>
      subst h
      cases hc : cntB 100 (vs.getD k []) with
      | true =>
        rw [hc] at hCN
        refine xw1 ?_
        intros
        exact nxt (k + 1) ⟨by omega, ok2 (by rw [hd]; exact hc)⟩ (by omega) env_w rfl
      | false =>
        rw [hc] at hCN
        rw [bad (by rw [hd]; exact hc)]
        exact xw0
    | typ h =>
      subst h
      cases hc : isS (vs.getD k []) with
      | true =>
        rw [hc] at hIS
        refine xw1 ?_
        intros
        exact nxt (k + 1) ⟨by omega, ok2 (by rw [hd]; exact hc)⟩ (by omega) env_w rfl
      | false =>
        rw [hc] at hIS
        rw [bad (by rw [hd]; exact hc)]
        exact xw0
    | pid h =>
      subst h
      have hln := splS_lens 46 (vs.getD k [])
      have hpd : pidL (splS 46 (vs.getD k [])) = (decide ((splS 46 (vs.getD k [])).length ≤ 2) && (splS 46 (vs.getD k [])).all (cntB 999)) := by unfold pidL; rfl
      rw [hpE] at hpd
      generalize splS 46 (vs.getD k []) = l at hln hpd hSP
      refine xw1 ?_
      intros
      refine lp hC hGL (fun j : Nat => [(3, .str nPID), (6, .bool (decide (l.length ≤ 2) && (l.take j).all (cntB 999))), (28, .list 1 vs.length (strsF vs)), (29, .int .i64 (vs.length : Int)), (30, .int .i64 (k : Int)), (55, .list 1 l.length (strsF l)), (56, .int .i64 (l.length : Int)), (57, .int .i64 (j : Int))]) (fun _ => []) (fun j => j ≤ l.length) (fun j => l.length - j) 0 (Nat.zero_le _) ⟨rfl, ?_, rfl, rfl, rfl, rfl, rfl, rfl, trivial⟩ rfl ?_
      · show Env.get _ 6 = _
        rw [List.take_zero, List.all_nil, Bool.and_true]
        exact congrArg (fun z => some (AVal.bool z)) (by unfold ltB; rw [← decide_not]; exact decide_eq_decide.2 (by omega))
      intro j hj
      by_cases hjl : j < l.length
      · have hC1 := hCT (l.getD j [])
        have e2 : (l.take (j + 1)).all (cntB 999) = ((l.take j).all (cntB 999) && cntB 999 (l.getD j [])) := by
          rw [List.take_succ_eq_append_getElem hjl, List.all_append, List.getD_eq_getElem?_getD, List.getElem?_eq_getElem hjl]
          simp
        cases hb : (decide (l.length ≤ 2) && (l.take j).all (cntB 999)) with
        | true =>
          refine xw1 ?_
          intros
          refine nxt (j + 1) (by omega) (by omega) ⟨rfl, ?_, rfl, rfl, rfl, rfl, rfl, rfl, trivial⟩ rfl
          rw [e2, ← Bool.and_assoc, hb]
          rfl
        | false =>
          refine xw1 ?_
          intros
          refine nxt (j + 1) (by omega) (by omega) ⟨rfl, ?_, rfl, rfl, rfl, rfl, rfl, rfl, trivial⟩ rfl
          rw [e2, ← Bool.and_assoc, hb]
          rfl
      · obtain rfl : j = l.length := by omega
        rw [List.take_length, ← hpd]
        cases hc : pidB (vs.getD k []) with
        | true =>
          refine xw1 ?_
          intros
          exact nxt (k + 1) ⟨by omega, ok2 (by rw [hd]; exact hc)⟩ (by omega) env_w rfl
        | false =>
          rw [bad (by rw [hd]; exact hc)]
          exact xw0
    | els h3 h4 h5 h6 h7 h8 h9 h10 =>
      have e := ok2 (by rw [hd, if_neg h7, if_neg h8, if_neg h9, if_neg h10])
      refine xw1 ?_
      intros
      exact nxt (k + 1) ⟨by omega, e⟩ (by omega) env_w rfl
  · rw [all_upto fun j hj => hk2 j (by omega)]
    exact xw0
end Go.Proofs.YtcoidjllehieeaaGreatDoor
namespace Go.Proofs.YtcoidjllehieeaaGreatDoor
open Go Go.RowKit
def numP (s : List UInt8) : Int := match Lib.atoiAll s with
  | .ok n => n
  | _ => 0
/-- What an item is worth. -/
def worthP (l : List Pr) : Int := if findP nPRE l 0 < 0 ∨ (l.getD (findP nPRE l 0).toNat Pr.z).fit = false then 101 else numP ((l.getD (findP nPRE l 0).toNat Pr.z).vs.getD 0 [])
theorem findP_hit {s : List UInt8} : ∀ {l : List Pr} {i k : Nat}, findP s l i = ((i + k : Nat) : Int) → k < l.length → turnS 97 122 (-32) (l.getD k Pr.z).n = turnS 97 122 (-32) s
  | [], i, k, _, hk => absurd hk (Nat.not_lt_zero _)
  | q :: l, i, 0, h, _ => by
    by_cases e : turnS 97 122 (-32) q.n = turnS 97 122 (-32) s
    · exact e
    · simp only [findP, if_neg e] at h
      rcases findP_cases s l (i + 1) with g | ⟨k, _, g⟩ <;> omega
  | q :: l, i, k + 1, h, hk => by
    by_cases e : turnS 97 122 (-32) q.n = turnS 97 122 (-32) s
    · simp only [findP, if_pos e] at h; omega
    · simp only [findP, if_neg e] at h
      have := findP_hit (s := s) (l := l) (i := i + 1) (k := k) (by rw [h]; omega) (by simpa using hk)
      simpa using this
theorem up_name {n : List UInt8} (h : turnS 97 122 (-32) n = nPRE) : isS n = true := by
  have hl : n.length = 4 := by have := congrArg List.length h; unfold turnS at this; rwa [List.length_map] at this
  unfold isS allB
  rw [List.all_eq_true.2 ?_]
  · simp [hl]
  intro c hc
  have hm : UInt8.ofNat (turnN 97 122 (-32) c.toNat).toNat ∈ nPRE := by
    rw [← h]; unfold turnS; exact List.mem_map.2 ⟨c, hc, rfl⟩
  have hlt := c.toNat_lt
  have hm2 : (UInt8.ofNat (turnN 97 122 (-32) c.toNat).toNat).toNat = 80 ∨ (UInt8.ofNat (turnN 97 122 (-32) c.toNat).toNat).toNat = 82 ∨ (UInt8.ofNat (turnN 97 122 (-32) c.toNat).toNat).toNat = 69 ∨ (UInt8.ofNat (turnN 97 122 (-32) c.toNat).toNat).toNat = 70 := by
    simp only [List.mem_cons, List.not_mem_nil, or_false] at hm
    rcases hm with e | e | e | e <;> rw [e] <;> decide
  rw [UInt8.toNat_ofNat'] at hm2
  rw [letterB_t]
  unfold turnN at hm2
  split at hm2 <;> omega
theorem up_pre : turnS 97 122 (-32) nPRE = nPRE := by decide
theorem pre_fit {q : Pr} (h : turnS 97 122 (-32) q.n = nPRE) (hf : q.fit = true) : q.vs.length = 1 ∧ ∃ n : Nat, 1 ≤ n ∧ n ≤ 100 ∧ Lib.atoiAll (q.vs.getD 0 []) = .ok (n : Int) := by
  unfold Pr.fit at hf
  rw [h] at hf
  replace hf : (decide (q.vs.length = 1) && cntB 100 (q.vs.getD 0 [])) = true := hf
  rw [Bool.and_eq_true, decide_eq_true_eq] at hf
  obtain ⟨n, h1, h2, h3⟩ := cntB_t.1 hf.2
  refine ⟨hf.1, n, h1, h2, ?_⟩
  have := atoi_num ⟨n, by omega⟩
  rwa [h3] at this
theorem worthP_bnd (l : List Pr) : 1 ≤ worthP l ∧ worthP l ≤ 101 := by
  unfold worthP
  split
  · decide
  · rename_i h
    simp only [not_or, Bool.not_eq_false] at h
    rcases findP_cases nPRE l 0 with g | ⟨k, hk, g⟩
    · omega
    · have e : (findP nPRE l 0).toNat = k := by omega
      rw [e] at h ⊢
      have h1 := findP_hit g hk
      rw [up_pre] at h1
      obtain ⟨_, n, h2, h3, h4⟩ := pre_fit h1 h.2
      unfold numP
      rw [h4]
      dsimp only
      omega
set_option maxRecDepth 20000
set_option maxHeartbeats 4000000
set_option linter.unusedSimpArgs false
set_option linter.unusedVariables false
attribute [local irreducible] AWp AOps byteAt SrcOK OrOk GloAll FnSpec
attribute [local irreducible] findP Pr.fit numP itsF
theorem pick_worth {G : Glo} {m : Int} (hE : ErrsG G) (hP : PowIs G) (hM : GloAll G (maxTy m)) (x : Itm) (hx : Itm.OK 2500 x) : FnIs Tryz.prog G 20 [itR x] (.int .i64 (worthP x.1.ps)) := by
  have hq := hx.p.q
  have hl := hx.p.ps
  have hF := rules_Find (G := G) x.1.ps nPRE (by change x.1.ps.length ≤ _ at hl; omega) (fun k => by have := (hq k).1; change (x.1.ps.getD k Pr.z).n.length ≤ _ at this; omega) (by decide)
  unfold worthP
  rcases findP_cases nPRE x.1.ps 0 with g | ⟨k, hk, g⟩
  · rw [g] at hF ⊢
    rw [if_pos (.inl (by decide))]
    have hGL : GloAll G [] := gloAll_nil
    refine fn_x Tryz.func20 Tryz.call20 rfl rfl rfl rfl hGL ?_
    intro C hC
    exact xw0
  · have e : (findP nPRE x.1.ps 0).toNat = k := by omega
    have h1 := findP_hit g hk
    rw [up_pre] at h1
    rw [g] at hF ⊢
    have hqk := hq k
    change (x.1.ps.getD k Pr.z).n.length ≤ 2500 ∧ (x.1.ps.getD k Pr.z).vs.length ≤ 2500 ∧ Lib.lens (x.1.ps.getD k Pr.z).vs ≤ 2500 at hqk
    have hlv : ∀ j, ((x.1.ps.getD k Pr.z).vs.getD j []).length ≤ 2500 := fun j => by
      have := lens_at (l := (x.1.ps.getD k Pr.z).vs) (k := j); omega
    have hR := rules_Fits hE hP hM (x.1.ps.getD k Pr.z) (by omega) (by omega) (fun j => by have := hlv j; omega)
    rw [show ((0 + k : Nat) : Int) = (k : Int) by omega] at hF ⊢
    rw [show ((k : Int)).toNat = k by omega]
    cases hf : (x.1.ps.getD k Pr.z).fit with
    | false =>
      rw [if_pos (.inr rfl)]
      rw [hf] at hR
      have hGL : GloAll G [] := gloAll_nil
      refine fn_x Tryz.func20 Tryz.call20 rfl rfl rfl rfl hGL ?_
      intro C hC
      exact xw0
    | true =>
      rw [if_neg (by simp)]
      rw [hf] at hR
      obtain ⟨hv1, n, h2, h3, h4⟩ := pre_fit h1 hf
      have hA := strconv_Atoi hE ((x.1.ps.getD k Pr.z).vs.getD 0 []) (by have := hlv 0; omega)
      have en : numP ((x.1.ps.getD k Pr.z).vs.getD 0 []) = n := by unfold numP; rw [h4]
      rw [en]
      have hGL : GloAll G [] := gloAll_nil
      refine fn_x Tryz.func20 Tryz.call20 rfl rfl rfl rfl hGL ?_
      intro C hC
      refine xw1 ?_
      intros
      refine cx_any hA ?_
      rintro a (⟨i, rfl, h⟩ | ⟨i, t, v, rfl, h⟩)
      · rw [h4] at h
        cases h
        exact xw0
      · exact absurd h4 (h _)
theorem ref_worth {G : Glo} {m : Int} (hE : ErrsG G) (hP : PowIs G) (hM : GloAll G (maxTy m)) (x : Itm) (hx : Itm.OK 2500 x) : FnIs Tryz.prog G 16 [itR x] (.int .i64 (worthP x.1.ps)) := by
  have hq := hx.p.q
  have hl := hx.p.ps
  have hF := ref_Find (G := G) x.1.ps nPRE (by change x.1.ps.length ≤ _ at hl; omega) (fun k => by have := (hq k).1; change (x.1.ps.getD k Pr.z).n.length ≤ _ at this; omega) (by decide)
  unfold worthP
  rcases findP_cases nPRE x.1.ps 0 with g | ⟨k, hk, g⟩
  · rw [g] at hF ⊢
    rw [if_pos (.inl (by decide))]
    have hGL : GloAll G [] := gloAll_nil
    refine fn_x Tryz.func16 Tryz.call16 rfl rfl rfl rfl hGL ?_
    intro C hC
    exact xw0
  · have h1 := findP_hit g hk
    rw [up_pre] at h1
    rw [g] at hF ⊢
    have hqk := hq k
    change (x.1.ps.getD k Pr.z).n.length ≤ 2500 ∧ (x.1.ps.getD k Pr.z).vs.length ≤ 2500 ∧ Lib.lens (x.1.ps.getD k Pr.z).vs ≤ 2500 at hqk
    have hlv : ∀ j, ((x.1.ps.getD k Pr.z).vs.getD j []).length ≤ 2500 := fun j => by
      have := lens_at (l := (x.1.ps.getD k Pr.z).vs) (k := j); omega
    have hR := ref_Fits hP hM (x.1.ps.getD k Pr.z) (up_name h1) (by omega) (by omega) (fun j => by have := hlv j; omega)
    rw [show ((0 + k : Nat) : Int) = (k : Int) by omega] at hF ⊢
    rw [show ((k : Int)).toNat = k by omega]
    cases hf : (x.1.ps.getD k Pr.z).fit with
    | false =>
      rw [if_pos (.inr rfl)]
      rw [hf] at hR
      have hGL : GloAll G [] := gloAll_nil
      refine fn_x Tryz.func16 Tryz.call16 rfl rfl rfl rfl hGL ?_
      intro C hC
      exact xw0
    | true =>
      rw [if_neg (by simp)]
      rw [hf] at hR
      obtain ⟨hv1, n, h2, h3, h4⟩ := pre_fit h1 hf
      have hA := strconv_Atoi hE ((x.1.ps.getD k Pr.z).vs.getD 0 []) (by have := hlv 0; omega)
      have en : numP ((x.1.ps.getD k Pr.z).vs.getD 0 []) = n := by unfold numP; rw [h4]
      rw [en]
      have hGL : GloAll G [] := gloAll_nil
      refine fn_x Tryz.func16 Tryz.call16 rfl rfl rfl rfl hGL ?_
      intro C hC
      refine xw1 ?_
      intros
      refine cx_any hA ?_
      rintro a (⟨i, rfl, h⟩ | ⟨i, t, v, rfl, h⟩)
      · rw [h4] at h
        cases h
        exact xw0
      · exact absurd h4 (h _)
end Go.Proofs.YtcoidjllehieeaaGreatDoor
namespace Go.Proofs.YtcoidjllehieeaaGreatDoor
/-- The order of numbers by what they are worth, then as they stand. -/
def lexL (w : Nat → Int) (x y : Nat) : Prop := w x < w y ∨ (w x = w y ∧ x < y)
def lexB (w : Nat → Int) (x y : Nat) : Bool := decide (w x < w y) || (decide (w x = w y) && decide (x ≤ y))
def srt (w : Nat → Int) (L : List Nat) : List Nat := L.mergeSort (lexB w)
section
variable {w : Nat → Int} {x y z : Nat} {L S U V : List Nat}
theorem lexL_trans (h : lexL w x y) (k : lexL w y z) : lexL w x z := by unfold lexL at *; omega
theorem lexB_iff : lexB w x y = true ↔ lexL w x y ∨ x = y := by
  unfold lexB lexL
  simp only [Bool.or_eq_true, Bool.and_eq_true, decide_eq_true_eq]
  constructor
  · rintro (h | ⟨h, k⟩)
    · exact .inl (.inl h)
    · by_cases e : x = y
      · exact .inr e
      · exact .inl (.inr ⟨h, by omega⟩)
  · rintro ((h | h) | rfl)
    · exact .inl h
    · exact .inr ⟨h.1, by omega⟩
    · exact .inr ⟨rfl, Nat.le_refl _⟩
theorem srt_perm : (srt w L).Perm L := List.mergeSort_perm ..
theorem srt_pw : (srt w L).Pairwise (fun x y => lexB w x y = true) := by
  refine List.pairwise_mergeSort ?_ ?_ L
  · intro a b c h k
    rw [lexB_iff] at *
    rcases h with h | rfl
    · rcases k with k | rfl
      · exact .inl (lexL_trans h k)
      · exact .inl h
    · exact k
  · intro a b
    rw [Bool.or_eq_true, lexB_iff, lexB_iff]
    unfold lexL
    omega
/-- What is in order is what the order makes of it. -/
theorem srt_eq (hp : S.Perm L) (hs : S.Pairwise (lexL w)) : srt w L = S := by
  refine List.Perm.eq_of_pairwise (le := fun x y => lexB w x y = true) ?_ srt_pw (hs.imp fun h => lexB_iff.2 (.inl h)) (srt_perm.trans hp.symm)
  intro a b _ _ h k
  rw [lexB_iff] at h k
  unfold lexL at h k
  omega
theorem srt_self (hs : S.Pairwise (lexL w)) : srt w S = S := srt_eq (List.Perm.refl _) hs
theorem srt_of_perm (h : U.Perm V) : srt w U = srt w V := by
  refine List.Perm.eq_of_pairwise (le := fun x y => lexB w x y = true) ?_ srt_pw srt_pw (srt_perm.trans (h.trans srt_perm.symm))
  intro a b _ _ h k
  rw [lexB_iff] at h k
  unfold lexL at h k
  omega
/-- Numbers that differ. -/
theorem srt_strict (hn : L.Nodup) : (srt w L).Pairwise (lexL w) := by
  have h1 : (srt w L).Nodup := (srt_perm (w := w) (L := L)).nodup_iff.2 hn
  have h2 := srt_pw (w := w) (L := L)
  refine (List.Pairwise.and h2 h1).imp ?_
  rintro a b ⟨h, k⟩
  rcases lexB_iff.1 h with h | h
  · exact h
  · exact absurd h k
theorem srt_length : (srt w L).length = L.length := srt_perm.length_eq
theorem srt_mem : x ∈ srt w L ↔ x ∈ L := srt_perm.mem_iff
/-- Two halves, each of which is put in order, the one ahead of the other. -/
theorem srt_append (h : ∀ x ∈ U, ∀ y ∈ V, lexL w x y) (hu : U.Nodup) (hv : V.Nodup) : srt w (U ++ V) = srt w U ++ srt w V := by
  refine srt_eq (srt_perm.append srt_perm) ?_
  rw [List.pairwise_append]
  exact ⟨srt_strict hu, srt_strict hv, fun a ha b hb => h a (srt_mem.1 ha) b (srt_mem.1 hb)⟩
end
/-- All numbers of the one row are less than those of the other. -/
def Low (U V : List Nat) : Prop := ∀ x ∈ U, ∀ y ∈ V, x < y
section
variable {w : Nat → Int} {x y z : Nat} {L S U V : List Nat}
theorem getD_at {i : Nat} (h : i < L.length) : L.getD i 0 = L[i] := by rw [List.getD_eq_getElem?_getD, List.getElem?_eq_getElem h]; rfl
theorem take_drop_perm (s e : Nat) : (U.take s ++ V.take e ++ (U.drop s ++ V.drop e)).Perm (U ++ V) := by
  have h1 : (U.take s ++ V.take e ++ (U.drop s ++ V.drop e)).Perm (U.take s ++ U.drop s ++ (V.take e ++ V.drop e)) := by
    rw [List.append_assoc, List.append_assoc]
    refine List.Perm.append_left _ ?_
    rw [← List.append_assoc, ← List.append_assoc]
    exact List.Perm.append_right _ List.perm_append_comm
  rwa [List.take_append_drop, List.take_append_drop] at h1
theorem low_nodup (hu : U.Pairwise (lexL w)) (hv : V.Pairwise (lexL w)) (h : Low U V) : (U ++ V).Nodup := by
  have ne : ∀ {a b : Nat}, lexL w a b → a ≠ b := by rintro a b h rfl; unfold lexL at h; omega
  rw [List.nodup_iff_pairwise_ne, List.pairwise_append]
  exact ⟨hu.imp ne, hv.imp ne, fun a ha b hb => Nat.ne_of_lt (h a ha b hb)⟩
/-- Where the one number goes. -/
theorem sym_left (i : Nat) (hv : V.Pairwise (lexL w)) (hl : Low [x] V) (h1 : ∀ v ∈ V.take i, w v < w x) (h2 : ∀ v ∈ V.drop i, w x ≤ w v) : srt w (x :: V) = V.take i ++ x :: V.drop i := by
  refine srt_eq ?_ ?_
  · refine List.perm_middle.trans ?_
    rw [List.take_append_drop]
  · rw [List.pairwise_append, List.pairwise_cons]
    have hv' := hv
    rw [← List.take_append_drop i V, List.pairwise_append] at hv'
    refine ⟨hv'.1, ⟨fun v hm => ?_, hv'.2.1⟩, fun a ha b hb => ?_⟩
    · have g := hl x (List.mem_singleton.2 rfl) v (List.mem_of_mem_drop hm)
      have := h2 v hm
      unfold lexL; omega
    · rcases List.mem_cons.1 hb with rfl | hb
      · exact .inl (h1 a ha)
      · exact hv'.2.2 a ha b hb
theorem sym_right (i : Nat) (hu : U.Pairwise (lexL w)) (hl : Low U [y]) (h1 : ∀ u ∈ U.take i, w u ≤ w y) (h2 : ∀ u ∈ U.drop i, w y < w u) : srt w (U ++ [y]) = U.take i ++ y :: U.drop i := by
  refine srt_eq ?_ ?_
  · refine List.perm_middle.trans ?_
    rw [List.take_append_drop]
    exact (List.perm_append_singleton y U).symm
  · rw [List.pairwise_append, List.pairwise_cons]
    have hu' := hu
    rw [← List.take_append_drop i U, List.pairwise_append] at hu'
    refine ⟨hu'.1, ⟨fun v hm => .inl (h2 v hm), hu'.2.1⟩, fun a ha b hb => ?_⟩
    · rcases List.mem_cons.1 hb with rfl | hb
      · have := hl a (List.mem_of_mem_take ha) b (List.mem_singleton.2 rfl)
        have := h1 a ha
        unfold lexL; omega
      · exact hu'.2.2 a ha b hb
theorem sym_split (s e : Nat) (hu : U.Pairwise (lexL w)) (hv : V.Pairwise (lexL w)) (hl : Low U V) (h1 : ∀ u ∈ U.take s, ∀ v ∈ V.drop e, w u ≤ w v) (h2 : ∀ v ∈ V.take e, ∀ u ∈ U.drop s, w v < w u) :
    srt w (U ++ V) = srt w (U.take s ++ V.take e) ++ srt w (U.drop s ++ V.drop e) := by
  have hu' := hu
  have hv' := hv
  rw [← List.take_append_drop s U, List.pairwise_append] at hu'
  rw [← List.take_append_drop e V, List.pairwise_append] at hv'
  have l1 : Low (U.take s) (V.take e) := fun a ha b hb => hl a (List.mem_of_mem_take ha) b (List.mem_of_mem_take hb)
  have l2 : Low (U.drop s) (V.drop e) := fun a ha b hb => hl a (List.mem_of_mem_drop ha) b (List.mem_of_mem_drop hb)
  rw [← srt_append ?_ (low_nodup hu'.1 hv'.1 l1) (low_nodup hu'.2.1 hv'.2.1 l2)]
  · exact srt_of_perm (take_drop_perm s e).symm
  · intro a ha b hb
    rcases List.mem_append.1 ha with ha | ha <;> rcases List.mem_append.1 hb with hb | hb
    · exact hu'.2.2 a ha b hb
    · have := h1 a ha b hb
      have := hl a (List.mem_of_mem_take ha) b (List.mem_of_mem_drop hb)
      unfold lexL; omega
    · exact .inl (h2 a ha b hb)
    · exact hv'.2.2 a ha b hb
/-- What stands further on is worth no less. -/
theorem pw_le (h : L.Pairwise (lexL w)) {i j : Nat} (hij : i ≤ j) (hj : j < L.length) : w (L.getD i 0) ≤ w (L.getD j 0) := by
  rw [getD_at (by omega), getD_at hj]
  rcases Nat.lt_or_eq_of_le hij with h1 | rfl
  · have := List.pairwise_iff_getElem.1 h i j (by omega) hj h1
    unfold lexL at this; omega
  · exact Int.le_refl _
theorem mem_take_iff {i : Nat} (h : x ∈ L.take i) : ∃ k, k < i ∧ k < L.length ∧ L.getD k 0 = x := by
  obtain ⟨k, hk, rfl⟩ := List.getElem_of_mem h
  rw [List.length_take] at hk
  exact ⟨k, by omega, by omega, by rw [getD_at (by omega)]; simp⟩
theorem mem_drop_iff {i : Nat} (h : x ∈ L.drop i) : ∃ k, i ≤ k ∧ k < L.length ∧ L.getD k 0 = x := by
  obtain ⟨k, hk, rfl⟩ := List.getElem_of_mem h
  rw [List.length_drop] at hk
  exact ⟨i + k, by omega, by omega, by rw [getD_at (by omega)]; simp⟩
/-- The same, by the tests at the split alone. -/
theorem sym_at (s e : Nat) (hu : U.Pairwise (lexL w)) (hv : V.Pairwise (lexL w)) (hl : Low U V) (hs : s ≤ U.length) (he : e ≤ V.length)
    (h1 : 0 < s → e < V.length → w (U.getD (s - 1) 0) ≤ w (V.getD e 0)) (h2 : 0 < e → s < U.length → w (V.getD (e - 1) 0) < w (U.getD s 0)) :
    srt w (U ++ V) = srt w (U.take s ++ V.take e) ++ srt w (U.drop s ++ V.drop e) := by
  refine sym_split s e hu hv hl ?_ ?_
  · intro u hu1 v hv1
    obtain ⟨i, hi, hi2, rfl⟩ := mem_take_iff hu1
    obtain ⟨j, hj, hj2, rfl⟩ := mem_drop_iff hv1
    have := h1 (by omega) (by omega)
    have := pw_le hu (i := i) (j := s - 1) (by omega) (by omega)
    have := pw_le hv hj hj2
    omega
  · intro v hv1 u hu1
    obtain ⟨j, hj, hj2, rfl⟩ := mem_take_iff hv1
    obtain ⟨i, hi, hi2, rfl⟩ := mem_drop_iff hu1
    have := h2 (by omega) (by omega)
    have := pw_le hv (i := j) (j := e - 1) (by omega) (by omega)
    have := pw_le hu hi hi2
    omega
end
/-- Two places changed with each other. -/
def swp (L : List Nat) (i j : Nat) : List Nat := (L.set i (L.getD j 0)).set j (L.getD i 0)
theorem swp_at {P M Q : List Nat} {x y i j : Nat} (hi : i = P.length) (hj : j = P.length + 1 + M.length) : swp (P ++ x :: (M ++ y :: Q)) i j = P ++ y :: (M ++ x :: Q) := by
  subst hi hj
  have e1 : (P ++ x :: (M ++ y :: Q)).getD P.length 0 = x := by simp
  have e2 : (P ++ x :: (M ++ y :: Q)).getD (P.length + 1 + M.length) 0 = y := by
    rw [List.getD_eq_getElem?_getD, List.getElem?_append_right (by omega), show P.length + 1 + M.length - P.length = M.length + 1 by omega, List.getElem?_cons_succ, List.getElem?_append_right (Nat.le_refl _), Nat.sub_self]
    rfl
  unfold swp
  rw [e1, e2]
  have e3 : (P ++ x :: (M ++ y :: Q)).set P.length y = P ++ y :: (M ++ y :: Q) := by
    rw [List.set_append_right _ _ (Nat.le_refl _), Nat.sub_self]; rfl
  rw [e3, List.set_append_right _ _ (by omega), show P.length + 1 + M.length - P.length = M.length + 1 by omega, List.set_cons_succ, List.set_append_right _ _ (Nat.le_refl _), Nat.sub_self]
  rfl
/-- Two rows changed with each other, the first so many of them. -/
def srL (P X M Y Q : List Nat) (i : Nat) : List Nat := P ++ ((Y.take i ++ X.drop i) ++ (M ++ ((X.take i ++ Y.drop i) ++ Q)))
theorem srL_0 {P X M Y Q : List Nat} : srL P X M Y Q 0 = P ++ (X ++ (M ++ (Y ++ Q))) := rfl
theorem srL_end {P X M Y Q : List Nat} {i : Nat} (hx : X.length = i) (hy : Y.length = i) : srL P X M Y Q i = P ++ (Y ++ (M ++ (X ++ Q))) := by
  unfold srL
  rw [List.take_of_length_le (by omega), List.drop_of_length_le (by omega), List.take_of_length_le (by omega), List.drop_of_length_le (by omega), List.append_nil, List.append_nil]
theorem srL_next {P X M Y Q : List Nat} {i : Nat} (hx : i < X.length) (hy : Y.length = X.length) : swp (srL P X M Y Q i) (P.length + i) (P.length + X.length + M.length + i) = srL P X M Y Q (i + 1) := by
  have hy' : i < Y.length := by omega
  unfold srL
  rw [List.drop_eq_getElem_cons hx, List.drop_eq_getElem_cons hy', List.take_succ_eq_append_getElem hx, List.take_succ_eq_append_getElem hy']
  have e := swp_at (P := P ++ Y.take i) (M := X.drop (i + 1) ++ (M ++ X.take i)) (Q := Y.drop (i + 1) ++ Q) (x := X[i]) (y := Y[i]) (i := P.length + i) (j := P.length + X.length + M.length + i) (by rw [List.length_append, List.length_take]; omega) (by rw [List.length_append, List.length_append, List.length_append, List.length_take, List.length_drop, List.length_take]; omega)
  simp only [List.append_assoc, List.cons_append, List.nil_append] at e ⊢
  exact e
theorem srL_length {P X M Y Q : List Nat} {i : Nat} (hx : i ≤ X.length) (hy : Y.length = X.length) : (srL P X M Y Q i).length = P.length + X.length + M.length + Y.length + Q.length := by
  simp only [srL, List.length_append, List.length_take, List.length_drop]
  omega
theorem swp_comm {L : List Nat} {i j : Nat} (h : i ≠ j) : swp L i j = swp L j i := by
  unfold swp
  exact List.set_comm _ _ h
section
variable {w : Nat → Int} {x y z : Nat} {L S U V A B : List Nat}
theorem getD_mem {i : Nat} (h : i < L.length) : L.getD i 0 ∈ L := by rw [getD_at h]; exact List.getElem_mem h
theorem ins_end {k : Nat} (hk : k < S.length) (hS : S.Pairwise (· < ·)) (e : srt w (S.take k) = A ++ B) (h1 : 0 < A.length → w (A.getD (A.length - 1) 0) ≤ w (S.getD k 0)) (h2 : ∀ u ∈ B, w (S.getD k 0) < w u) : srt w (S.take (k + 1)) = A ++ S.getD k 0 :: B := by
  have hx : S.getD k 0 = S[k] := getD_at hk
  have hS' : (S.take k ++ [S[k]]).Pairwise (· < ·) := by
    rw [← List.take_succ_eq_append_getElem hk]
    exact hS.sublist (List.take_sublist _ _)
  rw [List.pairwise_append] at hS'
  have hn : (S.take k).Nodup := by
    rw [List.nodup_iff_pairwise_ne]
    exact hS'.1.imp Nat.ne_of_lt
  have hs : (A ++ B).Pairwise (lexL w) := e ▸ srt_strict hn
  have hl : Low (A ++ B) [S.getD k 0] := by
    intro a ha b hb
    rw [List.mem_singleton.1 hb, hx]
    rw [← e, srt_mem] at ha
    exact hS'.2.2 a ha _ (List.mem_singleton.2 rfl)
  have h3 := sym_right (w := w) (y := S.getD k 0) A.length hs hl (by
    intro u hu
    rw [List.take_left'  rfl] at hu
    obtain ⟨i, _, hi, rfl⟩ := mem_take_iff (i := A.length) (by rwa [List.take_length])
    have := pw_le (List.pairwise_append.1 hs).1 (i := i) (j := A.length - 1) (by omega) (by omega)
    have := h1 (by omega)
    omega) (by rw [List.drop_left' rfl]; exact h2)
  rw [List.take_left' rfl, List.drop_left' rfl] at h3
  rw [← h3, List.take_succ_eq_append_getElem hk, hx]
  exact srt_of_perm ((e ▸ srt_perm (w := w) (L := S.take k)).symm.append_right _)
/-- Rows of so many, each put in order. -/
def bS (w : Nat → Int) (s : Nat) : Nat → List Nat → List Nat
  | 0, L => srt w L
  | k + 1, L => if L.length ≤ s then srt w L else srt w (L.take s) ++ bS w s k (L.drop s)
theorem bS_short {s k : Nat} (h : L.length ≤ s) : bS w s k L = srt w L := by
  cases k with
  | zero => rfl
  | succ k => unfold bS; rw [if_pos h]
theorem bS_long {s k : Nat} (h : s < L.length) : bS w s (k + 1) L = srt w (L.take s) ++ bS w s k (L.drop s) := by
  conv => lhs; unfold bS
  rw [if_neg (by omega)]
theorem bS_fuel {s : Nat} (hs : 0 < s) : ∀ (k j : Nat) {L : List Nat}, L.length ≤ k → L.length ≤ j → bS w s k L = bS w s j L
  | 0, j, L, hk, hj => by rw [bS_short (by omega), bS_short (by omega)]
  | k + 1, j, L, hk, hj => by
    by_cases h : L.length ≤ s
    · rw [bS_short h, bS_short h]
    · cases j with
      | zero => omega
      | succ j =>
        rw [bS_long (by omega), bS_long (by omega), bS_fuel hs k j (by rw [List.length_drop]; omega) (by rw [List.length_drop]; omega)]
theorem bS_length {s : Nat} : ∀ (k : Nat) {L : List Nat}, (bS w s k L).length = L.length
  | 0, L => srt_length
  | k + 1, L => by
    unfold bS
    split
    · exact srt_length
    · rw [List.length_append, srt_length, bS_length k, List.length_take, List.length_drop]; omega
/-- Two rows of the half. -/
theorem bS_two {s k : Nat} (hs : 0 < s) (h : s < L.length) (hk : L.length ≤ k) : bS w s k L = srt w (L.take s) ++ bS w s k (L.drop s) := by
  cases k with
  | zero => omega
  | succ k => rw [bS_long h, bS_fuel hs k (k + 1) (by rw [List.length_drop]; omega) (by rw [List.length_drop]; omega)]
end
end Go.Proofs.YtcoidjllehieeaaGreatDoor
namespace Go.Proofs.YtcoidjllehieeaaGreatDoor
open Go Go.RowKit
def natsC (L : List Nat) : List AVal := L.map fun x : Nat => AVal.int .i64 (x : Int)
theorem natsC_len {L : List Nat} : (natsC L).length = L.length := List.length_map _
theorem natsC_get {L : List Nat} {i : Nat} (h : i < L.length) : (natsC L)[i]? = some (.int .i64 (L.getD i 0 : Nat)) := by
  rw [getD_at h, natsC, List.getElem?_map, List.getElem?_eq_getElem h]; rfl
theorem natsC_put {L : List Nat} {i y : Nat} (h : i < L.length) : (natsC L).take i ++ [AVal.int .i64 (y : Int)] ++ (natsC L).drop (i + 1) = natsC (L.set i y) := by
  unfold natsC
  rw [List.map_set, List.set_eq_take_append_cons_drop, if_pos (by simpa using h)]
  simp
/-- What two writes leave. -/
theorem natsC_swp {L : List Nat} {i j : Nat} (hi : i < L.length) (hj : j < L.length) : ((natsC L).take i ++ [AVal.int .i64 (L.getD j 0 : Nat)] ++ (natsC L).drop (i + 1)).take j ++ [AVal.int .i64 (L.getD i 0 : Nat)] ++ ((natsC L).take i ++ [AVal.int .i64 (L.getD j 0 : Nat)] ++ (natsC L).drop (i + 1)).drop (j + 1) = natsC (swp L i j) := by
  rw [natsC_put hi, natsC_put (by simpa using hj)]; rfl
abbrev rwN (eT : Option TypeId) (b m cap : Nat) (L : List Nat) : HEnt := .row (.slice (some ⟨b, 0, none⟩) m cap) eT 1 m (natsC L)
abbrev vlN (b m cap : Nat) : Value := .slice (some ⟨b, 0, none⟩) m cap
set_option maxRecDepth 20000
set_option maxHeartbeats 4000000
set_option linter.unusedSimpArgs false
set_option linter.unusedVariables false
attribute [local irreducible] AWp AOps byteAt SrcOK OrOk GloAll FnSpec
attribute [local irreducible] natsC srL swp
theorem swap_range {G : Glo} (f : Nat) (cc : List AVal) (eT : Option TypeId) (b m cap : Nat) (i1 j1 k1 : Int) (L L' P X M Y Q : List Nat) (hL : L = P ++ (X ++ (M ++ (Y ++ Q)))) (hL' : L' = P ++ (Y ++ (M ++ (X ++ Q)))) (hm : m = P.length + X.length + M.length + Y.length + Q.length) (hY : Y.length = X.length) (hi1 : i1 = P.length) (hj1 : j1 = P.length + X.length + M.length) (hk1 : k1 = X.length) (hml : m ≤ 1000000) :
    FnSpec Tryz.prog G 91 [.raw (vlN b m cap), .int .i64 i1, .int .i64 j1, .int .i64 k1, .func (.func f) [] [.rop cc 0]] [rwN eT b m cap L] (fun r H => r = .ret (.tuple []) ∧ H = [rwN eT b m cap L']) := by
  obtain ⟨i0, hi⟩ : ∃ i, i = P.length := ⟨_, rfl⟩
  obtain ⟨j0, hj⟩ : ∃ i, i = P.length + X.length + M.length := ⟨_, rfl⟩
  obtain ⟨k, hk⟩ : ∃ i, i = X.length := ⟨_, rfl⟩
  obtain rfl : i1 = (i0 : Nat) := by omega
  obtain rfl : j1 = (j0 : Nat) := by omega
  obtain rfl : k1 = (k : Nat) := by omega
  rw [hL, hL', ← srL_0, ← srL_end (i := k) hk.symm (by omega)]
  have hGL : GloAll G [] := gloAll_nil
  refine fn_own [(0, 0, vlN b m cap)] Tryz.func91 Tryz.call91 rfl rfl rfl rfl (by repeat (first | exact trivial | refine And.intro ⟨rfl, rfl⟩ ?_)) ?_
  intro C hC
  refine aw_code hC hGL (xn1 ?_)
  refine lp hC hGL (fun i : Nat => [(0, .own 0 (vlN b m cap)), (1, .int .i64 (i0 : Int)), (2, .int .i64 (j0 : Int)), (3, .int .i64 (k : Int)), (10, .int .i64 (i : Int))]) (fun i => [rwN eT b m cap (srL P X M Y Q i)]) (fun i => i ≤ k) (fun i => k - i) 0 (Nat.zero_le _) env_w rfl ?_
  intro i hik
  by_cases hlt : i < k
  · have hlen := srL_length (P := P) (X := X) (M := M) (Y := Y) (Q := Q) (i := i) (by omega) hY
    have e := srL_next (P := P) (X := X) (M := M) (Y := Y) (Q := Q) (i := i) (by omega) hY
    rw [← hj, ← hi] at e
    have g1 := natsC_get (L := srL P X M Y Q i) (i := i0 + i) (by omega)
    have g2 := natsC_get (L := srL P X M Y Q i) (i := j0 + i) (by omega)
    have e2 := natsC_swp (L := srL P X M Y Q i) (i := i0 + i) (j := j0 + i) (by omega) (by omega)
    rw [e] at e2
    refine xn1 ?_
    intros
    refine dw_p mixed hC hGL false (fun _ : Unit => [(0, .own 0 (vlN b m cap)), (1, .int .i64 (i0 : Int)), (2, .int .i64 (j0 : Int)), (3, .int .i64 (k : Int)), (10, .int .i64 (i : Int))]) (fun _ => [rwN eT b m cap (srL P X M Y Q (i + 1))]) (.take 0 (.take 1 (.take 2 (.take 3 (.take 4 (.take 5 (.take 6 (.take 7 (.take 8 (.take 9 (.take 10 (.take 11 (.take 12 (.take 14 (.take 15 (.take 16 (.take 17 (.take 18 (.br 13 (.br 19 (.take 20 (.br 21 (.take 22 (.br 23 (.done) (.nil))) (.nil))) (.nil)) (.br 19 (.br 13 (.take 20 (.br 21 (.take 22 (.br 23 (.done) (.nil))) (.nil))) (.nil)) (.nil))))))))))))))))))))) (by kernel_rfl) ?_ ?_
    · refine xn ?_
      repeat' (first | exact Le.n | refine Lc.mk ?_ ?_)
      all_goals intros
      all_goals exact ⟨(), env_w, congrArg (fun z => [HEnt.row (vlN b m cap) eT 1 m z]) e2⟩
    intro _
    refine xn1 ?_
    intros
    exact nxt (i + 1) (by omega) (by omega) env_w rfl
  · obtain rfl : i = k := by omega
    exact xn0
theorem iN {x y : Int} (h : x = y) : some (AVal.int .i64 x) = some (.int .i64 y) := by rw [h]
/-- Rotation. -/
theorem rotate_cmp {G : Glo} (f : Nat) (cc : List AVal) (eT : Option TypeId) (b m cap : Nat) (a c e : Int) (P X Y Q : List Nat) (hm : m = P.length + X.length + Y.length + Q.length) (ha : a = P.length) (hc : c = a + X.length) (he : e = c + Y.length) (hX : 0 < X.length) (hY : 0 < Y.length) (hml : m ≤ 1000000) :
    FnSpec Tryz.prog G 73 [.raw (vlN b m cap), .int .i64 a, .int .i64 c, .int .i64 e, .func (.func f) [] [.rop cc 0]] [rwN eT b m cap (P ++ (X ++ (Y ++ Q)))] (fun r H => r = .ret (.tuple []) ∧ H = [rwN eT b m cap (P ++ (Y ++ (X ++ Q)))]) := by
  have hGL : GloAll G [] := gloAll_nil
  refine fn_own [(0, 0, vlN b m cap)] Tryz.func73 Tryz.call73 rfl rfl rfl rfl (by repeat (first | exact trivial | refine And.intro ⟨rfl, rfl⟩ ?_)) ?_
  intro C hC
  refine aw_code hC hGL (xn1 ?_)
  refine lp hC hGL (fun x : List Nat × List Nat × List Nat × List Nat => [(0, .own 0 (vlN b m cap)), (2, .int .i64 c), (4, .func (.func f) [] [.rop cc 0]), (10, .int .i64 (x.2.1.length : Int)), (11, .int .i64 (x.2.2.1.length : Int))]) (fun x => [rwN eT b m cap (x.1 ++ (x.2.1 ++ (x.2.2.1 ++ x.2.2.2)))]) (fun x => x.1 ++ (x.2.2.1 ++ (x.2.1 ++ x.2.2.2)) = P ++ (Y ++ (X ++ Q)) ∧ (x.1.length : Int) + (x.2.1.length : Nat) = c ∧ 0 < x.2.1.length ∧ 0 < x.2.2.1.length) (fun x => x.2.1.length + x.2.2.1.length) (P, X, Y, Q) ⟨rfl, by show (P.length : Int) + (X.length : Nat) = c; omega, hX, hY⟩ ⟨rfl, rfl, rfl, iN (by show c - a = (X.length : Nat); omega), iN (by show e - c = (Y.length : Nat); omega), trivial⟩ rfl ?_
  rintro ⟨P', X', Y', Q'⟩ ⟨h1, h2, h3, h4⟩
  dsimp only at h1 h2 h3 h4 ⊢
  have h5 := congrArg List.length h1
  simp only [List.length_append] at h5
  rcases Nat.lt_trichotomy X'.length Y'.length with h6 | h6 | h6
  · refine xn1 ?_
    intros
    have e1 : Y'.take (Y'.length - X'.length) ++ (Y'.drop (Y'.length - X'.length) ++ Q') = Y' ++ Q' := by rw [← List.append_assoc, List.take_append_drop]
    have e2 : (Y'.take (Y'.length - X'.length)).length = Y'.length - X'.length := by rw [List.length_take]; omega
    have e3 : (Y'.drop (Y'.length - X'.length)).length = X'.length := by rw [List.length_drop]; omega
    refine cx_do (i := 0) rfl (swap_range f cc eT b m cap _ _ _ _ (P' ++ (Y'.drop (Y'.length - X'.length) ++ (Y'.take (Y'.length - X'.length) ++ (X' ++ Q')))) P' X' (Y'.take (Y'.length - X'.length)) (Y'.drop (Y'.length - X'.length)) Q' (by rw [e1]) rfl (by omega) e3 (by omega) (by omega) rfl hml) ?_
    refine xn1 ?_
    intros
    refine nxt (P', Y'.drop (Y'.length - X'.length), Y'.take (Y'.length - X'.length), X' ++ Q') ⟨?_, ?_, ?_, ?_⟩ ?_ ⟨rfl, rfl, rfl, iN ?_, iN ?_, trivial⟩ rfl
    · rw [← h1, ← List.append_assoc (Y'.take _), List.take_append_drop]
    all_goals (dsimp only; omega)
  · refine xn1 ?_
    intros
    refine cx_do (i := 0) rfl (swap_range f cc eT b m cap _ _ _ _ (P ++ (Y ++ (X ++ Q))) P' X' [] Y' Q' rfl (by rw [← h1]; rfl) (by simp only [List.length_nil]; omega) h6.symm (by omega) (by simp only [List.length_nil]; omega) rfl hml) ?_
    exact xn0
  · refine xn1 ?_
    intros
    have e1 : X'.take Y'.length ++ (X'.drop Y'.length ++ (Y' ++ Q')) = X' ++ (Y' ++ Q') := by rw [← List.append_assoc, List.take_append_drop]
    have e2 : (X'.take Y'.length).length = Y'.length := by rw [List.length_take]; omega
    have e3 : (X'.drop Y'.length).length = X'.length - Y'.length := List.length_drop
    refine cx_do (i := 0) rfl (swap_range f cc eT b m cap _ _ _ _ ((P' ++ Y') ++ (X'.drop Y'.length ++ (X'.take Y'.length ++ Q'))) P' (X'.take Y'.length) (X'.drop Y'.length) Y' Q' (by rw [e1]) (by rw [List.append_assoc]) (by omega) e2.symm (by omega) (by omega) (by omega) hml) ?_
    refine xn1 ?_
    intros
    refine nxt (P' ++ Y', X'.drop Y'.length, X'.take Y'.length, Q') ⟨?_, ?_, ?_, ?_⟩ ?_ ⟨rfl, rfl, rfl, iN ?_, iN ?_, trivial⟩ rfl
    · rw [← h1, List.append_assoc, ← List.append_assoc (X'.take _), List.take_append_drop]
    all_goals (dsimp only; first | (rw [List.length_append]; omega) | omega)
end Go.Proofs.YtcoidjllehieeaaGreatDoor
namespace Go.Proofs.YtcoidjllehieeaaGreatDoor
open Go Go.RowKit
/-- What compares two numbers. -/
def CmpIs (G : Glo) (f : Nat) (cc : List AVal) (w : Nat → Int) (K : Nat) : Prop := (∀ x y : Nat, x < K → y < K → FnIs Tryz.prog G f [.int .i64 (x : Int), .int .i64 (y : Int), .rop cc 0] (.int .i64 (w x - w y))) ∧ ∀ x, -1000 ≤ w x ∧ w x ≤ 1000
theorem snoc_of {A : List Nat} (h : 0 < A.length) : A = A.take (A.length - 1) ++ [A.getD (A.length - 1) 0] := by
  rw [getD_at (by omega)]
  have := (List.take_append_getElem (l := A) (i := A.length - 1) (by omega)).symm
  rw [show A.length - 1 + 1 = A.length by omega, List.take_length] at this
  exact this
theorem getD_mid {A B : List Nat} {x i : Nat} (h : i = A.length) : (A ++ x :: B).getD i 0 = x := by
  subst h
  simp
theorem getD_left {A B : List Nat} {i : Nat} (h : i < A.length) : (A ++ B).getD i 0 = A.getD i 0 := by
  rw [List.getD_eq_getElem?_getD, List.getD_eq_getElem?_getD, List.getElem?_append_left h]
theorem getD_right {A B : List Nat} {i j : Nat} (h : i = A.length + j) : (A ++ B).getD i 0 = B.getD j 0 := by
  subst h
  rw [List.getD_eq_getElem?_getD, List.getD_eq_getElem?_getD, List.getElem?_append_right (by omega), Nat.add_sub_cancel_left]
set_option maxRecDepth 20000
set_option maxHeartbeats 4000000
set_option linter.unusedSimpArgs false
set_option linter.unusedVariables false
attribute [local irreducible] AWp AOps byteAt SrcOK OrOk GloAll FnSpec
attribute [local irreducible] natsC swp srt
theorem insertion_sort {G : Glo} (f : Nat) (cc : List AVal) (w : Nat → Int) (K : Nat) (hf : CmpIs G f cc w K) (eT : Option TypeId) (b m cap : Nat) (a e : Int) (L L' P S Q : List Nat) (hL : L = P ++ (S ++ Q)) (hL' : L' = P ++ (srt w S ++ Q)) (hm : m = L.length) (hS : S.Pairwise (· < ·)) (hK : ∀ x ∈ S, x < K) (ha : a = P.length) (he : e = a + S.length) (hml : m ≤ 1000000) :
    FnSpec Tryz.prog G 50 [.raw (vlN b m cap), .int .i64 a, .int .i64 e, .func (.func f) [] [.rop cc 0]] [rwN eT b m cap L] (fun r H => r = .ret (.tuple []) ∧ H = [rwN eT b m cap L']) := by
  have hl := congrArg List.length hL
  simp only [List.length_append] at hl
  have hGL : GloAll G [] := gloAll_nil
  refine fn_own [(0, 0, vlN b m cap)] Tryz.func50 Tryz.call50 rfl rfl rfl rfl (by repeat (first | exact trivial | refine And.intro ⟨rfl, rfl⟩ ?_)) ?_
  intro C hC
  refine aw_code hC hGL (xn1 ?_)
  by_cases h0 : S.length = 0
  · obtain rfl := List.eq_nil_of_length_eq_zero h0
    refine rds hC hGL 1 ?_
    rw [hL, hL', srt_self List.Pairwise.nil]
    exact xn0
  refine lp hC hGL (fun k : Nat => [(0, .own 0 (vlN b m cap)), (1, .int .i64 a), (2, .int .i64 e), (3, .func (.func f) [] [.rop cc 0]), (8, .int .i64 (a + (k : Nat)))]) (fun k => [rwN eT b m cap (P ++ (srt w (S.take k) ++ (S.drop k ++ Q)))]) (fun k => 1 ≤ k ∧ k ≤ S.length) (fun k => S.length - k) 1 ⟨Nat.le_refl _, by omega⟩ env_w ?_ ?_
  · rw [hL, srt_self ?_, ← List.append_assoc (S.take 1), List.take_append_drop]
    cases S with
    | nil => exact List.Pairwise.nil
    | cons x S => exact List.pairwise_singleton _ _
  intro k ⟨hk1, hk2⟩
  by_cases hk : k < S.length
  · refine xn1 ?_
    intros
    have hx : S.drop k = S.getD k 0 :: S.drop (k + 1) := by rw [getD_at hk]; exact List.drop_eq_getElem_cons hk
    have hxK : S.getD k 0 < K := hK _ (getD_mem hk)
    generalize hxx : S.getD k 0 = x at *
    refine lp hC hGL (fun z : List Nat × List Nat => [(0, .own 0 (vlN b m cap)), (1, .int .i64 a), (2, .int .i64 e), (3, .func (.func f) [] [.rop cc 0]), (8, .int .i64 (a + (k : Nat))), (9, .int .i64 ((P.length + z.1.length : Nat) : Int))]) (fun z => [rwN eT b m cap (P ++ (z.1 ++ (x :: (z.2 ++ (S.drop (k + 1) ++ Q)))))]) (fun z => srt w (S.take k) = z.1 ++ z.2 ∧ ∀ u ∈ z.2, w x < w u) (fun z => z.1.length) (srt w (S.take k), []) ⟨(List.append_nil _).symm, fun u hu => by cases hu⟩ ⟨rfl, rfl, rfl, rfl, rfl, iN ?_, trivial⟩ ?_ ?_
    · show a + (k : Nat) = ((P.length + (srt w (S.take k)).length : Nat) : Int)
      rw [srt_length, List.length_take]; omega
    · rw [hx]; rfl
    rintro ⟨A, B⟩ ⟨h1, h2⟩
    dsimp only at h1 h2 ⊢
    have h3 := congrArg List.length h1
    rw [srt_length, List.length_take, List.length_append] at h3
    by_cases hA : 0 < A.length
    · have hyK : A.getD (A.length - 1) 0 < K := by
        have : A.getD (A.length - 1) 0 ∈ srt w (S.take k) := by rw [h1]; exact List.mem_append_left _ (getD_mem (by omega))
        exact hK _ (List.mem_of_mem_take (srt_mem.1 this))
      have hA2 := snoc_of hA
      generalize hyy : A.getD (A.length - 1) 0 = y at *
      generalize hAA : A.take (A.length - 1) = A' at *
      have hlA : A.length = A'.length + 1 := by rw [hA2]; simp
      obtain ⟨i, hi⟩ : ∃ i, i = P.length + A'.length := ⟨_, rfl⟩
      obtain ⟨L0, hL0⟩ : ∃ l, l = P ++ (A ++ (x :: (B ++ (S.drop (k + 1) ++ Q)))) := ⟨_, rfl⟩
      rw [← hL0]
      have hl0 : L0.length = m := by rw [hL0]; simp only [List.length_append, List.length_cons, List.length_drop]; omega
      have g1 := natsC_get (L := L0) (i := i + 1) (by omega)
      have g2 := natsC_get (L := L0) (i := i) (by omega)
      have e1 : L0.getD (i + 1) 0 = x := by rw [hL0, ← List.append_assoc]; exact getD_mid (by rw [List.length_append]; omega)
      have e2 : L0.getD i 0 = y := by rw [hL0, hA2, List.append_assoc, ← List.append_assoc]; exact getD_mid (by rw [List.length_append]; omega)
      rw [e1] at g1
      rw [e2] at g2
      have g3 : (natsC L0)[(((i + 1 : Nat) : Int) - 1).toNat]? = some (.int .i64 (y : Nat)) := by rw [show (((i + 1 : Nat) : Int) - 1).toNat = i by omega]; exact g2
      have hc := hf.1 x y hxK hyK
      have hw1 := hf.2 x
      have hw2 := hf.2 y
      have hj : P.length + A.length = i + 1 := by omega
      rw [hj]
      refine xn1 ?_
      intros
      refine dw_p mixed hC hGL false (fun _ : Unit => [(0, .own 0 (vlN b m cap)), (1, .int .i64 a), (2, .int .i64 e), (3, .func (.func f) [] [.rop cc 0]), (8, .int .i64 (a + (k : Nat))), (9, .int .i64 ((i + 1 : Nat) : Int)), (34, .bool (ltB (w x - w y) 0))]) (fun _ => [rwN eT b m cap L0]) (.take 0 (.take 1 (.take 2 (.take 3 (.take 4 (.take 5 (.take 6 (.take 7 (.take 9 (.take 10 (.take 11 (.take 12 (.br 8 (.br 13 (.br 14 (.take 15 (.take 16 (.done))) (.nil)) (.nil)) (.br 13 (.br 8 (.br 14 (.take 15 (.take 16 (.done))) (.nil)) (.nil)) (.nil))))))))))))))) (by kernel_rfl) ?_ ?_
      · refine xn ?_
        repeat' (first | exact Le.n | refine Lc.mk ?_ ?_)
        all_goals intros
        all_goals exact ⟨(), env_w, rfl⟩
      intro _
      refine xn ?_
      repeat' (first | exact Le.n | refine Lc.mk ?_ ?_)
      all_goals intros
      · have e3 := natsC_swp (L := L0) (i := i + 1) (j := (((i + 1 : Nat) : Int) - 1).toNat) (by omega) (by omega)
        have e4 : swp L0 (i + 1) (((i + 1 : Nat) : Int) - 1).toNat = P ++ (A' ++ (x :: (y :: B ++ (S.drop (k + 1) ++ Q)))) := by
          rw [show (((i + 1 : Nat) : Int) - 1).toNat = i by omega, swp_comm (by omega), hL0, hA2]
          have := swp_at (P := P ++ A') (M := []) (Q := B ++ (S.drop (k + 1) ++ Q)) (x := y) (y := x) (i := i) (j := i + 1) (by rw [List.length_append]; omega) (by rw [List.length_append]; simp only [List.length_nil]; omega)
          simp only [List.append_assoc, List.nil_append, List.cons_append] at this ⊢
          exact this
        rw [e1, show L0.getD (((i + 1 : Nat) : Int) - 1).toNat 0 = y by rw [show (((i + 1 : Nat) : Int) - 1).toNat = i by omega]; exact e2, e4] at e3
        refine dw_p mixed hC hGL false (fun _ : Unit => [(0, .own 0 (vlN b m cap)), (1, .int .i64 a), (2, .int .i64 e), (3, .func (.func f) [] [.rop cc 0]), (8, .int .i64 (a + (k : Nat))), (9, .int .i64 ((i + 1 : Nat) : Int))]) (fun _ => [rwN eT b m cap (P ++ (A' ++ (x :: (y :: B ++ (S.drop (k + 1) ++ Q)))))]) (.take 0 (.take 1 (.take 2 (.take 3 (.take 4 (.take 5 (.take 6 (.take 7 (.take 8 (.take 10 (.take 11 (.take 12 (.br 9 (.br 13 (.take 14 (.br 15 (.take 16 (.br 17 (.done) (.nil))) (.nil))) (.nil)) (.br 13 (.br 9 (.take 14 (.br 15 (.take 16 (.br 17 (.done) (.nil))) (.nil))) (.nil)) (.nil))))))))))))))) (by kernel_rfl) ?_ ?_
        · refine xn ?_
          repeat' (first | exact Le.n | refine Lc.mk ?_ ?_)
          all_goals intros
          all_goals exact ⟨(), env_w, congrArg (fun z => [HEnt.row (vlN b m cap) eT 1 m z]) e3⟩
        intro _
        refine xn1 ?_
        intros
        refine nxt (A', y :: B) ⟨?_, ?_⟩ ?_ ⟨rfl, rfl, rfl, rfl, rfl, iN ?_, trivial⟩ rfl
        · rw [h1, hA2, List.append_assoc]; rfl
        · intro u hu
          rcases List.mem_cons.1 hu with rfl | hu
          · omega
          · exact h2 u hu
        · dsimp only; omega
        · dsimp only; omega
      · have h5 := ins_end (w := w) (S := S) (A := A) (B := B) hk hS h1 (fun _ => by rw [hyy, hxx]; omega) (by rw [hxx]; exact h2)
        rw [hxx] at h5
        refine nxt (k + 1) ⟨by omega, by omega⟩ (by omega) ⟨rfl, rfl, rfl, rfl, iN (by omega), trivial⟩ ?_
        rw [hL0, h5, List.append_assoc]; rfl
    · obtain rfl := List.eq_nil_of_length_eq_zero (Nat.eq_zero_of_not_pos hA)
      have h5 := ins_end (w := w) (S := S) (A := []) (B := B) hk hS h1 (fun h => absurd h (Nat.lt_irrefl _)) (by rw [hxx]; exact h2)
      rw [hxx] at h5
      refine xn1 ?_
      intros
      refine dw_p mixed hC hGL false (fun _ : Unit => [(0, .own 0 (vlN b m cap)), (1, .int .i64 a), (2, .int .i64 e), (3, .func (.func f) [] [.rop cc 0]), (8, .int .i64 (a + (k : Nat))), (34, .bool false)]) (fun _ => [rwN eT b m cap (P ++ ([] ++ (x :: (B ++ (S.drop (k + 1) ++ Q)))))]) (.take 0 (.take 1 (.take 2 (.take 3 (.take 4 (.take 5 (.take 6 (.take 7 (.take 9 (.take 10 (.take 11 (.take 12 (.br 8 (.br 13 (.br 14 (.take 15 (.take 16 (.done))) (.nil)) (.nil)) (.br 13 (.br 8 (.br 14 (.take 15 (.take 16 (.done))) (.nil)) (.nil)) (.nil))))))))))))))) (by kernel_rfl) ?_ ?_
      · refine xn ?_
        repeat' (first | exact Le.n | refine Lc.mk ?_ ?_)
        all_goals intros
        all_goals exact ⟨(), env_w, rfl⟩
      intro _
      refine xn1 ?_
      intros
      refine nxt (k + 1) ⟨by omega, by omega⟩ (by omega) ⟨rfl, rfl, rfl, rfl, iN (by omega), trivial⟩ ?_
      rw [h5]; rfl
  · obtain rfl : k = S.length := by omega
    rw [List.take_length, List.drop_length, List.nil_append, ← hL']
    exact xn0
end Go.Proofs.YtcoidjllehieeaaGreatDoor
namespace Go.Proofs.YtcoidjllehieeaaGreatDoor
open Go Go.RowKit
set_option maxRecDepth 20000
set_option maxHeartbeats 4000000
set_option linter.unusedSimpArgs false
set_option linter.unusedVariables false
attribute [local irreducible] AWp AOps byteAt SrcOK OrOk GloAll FnSpec
attribute [local irreducible] natsC swp srt
section
variable {G : Glo} (f : Nat) (cc : List AVal) (w : Nat → Int) (K : Nat) (hf : CmpIs G f cc w K) (eT : Option TypeId) (b m cap : Nat)
/-- What is said of it, of rows of so many. -/
def SymIs (G : Glo) (f : Nat) (cc : List AVal) (w : Nat → Int) (K : Nat) (eT : Option TypeId) (b m cap k : Nat) : Prop := ∀ (a c e : Int) (L L' P U V Q : List Nat), U.length + V.length ≤ k → 0 < U.length → 0 < V.length → L = P ++ (U ++ (V ++ Q)) → L' = P ++ (srt w (U ++ V) ++ Q) → m = L.length → U.Pairwise (lexL w) → V.Pairwise (lexL w) → Low U V → (∀ x ∈ U, x < K) → (∀ x ∈ V, x < K) → a = P.length → c = a + U.length → e = c + V.length →
    FnSpec Tryz.prog G 51 [.raw (vlN b m cap), .int .i64 a, .int .i64 c, .int .i64 e, .func (.func f) [] [.rop cc 0]] [rwN eT b m cap L] (fun r H => r = .ret (.tuple []) ∧ H = [rwN eT b m cap L'])
include hf
theorem sym_left1 (hml : m ≤ 1000000) (x : Nat) (V P Q : List Nat) (hV0 : 0 < V.length) (hm : m = (P ++ (x :: (V ++ Q))).length) (hV : V.Pairwise (lexL w)) (hl : Low [x] V) (hxK : x < K) (hVK : ∀ x ∈ V, x < K) :
    FnSpec Tryz.prog G 51 [.raw (vlN b m cap), .int .i64 (P.length : Int), .int .i64 ((P.length + 1 : Nat) : Int), .int .i64 ((P.length + 1 + V.length : Nat) : Int), .func (.func f) [] [.rop cc 0]] [rwN eT b m cap (P ++ (x :: (V ++ Q)))] (fun r H => r = .ret (.tuple []) ∧ H = [rwN eT b m cap (P ++ (srt w (x :: V) ++ Q))]) := by
  have hw := fun y => hf.2 y
  have hm2 : m = P.length + 1 + V.length + Q.length := by rw [hm]; simp only [List.length_append, List.length_cons]; omega
  have hGL : GloAll G [] := gloAll_nil
  refine fn_own [(0, 0, vlN b m cap)] Tryz.func51 Tryz.call51 rfl rfl rfl rfl (by repeat (first | exact trivial | refine And.intro ⟨rfl, rfl⟩ ?_)) ?_
  intro C hC
  refine aw_code hC hGL (xn1 ?_)
  intros
  refine lp hC hGL (fun z : Nat × Nat => [(0, .own 0 (vlN b m cap)), (1, .int .i64 (P.length : Int)), (4, .func (.func f) [] [.rop cc 0]), (10, .int .i64 (z.1 : Int)), (11, .int .i64 (z.2 : Int))]) (fun _ => [rwN eT b m cap (P ++ (x :: (V ++ Q)))]) (fun z => P.length + 1 ≤ z.1 ∧ z.1 ≤ z.2 ∧ z.2 ≤ P.length + 1 + V.length ∧ (∀ t, t < V.length → P.length + 1 + t < z.1 → w (V.getD t 0) < w x) ∧ (∀ t, t < V.length → z.2 ≤ P.length + 1 + t → w x ≤ w (V.getD t 0))) (fun z => z.2 - z.1) (P.length + 1, P.length + 1 + V.length) ⟨Nat.le_refl _, by dsimp only; omega, Nat.le_refl _, fun t _ h => by dsimp only at h; omega, fun t h1 h2 => by dsimp only at h2; omega⟩ env_w rfl ?_
  rintro ⟨p, q⟩ ⟨h1, h2, h3, h4, h5⟩
  dsimp only at h1 h2 h3 h4 h5 ⊢
  by_cases hpq : p < q
  · obtain ⟨h, hh⟩ : ∃ h, h = (p + q) / 2 := ⟨_, rfl⟩
    obtain ⟨t0, ht0⟩ : ∃ t, h = P.length + 1 + t := ⟨h - (P.length + 1), by omega⟩
    obtain ⟨L, hL⟩ : ∃ l, l = P ++ (x :: (V ++ Q)) := ⟨_, rfl⟩
    rw [← hL] at hm ⊢
    have hlen : L.length = P.length + 1 + V.length + Q.length := by rw [hL]; simp only [List.length_append, List.length_cons]; omega
    have e1 : L.getD h 0 = V.getD t0 0 := by
      rw [hL, getD_right (j := t0 + 1) (by omega), List.getD_cons_succ, getD_left (by omega)]
    have e2 : L.getD P.length 0 = x := by rw [hL]; exact getD_mid rfl
    have g1 : (natsC L)[(p + q) / 2]? = some (.int .i64 (V.getD t0 0 : Nat)) := by
      rw [← hh, ← e1]; exact natsC_get (by omega)
    have g2 : (natsC L)[P.length]? = some (.int .i64 (x : Nat)) := by
      have := natsC_get (L := L) (i := P.length) (by omega)
      rwa [e2] at this
    have hc := hf.1 (V.getD t0 0) x (hVK _ (getD_mem (by omega))) hxK
    have hsp : RowAt (vlN b m cap) b m ∧ (p + q) / 2 < m * 1 := ⟨⟨_, rfl⟩, by omega⟩
    have hw1 := hw x
    have hw2 := hw (V.getD t0 0)
    refine xn1 ?_
    intros
    refine dw_p mixed hC hGL false (fun _ : Unit => [(0, .own 0 (vlN b m cap)), (1, .int .i64 (P.length : Int)), (4, .func (.func f) [] [.rop cc 0]), (10, .int .i64 (p : Int)), (11, .int .i64 (q : Int)), (12, .int .i64 (h : Int)), (50, .bool (ltB (w (V.getD t0 0) - w x) 0))]) (fun _ => [rwN eT b m cap L]) (.take 0 (.take 1 (.take 2 (.take 3 (.take 5 (.take 6 (.take 7 (.br 4 (.br 8 (.br 9 (.take 10 (.done)) (.nil)) (.nil)) (.br 8 (.br 4 (.br 9 (.take 10 (.done)) (.nil)) (.nil)) (.nil)))))))))) (by kernel_rfl) ?_ ?_
    · refine xn ?_
      repeat' (first | exact Le.n | refine Lc.mk ?_ ?_)
      all_goals intros
      all_goals exact ⟨(), ⟨rfl, rfl, rfl, rfl, rfl, iN (by omega), rfl, trivial⟩, rfl⟩
    intro _
    refine xn ?_
    repeat' (first | exact Le.n | refine Lc.mk ?_ ?_)
    all_goals intros
    · refine nxt (h + 1, q) ⟨?_, ?_, h3, ?_, h5⟩ ?_ env_w rfl
      any_goals (dsimp only; omega)
      intro t ht hh
      dsimp only at hh
      have := pw_le hV (i := t) (j := t0) (by omega) (by omega)
      omega
    · refine nxt (p, h) ⟨h1, ?_, ?_, h4, ?_⟩ ?_ env_w rfl
      any_goals (dsimp only; omega)
      intro t ht hh
      dsimp only at hh
      have := pw_le hV (i := t0) (j := t) (by omega) (by omega)
      omega
  · obtain rfl : p = q := by omega
    obtain ⟨s, hs⟩ : ∃ s, p = P.length + 1 + s := ⟨p - (P.length + 1), by omega⟩
    have hr := sym_left (w := w) (x := x) (V := V) s hV hl (by
      intro v hv
      obtain ⟨t, ht, ht2, rfl⟩ := mem_take_iff hv
      exact h4 t ht2 (by omega)) (by
      intro v hv
      obtain ⟨t, ht, ht2, rfl⟩ := mem_drop_iff hv
      exact h5 t ht2 (by omega))
    subst hs
    refine xn1 ?_
    intros
    refine lp hC hGL (fun t : Nat => [(0, .own 0 (vlN b m cap)), (10, .int .i64 ((P.length + 1 + s : Nat) : Int)), (13, .int .i64 ((P.length + t : Nat) : Int))]) (fun t => [rwN eT b m cap (P ++ (V.take t ++ (x :: (V.drop t ++ Q))))]) (fun t => t ≤ s) (fun t => s - t) 0 (Nat.zero_le _) env_w rfl ?_
    intro t ht
    by_cases hts : t < s
    · obtain ⟨i, hi⟩ : ∃ i, i = P.length + t := ⟨_, rfl⟩
      obtain ⟨L, hL⟩ : ∃ l, l = P ++ (V.take t ++ (x :: (V.drop t ++ Q))) := ⟨_, rfl⟩
      have hlt : (V.take t).length = t := by rw [List.length_take]; omega
      have hld : V.drop t = V.getD t 0 :: V.drop (t + 1) := by rw [getD_at (by omega)]; exact List.drop_eq_getElem_cons (by omega)
      rw [← hL, ← hi]
      have hlen : L.length = m := by rw [hm, hL]; simp only [List.length_append, List.length_cons, List.length_drop, hlt]; omega
      have e1 : L.getD i 0 = x := by rw [hL, ← List.append_assoc]; exact getD_mid (by rw [List.length_append]; omega)
      have e2 : L.getD (i + 1) 0 = V.getD t 0 := by
        rw [hL, hld]
        have := getD_mid (A := P ++ (V.take t ++ [x])) (B := V.drop (t + 1) ++ Q) (x := V.getD t 0) (i := i + 1) (by simp only [List.length_append, List.length_cons, List.length_nil]; omega)
        simpa using this
      have g1 := natsC_get (L := L) (i := i) (by omega)
      have g2 := natsC_get (L := L) (i := i + 1) (by omega)
      have e3 := natsC_swp (L := L) (i := i) (j := i + 1) (by omega) (by omega)
      have e4 : swp L i (i + 1) = P ++ (V.take (t + 1) ++ (x :: (V.drop (t + 1) ++ Q))) := by
        have := swp_at (P := P ++ V.take t) (M := []) (Q := V.drop (t + 1) ++ Q) (x := x) (y := V.getD t 0) (i := i) (j := i + 1) (by rw [List.length_append]; omega) (by rw [List.length_append]; simp only [List.length_nil]; omega)
        rw [hL, hld, List.take_succ_eq_append_getElem (by omega), ← getD_at (by omega)]
        simp only [List.append_assoc, List.nil_append, List.cons_append] at this ⊢
        exact this
      rw [e4] at e3
      have hsp1 : RowAt (vlN b m cap) b m ∧ i + 1 < m * 1 := ⟨⟨_, rfl⟩, by omega⟩
      have hsp2 : RowAt (vlN b m cap) b m ∧ i + 1 + 1 ≤ m * 1 ∧ 0 < m := ⟨⟨_, rfl⟩, by omega, by omega⟩
      refine xn1 ?_
      intros
      refine dw_p mixed hC hGL false (fun _ : Unit => [(0, .own 0 (vlN b m cap)), (10, .int .i64 ((P.length + 1 + s : Nat) : Int)), (13, .int .i64 (i : Int))]) (fun _ => [rwN eT b m cap (P ++ (V.take (t + 1) ++ (x :: (V.drop (t + 1) ++ Q))))]) (.take 0 (.take 1 (.take 2 (.take 3 (.take 4 (.take 5 (.take 6 (.take 7 (.take 8 (.take 10 (.take 11 (.take 12 (.br 9 (.br 13 (.take 14 (.br 15 (.take 16 (.br 17 (.done) (.nil))) (.nil))) (.nil)) (.br 13 (.br 9 (.take 14 (.br 15 (.take 16 (.br 17 (.done) (.nil))) (.nil))) (.nil)) (.nil))))))))))))))) (by kernel_rfl) ?_ ?_
      · refine xn ?_
        repeat' (first | exact Le.n | refine Lc.mk ?_ ?_)
        all_goals intros
        all_goals exact ⟨(), env_w, congrArg (fun z => [HEnt.row (vlN b m cap) eT 1 m z]) e3⟩
      intro _
      refine xn1 ?_
      intros
      refine nxt (t + 1) (by omega) (by omega) ⟨rfl, rfl, iN (by omega), trivial⟩ rfl
    · obtain rfl : t = s := by omega
      rw [hr, List.append_assoc, List.cons_append]
      exact xn0
end
end Go.Proofs.YtcoidjllehieeaaGreatDoor
namespace Go.Proofs.YtcoidjllehieeaaGreatDoor
open Go Go.RowKit
set_option maxRecDepth 20000
set_option maxHeartbeats 4000000
set_option linter.unusedSimpArgs false
set_option linter.unusedVariables false
attribute [local irreducible] AWp AOps byteAt SrcOK OrOk GloAll FnSpec
attribute [local irreducible] natsC swp srt
section
variable {G : Glo} (f : Nat) (cc : List AVal) (w : Nat → Int) (K : Nat) (hf : CmpIs G f cc w K) (eT : Option TypeId) (b m cap : Nat)
include hf
theorem sym_right1 (hml : m ≤ 1000000) (y : Nat) (U P Q : List Nat) (hU0 : 2 ≤ U.length) (hm : m = (P ++ (U ++ (y :: Q))).length) (hU : U.Pairwise (lexL w)) (hl : Low U [y]) (hyK : y < K) (hUK : ∀ x ∈ U, x < K) :
    FnSpec Tryz.prog G 51 [.raw (vlN b m cap), .int .i64 (P.length : Int), .int .i64 ((P.length + U.length : Nat) : Int), .int .i64 ((P.length + U.length + 1 : Nat) : Int), .func (.func f) [] [.rop cc 0]] [rwN eT b m cap (P ++ (U ++ (y :: Q)))] (fun r H => r = .ret (.tuple []) ∧ H = [rwN eT b m cap (P ++ (srt w (U ++ [y]) ++ Q))]) := by
  have hw := fun y => hf.2 y
  have hm2 : m = P.length + U.length + 1 + Q.length := by rw [hm]; simp only [List.length_append, List.length_cons]; omega
  have hGL : GloAll G [] := gloAll_nil
  refine fn_own [(0, 0, vlN b m cap)] Tryz.func51 Tryz.call51 rfl rfl rfl rfl (by repeat (first | exact trivial | refine And.intro ⟨rfl, rfl⟩ ?_)) ?_
  intro C hC
  refine aw_code hC hGL (xn1 ?_)
  intros
  refine lp hC hGL (fun z : Nat × Nat => [(0, .own 0 (vlN b m cap)), (2, .int .i64 ((P.length + U.length : Nat) : Int)), (4, .func (.func f) [] [.rop cc 0]), (14, .int .i64 (z.1 : Int)), (15, .int .i64 (z.2 : Int))]) (fun _ => [rwN eT b m cap (P ++ (U ++ (y :: Q)))]) (fun z => P.length ≤ z.1 ∧ z.1 ≤ z.2 ∧ z.2 ≤ P.length + U.length ∧ (∀ t, t < U.length → P.length + t < z.1 → w (U.getD t 0) ≤ w y) ∧ (∀ t, t < U.length → z.2 ≤ P.length + t → w y < w (U.getD t 0))) (fun z => z.2 - z.1) (P.length, P.length + U.length) ⟨Nat.le_refl _, by dsimp only; omega, Nat.le_refl _, fun t _ h => by dsimp only at h; omega, fun t h1 h2 => by dsimp only at h2; omega⟩ env_w rfl ?_
  rintro ⟨p, q⟩ ⟨h1, h2, h3, h4, h5⟩
  dsimp only at h1 h2 h3 h4 h5 ⊢
  by_cases hpq : p < q
  · obtain ⟨h, hh⟩ : ∃ h, h = (p + q) / 2 := ⟨_, rfl⟩
    obtain ⟨t0, ht0⟩ : ∃ t, h = P.length + t := ⟨h - P.length, by omega⟩
    obtain ⟨L, hL⟩ : ∃ l, l = P ++ (U ++ (y :: Q)) := ⟨_, rfl⟩
    rw [← hL] at hm ⊢
    have hlen : L.length = m := hm.symm
    have e1 : L.getD h 0 = U.getD t0 0 := by
      rw [hL, getD_right (j := t0) (by omega), getD_left (by omega)]
    have e2 : L.getD (P.length + U.length) 0 = y := by rw [hL, ← List.append_assoc]; exact getD_mid (by rw [List.length_append])
    have g1 : (natsC L)[(p + q) / 2]? = some (.int .i64 (U.getD t0 0 : Nat)) := by
      rw [← hh, ← e1]; exact natsC_get (by omega)
    have g2 : (natsC L)[P.length + U.length]? = some (.int .i64 (y : Nat)) := by
      have := natsC_get (L := L) (i := P.length + U.length) (by omega)
      rwa [e2] at this
    have hc := hf.1 y (U.getD t0 0) hyK (hUK _ (getD_mem (by omega)))
    have hsp : RowAt (vlN b m cap) b m ∧ (p + q) / 2 < m * 1 := ⟨⟨_, rfl⟩, by omega⟩
    have hw1 := hw y
    have hw2 := hw (U.getD t0 0)
    refine xn1 ?_
    intros
    refine dw_p mixed hC hGL false (fun _ : Unit => [(0, .own 0 (vlN b m cap)), (2, .int .i64 ((P.length + U.length : Nat) : Int)), (4, .func (.func f) [] [.rop cc 0]), (14, .int .i64 (p : Int)), (15, .int .i64 (q : Int)), (16, .int .i64 (h : Int)), (103, .bool (!ltB (w y - w (U.getD t0 0)) 0))]) (fun _ => [rwN eT b m cap L]) (.take 0 (.take 1 (.take 2 (.take 3 (.take 5 (.take 6 (.take 7 (.br 4 (.br 8 (.br 9 (.take 10 (.take 11 (.done))) (.nil)) (.nil)) (.br 8 (.br 4 (.br 9 (.take 10 (.take 11 (.done))) (.nil)) (.nil)) (.nil)))))))))) (by kernel_rfl) ?_ ?_
    · refine xn ?_
      repeat' (first | exact Le.n | refine Lc.mk ?_ ?_)
      all_goals intros
      all_goals exact ⟨(), ⟨rfl, rfl, rfl, rfl, rfl, iN (by omega), rfl, trivial⟩, rfl⟩
    intro _
    refine xn ?_
    repeat' (first | exact Le.n | refine Lc.mk ?_ ?_)
    all_goals intros
    · refine nxt (h + 1, q) ⟨?_, ?_, h3, ?_, h5⟩ ?_ env_w rfl
      any_goals (dsimp only; omega)
      intro t ht hh
      dsimp only at hh
      have := pw_le hU (i := t) (j := t0) (by omega) (by omega)
      omega
    · refine nxt (p, h) ⟨h1, ?_, ?_, h4, ?_⟩ ?_ env_w rfl
      any_goals (dsimp only; omega)
      intro t ht hh
      dsimp only at hh
      have := pw_le hU (i := t0) (j := t) (by omega) (by omega)
      omega
  · obtain rfl : p = q := by omega
    obtain ⟨s, hs⟩ : ∃ s, p = P.length + s := ⟨p - P.length, by omega⟩
    have hr := sym_right (w := w) (y := y) (U := U) s hU hl (by
      intro v hv
      obtain ⟨t, ht, ht2, rfl⟩ := mem_take_iff hv
      exact h4 t ht2 (by omega)) (by
      intro v hv
      obtain ⟨t, ht, ht2, rfl⟩ := mem_drop_iff hv
      exact h5 t ht2 (by omega))
    subst hs
    refine xn1 ?_
    intros
    refine lp hC hGL (fun t : Nat => [(0, .own 0 (vlN b m cap)), (14, .int .i64 ((P.length + s : Nat) : Int)), (17, .int .i64 ((P.length + t : Nat) : Int))]) (fun t => [rwN eT b m cap (P ++ (U.take t ++ (y :: (U.drop t ++ Q))))]) (fun t => s ≤ t ∧ t ≤ U.length) (fun t => t) U.length ⟨by omega, Nat.le_refl _⟩ env_w (by rw [List.take_length, List.drop_length]; rfl) ?_
    rintro t ⟨ht, htl⟩
    by_cases hts : s < t
    · obtain ⟨t, rfl⟩ : ∃ k, t = k + 1 := ⟨t - 1, by omega⟩
      obtain ⟨i, hi⟩ : ∃ i, i = P.length + t := ⟨_, rfl⟩
      obtain ⟨L, hL⟩ : ∃ l, l = P ++ (U.take (t + 1) ++ (y :: (U.drop (t + 1) ++ Q))) := ⟨_, rfl⟩
      have hlt : (U.take t).length = t := by rw [List.length_take]; omega
      have hld : U.drop t = U.getD t 0 :: U.drop (t + 1) := by rw [getD_at (by omega)]; exact List.drop_eq_getElem_cons (by omega)
      have hta : U.take (t + 1) = U.take t ++ [U.getD t 0] := by rw [getD_at (by omega)]; exact List.take_succ_eq_append_getElem (by omega)
      rw [← hL, show P.length + (t + 1) = i + 1 by omega]
      have hlen : L.length = m := by rw [hm2, hL]; simp only [List.length_append, List.length_cons, List.length_drop, List.length_take]; omega
      have hki : (((i + 1 : Nat) : Int) - 1).toNat = i := by omega
      have e1 : L.getD (i + 1) 0 = y := by rw [hL, ← List.append_assoc]; exact getD_mid (by rw [List.length_append, List.length_take]; omega)
      have e2 : L.getD (((i + 1 : Nat) : Int) - 1).toNat 0 = U.getD t 0 := by
        rw [hki, hL, hta, getD_right (j := t) (by omega), getD_left (by simp only [List.length_append, List.length_cons, List.length_nil]; omega)]
        exact getD_mid hlt.symm
      have g1 := natsC_get (L := L) (i := i + 1) (by omega)
      have g2 := natsC_get (L := L) (i := (((i + 1 : Nat) : Int) - 1).toNat) (by omega)
      have e3 := natsC_swp (L := L) (i := i + 1) (j := (((i + 1 : Nat) : Int) - 1).toNat) (by omega) (by omega)
      have e4 : swp L (i + 1) (((i + 1 : Nat) : Int) - 1).toNat = P ++ (U.take t ++ (y :: (U.drop t ++ Q))) := by
        have := swp_at (P := P ++ U.take t) (M := []) (Q := U.drop (t + 1) ++ Q) (x := U.getD t 0) (y := y) (i := i) (j := i + 1) (by rw [List.length_append]; omega) (by rw [List.length_append]; simp only [List.length_nil]; omega)
        rw [hki, swp_comm (by omega), hL, hta, hld]
        simp only [List.append_assoc, List.nil_append, List.cons_append] at this ⊢
        exact this
      rw [e4] at e3
      refine xn1 ?_
      intros
      refine dw_p mixed hC hGL false (fun _ : Unit => [(0, .own 0 (vlN b m cap)), (14, .int .i64 ((P.length + s : Nat) : Int)), (17, .int .i64 ((i + 1 : Nat) : Int))]) (fun _ => [rwN eT b m cap (P ++ (U.take t ++ (y :: (U.drop t ++ Q))))]) (.take 0 (.take 1 (.take 2 (.take 3 (.take 4 (.take 5 (.take 6 (.take 7 (.take 8 (.take 10 (.take 11 (.take 12 (.br 9 (.br 13 (.take 14 (.br 15 (.take 16 (.br 17 (.done) (.nil))) (.nil))) (.nil)) (.br 13 (.br 9 (.take 14 (.br 15 (.take 16 (.br 17 (.done) (.nil))) (.nil))) (.nil)) (.nil))))))))))))))) (by kernel_rfl) ?_ ?_
      · refine xn ?_
        repeat' (first | exact Le.n | refine Lc.mk ?_ ?_)
        all_goals intros
        all_goals exact ⟨(), env_w, congrArg (fun z => [HEnt.row (vlN b m cap) eT 1 m z]) e3⟩
      intro _
      refine xn1 ?_
      intros
      refine nxt t ⟨by omega, by omega⟩ (by omega) ⟨rfl, rfl, iN (by omega), trivial⟩ rfl
    · obtain rfl : t = s := by omega
      rw [hr, List.append_assoc, List.cons_append]
      exact xn0
end
end Go.Proofs.YtcoidjllehieeaaGreatDoor
