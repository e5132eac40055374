/- Parts of the proof of valueReads_card: Tra, Deg, Deh, Trb, Vra, Dc, Rf, Hdb, Vlb, Buk, Bur. -/
import Derived.Defers
import Derived.Recover
import GoSem.PinnedTables
import Derived.Test.YtidcpikoeohfbaaGreatDoorBad
import Derived.Test.YtidcpikoeohfbaaGreatDoorBae
import Derived.Test.YtidcpikoeohfbaaGreatDoorBaf
import Derived.Test.YtidcpikoeohfbaaGreatDoorBag
set_option linter.unusedVariables false
set_option linter.unusedSimpArgs false
namespace Go.Proofs.YtidcpikoeohfbaaGreatDoor
open Go
theorem snoc_ind {α : Type} {P : List α → Prop} (h0 : P []) (h1 : ∀ l a, P l → P (l ++ [a])) (l : List α) : P l := by
  rw [← List.reverse_reverse l]
  induction l.reverse with
  | nil => exact h0
  | cons a r ih => rw [List.reverse_cons]; exact h1 _ _ ih
/-- A byte, or a \ and the byte behind it. -/
inductive Tk where
  | one (c : UInt8)
  | two (d : UInt8)
def Tk.raw : Tk → List UInt8
  | .one c => [c]
  | .two d => [92, d]
def escV (d : UInt8) : UInt8 := if d = 110 ∨ d = 78 then 10 else d
def Tk.val : Tk → UInt8
  | .one c => c
  | .two d => escV d
def okE (d : UInt8) : Bool := decide (d = 92 ∨ d = 44 ∨ d = 59 ∨ d = 110 ∨ d = 78)
def Tk.ok : Tk → Prop
  | .one c => c ≠ 92
  | .two d => okE d = true
def errT : List UInt8 → Nat → Err
  | [], _ => .none
  | [c], i => if c = 92 then .at 7 ((i + 1 : Nat) : Int) else .none
  | c :: d :: r, i => if c = 92 then (if okE d then errT r (i + 2) else .at 3 ((i + 1 : Nat) : Int)) else errT (d :: r) (i + 1)
def tokT : List UInt8 → List Tk
  | [] => []
  | [c] => if c = 92 then [] else [.one c]
  | c :: d :: r => if c = 92 then (if okE d then .two d :: tokT r else []) else .one c :: tokT (d :: r)
abbrev rawT (T : List Tk) : List UInt8 := T.flatMap Tk.raw
abbrev valT (T : List Tk) : List UInt8 := T.map Tk.val
theorem errT_one {c : UInt8} (h : c ≠ 92) (r : List UInt8) (i : Nat) : errT (c :: r) i = errT r (i + 1) := by
  cases r with
  | nil => simp [errT, h]
  | cons d r => simp [errT, h]
theorem tokT_one {c : UInt8} (h : c ≠ 92) (r : List UInt8) : tokT (c :: r) = .one c :: tokT r := by
  cases r with
  | nil => simp [tokT, h]
  | cons d r => simp [tokT, h]
theorem errT_two {d : UInt8} (h : okE d = true) (r : List UInt8) (i : Nat) : errT (92 :: d :: r) i = errT r (i + 2) := by simp [errT, h]
theorem tokT_two {d : UInt8} (h : okE d = true) (r : List UInt8) : tokT (92 :: d :: r) = .two d :: tokT r := by simp [tokT, h]
theorem tok_ok : ∀ (n : Nat) (s : List UInt8), s.length ≤ n → ∀ t ∈ tokT s, t.ok
  | _, [], _, t, ht => by cases ht
  | 0, c :: r, hn, _, _ => by simp at hn
  | n + 1, c :: r, hn, t, ht => by
    have hn : r.length ≤ n := by simpa using hn
    by_cases hc : c = 92
    · subst hc
      cases r with
      | nil => simp [tokT] at ht
      | cons d r =>
        by_cases hd : okE d = true
        · rw [tokT_two hd] at ht
          rcases List.mem_cons.1 ht with rfl | ht
          · exact hd
          · exact tok_ok n r (by simp at hn; omega) t ht
        · simp [tokT, hd] at ht
    · rw [tokT_one hc] at ht
      rcases List.mem_cons.1 ht with rfl | ht
      · exact hc
      · exact tok_ok n r hn t ht
theorem tok_raw : ∀ (n : Nat) (s : List UInt8) (i : Nat), s.length ≤ n → errT s i = .none → rawT (tokT s) = s
  | _, [], _, _, _ => rfl
  | 0, c :: r, _, hn, _ => by simp at hn
  | n + 1, c :: r, i, hn, he => by
    have hn : r.length ≤ n := by simpa using hn
    by_cases hc : c = 92
    · subst hc
      cases r with
      | nil => simp [errT] at he
      | cons d r =>
        by_cases hd : okE d = true
        · rw [errT_two hd] at he
          rw [tokT_two hd]
          show 92 :: d :: rawT (tokT r) = _
          rw [tok_raw n r _ (by simp at hn; omega) he]
        · simp [errT, hd] at he
    · rw [errT_one hc] at he
      rw [tokT_one hc]
      show c :: rawT (tokT r) = _
      rw [tok_raw n r _ hn he]
theorem raw_tok : ∀ (T : List Tk) (i : Nat), (∀ t ∈ T, t.ok) → errT (rawT T) i = .none ∧ tokT (rawT T) = T
  | [], _, _ => ⟨rfl, rfl⟩
  | t :: T, i, h => by
    have ih := fun i => raw_tok T i (fun t ht => h t (List.mem_cons_of_mem _ ht))
    have ht := h t List.mem_cons_self
    cases t with
    | one c =>
      show errT (c :: rawT T) i = _ ∧ tokT (c :: rawT T) = _
      rw [errT_one ht, tokT_one ht, (ih _).1, (ih 0).2]
      exact ⟨rfl, rfl⟩
    | two d =>
      show errT (92 :: d :: rawT T) i = _ ∧ tokT (92 :: d :: rawT T) = _
      rw [errT_two ht, tokT_two ht, (ih _).1, (ih 0).2]
      exact ⟨rfl, rfl⟩
/-- So far. -/
def TokP (s : List UInt8) (i : Nat) (T : List Tk) : Prop := i ≤ s.length ∧ errT s 0 = errT (s.drop i) i ∧ tokT s = T ++ tokT (s.drop i)
theorem tokP_init (s : List UInt8) : TokP s 0 [] := ⟨Nat.zero_le _, rfl, rfl⟩
theorem at_eq {s : List UInt8} {i : Nat} (h : i < s.length) {c : UInt8} : s[i] = c ↔ (byteAt s i : Int) = c.toNat := by
  have e : byteAt s i = s[i].toNat := by simp [byteAt, List.getD, List.getElem?_eq_getElem h]
  rw [e, ← UInt8.toNat_inj]
  omega
theorem tokP_one {s : List UInt8} {i : Nat} {T : List Tk} (h : TokP s i T) (hi : i < s.length) (hc : (byteAt s i : Int) ≠ 92) : TokP s (i + 1) (T ++ [.one s[i]]) := by
  obtain ⟨_, h2, h3⟩ := h
  have hc : s[i] ≠ 92 := fun k => hc ((at_eq hi).1 k)
  rw [List.drop_eq_getElem_cons hi] at h2 h3
  rw [errT_one hc] at h2
  rw [tokT_one hc] at h3
  exact ⟨hi, h2, by rw [h3, List.append_assoc]; rfl⟩
theorem tokP_two {s : List UInt8} {i : Nat} {T : List Tk} (h : TokP s i T) (hi : i + 1 < s.length) (hc : (byteAt s i : Int) = 92) (hd : okE s[i + 1] = true) : TokP s (i + 2) (T ++ [.two s[i + 1]]) := by
  obtain ⟨_, h2, h3⟩ := h
  have hc : s[i] = 92 := (at_eq (by omega)).2 hc
  rw [List.drop_eq_getElem_cons (by omega : i < s.length), List.drop_eq_getElem_cons hi, hc] at h2 h3
  rw [errT_two hd] at h2
  rw [tokT_two hd] at h3
  exact ⟨hi, h2, by rw [h3, List.append_assoc]; rfl⟩
theorem tokP_miss {s : List UInt8} {i : Nat} {T : List Tk} (h : TokP s i T) (hi : i + 1 = s.length) (hc : (byteAt s i : Int) = 92) : errT s 0 = .at 7 ((i : Int) + 1) := by
  obtain ⟨_, h2, _⟩ := h
  have hc : s[i] = 92 := (at_eq (by omega)).2 hc
  rw [List.drop_eq_getElem_cons (by omega : i < s.length), List.drop_of_length_le (by omega), hc] at h2
  rw [h2]
  rfl
theorem tokP_bad {s : List UInt8} {i : Nat} {T : List Tk} (h : TokP s i T) (hi : i + 1 < s.length) (hc : (byteAt s i : Int) = 92) (hd : okE s[i + 1] = false) : errT s 0 = .at 3 ((i : Int) + 1) := by
  obtain ⟨_, h2, _⟩ := h
  have hc : s[i] = 92 := (at_eq (by omega)).2 hc
  rw [List.drop_eq_getElem_cons (by omega : i < s.length), List.drop_eq_getElem_cons hi, hc] at h2
  rw [h2]
  simp [errT, hd]
theorem tokP_end {s : List UInt8} {i : Nat} {T : List Tk} (h : TokP s i T) (hi : s.length ≤ i) : errT s 0 = .none ∧ tokT s = T := by
  obtain ⟨_, h2, h3⟩ := h
  rw [List.drop_of_length_le hi] at h2 h3
  exact ⟨h2, by simpa [tokT] using h3⟩
end Go.Proofs.YtidcpikoeohfbaaGreatDoor
namespace Go.Proofs.YtidcpikoeohfbaaGreatDoor
open Go
/-- The walk that cuts and takes \ away at once. -/
def stepP (at_ : List UInt8) (x : List (List UInt8) × List UInt8 × List UInt8) : Tk → List (List UInt8) × List UInt8 × List UInt8
  | .one c => if c ∈ at_ then (x.1 ++ [x.2.1], [], x.2.2 ++ [c]) else (x.1, x.2.1 ++ [c], x.2.2)
  | .two d => (x.1, x.2.1 ++ [escV d], x.2.2)
def sgP (at_ : List UInt8) (T : List Tk) : List (List UInt8) × List UInt8 × List UInt8 := T.foldl (stepP at_) ([], [], [])
/-- Tokens cut at some. -/
def stepT (c : UInt8) (x : List (List Tk) × List Tk) : Tk → List (List Tk) × List Tk
  | .one b => if b = c then (x.1 ++ [x.2], []) else (x.1, x.2 ++ [.one b])
  | .two d => (x.1, x.2 ++ [.two d])
def stT (c : UInt8) (T : List Tk) : List (List Tk) × List Tk := T.foldl (stepT c) ([], [])
def splT (c : UInt8) (T : List Tk) : List (List Tk) := (stT c T).1 ++ [(stT c T).2]
/-- Bytes cut at one that has an even number of \ ahead. -/
def stepB (c : UInt8) (x : List (List UInt8) × List UInt8 × Bool) (b : UInt8) : List (List UInt8) × List UInt8 × Bool :=
  if b = c ∧ x.2.2 = false then (x.1 ++ [x.2.1], [], b == 92 && !x.2.2) else (x.1, x.2.1 ++ [b], b == 92 && !x.2.2)
def stB (c : UInt8) (s : List UInt8) : List (List UInt8) × List UInt8 × Bool := s.foldl (stepB c) ([], [], false)
def cutL (c : UInt8) (s : List UInt8) : List (List UInt8) := (stB c s).1 ++ [(stB c s).2.1]
theorem sgP_snoc (a : List UInt8) (T : List Tk) (t : Tk) : sgP a (T ++ [t]) = stepP a (sgP a T) t := by unfold sgP; rw [List.foldl_append]; rfl
theorem stT_snoc (c : UInt8) (T : List Tk) (t : Tk) : stT c (T ++ [t]) = stepT c (stT c T) t := by unfold stT; rw [List.foldl_append]; rfl
theorem stB_snoc (c : UInt8) (s : List UInt8) (b : UInt8) : stB c (s ++ [b]) = stepB c (stB c s) b := by unfold stB; rw [List.foldl_append]; rfl
theorem stB_two (c : UInt8) (s : List UInt8) (a b : UInt8) : stB c (s ++ [a, b]) = stepB c (stepB c (stB c s) a) b := by unfold stB; rw [List.foldl_append]; rfl
theorem raw_snoc (T : List Tk) (t : Tk) : rawT (T ++ [t]) = rawT T ++ t.raw := by simp
theorem val_snoc (T : List Tk) (t : Tk) : valT (T ++ [t]) = valT T ++ [t.val] := by simp
theorem snoc_ok {T : List Tk} {t : Tk} (h : ∀ x ∈ T ++ [t], x.ok) : (∀ x ∈ T, x.ok) ∧ t.ok := ⟨fun x hx => h x (List.mem_append_left _ hx), h t (by simp)⟩
/-- Cutting bytes is cutting tokens. -/
theorem cut_tok {c : UInt8} (hc : c ≠ 92) : ∀ T : List Tk, (∀ t ∈ T, t.ok) → stB c (rawT T) = ((stT c T).1.map rawT, rawT (stT c T).2, false) := by
  refine snoc_ind (fun _ => rfl) fun T t ih h => ?_
  obtain ⟨h1, h2⟩ := snoc_ok h
  have ih := ih h1
  rw [raw_snoc, stT_snoc]
  cases t with
  | one b =>
    have h2 : b ≠ 92 := h2
    rw [show (Tk.one b).raw = [b] from rfl, stB_snoc, ih]
    unfold stepB stepT
    by_cases hb : b = c
    · subst hb
      simp [h2]
    · simp [hb, h2, Tk.raw]
  | two d =>
    rw [show (Tk.two d).raw = [92, d] from rfl, stB_two, ih]
    unfold stepT
    by_cases hd : d = 92
    · simp [stepB, hd, Ne.symm hc, Tk.raw]
    · simp [stepB, hd, Ne.symm hc, Tk.raw]
theorem stT_ok {c : UInt8} : ∀ T : List Tk, (∀ t ∈ T, t.ok) → (∀ T' ∈ (stT c T).1, ∀ t ∈ T', t.ok) ∧ ∀ t ∈ (stT c T).2, t.ok := by
  refine snoc_ind (fun _ => ⟨fun _ h => by simp [stT] at h, fun _ h => by simp [stT] at h⟩) fun T t ih h => ?_
  obtain ⟨h1, h2⟩ := snoc_ok h
  obtain ⟨i1, i2⟩ := ih h1
  rw [stT_snoc]
  have key : ∀ x ∈ (stT c T).2 ++ [t], x.ok := fun x hx => by
    rcases List.mem_append.1 hx with hx | hx
    · exact i2 x hx
    · rw [List.mem_singleton.1 hx]; exact h2
  cases t with
  | one b =>
    unfold stepT
    by_cases hb : b = c
    · simp only [hb, if_true]
      refine ⟨fun T' hT => ?_, fun x hx => by cases hx⟩
      rcases List.mem_append.1 hT with hT | hT
      · exact i1 T' hT
      · rw [List.mem_singleton.1 hT]; exact i2
    · simp only [hb, if_false]
      exact ⟨i1, key⟩
  | two d => exact ⟨i1, key⟩
theorem splT_ok {c : UInt8} {T : List Tk} (h : ∀ t ∈ T, t.ok) : ∀ T' ∈ splT c T, ∀ t ∈ T', t.ok := by
  obtain ⟨h1, h2⟩ := stT_ok (c := c) T h
  intro T' hT
  rcases List.mem_append.1 hT with hT | hT
  · exact h1 T' hT
  · rw [List.mem_singleton.1 hT]; exact h2
/-- The pieces of a text that may be. -/
theorem cutL_tok {c : UInt8} (hc : c ≠ 92) {T : List Tk} (h : ∀ t ∈ T, t.ok) : cutL c (rawT T) = (splT c T).map rawT := by
  unfold cutL splT
  rw [cut_tok hc T h, List.map_append]
  rfl
theorem sgP_nil : ∀ T : List Tk, sgP [] T = ([], valT T, []) := by
  refine snoc_ind rfl fun T t ih => ?_
  rw [sgP_snoc, ih, val_snoc]
  cases t <;> simp [stepP, Tk.val]
theorem sgP_one (c : UInt8) : ∀ T : List Tk, (sgP [c] T).1 = (stT c T).1.map valT ∧ (sgP [c] T).2.1 = valT (stT c T).2 := by
  refine snoc_ind ⟨rfl, rfl⟩ fun T t ih => ?_
  rw [sgP_snoc, stT_snoc]
  cases t with
  | one b =>
    unfold stepP stepT
    by_cases hb : b = c
    · simp [hb, ih.1, ih.2]
    · simp [hb, ih.1, ih.2, Tk.val]
  | two d => simp [stepP, stepT, ih.1, ih.2, Tk.val]
/-- A text put behind the last list. -/
def lastA (out : List (List (List UInt8))) (x : List UInt8) : List (List (List UInt8)) := out.dropLast ++ [out.getLast?.getD [] ++ [x]]
theorem lastA_snoc (out : List (List (List UInt8))) (l : List (List UInt8)) (x : List UInt8) : lastA (out ++ [l]) x = out ++ [l ++ [x]] := by simp [lastA]
def stepG (out : List (List (List UInt8))) (c : UInt8 × List UInt8) : List (List (List UInt8)) := lastA (if c.1 = 59 then out ++ [[]] else out) c.2
/-- Texts and what is between, as lists. -/
def grpS (l : List (List UInt8)) (cuts : List UInt8) : List (List (List UInt8)) := (cuts.zip l.tail).foldl stepG [[l.headD []]]
theorem grp_snoc (l : List (List UInt8)) (hl : l ≠ []) (cuts : List UInt8) (h : l.length = cuts.length + 1) (c : UInt8) (x : List UInt8) : grpS (l ++ [x]) (cuts ++ [c]) = stepG (grpS l cuts) (c, x) := by
  cases l with
  | nil => exact absurd rfl hl
  | cons a l =>
    have h : cuts.length = l.length := by simpa using h.symm
    unfold grpS
    simp only [List.cons_append, List.tail_cons, List.headD_cons]
    rw [List.zip_append h, List.foldl_append]
    rfl
def lstT (T : List Tk) : List (List UInt8) := (splT 44 T).map valT
theorem lstT_eq (T : List Tk) : lstT T = (stT 44 T).1.map valT ++ [valT (stT 44 T).2] := by simp [lstT, splT]
theorem stepG_comma (o : List (List (List UInt8))) (x : List UInt8) : stepG o (44, x) = lastA o x := rfl
theorem stepG_semi (o : List (List (List UInt8))) (x : List UInt8) : stepG o (59, x) = lastA (o ++ [[]]) x := rfl
theorem sgP_two : ∀ T : List Tk, (sgP [44, 59] T).1.length = (sgP [44, 59] T).2.2.length ∧ (sgP [44, 59] T).2.1 = valT (stT 44 (stT 59 T).2).2 ∧
    ∀ x, grpS ((sgP [44, 59] T).1 ++ [x]) (sgP [44, 59] T).2.2 = (stT 59 T).1.map lstT ++ [(stT 44 (stT 59 T).2).1.map valT ++ [x]] := by
  refine snoc_ind ⟨rfl, rfl, fun x => rfl⟩ fun T t ih => ?_
  obtain ⟨h1, h2, h3⟩ := ih
  rw [sgP_snoc, stT_snoc]
  cases t with
  | one b =>
    by_cases hb : b = 59
    · subst hb
      rw [show stepP [44, 59] (sgP [44, 59] T) (.one 59) = ((sgP [44, 59] T).1 ++ [(sgP [44, 59] T).2.1], [], (sgP [44, 59] T).2.2 ++ [59]) from rfl, show stepT 59 (stT 59 T) (.one 59) = ((stT 59 T).1 ++ [(stT 59 T).2], []) from rfl]
      refine ⟨by simp [h1], rfl, fun x => ?_⟩
      rw [grp_snoc _ (by simp) _ (by simp [h1]), h3, h2]
      rw [stepG_semi, lastA_snoc, List.map_append, List.map_cons, lstT_eq]
      simp [stT]
    · by_cases hb2 : b = 44
      · subst hb2
        rw [show stepP [44, 59] (sgP [44, 59] T) (.one 44) = ((sgP [44, 59] T).1 ++ [(sgP [44, 59] T).2.1], [], (sgP [44, 59] T).2.2 ++ [44]) from rfl, show stepT 59 (stT 59 T) (.one 44) = ((stT 59 T).1, (stT 59 T).2 ++ [.one 44]) from rfl]
        dsimp only
        rw [stT_snoc, show stepT 44 (stT 44 (stT 59 T).2) (.one 44) = ((stT 44 (stT 59 T).2).1 ++ [(stT 44 (stT 59 T).2).2], []) from rfl]
        refine ⟨by simp [h1], rfl, fun x => ?_⟩
        rw [grp_snoc _ (by simp) _ (by simp [h1]), h3, h2]
        rw [stepG_comma, lastA_snoc]
        simp
      · have e1 : stepP [44, 59] (sgP [44, 59] T) (.one b) = ((sgP [44, 59] T).1, (sgP [44, 59] T).2.1 ++ [b], (sgP [44, 59] T).2.2) := by simp [stepP, hb, hb2]
        have e2 : stepT 59 (stT 59 T) (.one b) = ((stT 59 T).1, (stT 59 T).2 ++ [.one b]) := by simp [stepT, hb]
        have e3 : stT 44 ((stT 59 T).2 ++ [.one b]) = ((stT 44 (stT 59 T).2).1, (stT 44 (stT 59 T).2).2 ++ [.one b]) := by rw [stT_snoc]; simp [stepT, hb2]
        rw [e1, e2]
        dsimp only
        rw [e3]
        exact ⟨h1, by rw [h2, val_snoc]; rfl, h3⟩
  | two d =>
    have e2 : stepT 59 (stT 59 T) (.two d) = ((stT 59 T).1, (stT 59 T).2 ++ [.two d]) := rfl
    have e3 : stT 44 ((stT 59 T).2 ++ [.two d]) = ((stT 44 (stT 59 T).2).1, (stT 44 (stT 59 T).2).2 ++ [.two d]) := by rw [stT_snoc]; rfl
    rw [e2, show stepP [44, 59] (sgP [44, 59] T) (.two d) = ((sgP [44, 59] T).1, (sgP [44, 59] T).2.1 ++ [escV d], (sgP [44, 59] T).2.2) from rfl]
    dsimp only
    rw [e3]
    exact ⟨h1, by rw [h2, val_snoc]; rfl, h3⟩
/-- Both ways to lists of texts. -/
theorem grp_tok (T : List Tk) : grpS ((sgP [44, 59] T).1 ++ [(sgP [44, 59] T).2.1]) (sgP [44, 59] T).2.2 = (splT 59 T).map lstT := by
  obtain ⟨_, h2, h3⟩ := sgP_two T
  rw [h3, h2, splT, List.map_append, List.map_cons, lstT_eq]
  rfl
end Go.Proofs.YtidcpikoeohfbaaGreatDoor
namespace Go.Proofs.YtidcpikoeohfbaaGreatDoor
open Go
/-- How many \ stand right ahead. -/
def bsN (s : List UInt8) : Nat → Nat
  | 0 => 0
  | i + 1 => if (byteAt s i : Int) = 92 then bsN s i + 1 else 0
theorem bsN_le (s : List UInt8) : ∀ i, bsN s i ≤ i
  | 0 => Nat.le_refl _
  | i + 1 => by
    have := bsN_le s i
    unfold bsN
    split <;> omega
theorem bsN_at (s : List UInt8) : ∀ i n, n < bsN s i → (byteAt s (i - n - 1) : Int) = 92
  | 0, n, h => absurd h (Nat.not_lt_zero _)
  | i + 1, n, h => by
    unfold bsN at h
    split at h
    · rename_i hb
      cases n with
      | zero => exact hb
      | succ n =>
        rw [show i + 1 - (n + 1) - 1 = i - n - 1 by omega]
        exact bsN_at s i n (by omega)
    · exact absurd h (Nat.not_lt_zero _)
theorem bsN_stop (s : List UInt8) : ∀ i, bsN s i = i ∨ (byteAt s (i - bsN s i - 1) : Int) ≠ 92
  | 0 => .inl rfl
  | i + 1 => by
    rcases bsN_stop s i with h | h
    · unfold bsN
      split
      · left; rw [h]
      · rename_i hb; exact .inr hb
    · unfold bsN
      split
      · right
        rw [show i + 1 - (bsN s i + 1) - 1 = i - bsN s i - 1 by omega]
        exact h
      · rename_i hb; exact .inr hb
/-- So far. -/
def CutP (s : List UInt8) (c : UInt8) (i : Nat) (out : List (List UInt8)) (fr : Nat) : Prop := i ≤ s.length ∧ fr ≤ i ∧ out.length ≤ i ∧ stB c (s.take i) = (out, (s.take i).drop fr, decide (bsN s i % 2 = 1))
theorem cutP_init (s : List UInt8) (c : UInt8) : CutP s c 0 [] 0 := ⟨Nat.zero_le _, Nat.le_refl _, Nat.le_refl _, rfl⟩
theorem odd_next (s : List UInt8) {i : Nat} (h : i < s.length) : (s[i] == 92 && !decide (bsN s i % 2 = 1)) = decide (bsN s (i + 1) % 2 = 1) := by
  have e : (s[i] == 92) = decide ((byteAt s i : Int) = 92) := by
    rw [Bool.eq_iff_iff, beq_iff_eq, decide_eq_true_eq, at_eq h]; rfl
  rw [e]
  rw [show bsN s (i + 1) = if (byteAt s i : Int) = 92 then bsN s i + 1 else 0 from rfl]
  by_cases hb : (byteAt s i : Int) = 92
  · simp only [hb, decide_true, Bool.true_and, if_true]
    rw [Bool.eq_iff_iff]
    simp only [Bool.not_eq_true', decide_eq_false_iff_not, decide_eq_true_eq]
    omega
  · simp [hb]
theorem cutP_cut {s : List UInt8} {c : UInt8} {i fr : Nat} {out : List (List UInt8)} (h : CutP s c i out fr) (hi : i < s.length) (hb : (byteAt s i : Int) = c.toNat) (he : bsN s i % 2 = 0) : CutP s c (i + 1) (out ++ [(s.take i).drop fr]) (i + 1) := by
  obtain ⟨_, h1, h0, h2⟩ := h
  have hb := (at_eq hi).2 hb
  refine ⟨hi, Nat.le_refl _, by simp; omega, ?_⟩
  rw [List.take_succ_eq_append_getElem hi, stB_snoc, h2]
  unfold stepB
  rw [if_pos ⟨hb, by simp [he]⟩]
  rw [odd_next s hi]
  simp
theorem cutP_go {s : List UInt8} {c : UInt8} {i fr : Nat} {out : List (List UInt8)} (h : CutP s c i out fr) (hi : i < s.length) (hb : ¬ ((byteAt s i : Int) = c.toNat ∧ bsN s i % 2 = 0)) : CutP s c (i + 1) out fr := by
  obtain ⟨_, h1, h0, h2⟩ := h
  refine ⟨hi, by omega, by omega, ?_⟩
  rw [List.take_succ_eq_append_getElem hi, stB_snoc, h2]
  unfold stepB
  rw [if_neg ?_]
  · rw [odd_next s hi, List.drop_append_of_le_length (by rw [List.length_take]; omega)]
  · rintro ⟨k1, k2⟩
    refine hb ⟨(at_eq hi).1 k1, ?_⟩
    have : ¬ bsN s i % 2 = 1 := by simpa using k2
    omega
theorem cutP_end {s : List UInt8} {c : UInt8} {i fr : Nat} {out : List (List UInt8)} (h : CutP s c i out fr) (hi : s.length ≤ i) : cutL c s = out ++ [s.drop fr] := by
  obtain ⟨_, h1, h0, h2⟩ := h
  rw [List.take_of_length_le hi] at h2
  unfold cutL
  rw [h2]
end Go.Proofs.YtidcpikoeohfbaaGreatDoor
namespace Go.Proofs.YtidcpikoeohfbaaGreatDoor
open Go Go.RowKit
inductive AMode where
  | ret
  | pan (v : AVal)
  | rcv (v : AVal)
def ModeRel (R : Seal) : AMode → FrameMode → Prop
  | .ret, u => u = .returning
  | .pan v, u => ∃ x, u = .panicking [{ v := x, recovered := false }] ∧ Rel R v x
  | .rcv v, u => ∃ x, u = .panicking [{ v := x, recovered := true }] ∧ Rel R v x
theorem ModeRel.mono {R R' : Seal} (h : R.le R') : ∀ {m : AMode} {u : FrameMode}, ModeRel R m u → ModeRel R' m u
  | .ret, _, x => x
  | .pan _, _, ⟨y, e, r⟩ => ⟨y, e, rel_mono h r⟩
  | .rcv _, _, ⟨y, e, r⟩ => ⟨y, e, rel_mono h r⟩
section
variable {P : Program} [Tab P] {G : Glo} {GL : List (Nat × List AVal)} {n : Nat} {H : Heap} {m : AMode}
omit [Tab P] in
omit [Tab P] in
omit [Tab P] in
omit [Tab P] in
omit [Tab P] in
/-! ## As a function leaves -/
variable {rs : List ResultVar} {env : Env} {Qf : ARes → Heap → Prop} {D : List Deferred}
omit [Tab P] in
omit [Tab P] in
omit [Tab P] in
end
end Go.Proofs.YtidcpikoeohfbaaGreatDoor
namespace Go.Proofs.YtidcpikoeohfbaaGreatDoor
open Go Go.RowKit
theorem filterMap_set {α β : Type} {f : α → Option β} {x y : α} (hf : f y = f x) : ∀ {h : List α} {i : Nat}, h[i]? = some x → (h.set i y).filterMap f = h.filterMap f
  | [], i, e => by simp at e
  | z :: h, 0, e => by
    simp only [List.getElem?_cons_zero, Option.some.injEq] at e
    subst e
    simp [List.filterMap_cons, hf]
  | z :: h, i + 1, e => by
    simp only [List.getElem?_cons_succ] at e
    simp only [List.set_cons_succ, List.filterMap_cons, filterMap_set hf e]
theorem MS.setEnt {C : Ctx} {R : Seal} {H : Heap} {w : World} {i : Nat} {x y : HEnt} (h : MS C R H w) (hi : H[i]? = some x) (hb : y.blk = x.blk) (hy : y.holds R w) : MS C R (H.set i y) w := by
  have hx : x ∈ H := List.mem_of_getElem? hi
  have hm : ∀ z, z ∈ H.set i y → z ∈ H ∨ z = y := fun z hz => List.mem_or_eq_of_mem_set hz
  refine ⟨h.sealed, h.ge, h.fresh, ⟨fun z hz => ?_, ?_, fun z hz b hzb => ?_⟩, fun z hz b hzb => ?_, h.ext⟩
  · rcases hm z hz with h1 | rfl
    · exact h.heap.holds z h1
    · exact hy
  · rw [filterMap_set hb hi]; exact h.heap.nodup
  · rcases hm z hz with h1 | rfl
    · exact h.heap.apart z h1 b hzb
    · exact h.heap.apart x hx b (by rw [← hb]; exact hzb)
  · rcases hm z hz with h1 | rfl
    · exact h.own z h1 b hzb
    · exact h.own x hx b (by rw [← hb]; exact hzb)
theorem relL_set {R : Seal} {a a' : AVal} (ht : ∀ v, RelC R a [v] → RelC R a' [v]) : ∀ {cs : List AVal} {vs : List Value} {p : Nat}, RelL R cs vs → cs[p]? = some a → RelL R (cs.set p a') vs
  | [], _, _, _, e => by simp at e
  | c :: cs, _, 0, ⟨v, t, rfl, h1, h2⟩, e => by
    simp only [List.getElem?_cons_zero, Option.some.injEq] at e
    subst e
    exact ⟨v, t, rfl, ht v h1, h2⟩
  | c :: cs, _, p + 1, ⟨v, t, rfl, h1, h2⟩, e => by
    simp only [List.getElem?_cons_succ] at e
    exact ⟨v, t, rfl, h1, relL_set ht h2 e⟩
/-- An entry whose cell is told otherwise. -/
inductive CellTo (R : Seal) (p : Nat) (a' : AVal) : HEnt → HEnt → Prop
  | cells {b eT cs a} (hp : cs[p]? = some a) (ht : ∀ v, RelC R a [v] → RelC R a' [v]) : CellTo R p a' (.cells b eT cs) (.cells b eT (cs.set p a'))
  | row {v eT sz n cs a} (hp : cs[p]? = some a) (ht : ∀ v, RelC R a [v] → RelC R a' [v]) : CellTo R p a' (.row v eT sz n cs) (.row v eT sz n (cs.set p a'))
theorem CellTo.holds {R : Seal} {p : Nat} {a' : AVal} {x y : HEnt} {w : World} (h : CellTo R p a' x y) (hx : x.holds R w) : y.holds R w ∧ y.blk = x.blk := by
  cases h with
  | cells hp ht =>
    obtain ⟨C, e, fz, hb, hl, hf⟩ := hx
    exact ⟨⟨C, e, fz, hb, relL_set ht hl hp, hf⟩, rfl⟩
  | row hp ht =>
    rename_i v eT sz n cs a
    obtain ⟨hlen, y⟩ := hx
    refine ⟨⟨by rw [List.length_set]; exact hlen, ?_⟩, by cases v with | slice a l c => cases a <;> rfl | _ => rfl⟩
    rcases y with ⟨h1, h2⟩ | ⟨b, cap, C, e, fz, rfl, hb, hs, hn, hl, hf⟩
    · exact .inl ⟨h1, h2⟩
    · exact .inr ⟨b, cap, C, e, fz, rfl, hb, hs, hn, relL_set ht hl hp, hf⟩
def To (C : Ctx) (n : Nat) (e : Env) (h : Heap) (e' : Env) (h' : Heap) : Prop :=
  ∀ R a w, MS C R h w → FS C.D n R e a → ∃ R', R.le R' ∧ MS C R' h' w ∧ FS C.D n R' e' a
section
variable {C : Ctx} {n : Nat} {e e' e'' : Env} {h h' h'' : Heap}
theorem to_trans (a : To C n e h e' h') (b : To C n e' h' e'' h'') : To C n e h e'' h'' := fun R x w hm hf =>
  let ⟨R1, l1, m1, f1⟩ := a R x w hm hf
  let ⟨R2, l2, m2, f2⟩ := b R1 x w m1 f1
  ⟨R2, Seal.le_trans l1 l2, m2, f2⟩
theorem to_sub (hs : Env.sub e e') (hh : h'.Sublist h) : To C n e h e' h' := fun R _ _ hm hf => ⟨R, Seal.le_refl R, hm.drop hh, hf.sub hs⟩
theorem to_ghost (sz : Nat) : To C n e h e (h ++ [.row (.slice none 0 0) none sz 0 []]) := fun R a w hm hf => by
  refine ⟨R, Seal.le_refl R, MS.perm (H := .row (.slice none 0 0) none sz 0 [] :: h) ?_ (List.perm_append_singleton _ h).symm, hf⟩
  refine ⟨hm.sealed, hm.ge, hm.fresh, ⟨fun z hz => ?_, hm.heap.nodup, fun z hz b hb => ?_⟩, fun z hz b hb => ?_, hm.ext⟩
  · rcases List.mem_cons.1 hz with rfl | hz
    · exact ⟨by simp, .inl ⟨rfl, rfl⟩⟩
    · exact hm.heap.holds z hz
  · rcases List.mem_cons.1 hz with rfl | hz
    · cases hb
    · exact hm.heap.apart z hz b hb
  · rcases List.mem_cons.1 hz with rfl | hz
    · cases hb
    · exact hm.own z hz b hb
theorem to_cell {i p : Nat} {a' : AVal} {x y : HEnt} (hi : h[i]? = some x) (hc : ∀ R, CellTo R p a' x y) : To C n e h e (h.set i y) := fun R a w hm hf => by
  obtain ⟨h1, h2⟩ := (hc R).holds (hm.heap.holds x (List.mem_of_getElem? hi))
  exact ⟨R, Seal.le_refl R, hm.setEnt hi h2 h1, hf⟩
/-- A row of the call's own is sealed; the cell that holds it is told so. -/
theorem to_seal {i k p sz m : Nat} {v : Value} {eT : Option TypeId} {cs : List AVal} {x y : HEnt} (f : Nat → AVal) (hi : h[i]? = some (.row v eT sz m cs)) (hk : (h.eraseIdx i)[k]? = some x)
    (hf : ∀ j, j < m → (f j).cells = (cs.drop (j * sz)).take sz ∧ (f j).plain = true) (hc : ∀ R, Rel R (.list sz m f) v → CellTo R p (.list sz m f) x y) : To C n e h e ((h.eraseIdx i).set k y) := fun R a w hm hfs => by
  obtain ⟨R', hle, hm', hr⟩ := MS.seal_row (hm.perm (perm_front hi)) hf
  obtain ⟨h1, h2⟩ := (hc R' hr).holds (hm'.heap.holds x (List.mem_of_getElem? hk))
  exact ⟨R', hle, hm'.setEnt hk h2 h1, hfs.mono hle⟩
theorem own_list {R : Seal} {j sz m : Nat} {u v : Value} {f : Nat → AVal} (hr : Rel R (.list sz m f) v) : RelC R (.own j v) [u] → RelC R (.list sz m f) [u] := by
  rintro ⟨e, _⟩
  simp only [List.cons.injEq, and_true] at e
  subst e
  exact rel_one hr rfl
theorem nil_own {R : Seal} {j : Nat} {u : Value} : RelC R (.raw (.slice none 0 0)) [u] → RelC R (.own j (.slice none 0 0)) [u] := by
  intro e
  have e : [u] = [.slice none 0 0] := e
  exact ⟨e, rfl⟩
theorem nil_list {R : Seal} {sz : Nat} {f : Nat → AVal} {u : Value} : RelC R (.raw (.slice none 0 0)) [u] → RelC R (.list sz 0 f) [u] := by
  intro e
  have e : [u] = [.slice none 0 0] := e
  exact ⟨none, 0, e, Nat.le_refl _, .inl rfl⟩
end
section
variable {P : Program} [Tab P] {C : Ctx} {n : Nat} {env : Env} {H : Heap} {Q : AExit → Env → Heap → Prop} {G : Glo} {GL : List (Nat × List AVal)}
structure NxT {X : Type} (C : Ctx) (n : Nat) (I : X → Env) (J : X → Heap) (Inv : X → Prop) (μ : X → Nat) (x : X) (e : Env) (h : Heap) : Prop where
  h : ∃ x', Inv x' ∧ μ x' < μ x ∧ To C n e h (I x') (J x')
theorem nxT {X : Type} {I : X → Env} {J : X → Heap} {Inv : X → Prop} {μ : X → Nat} {x : X} {e : Env} {h : Heap} (x' : X) (h1 : Inv x') (h2 : μ x' < μ x) (h3 : To C n e h (I x') (J x')) : NxT C n I J Inv μ x e h := ⟨⟨x', h1, h2, h3⟩⟩
theorem lpT {c : Code} {X : Type} (hC : C.G = G) (hGL : GloAll G GL) (I : X → Env) (J : X → Heap) (Inv : X → Prop) (μ : X → Nat) (x0 : X) (h0 : Inv x0) (hto : To C n env H (I x0) (J x0))
    (round : ∀ x, Inv x → codeX P C n G GL c (I x) (J x) (thenQ (fun e h => NxT C n I J Inv μ x e h) Q)) : Lp P C n c env H Q := by
  refine ⟨fun R a w hm hf => ?_⟩
  obtain ⟨R0, _, hm, hf⟩ := hto R a w hm hf
  refine wp_loop_ghost (fun m a w => ∃ x R, Inv x ∧ μ x = m ∧ MS C R (J x) w ∧ FS C.D n R (I x) a) (μ x0) ⟨x0, R0, h0, rfl, hm, hf⟩ ?_
  rintro m a w ⟨x, R, hx, rfl, hm, hf⟩
  refine wp_mono (codeX_ok hC hGL _ _ _ _ (round x hx) R a w hm hf) ?_
  rintro e a' w' ⟨x', en, H', R', q, er, hm', hf'⟩
  cases x' with
  | normal =>
    simp only [ExitRel] at er; subst er
    obtain ⟨x', hx', hlt, hto⟩ := NxT.h q
    obtain ⟨R2, _, hm2, hf2⟩ := hto R' a' w' hm' hf'
    exact ⟨μ x', hlt, x', R2, hx', rfl, hm2, hf2⟩
  | exit i => simp only [ExitRel] at er; subst er; exact ⟨.exit i, en, H', R', q, rfl, hm', hf'⟩
  | goto i => simp only [ExitRel] at er; subst er; exact ⟨.goto i, en, H', R', q, rfl, hm', hf'⟩
  | ret => simp only [ExitRel] at er; subst er; exact ⟨.ret, en, H', R', q, rfl, hm', hf'⟩
  | panic v => obtain ⟨y, rfl, hr⟩ := er; exact ⟨.panic v, en, H', R', q, ⟨y, rfl, hr⟩, hm', hf'⟩
omit [Tab P] in
theorem lp_to {c : Code} {e' : Env} {h' : Heap} (hto : To C n env H e' h') (k : Lp P C n c e' h' Q) : Lp P C n c env H Q := by
  refine ⟨fun R a w hm hf => ?_⟩
  obtain ⟨R0, _, hm, hf⟩ := hto R a w hm hf
  exact k.h R0 a w hm hf
omit [Tab P] in
theorem dw_to {id : Nat} {ops : Array Oper} {e' : Env} {h' : Heap} (hto : To C n env H e' h') (k : Dw P C n id ops e' h' Q) : Dw P C n id ops env H Q := by
  refine ⟨fun R a w hm hf => ?_⟩
  obtain ⟨R0, _, hm, hf⟩ := hto R a w hm hf
  exact k.h R0 a w hm hf
/-- What is handed back may be told otherwise. -/
def ResTo (res : ARes) (H : Heap) (v : AVal) : Prop := ∀ (C : Ctx) (R : Seal) (w : World) (e : Ending), MS C R H w → EndRel R res e → ∃ R', MS C R' [] w ∧ EndRel R' (.ret v) e
omit [Tab P] in
theorem fn_told {f : FuncId} {avs : List AVal} {H : Heap} {Qf : ARes → Heap → Prop} {v : AVal} (h : FnSpec P G f avs H Qf) (hq : ∀ r H', Qf r H' → ResTo r H' v) : FnSpec P G f avs H (fun r H' => r = .ret v ∧ H' = []) := by
  intro R w args hG hm ha
  rcases h R w args hG hm ha with ⟨h1, h2⟩ | ⟨x, w', h1, res, H', R', q, er, hm'⟩
  · exact .inl ⟨h1, h2.mono fun e w' ⟨res, H', R', q, er, hm'⟩ => let ⟨R2, m2, e2⟩ := hq _ _ q _ _ _ _ hm' er; ⟨.ret v, [], R2, ⟨rfl, rfl⟩, e2, m2⟩⟩
  · obtain ⟨R2, m2, e2⟩ := hq _ _ q _ _ _ _ hm' er
    exact .inr ⟨x, w', h1, .ret v, [], R2, ⟨rfl, rfl⟩, e2, m2⟩
end
end Go.Proofs.YtidcpikoeohfbaaGreatDoor
namespace Go.Proofs.YtidcpikoeohfbaaGreatDoor
open Go Go.RowKit
theorem idx5 (b : Int) : idxB [92, 44, 59, 110, 78] b = if b = 92 then 0 else if b = 44 then 1 else if b = 59 then 2 else if b = 110 then 3 else if b = 78 then 4 else -1 := by
  unfold idxB
  simp only [idxF]
  by_cases h1 : b = 92
  · subst h1; rfl
  by_cases h2 : b = 44
  · subst h2; rfl
  by_cases h3 : b = 59
  · subst h3; rfl
  by_cases h4 : b = 110
  · subst h4; rfl
  by_cases h5 : b = 78
  · subst h5; rfl
  rw [if_neg h1, if_neg h2, if_neg h3, if_neg h4, if_neg h5, if_neg (fun h => h1 h.symm), if_neg (fun h => h2 h.symm), if_neg (fun h => h3 h.symm), if_neg (fun h => h4 h.symm), if_neg (fun h => h5 h.symm)]
/-- The text without \; none where it isn't right. -/
def unS (s : List UInt8) : List UInt8 := match errT s 0 with
  | .none => valT (tokT s)
  | _ => []
theorem unS_ok {s : List UInt8} (h : errT s 0 = .none) : unS s = valT (tokT s) := by unfold unS; rw [h]
theorem unS_at {s : List UInt8} {e p : Int} (h : errT s 0 = .at e p) : unS s = [] := by unfold unS; rw [h]
theorem okE_at {s : List UInt8} {i : Nat} (h : i < s.length) : okE s[i] = decide ((byteAt s i : Int) = 92 ∨ (byteAt s i : Int) = 44 ∨ (byteAt s i : Int) = 59 ∨ (byteAt s i : Int) = 110 ∨ (byteAt s i : Int) = 78) := by
  unfold okE
  simp only [at_eq h]
  rfl
theorem escV_n {s : List UInt8} {i : Nat} (h : i < s.length) (hb : (byteAt s i : Int) = 110 ∨ (byteAt s i : Int) = 78) : escV s[i] = 10 := by
  unfold escV
  rw [if_pos (hb.imp (at_eq (c := 110) h).2 (at_eq (c := 78) h).2)]
theorem escV_s {s : List UInt8} {i : Nat} (h : i < s.length) (hb : ¬ ((byteAt s i : Int) = 110 ∨ (byteAt s i : Int) = 78)) : escV s[i] = s[i] := by
  unfold escV
  rw [if_neg (fun k => hb (k.imp (at_eq (c := 110) h).1 (at_eq (c := 78) h).1))]
theorem take_one {s : List UInt8} {i : Nat} (h : i < s.length) : (s.take (i + 1)).drop i = [s[i]] := by
  rw [List.take_succ_eq_append_getElem h, List.drop_append_of_le_length (by rw [List.length_take]; omega), List.drop_of_length_le (by rw [List.length_take]; omega)]
  rfl
theorem val_len (T : List Tk) : (valT T).length = T.length := by simp
set_option maxRecDepth 20000
set_option maxHeartbeats 8000000
set_option linter.unusedSimpArgs false
set_option linter.unusedVariables false
attribute [local irreducible] AWp AOps SrcOK OrOk GloAll FnSpec byteAt escV idxB
theorem ref_Unescape {G : Glo} (s : List UInt8) (hl : s.length ≤ 2000000) : FnIs Tryz.prog G 12 [.str s] (.tuple [.str (unS s), .agg [.int .i64 (errT s 0).e, .int .i64 (errT s 0).p]]) := by
  have hgd := ref_Good (G := G)
  have hI := fun (b : Int) h0 h1 => strings_IndexByte (G := G) [92, 44, 59, 110, 78] b h0 h1
  have hGL : GloAll G [] := gloAll_nil
  refine fn_x Tryz.func12 Tryz.call12 rfl rfl rfl rfl hGL ?_
  intro C hC
  repeat' (first
    | (conv => whnf); first
      | refine .w ?_ | (first | refine Ix.v ?_ | refine Sd.v ?_ | refine Sl.v ?_) | apply sc_true | apply sc_false
      | (first | apply sc_lt | apply sc_nlt | apply sc_eq | apply sc_neq | apply sc_nil | apply sc_nnil) <;> (intro hb; try exact dd hb)
      | apply sc_not | (apply sc_i <;> intro hb) | (apply bx_i; intro hbd) | (apply gt_i; assumption; exact rfl)
      | (apply cx_is; first | fail) | (apply ab_i; intro bl) | (apply rt_is; exact rfl) | exact rt_w
      | exact True.intro | (apply bc_i; intro C hC) | apply bt_i | apply og_n | (apply og_a; exact rfl))
  all_goals (try conv => whnf)
  refine lp hC hGL (fun (x : Nat × List Tk) => [(0, .str s), (3, .own 0 (.pointer (some ⟨bl, 0, none⟩))), (4, .str (valT x.2)), (5, .int .i64 (x.1 : Nat))]) (fun _ => [.cells bl (some 29) [.int .i64 0, .int .i64 0]]) (fun x => TokP s x.1 x.2 ∧ x.2.length ≤ x.1) (fun x => s.length - x.1) (0, []) ?_ env_w rfl ?_
  · exact ⟨tokP_init s, Nat.le_refl _⟩
  rintro ⟨i, T⟩ ⟨hT, hlT⟩
  have hT : TokP s i T := hT
  have hlT : T.length ≤ i := hlT
  have hi := hT.1
  have hv := val_len T
  by_cases hA : i + 1 < s.length ∧ (byteAt s i : Int) = 92
  · obtain ⟨hA1, hA2⟩ := hA
    have hbl := byteAt_lt s (i + 1)
    have hJ := hI (byteAt s (i + 1) : Int) (by omega) (by omega)
    rw [idx5] at hJ
    have hok := okE_at hA1
    by_cases k1 : (byteAt s (i + 1) : Int) = 92
    · rw [if_pos k1] at hJ
      repeat' (first
        | (conv => whnf); first
          | refine .w ?_ | (first | refine Ix.v ?_ | refine Sd.v ?_ | refine Sl.v ?_) | apply sc_true | apply sc_false
          | (first | apply sc_lt | apply sc_nlt | apply sc_eq | apply sc_neq | apply sc_nil | apply sc_nnil) <;> (intro hb; try exact dd hb)
          | apply sc_not | (apply sc_i <;> intro hb) | (apply bx_i; intro hbd) | (apply gt_i; assumption; exact rfl)
          | (apply cx_is; first | exact hJ) | (apply ab_i; intro bl) | (apply rt_is; exact rfl) | exact rt_w
          | exact True.intro | (apply bc_i; intro C hC) | apply bt_i | apply og_n | (apply og_a; exact rfl))
      all_goals (try conv => whnf)
      refine nxt (i + 2, T ++ [.two s[i + 1]]) ?_ ?_ ⟨rfl, rfl, ?_, rfl, trivial⟩ rfl
      · exact ⟨tokP_two hT hA1 hA2 (by rw [hok]; simp [k1]), by simp; omega⟩
      · show s.length - (i + 2) < s.length - i
        omega
      · refine congrArg (fun l => some (AVal.str l)) ?_
        rw [val_snoc]
        refine congrArg (valT T ++ ·) ?_
        show [92] = [escV s[i + 1]]
        rw [escV_s hA1 (by omega), (at_eq hA1).2 (show _ = ((92 : UInt8).toNat : Int) from k1)]
    by_cases k2 : (byteAt s (i + 1) : Int) = 44
    · rw [if_neg k1, if_pos k2] at hJ
      repeat' (first
        | (conv => whnf); first
          | refine .w ?_ | (first | refine Ix.v ?_ | refine Sd.v ?_ | refine Sl.v ?_) | apply sc_true | apply sc_false
          | (first | apply sc_lt | apply sc_nlt | apply sc_eq | apply sc_neq | apply sc_nil | apply sc_nnil) <;> (intro hb; try exact dd hb)
          | apply sc_not | (apply sc_i <;> intro hb) | (apply bx_i; intro hbd) | (apply gt_i; assumption; exact rfl)
          | (apply cx_is; first | exact hJ) | (apply ab_i; intro bl) | (apply rt_is; exact rfl) | exact rt_w
          | exact True.intro | (apply bc_i; intro C hC) | apply bt_i | apply og_n | (apply og_a; exact rfl))
      all_goals (try conv => whnf)
      refine nxt (i + 2, T ++ [.two s[i + 1]]) ?_ ?_ ⟨rfl, rfl, ?_, rfl, trivial⟩ rfl
      · exact ⟨tokP_two hT hA1 hA2 (by rw [hok]; simp [k2]), by simp; omega⟩
      · show s.length - (i + 2) < s.length - i
        omega
      · refine congrArg (fun l => some (AVal.str l)) ?_
        rw [val_snoc]
        refine congrArg (valT T ++ ·) ?_
        show [44] = [escV s[i + 1]]
        rw [escV_s hA1 (by omega), (at_eq hA1).2 (show _ = ((44 : UInt8).toNat : Int) from k2)]
    by_cases k3 : (byteAt s (i + 1) : Int) = 59
    · rw [if_neg k1, if_neg k2, if_pos k3] at hJ
      repeat' (first
        | (conv => whnf); first
          | refine .w ?_ | (first | refine Ix.v ?_ | refine Sd.v ?_ | refine Sl.v ?_) | apply sc_true | apply sc_false
          | (first | apply sc_lt | apply sc_nlt | apply sc_eq | apply sc_neq | apply sc_nil | apply sc_nnil) <;> (intro hb; try exact dd hb)
          | apply sc_not | (apply sc_i <;> intro hb) | (apply bx_i; intro hbd) | (apply gt_i; assumption; exact rfl)
          | (apply cx_is; first | exact hJ) | (apply ab_i; intro bl) | (apply rt_is; exact rfl) | exact rt_w
          | exact True.intro | (apply bc_i; intro C hC) | apply bt_i | apply og_n | (apply og_a; exact rfl))
      all_goals (try conv => whnf)
      refine nxt (i + 2, T ++ [.two s[i + 1]]) ?_ ?_ ⟨rfl, rfl, ?_, rfl, trivial⟩ rfl
      · exact ⟨tokP_two hT hA1 hA2 (by rw [hok]; simp [k3]), by simp; omega⟩
      · show s.length - (i + 2) < s.length - i
        omega
      · refine congrArg (fun l => some (AVal.str l)) ?_
        rw [val_snoc]
        refine congrArg (valT T ++ ·) ?_
        show [59] = [escV s[i + 1]]
        rw [escV_s hA1 (by omega), (at_eq hA1).2 (show _ = ((59 : UInt8).toNat : Int) from k3)]
    by_cases k4 : (byteAt s (i + 1) : Int) = 110
    · rw [if_neg k1, if_neg k2, if_neg k3, if_pos k4] at hJ
      repeat' (first
        | (conv => whnf); first
          | refine .w ?_ | (first | refine Ix.v ?_ | refine Sd.v ?_ | refine Sl.v ?_) | apply sc_true | apply sc_false
          | (first | apply sc_lt | apply sc_nlt | apply sc_eq | apply sc_neq | apply sc_nil | apply sc_nnil) <;> (intro hb; try exact dd hb)
          | apply sc_not | (apply sc_i <;> intro hb) | (apply bx_i; intro hbd) | (apply gt_i; assumption; exact rfl)
          | (apply cx_is; first | exact hJ) | (apply ab_i; intro bl) | (apply rt_is; exact rfl) | exact rt_w
          | exact True.intro | (apply bc_i; intro C hC) | apply bt_i | apply og_n | (apply og_a; exact rfl))
      all_goals (try conv => whnf)
      refine nxt (i + 2, T ++ [.two s[i + 1]]) ?_ ?_ ⟨rfl, rfl, ?_, rfl, trivial⟩ rfl
      · exact ⟨tokP_two hT hA1 hA2 (by rw [hok]; simp [k4]), by simp; omega⟩
      · show s.length - (i + 2) < s.length - i
        omega
      · refine congrArg (fun l => some (AVal.str l)) ?_
        rw [val_snoc]
        refine congrArg (valT T ++ ·) ?_
        show [10] = [escV s[i + 1]]
        rw [escV_n hA1 (by omega)]
    by_cases k5 : (byteAt s (i + 1) : Int) = 78
    · rw [if_neg k1, if_neg k2, if_neg k3, if_neg k4, if_pos k5] at hJ
      repeat' (first
        | (conv => whnf); first
          | refine .w ?_ | (first | refine Ix.v ?_ | refine Sd.v ?_ | refine Sl.v ?_) | apply sc_true | apply sc_false
          | (first | apply sc_lt | apply sc_nlt | apply sc_eq | apply sc_neq | apply sc_nil | apply sc_nnil) <;> (intro hb; try exact dd hb)
          | apply sc_not | (apply sc_i <;> intro hb) | (apply bx_i; intro hbd) | (apply gt_i; assumption; exact rfl)
          | (apply cx_is; first | exact hJ) | (apply ab_i; intro bl) | (apply rt_is; exact rfl) | exact rt_w
          | exact True.intro | (apply bc_i; intro C hC) | apply bt_i | apply og_n | (apply og_a; exact rfl))
      all_goals (try conv => whnf)
      refine nxt (i + 2, T ++ [.two s[i + 1]]) ?_ ?_ ⟨rfl, rfl, ?_, rfl, trivial⟩ rfl
      · exact ⟨tokP_two hT hA1 hA2 (by rw [hok]; simp [k5]), by simp; omega⟩
      · show s.length - (i + 2) < s.length - i
        omega
      · refine congrArg (fun l => some (AVal.str l)) ?_
        rw [val_snoc]
        refine congrArg (valT T ++ ·) ?_
        show [10] = [escV s[i + 1]]
        rw [escV_n hA1 (by omega)]
    rw [if_neg k1, if_neg k2, if_neg k3, if_neg k4, if_neg k5] at hJ
    have he := tokP_bad hT hA1 hA2 (by rw [hok]; simp [k1, k2, k3, k4, k5])
    repeat' (first
      | (conv => whnf); first
        | refine .w ?_ | (first | refine Ix.v ?_ | refine Sd.v ?_ | refine Sl.v ?_) | apply sc_true | apply sc_false
        | (first | apply sc_lt | apply sc_nlt | apply sc_eq | apply sc_neq | apply sc_nil | apply sc_nnil) <;> (intro hb; try exact dd hb)
        | apply sc_not | (apply sc_i <;> intro hb) | (apply bx_i; intro hbd) | (apply gt_i; assumption; exact rfl)
        | (apply cx_is; first | exact hJ) | (apply ab_i; intro bl) | (apply rt_is; exact rfl) | exact rt_w
        | exact True.intro | (apply bc_i; intro C hC) | apply bt_i | apply og_n | (apply og_a; exact rfl))
    all_goals (try conv => whnf)
    apply rt_is
    rw [unS_at he, he]
    rfl
  · repeat' (first
      | (conv => whnf); first
        | refine .w ?_ | (first | refine Ix.v ?_ | refine Sd.v ?_ | refine Sl.v ?_) | apply sc_true | apply sc_false
        | (first | apply sc_lt | apply sc_nlt | apply sc_eq | apply sc_neq | apply sc_nil | apply sc_nnil) <;> (intro hb; try exact dd hb)
        | apply sc_not | (apply sc_i <;> intro hb) | (apply bx_i; intro hbd) | (apply gt_i; assumption; exact rfl)
        | (apply cx_is; first | exact hgd) | (apply ab_i; intro bl) | (apply rt_is; exact rfl) | exact rt_w
        | exact True.intro | (apply bc_i; intro C hC) | apply bt_i | apply og_n | (apply og_a; exact rfl))
    all_goals (try conv => whnf)
    · have hlt : i < s.length := by dsimp only at *; omega
      have hne : (byteAt s i : Int) ≠ 92 := by assumption
      refine nxt (i + 1, T ++ [.one s[i]]) ?_ ?_ ⟨rfl, rfl, ?_, rfl, trivial⟩ rfl
      · exact ⟨tokP_one hT hlt hne, by simp; omega⟩
      · show s.length - (i + 1) < s.length - i
        omega
      · refine congrArg (fun l => some (AVal.str l)) ?_
        rw [val_snoc]
        exact congrArg (valT T ++ ·) (take_one hlt)
    · have he := tokP_miss hT (by dsimp only at *; omega) (by assumption)
      apply rt_is
      rw [unS_at he, he]
      rfl
    · exfalso
      dsimp only at *
      omega
    · obtain ⟨he, ht⟩ := tokP_end hT (by dsimp only at *; omega)
      apply rt_is
      rw [unS_ok he, he, ht]
      rfl
end Go.Proofs.YtidcpikoeohfbaaGreatDoor
namespace Go.Proofs.YtidcpikoeohfbaaGreatDoor
open Go Go.RowKit
theorem bsN_up {s : List UInt8} {i n : Nat} (h : n ≤ bsN s i) (hb : (byteAt s (i - n - 1) : Int) = 92) (hi : n < i) : n + 1 ≤ bsN s i := by
  rcases Nat.lt_or_ge n (bsN s i) with k | k
  · exact k
  · have e : n = bsN s i := by omega
    rcases bsN_stop s i with h1 | h1
    · omega
    · rw [← e] at h1; exact absurd hb h1
theorem bsN_eq {s : List UInt8} {i n : Nat} (h : n ≤ bsN s i) (hb : (byteAt s (i - n - 1) : Int) ≠ 92) : n = bsN s i := by
  rcases Nat.lt_or_ge n (bsN s i) with k | k
  · exact absurd (bsN_at s i n k) hb
  · omega
theorem bsN_full {s : List UInt8} {i n : Nat} (h : n ≤ bsN s i) (hi : i ≤ n) : n = bsN s i := by
  have := bsN_le s i
  omega
set_option maxRecDepth 20000
set_option maxHeartbeats 8000000
set_option linter.unusedSimpArgs false
set_option linter.unusedVariables false
attribute [local irreducible] AWp AOps SrcOK OrOk GloAll FnSpec byteAt bsN
theorem ref_cut {G : Glo} (s : List UInt8) (c : UInt8) (hl : s.length ≤ 2000000) : FnIs Tryz.prog G 35 [.str s, .int .u8 (c.toNat : Int)] (.list 1 (cutL c s).length (strsF (cutL c s))) := by
  refine fn_seal (fun a => a) mk_id (strsF (cutL c s)) (strsF_ok _) (cs := strsC (cutL c s)) (eT := none) ?_
  have hGL : GloAll G [] := gloAll_nil
  refine fn_x Tryz.func35 Tryz.call35 rfl rfl rfl rfl hGL ?_
  intro C hC
  repeat' (first
    | (conv => whnf); first
      | refine .w ?_ | (first | refine Ix.v ?_ | refine Sd.v ?_ | refine Sl.v ?_) | apply sc_true | apply sc_false
      | (first | apply sc_lt | apply sc_nlt | apply sc_eq | apply sc_neq | apply sc_nil | apply sc_nnil) <;> (intro hb; try exact dd hb)
      | apply sc_not | (apply sc_i <;> intro hb) | (apply bx_i; intro hbd) | (apply gt_i; assumption; exact rfl)
      | (apply cx_is; first | fail) | (apply ab_i; intro bl) | (apply rt_is; exact rfl) | exact rt_w
      | exact True.intro | (apply bc_i; intro C hC) | apply bt_i | apply og_n | (apply og_a; exact rfl))
  all_goals (try conv => whnf)
  refine lp_row 5 1 rfl ?_
  refine lp hC hGL (fun (x : Nat × Nat × List (List UInt8) × Value) => [(0, .str s), (1, .int .u8 (c.toNat : Int)), (5, .own 0 x.2.2.2), (6, .int .i64 (x.2.1 : Nat)), (10, .int .i64 (s.length : Nat)), (11, .int .i64 (x.1 : Nat))]) (fun x => [.row x.2.2.2 none 1 x.2.2.1.length (strsC x.2.2.1)]) (fun x => CutP s c x.1 x.2.2.1 x.2.1) (fun x => s.length - x.1) (0, 0, [], .slice none 0 0) ?_ env_w rfl ?_
  · exact cutP_init s c
  rintro ⟨i, fr, out, v⟩ hT
  have hT : CutP s c i out fr := hT
  have h1 := hT.1
  have h2 := hT.2.1
  have h3 := hT.2.2.1
  repeat' (first
    | (conv => whnf); first
      | refine .w ?_ | (first | refine Ix.v ?_ | refine Sd.v ?_ | refine Sl.v ?_) | apply sc_true | apply sc_false
      | (first | apply sc_lt | apply sc_nlt | apply sc_eq | apply sc_neq | apply sc_nil | apply sc_nnil) <;> (intro hb; try exact dd hb)
      | apply sc_not | (apply sc_i <;> intro hb) | (apply bx_i; intro hbd) | (apply gt_i; assumption; exact rfl)
      | (apply cx_is; first | fail) | (apply ab_i; intro bl) | (apply rt_is; exact rfl) | exact rt_w
      | exact True.intro | (apply bc_i; intro C hC) | apply bt_i | apply og_n | (apply og_a; exact rfl))
  all_goals (try conv => whnf)
  · have hlt : i < s.length := by dsimp only at *; omega
    refine lp hC hGL (fun (n : Nat) => [(0, .str s), (1, .int .u8 (c.toNat : Int)), (5, .own 0 v), (6, .int .i64 (fr : Nat)), (7, .int .i64 (i : Nat)), (8, .int .i64 (n : Nat)), (10, .int .i64 (s.length : Nat)), (11, .int .i64 (i : Nat))]) (fun _ => [.row v none 1 out.length (strsC out)]) (fun n => n ≤ bsN s i) (fun n => i - n) 0 ?_ env_w rfl ?_
    · exact Nat.zero_le _
    intro n hn
    have hn : n ≤ bsN s i := hn
    have hni := bsN_le s i
    have e : 0 < (i : Int) - n → ((i : Int) - n - 1).toNat = i - n - 1 := fun _ => by omega
    repeat' (first
      | (conv => whnf); first
        | refine .w ?_ | refine .v ?_ | apply sc_true | apply sc_false
        | (first | apply sc_lt | apply sc_nlt | apply sc_eq | apply sc_neq | apply sc_nil | apply sc_nnil | apply sc_seq | apply sc_nseq) <;> (intro hb; try exact dd hb)
        | apply sc_not | apply sc_or | (apply sc_i <;> intro hb)
        | (apply bx_i; intro hbd) | (apply gt_i; assumption; exact rfl)
        | (apply cx_is; first | fail) | (apply cx_do (i := 0) rfl; first | fail)
        | (apply ab_i; intro bl) | (apply as_i; intro va vk vc hva) | (apply av_i; intro v) | (apply ac_i; intro bl cap hcap)
        | apply bo_l | (apply nx_i <;> intro hnx) | (apply Ia.hit; assumption) | (apply Ia.miss; assumption)
        | (apply rt_is; exact rfl) | exact rt_w | (apply iv; assumption)
        | apply dw_q mixed hC hGL (by kernel_rfl) | (apply cq; assumption; (first | fail); exact rfl))
    all_goals (try conv => whnf)
    · rw [e (by omega)] at hb
      refine nxt (n + 1) (bsN_up hn hb (by omega)) ?_ ⟨rfl, rfl, rfl, rfl, rfl, rfl, rfl, rfl, trivial⟩ rfl
      show i - (n + 1) < i - n
      omega
    all_goals
      have en : n = bsN s i := by first | exact bsN_full hn (by omega) | (rw [e (by omega)] at *; exact bsN_eq hn (by assumption))
      first
        | (refine nxt (i + 1, i + 1, out ++ [(s.take i).drop fr], .slice va vk vc) ?_ ?_ ⟨rfl, rfl, rfl, rfl, rfl, rfl, trivial⟩ ?_
           · exact cutP_cut hT hlt (by assumption) (by rw [← en]; omega)
           · show s.length - (i + 1) < s.length - i
             omega
           · dsimp only
             rw [← strsC_snoc, List.length_append]
             rfl)
        | (refine nxt (i + 1, fr, out, v) ?_ ?_ ⟨rfl, rfl, rfl, rfl, rfl, rfl, trivial⟩ rfl
           · exact cutP_go hT hlt (by rw [← en]; omega)
           · show s.length - (i + 1) < s.length - i
             omega)
  · have h3p : (((i, fr, out, v) : Nat × Nat × List (List UInt8) × Value).2.2.1).length ≤ i := h3
    repeat' (first
      | (conv => whnf); first
        | refine .w ?_ | refine .v ?_ | apply sc_true | apply sc_false
        | (first | apply sc_lt | apply sc_nlt | apply sc_eq | apply sc_neq | apply sc_nil | apply sc_nnil | apply sc_seq | apply sc_nseq) <;> (intro hb; try exact dd hb)
        | apply sc_not | apply sc_or | (apply sc_i <;> intro hb)
        | (apply bx_i; intro hbd) | (apply gt_i; assumption; exact rfl)
        | (apply cx_is; first | fail) | (apply cx_do (i := 0) rfl; first | fail)
        | (apply ab_i; intro bl) | (apply as_i; intro va vk vc hva) | (apply av_i; intro v) | (apply ac_i; intro bl cap hcap)
        | apply bo_l | (apply nx_i <;> intro hnx) | (apply Ia.hit; assumption) | (apply Ia.miss; assumption)
        | (apply rt_is; exact rfl) | exact rt_w | (apply iv; assumption)
        | apply dw_q mixed hC hGL (by kernel_rfl) | (apply cq; assumption; (first | fail); exact rfl))
    all_goals (try conv => whnf)
    have hlt : s.length ≤ i := by dsimp only at *; omega
    refine ⟨_, List.Sublist.refl _, 0, .slice va vk vc, rfl, ?_⟩
    dsimp only
    rw [cutP_end hT hlt, ← strsC_snoc, List.length_append]
    rfl
end Go.Proofs.YtidcpikoeohfbaaGreatDoor
namespace Go.Proofs.YtidcpikoeohfbaaGreatDoor
open Go Go.RowKit
theorem stB_len (c : UInt8) : ∀ s : List UInt8, (∀ x ∈ (stB c s).1, x.length ≤ s.length) ∧ (stB c s).2.1.length ≤ s.length := by
  refine snoc_ind ⟨fun _ h => by simp [stB] at h, by simp [stB]⟩ fun s b ih => ?_
  rw [stB_snoc]
  unfold stepB
  split
  · refine ⟨fun x hx => ?_, by simp⟩
    rw [List.length_append]
    rcases List.mem_append.1 hx with hx | hx
    · have := ih.1 x hx; omega
    · rw [List.mem_singleton.1 hx]; have := ih.2; omega
  · refine ⟨fun x hx => ?_, ?_⟩
    · rw [List.length_append]
      have := ih.1 x hx; omega
    · rw [List.length_append, List.length_append]
      have := ih.2
      simp
      omega
theorem cutL_len (c : UInt8) (s : List UInt8) {x : List UInt8} (h : x ∈ cutL c s) : x.length ≤ s.length := by
  rcases List.mem_append.1 h with h | h
  · exact (stB_len c s).1 x h
  · rw [List.mem_singleton.1 h]; exact (stB_len c s).2
theorem stB_cnt (c : UInt8) : ∀ s : List UInt8, (stB c s).1.length ≤ s.length := by
  refine snoc_ind (Nat.le_refl _) fun s b ih => ?_
  rw [stB_snoc, List.length_append]
  unfold stepB
  split
  · simp; exact ih
  · simp; omega
theorem cutL_cnt (c : UInt8) (s : List UInt8) : (cutL c s).length ≤ s.length + 1 := by
  have := stB_cnt c s
  simp [cutL]; exact this
theorem errT_form : ∀ (n : Nat) (s : List UInt8) (i : Nat), s.length ≤ n → errT s i = .none ∨ (∃ p, errT s i = .at 7 p) ∨ ∃ p, errT s i = .at 3 p
  | _, [], _, _ => .inl rfl
  | 0, c :: r, _, hn => by simp at hn
  | n + 1, c :: r, i, hn => by
    have hn : r.length ≤ n := by simpa using hn
    by_cases hc : c = 92
    · subst hc
      cases r with
      | nil => exact .inr (.inl ⟨_, rfl⟩)
      | cons d r =>
        by_cases hd : okE d = true
        · rw [errT_two hd]
          exact errT_form n r _ (by simp at hn; omega)
        · exact .inr (.inr ⟨_, by simp [errT, hd]; rfl⟩)
    · rw [errT_one hc]
      exact errT_form n r _ hn
theorem errT_ne {s : List UInt8} (h : errT s 0 ≠ .none) : ¬ (errT s 0).e = 0 := by
  rcases errT_form s.length s 0 (Nat.le_refl _) with k | ⟨p, k⟩ | ⟨p, k⟩
  · exact absurd k h
  · rw [k]; exact (by decide : ¬ (7 : Int) = 0)
  · rw [k]; exact (by decide : ¬ (3 : Int) = 0)
/-- The list that a text is; none where it isn't right. -/
def lstS (s : List UInt8) : List (List UInt8) := match errT s 0 with
  | .none => lstT (tokT s)
  | _ => []
theorem lstS_ok {s : List UInt8} (h : errT s 0 = .none) : lstS s = lstT (tokT s) := by unfold lstS; rw [h]
theorem lstS_no {s : List UInt8} (h : errT s 0 ≠ .none) : lstS s = [] := by
  unfold lstS
  split
  · rename_i h2; exact absurd h2 h
  · rfl
theorem unS_no {s : List UInt8} (h : errT s 0 ≠ .none) : unS s = [] := by
  unfold unS
  split
  · rename_i h2; exact absurd h2 h
  · rfl
/-- What the pieces of a right text are. -/
theorem piece_tok {s : List UInt8} {c : UInt8} (hc : c ≠ 92) (h : errT s 0 = .none) : cutL c s = (splT c (tokT s)).map rawT ∧ ∀ T' ∈ splT c (tokT s), errT (rawT T') 0 = .none ∧ tokT (rawT T') = T' := by
  have hok := tok_ok s.length s (Nat.le_refl _)
  have hraw := tok_raw s.length s 0 (Nat.le_refl _) h
  refine ⟨?_, fun T' hT => raw_tok T' 0 (splT_ok hok T' hT)⟩
  have := cutL_tok hc hok
  rwa [hraw] at this
theorem piece_at {s : List UInt8} {c : UInt8} (hc : c ≠ 92) (h : errT s 0 = .none) {k : Nat} (hk : k < (cutL c s).length) : ∃ T', (splT c (tokT s))[k]? = some T' ∧ (cutL c s).getD k [] = rawT T' ∧ errT ((cutL c s).getD k []) 0 = .none ∧ tokT ((cutL c s).getD k []) = T' := by
  obtain ⟨h1, h2⟩ := piece_tok hc h
  have hk' : k < (splT c (tokT s)).length := by rw [h1, List.length_map] at hk; exact hk
  refine ⟨(splT c (tokT s))[k], List.getElem?_eq_getElem hk', ?_⟩
  have e : (cutL c s).getD k [] = rawT (splT c (tokT s))[k] := by
    rw [h1, List.getD_eq_getElem?_getD, List.getElem?_map, List.getElem?_eq_getElem hk']
    rfl
  rw [e]
  exact ⟨rfl, h2 _ (List.getElem_mem hk')⟩
theorem take_succ_map {α β : Type} {l : List α} {k : Nat} {a : α} (f : α → β) (h : l[k]? = some a) : (l.map f).take (k + 1) = (l.map f).take k ++ [f a] := by
  obtain ⟨hlt, e⟩ := List.getElem?_eq_some_iff.1 h
  rw [List.take_succ_eq_append_getElem (by simpa using hlt)]
  simp [e]
/-- Nothing, as a list. -/
theorem res_nil {sz : Nat} {f : Nat → AVal} {b : AVal} : ResTo (.ret (.tuple [.raw (.slice none 0 0), b])) [] (.tuple [.list sz 0 f, b]) := by
  rintro C R w e hm ⟨x, rfl, ⟨ws, e2, u, t, e1, hu, h3⟩, h2⟩
  refine ⟨R, hm, x, rfl, ⟨ws, e2, u, t, e1, ⟨?_, ?_⟩, h3⟩, h2⟩
  · have hr : Rel R (.raw (.slice none 0 0)) u := hu
    obtain rfl := rel_raw.1 hr
    exact ⟨none, 0, rfl, Nat.le_refl _, .inl rfl⟩
  · have hr : Rel R (.raw (.slice none 0 0)) u := hu
    obtain rfl := rel_raw.1 hr
    rfl
set_option maxRecDepth 20000
set_option maxHeartbeats 8000000
set_option linter.unusedSimpArgs false
set_option linter.unusedVariables false
attribute [local irreducible] AWp AOps SrcOK OrOk GloAll FnSpec byteAt cutL unS errT tokT lstT lstS
theorem fault_Is {G : Glo} (e p : Int) : FnIs Tryz.prog G 19 [.agg [.int .i64 e, .int .i64 p]] (.bool (eqB e 0)) := by
  have hGL : GloAll G [] := gloAll_nil
  refine fn_x Tryz.func19 Tryz.call19 rfl rfl rfl rfl hGL ?_
  intro C hC
  repeat' (first
    | (conv => whnf); first
      | refine .w ?_ | refine .v ?_ | apply sc_true | apply sc_false
      | (first | apply sc_lt | apply sc_nlt | apply sc_eq | apply sc_neq | apply sc_nil | apply sc_nnil | apply sc_seq | apply sc_nseq) <;> (intro hb; try exact dd hb)
      | apply sc_not | apply sc_or | (apply sc_i <;> intro hb)
      | (apply bx_i; intro hbd) | (apply gt_i; assumption; exact rfl)
      | (apply cx_is; first | fail) | (apply cx_do (i := 0) rfl; first | fail)
      | (apply ab_i; intro bl) | (apply as_i; intro va vk vc hva) | (apply av_i; intro v) | (apply ac_i; intro bl cap hcap)
      | apply bo_l | (apply nx_i <;> intro hnx) | (apply Ia.hit; assumption) | (apply Ia.miss; assumption)
      | (apply rt_is; exact rfl) | exact rt_w | (apply iv; assumption)
      | apply dw_q mixed hC hGL (by kernel_rfl) | (apply cq; assumption; (first | fail); exact rfl))
  all_goals (try conv => whnf)
theorem ref_List {G : Glo} (s : List UInt8) (hl : s.length ≤ 2000000) : FnIs Tryz.prog G 13 [.str s] (.tuple [.list 1 (lstS s).length (strsF (lstS s)), .agg [.int .i64 (errT s 0).e, .int .i64 (errT s 0).p]]) := by
  have hU := ref_Unescape (G := G) s hl
  have hF := fault_Is (G := G) (errT s 0).e (errT s 0).p
  have hgd := ref_Good (G := G)
  have hcut := ref_cut (G := G) s 44 hl
  have hcc := cutL_cnt 44 s
  by_cases he : errT s 0 = .none
  · rw [he] at hU hF ⊢
    rw [lstS_ok he]
    have hUp := fun k (hk : k < (cutL 44 s).length) => ref_Unescape (G := G) ((cutL 44 s).getD k []) (Nat.le_trans (cutL_len 44 s (by rw [List.getD_eq_getElem?_getD, List.getElem?_eq_getElem hk]; exact List.getElem_mem hk)) hl)
    refine fn_seal (fun a => .tuple [a, .agg [.int .i64 (Err.none).e, .int .i64 (Err.none).p]]) (mk_fst _) (strsF (lstT (tokT s))) (strsF_ok _) (cs := strsC (lstT (tokT s))) (eT := none) ?_
    have hGL : GloAll G [] := gloAll_nil
    refine fn_x Tryz.func13 Tryz.call13 rfl rfl rfl rfl hGL ?_
    intro C hC
    repeat' (first
      | (conv => whnf); first
        | refine .w ?_ | (first | refine Ix.v ?_ | refine Sd.v ?_ | refine Sl.v ?_) | apply sc_true | apply sc_false
        | (first | apply sc_lt | apply sc_nlt | apply sc_eq | apply sc_neq | apply sc_nil | apply sc_nnil) <;> (intro hb; try exact dd hb)
        | apply sc_not | (apply sc_i <;> intro hb) | (apply bx_i; intro hbd) | (apply gt_i; assumption; exact rfl)
        | (apply cx_is; first | exact hU | exact hF | exact hcut) | (apply ab_i; intro bl) | (apply rt_is; exact rfl) | exact rt_w
        | exact True.intro | (apply bc_i; intro C hC) | apply bt_i | apply og_n | (apply og_a; exact rfl))
    all_goals (try conv => whnf)
    rename_i bl0
    refine lp_row 6 1 rfl ?_
    obtain ⟨hp1, _⟩ := piece_tok (c := 44) (by decide) he
    have hn : (lstT (tokT s)).length = (cutL 44 s).length := by rw [hp1]; unfold lstT; simp
    refine lp hC hGL (fun (y : List (List UInt8) × Value) => [(3, .own 0 (.pointer (some ⟨bl0, 0, none⟩))), (6, .own 2 y.2), (21, .list 1 (cutL 44 s).length (strsF (cutL 44 s))), (22, .int .i64 ((cutL 44 s).length : Nat)), (23, .int .i64 (y.1.length : Nat))]) (fun y => [.cells bl0 (some 29) [.int .i64 0, .int .i64 0], .cells bl (some 29) [.int .i64 (Err.none).e, .int .i64 (Err.none).p], .row y.2 none 1 y.1.length (strsC y.1)]) (fun y => y.1.length ≤ (cutL 44 s).length ∧ y.1 = (lstT (tokT s)).take y.1.length) (fun y => (cutL 44 s).length - y.1.length) ([], .slice none 0 0) ?_ env_w rfl ?_
    · exact ⟨Nat.zero_le _, rfl⟩
    rintro ⟨ps, v⟩ ⟨h1, h2⟩
    have h1 : ps.length ≤ (cutL 44 s).length := h1
    have h2 : ps = (lstT (tokT s)).take ps.length := h2
    by_cases hlt : ps.length < (cutL 44 s).length
    · obtain ⟨T', k1, k2, k3, k4⟩ := piece_at (c := 44) (by decide) he hlt
      have hU1 := hUp ps.length hlt
      rw [k3, unS_ok k3, k4] at hU1
      have hU1 : FnIs Tryz.prog G 12 [strsF (cutL 44 s) ps.length] (.tuple [.str (valT T'), .agg [.int .i64 (Err.none).e, .int .i64 (Err.none).p]]) := hU1
      repeat' (first
        | (conv => whnf); first
          | refine .w ?_ | refine .v ?_ | apply sc_true | apply sc_false
          | (first | apply sc_lt | apply sc_nlt | apply sc_eq | apply sc_neq | apply sc_nil | apply sc_nnil | apply sc_seq | apply sc_nseq) <;> (intro hb; try exact dd hb)
          | apply sc_not | apply sc_or | (apply sc_i <;> intro hb)
          | (apply bx_i; intro hbd) | (apply gt_i; assumption; exact rfl)
          | (apply cx_is; first | exact hU1) | (apply cx_do (i := 0) rfl; first | exact hU1)
          | (apply ab_i; intro bl) | (apply as_i; intro va vk vc hva) | (apply av_i; intro v) | (apply ac_i; intro bl cap hcap)
          | apply bo_l | (apply nx_i <;> intro hnx) | (apply Ia.hit; assumption) | (apply Ia.miss; assumption)
          | (apply rt_is; exact rfl) | exact rt_w | (apply iv; assumption)
          | apply dw_q mixed hC hGL (by kernel_rfl) | (apply cq; assumption; (first | exact hU1); exact rfl))
      all_goals (try conv => whnf)
      refine nxs (ps ++ [valT T'], .slice va vk vc) ?_ ?_ ⟨rfl, rfl, rfl, rfl, ?_, trivial⟩ ?_
      · refine ⟨?_, ?_⟩
        · show (ps ++ [valT T']).length ≤ _
          rw [List.length_append, List.length_singleton]; exact hlt
        · show ps ++ [valT T'] = (lstT (tokT s)).take (ps ++ [valT T']).length
          have e1 : (lstT (tokT s)).take (ps.length + 1) = (lstT (tokT s)).take ps.length ++ [valT T'] := by
            unfold lstT
            exact take_succ_map valT k1
          rw [List.length_append, List.length_singleton, e1, ← h2]
      · show (cutL 44 s).length - (ps ++ [valT T']).length < (cutL 44 s).length - ps.length
        rw [List.length_append, List.length_singleton]; omega
      · show some (AVal.int .i64 (((ps.length : Nat) : Int) + 1)) = some (AVal.int .i64 ((ps ++ [valT T']).length : Nat))
        rw [List.length_append]; rfl
      · dsimp only
        rw [← strsC_snoc, List.length_append]
        exact .cons_cons _ (.cons_cons _ (.cons_cons _ (List.nil_sublist _)))
    · repeat' (first
        | (conv => whnf); first
          | refine .w ?_ | refine .v ?_ | apply sc_true | apply sc_false
          | (first | apply sc_lt | apply sc_nlt | apply sc_eq | apply sc_neq | apply sc_nil | apply sc_nnil | apply sc_seq | apply sc_nseq) <;> (intro hb; try exact dd hb)
          | apply sc_not | apply sc_or | (apply sc_i <;> intro hb)
          | (apply bx_i; intro hbd) | (apply gt_i; assumption; exact rfl)
          | (apply cx_is; first | exact hgd) | (apply cx_do (i := 0) rfl; first | exact hgd)
          | (apply ab_i; intro bl) | (apply as_i; intro va vk vc hva) | (apply av_i; intro v) | (apply ac_i; intro bl cap hcap)
          | apply bo_l | (apply nx_i <;> intro hnx) | (apply Ia.hit; assumption) | (apply Ia.miss; assumption)
          | (apply rt_is; exact rfl) | exact rt_w | (apply iv; assumption)
          | apply dw_q mixed hC hGL (by kernel_rfl) | (apply cq; assumption; (first | exact hgd); exact rfl))
      all_goals (try conv => whnf)
      have h3 : ps = lstT (tokT s) := by rw [h2, List.take_of_length_le (by omega)]
      subst h3
      exact ⟨_, .cons _ (.cons _ (.refl _)), 2, v, rfl, rfl⟩
  · have hne := errT_ne he
    rw [unS_no he] at hU
    rw [lstS_no he]
    refine fn_told (H := []) (Qf := fun r H => r = .ret (.tuple [.raw (.slice none 0 0), .agg [.int .i64 (errT s 0).e, .int .i64 (errT s 0).p]]) ∧ H = []) ?_ (fun r H h => by obtain ⟨rfl, rfl⟩ := h; exact res_nil)
    have hGL : GloAll G [] := gloAll_nil
    refine fn_x Tryz.func13 Tryz.call13 rfl rfl rfl rfl hGL ?_
    intro C hC
    repeat' (first
      | (conv => whnf); first
        | refine .w ?_ | refine .v ?_ | apply sc_true | apply sc_false
        | (first | apply sc_lt | apply sc_nlt | apply sc_eq | apply sc_neq | apply sc_nil | apply sc_nnil | apply sc_seq | apply sc_nseq) <;> (intro hb; try exact dd hb)
        | apply sc_not | apply sc_or | (apply sc_i <;> intro hb)
        | (apply bx_i; intro hbd) | (apply gt_i; assumption; exact rfl)
        | (apply cx_is; first | exact hU | exact hF) | (apply cx_do (i := 0) rfl; first | exact hU | exact hF)
        | (apply ab_i; intro bl) | (apply as_i; intro va vk vc hva) | (apply av_i; intro v) | (apply ac_i; intro bl cap hcap)
        | apply bo_l | (apply nx_i <;> intro hnx) | (apply Ia.hit; assumption) | (apply Ia.miss; assumption)
        | (apply rt_is; exact rfl) | exact rt_w | (apply iv; assumption)
        | exact True.intro | (apply bc_i; intro C hC) | apply bt_i | apply og_n | (apply og_a; exact rfl))
    all_goals (try conv => whnf)
    rename_i bl0
    refine dw_p mixed hC hGL false (fun (_ : Unit) => [(2, .raw (.slice none 0 0)), (3, .own 0 (.pointer (some ⟨bl0, 0, none⟩)))]) (fun _ => [.cells bl0 (some 29) [.int .i64 (errT s 0).e, .int .i64 (errT s 0).p], .cells bl (some 29) [.int .i64 (errT s 0).e, .int .i64 (errT s 0).p]]) (.take 1 (.br 0 (.br 2 (.done) (.nil)) (.nil))) (by kernel_rfl) ?_ ?_
    · repeat' (first
        | (conv => whnf); first
          | refine .w ?_ | refine .v ?_ | apply sc_true | apply sc_false
          | (first | apply sc_lt | apply sc_nlt | apply sc_eq | apply sc_neq | apply sc_nil | apply sc_nnil | apply sc_seq | apply sc_nseq) <;> (intro hb; try exact dd hb)
          | apply sc_not | apply sc_or | (apply sc_i <;> intro hb)
          | (apply bx_i; intro hbd) | (apply gt_i; assumption; exact rfl)
          | (apply cx_is; first | fail) | (apply cx_do (i := 0) rfl; first | fail)
          | (apply ab_i; intro bl) | (apply as_i; intro va vk vc hva) | (apply av_i; intro v) | (apply ac_i; intro bl cap hcap)
          | apply bo_l | (apply nx_i <;> intro hnx) | (apply Ia.hit; assumption) | (apply Ia.miss; assumption)
          | (apply rt_is; exact rfl) | exact rt_w | (apply iv; assumption)
          | exact True.intro | (apply bc_i; intro C hC) | apply bt_i | apply og_n | (apply og_a; exact rfl))
      all_goals (try conv => whnf)
      all_goals exact ⟨(), ⟨rfl, rfl, trivial⟩, rfl⟩
    intro _
    repeat' (first
      | (conv => whnf); first
        | refine .w ?_ | refine .v ?_ | apply sc_true | apply sc_false
        | (first | apply sc_lt | apply sc_nlt | apply sc_eq | apply sc_neq | apply sc_nil | apply sc_nnil | apply sc_seq | apply sc_nseq) <;> (intro hb; try exact dd hb)
        | apply sc_not | apply sc_or | (apply sc_i <;> intro hb)
        | (apply bx_i; intro hbd) | (apply gt_i; assumption; exact rfl)
        | (apply cx_is; first | fail) | (apply cx_do (i := 0) rfl; first | fail)
        | (apply ab_i; intro bl) | (apply as_i; intro va vk vc hva) | (apply av_i; intro v) | (apply ac_i; intro bl cap hcap)
        | apply bo_l | (apply nx_i <;> intro hnx) | (apply Ia.hit; assumption) | (apply Ia.miss; assumption)
        | (apply rt_is; exact rfl) | exact rt_w | (apply iv; assumption)
        | exact True.intro | (apply bc_i; intro C hC) | apply bt_i | apply og_n | (apply og_a; exact rfl))
    all_goals (try conv => whnf)
end Go.Proofs.YtidcpikoeohfbaaGreatDoor
namespace Go.Proofs.YtidcpikoeohfbaaGreatDoor
open Go Go.RowKit
def lstA (l : List (List UInt8)) : AVal := .list 1 l.length (strsF l)
def prtC (L : List (List (List UInt8))) : List AVal := L.map lstA
def prtF (L : List (List (List UInt8))) (i : Nat) : AVal := lstA (L.getD i [])
theorem prtF_ok (L : List (List (List UInt8))) : ∀ i, i < L.length → (prtF L i).cells = ((prtC L).drop (i * 1)).take 1 ∧ (prtF L i).plain = true := by
  intro i hi
  refine ⟨?_, rfl⟩
  rw [Nat.mul_one, List.drop_eq_getElem_cons (by simpa [prtC] using hi)]
  simp [prtF, prtC, AVal.cells, List.getD, List.getElem?_eq_getElem hi, lstA]
theorem prtC_snoc (L : List (List (List UInt8))) (l : List (List UInt8)) : prtC L ++ [lstA l] = prtC (L ++ [l]) := by simp [prtC]
/-- Cut at ; and then at , . -/
def prtT (T : List Tk) : List (List (List UInt8)) := (splT 59 T).map lstT
def prtS (s : List UInt8) : List (List (List UInt8)) := match errT s 0 with
  | .none => prtT (tokT s)
  | _ => []
theorem prtS_ok {s : List UInt8} (h : errT s 0 = .none) : prtS s = prtT (tokT s) := by unfold prtS; rw [h]
theorem prtS_no {s : List UInt8} (h : errT s 0 ≠ .none) : prtS s = [] := by
  unfold prtS
  split
  · rename_i h2; exact absurd h2 h
  · rfl
set_option maxRecDepth 20000
set_option maxHeartbeats 8000000
set_option linter.unusedSimpArgs false
set_option linter.unusedVariables false
attribute [local irreducible] AWp AOps SrcOK OrOk GloAll FnSpec byteAt cutL unS errT tokT lstT lstS prtT prtS
theorem ref_Parts {G : Glo} (s : List UInt8) (hl : s.length ≤ 2000000) : FnIs Tryz.prog G 14 [.str s] (.tuple [.list 1 (prtS s).length (prtF (prtS s)), .agg [.int .i64 (errT s 0).e, .int .i64 (errT s 0).p]]) := by
  have hU := ref_Unescape (G := G) s hl
  have hF := fault_Is (G := G) (errT s 0).e (errT s 0).p
  have hgd := ref_Good (G := G)
  have hcut := ref_cut (G := G) s 59 hl
  have hcc := cutL_cnt 59 s
  by_cases he : errT s 0 = .none
  · rw [he] at hU hF ⊢
    rw [prtS_ok he]
    have hUp := fun k (hk : k < (cutL 59 s).length) => ref_List (G := G) ((cutL 59 s).getD k []) (Nat.le_trans (cutL_len 59 s (by rw [List.getD_eq_getElem?_getD, List.getElem?_eq_getElem hk]; exact List.getElem_mem hk)) hl)
    refine fn_seal (fun a => .tuple [a, .agg [.int .i64 (Err.none).e, .int .i64 (Err.none).p]]) (mk_fst _) (prtF (prtT (tokT s))) (prtF_ok _) (cs := prtC (prtT (tokT s))) (eT := none) ?_
    have hGL : GloAll G [] := gloAll_nil
    refine fn_x Tryz.func14 Tryz.call14 rfl rfl rfl rfl hGL ?_
    intro C hC
    repeat' (first
      | (conv => whnf); first
        | refine .w ?_ | (first | refine Ix.v ?_ | refine Sd.v ?_ | refine Sl.v ?_) | apply sc_true | apply sc_false
        | (first | apply sc_lt | apply sc_nlt | apply sc_eq | apply sc_neq | apply sc_nil | apply sc_nnil) <;> (intro hb; try exact dd hb)
        | apply sc_not | (apply sc_i <;> intro hb) | (apply bx_i; intro hbd) | (apply gt_i; assumption; exact rfl)
        | (apply cx_is; first | exact hU | exact hF | exact hcut) | (apply ab_i; intro bl) | (apply rt_is; exact rfl) | exact rt_w
        | exact True.intro | (apply bc_i; intro C hC) | apply bt_i | apply og_n | (apply og_a; exact rfl))
    all_goals (try conv => whnf)
    rename_i bl0
    refine lp_row 6 1 rfl ?_
    obtain ⟨hp1, _⟩ := piece_tok (c := 59) (by decide) he
    have hn : (prtT (tokT s)).length = (cutL 59 s).length := by rw [hp1]; unfold prtT; simp
    refine lp hC hGL (fun (y : List (List (List UInt8)) × Value) => [(3, .own 0 (.pointer (some ⟨bl0, 0, none⟩))), (6, .own 2 y.2), (21, .list 1 (cutL 59 s).length (strsF (cutL 59 s))), (22, .int .i64 ((cutL 59 s).length : Nat)), (23, .int .i64 (y.1.length : Nat))]) (fun y => [.cells bl0 (some 29) [.int .i64 0, .int .i64 0], .cells bl (some 29) [.int .i64 (Err.none).e, .int .i64 (Err.none).p], .row y.2 none 1 y.1.length (prtC y.1)]) (fun y => y.1.length ≤ (cutL 59 s).length ∧ y.1 = (prtT (tokT s)).take y.1.length) (fun y => (cutL 59 s).length - y.1.length) ([], .slice none 0 0) ?_ env_w rfl ?_
    · exact ⟨Nat.zero_le _, rfl⟩
    rintro ⟨ps, v⟩ ⟨h1, h2⟩
    have h1 : ps.length ≤ (cutL 59 s).length := h1
    have h2 : ps = (prtT (tokT s)).take ps.length := h2
    by_cases hlt : ps.length < (cutL 59 s).length
    · obtain ⟨T', k1, k2, k3, k4⟩ := piece_at (c := 59) (by decide) he hlt
      have hU1 := hUp ps.length hlt
      rw [k3, lstS_ok k3, k4] at hU1
      have hU1 : FnIs Tryz.prog G 13 [strsF (cutL 59 s) ps.length] (.tuple [.list 1 (lstT T').length (strsF (lstT T')), .agg [.int .i64 (Err.none).e, .int .i64 (Err.none).p]]) := hU1
      repeat' (first
        | (conv => whnf); first
          | refine .w ?_ | refine .v ?_ | apply sc_true | apply sc_false
          | (first | apply sc_lt | apply sc_nlt | apply sc_eq | apply sc_neq | apply sc_nil | apply sc_nnil | apply sc_seq | apply sc_nseq) <;> (intro hb; try exact dd hb)
          | apply sc_not | apply sc_or | (apply sc_i <;> intro hb)
          | (apply bx_i; intro hbd) | (apply gt_i; assumption; exact rfl)
          | (apply cx_is; first | exact hU1) | (apply cx_do (i := 0) rfl; first | exact hU1)
          | (apply ab_i; intro bl) | (apply as_i; intro va vk vc hva) | (apply av_i; intro v) | (apply ac_i; intro bl cap hcap)
          | apply bo_l | (apply nx_i <;> intro hnx) | (apply Ia.hit; assumption) | (apply Ia.miss; assumption)
          | (apply rt_is; exact rfl) | exact rt_w | (apply iv; assumption)
          | apply dw_q mixed hC hGL (by kernel_rfl) | (apply cq; assumption; (first | exact hU1); exact rfl))
      all_goals (try conv => whnf)
      refine nxs (ps ++ [lstT T'], .slice va vk vc) ?_ ?_ ⟨rfl, rfl, rfl, rfl, ?_, trivial⟩ ?_
      · refine ⟨?_, ?_⟩
        · show (ps ++ [lstT T']).length ≤ _
          rw [List.length_append, List.length_singleton]; exact hlt
        · show ps ++ [lstT T'] = (prtT (tokT s)).take (ps ++ [lstT T']).length
          have e1 : (prtT (tokT s)).take (ps.length + 1) = (prtT (tokT s)).take ps.length ++ [lstT T'] := by
            unfold prtT
            exact take_succ_map lstT k1
          rw [List.length_append, List.length_singleton, e1, ← h2]
      · show (cutL 59 s).length - (ps ++ [lstT T']).length < (cutL 59 s).length - ps.length
        rw [List.length_append, List.length_singleton]; omega
      · show some (AVal.int .i64 (((ps.length : Nat) : Int) + 1)) = some (AVal.int .i64 ((ps ++ [lstT T']).length : Nat))
        rw [List.length_append]; rfl
      · dsimp only
        rw [← prtC_snoc, List.length_append]
        exact .cons_cons _ (.cons_cons _ (.cons_cons _ (List.nil_sublist _)))
    · repeat' (first
        | (conv => whnf); first
          | refine .w ?_ | refine .v ?_ | apply sc_true | apply sc_false
          | (first | apply sc_lt | apply sc_nlt | apply sc_eq | apply sc_neq | apply sc_nil | apply sc_nnil | apply sc_seq | apply sc_nseq) <;> (intro hb; try exact dd hb)
          | apply sc_not | apply sc_or | (apply sc_i <;> intro hb)
          | (apply bx_i; intro hbd) | (apply gt_i; assumption; exact rfl)
          | (apply cx_is; first | exact hgd) | (apply cx_do (i := 0) rfl; first | exact hgd)
          | (apply ab_i; intro bl) | (apply as_i; intro va vk vc hva) | (apply av_i; intro v) | (apply ac_i; intro bl cap hcap)
          | apply bo_l | (apply nx_i <;> intro hnx) | (apply Ia.hit; assumption) | (apply Ia.miss; assumption)
          | (apply rt_is; exact rfl) | exact rt_w | (apply iv; assumption)
          | apply dw_q mixed hC hGL (by kernel_rfl) | (apply cq; assumption; (first | exact hgd); exact rfl))
      all_goals (try conv => whnf)
      have h3 : ps = prtT (tokT s) := by rw [h2, List.take_of_length_le (by omega)]
      subst h3
      exact ⟨_, .cons _ (.cons _ (.refl _)), 2, v, rfl, rfl⟩
  · have hne := errT_ne he
    rw [unS_no he] at hU
    rw [prtS_no he]
    refine fn_told (H := []) (Qf := fun r H => r = .ret (.tuple [.raw (.slice none 0 0), .agg [.int .i64 (errT s 0).e, .int .i64 (errT s 0).p]]) ∧ H = []) ?_ (fun r H h => by obtain ⟨rfl, rfl⟩ := h; exact res_nil)
    have hGL : GloAll G [] := gloAll_nil
    refine fn_x Tryz.func14 Tryz.call14 rfl rfl rfl rfl hGL ?_
    intro C hC
    repeat' (first
      | (conv => whnf); first
        | refine .w ?_ | refine .v ?_ | apply sc_true | apply sc_false
        | (first | apply sc_lt | apply sc_nlt | apply sc_eq | apply sc_neq | apply sc_nil | apply sc_nnil | apply sc_seq | apply sc_nseq) <;> (intro hb; try exact dd hb)
        | apply sc_not | apply sc_or | (apply sc_i <;> intro hb)
        | (apply bx_i; intro hbd) | (apply gt_i; assumption; exact rfl)
        | (apply cx_is; first | exact hU | exact hF) | (apply cx_do (i := 0) rfl; first | exact hU | exact hF)
        | (apply ab_i; intro bl) | (apply as_i; intro va vk vc hva) | (apply av_i; intro v) | (apply ac_i; intro bl cap hcap)
        | apply bo_l | (apply nx_i <;> intro hnx) | (apply Ia.hit; assumption) | (apply Ia.miss; assumption)
        | (apply rt_is; exact rfl) | exact rt_w | (apply iv; assumption)
        | exact True.intro | (apply bc_i; intro C hC) | apply bt_i | apply og_n | (apply og_a; exact rfl))
    all_goals (try conv => whnf)
    rename_i bl0
    refine dw_p mixed hC hGL false (fun (_ : Unit) => [(2, .raw (.slice none 0 0)), (3, .own 0 (.pointer (some ⟨bl0, 0, none⟩)))]) (fun _ => [.cells bl0 (some 29) [.int .i64 (errT s 0).e, .int .i64 (errT s 0).p], .cells bl (some 29) [.int .i64 (errT s 0).e, .int .i64 (errT s 0).p]]) (.take 1 (.br 0 (.br 2 (.done) (.nil)) (.nil))) (by kernel_rfl) ?_ ?_
    · repeat' (first
        | (conv => whnf); first
          | refine .w ?_ | refine .v ?_ | apply sc_true | apply sc_false
          | (first | apply sc_lt | apply sc_nlt | apply sc_eq | apply sc_neq | apply sc_nil | apply sc_nnil | apply sc_seq | apply sc_nseq) <;> (intro hb; try exact dd hb)
          | apply sc_not | apply sc_or | (apply sc_i <;> intro hb)
          | (apply bx_i; intro hbd) | (apply gt_i; assumption; exact rfl)
          | (apply cx_is; first | fail) | (apply cx_do (i := 0) rfl; first | fail)
          | (apply ab_i; intro bl) | (apply as_i; intro va vk vc hva) | (apply av_i; intro v) | (apply ac_i; intro bl cap hcap)
          | apply bo_l | (apply nx_i <;> intro hnx) | (apply Ia.hit; assumption) | (apply Ia.miss; assumption)
          | (apply rt_is; exact rfl) | exact rt_w | (apply iv; assumption)
          | exact True.intro | (apply bc_i; intro C hC) | apply bt_i | apply og_n | (apply og_a; exact rfl))
      all_goals (try conv => whnf)
      all_goals exact ⟨(), ⟨rfl, rfl, trivial⟩, rfl⟩
    intro _
    repeat' (first
      | (conv => whnf); first
        | refine .w ?_ | refine .v ?_ | apply sc_true | apply sc_false
        | (first | apply sc_lt | apply sc_nlt | apply sc_eq | apply sc_neq | apply sc_nil | apply sc_nnil | apply sc_seq | apply sc_nseq) <;> (intro hb; try exact dd hb)
        | apply sc_not | apply sc_or | (apply sc_i <;> intro hb)
        | (apply bx_i; intro hbd) | (apply gt_i; assumption; exact rfl)
        | (apply cx_is; first | fail) | (apply cx_do (i := 0) rfl; first | fail)
        | (apply ab_i; intro bl) | (apply as_i; intro va vk vc hva) | (apply av_i; intro v) | (apply ac_i; intro bl cap hcap)
        | apply bo_l | (apply nx_i <;> intro hnx) | (apply Ia.hit; assumption) | (apply Ia.miss; assumption)
        | (apply rt_is; exact rfl) | exact rt_w | (apply iv; assumption)
        | exact True.intro | (apply bc_i; intro C hC) | apply bt_i | apply og_n | (apply og_a; exact rfl))
    all_goals (try conv => whnf)
end Go.Proofs.YtidcpikoeohfbaaGreatDoor
namespace Go.Proofs.YtidcpikoeohfbaaGreatDoor
open Go Go.RowKit
def Vl.no : Vl := ⟨0, [], [], Stm.no, 0⟩
/-- A value of a type out of a text, before what is wrong with it is looked at. -/
def vrG (s : List UInt8) (k : Int) : Vl × Err :=
  if k = 1 then (⟨k, unS s, [], Stm.no, 0⟩, errT s 0)
  else if k = 2 then (⟨k, [], [lstS s], Stm.no, 0⟩, errT s 0)
  else if k = 3 then (⟨k, [], prtS s, Stm.no, 0⟩, errT s 0)
  else if k = 4 then (⟨k, s, [], Stm.no, 0⟩, uriE s)
  else if k = 5 then (⟨k, [], [], (whP s).1, 0⟩, (whP s).2)
  else if k = 6 then (⟨k, [], [], Stm.no, (zoneV s).1⟩, zoneX s)
  else if k = 7 then (⟨k, s, [], Stm.no, 0⟩, langX s)
  else (⟨k, s, [], Stm.no, 0⟩, .none)
/-- The value that a text is, and what is wrong with it. -/
def vrV (s : List UInt8) (k : Int) : Vl × Err :=
  if k < 1 ∨ 9 ≤ k then (Vl.no, .errno 1)
  else if hdB false s = false then (Vl.no, .errno 3)
  else match (vrG s k).2 with
    | .none => vrG s k
    | e => (Vl.no, e)
end Go.Proofs.YtidcpikoeohfbaaGreatDoor
namespace Go.Proofs.YtidcpikoeohfbaaGreatDoor
open Go
set_option maxRecDepth 20000
set_option maxHeartbeats 4000000
set_option linter.unusedSimpArgs false
set_option linter.unusedVariables false
attribute [local irreducible] AWp AOps byteAt SrcOK OrOk GloAll FnSpec
attribute [local irreducible] nextS badI badS stepS rngR ownB
def firstTab : List AVal := Go.Pinned.utf8FirstZ.map (fun x : Nat => AVal.int .u8 (x : Int))
def acceptTab : List AVal := [.int .u8 128, .int .u8 191, .int .u8 160, .int .u8 191, .int .u8 128, .int .u8 159, .int .u8 144, .int .u8 191, .int .u8 128, .int .u8 143, .int .u8 0, .int .u8 0, .int .u8 0, .int .u8 0, .int .u8 0, .int .u8 0, .int .u8 0, .int .u8 0, .int .u8 0, .int .u8 0, .int .u8 0, .int .u8 0, .int .u8 0, .int .u8 0, .int .u8 0, .int .u8 0, .int .u8 0, .int .u8 0, .int .u8 0, .int .u8 0, .int .u8 0, .int .u8 0]
def firstN (b : Nat) : Nat :=
  if b < 128 then 240 else if b < 194 then 241 else if b < 224 then 2 else if b = 224 then 19 else if b < 237 then 3 else if b = 237 then 35 else if b < 240 then 3 else if b = 240 then 52
  else if b < 244 then 4 else if b = 244 then 68 else 241
theorem firstN_ok : ∀ b : Fin 256, Go.Pinned.utf8FirstZ[b.1]? = some (firstN b.1) := by decide +kernel
theorem firstTab_at (b : Nat) (h : b < 256) : firstTab[b * 1]? = some (.int .u8 (firstN b : Int)) := by
  rw [Nat.mul_one]
  simp only [firstTab, List.getElem?_map, firstN_ok ⟨b, h⟩, Option.map_some]
/-- What it answers. -/
def runeS (s : List UInt8) : Nat × Nat := if s.length = 0 then (65533, 0) else if (nextS s).2 = 0 then (65533, 1) else nextS s
theorem xx_mask (b : Int) : IntKind.wrap .i32 (BitVec.ofInt 32 (IntKind.wrap .i32 (BitVec.ofInt 32 b &&& ~~~ BitVec.ofInt 32 (IntKind.wrap .i32 (241 * 2147483648) / 2147483648)).toNat) ||| BitVec.ofInt 32 (IntKind.wrap .i32 (BitVec.ofInt 32 65533 &&& BitVec.ofInt 32 (IntKind.wrap .i32 (241 * 2147483648) / 2147483648)).toNat)).toNat = 65533 := by
  have e : (~~~ BitVec.ofInt 32 (IntKind.wrap .i32 (241 * 2147483648) / 2147483648)) = 0#32 := by decide +kernel
  rw [e, BitVec.and_zero]
  decide +kernel
attribute [local irreducible] firstTab
/-- The two tables of package utf8. -/
abbrev utfTy : List (Nat × List AVal) := [(5, firstTab), (6, acceptTab)]
theorem dec_cases (b : Nat) (h : b < 256) (h1 : 128 ≤ b) :
    (firstTab[b * 1]? = some (.int .u8 241) ∧ (b < 194 ∨ 245 ≤ b)) ∨ (firstTab[b * 1]? = some (.int .u8 2) ∧ 194 ≤ b ∧ b < 224) ∨ (firstTab[b * 1]? = some (.int .u8 19) ∧ b = 224)
    ∨ (firstTab[b * 1]? = some (.int .u8 3) ∧ 225 ≤ b ∧ b < 240 ∧ b ≠ 237) ∨ (firstTab[b * 1]? = some (.int .u8 35) ∧ b = 237) ∨ (firstTab[b * 1]? = some (.int .u8 52) ∧ b = 240)
    ∨ (firstTab[b * 1]? = some (.int .u8 4) ∧ 241 ≤ b ∧ b < 244) ∨ (firstTab[b * 1]? = some (.int .u8 68) ∧ b = 244) := by
  have e := firstTab_at b h
  have key : ∀ c : Nat, firstN b = c → firstTab[b * 1]? = some (.int .u8 (c : Int)) := fun c hc => by rw [e, hc]
  by_cases c1 : b < 194 ∨ 245 ≤ b
  · refine .inl ⟨key 241 (by unfold firstN; (repeat' split) <;> omega), c1⟩
  by_cases c2 : b < 224
  · refine .inr (.inl ⟨key 2 (by unfold firstN; (repeat' split) <;> omega), by omega, c2⟩)
  by_cases c3 : b = 224
  · subst c3; exact .inr (.inr (.inl ⟨key 19 rfl, rfl⟩))
  by_cases c5 : b = 237
  · subst c5; exact .inr (.inr (.inr (.inr (.inl ⟨key 35 rfl, rfl⟩))))
  by_cases c4 : b < 240
  · refine .inr (.inr (.inr (.inl ⟨key 3 (by unfold firstN; (repeat' split) <;> omega), by omega, c4, c5⟩)))
  by_cases c6 : b = 240
  · subst c6; exact .inr (.inr (.inr (.inr (.inr (.inl ⟨key 52 rfl, rfl⟩)))))
  by_cases c7 : b < 244
  · refine .inr (.inr (.inr (.inr (.inr (.inr (.inl ⟨key 4 (by unfold firstN; (repeat' split) <;> omega), by omega, c7⟩))))))
  have c8 : b = 244 := by omega
  subst c8
  exact .inr (.inr (.inr (.inr (.inr (.inr (.inr ⟨key 68 rfl, rfl⟩))))))
theorem rune_bad {s : List UInt8} {a b : Int} (h0 : ¬ s.length = 0) (h : ((nextS s).1 : Int) = 0 ∧ ((nextS s).2 : Int) = 0) (ha : a = 65533) (hb : b = 1) : ((runeS s).1 : Int) = a ∧ ((runeS s).2 : Int) = b := by
  have : (nextS s).2 = 0 := by omega
  subst ha hb
  simp [runeS, h0, this]
theorem rune_ok {s : List UInt8} {a b : Int} (h0 : ¬ s.length = 0) (h : ((nextS s).1 : Int) = a ∧ ((nextS s).2 : Int) = b) (hb : 0 < b) : ((runeS s).1 : Int) = a ∧ ((runeS s).2 : Int) = b := by
  have : ¬ (nextS s).2 = 0 := by omega
  simpa [runeS, h0, this] using h
theorem dec_slow {G : Glo} (hGL : GloAll G utfTy) (s : List UInt8) (hs : s.length = 0 ∨ 128 ≤ byteAt s 0) :
    FnIs Tryz.prog G 116 [.str s] (.tuple [.int .i32 ((runeS s).1 : Int), .int .i64 ((runeS s).2 : Int)]) := by
  refine fn_x Tryz.func116 Tryz.call116 rfl rfl rfl rfl hGL ?_
  intro C hC
  by_cases h0 : s.length = 0
  · repeat' (first
      | (conv => whnf); first
        | refine .w ?_ | refine .v ?_ | apply sc_true | apply sc_false
        | (first | apply sc_lt | apply sc_nlt | apply sc_eq | apply sc_neq | apply sc_nil | apply sc_nnil | apply sc_seq | apply sc_nseq) <;> (intro hb; try exact dd hb)
        | apply sc_not | apply sc_or | (apply sc_i <;> intro hb)
        | (apply bx_i; intro hbd) | (apply gt_i; assumption; exact rfl)
        | (apply cx_is; first | fail) | (apply cx_do (i := 0) rfl; first | fail)
        | (apply ab_i; intro bl) | (apply as_i; intro va vk vc hva) | (apply av_i; intro v) | (apply ac_i; intro bl cap hcap)
        | apply bo_l | (apply nx_i <;> intro hnx) | (apply Ia.hit; assumption) | (apply Ia.miss; assumption)
        | (apply rt_is; exact rfl) | exact rt_w | (apply iv; assumption)
        | apply dw_q mixed hC hGL (by kernel_rfl) | (apply cq; assumption; (first | fail); exact rfl))
    all_goals (try conv => whnf)
    refine tup2 ?_
    simp only [runeS, if_pos h0]
    exact ⟨rfl, rfl⟩
  replace hs : 128 ≤ byteAt s 0 := by omega
  have hdc := dec_cases (byteAt s 0) (byteAt_lt s 0) hs
  repeat' (first
    | (conv => whnf); first
      | refine .w ?_ | refine .v ?_ | apply sc_true | apply sc_false
      | (first | apply sc_lt | apply sc_nlt | apply sc_eq | apply sc_neq | apply sc_nil | apply sc_nnil | apply sc_seq | apply sc_nseq) <;> (intro hb; try exact dd hb)
      | apply sc_not | apply sc_or | (apply sc_i <;> intro hb)
      | (apply bx_i; intro hbd) | (apply gt_i; assumption; exact rfl)
      | (apply cx_is; first | fail) | (apply cx_do (i := 0) rfl; first | fail)
      | (apply ab_i; intro bl) | (apply as_i; intro va vk vc hva) | (apply av_i; intro v) | (apply ac_i; intro bl cap hcap)
      | apply bo_l | (apply nx_i <;> intro hnx) | (apply Ia.hit; assumption) | (apply Ia.miss; assumption)
      | (apply rt_is; exact rfl) | exact rt_w | (apply iv; assumption)
      | apply dw_q mixed hC hGL (by kernel_rfl) | (apply cq; assumption; (first | fail); exact rfl))
  all_goals (try conv => whnf)
  rcases hdc with ⟨hx, hb⟩ | ⟨hx, hb⟩ | ⟨hx, hb⟩ | ⟨hx, hb⟩ | ⟨hx, hb⟩ | ⟨hx, hb⟩ | ⟨hx, hb⟩ | ⟨hx, hb⟩
  all_goals (erw [hx])
  · repeat' (first
      | (conv => whnf); first
        | refine .w ?_ | refine .v ?_ | apply sc_true | apply sc_false
        | (first | apply sc_lt | apply sc_nlt | apply sc_eq | apply sc_neq | apply sc_nil | apply sc_nnil | apply sc_seq | apply sc_nseq) <;> (intro hb; try exact dd hb)
        | apply sc_not | apply sc_or | (apply sc_i <;> intro hb)
        | (apply bx_i; intro hbd) | (apply gt_i; assumption; exact rfl)
        | (apply cx_is; first | fail) | (apply cx_do (i := 0) rfl; first | fail)
        | (apply ab_i; intro bl) | (apply as_i; intro va vk vc hva) | (apply av_i; intro v) | (apply ac_i; intro bl cap hcap)
        | apply bo_l | (apply nx_i <;> intro hnx) | (apply Ia.hit; assumption) | (apply Ia.miss; assumption)
        | (apply rt_is; exact rfl) | exact rt_w | (apply iv; assumption)
        | apply dw_q mixed hC hGL (by kernel_rfl) | (apply cq; assumption; (first | fail); exact rfl))
    all_goals (try conv => whnf)
    apply ch_r
    repeat' (first
      | (conv => whnf); first
        | refine .w ?_ | refine .v ?_ | apply sc_true | apply sc_false
        | (first | apply sc_lt | apply sc_nlt | apply sc_eq | apply sc_neq | apply sc_nil | apply sc_nnil | apply sc_seq | apply sc_nseq) <;> (intro hb; try exact dd hb)
        | apply sc_not | apply sc_or | (apply sc_i <;> intro hb)
        | (apply bx_i; intro hbd) | (apply gt_i; assumption; exact rfl)
        | (apply cx_is; first | fail) | (apply cx_do (i := 0) rfl; first | fail)
        | (apply ab_i; intro bl) | (apply as_i; intro va vk vc hva) | (apply av_i; intro v) | (apply ac_i; intro bl cap hcap)
        | apply bo_l | (apply nx_i <;> intro hnx) | (apply Ia.hit; assumption) | (apply Ia.miss; assumption)
        | (apply rt_is; exact rfl) | exact rt_w | (apply iv; assumption)
        | apply dw_q mixed hC hGL (by kernel_rfl) | (apply cq; assumption; (first | fail); exact rfl))
    all_goals (try conv => whnf)
    apply ch_r
    repeat' (first
      | (conv => whnf); first
        | refine .w ?_ | refine .v ?_ | apply sc_true | apply sc_false
        | (first | apply sc_lt | apply sc_nlt | apply sc_eq | apply sc_neq | apply sc_nil | apply sc_nnil | apply sc_seq | apply sc_nseq) <;> (intro hb; try exact dd hb)
        | apply sc_not | apply sc_or | (apply sc_i <;> intro hb)
        | (apply bx_i; intro hbd) | (apply gt_i; assumption; exact rfl)
        | (apply cx_is; first | fail) | (apply cx_do (i := 0) rfl; first | fail)
        | (apply ab_i; intro bl) | (apply as_i; intro va vk vc hva) | (apply av_i; intro v) | (apply ac_i; intro bl cap hcap)
        | apply bo_l | (apply nx_i <;> intro hnx) | (apply Ia.hit; assumption) | (apply Ia.miss; assumption)
        | (apply rt_is; exact rfl) | exact rt_w | (apply iv; assumption)
        | apply dw_q mixed hC hGL (by kernel_rfl) | (apply cq; assumption; (first | fail); exact rfl))
    all_goals (try conv => whnf)
    apply ch_r
    repeat' (first
      | (conv => whnf); first
        | refine .w ?_ | refine .v ?_ | apply sc_true | apply sc_false
        | (first | apply sc_lt | apply sc_nlt | apply sc_eq | apply sc_neq | apply sc_nil | apply sc_nnil | apply sc_seq | apply sc_nseq) <;> (intro hb; try exact dd hb)
        | apply sc_not | apply sc_or | (apply sc_i <;> intro hb)
        | (apply bx_i; intro hbd) | (apply gt_i; assumption; exact rfl)
        | (apply cx_is; first | fail) | (apply cx_do (i := 0) rfl; first | fail)
        | (apply ab_i; intro bl) | (apply as_i; intro va vk vc hva) | (apply av_i; intro v) | (apply ac_i; intro bl cap hcap)
        | apply bo_l | (apply nx_i <;> intro hnx) | (apply Ia.hit; assumption) | (apply Ia.miss; assumption)
        | (apply rt_is; exact rfl) | exact rt_w | (apply iv; assumption)
        | apply dw_q mixed hC hGL (by kernel_rfl) | (apply cq; assumption; (first | fail); exact rfl))
    all_goals (try conv => whnf)
    clear hx
    refine tup2 ?_
    refine rune_bad h0 ?_ (xx_mask _) rfl
    generalize hz : nextS s = z
    unfold nextS contAt mayN cp2 cp3 cp4 at hz
    try simp only [show Int.toNat 0 = 0 from rfl, show Int.toNat 1 = 1 from rfl, show Int.toNat (1 + 1) = 2 from rfl, show Int.toNat (1 + 1 + 1) = 3 from rfl] at *
    generalize byteAt s 0 = b0 at *
    generalize byteAt s 1 = b1 at *
    generalize byteAt s 2 = b2 at *
    generalize byteAt s 3 = b3 at *
    generalize s.length = l at *
    repeat' (split at hz; try (exfalso; omega))
    all_goals (try subst z)
    all_goals (first
      | exact ⟨rfl, rfl⟩
      | (simp only [Bool.and_eq_true, Bool.or_eq_true, decide_eq_true_eq, beq_iff_eq] at *; first | (exfalso; omega) | omega))
  all_goals (repeat' (first
               | (conv => whnf); first
                 | refine .w ?_ | refine .v ?_ | apply sc_true | apply sc_false
                 | (first | apply sc_lt | apply sc_nlt | apply sc_eq | apply sc_neq | apply sc_nil | apply sc_nnil | apply sc_seq | apply sc_nseq) <;> (intro hb; try exact dd hb)
                 | apply sc_not | apply sc_or | (apply sc_i <;> intro hb)
                 | (apply bx_i; intro hbd) | (apply gt_i; assumption; exact rfl)
                 | (apply cx_is; first | fail) | (apply cx_do (i := 0) rfl; first | fail)
                 | (apply ab_i; intro bl) | (apply as_i; intro va vk vc hva) | (apply av_i; intro v) | (apply ac_i; intro bl cap hcap)
                 | apply bo_l | (apply nx_i <;> intro hnx) | (apply Ia.hit; assumption) | (apply Ia.miss; assumption)
                 | (apply rt_is; exact rfl) | exact rt_w | (apply iv; assumption)
                 | apply dw_q mixed hC hGL (by kernel_rfl) | (apply cq; assumption; (first | fail); exact rfl))
             all_goals (try conv => whnf))
  all_goals (clear hx; refine tup2 ?_)
  all_goals (first
    | (refine rune_bad h0 ?_ rfl rfl
       generalize hz : nextS s = z
       unfold nextS contAt mayN cp2 cp3 cp4 at hz
       try simp only [show Int.toNat 0 = 0 from rfl, show Int.toNat 1 = 1 from rfl, show Int.toNat (1 + 1) = 2 from rfl, show Int.toNat (1 + 1 + 1) = 3 from rfl] at *
       generalize byteAt s 0 = b0 at *
       generalize byteAt s 1 = b1 at *
       generalize byteAt s 2 = b2 at *
       generalize byteAt s 3 = b3 at *
       generalize s.length = l at *
       repeat' (split at hz; try (exfalso; omega))
       all_goals (try subst z)
       all_goals (first
         | exact ⟨rfl, rfl⟩
         | (simp only [Bool.and_eq_true, Bool.or_eq_true, decide_eq_true_eq, beq_iff_eq] at *; first | (exfalso; omega) | omega))
       done)
    | (refine rune_ok h0 ?_ (by decide)
       generalize hz : nextS s = z
       unfold nextS contAt mayN cp2 cp3 cp4 at hz
       try simp only [show Int.toNat 0 = 0 from rfl, show Int.toNat 1 = 1 from rfl, show Int.toNat (1 + 1) = 2 from rfl, show Int.toNat (1 + 1 + 1) = 3 from rfl] at *
       generalize byteAt s 0 = b0 at *
       generalize byteAt s 1 = b1 at *
       generalize byteAt s 2 = b2 at *
       generalize byteAt s 3 = b3 at *
       generalize s.length = l at *
       repeat' (split at hz; try (exfalso; omega))
       all_goals (try subst z)
       all_goals (first
         | exact ⟨rfl, rfl⟩
         | (simp only [Bool.and_eq_true, Bool.or_eq_true, decide_eq_true_eq, beq_iff_eq] at *; first | (exfalso; omega) | omega))))
theorem dec_rune {G : Glo} (hGL : GloAll G utfTy) (s : List UInt8) :
    FnIs Tryz.prog G 89 [.str s] (.tuple [.int .i32 ((runeS s).1 : Int), .int .i64 ((runeS s).2 : Int)]) := by
  refine fn_x Tryz.func89 Tryz.call89 rfl rfl rfl rfl hGL ?_
  intro C hC
  by_cases h0 : s.length = 0 ∨ 128 ≤ byteAt s 0
  · have hd := dec_slow (G := G) hGL s h0
    by_cases h1 : s.length = 0
    all_goals (repeat' (first
                 | (conv => whnf); first
                   | refine .w ?_ | refine .v ?_ | apply sc_true | apply sc_false
                   | (first | apply sc_lt | apply sc_nlt | apply sc_eq | apply sc_neq | apply sc_nil | apply sc_nnil | apply sc_seq | apply sc_nseq) <;> (intro hb; try exact dd hb)
                   | apply sc_not | apply sc_or | (apply sc_i <;> intro hb)
                   | (apply bx_i; intro hbd) | (apply gt_i; assumption; exact rfl)
                   | (apply cx_is; first | exact hd) | (apply cx_do (i := 0) rfl; first | exact hd)
                   | (apply ab_i; intro bl) | (apply as_i; intro va vk vc hva) | (apply av_i; intro v) | (apply ac_i; intro bl cap hcap)
                   | apply bo_l | (apply nx_i <;> intro hnx) | (apply Ia.hit; assumption) | (apply Ia.miss; assumption)
                   | (apply rt_is; exact rfl) | exact rt_w | (apply iv; assumption)
                   | apply dw_q mixed hC hGL (by kernel_rfl) | (apply cq; assumption; (first | exact hd); exact rfl))
               all_goals (try conv => whnf))
    all_goals (exfalso; simp only [Int.toNat_zero] at *; omega)
  · repeat' (first
      | (conv => whnf); first
        | refine .w ?_ | refine .v ?_ | apply sc_true | apply sc_false
        | (first | apply sc_lt | apply sc_nlt | apply sc_eq | apply sc_neq | apply sc_nil | apply sc_nnil | apply sc_seq | apply sc_nseq) <;> (intro hb; try exact dd hb)
        | apply sc_not | apply sc_or | (apply sc_i <;> intro hb)
        | (apply bx_i; intro hbd) | (apply gt_i; assumption; exact rfl)
        | (apply cx_is; first | fail) | (apply cx_do (i := 0) rfl; first | fail)
        | (apply ab_i; intro bl) | (apply as_i; intro va vk vc hva) | (apply av_i; intro v) | (apply ac_i; intro bl cap hcap)
        | apply bo_l | (apply nx_i <;> intro hnx) | (apply Ia.hit; assumption) | (apply Ia.miss; assumption)
        | (apply rt_is; exact rfl) | exact rt_w | (apply iv; assumption)
        | apply dw_q mixed hC hGL (by kernel_rfl) | (apply cq; assumption; (first | fail); exact rfl))
    all_goals (try conv => whnf)
    refine tup2 ?_
    refine rune_ok (by omega) ?_ (by decide)
    generalize hz : nextS s = z
    unfold nextS contAt mayN cp2 cp3 cp4 at hz
    try simp only [show Int.toNat 0 = 0 from rfl, show Int.toNat 1 = 1 from rfl, show Int.toNat (1 + 1) = 2 from rfl, show Int.toNat (1 + 1 + 1) = 3 from rfl] at *
    generalize byteAt s 0 = b0 at *
    generalize byteAt s 1 = b1 at *
    generalize byteAt s 2 = b2 at *
    generalize byteAt s 3 = b3 at *
    generalize s.length = l at *
    repeat' (split at hz; try (exfalso; omega))
    all_goals (try subst z)
    all_goals (first
      | exact ⟨rfl, rfl⟩
      | (simp only [Bool.and_eq_true, Bool.or_eq_true, decide_eq_true_eq, beq_iff_eq] at *; first | (exfalso; omega) | omega))
end Go.Proofs.YtidcpikoeohfbaaGreatDoor
namespace Go.Proofs.YtidcpikoeohfbaaGreatDoor
open Go
set_option maxRecDepth 20000
set_option maxHeartbeats 4000000
set_option linter.unusedSimpArgs false
set_option linter.unusedVariables false
attribute [local irreducible] AWp AOps byteAt SrcOK OrOk GloAll FnSpec
attribute [local irreducible] nextS badI badS stepS rngR ownB
attribute [local irreducible] firstTab runeS
theorem nextS_facts (s : List UInt8) : ((nextS s).2 = 0 → (nextS s).1 = 0) ∧ ((nextS s).2 = 1 → (nextS s).1 < 128) ∧ (s.length = 0 → (nextS s).2 = 0) := by
  refine ⟨?_, ?_, ?_⟩
  · unfold nextS; (repeat' split) <;> simp
  · unfold nextS; (repeat' split) <;> simp; omega
  · intro h; unfold nextS; simp [h]
theorem rune_next (s : List UInt8) : (((nextS s).2 : Int) = 0 → ((runeS s).2 : Int) = 0 ∧ s.length = 0 ∨ ((runeS s).1 : Int) = 65533 ∧ ((runeS s).2 : Int) = 1) ∧ (((nextS s).2 : Int) ≠ 0 → ((runeS s).1 : Int) = (nextS s).1 ∧ ((runeS s).2 : Int) = (nextS s).2) := by
  have hf := nextS_facts s
  unfold runeS
  by_cases h0 : s.length = 0
  · rw [if_pos h0]
    refine ⟨fun _ => .inl ⟨rfl, h0⟩, fun h => absurd (hf.2.2 h0) (by omega)⟩
  · rw [if_neg h0]
    by_cases h1 : (nextS s).2 = 0
    · rw [if_pos h1]
      exact ⟨fun _ => .inr ⟨rfl, rfl⟩, fun h => absurd h1 (by omega)⟩
    · rw [if_neg h1]
      exact ⟨fun h => absurd h (by omega), fun _ => ⟨rfl, rfl⟩⟩
theorem ref_Next {G : Glo} (hU : GloAll G utfTy) (s : List UInt8) :
    FnIs Tryz.prog G 60 [.str s] (.tuple [.int .i64 ((nextS s).1 : Int), .int .i64 ((nextS s).2 : Int)]) := by
  have hGL : GloAll G [] := gloAll_nil
  refine fn_x Tryz.func60 Tryz.call60 rfl rfl rfl rfl hGL ?_
  intro C hC
  have hd := dec_rune (G := G) hU s
  have hn := nextS_le s
  have hf := nextS_facts s
  have hr := rune_next s
  have hk : ((runeS s).1 : Int) ≤ 1114111 := by
    by_cases h : (nextS s).2 = 0
    · unfold runeS; rw [if_pos h]; split <;> decide
    · omega
  repeat' (first
    | (conv => whnf); first
      | refine .w ?_ | refine .v ?_ | apply sc_true | apply sc_false
      | (first | apply sc_lt | apply sc_nlt | apply sc_eq | apply sc_neq | apply sc_nil | apply sc_nnil | apply sc_seq | apply sc_nseq) <;> (intro hb; try exact dd hb)
      | apply sc_not | apply sc_or | (apply sc_i <;> intro hb)
      | (apply bx_i; intro hbd) | (apply gt_i; assumption; exact rfl)
      | (apply cx_is; first | exact hd) | (apply cx_do (i := 0) rfl; first | exact hd)
      | (apply ab_i; intro bl) | (apply as_i; intro va vk vc hva) | (apply av_i; intro v) | (apply ac_i; intro bl cap hcap)
      | apply bo_l | (apply nx_i <;> intro hnx) | (apply Ia.hit; assumption) | (apply Ia.miss; assumption)
      | (apply rt_is; exact rfl) | exact rt_w | (apply iv; assumption)
      | apply dw_q mixed hC hGL (by kernel_rfl) | (apply cq; assumption; (first | exact hd); exact rfl))
  all_goals (try conv => whnf)
  all_goals (refine tup2 ?_; omega)
theorem ref_Bad {G : Glo} (hU : GloAll G utfTy) (s : List UInt8) (hl : s.length ≤ 9223372036854775807) : FnIs Tryz.prog G 30 [.str s] (.int .i64 (badI s)) := by
  have hGL : GloAll G [] := gloAll_nil
  refine fn_x Tryz.func30 Tryz.call30 rfl rfl rfl rfl hGL ?_
  intro C hC
  have hle := fun k => nextS_le (s.drop k)
  have hN := fun t => ref_Next (G := G) hU t
  repeat' (first
    | (conv => whnf); first
      | refine .w ?_ | refine .v ?_ | apply sc_true | apply sc_false
      | (first | apply sc_lt | apply sc_nlt | apply sc_eq | apply sc_neq | apply sc_nil | apply sc_nnil | apply sc_seq | apply sc_nseq) <;> (intro hb; try exact dd hb)
      | apply sc_not | apply sc_or | (apply sc_i <;> intro hb)
      | (apply bx_i; intro hbd) | (apply gt_i; assumption; exact rfl)
      | (apply cx_is; first | exact hN _) | (apply cx_do (i := 0) rfl; first | exact hN _)
      | (apply ab_i; intro bl) | (apply as_i; intro va vk vc hva) | (apply av_i; intro v) | (apply ac_i; intro bl cap hcap)
      | apply bo_l | (apply nx_i <;> intro hnx) | (apply Ia.hit; assumption) | (apply Ia.miss; assumption)
      | (apply rt_is; exact rfl) | exact rt_w | (apply iv; assumption)
      | apply dw_q mixed hC hGL (by kernel_rfl) | (apply cq; assumption; (first | exact hN _); exact rfl))
  all_goals (try conv => whnf)
  refine lp hC hGL (fun (i : Nat) => [(0, .str s), (7, .own 0 (.pointer (some ⟨bl, 0, none⟩)))]) (fun i => [.iter bl s i]) (fun i => i ≤ s.length ∧ badS s = (badS (s.drop i)).map (· + i)) (fun i => s.length - i) 0 ?_ env_w rfl ?_
  · exact ⟨Nat.zero_le _, by simp⟩
  rintro i ⟨hi, hb0⟩
  have hn := hle i
  rw [List.length_drop] at hn
  repeat' (first
    | (conv => whnf); first
      | refine .w ?_ | refine .v ?_ | apply sc_true | apply sc_false
      | (first | apply sc_lt | apply sc_nlt | apply sc_eq | apply sc_neq | apply sc_nil | apply sc_nnil | apply sc_seq | apply sc_nseq) <;> (intro hb; try exact dd hb)
      | apply sc_not | apply sc_or | (apply sc_i <;> intro hb)
      | (apply bx_i; intro hbd) | (apply gt_i; assumption; exact rfl)
      | (apply cx_is; first | exact hN _) | (apply cx_do (i := 0) rfl; first | exact hN _)
      | (apply ab_i; intro bl) | (apply as_i; intro va vk vc hva) | (apply av_i; intro v) | (apply ac_i; intro bl cap hcap)
      | apply bo_l | (apply nx_i <;> intro hnx) | (apply Ia.hit; assumption) | (apply Ia.miss; assumption)
      | (apply rt_is; exact rfl) | exact rt_w | (apply iv; assumption)
      | apply dw_q mixed hC hGL (by kernel_rfl) | (apply cq; assumption; (first | exact hN _); exact rfl))
  all_goals (try conv => whnf)
  · apply rt_is
    refine congrArg (AVal.int .i64) ?_
    have h1 := badS_step (s.drop i) (by rw [List.length_drop]; omega)
    rw [if_pos (by omega)] at h1
    rw [h1] at hb0
    simp only [badI, hb0, Option.map_some, Nat.zero_add]
  · have h1 := badS_step (s.drop i) (by rw [List.length_drop]; omega)
    rw [if_neg (by omega)] at h1
    have h2 : stepS (s.drop i) = (nextS (s.drop i)).2 := by unfold stepS; rw [if_neg (by omega)]
    refine nxt (i + stepS (s.drop i)) ⟨by omega, ?_⟩ (by omega) ⟨rfl, rfl, trivial⟩ rfl
    rw [hb0, h1, List.drop_drop, h2]
    cases badS (s.drop (i + (nextS (s.drop i)).2)) <;> simp <;> omega
  · apply rt_is
    refine congrArg (AVal.int .i64) ?_
    rw [badS_nil (s.drop i) (by rw [List.length_drop]; omega)] at hb0
    simp only [badI, hb0, Option.map_none]
end Go.Proofs.YtidcpikoeohfbaaGreatDoor
namespace Go.Proofs.YtidcpikoeohfbaaGreatDoor
open Go Go.RowKit
theorem hdC_yes {b : Bool} {c : Int} (h : (c < 32 ∧ c ≠ 9 ∧ c ≠ 10) ∨ c = 127 ∨ (c = 10 ∧ b = false)) : hdC b c = true := decide_eq_true (by
  rcases h with h | h | h
  · exact .inl ⟨h.1, h.2.1, .inl h.2.2⟩
  · exact .inr h
  · exact .inl ⟨by omega, by omega, .inr h.2⟩)
theorem hdC_not {b : Bool} {c : Int} (h1 : c ≠ 127) (h : 32 ≤ c ∨ c = 9 ∨ (c = 10 ∧ b = true)) : hdC b c = false := decide_eq_false (by
  rintro (k | k)
  · rcases h with h | h | h
    · omega
    · omega
    · rcases k.2.2 with m | m
      · exact m h.1
      · rw [h.2] at m; cases m
  · exact h1 k)
theorem hdC_t {c : Int} : hdC true c = true ↔ (c < 32 ∧ c ≠ 9 ∧ c ≠ 10) ∨ c = 127 := by simp [hdC]
theorem hdC_f {c : Int} : hdC false c = true ↔ (c < 32 ∧ c ≠ 9) ∨ c = 127 := by simp [hdC]
theorem hdB_no {b : Bool} {s : List UInt8} {i : Nat} (hi : i < s.length) (h : hdC b (byteAt s i : Int) = true) (hb : ∀ j, j < i → hdC b (byteAt s j : Int) = false) : hdB b s = false := by
  unfold hdB
  rw [fstB_at hi h hb]
  exact decide_eq_false (by omega)
theorem hdB_end {b : Bool} {s : List UInt8} {i : Nat} (hi : s.length ≤ i) (hb : ∀ j, j < i → hdC b (byteAt s j : Int) = false) : hdB b s = ltB (badI s) 0 := by
  unfold hdB
  rw [fstB_none (fun j hj => hb j (by omega)), Bool.eq_iff_iff, ltB_t]
  simp
set_option maxRecDepth 20000
set_option maxHeartbeats 4000000
set_option linter.unusedSimpArgs false
set_option linter.unusedVariables false
attribute [local irreducible] AWp AOps byteAt SrcOK OrOk GloAll FnSpec
attribute [local irreducible] hdC hdB badI
theorem ref_control {G : Glo} (c : Int) : FnIs Tryz.prog G 33 [.int .u8 c] (.bool (hdC false c)) := by
  have hGL : GloAll G [] := gloAll_nil
  refine fn_x Tryz.func33 Tryz.call33 rfl rfl rfl rfl hGL ?_
  intro C hC
  refine xw ?_
  repeat' (first | exact Le.n | refine Lc.mk ?_ ?_)
  all_goals intros
  all_goals (apply rt_is; refine congrArg AVal.bool ?_)
  all_goals (rw [Bool.eq_iff_iff, hdC_f]; simp only [eqB_t, reduceCtorEq, true_iff, false_iff]; omega)
end Go.Proofs.YtidcpikoeohfbaaGreatDoor
namespace Go.Proofs.YtidcpikoeohfbaaGreatDoor
open Go Go.RowKit
set_option maxRecDepth 20000
set_option maxHeartbeats 4000000
set_option linter.unusedSimpArgs false
set_option linter.unusedVariables false
attribute [local irreducible] AWp AOps byteAt SrcOK OrOk GloAll FnSpec
attribute [local irreducible] hdC hdB badI
theorem value_Holds {G : Glo} (s : List UInt8) (b : Bool) (hl : s.length ≤ 9223372036854775807) : FnIs Tryz.prog G 20 [.str s, .bool b] (.bool (hdB b s)) := by
  have hB := utf_Bad (G := G) s hl
  have hGL : GloAll G [] := gloAll_nil
  refine fn_x Tryz.func20 Tryz.call20 rfl rfl rfl rfl hGL ?_
  intro C hC
  refine xw1 ?_
  refine lp hC hGL (fun i : Nat => [(0, .str s), (1, .bool b), (8, .int .i64 (s.length : Nat)), (9, .int .i64 (i : Nat))]) (fun _ => []) (fun i => i ≤ s.length ∧ ∀ j, j < i → hdC b (byteAt s j : Int) = false) (fun i => s.length - i) 0 ?_ env_w rfl ?_
  · exact ⟨Nat.zero_le _, fun j h => absurd h (Nat.not_lt_zero _)⟩
  rintro i ⟨h1, h2⟩
  refine xw ?_
  repeat' (first | exact Le.n | refine Lc.mk ?_ ?_)
  all_goals intros
  all_goals first
    | (apply rt_is; rw [hdB_no (i := i) (by omega) (by first | exact hdC_yes (.inl (by omega)) | exact hdC_yes (.inr (.inl (by omega))) | exact hdC_yes (.inr (.inr ⟨by omega, by assumption⟩))) h2]; rfl)
    | (refine nxt (i + 1) ⟨by omega, below_succ h2 (by first | exact hdC_not (by omega) (.inl (by omega)) | exact hdC_not (by omega) (.inr (.inl (by omega))) | exact hdC_not (by omega) (.inr (.inr ⟨by omega, by assumption⟩)))⟩ (by omega) env_w rfl)
    | (apply rt_is; rw [hdB_end (i := i) (by omega) h2])
/-- The first byte of which something holds that a function with one variable of its own tells. -/
theorem ref_firstOf1 {G : Glo} (s : List UInt8) (f : Nat) (cs : List AVal) (p : Int → Bool) (hl : s.length ≤ 9223372036854775807) (hp : ∀ c : Nat, c < 256 → FnIs Tryz.prog G f [.int .u8 (c : Int), .rop cs 0] (.bool (p c))) : FnIs Tryz.prog G 31 [.str s, .func (.func f) [] [.rop cs 0]] (.int .i64 (fstB p s)) := by
  have k1 := fun i (_ : 0 ≤ (byteAt s i : Int)) => hp (byteAt s i) (byteAt_lt s i)
  have hGL : GloAll G [] := gloAll_nil
  refine fn_x Tryz.func31 Tryz.call31 rfl rfl rfl rfl hGL ?_
  intro C hC
  refine xw1 ?_
  intro bl cap hcap
  refine lp hC hGL (fun (i : Nat) => [(1, .func (.func f) [] [.rop cs 0]), (8, .own 0 (.slice (some ⟨bl, 0, none⟩) s.length cap)), (9, .int .i64 s.length), (10, .int .i64 i)]) (fun _ => [.buf bl s cap]) (fun i => i ≤ s.length ∧ ∀ j, j < i → p (byteAt s j : Int) = false) (fun i => s.length - i) 0 ?_ env_w rfl ?_
  · exact ⟨Nat.zero_le _, fun j h => absurd h (Nat.not_lt_zero _)⟩
  rintro i ⟨hi, hb0⟩
  refine xw ?_
  repeat' (first | exact Le.n | refine Lc.mk ?_ ?_)
  all_goals intros
  all_goals first
    | (apply rt_is; rw [fstB_at (i := i) (by omega) (by assumption) hb0])
    | (refine nxt (i + 1) ⟨by omega, below_succ hb0 (by assumption)⟩ (by omega) env_w rfl)
    | (apply rt_is; rw [fstB_none (fun j hj => hb0 j (by omega))]; rfl)
theorem ref_Holds1 {G : Glo} (b : Bool) (c : Int) : FnIs Tryz.prog G 32 [.int .u8 c, .rop [.bool b] 0] (.bool (hdC b c)) := by
  have h := ref_control (G := G) c
  have hGL : GloAll G [] := gloAll_nil
  refine fn_x Tryz.func32 Tryz.call32 rfl rfl rfl rfl hGL ?_
  intro C hC
  refine xw ?_; refine ⟨fun h1 h2 => ?_, fun h1 h2 => ?_, fun h1 => ?_, .n⟩
  all_goals (apply rt_is; refine congrArg AVal.bool ?_; first | rw [hdC_f] at h1 | rw [← Bool.not_eq_true, hdC_f] at h1)
  · rcases h1 with h1 | h1
    · exact (hdC_yes (.inl ⟨h1.1, h1.2, h2⟩)).symm
    · exact (hdC_yes (.inr (.inl h1))).symm
  · rw [Bool.eq_iff_iff]; cases b
    · rw [hdC_f]; simp; omega
    · rw [hdC_t]; simp; omega
  · cases b
    · rw [Bool.eq_iff_iff, hdC_f]; simp; omega
    · rw [Bool.eq_iff_iff, hdC_t]; simp; omega
theorem ref_Holds {G : Glo} (hU : GloAll G utfTy) (s : List UInt8) (b : Bool) (hl : s.length ≤ 9223372036854775807) : FnIs Tryz.prog G 10 [.str s, .bool b] (.bool (hdB b s)) := by
  have h1 := ref_Bad hU s hl
  have h2 := ref_firstOf1 (G := G) s 32 [.bool b] (hdC b) hl (fun c _ => ref_Holds1 b c)
  have hGL : GloAll G [] := gloAll_nil
  refine fn_x Tryz.func10 Tryz.call10 rfl rfl rfl rfl hGL ?_
  intro C hC
  refine xw ?_; refine ⟨fun h => ?_, fun h => ?_, .n⟩
  all_goals (apply rt_is; refine congrArg AVal.bool ?_; unfold hdB; rw [Bool.eq_iff_iff]; simp only [ltB_t, decide_eq_true_eq, reduceCtorEq, false_iff]; omega)
end Go.Proofs.YtidcpikoeohfbaaGreatDoor
namespace Go.Proofs.YtidcpikoeohfbaaGreatDoor
open Go
set_option maxRecDepth 20000
set_option maxHeartbeats 4000000
set_option linter.unusedSimpArgs false
set_option linter.unusedVariables false
attribute [local irreducible] AWp AOps byteAt SrcOK OrOk GloAll FnSpec
abbrev nilS : Value := .slice none 0 0
/-- A call upon a builder and what it has written. -/
theorem cx_bl2 {P : Program} [Tab P] {G : Glo} {f : FuncId} {avs : List AVal} {H : Heap} {K Kp : AVal → Heap → Prop} {i j b : Nat} {p v p' v' : Value} {y y' : HEnt} {r : AVal} (hi : H[i]? = some (bldC b p j v)) (hj : H[j]? = some y) (hne : i ≠ j)
    (hs : FnSpec P G f avs [bldC b p 1 v, y] (fun x H => x = .ret r ∧ H = [bldC b p' 1 v', y']))
    (k : forceH ((H.set i (bldC b p' j v')).set j y') (K r)) : Cx P G f avs H K Kp := by
  obtain ⟨rest, hp, hp2⟩ := two_perm hne hi hj
  have h1 : FnSpec P G f avs [bldC b p j v, y] (fun x H => x = .ret r ∧ H = [bldC b p' j v', y']) := by
    refine fn_hint hs ?_
    rintro x H' ⟨rfl, rfl⟩
    exact ⟨_, ⟨rfl, rfl⟩, fun C R w h => ms_hint j h⟩
  refine ⟨fun x H' => x = .ret r ∧ H' = (H.set i (bldC b p' j v')).set j y', fn_heap (fn_perm (H1 := [bldC b p j v, y] ++ rest) hp.symm (fn_frame rest h1)) ?_, ?_, ?_⟩
  · rintro x H' ⟨H1', ⟨rfl, rfl⟩, rfl⟩
    exact ⟨_, (hp2 _ _).symm, rfl, rfl⟩
  · rintro v' H' ⟨e, rfl⟩
    cases e
    rw [forceH_eq] at k
    exact k
  · rintro v' H' ⟨e, rfl⟩; cases e
theorem builder_take {G : Glo} {b : Nat} {p v : Value} (s : List UInt8) (hlen : s.length ≤ 137438953472) : FnSpec Tryz.prog G 73 [.raw (ptrA b)] [bldC b p 1 v, bldR v s] (fun r H => r = .ret (.str s) ∧ H = [bldC b p 1 v, bldR nilS []]) :=
  fn_post (fun _ => Iff.rfl) (fun _ _ _ h => h) (builder_keep s hlen) fun r H' ⟨e, eH⟩ => ⟨_, ⟨e, rfl⟩, fun _ _ _ h => by
    rw [eH] at h
    exact (h.ghost (eT := some 5) 1).perm (List.Perm.swap _ _ _)⟩
/-- A fresh builder, told as one. -/
theorem lp_bldr {P : Program} [Tab P] {C : Ctx} {n : Nat} {env : Env} {H : Heap} {Q : AExit → Env → Heap → Prop} {c : Code} (i : Nat) {b : Nat} (hi : H[i]? = some (.cells b (some 119) [.raw (.pointer none), .raw (.slice none 0 0)]))
    (h : Lp P C n c env (H.set i (bldC b (.pointer none) H.length (.slice none 0 0)) ++ [bldR (.slice none 0 0) []]) Q) : Lp P C n c env H Q := by
  refine ⟨aw_ghost_row (eT := some 5) 1 ?_⟩
  have h := h.h
  unfold AWp at h ⊢
  intro R a w hm hf
  obtain ⟨Cs, e, fz, hb, hl, hr⟩ := hm.heap.holds (.cells b (some 119) [.raw (.pointer none), .raw (.slice none 0 0)]) (List.mem_cons_of_mem _ (List.mem_of_getElem? hi))
  obtain ⟨v1, t1, e1, r1, v2, t2, e2, r2, e3⟩ := hl
  have r2' : RelC R (.own H.length (.slice none 0 0)) [v2] := by
    have : v2 = .slice none 0 0 := by simpa [RelC, Value.cells] using r2
    subst this
    simp [RelC, vAgg]
  have h1 := hm.swap (i := i + 1) (x := .cells b (some 119) [.raw (.pointer none), .raw (.slice none 0 0)]) (y := bldC b (.pointer none) H.length (.slice none 0 0)) (by rw [List.getElem?_cons_succ]; exact hi) rfl
    ⟨Cs, e, fz, hb, ⟨v1, t1, e1, r1, v2, t2, e2, r2', e3⟩, hr⟩
  rw [List.set_cons_succ] at h1
  exact h R a w (h1.perm (List.perm_append_singleton _ _).symm) hf
end Go.Proofs.YtidcpikoeohfbaaGreatDoor
namespace Go.Proofs.YtidcpikoeohfbaaGreatDoor
open Go Go.RowKit
set_option maxRecDepth 20000
set_option maxHeartbeats 4000000
set_option linter.unusedSimpArgs false
set_option linter.unusedVariables false
attribute [local irreducible] AWp AOps byteAt SrcOK OrOk GloAll FnSpec
theorem builder_reset {G : Glo} {b : Nat} {p v : Value} : FnSpec Tryz.prog G 74 [.raw (ptrA b)] [bldC b p 1 v, bldR nilS []] (fun r H => r = .ret (.tuple []) ∧ H = [bldC b (.pointer none) 1 nilS, bldR nilS []]) := by
  have key : FnSpec Tryz.prog G 74 [.raw (ptrA b)] [bldC b p 1 v, bldR nilS []] (fun r H => r = .ret (.tuple []) ∧ H = [.cells b (some 119) [.raw (.pointer none), .raw nilS], bldR nilS []]) := by
    have hGL : GloAll G [] := gloAll_nil
    refine fn_xo 0 Tryz.func74 Tryz.call74 rfl rfl rfl rfl hGL rfl ?_
    intro C hC
    repeat' (first
      | (conv => whnf); first
        | refine .w ?_ | refine .v ?_ | apply sc_true | apply sc_false
        | (first | apply sc_lt | apply sc_nlt | apply sc_eq | apply sc_neq | apply sc_nil | apply sc_nnil | apply sc_seq | apply sc_nseq) <;> (intro hb; try exact dd hb)
        | apply sc_not | apply sc_or | (apply sc_i <;> intro hb)
        | (apply bx_i; intro hbd) | (apply gt_i; assumption; exact rfl)
        | (apply cx_is; first | fail) | (apply cx_do (i := 0) rfl; first | fail)
        | (apply ab_i; intro bl) | (apply as_i; intro va vk vc hva) | (apply av_i; intro v) | (apply ac_i; intro bl cap hcap)
        | apply bo_l | (apply nx_i <;> intro hnx) | (apply Ia.hit; assumption) | (apply Ia.miss; assumption)
        | (apply rt_is; exact rfl) | exact rt_w | (apply iv; assumption)
        | apply dw_q mixed hC hGL (by kernel_rfl) | (apply cq; assumption; (first | fail); exact rfl))
    all_goals (try conv => whnf)
  refine fn_post (fun _ => Iff.rfl) (fun _ _ _ h => h) key ?_
  rintro r H' ⟨rfl, rfl⟩
  refine ⟨_, ⟨rfl, rfl⟩, fun C R w h => ?_⟩
  have h0 := h.heap.holds _ List.mem_cons_self
  refine h.swap (i := 0) rfl rfl ?_
  obtain ⟨Cs, el, fz, hW, hr, hl⟩ := h0
  obtain ⟨u1, t1, e1, k1, u2, t2, e2, k2, e3⟩ := hr
  exact ⟨Cs, el, fz, hW, ⟨u1, t1, e1, k1, u2, t2, e2, nil_own k2, e3⟩, hl⟩
end Go.Proofs.YtidcpikoeohfbaaGreatDoor
