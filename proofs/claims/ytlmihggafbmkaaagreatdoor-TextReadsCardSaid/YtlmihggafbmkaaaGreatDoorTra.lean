/- Texts of lists and of parts (6.1): the plain law. -/
import Derived.Test.YtlmihggafbmkaaaGreatDoorTelb
namespace Go.Proofs.YtlmihggafbmkaaaGreatDoor
open Go
theorem snoc_ind {α : Type} {P : List α → Prop} (h0 : P []) (h1 : ∀ l a, P l → P (l ++ [a])) (l : List α) : P l := by
  rw [← List.reverse_reverse l]
  induction l.reverse with
  | nil => exact h0
  | cons a r ih => rw [List.reverse_cons]; exact h1 _ _ ih
/-- A byte, or a \ and the byte behind it. -/
inductive Tk where
  | one (c : UInt8)
  | two (d : UInt8)
def Tk.raw : Tk → List UInt8
  | .one c => [c]
  | .two d => [92, d]
def escV (d : UInt8) : UInt8 := if d = 110 ∨ d = 78 then 10 else d
def Tk.val : Tk → UInt8
  | .one c => c
  | .two d => escV d
def okE (d : UInt8) : Bool := decide (d = 92 ∨ d = 44 ∨ d = 59 ∨ d = 110 ∨ d = 78)
def Tk.ok : Tk → Prop
  | .one c => c ≠ 92
  | .two d => okE d = true
def errT : List UInt8 → Nat → Err
  | [], _ => .none
  | [c], i => if c = 92 then .at 7 ((i + 1 : Nat) : Int) else .none
  | c :: d :: r, i => if c = 92 then (if okE d then errT r (i + 2) else .at 3 ((i + 1 : Nat) : Int)) else errT (d :: r) (i + 1)
def tokT : List UInt8 → List Tk
  | [] => []
  | [c] => if c = 92 then [] else [.one c]
  | c :: d :: r => if c = 92 then (if okE d then .two d :: tokT r else []) else .one c :: tokT (d :: r)
abbrev rawT (T : List Tk) : List UInt8 := T.flatMap Tk.raw
abbrev valT (T : List Tk) : List UInt8 := T.map Tk.val
theorem errT_one {c : UInt8} (h : c ≠ 92) (r : List UInt8) (i : Nat) : errT (c :: r) i = errT r (i + 1) := by
  cases r with
  | nil => simp [errT, h]
  | cons d r => simp [errT, h]
theorem tokT_one {c : UInt8} (h : c ≠ 92) (r : List UInt8) : tokT (c :: r) = .one c :: tokT r := by
  cases r with
  | nil => simp [tokT, h]
  | cons d r => simp [tokT, h]
theorem errT_two {d : UInt8} (h : okE d = true) (r : List UInt8) (i : Nat) : errT (92 :: d :: r) i = errT r (i + 2) := by simp [errT, h]
theorem tokT_two {d : UInt8} (h : okE d = true) (r : List UInt8) : tokT (92 :: d :: r) = .two d :: tokT r := by simp [tokT, h]
theorem tok_ok : ∀ (n : Nat) (s : List UInt8), s.length ≤ n → ∀ t ∈ tokT s, t.ok
  | _, [], _, t, ht => by cases ht
  | 0, c :: r, hn, _, _ => by simp at hn
  | n + 1, c :: r, hn, t, ht => by
    have hn : r.length ≤ n := by simpa using hn
    by_cases hc : c = 92
    · subst hc
      cases r with
      | nil => simp [tokT] at ht
      | cons d r =>
        by_cases hd : okE d = true
        · rw [tokT_two hd] at ht
          rcases List.mem_cons.1 ht with rfl | ht
          · exact hd
          · exact tok_ok n r (by simp at hn; omega) t ht
        · simp [tokT, hd] at ht
    · rw [tokT_one hc] at ht
      rcases List.mem_cons.1 ht with rfl | ht
      · exact hc
      · exact tok_ok n r hn t ht
theorem tok_raw : ∀ (n : Nat) (s : List UInt8) (i : Nat), s.length ≤ n → errT s i = .none → rawT (tokT s) = s
  | _, [], _, _, _ => rfl
  | 0, c :: r, _, hn, _ => by simp at hn
  | n + 1, c :: r, i, hn, he => by
    have hn : r.length ≤ n := by simpa using hn
    by_cases hc : c = 92
    · subst hc
      cases r with
      | nil => simp [errT] at he
      | cons d r =>
        by_cases hd : okE d = true
        · rw [errT_two hd] at he
          rw [tokT_two hd]
          show 92 :: d :: rawT (tokT r) = _
          rw [tok_raw n r _ (by simp at hn; omega) he]
        · simp [errT, hd] at he
    · rw [errT_one hc] at he
      rw [tokT_one hc]
      show c :: rawT (tokT r) = _
      rw [tok_raw n r _ hn he]
theorem raw_tok : ∀ (T : List Tk) (i : Nat), (∀ t ∈ T, t.ok) → errT (rawT T) i = .none ∧ tokT (rawT T) = T
  | [], _, _ => ⟨rfl, rfl⟩
  | t :: T, i, h => by
    have ih := fun i => raw_tok T i (fun t ht => h t (List.mem_cons_of_mem _ ht))
    have ht := h t List.mem_cons_self
    cases t with
    | one c =>
      show errT (c :: rawT T) i = _ ∧ tokT (c :: rawT T) = _
      rw [errT_one ht, tokT_one ht, (ih _).1, (ih 0).2]
      exact ⟨rfl, rfl⟩
    | two d =>
      show errT (92 :: d :: rawT T) i = _ ∧ tokT (92 :: d :: rawT T) = _
      rw [errT_two ht, tokT_two ht, (ih _).1, (ih 0).2]
      exact ⟨rfl, rfl⟩
/-- So far. -/
def TokP (s : List UInt8) (i : Nat) (T : List Tk) : Prop := i ≤ s.length ∧ errT s 0 = errT (s.drop i) i ∧ tokT s = T ++ tokT (s.drop i)
theorem tokP_init (s : List UInt8) : TokP s 0 [] := ⟨Nat.zero_le _, rfl, rfl⟩
theorem at_eq {s : List UInt8} {i : Nat} (h : i < s.length) {c : UInt8} : s[i] = c ↔ (byteAt s i : Int) = c.toNat := by
  have e : byteAt s i = s[i].toNat := by simp [byteAt, List.getD, List.getElem?_eq_getElem h]
  rw [e, ← UInt8.toNat_inj]
  omega
theorem tokP_one {s : List UInt8} {i : Nat} {T : List Tk} (h : TokP s i T) (hi : i < s.length) (hc : (byteAt s i : Int) ≠ 92) : TokP s (i + 1) (T ++ [.one s[i]]) := by
  obtain ⟨_, h2, h3⟩ := h
  have hc : s[i] ≠ 92 := fun k => hc ((at_eq hi).1 k)
  rw [List.drop_eq_getElem_cons hi] at h2 h3
  rw [errT_one hc] at h2
  rw [tokT_one hc] at h3
  exact ⟨hi, h2, by rw [h3, List.append_assoc]; rfl⟩
theorem tokP_two {s : List UInt8} {i : Nat} {T : List Tk} (h : TokP s i T) (hi : i + 1 < s.length) (hc : (byteAt s i : Int) = 92) (hd : okE s[i + 1] = true) : TokP s (i + 2) (T ++ [.two s[i + 1]]) := by
  obtain ⟨_, h2, h3⟩ := h
  have hc : s[i] = 92 := (at_eq (by omega)).2 hc
  rw [List.drop_eq_getElem_cons (by omega : i < s.length), List.drop_eq_getElem_cons hi, hc] at h2 h3
  rw [errT_two hd] at h2
  rw [tokT_two hd] at h3
  exact ⟨hi, h2, by rw [h3, List.append_assoc]; rfl⟩
theorem tokP_miss {s : List UInt8} {i : Nat} {T : List Tk} (h : TokP s i T) (hi : i + 1 = s.length) (hc : (byteAt s i : Int) = 92) : errT s 0 = .at 7 ((i : Int) + 1) := by
  obtain ⟨_, h2, _⟩ := h
  have hc : s[i] = 92 := (at_eq (by omega)).2 hc
  rw [List.drop_eq_getElem_cons (by omega : i < s.length), List.drop_of_length_le (by omega), hc] at h2
  rw [h2]
  rfl
theorem tokP_bad {s : List UInt8} {i : Nat} {T : List Tk} (h : TokP s i T) (hi : i + 1 < s.length) (hc : (byteAt s i : Int) = 92) (hd : okE s[i + 1] = false) : errT s 0 = .at 3 ((i : Int) + 1) := by
  obtain ⟨_, h2, _⟩ := h
  have hc : s[i] = 92 := (at_eq (by omega)).2 hc
  rw [List.drop_eq_getElem_cons (by omega : i < s.length), List.drop_eq_getElem_cons hi, hc] at h2
  rw [h2]
  simp [errT, hd]
theorem tokP_end {s : List UInt8} {i : Nat} {T : List Tk} (h : TokP s i T) (hi : s.length ≤ i) : errT s 0 = .none ∧ tokT s = T := by
  obtain ⟨_, h2, h3⟩ := h
  rw [List.drop_of_length_le hi] at h2 h3
  exact ⟨h2, by simpa [tokT] using h3⟩
end Go.Proofs.YtlmihggafbmkaaaGreatDoor
namespace Go.Proofs.YtlmihggafbmkaaaGreatDoor
open Go
/-- The walk that cuts and takes \ away at once. -/
def stepP (at_ : List UInt8) (x : List (List UInt8) × List UInt8 × List UInt8) : Tk → List (List UInt8) × List UInt8 × List UInt8
  | .one c => if c ∈ at_ then (x.1 ++ [x.2.1], [], x.2.2 ++ [c]) else (x.1, x.2.1 ++ [c], x.2.2)
  | .two d => (x.1, x.2.1 ++ [escV d], x.2.2)
def stP (at_ : List UInt8) (T : List Tk) : List (List UInt8) × List UInt8 × List UInt8 := T.foldl (stepP at_) ([], [], [])
/-- Tokens cut at some. -/
def stepT (c : UInt8) (x : List (List Tk) × List Tk) : Tk → List (List Tk) × List Tk
  | .one b => if b = c then (x.1 ++ [x.2], []) else (x.1, x.2 ++ [.one b])
  | .two d => (x.1, x.2 ++ [.two d])
def stT (c : UInt8) (T : List Tk) : List (List Tk) × List Tk := T.foldl (stepT c) ([], [])
def splT (c : UInt8) (T : List Tk) : List (List Tk) := (stT c T).1 ++ [(stT c T).2]
/-- Bytes cut at one that has an even number of \ ahead. -/
def stepB (c : UInt8) (x : List (List UInt8) × List UInt8 × Bool) (b : UInt8) : List (List UInt8) × List UInt8 × Bool :=
  if b = c ∧ x.2.2 = false then (x.1 ++ [x.2.1], [], b == 92 && !x.2.2) else (x.1, x.2.1 ++ [b], b == 92 && !x.2.2)
def stB (c : UInt8) (s : List UInt8) : List (List UInt8) × List UInt8 × Bool := s.foldl (stepB c) ([], [], false)
def cutL (c : UInt8) (s : List UInt8) : List (List UInt8) := (stB c s).1 ++ [(stB c s).2.1]
theorem stP_snoc (a : List UInt8) (T : List Tk) (t : Tk) : stP a (T ++ [t]) = stepP a (stP a T) t := by unfold stP; rw [List.foldl_append]; rfl
theorem stT_snoc (c : UInt8) (T : List Tk) (t : Tk) : stT c (T ++ [t]) = stepT c (stT c T) t := by unfold stT; rw [List.foldl_append]; rfl
theorem stB_snoc (c : UInt8) (s : List UInt8) (b : UInt8) : stB c (s ++ [b]) = stepB c (stB c s) b := by unfold stB; rw [List.foldl_append]; rfl
theorem stB_two (c : UInt8) (s : List UInt8) (a b : UInt8) : stB c (s ++ [a, b]) = stepB c (stepB c (stB c s) a) b := by unfold stB; rw [List.foldl_append]; rfl
theorem raw_snoc (T : List Tk) (t : Tk) : rawT (T ++ [t]) = rawT T ++ t.raw := by simp
theorem val_snoc (T : List Tk) (t : Tk) : valT (T ++ [t]) = valT T ++ [t.val] := by simp
theorem snoc_ok {T : List Tk} {t : Tk} (h : ∀ x ∈ T ++ [t], x.ok) : (∀ x ∈ T, x.ok) ∧ t.ok := ⟨fun x hx => h x (List.mem_append_left _ hx), h t (by simp)⟩
/-- Cutting bytes is cutting tokens. -/
theorem cut_tok {c : UInt8} (hc : c ≠ 92) : ∀ T : List Tk, (∀ t ∈ T, t.ok) → stB c (rawT T) = ((stT c T).1.map rawT, rawT (stT c T).2, false) := by
  refine snoc_ind (fun _ => rfl) fun T t ih h => ?_
  obtain ⟨h1, h2⟩ := snoc_ok h
  have ih := ih h1
  rw [raw_snoc, stT_snoc]
  cases t with
  | one b =>
    have h2 : b ≠ 92 := h2
    rw [show (Tk.one b).raw = [b] from rfl, stB_snoc, ih]
    unfold stepB stepT
    by_cases hb : b = c
    · subst hb
      simp [h2]
    · simp [hb, h2, Tk.raw]
  | two d =>
    rw [show (Tk.two d).raw = [92, d] from rfl, stB_two, ih]
    unfold stepT
    by_cases hd : d = 92
    · simp [stepB, hd, Ne.symm hc, Tk.raw]
    · simp [stepB, hd, Ne.symm hc, Tk.raw]
theorem stT_ok {c : UInt8} : ∀ T : List Tk, (∀ t ∈ T, t.ok) → (∀ T' ∈ (stT c T).1, ∀ t ∈ T', t.ok) ∧ ∀ t ∈ (stT c T).2, t.ok := by
  refine snoc_ind (fun _ => ⟨fun _ h => by simp [stT] at h, fun _ h => by simp [stT] at h⟩) fun T t ih h => ?_
  obtain ⟨h1, h2⟩ := snoc_ok h
  obtain ⟨i1, i2⟩ := ih h1
  rw [stT_snoc]
  have key : ∀ x ∈ (stT c T).2 ++ [t], x.ok := fun x hx => by
    rcases List.mem_append.1 hx with hx | hx
    · exact i2 x hx
    · rw [List.mem_singleton.1 hx]; exact h2
  cases t with
  | one b =>
    unfold stepT
    by_cases hb : b = c
    · simp only [hb, if_true]
      refine ⟨fun T' hT => ?_, fun x hx => by cases hx⟩
      rcases List.mem_append.1 hT with hT | hT
      · exact i1 T' hT
      · rw [List.mem_singleton.1 hT]; exact i2
    · simp only [hb, if_false]
      exact ⟨i1, key⟩
  | two d => exact ⟨i1, key⟩
theorem splT_ok {c : UInt8} {T : List Tk} (h : ∀ t ∈ T, t.ok) : ∀ T' ∈ splT c T, ∀ t ∈ T', t.ok := by
  obtain ⟨h1, h2⟩ := stT_ok (c := c) T h
  intro T' hT
  rcases List.mem_append.1 hT with hT | hT
  · exact h1 T' hT
  · rw [List.mem_singleton.1 hT]; exact h2
/-- The pieces of a text that may be. -/
theorem cutL_tok {c : UInt8} (hc : c ≠ 92) {T : List Tk} (h : ∀ t ∈ T, t.ok) : cutL c (rawT T) = (splT c T).map rawT := by
  unfold cutL splT
  rw [cut_tok hc T h, List.map_append]
  rfl
theorem stP_nil : ∀ T : List Tk, stP [] T = ([], valT T, []) := by
  refine snoc_ind rfl fun T t ih => ?_
  rw [stP_snoc, ih, val_snoc]
  cases t <;> simp [stepP, Tk.val]
theorem stP_one (c : UInt8) : ∀ T : List Tk, (stP [c] T).1 = (stT c T).1.map valT ∧ (stP [c] T).2.1 = valT (stT c T).2 := by
  refine snoc_ind ⟨rfl, rfl⟩ fun T t ih => ?_
  rw [stP_snoc, stT_snoc]
  cases t with
  | one b =>
    unfold stepP stepT
    by_cases hb : b = c
    · simp [hb, ih.1, ih.2]
    · simp [hb, ih.1, ih.2, Tk.val]
  | two d => simp [stepP, stepT, ih.1, ih.2, Tk.val]
/-- A text put behind the last list. -/
def lastA (out : List (List (List UInt8))) (x : List UInt8) : List (List (List UInt8)) := out.dropLast ++ [out.getLast?.getD [] ++ [x]]
theorem lastA_snoc (out : List (List (List UInt8))) (l : List (List UInt8)) (x : List UInt8) : lastA (out ++ [l]) x = out ++ [l ++ [x]] := by simp [lastA]
def stepG (out : List (List (List UInt8))) (c : UInt8 × List UInt8) : List (List (List UInt8)) := lastA (if c.1 = 59 then out ++ [[]] else out) c.2
/-- Texts and what is between, as lists. -/
def grpS (l : List (List UInt8)) (cuts : List UInt8) : List (List (List UInt8)) := (cuts.zip l.tail).foldl stepG [[l.headD []]]
theorem grp_snoc (l : List (List UInt8)) (hl : l ≠ []) (cuts : List UInt8) (h : l.length = cuts.length + 1) (c : UInt8) (x : List UInt8) : grpS (l ++ [x]) (cuts ++ [c]) = stepG (grpS l cuts) (c, x) := by
  cases l with
  | nil => exact absurd rfl hl
  | cons a l =>
    have h : cuts.length = l.length := by simpa using h.symm
    unfold grpS
    simp only [List.cons_append, List.tail_cons, List.headD_cons]
    rw [List.zip_append h, List.foldl_append]
    rfl
theorem grp_one (x : List UInt8) : grpS [x] [] = [[x]] := rfl
def lstT (T : List Tk) : List (List UInt8) := (splT 44 T).map valT
theorem lstT_eq (T : List Tk) : lstT T = (stT 44 T).1.map valT ++ [valT (stT 44 T).2] := by simp [lstT, splT]
theorem stepG_comma (o : List (List (List UInt8))) (x : List UInt8) : stepG o (44, x) = lastA o x := rfl
theorem stepG_semi (o : List (List (List UInt8))) (x : List UInt8) : stepG o (59, x) = lastA (o ++ [[]]) x := rfl
theorem stP_two : ∀ T : List Tk, (stP [44, 59] T).1.length = (stP [44, 59] T).2.2.length ∧ (stP [44, 59] T).2.1 = valT (stT 44 (stT 59 T).2).2 ∧
    ∀ x, grpS ((stP [44, 59] T).1 ++ [x]) (stP [44, 59] T).2.2 = (stT 59 T).1.map lstT ++ [(stT 44 (stT 59 T).2).1.map valT ++ [x]] := by
  refine snoc_ind ⟨rfl, rfl, fun x => rfl⟩ fun T t ih => ?_
  obtain ⟨h1, h2, h3⟩ := ih
  rw [stP_snoc, stT_snoc]
  cases t with
  | one b =>
    by_cases hb : b = 59
    · subst hb
      rw [show stepP [44, 59] (stP [44, 59] T) (.one 59) = ((stP [44, 59] T).1 ++ [(stP [44, 59] T).2.1], [], (stP [44, 59] T).2.2 ++ [59]) from rfl, show stepT 59 (stT 59 T) (.one 59) = ((stT 59 T).1 ++ [(stT 59 T).2], []) from rfl]
      refine ⟨by simp [h1], rfl, fun x => ?_⟩
      rw [grp_snoc _ (by simp) _ (by simp [h1]), h3, h2]
      rw [stepG_semi, lastA_snoc, List.map_append, List.map_cons, lstT_eq]
      simp [stT]
    · by_cases hb2 : b = 44
      · subst hb2
        rw [show stepP [44, 59] (stP [44, 59] T) (.one 44) = ((stP [44, 59] T).1 ++ [(stP [44, 59] T).2.1], [], (stP [44, 59] T).2.2 ++ [44]) from rfl, show stepT 59 (stT 59 T) (.one 44) = ((stT 59 T).1, (stT 59 T).2 ++ [.one 44]) from rfl]
        dsimp only
        rw [stT_snoc, show stepT 44 (stT 44 (stT 59 T).2) (.one 44) = ((stT 44 (stT 59 T).2).1 ++ [(stT 44 (stT 59 T).2).2], []) from rfl]
        refine ⟨by simp [h1], rfl, fun x => ?_⟩
        rw [grp_snoc _ (by simp) _ (by simp [h1]), h3, h2]
        rw [stepG_comma, lastA_snoc]
        simp
      · have e1 : stepP [44, 59] (stP [44, 59] T) (.one b) = ((stP [44, 59] T).1, (stP [44, 59] T).2.1 ++ [b], (stP [44, 59] T).2.2) := by simp [stepP, hb, hb2]
        have e2 : stepT 59 (stT 59 T) (.one b) = ((stT 59 T).1, (stT 59 T).2 ++ [.one b]) := by simp [stepT, hb]
        have e3 : stT 44 ((stT 59 T).2 ++ [.one b]) = ((stT 44 (stT 59 T).2).1, (stT 44 (stT 59 T).2).2 ++ [.one b]) := by rw [stT_snoc]; simp [stepT, hb2]
        rw [e1, e2]
        dsimp only
        rw [e3]
        exact ⟨h1, by rw [h2, val_snoc]; rfl, h3⟩
  | two d =>
    have e2 : stepT 59 (stT 59 T) (.two d) = ((stT 59 T).1, (stT 59 T).2 ++ [.two d]) := rfl
    have e3 : stT 44 ((stT 59 T).2 ++ [.two d]) = ((stT 44 (stT 59 T).2).1, (stT 44 (stT 59 T).2).2 ++ [.two d]) := by rw [stT_snoc]; rfl
    rw [e2, show stepP [44, 59] (stP [44, 59] T) (.two d) = ((stP [44, 59] T).1, (stP [44, 59] T).2.1 ++ [escV d], (stP [44, 59] T).2.2) from rfl]
    dsimp only
    rw [e3]
    exact ⟨h1, by rw [h2, val_snoc]; rfl, h3⟩
/-- Both ways to lists of texts. -/
theorem grp_tok (T : List Tk) : grpS ((stP [44, 59] T).1 ++ [(stP [44, 59] T).2.1]) (stP [44, 59] T).2.2 = (splT 59 T).map lstT := by
  obtain ⟨_, h2, h3⟩ := stP_two T
  rw [h3, h2, splT, List.map_append, List.map_cons, lstT_eq]
  rfl
end Go.Proofs.YtlmihggafbmkaaaGreatDoor
namespace Go.Proofs.YtlmihggafbmkaaaGreatDoor
open Go
/-- How many \ stand right ahead. -/
def bsN (s : List UInt8) : Nat → Nat
  | 0 => 0
  | i + 1 => if (byteAt s i : Int) = 92 then bsN s i + 1 else 0
theorem bsN_le (s : List UInt8) : ∀ i, bsN s i ≤ i
  | 0 => Nat.le_refl _
  | i + 1 => by
    have := bsN_le s i
    unfold bsN
    split <;> omega
theorem bsN_at (s : List UInt8) : ∀ i n, n < bsN s i → (byteAt s (i - n - 1) : Int) = 92
  | 0, n, h => absurd h (Nat.not_lt_zero _)
  | i + 1, n, h => by
    unfold bsN at h
    split at h
    · rename_i hb
      cases n with
      | zero => exact hb
      | succ n =>
        rw [show i + 1 - (n + 1) - 1 = i - n - 1 by omega]
        exact bsN_at s i n (by omega)
    · exact absurd h (Nat.not_lt_zero _)
theorem bsN_stop (s : List UInt8) : ∀ i, bsN s i = i ∨ (byteAt s (i - bsN s i - 1) : Int) ≠ 92
  | 0 => .inl rfl
  | i + 1 => by
    rcases bsN_stop s i with h | h
    · unfold bsN
      split
      · left; rw [h]
      · rename_i hb; exact .inr hb
    · unfold bsN
      split
      · right
        rw [show i + 1 - (bsN s i + 1) - 1 = i - bsN s i - 1 by omega]
        exact h
      · rename_i hb; exact .inr hb
/-- So far. -/
def CutP (s : List UInt8) (c : UInt8) (i : Nat) (out : List (List UInt8)) (fr : Nat) : Prop := i ≤ s.length ∧ fr ≤ i ∧ out.length ≤ i ∧ stB c (s.take i) = (out, (s.take i).drop fr, decide (bsN s i % 2 = 1))
theorem cutP_init (s : List UInt8) (c : UInt8) : CutP s c 0 [] 0 := ⟨Nat.zero_le _, Nat.le_refl _, Nat.le_refl _, rfl⟩
theorem odd_next (s : List UInt8) {i : Nat} (h : i < s.length) : (s[i] == 92 && !decide (bsN s i % 2 = 1)) = decide (bsN s (i + 1) % 2 = 1) := by
  have e : (s[i] == 92) = decide ((byteAt s i : Int) = 92) := by
    rw [Bool.eq_iff_iff, beq_iff_eq, decide_eq_true_eq, at_eq h]; rfl
  rw [e]
  rw [show bsN s (i + 1) = if (byteAt s i : Int) = 92 then bsN s i + 1 else 0 from rfl]
  by_cases hb : (byteAt s i : Int) = 92
  · simp only [hb, decide_true, Bool.true_and, if_true]
    rw [Bool.eq_iff_iff]
    simp only [Bool.not_eq_true', decide_eq_false_iff_not, decide_eq_true_eq]
    omega
  · simp [hb]
theorem cutP_cut {s : List UInt8} {c : UInt8} {i fr : Nat} {out : List (List UInt8)} (h : CutP s c i out fr) (hi : i < s.length) (hb : (byteAt s i : Int) = c.toNat) (he : bsN s i % 2 = 0) : CutP s c (i + 1) (out ++ [(s.take i).drop fr]) (i + 1) := by
  obtain ⟨_, h1, h0, h2⟩ := h
  have hb := (at_eq hi).2 hb
  refine ⟨hi, Nat.le_refl _, by simp; omega, ?_⟩
  rw [List.take_succ_eq_append_getElem hi, stB_snoc, h2]
  unfold stepB
  rw [if_pos ⟨hb, by simp [he]⟩]
  rw [odd_next s hi]
  simp
theorem cutP_go {s : List UInt8} {c : UInt8} {i fr : Nat} {out : List (List UInt8)} (h : CutP s c i out fr) (hi : i < s.length) (hb : ¬ ((byteAt s i : Int) = c.toNat ∧ bsN s i % 2 = 0)) : CutP s c (i + 1) out fr := by
  obtain ⟨_, h1, h0, h2⟩ := h
  refine ⟨hi, by omega, by omega, ?_⟩
  rw [List.take_succ_eq_append_getElem hi, stB_snoc, h2]
  unfold stepB
  rw [if_neg ?_]
  · rw [odd_next s hi, List.drop_append_of_le_length (by rw [List.length_take]; omega)]
  · rintro ⟨k1, k2⟩
    refine hb ⟨(at_eq hi).1 k1, ?_⟩
    have : ¬ bsN s i % 2 = 1 := by simpa using k2
    omega
theorem cutP_end {s : List UInt8} {c : UInt8} {i fr : Nat} {out : List (List UInt8)} (h : CutP s c i out fr) (hi : s.length ≤ i) : cutL c s = out ++ [s.drop fr] := by
  obtain ⟨_, h1, h0, h2⟩ := h
  rw [List.take_of_length_le hi] at h2
  unfold cutL
  rw [h2]
end Go.Proofs.YtlmihggafbmkaaaGreatDoor
