/- Parts of the proof of cardItems_card: Lpa, Slc, Rva, Rpk, Rph, Rpg, Rpi, App, Rpw, Rpx, Rpy, Rpz. -/
import Derived.Test.YtkelbglfhigmiaaGreatDoorBaf
import Derived.Test.YtkelbglfhigmiaaGreatDoorBad
set_option linter.unusedVariables false
set_option linter.unusedSimpArgs false
set_option linter.unusedSectionVars false
namespace Go.Proofs.YtkelbglfhigmiaaGreatDoor
set_option maxRecDepth 20000
set_option maxHeartbeats 4000000
section
open Go Go.RowKit
inductive PR (α : Type) where
 | ok (v : α)
 | bad (e : Int) (p : Nat)
def cb (p : Int → Bool) (s : List UInt8) (a : Nat) : Nat :=
 if a < s.length ∧ p (aa s a : Int) = true then cb p s (a + 1) else a
termination_by s.length - a
section
variable {p : Int → Bool} {s : List UInt8}
theorem kc {a : Nat} (h : a < s.length) (k : p (aa s a : Int) = true) : cb p s a = cb p s (a + 1) := by
 rw [cb, if_pos ⟨h, k⟩]
theorem iy {a : Nat} (h : s.length ≤ a) : cb p s a = a := by
 rw [cb, if_neg (by omega)]
theorem gM {a : Nat} (h : p (aa s a : Int) = false) : cb p s a = a := by
 rw [cb, if_neg (by rw [h]; simp)]
theorem m8 : ∀ (n a : Nat), s.length - a ≤ n → a ≤ cb p s a ∧ (a ≤ s.length → cb p s a ≤ s.length) ∧ (∀ j, a ≤ j → j < cb p s a → p (aa s j : Int) = true) ∧ (cb p s a < s.length → p (aa s (cb p s a) : Int) = false)
 | n, a, hn => by
  by_cases h : a < s.length
  ·cases k : p (aa s a : Int) with
   | true =>
    cases n with
    | zero => omega
    | succ n =>
     have ih := m8 n (a + 1) (by omega)
     rw [kc h k]
     refine ⟨by omega, fun _ => ih.2.1 (by omega), fun j h1 h2 => ?_, ih.2.2.2⟩
     rcases Nat.lt_or_ge a j with g | g
     ·exact ih.2.2.1 j (by omega) h2
     ·rw [show j = a by omega]; exact k
   | false =>
    rw [gM k]
    exact ⟨Nat.le_refl _, id, fun j h1 h2 => by omega, fun _ => k⟩
  ·rw [iy (by omega)]
   exact ⟨Nat.le_refl _, id, fun j h1 h2 => by omega, fun h2 => absurd h2 h⟩
theorem wY (a : Nat) : a ≤ cb p s a := (m8 _ a (Nat.le_refl _)).1
theorem qk {a : Nat} (h : a ≤ s.length) : cb p s a ≤ s.length := (m8 _ a (Nat.le_refl _)).2.1 h
end
def atB (s : List UInt8) (a : Nat) (c : Int) : Bool := decide (a < s.length ∧ (aa s a : Int) = c)
theorem bB {s : List UInt8} {a : Nat} {c : Int} : atB s a c = true ↔ a < s.length ∧ (aa s a : Int) = c := by simp [atB]
theorem yo {s : List UInt8} {a : Nat} {c : Int} : atB s a c = false ↔ ¬ (a < s.length ∧ (aa s a : Int) = c) := by simp only [atB, decide_eq_false_iff_not]
def aR (s : List UInt8) (a : Nat) : PR (List UInt8 × Nat) :=
 if isS ((s.take (cb aG s a)).drop a) then .ok ((s.take (cb aG s a)).drop a, cb aG s a) else .bad 5 a
def dIf (c : Bool) (s : List UInt8) : List UInt8 := if c then decS s else s
def endQ (q : Bool) (c : Int) : Bool := decide (c = 34 ∨ (q = false ∧ (c = 44 ∨ c = 59 ∨ c = 58)))
theorem v8 {q : Bool} {c : Int} : endQ q c = true ↔ (c = 34 ∨ (q = false ∧ (c = 44 ∨ c = 59 ∨ c = 58))) := by simp [endQ]
theorem Ga {q : Bool} {c : Int} : endQ q c = false ↔ ¬ (c = 34 ∨ (q = false ∧ (c = 44 ∨ c = 59 ∨ c = 58))) := by simp only [endQ, decide_eq_false_iff_not]
def goQ (q : Bool) (c : Int) : Bool := !endQ q c && !hdC false c
def valF (s : List UInt8) (a : Nat) : Nat := if atB s a 34 then a + 1 else a
def valJ (s : List UInt8) (a : Nat) : Nat := cb (goQ (atB s a 34)) s (valF s a)
def valP (c : Bool) (s : List UInt8) (a : Nat) : PR (List UInt8 × Nat) :=
 if valJ s a < s.length ∧ endQ (atB s a 34) (aa s (valJ s a) : Int) = false then .bad 3 (valJ s a)
 else if atB s a 34 = false then .ok (dIf c ((s.take (valJ s a)).drop (valF s a)), valJ s a)
 else if valJ s a < s.length then .ok (dIf c ((s.take (valJ s a)).drop (valF s a)), valJ s a + 1)
 else .bad 7 (valJ s a)
theorem mA (s : List UInt8) (a : Nat) : a ≤ valF s a ∧ valF s a ≤ a + 1 ∧ (a ≤ s.length → valF s a ≤ s.length) := by
 unfold valF
 split
 ·rename_i h
  have := (bB.1 h).1
  omega
 ·omega
theorem fh {c : Bool} {s v : List UInt8} {a b : Nat} (h : valP c s a = .ok (v, b)) : a ≤ b ∧ (a ≤ s.length → b ≤ s.length) := by
 have h1 := mA s a
 have h2 : valF s a ≤ valJ s a := wY _
 have h3 : valF s a ≤ s.length → valJ s a ≤ s.length := qk
 unfold valP at h
 split at h
 ·cases h
 ·split at h
  ·cases h; omega
  ·split at h
   ·cases h; omega
   ·cases h
def ca (c : Bool) (s : List UInt8) (a : Nat) (acc : List (List UInt8)) : PR (List (List UInt8) × Nat) :=
 match valP c s a with
 | .bad e p => .bad e p
 | .ok (v, b) => if h : a ≤ b ∧ b < s.length ∧ aa s b = 44 then ca c s (b + 1) (acc ++ [v]) else .ok (acc ++ [v], b)
termination_by s.length - a
theorem dH {c : Bool} {s : List UInt8} {a : Nat} {acc : List (List UInt8)} {e : Int} {p : Nat} (h : valP c s a = .bad e p) : ca c s a acc = .bad e p := by
 rw [ca, h]
theorem im {c : Bool} {s v : List UInt8} {a b : Nat} {acc : List (List UInt8)} (h : valP c s a = .ok (v, b)) (hb : atB s b 44 = true) : ca c s a acc = ca c s (b + 1) (acc ++ [v]) := by
 have h1 := fh h
 have h2 := bB.1 hb
 rw [ca, h]
 dsimp only
 rw [dif_pos ⟨h1.1, h2.1, by omega⟩]
theorem gq {c : Bool} {s v : List UInt8} {a b : Nat} {acc : List (List UInt8)} (h : valP c s a = .ok (v, b)) (hb : atB s b 44 = false) : ca c s a acc = .ok (acc ++ [v], b) := by
 have h2 := yo.1 hb
 rw [ca, h]
 dsimp only
 rw [dif_neg (by omega)]
theorem fF {c : Bool} {s : List UInt8} : ∀ (n : Nat) {a b : Nat} {acc vs : List (List UInt8)}, s.length - a ≤ n → ca c s a acc = .ok (vs, b) → a ≤ b ∧ (a ≤ s.length → b ≤ s.length) ∧ acc.length < vs.length ∧ vs.length ≤ acc.length + 1 + (b - a)
 | n, a, b, acc, vs, hn, h => by
  cases hv : valP c s a with
  | bad e p => rw [dH hv] at h; cases h
  | ok x =>
   obtain ⟨v, d⟩ := x
   have h1 := fh hv
   cases hb : atB s d 44 with
   | true =>
    have h2 := bB.1 hb
    rw [im hv hb] at h
    cases n with
    | zero => omega
    | succ n =>
     have ih := fF n (by omega) h
     rw [List.length_append, List.length_singleton] at ih
     omega
   | false =>
    rw [gq hv hb] at h
    cases h
    rw [List.length_append, List.length_singleton]
    omega
def bq (c : Bool) (s : List UInt8) (a : Nat) (acc : List Pr) : PR (List Pr × Nat) :=
 if h : a < s.length ∧ aa s a = 59 then
  match aR s (a + 1) with
  | .bad e p => .bad e p
  | .ok (w, j) => if atB s j 61 then
    match ca c s (j + 1) [] with
    | .bad e p => .bad e p
    | .ok (vs, b) => if acc.length = 20 then .bad 4 (a + 1) else if g : a < b then bq c s b (acc ++ [⟨w, vs⟩]) else .bad 0 0
   else .bad 7 j
 else .ok (acc, a)
termination_by s.length - a
theorem bL {s w : List UInt8} {a j : Nat} (h : aR s a = .ok (w, j)) : a ≤ j ∧ (a ≤ s.length → j ≤ s.length) ∧ w = (s.take j).drop a ∧ w.length ≤ 40 ∧ isS w = true := by
 unfold aR at h
 split at h
 ·rename_i hi
  cases h
  refine ⟨wY _, qk, rfl, ?_, hi⟩
  unfold isS at hi
  rw [Bool.and_eq_true, Bool.and_eq_true, decide_eq_true_eq, decide_eq_true_eq] at hi
  exact hi.2.2
 ·cases h
section
variable {c : Bool} {s w : List UInt8} {a j b p : Nat} {acc : List Pr} {vs : List (List UInt8)} {e : Int}
theorem eD (h : atB s a 59 = false) : bq c s a acc = .ok (acc, a) := by
 have h := yo.1 h
 rw [bq, dif_neg (by omega)]
theorem dB (h : atB s a 59 = true) (hw : aR s (a + 1) = .bad e p) : bq c s a acc = .bad e p := by
 have h := bB.1 h
 rw [bq, dif_pos (by omega), hw]
theorem fM (h : atB s a 59 = true) (hw : aR s (a + 1) = .ok (w, j)) (hj : atB s j 61 = false) : bq c s a acc = .bad 7 j := by
 have h := bB.1 h
 rw [bq, dif_pos (by omega), hw]
 dsimp only
 rw [hj]
 rfl
theorem cz (h : atB s a 59 = true) (hw : aR s (a + 1) = .ok (w, j)) (hj : atB s j 61 = true) (hv : ca c s (j + 1) [] = .bad e p) : bq c s a acc = .bad e p := by
 have h := bB.1 h
 rw [bq, dif_pos (by omega), hw]
 dsimp only
 rw [hj, if_pos rfl, hv]
theorem eC (h : atB s a 59 = true) (hw : aR s (a + 1) = .ok (w, j)) (hj : atB s j 61 = true) (hv : ca c s (j + 1) [] = .ok (vs, b)) (hl : acc.length = 20) : bq c s a acc = .bad 4 (a + 1) := by
 have h := bB.1 h
 rw [bq, dif_pos (by omega), hw]
 dsimp only
 rw [hj, if_pos rfl, hv]
 dsimp only
 rw [if_pos hl]
theorem fL (h : atB s a 59 = true) (hw : aR s (a + 1) = .ok (w, j)) (hj : atB s j 61 = true) (hv : ca c s (j + 1) [] = .ok (vs, b)) (hl : acc.length ≠ 20) : bq c s a acc = bq c s b (acc ++ [⟨w, vs⟩]) := by
 have h := bB.1 h
 have h1 := bL hw
 have h2 := fF _ (Nat.le_refl _) hv
 rw [bq, dif_pos (by omega), hw]
 dsimp only
 rw [hj, if_pos rfl, hv]
 dsimp only
 rw [if_neg hl, dif_pos (by omega)]
end
def cT (s : List UInt8) : PR ((List UInt8 × List UInt8) × Nat) :=
 match aR s 0 with
 | .bad e p => .bad e p
 | .ok (w, j) => if atB s j 46 then
   match aR s (j + 1) with
   | .bad e p => .bad e p
   | .ok (n, k) => .ok ((w, n), k)
  else .ok (([], w), j)
def eo (s g n : List UInt8) (ps : List Pr) (b : Nat) : PR Ln :=
 if atB s b 58 then
  if fstB (hdC false) (s.drop (b + 1)) < 0 then .ok ⟨g, n, ps, s.drop (b + 1)⟩ else .bad 3 (b + 1 + (fstB (hdC false) (s.drop (b + 1))).toNat)
 else .bad 7 b
def bT (c : Bool) (s : List UInt8) : PR Ln :=
 if badI s < 0 then
  match cT s with
  | .bad e p => .bad e p
  | .ok ((g, n), a) => match bq c s a [] with
   | .bad e p => .bad e p
   | .ok (ps, b) => eo s g n ps b
 else .bad 3 (badI s).toNat
def Ln.no : Ln := ⟨[], [], [], []⟩
def lpL (c : Bool) (s : List UInt8) : Ln := match bT c s with
 | .ok l => l
 | .bad _ _ => Ln.no
def lpE (c : Bool) (s : List UInt8) : Err := match bT c s with
 | .ok _ => .none
 | .bad e p => .at e p
end
section
open Go Go.RowKit
theorem MS.seal_cells {C : Ctx} {R : Seal} {w : World} {H : Heap} {b : Nat} {eT : Option TypeId} {cs : List AVal} (h : MS C R (.cells b eT cs :: H) w) :
  ∃ R', R.le R' ∧ MS C R' H w ∧ Rel R' (.rop cs 0) (.pointer (some ⟨b, 0, none⟩)) := by
 obtain ⟨Cs, el, fz, hb, hl, hfz⟩ := h.heap.holds _ (List.mem_cons_self ..)
 obtain ⟨h1, h2⟩ := h.fixed (b := b) rfl hb
 refine ⟨_, h2, h1, ⟨b, 0, Cs, el, fz, rfl, Nat.le_refl _, Seal.put_at _ _ _, ?_⟩, rfl⟩
 have hlen := aw hl
 rw [Nat.sub_self, List.drop_zero, List.take_of_length_le (by omega)]
 exact bX h2 _ _ hl
abbrev iL : HEnt := .row (.slice none 0 0) none 1 0 []
section
variable {P : Program} [Tab P] {C : Ctx} {n : Nat} {G : Glo} {GL : List (Nat × List AVal)} {e : Env} {h : Heap} {env : Env} {H : Heap} {Q : AExit → Env → Heap → Prop}
theorem aM {i k j b : Nat} {eT : Option TypeId} {cs : List AVal} (hi : h[i]? = some (.cells b eT cs)) (hk : Env.get e k = some (.own j (.pointer (some ⟨b, 0, none⟩)))) :
  To C n e h ((k, .rop cs 0) :: e) (h.set i iL) := fun R a w hm hf => by
 obtain ⟨R', hle, hm', hr⟩ := MS.seal_cells (hm.perm (cZ hi))
 refine ⟨R', hle, (hm'.ghost 1).perm (eQ iL hi), ?_⟩
 have hf' := hf.mono hle
 refine ⟨fun t x ht => ?_, hf'.size, hf'.defers⟩
 simp only [Env.get] at ht
 split at ht
 ·rename_i hb
  have := Nat.eq_of_beq_eq_true hb
  subst this
  simp only [Option.some.injEq] at ht
  subst ht
  obtain ⟨y, hy, hr'⟩ := hf'.fr k _ hk
  refine ⟨y, hy, ?_⟩
  rw [(aA.1 hr').1]
  exact hr
 ·exact hf'.fr t x ht
omit [Tab P] in
def owns : List (Nat × Nat × Value) → Env → Env
 | [], e => e
 | (s, i, v) :: t, e => (s, .own i v) :: owns t e
def wJ : List (Nat × Nat × Value) → Env → Prop
 | [], _ => True
 | (s, _, v) :: t, e => (Env.get (owns t e) s = some (.raw v) ∧ vAgg v = false) ∧ wJ t e
theorem xZ {D : List Deferred} {R : Seal} {a : Act} : ∀ {os : List (Nat × Nat × Value)} {e : Env}, wJ os e → FS D n R e a → FS D n R (owns os e) a
 | [], _, _, h => h
 | (_, _, _) :: _, _, ⟨⟨h1, h2⟩, h3⟩, h => lD h2 h1 (xZ h3 h)
theorem fR (os : List (Nat × Nat × Value)) {f : FuncId} {fn : Func} {c : Code} {avs : List AVal} {Qf : ARes → Heap → Prop} {rs : List ResultVar} (hf : P.funcs[f]? = some fn)
  (hc : ∀ args w, (callFunc f args).run P w = .ok (.enter f args) w) (hb : fn.body = some c) (hn : fn.ntmps = n) (hrs : fn.results = rs.toArray) (hlen : Nat.ble avs.length n = true) (ho : wJ os (cA 0 avs))
  (h : ∀ C : Ctx, C.G = G → AWp P C n c (owns os (cA 0 avs)) H (RetX P rs Qf)) : ae P G f avs H Qf :=
 jm hf hb hc hn hrs hlen fun w0 R0 hG => AWp.mono (rt (fun _ _ hf => xZ ho hf) (h ⟨w0, R0, blks H, G, hG, []⟩ rfl)) fun _ _ _ q => eO q
end
end
section
open Go Go.RowKit
section
variable {P : Program} [Tab P] {C : Ctx} {n : Nat} {H : Heap} {env : Env} {x y : Operand} {T : TypeId} {xT : TI} {e : TypeId} {xe : TI}
theorem pm {len i : Nat} {k0 : IntKind} {cs : List AVal} {av : AVal} (hx : ai env x = some (.agg cs)) (hy : ai env y = some (.int k0 (i : Int))) (h1 : tab P T = some xT) (h2 : xT.desc = .array len e) (h3 : tab P e = some xe) (h4 : xe.size = 1) (h5 : a6 xe.desc = false) (hi : i < len) (hc : cs[i]? = some av) (ha : av.isAgg = false) :
  RunV P C H env (.index T x y) av := by
 intro R ρ w hm hf dst t p af g
 have hr := hf _ _ hx
 obtain ⟨vs, hvs⟩ : ∃ vs, ρ x = .agg vs := by
  have := hr.2
  cases hv : ρ x <;> rw [hv] at this <;> simp [AVal.isAgg, vAgg] at this
  exact ⟨_, rfl⟩
 rw [hvs] at hr
 obtain ⟨v, hv, hrv⟩ := cn (R := R) (cs := cs) (vs := vs.toList) hr.1 hc
 refine ⟨v, ?_, bn hrv ha⟩
 have hv' : vs[i]? = some v := by simpa using hv
 have hn : (0 : Int) ≤ i ∧ (i : Int) < len := ⟨by omega, by omega⟩
 have hil : i < vs.size := by
  rcases Nat.lt_or_ge i vs.size with h | h
  ·exact h
  ·rw [Array.getElem?_eq_none h] at hv'; cases hv'
 simp only [execOp, hvs, ao.1 (hf _ _ hy), Instr.index, asIntOf, Sem.run_bind, Sem.run_pure, Result.andThen_ok, al h1, h2, hn, part, Int.toNat_natCast]
 simp [ay h3, bP h3, h5, h4, hv']
end
end
section
open Go Go.RowKit
theorem tF {P : Program} [Tab P] {G : Glo} {GL : List (Nat × List AVal)} {n : Nat} {H : Heap} {v1 v2 : Value} (i s1 j s2 : Nat) {f : FuncId} {fn : Func} {c : Code} {avs : List AVal} {Qf : ARes → Heap → Prop} {rs : List ResultVar} (hf : P.funcs[f]? = some fn)
  (hc : ∀ args w, (callFunc f args).run P w = .ok (.enter f args) w) (hb : fn.body = some c) (hn : fn.ntmps = n) (hrs : fn.results = rs.toArray) (hlen : Nat.ble avs.length n = true) (hGL : ab G GL) (hv1 : vAgg v1 = false) (hv2 : vAgg v2 = false)
  (hk1 : Env.get (cA 0 avs) s1 = some (.raw v1)) (hk2 : Env.get ((s1, .own i v1) :: cA 0 avs) s2 = some (.raw v2))
  (h : ∀ C : Ctx, C.G = G → dv P C n G GL c ((s2, .own j v2) :: (s1, .own i v1) :: cA 0 avs) H (RetX P rs Qf)) : ae P G f avs H Qf :=
 jm hf hb hc hn hrs hlen fun w0 R0 hG => (rt (fun _ _ hf => lD (i := i) hv1 hk1 hf) (nC (C := ⟨w0, R0, blks H, G, hG, []⟩) (k := s2) j rfl hGL hv2 hk2 (h ⟨w0, R0, blks H, G, hG, []⟩ rfl))).mono fun _ _ _ q => eO q
section
variable {P : Program} [Tab P] {C : Ctx} {n : Nat} {env : Env} {H : Heap} {Q : AExit → Env → Heap → Prop} {ops : Array Oper} {rest : List Oper} {G : Glo} {GL : List (Nat × List AVal)}
variable {d : Nat} {t : TypeId} {p : String} {af : Array Edge} {g : Option (Nat × Bool)} {b : Bool}
variable {x y : Operand} {T e : TypeId} {xT xe : TI}
theorem pz {k1 k2 : IntKind} {m : Nat} (hC : C.G = G) (hGL : ab G GL) (hx : ai env x = some (.int k1 (m : Int))) (hy : ai env y = some (.int k2 (m : Int))) (hm0 : m ≤ 1000000000) (ht : tab P T = some xT) (hd : xT.desc = .slice e) (he : tab P e = some xe) (hz : xe.zero = some (.pointer none)) (hs : xe.size = 1) (hb : Nat.ble xe.bytes 1024 = true)
  (hg : aF ops env g = some (b, b)) (hdn : Nat.ble (d + 1) n = true)
  (k : ∀ bl, opsX P C n G GL ops Q rest ((d, .own H.length (.slice (some ⟨bl, 0, none⟩) m m)) :: env) (H ++ [.row (.slice (some ⟨bl, 0, none⟩) m m) (some e) 1 m (List.replicate m (.raw (.pointer none)))])) :
  Op1 P C n ops ({ dst := some d, op := .makeSlice T x y, type := t, pos := p, after := af, guard := g } :: rest) env H Q := by
 refine ⟨di (X := Nat) (av := fun bl => .raw (.slice (some ⟨bl, 0, none⟩) m m)) (H' := fun bl => .row (.slice (some ⟨bl, 0, none⟩) m m) (some e) 1 m (List.replicate m (.raw (.pointer none))) :: H) hg rfl hdn (fun R ρ w hm hf => ?_)
  (fun bl => gn (cB (i := H.length) rfl (cP hC hGL _ _ _ (k bl))))⟩
 obtain ⟨i, hi, his, hib, hiz, _⟩ := dR he
 have hb := Nat.le_of_ble_eq_true hb
 have hmul : xe.bytes * m ≤ 1024 * 1000000000 := Nat.mul_le_mul hb hm0
 have hr := run_make (P := P) w T e i (.pointer none) (by rw [aZ ht, hd]) hi (by rw [hiz, hz]) k1 k2 (m : Int) (m : Int) (by omega) (by omega) (by rw [hib, ← Int.natCast_mul]; omega) (by omega)
 simp only [Int.toNat_natCast] at hr
 have hrun := iz (d := d) (t := t) (p := p) (af := af) (g := g) (ao.1 (hf _ _ hx)) (ao.1 (hf _ _ hy)) hr
 refine ⟨w.heap.size, _, _, R, hrun, Seal.le_refl R, an.2 rfl, ?_⟩
 ·rw [fP]
  refine hm.alloc _ _ rfl ⟨by simp, .inr ⟨_, _, _, _, _, rfl, cU w _, ?_, Nat.le_refl _, ?_, .inl (Nat.le_refl _), fun t ht => by cases ht; rfl⟩⟩
  ·rw [size_madeCells, his, hs]
  ·rw [his, hs, Nat.mul_one, show (Value.pointer none).cells = #[.pointer none] from rfl, s9, List.take_of_length_le (by simp)]
   exact d6 (show RelC R (.raw (.pointer none)) [.pointer none] from rfl) _
end
end
section
open Go Go.RowKit
attribute [local irreducible] AWp AOps ax OrOk ab ae
def genC (t : AVal) (n : Int) (m : List AVal) : List AVal := [.str [], .int .i64 0, .str [], .raw (.pointer none), t, .int .i64 n] ++ m
def mapD : List AVal := (((List.replicate 256 (.int .u8 3)).set 39 (.int .u8 0)).set 94 (.int .u8 1)).set 110 (.int .u8 2)
theorem nP {G : Glo} (b : Nat) (v : List UInt8) (p : Int) (c2 c3 c4 : AVal) (u : Value) : ae Tryz.prog G 214 [.raw (pv b 0), .str [], .str v, .int .i64 p, .raw u] [.cells b (some 338) [.str [], .int .i64 0, c2, c3, c4]]
  (fun r H => r = .ret (.tuple []) ∧ H = [.cells b (some 338) [.str v, .int .i64 p, c2, c3, c4]]) := by
 have hGL : ab G [] := ad
 refine fQ 0 Tryz.func214 Tryz.call214 rfl rfl rfl rfl hGL rfl ?_
 intro C hC
 exact xn0
theorem G4 {G : Glo} (bg bt n1 : Nat) (x0 x1 x2 x3 : HEnt) (u : Value) : ae Tryz.prog G 214 [.raw (pv n1 0), .str [94], .str [94], .int .i64 6, .raw u] [x0, x1, x2, x3, .cells n1 (some 338) [.str [], .int .i64 0, .str [], .raw (.pointer none), .raw (.slice none 0 0)]]
  (fun r H => ∃ n2, r = .ret (.tuple []) ∧ H = [x0, x1, x2, x3, .cells n1 (some 338) [.str [], .int .i64 0, .str [94], .own 5 (pv n2 0), .raw (.slice none 0 0)], .cells n2 (some 338) [.str [94], .int .i64 6, .str [], .raw (.pointer none), .raw (.slice none 0 0)]]) := by
 have hGL : ab G [] := ad
 refine fQ 4 Tryz.func214 Tryz.call214 rfl rfl rfl rfl hGL rfl ?_
 intro C hC
 refine xn1 ?_
 intros
 refine ap (i := 5) rfl (nP _ _ _ _ _ _ _) ?_
 refine xn1 ?_
 intros
 exact ⟨_, List.Sublist.refl _, _, rfl, rfl⟩
theorem G3 {G : Glo} (bg bt n1 n2 : Nat) (x0 x1 x3 : HEnt) : ae Tryz.prog G 214 [.raw (pv n1 0), .str [110], .str [10], .int .i64 4, .raw (pv bg 0)] [x0, x1, .cells bg (some 340) (genC (.own 3 (.slice (some ⟨bt, 0, none⟩) 3 3)) 3 mapD), x3, .cells n1 (some 338) [.str [], .int .i64 0, .str [94], .own 5 (pv n2 0), .raw (.slice none 0 0)], .cells n2 (some 338) [.str [94], .int .i64 6, .str [], .raw (.pointer none), .raw (.slice none 0 0)]]
  (fun r H => ∃ n3 b7, r = .ret (.tuple []) ∧ H = [x0, x1, .cells bg (some 340) (genC (.own 3 (.slice (some ⟨bt, 0, none⟩) 3 3)) 3 mapD), x3, .cells n1 (some 338) [.str [], .int .i64 0, .str [], .raw (.pointer none), .own 7 (.slice (some ⟨b7, 0, none⟩) 3 3)], .cells n2 (some 338) [.str [94], .int .i64 6, .str [], .raw (.pointer none), .raw (.slice none 0 0)], .cells n3 (some 338) [.str [10], .int .i64 4, .str [], .raw (.pointer none), .raw (.slice none 0 0)], .row (.slice (some ⟨b7, 0, none⟩) 3 3) (some 335) 1 3 [.raw (.pointer none), .own 5 (pv n2 0), .own 6 (pv n3 0)]]) := by
 have hGL : ab G [] := ad
 refine tF 4 0 2 4 Tryz.func214 Tryz.call214 rfl rfl rfl rfl hGL rfl rfl rfl rfl ?_
 intro C hC
 refine xn1 ?_
 intros
 refine rds hC hGL 1 ?_
 refine xn1 ?_
 intros
 refine dw_p mixed hC hGL false (fun (_ : Unit) => [(0, .own 4 (pv n1 0)), (1, .str [110]), (2, .str [10]), (3, .int .i64 4), (4, .own 2 (pv bg 0)), (10, .int .i64 0), (59, .bool (!eqB ((aa [94] 0 : Nat) : Int) ((aa [110] 0 : Nat) : Int)))]) (fun _ => [x0, x1, .cells bg (some 340) (genC (.own 3 (.slice (some ⟨bt, 0, none⟩) 3 3)) 3 mapD), x3, .cells n1 (some 338) [.str [], .int .i64 0, .str [94], .own 5 (pv n2 0), .raw (.slice none 0 0)], .cells n2 (some 338) [.str [94], .int .i64 6, .str [], .raw (.pointer none), .raw (.slice none 0 0)]]) (.take 0 (.take 1 (.take 2 (.take 4 (.take 6 (.take 7 (.take 8 (.br 3 (.take 5 (.take 9 (.done))) (.nil))))))))) (by kernel_rfl) ?_ ?_
 ·refine xn1 ?_
  intros
  exact ⟨(), ⟨rfl, rfl, rfl, rfl, rfl, rfl, rfl, trivial⟩, rfl⟩
 intro _
 refine xn1 ?_
 intros
 rename Nat => n3
 refine pz (m := 3) hC hGL rfl rfl (by omega) rfl rfl rfl rfl rfl rfl rfl rfl (fun b7 => ?_)
 have w1 : ct (.slice (some ⟨b7, 0, none⟩) 3 3) b7 3 ∧ 1 + 1 ≤ 3 * 1 ∧ 0 < 3 := ⟨⟨_, rfl⟩, by decide, by decide⟩
 have w2 : ct (.slice (some ⟨b7, 0, none⟩) 3 3) b7 3 ∧ 2 + 1 ≤ 3 * 1 ∧ 0 < 3 := ⟨⟨_, rfl⟩, by decide, by decide⟩
 refine xn1 ?_
 intros
 refine dw_p mixed hC hGL false (fun (_ : Unit) => [(0, .own 4 (pv n1 0)), (1, .str [110]), (2, .str [10]), (3, .int .i64 4), (4, .own 2 (pv bg 0)), (12, .own 6 (pv n3 0))]) (fun _ => [x0, x1, .cells bg (some 340) (genC (.own 3 (.slice (some ⟨bt, 0, none⟩) 3 3)) 3 mapD), x3, .cells n1 (some 338) [.str [], .int .i64 0, .str [94], .own 5 (pv n2 0), .own 7 (.slice (some ⟨b7, 0, none⟩) 3 3)], .cells n2 (some 338) [.str [94], .int .i64 6, .str [], .raw (.pointer none), .raw (.slice none 0 0)], .cells n3 (some 338) [.str [], .int .i64 0, .str [], .raw (.pointer none), .raw (.slice none 0 0)], .row (.slice (some ⟨b7, 0, none⟩) 3 3) (some 335) 1 3 [.raw (.pointer none), .own 5 (pv n2 0), .raw (.pointer none)]]) (.take 0 (.take 1 (.take 2 (.take 4 (.take 5 (.take 6 (.take 7 (.take 10 (.take 11 (.take 14 (.br 3 (.br 8 (.take 9 (.take 12 (.br 13 (.take 15 (.br 16 (.done) (.nil))) (.nil)))) (.nil)) (.br 8 (.take 9 (.take 12 (.br 3 (.br 13 (.take 15 (.br 16 (.done) (.nil))) (.nil)) (.br 13 (.br 3 (.take 15 (.br 16 (.done) (.nil))) (.nil)) (.nil))))) (.nil))))))))))))) (by kernel_rfl) ?_ ?_
 ·refine xn ?_
  repeat' (first | exact Le.n | refine Lc.mk ?_ ?_)
  all_goals intros
  all_goals exact ⟨(), ⟨rfl, rfl, rfl, rfl, rfl, rfl, trivial⟩, rfl⟩
 intro _
 refine xn1 ?_
 intros
 refine dw_p mixed hC hGL false (fun (_ : Unit) => [(0, .own 4 (pv n1 0)), (1, .str [110]), (2, .str [10]), (3, .int .i64 4), (4, .own 2 (pv bg 0)), (12, .own 6 (pv n3 0))]) (fun _ => [x0, x1, .cells bg (some 340) (genC (.own 3 (.slice (some ⟨bt, 0, none⟩) 3 3)) 3 mapD), x3, .cells n1 (some 338) [.str [], .int .i64 0, .str [94], .own 5 (pv n2 0), .own 7 (.slice (some ⟨b7, 0, none⟩) 3 3)], .cells n2 (some 338) [.str [94], .int .i64 6, .str [], .raw (.pointer none), .raw (.slice none 0 0)], .cells n3 (some 338) [.str [], .int .i64 0, .str [], .raw (.pointer none), .raw (.slice none 0 0)], .row (.slice (some ⟨b7, 0, none⟩) 3 3) (some 335) 1 3 [.raw (.pointer none), .own 5 (pv n2 0), .own 6 (pv n3 0)]]) (.take 0 (.take 1 (.take 2 (.take 4 (.take 5 (.take 6 (.take 7 (.take 8 (.take 9 (.take 11 (.br 3 (.br 10 (.take 12 (.br 13 (.done) (.nil))) (.nil)) (.br 10 (.br 3 (.take 12 (.br 13 (.done) (.nil))) (.nil)) (.nil))))))))))))) (by kernel_rfl) ?_ ?_
 ·refine xn ?_
  repeat' (first | exact Le.n | refine Lc.mk ?_ ?_)
  all_goals intros
  all_goals exact ⟨(), ⟨rfl, rfl, rfl, rfl, rfl, rfl, trivial⟩, rfl⟩
 intro _
 refine xn1 ?_
 intros
 refine ap (i := 6) rfl (nP _ _ _ _ _ _ _) ?_
 refine xn1 ?_
 intros
 exact ⟨_, List.Sublist.refl _, _, _, rfl, rfl⟩
theorem G2 {G : Glo} (bg bt n1 n2 n3 b7 : Nat) (x0 x1 x3 : HEnt) : ae Tryz.prog G 214 [.raw (pv n1 0), .str [39], .str [34], .int .i64 2, .raw (pv bg 0)] [x0, x1, .cells bg (some 340) (genC (.own 3 (.slice (some ⟨bt, 0, none⟩) 3 3)) 3 mapD), x3, .cells n1 (some 338) [.str [], .int .i64 0, .str [], .raw (.pointer none), .own 7 (.slice (some ⟨b7, 0, none⟩) 3 3)], .cells n2 (some 338) [.str [94], .int .i64 6, .str [], .raw (.pointer none), .raw (.slice none 0 0)], .cells n3 (some 338) [.str [10], .int .i64 4, .str [], .raw (.pointer none), .raw (.slice none 0 0)], .row (.slice (some ⟨b7, 0, none⟩) 3 3) (some 335) 1 3 [.raw (.pointer none), .own 5 (pv n2 0), .own 6 (pv n3 0)]]
  (fun r H => ∃ n4, r = .ret (.tuple []) ∧ H = [x0, x1, .cells bg (some 340) (genC (.own 3 (.slice (some ⟨bt, 0, none⟩) 3 3)) 3 mapD), x3, .cells n1 (some 338) [.str [], .int .i64 0, .str [], .raw (.pointer none), .own 7 (.slice (some ⟨b7, 0, none⟩) 3 3)], .cells n2 (some 338) [.str [94], .int .i64 6, .str [], .raw (.pointer none), .raw (.slice none 0 0)], .cells n3 (some 338) [.str [10], .int .i64 4, .str [], .raw (.pointer none), .raw (.slice none 0 0)], .row (.slice (some ⟨b7, 0, none⟩) 3 3) (some 335) 1 3 [.own 8 (pv n4 0), .own 5 (pv n2 0), .own 6 (pv n3 0)], .cells n4 (some 338) [.str [34], .int .i64 2, .str [], .raw (.pointer none), .raw (.slice none 0 0)]]) := by
 have hGL : ab G [] := ad
 refine tF 4 0 2 4 Tryz.func214 Tryz.call214 rfl rfl rfl rfl hGL rfl rfl rfl rfl ?_
 intro C hC
 have q7 : ct (.slice (some ⟨b7, 0, none⟩) 3 3) b7 3 := ⟨_, rfl⟩
 have w0 : ct (.slice (some ⟨b7, 0, none⟩) 3 3) b7 3 ∧ 0 + 1 ≤ 3 * 1 ∧ 0 < 3 := ⟨⟨_, rfl⟩, by decide, by decide⟩
 have g0 : ([.raw (.pointer none), .own 5 (pv n2 0), .own 6 (pv n3 0)] : List AVal)[0]? = some (.raw (.pointer none)) := rfl
 refine xn1 ?_
 intros
 refine dw_p mixed hC hGL false (fun (_ : Unit) => [(0, .own 4 (pv n1 0)), (1, .str [39]), (2, .str [34]), (3, .int .i64 2), (4, .own 2 (pv bg 0)), (14, .int .u8 0)]) (fun _ => [x0, x1, .cells bg (some 340) (genC (.own 3 (.slice (some ⟨bt, 0, none⟩) 3 3)) 3 mapD), x3, .cells n1 (some 338) [.str [], .int .i64 0, .str [], .raw (.pointer none), .own 7 (.slice (some ⟨b7, 0, none⟩) 3 3)], .cells n2 (some 338) [.str [94], .int .i64 6, .str [], .raw (.pointer none), .raw (.slice none 0 0)], .cells n3 (some 338) [.str [10], .int .i64 4, .str [], .raw (.pointer none), .raw (.slice none 0 0)], .row (.slice (some ⟨b7, 0, none⟩) 3 3) (some 335) 1 3 [.raw (.pointer none), .own 5 (pv n2 0), .own 6 (pv n3 0)]]) (.take 0 (.take 1 (.take 2 (.take 3 (.take 4 (.take 5 (.br 6 (.take 7 (.done)) (.nil)))))))) (by kernel_rfl) ?_ ?_
 ·refine xn1 ?_
  intros
  exact ⟨(), ⟨rfl, rfl, rfl, rfl, rfl, rfl, trivial⟩, rfl⟩
 intro _
 refine xn1 ?_
 intros
 rename Nat => n4
 refine dw_p mixed hC hGL false (fun (_ : Unit) => []) (fun _ => [x0, x1, .cells bg (some 340) (genC (.own 3 (.slice (some ⟨bt, 0, none⟩) 3 3)) 3 mapD), x3, .cells n1 (some 338) [.str [], .int .i64 0, .str [], .raw (.pointer none), .own 7 (.slice (some ⟨b7, 0, none⟩) 3 3)], .cells n2 (some 338) [.str [94], .int .i64 6, .str [], .raw (.pointer none), .raw (.slice none 0 0)], .cells n3 (some 338) [.str [10], .int .i64 4, .str [], .raw (.pointer none), .raw (.slice none 0 0)], .row (.slice (some ⟨b7, 0, none⟩) 3 3) (some 335) 1 3 [.own 8 (pv n4 0), .own 5 (pv n2 0), .own 6 (pv n3 0)], .cells n4 (some 338) [.str [34], .int .i64 2, .str [], .raw (.pointer none), .raw (.slice none 0 0)]]) (.take 0 (.take 1 (.take 2 (.take 4 (.take 7 (.take 8 (.take 9 (.take 10 (.take 11 (.br 3 (.take 5 (.br 6 (.br 12 (.done) (.nil)) (.nil))) (.nil))))))))))) (by kernel_rfl) ?_ ?_
 ·refine xn1 ?_
  intros
  refine gt_i rfl rfl ?_
  refine xn1 ?_
  intros
  refine ap (i := 8) rfl (nP _ _ _ _ _ _ _) ?_
  refine xn1 ?_
  intros
  exact ⟨(), trivial, rfl⟩
 intro _
 refine xn1 ?_
 intros
 exact ⟨_, List.Sublist.refl _, _, rfl, rfl⟩
theorem AS {G : Glo} (bg bt : Nat) (x0 x1 : HEnt) : ae Tryz.prog G 214 [.raw (pv bg 0), .str [94, 94], .str [94], .int .i64 6, .raw (pv bg 0)] [x0, x1, .cells bg (some 340) (genC (.own 3 (.slice (some ⟨bt, 0, none⟩) 3 3)) 3 mapD), .row (.slice (some ⟨bt, 0, none⟩) 3 3) (some 335) 1 3 [.raw (.pointer none), .raw (.pointer none), .raw (.pointer none)]]
  (fun r H => ∃ n1 n2, r = .ret (.tuple []) ∧ H = [x0, x1, .cells bg (some 340) (genC (.own 3 (.slice (some ⟨bt, 0, none⟩) 3 3)) 3 mapD), .row (.slice (some ⟨bt, 0, none⟩) 3 3) (some 335) 1 3 [.raw (.pointer none), .own 4 (pv n1 0), .raw (.pointer none)], .cells n1 (some 338) [.str [], .int .i64 0, .str [94], .own 5 (pv n2 0), .raw (.slice none 0 0)], .cells n2 (some 338) [.str [94], .int .i64 6, .str [], .raw (.pointer none), .raw (.slice none 0 0)]]) := by
 have hGL : ab G [] := ad
 refine tF 2 0 2 4 Tryz.func214 Tryz.call214 rfl rfl rfl rfl hGL rfl rfl rfl rfl ?_
 intro C hC
 have q7 : ct (.slice (some ⟨bt, 0, none⟩) 3 3) bt 3 := ⟨_, rfl⟩
 have w0 : ct (.slice (some ⟨bt, 0, none⟩) 3 3) bt 3 ∧ 1 + 1 ≤ 3 * 1 ∧ 0 < 3 := ⟨⟨_, rfl⟩, by decide, by decide⟩
 refine xn1 ?_
 intros
 refine dw_p mixed hC hGL false (fun (_ : Unit) => [(0, .own 2 (pv bg 0)), (1, .str [94, 94]), (2, .str [94]), (3, .int .i64 6), (4, .own 2 (pv bg 0)), (14, .int .u8 1)]) (fun _ => [x0, x1, .cells bg (some 340) (genC (.own 3 (.slice (some ⟨bt, 0, none⟩) 3 3)) 3 mapD), .row (.slice (some ⟨bt, 0, none⟩) 3 3) (some 335) 1 3 [.raw (.pointer none), .raw (.pointer none), .raw (.pointer none)]]) (.take 0 (.take 1 (.take 2 (.take 3 (.take 4 (.take 5 (.br 6 (.take 7 (.done)) (.nil)))))))) (by kernel_rfl) ?_ ?_
 ·refine xn1 ?_
  intros
  exact ⟨(), ⟨rfl, rfl, rfl, rfl, rfl, rfl, trivial⟩, rfl⟩
 intro _
 refine xn1 ?_
 intros
 refine gt_i rfl rfl ?_
 refine xn1 ?_
 intros
 rename Nat => n1
 refine dw_p mixed hC hGL false (fun (_ : Nat) => []) (fun n2 => [x0, x1, .cells bg (some 340) (genC (.own 3 (.slice (some ⟨bt, 0, none⟩) 3 3)) 3 mapD), .row (.slice (some ⟨bt, 0, none⟩) 3 3) (some 335) 1 3 [.raw (.pointer none), .own 4 (pv n1 0), .raw (.pointer none)], .cells n1 (some 338) [.str [], .int .i64 0, .str [94], .own 5 (pv n2 0), .raw (.slice none 0 0)], .cells n2 (some 338) [.str [94], .int .i64 6, .str [], .raw (.pointer none), .raw (.slice none 0 0)]]) (.take 0 (.take 1 (.take 2 (.take 4 (.take 7 (.take 8 (.take 9 (.take 10 (.take 11 (.br 3 (.take 5 (.br 6 (.br 12 (.done) (.nil)) (.nil))) (.nil))))))))))) (by kernel_rfl) ?_ ?_
 ·refine xn1 ?_
  intros
  refine gt_i rfl rfl ?_
  refine xn1 ?_
  intros
  refine ⟨_, G4 bg bt n1 _ _ _ _ _, ?_, ?_⟩
  ·rintro v H ⟨n2, e, rfl⟩
   cases e
   refine xn1 ?_
   intros
   exact ⟨n2, trivial, rfl⟩
  ·rintro v H ⟨n2, e, rfl⟩
   cases e
 intro y
 refine xn1 ?_
 intros
 exact ⟨_, List.Sublist.refl _, n1, y, rfl, rfl⟩
theorem AR {G : Glo} (bg bt n1 n2 : Nat) (x0 x1 : HEnt) : ae Tryz.prog G 214 [.raw (pv bg 0), .str [94, 110], .str [10], .int .i64 4, .raw (pv bg 0)] [x0, x1, .cells bg (some 340) (genC (.own 3 (.slice (some ⟨bt, 0, none⟩) 3 3)) 3 mapD), .row (.slice (some ⟨bt, 0, none⟩) 3 3) (some 335) 1 3 [.raw (.pointer none), .own 4 (pv n1 0), .raw (.pointer none)], .cells n1 (some 338) [.str [], .int .i64 0, .str [94], .own 5 (pv n2 0), .raw (.slice none 0 0)], .cells n2 (some 338) [.str [94], .int .i64 6, .str [], .raw (.pointer none), .raw (.slice none 0 0)]]
  (fun r H => ∃ n3 b7, r = .ret (.tuple []) ∧ H = [x0, x1, .cells bg (some 340) (genC (.own 3 (.slice (some ⟨bt, 0, none⟩) 3 3)) 3 mapD), .row (.slice (some ⟨bt, 0, none⟩) 3 3) (some 335) 1 3 [.raw (.pointer none), .own 4 (pv n1 0), .raw (.pointer none)], .cells n1 (some 338) [.str [], .int .i64 0, .str [], .raw (.pointer none), .own 7 (.slice (some ⟨b7, 0, none⟩) 3 3)], .cells n2 (some 338) [.str [94], .int .i64 6, .str [], .raw (.pointer none), .raw (.slice none 0 0)], .cells n3 (some 338) [.str [10], .int .i64 4, .str [], .raw (.pointer none), .raw (.slice none 0 0)], .row (.slice (some ⟨b7, 0, none⟩) 3 3) (some 335) 1 3 [.raw (.pointer none), .own 5 (pv n2 0), .own 6 (pv n3 0)]]) := by
 have hGL : ab G [] := ad
 refine tF 2 0 2 4 Tryz.func214 Tryz.call214 rfl rfl rfl rfl hGL rfl rfl rfl rfl ?_
 intro C hC
 have q7 : ct (.slice (some ⟨bt, 0, none⟩) 3 3) bt 3 := ⟨_, rfl⟩
 have w0 : ct (.slice (some ⟨bt, 0, none⟩) 3 3) bt 3 ∧ 1 + 1 ≤ 3 * 1 ∧ 0 < 3 := ⟨⟨_, rfl⟩, by decide, by decide⟩
 refine xn1 ?_
 intros
 refine dw_p mixed hC hGL false (fun (_ : Unit) => [(0, .own 2 (pv bg 0)), (1, .str [94, 110]), (2, .str [10]), (3, .int .i64 4), (4, .own 2 (pv bg 0)), (14, .int .u8 1)]) (fun _ => [x0, x1, .cells bg (some 340) (genC (.own 3 (.slice (some ⟨bt, 0, none⟩) 3 3)) 3 mapD), .row (.slice (some ⟨bt, 0, none⟩) 3 3) (some 335) 1 3 [.raw (.pointer none), .own 4 (pv n1 0), .raw (.pointer none)], .cells n1 (some 338) [.str [], .int .i64 0, .str [94], .own 5 (pv n2 0), .raw (.slice none 0 0)], .cells n2 (some 338) [.str [94], .int .i64 6, .str [], .raw (.pointer none), .raw (.slice none 0 0)]]) (.take 0 (.take 1 (.take 2 (.take 3 (.take 4 (.take 5 (.br 6 (.take 7 (.done)) (.nil)))))))) (by kernel_rfl) ?_ ?_
 ·refine xn1 ?_
  intros
  exact ⟨(), ⟨rfl, rfl, rfl, rfl, rfl, rfl, trivial⟩, rfl⟩
 intro _
 refine xn1 ?_
 intros
 refine gt_i rfl rfl ?_
 refine xn1 ?_
 intros
 refine dw_p mixed hC hGL false (fun (_ : Nat × Nat) => []) (fun y => [x0, x1, .cells bg (some 340) (genC (.own 3 (.slice (some ⟨bt, 0, none⟩) 3 3)) 3 mapD), .row (.slice (some ⟨bt, 0, none⟩) 3 3) (some 335) 1 3 [.raw (.pointer none), .own 4 (pv n1 0), .raw (.pointer none)], .cells n1 (some 338) [.str [], .int .i64 0, .str [], .raw (.pointer none), .own 7 (.slice (some ⟨y.2, 0, none⟩) 3 3)], .cells n2 (some 338) [.str [94], .int .i64 6, .str [], .raw (.pointer none), .raw (.slice none 0 0)], .cells y.1 (some 338) [.str [10], .int .i64 4, .str [], .raw (.pointer none), .raw (.slice none 0 0)], .row (.slice (some ⟨y.2, 0, none⟩) 3 3) (some 335) 1 3 [.raw (.pointer none), .own 5 (pv n2 0), .own 6 (pv y.1 0)]]) (.take 0 (.take 1 (.take 2 (.take 4 (.take 7 (.take 8 (.take 9 (.take 10 (.take 11 (.br 3 (.take 5 (.br 6 (.br 12 (.done) (.nil)) (.nil))) (.nil))))))))))) (by kernel_rfl) ?_ ?_
 ·refine xn1 ?_
  intros
  refine gt_i rfl rfl ?_
  refine xn1 ?_
  intros
  refine ⟨_, G3 bg bt n1 n2 _ _ _, ?_, ?_⟩
  ·rintro v H ⟨n3, b7, e, rfl⟩
   cases e
   refine xn1 ?_
   intros
   exact ⟨(n3, b7), trivial, rfl⟩
  ·rintro v H ⟨n3, b7, e, rfl⟩
   cases e
 intro y
 refine xn1 ?_
 intros
 exact ⟨_, List.Sublist.refl _, y.1, y.2, rfl, rfl⟩
theorem AP {G : Glo} (bg bt n1 n2 n3 b7 : Nat) (x0 x1 : HEnt) : ae Tryz.prog G 214 [.raw (pv bg 0), .str [94, 39], .str [34], .int .i64 2, .raw (pv bg 0)] [x0, x1, .cells bg (some 340) (genC (.own 3 (.slice (some ⟨bt, 0, none⟩) 3 3)) 3 mapD), .row (.slice (some ⟨bt, 0, none⟩) 3 3) (some 335) 1 3 [.raw (.pointer none), .own 4 (pv n1 0), .raw (.pointer none)], .cells n1 (some 338) [.str [], .int .i64 0, .str [], .raw (.pointer none), .own 7 (.slice (some ⟨b7, 0, none⟩) 3 3)], .cells n2 (some 338) [.str [94], .int .i64 6, .str [], .raw (.pointer none), .raw (.slice none 0 0)], .cells n3 (some 338) [.str [10], .int .i64 4, .str [], .raw (.pointer none), .raw (.slice none 0 0)], .row (.slice (some ⟨b7, 0, none⟩) 3 3) (some 335) 1 3 [.raw (.pointer none), .own 5 (pv n2 0), .own 6 (pv n3 0)]]
  (fun r H => ∃ n4, r = .ret (.tuple []) ∧ H = [x0, x1, .cells bg (some 340) (genC (.own 3 (.slice (some ⟨bt, 0, none⟩) 3 3)) 3 mapD), .row (.slice (some ⟨bt, 0, none⟩) 3 3) (some 335) 1 3 [.raw (.pointer none), .own 4 (pv n1 0), .raw (.pointer none)], .cells n1 (some 338) [.str [], .int .i64 0, .str [], .raw (.pointer none), .own 7 (.slice (some ⟨b7, 0, none⟩) 3 3)], .cells n2 (some 338) [.str [94], .int .i64 6, .str [], .raw (.pointer none), .raw (.slice none 0 0)], .cells n3 (some 338) [.str [10], .int .i64 4, .str [], .raw (.pointer none), .raw (.slice none 0 0)], .row (.slice (some ⟨b7, 0, none⟩) 3 3) (some 335) 1 3 [.own 8 (pv n4 0), .own 5 (pv n2 0), .own 6 (pv n3 0)], .cells n4 (some 338) [.str [34], .int .i64 2, .str [], .raw (.pointer none), .raw (.slice none 0 0)]]) := by
 have hGL : ab G [] := ad
 refine tF 2 0 2 4 Tryz.func214 Tryz.call214 rfl rfl rfl rfl hGL rfl rfl rfl rfl ?_
 intro C hC
 have q7 : ct (.slice (some ⟨bt, 0, none⟩) 3 3) bt 3 := ⟨_, rfl⟩
 have w0 : ct (.slice (some ⟨bt, 0, none⟩) 3 3) bt 3 ∧ 1 + 1 ≤ 3 * 1 ∧ 0 < 3 := ⟨⟨_, rfl⟩, by decide, by decide⟩
 refine xn1 ?_
 intros
 refine dw_p mixed hC hGL false (fun (_ : Unit) => [(0, .own 2 (pv bg 0)), (1, .str [94, 39]), (2, .str [34]), (3, .int .i64 2), (4, .own 2 (pv bg 0)), (14, .int .u8 1)]) (fun _ => [x0, x1, .cells bg (some 340) (genC (.own 3 (.slice (some ⟨bt, 0, none⟩) 3 3)) 3 mapD), .row (.slice (some ⟨bt, 0, none⟩) 3 3) (some 335) 1 3 [.raw (.pointer none), .own 4 (pv n1 0), .raw (.pointer none)], .cells n1 (some 338) [.str [], .int .i64 0, .str [], .raw (.pointer none), .own 7 (.slice (some ⟨b7, 0, none⟩) 3 3)], .cells n2 (some 338) [.str [94], .int .i64 6, .str [], .raw (.pointer none), .raw (.slice none 0 0)], .cells n3 (some 338) [.str [10], .int .i64 4, .str [], .raw (.pointer none), .raw (.slice none 0 0)], .row (.slice (some ⟨b7, 0, none⟩) 3 3) (some 335) 1 3 [.raw (.pointer none), .own 5 (pv n2 0), .own 6 (pv n3 0)]]) (.take 0 (.take 1 (.take 2 (.take 3 (.take 4 (.take 5 (.br 6 (.take 7 (.done)) (.nil)))))))) (by kernel_rfl) ?_ ?_
 ·refine xn1 ?_
  intros
  exact ⟨(), ⟨rfl, rfl, rfl, rfl, rfl, rfl, trivial⟩, rfl⟩
 intro _
 refine xn1 ?_
 intros
 refine gt_i rfl rfl ?_
 refine xn1 ?_
 intros
 refine dw_p mixed hC hGL false (fun (_ : Nat) => []) (fun n4 => [x0, x1, .cells bg (some 340) (genC (.own 3 (.slice (some ⟨bt, 0, none⟩) 3 3)) 3 mapD), .row (.slice (some ⟨bt, 0, none⟩) 3 3) (some 335) 1 3 [.raw (.pointer none), .own 4 (pv n1 0), .raw (.pointer none)], .cells n1 (some 338) [.str [], .int .i64 0, .str [], .raw (.pointer none), .own 7 (.slice (some ⟨b7, 0, none⟩) 3 3)], .cells n2 (some 338) [.str [94], .int .i64 6, .str [], .raw (.pointer none), .raw (.slice none 0 0)], .cells n3 (some 338) [.str [10], .int .i64 4, .str [], .raw (.pointer none), .raw (.slice none 0 0)], .row (.slice (some ⟨b7, 0, none⟩) 3 3) (some 335) 1 3 [.own 8 (pv n4 0), .own 5 (pv n2 0), .own 6 (pv n3 0)], .cells n4 (some 338) [.str [34], .int .i64 2, .str [], .raw (.pointer none), .raw (.slice none 0 0)]]) (.take 0 (.take 1 (.take 2 (.take 4 (.take 7 (.take 8 (.take 9 (.take 10 (.take 11 (.br 3 (.take 5 (.br 6 (.br 12 (.done) (.nil)) (.nil))) (.nil))))))))))) (by kernel_rfl) ?_ ?_
 ·refine xn1 ?_
  intros
  refine gt_i rfl rfl ?_
  refine xn1 ?_
  intros
  refine ⟨_, G2 bg bt n1 n2 n3 b7 _ _ _, ?_, ?_⟩
  ·rintro v H ⟨n4, e, rfl⟩
   cases e
   refine xn1 ?_
   intros
   exact ⟨n4, trivial, rfl⟩
  ·rintro v H ⟨n4, e, rfl⟩
   cases e
 intro y
 refine xn1 ?_
 intros
 exact ⟨_, List.Sublist.refl _, y, rfl, rfl⟩
end
section
open Go Go.RowKit
attribute [local irreducible] AWp AOps ax OrOk ab ae
abbrev decO : List AVal := [.str [94, 94], .str [94], .str [94, 110], .str [10], .str [94, 39], .str [34]]
abbrev decR (br vc : Nat) : HEnt := .row (.slice (some ⟨br, 0, none⟩) 6 vc) none 1 6 decO
def mQ : List AVal := List.replicate 256 (.int .u8 0)
def mapM : List AVal := (((mQ.set 94 (.int .u8 1)).set 110 (.int .u8 1)).set 39 (.int .u8 1))
def m1 (i : Nat) : Nat := if i = 39 ∨ i = 94 ∨ i = 110 then 1 else 0
def cnt3 (i : Nat) : Nat := (if 39 < i then 1 else 0) + (if 94 < i then 1 else 0) + (if 110 < i then 1 else 0)
theorem lK (i : Nat) : cnt3 (i + 1) = cnt3 i + m1 i := by unfold cnt3 m1; (repeat' split) <;> omega
theorem yj (i : Nat) : cnt3 i ≤ 3 := by unfold cnt3; (repeat' split) <;> omega
theorem ET (i : Nat) : m1 i ≤ 1 := by unfold m1; split <;> omega
theorem tC {t : AVal} {n : Int} {M : List AVal} {i : Nat} {v : AVal} : (genC t n M).take (0 + 6 + i * 1) ++ [v] ++ (genC t n M).drop (0 + 6 + i * 1 + 1) = genC t n (M.take i ++ [v] ++ M.drop (i + 1)) := by
 rw [show 0 + 6 + i * 1 = i + 6 by omega, show i + 6 + 1 = (i + 1) + 6 by omega]
 rfl
theorem tD {t : AVal} {n : Int} {M : List AVal} {i : Nat} (h : M.length = 256) (hi : i < 256) : Nat.ble (0 + 6 + i * 1 + 1) (genC t n M).length = true := by
 refine Nat.ble_eq_true_of_le ?_
 have : (genC t n M).length = M.length + 6 := rfl
 omega
theorem AV {v w : AVal} {N a b c i : Nat} (hi : i < N) : ((((List.replicate N v).set a w).set b w).set c w)[i]? = some (if i = c ∨ i = a ∨ i = b then w else v) := by
 by_cases h1 : i = c
 ·subst h1; rw [List.getElem?_set_self (by simpa using hi), if_pos (.inl rfl)]
 ·rw [List.getElem?_set_ne (Ne.symm h1)]
  by_cases h2 : i = b
  ·subst h2; rw [List.getElem?_set_self (by simpa using hi), if_pos (.inr (.inr rfl))]
  ·rw [List.getElem?_set_ne (Ne.symm h2)]
   by_cases h3 : i = a
   ·subst h3; rw [List.getElem?_set_self (by simpa using hi), if_pos (.inr (.inl rfl))]
   ·rw [List.getElem?_set_ne (Ne.symm h3), if_neg (by omega)]
    simp [hi]
theorem s7 {i : Nat} (hi : i < 256) : mapM[i]? = some (.int .u8 (m1 i : Nat)) := by
 unfold mapM mQ m1
 rw [AV hi]
 split <;> rfl
def m2 (i : Nat) : Nat := if i = 39 then 0 else if i = 94 then 1 else if i = 110 then 2 else 3
theorem FT {i : Nat} (h : m1 i = 0) : m2 i = 3 := by unfold m1 at h; unfold m2; (repeat' split) <;> (try split at h) <;> omega
theorem FR {i : Nat} (h : m1 i ≠ 0) : m2 i = cnt3 i := by unfold m1 at h; unfold m2 cnt3; split at h <;> (repeat' split) <;> omega
def mapI (i : Nat) : List AVal := (List.range 256).map fun k => .int .u8 ((if k < i then m2 k else m1 k : Nat) : Int)
theorem s8 (i : Nat) : (mapI i).length = 256 := by simp [mapI]
theorem pG {i : Nat} (hi : i < 256) : (mapI i).take i ++ [.int .u8 (m2 i : Nat)] ++ (mapI i).drop (i + 1) = mapI (i + 1) := by
 refine List.ext_getElem? fun k => ?_
 have hl := s8 i
 rcases Nat.lt_trichotomy k i with h | h | h
 ·rw [List.getElem?_append_left (by simp; omega), List.getElem?_append_left (by simp; omega), List.getElem?_take_of_lt h]
  unfold mapI
  rw [List.getElem?_map, List.getElem?_map, List.getElem?_range (by omega)]
  simp [h, show k < i + 1 by omega]
 ·subst h
  rw [List.getElem?_append_left (by simp; omega), List.getElem?_append_right (by rw [List.length_take]; omega), List.length_take, Nat.min_eq_left (by omega), Nat.sub_self]
  unfold mapI
  rw [List.getElem?_map, List.getElem?_range hi]
  simp
 ·have h9 : ((mapI i).take i ++ [AVal.int .u8 (m2 i : Nat)]).length = i + 1 := by rw [List.length_append, List.length_take]; simp; omega
  rw [List.getElem?_append_right (by omega), h9, List.getElem?_drop, show i + 1 + (k - (i + 1)) = k by omega]
  unfold mapI
  rw [List.getElem?_map, List.getElem?_map]
  by_cases hk : k < 256
  ·rw [List.getElem?_range hk]
   simp [show ¬ k < i by omega, show ¬ k < i + 1 by omega]
  ·rw [List.getElem?_eq_none (by simp; omega)]
   rfl
abbrev EO (bg bt n1 n2 n3 b7 n4 : Nat) : Heap := [.cells bg (some 340) (genC (.own 3 (.slice (some ⟨bt, 0, none⟩) 3 3)) 3 mapD), .row (.slice (some ⟨bt, 0, none⟩) 3 3) (some 335) 1 3 [.raw (.pointer none), .own 4 (pv n1 0), .raw (.pointer none)], .cells n1 (some 338) [.str [], .int .i64 0, .str [], .raw (.pointer none), .own 7 (.slice (some ⟨b7, 0, none⟩) 3 3)], .cells n2 (some 338) [.str [94], .int .i64 6, .str [], .raw (.pointer none), .raw (.slice none 0 0)], .cells n3 (some 338) [.str [10], .int .i64 4, .str [], .raw (.pointer none), .raw (.slice none 0 0)], .row (.slice (some ⟨b7, 0, none⟩) 3 3) (some 335) 1 3 [.own 8 (pv n4 0), .own 5 (pv n2 0), .own 6 (pv n3 0)], .cells n4 (some 338) [.str [34], .int .i64 2, .str [], .raw (.pointer none), .raw (.slice none 0 0)]]
theorem GR {G : Glo} (br vc : Nat) (e1 : HEnt) : ae Tryz.prog G 204 [.raw (.slice (some ⟨br, 0, none⟩) 6 vc)] [decR br vc, e1]
  (fun r H => ∃ bg bt n1 n2 n3 b7 n4, r = .ret (.own 2 (pv bg 0)) ∧ H = [decR br vc, e1] ++ EO bg bt n1 n2 n3 b7 n4) := by
 have hGL : ab G [] := ad
 refine fQ 0 Tryz.func204 Tryz.call204 rfl rfl rfl rfl hGL rfl ?_
 intro C hC
 have r0 : ct (.slice (some ⟨br, 0, none⟩) 6 vc) br 6 := ⟨_, rfl⟩
 have d0 : decO[0]? = some (.str [94, 94]) := rfl
 have d1 : decO[1]? = some (.str [94]) := rfl
 have d2 : decO[2]? = some (.str [94, 110]) := rfl
 have d3 : decO[3]? = some (.str [10]) := rfl
 have d4 : decO[4]? = some (.str [94, 39]) := rfl
 have d5 : decO[5]? = some (.str [34]) := rfl
 repeat' (first | (conv => whnf); first | refine .w ?_ | refine Ix.v ?_ | refine Sd.v ?_ | refine Sl.v ?_ | apply am | refine sc_d ?_ ?_ <;> (intro hb; try exact dd hb) | apply ah | (apply sc_i <;> intro hb) | (apply bx_i; intro hbd) | (apply ak; first | fail) | (apply ab_i; intro bl) | exact rt_w | exact True.intro | (apply bc_i; intro C hC) | apply bt_i | apply og_n | (apply og_a; exact rfl))
 all_goals try conv => whnf
 refine rds hC hGL 4 ?_
 repeat' (first | (conv => whnf); first | refine .w ?_ | refine Ix.v ?_ | refine Sd.v ?_ | refine Sl.v ?_ | apply am | refine sc_d ?_ ?_ <;> (intro hb; try exact dd hb) | apply ah | (apply sc_i <;> intro hb) | (apply bx_i; intro hbd) | (apply ak; first | fail) | (apply ab_i; intro bl) | exact rt_w | exact True.intro | (apply bc_i; intro C hC) | apply bt_i | apply og_n | (apply og_a; exact rfl))
 all_goals try conv => whnf
 refine rds hC hGL 3 ?_
 repeat' (first | (conv => whnf); first | refine .w ?_ | refine Ix.v ?_ | refine Sd.v ?_ | refine Sl.v ?_ | apply am | refine sc_d ?_ ?_ <;> (intro hb; try exact dd hb) | apply ah | (apply sc_i <;> intro hb) | (apply bx_i; intro hbd) | (apply ak; first | fail) | (apply ab_i; intro bl) | exact rt_w | exact True.intro | (apply bc_i; intro C hC) | apply bt_i | apply og_n | (apply og_a; exact rfl))
 all_goals try conv => whnf
 refine dw_p mixed hC hGL false (fun (_ : Unit) => [(0, .own 0 (.slice (some ⟨br, 0, none⟩) 6 vc)), (3, .own 2 (pv bl 0)), (4, .int .i64 0), (5, .str [94, 94]), (6, .int .i64 0)]) (fun _ => [decR br vc, e1, .cells bl (some 340) (genC (.raw (.slice none 0 0)) 0 (mQ.set 94 (.int .u8 1)))]) (.take 0 (.take 1 (.take 2 (.take 3 (.take 4 (.take 5 (.take 6 (.br 7 (.done) (.nil))))))))) (by kernel_rfl) ?_ ?_
 ·repeat' (first | (conv => whnf); first | refine .w ?_ | refine Ix.v ?_ | refine Sd.v ?_ | refine Sl.v ?_ | apply am | refine sc_d ?_ ?_ <;> (intro hb; try exact dd hb) | apply ah | (apply sc_i <;> intro hb) | (apply bx_i; intro hbd) | (apply ak; first | fail) | (apply ab_i; intro bl) | exact rt_w | exact True.intro | (apply bc_i; intro C hC) | apply bt_i | apply og_n | (apply og_a; exact rfl))
  all_goals try conv => whnf
  exact ⟨(), ⟨rfl, rfl, rfl, rfl, rfl, trivial⟩, rfl⟩
 intro _
 repeat' (first | (conv => whnf); first | refine .w ?_ | refine Ix.v ?_ | refine Sd.v ?_ | refine Sl.v ?_ | apply am | refine sc_d ?_ ?_ <;> (intro hb; try exact dd hb) | apply ah | (apply sc_i <;> intro hb) | (apply bx_i; intro hbd) | (apply ak; first | fail) | (apply ab_i; intro bl) | exact rt_w | exact True.intro | (apply bc_i; intro C hC) | apply bt_i | apply og_n | (apply og_a; exact rfl))
 all_goals try conv => whnf
 refine dw_p mixed hC hGL false (fun (_ : Unit) => [(0, .own 0 (.slice (some ⟨br, 0, none⟩) 6 vc)), (3, .own 2 (pv bl 0)), (4, .int .i64 0), (5, .str [94, 94]), (6, .int .i64 1)]) (fun _ => [decR br vc, e1, .cells bl (some 340) (genC (.raw (.slice none 0 0)) 0 (mQ.set 94 (.int .u8 1)))]) (.take 0 (.take 1 (.take 2 (.take 3 (.take 4 (.take 5 (.take 6 (.br 7 (.done) (.nil))))))))) (by kernel_rfl) ?_ ?_
 ·repeat' (first | (conv => whnf); first | refine .w ?_ | refine Ix.v ?_ | refine Sd.v ?_ | refine Sl.v ?_ | apply am | refine sc_d ?_ ?_ <;> (intro hb; try exact dd hb) | apply ah | (apply sc_i <;> intro hb) | (apply bx_i; intro hbd) | (apply ak; first | fail) | (apply ab_i; intro bl) | exact rt_w | exact True.intro | (apply bc_i; intro C hC) | apply bt_i | apply og_n | (apply og_a; exact rfl))
  all_goals try conv => whnf
  exact ⟨(), ⟨rfl, rfl, rfl, rfl, rfl, trivial⟩, rfl⟩
 intro _
 repeat' (first | (conv => whnf); first | refine .w ?_ | refine Ix.v ?_ | refine Sd.v ?_ | refine Sl.v ?_ | apply am | refine sc_d ?_ ?_ <;> (intro hb; try exact dd hb) | apply ah | (apply sc_i <;> intro hb) | (apply bx_i; intro hbd) | (apply ak; first | fail) | (apply ab_i; intro bl) | exact rt_w | exact True.intro | (apply bc_i; intro C hC) | apply bt_i | apply og_n | (apply og_a; exact rfl))
 all_goals try conv => whnf
 refine rds hC hGL 3 ?_
 repeat' (first | (conv => whnf); first | refine .w ?_ | refine Ix.v ?_ | refine Sd.v ?_ | refine Sl.v ?_ | apply am | refine sc_d ?_ ?_ <;> (intro hb; try exact dd hb) | apply ah | (apply sc_i <;> intro hb) | (apply bx_i; intro hbd) | (apply ak; first | fail) | (apply ab_i; intro bl) | exact rt_w | exact True.intro | (apply bc_i; intro C hC) | apply bt_i | apply og_n | (apply og_a; exact rfl))
 all_goals try conv => whnf
 refine dw_p mixed hC hGL false (fun (_ : Unit) => [(0, .own 0 (.slice (some ⟨br, 0, none⟩) 6 vc)), (3, .own 2 (pv bl 0)), (4, .int .i64 2), (5, .str [94, 110]), (6, .int .i64 0)]) (fun _ => [decR br vc, e1, .cells bl (some 340) (genC (.raw (.slice none 0 0)) 0 (mQ.set 94 (.int .u8 1)))]) (.take 0 (.take 1 (.take 2 (.take 3 (.take 4 (.take 5 (.take 6 (.br 7 (.done) (.nil))))))))) (by kernel_rfl) ?_ ?_
 ·repeat' (first | (conv => whnf); first | refine .w ?_ | refine Ix.v ?_ | refine Sd.v ?_ | refine Sl.v ?_ | apply am | refine sc_d ?_ ?_ <;> (intro hb; try exact dd hb) | apply ah | (apply sc_i <;> intro hb) | (apply bx_i; intro hbd) | (apply ak; first | fail) | (apply ab_i; intro bl) | exact rt_w | exact True.intro | (apply bc_i; intro C hC) | apply bt_i | apply og_n | (apply og_a; exact rfl))
  all_goals try conv => whnf
  exact ⟨(), ⟨rfl, rfl, rfl, rfl, rfl, trivial⟩, rfl⟩
 intro _
 repeat' (first | (conv => whnf); first | refine .w ?_ | refine Ix.v ?_ | refine Sd.v ?_ | refine Sl.v ?_ | apply am | refine sc_d ?_ ?_ <;> (intro hb; try exact dd hb) | apply ah | (apply sc_i <;> intro hb) | (apply bx_i; intro hbd) | (apply ak; first | fail) | (apply ab_i; intro bl) | exact rt_w | exact True.intro | (apply bc_i; intro C hC) | apply bt_i | apply og_n | (apply og_a; exact rfl))
 all_goals try conv => whnf
 refine dw_p mixed hC hGL false (fun (_ : Unit) => [(0, .own 0 (.slice (some ⟨br, 0, none⟩) 6 vc)), (3, .own 2 (pv bl 0)), (4, .int .i64 2), (5, .str [94, 110]), (6, .int .i64 1)]) (fun _ => [decR br vc, e1, .cells bl (some 340) (genC (.raw (.slice none 0 0)) 0 ((mQ.set 94 (.int .u8 1)).set 110 (.int .u8 1)))]) (.take 0 (.take 1 (.take 2 (.take 3 (.take 4 (.take 5 (.take 6 (.br 7 (.done) (.nil))))))))) (by kernel_rfl) ?_ ?_
 ·repeat' (first | (conv => whnf); first | refine .w ?_ | refine Ix.v ?_ | refine Sd.v ?_ | refine Sl.v ?_ | apply am | refine sc_d ?_ ?_ <;> (intro hb; try exact dd hb) | apply ah | (apply sc_i <;> intro hb) | (apply bx_i; intro hbd) | (apply ak; first | fail) | (apply ab_i; intro bl) | exact rt_w | exact True.intro | (apply bc_i; intro C hC) | apply bt_i | apply og_n | (apply og_a; exact rfl))
  all_goals try conv => whnf
  exact ⟨(), ⟨rfl, rfl, rfl, rfl, rfl, trivial⟩, rfl⟩
 intro _
 repeat' (first | (conv => whnf); first | refine .w ?_ | refine Ix.v ?_ | refine Sd.v ?_ | refine Sl.v ?_ | apply am | refine sc_d ?_ ?_ <;> (intro hb; try exact dd hb) | apply ah | (apply sc_i <;> intro hb) | (apply bx_i; intro hbd) | (apply ak; first | fail) | (apply ab_i; intro bl) | exact rt_w | exact True.intro | (apply bc_i; intro C hC) | apply bt_i | apply og_n | (apply og_a; exact rfl))
 all_goals try conv => whnf
 refine rds hC hGL 3 ?_
 repeat' (first | (conv => whnf); first | refine .w ?_ | refine Ix.v ?_ | refine Sd.v ?_ | refine Sl.v ?_ | apply am | refine sc_d ?_ ?_ <;> (intro hb; try exact dd hb) | apply ah | (apply sc_i <;> intro hb) | (apply bx_i; intro hbd) | (apply ak; first | fail) | (apply ab_i; intro bl) | exact rt_w | exact True.intro | (apply bc_i; intro C hC) | apply bt_i | apply og_n | (apply og_a; exact rfl))
 all_goals try conv => whnf
 refine dw_p mixed hC hGL false (fun (_ : Unit) => [(0, .own 0 (.slice (some ⟨br, 0, none⟩) 6 vc)), (3, .own 2 (pv bl 0)), (4, .int .i64 4), (5, .str [94, 39]), (6, .int .i64 0)]) (fun _ => [decR br vc, e1, .cells bl (some 340) (genC (.raw (.slice none 0 0)) 0 ((mQ.set 94 (.int .u8 1)).set 110 (.int .u8 1)))]) (.take 0 (.take 1 (.take 2 (.take 3 (.take 4 (.take 5 (.take 6 (.br 7 (.done) (.nil))))))))) (by kernel_rfl) ?_ ?_
 ·repeat' (first | (conv => whnf); first | refine .w ?_ | refine Ix.v ?_ | refine Sd.v ?_ | refine Sl.v ?_ | apply am | refine sc_d ?_ ?_ <;> (intro hb; try exact dd hb) | apply ah | (apply sc_i <;> intro hb) | (apply bx_i; intro hbd) | (apply ak; first | fail) | (apply ab_i; intro bl) | exact rt_w | exact True.intro | (apply bc_i; intro C hC) | apply bt_i | apply og_n | (apply og_a; exact rfl))
  all_goals try conv => whnf
  exact ⟨(), ⟨rfl, rfl, rfl, rfl, rfl, trivial⟩, rfl⟩
 intro _
 repeat' (first | (conv => whnf); first | refine .w ?_ | refine Ix.v ?_ | refine Sd.v ?_ | refine Sl.v ?_ | apply am | refine sc_d ?_ ?_ <;> (intro hb; try exact dd hb) | apply ah | (apply sc_i <;> intro hb) | (apply bx_i; intro hbd) | (apply ak; first | fail) | (apply ab_i; intro bl) | exact rt_w | exact True.intro | (apply bc_i; intro C hC) | apply bt_i | apply og_n | (apply og_a; exact rfl))
 all_goals try conv => whnf
 refine dw_p mixed hC hGL false (fun (_ : Unit) => [(0, .own 0 (.slice (some ⟨br, 0, none⟩) 6 vc)), (3, .own 2 (pv bl 0)), (4, .int .i64 4), (5, .str [94, 39]), (6, .int .i64 1)]) (fun _ => [decR br vc, e1, .cells bl (some 340) (genC (.raw (.slice none 0 0)) 0 mapM)]) (.take 0 (.take 1 (.take 2 (.take 3 (.take 4 (.take 5 (.take 6 (.br 7 (.done) (.nil))))))))) (by kernel_rfl) ?_ ?_
 ·repeat' (first | (conv => whnf); first | refine .w ?_ | refine Ix.v ?_ | refine Sd.v ?_ | refine Sl.v ?_ | apply am | refine sc_d ?_ ?_ <;> (intro hb; try exact dd hb) | apply ah | (apply sc_i <;> intro hb) | (apply bx_i; intro hbd) | (apply ak; first | fail) | (apply ab_i; intro bl) | exact rt_w | exact True.intro | (apply bc_i; intro C hC) | apply bt_i | apply og_n | (apply og_a; exact rfl))
  all_goals try conv => whnf
  exact ⟨(), ⟨rfl, rfl, rfl, rfl, rfl, trivial⟩, rfl⟩
 intro _
 repeat' (first | (conv => whnf); first | refine .w ?_ | refine Ix.v ?_ | refine Sd.v ?_ | refine Sl.v ?_ | apply am | refine sc_d ?_ ?_ <;> (intro hb; try exact dd hb) | apply ah | (apply sc_i <;> intro hb) | (apply bx_i; intro hbd) | (apply ak; first | fail) | (apply ab_i; intro bl) | exact rt_w | exact True.intro | (apply bc_i; intro C hC) | apply bt_i | apply og_n | (apply og_a; exact rfl))
 all_goals try conv => whnf
 have hs : ∀ i : Nat, ((cnt3 i : Nat) : Int) + (m1 i : Nat) = ((cnt3 (i + 1) : Nat) : Int) := fun i => by rw [lK, Int.natCast_add]
 refine lp hC hGL (fun i : Nat => [(0, .own 0 (.slice (some ⟨br, 0, none⟩) 6 vc)), (3, .own 2 (pv bl 0)), (40, .agg mapM), (41, .int .i64 (i : Nat))]) (fun i => [decR br vc, e1, .cells bl (some 340) (genC (.raw (.slice none 0 0)) ((cnt3 i : Nat) : Int) mapM)]) (fun i => i ≤ 256) (fun i => 256 - i) 0 ?_ aj rfl ?_
 ·omega
 ·intro i hi
  have hc3 := yj i
  have hm1 := ET i
  by_cases hlt : i < 256
  ·repeat' (first | (conv => whnf); first | refine .w ?_ | refine Ix.v ?_ | refine Sd.v ?_ | refine Sl.v ?_ | apply am | refine sc_d ?_ ?_ <;> (intro hb; try exact dd hb) | apply ah | (apply sc_i <;> intro hb) | (apply bx_i; intro hbd) | (apply ak; first | fail) | (apply ab_i; intro bl) | exact rt_w | exact True.intro | (apply bc_i; intro C hC) | apply bt_i | apply og_n | (apply og_a; exact rfl))
   all_goals try conv => whnf
   refine bF hC hGL (pm (i := i) rfl rfl rfl rfl rfl rfl rfl hlt (s7 hlt) rfl) rfl rfl ?_
   repeat' (first | (conv => whnf); first | refine .w ?_ | refine Ix.v ?_ | refine Sd.v ?_ | refine Sl.v ?_ | apply am | refine sc_d ?_ ?_ <;> (intro hb; try exact dd hb) | apply ah | (apply sc_i <;> intro hb) | (apply bx_i; intro hbd) | (apply ak; first | fail) | (apply ab_i; intro bl) | exact rt_w | exact True.intro | (apply bc_i; intro C hC) | apply bt_i | apply og_n | (apply og_a; exact rfl))
   all_goals try conv => whnf
   refine nxt (i + 1) ?_ ?_ ⟨rfl, rfl, rfl, rfl, trivial⟩ ?_
   ·show i + 1 ≤ 256; omega
   ·show 256 - (i + 1) < 256 - i; omega
   ·show _ = [decR br vc, e1, .cells bl (some 340) (genC (.raw (.slice none 0 0)) ((cnt3 (i + 1) : Nat) : Int) mapM)]
    rw [← hs]
    rfl
  ·obtain rfl : i = 256 := by omega
   repeat' (first | (conv => whnf); first | refine .w ?_ | refine Ix.v ?_ | refine Sd.v ?_ | refine Sl.v ?_ | apply am | refine sc_d ?_ ?_ <;> (intro hb; try exact dd hb) | apply ah | (apply sc_i <;> intro hb) | (apply bx_i; intro hbd) | (apply ak; first | fail) | (apply ab_i; intro bl) | exact rt_w | exact True.intro | (apply bc_i; intro C hC) | apply bt_i | apply og_n | (apply og_a; exact rfl))
   all_goals try conv => whnf
   refine lp hC hGL (fun x : Nat × List AVal => [(0, .own 0 (.slice (some ⟨br, 0, none⟩) 6 vc)), (3, .own 2 (pv bl 0)), (9, .int .u8 ((cnt3 x.1 : Nat) : Int)), (57, .agg mapM), (58, .int .i64 (x.1 : Nat))]) (fun x => [decR br vc, e1, .cells bl (some 340) (genC (.raw (.slice none 0 0)) 3 x.2)]) (fun x => x.1 ≤ 256 ∧ x.2 = mapI x.1) (fun x => 256 - x.1) (0, mapI 0) ⟨Nat.zero_le _, rfl⟩ ⟨rfl, rfl, rfl, rfl, rfl, trivial⟩ rfl ?_
   rintro ⟨i, M⟩ ⟨hi, hM⟩
   have hi : i ≤ 256 := hi
   have hM : M = mapI i := hM
   have hMl : M.length = 256 := by rw [hM]; exact s8 i
   have hc3 := yj i
   have hm1 := ET i
   by_cases hlt : i < 256
   ·repeat' (first | (conv => whnf); first | refine .w ?_ | refine Ix.v ?_ | refine Sd.v ?_ | refine Sl.v ?_ | apply am | refine sc_d ?_ ?_ <;> (intro hb; try exact dd hb) | apply ah | (apply sc_i <;> intro hb) | (apply bx_i; intro hbd) | (apply ak; first | fail) | (apply ab_i; intro bl) | exact rt_w | exact True.intro | (apply bc_i; intro C hC) | apply bt_i | apply og_n | (apply og_a; exact rfl))
    all_goals try conv => whnf
    refine bF hC hGL (pm (i := i) rfl rfl rfl rfl rfl rfl rfl hlt (s7 hlt) rfl) rfl rfl ?_
    repeat' (first | (conv => whnf); first | refine .w ?_ | refine Ix.v ?_ | refine Sd.v ?_ | refine Sl.v ?_ | apply am | refine sc_d ?_ ?_ <;> (intro hb; try exact dd hb) | apply ah | (apply sc_i <;> intro hb) | (apply bx_i; intro hbd) | (apply ak; first | fail) | (apply ab_i; intro bl) | exact rt_w | exact True.intro | (apply bc_i; intro C hC) | apply bt_i | apply og_n | (apply og_a; exact rfl))
    all_goals try conv => whnf
    ·refine dw_p mixed hC hGL false (fun (_ : Unit) => [(0, .own 0 (.slice (some ⟨br, 0, none⟩) 6 vc)), (3, .own 2 (pv bl 0)), (9, .int .u8 ((cnt3 i : Nat) : Int)), (57, .agg mapM), (58, .int .i64 (i : Nat))]) (fun _ => [decR br vc, e1, .cells bl (some 340) (genC (.raw (.slice none 0 0)) 3 (M.take i ++ [.int .u8 3] ++ M.drop (i + 1)))]) (.take 0 (.take 1 (.take 2 (.take 3 (.take 4 (.take 7 (.take 8 (.br 5 (.take 6 (.take 9 (.br 10 (.done) (.nil)))) (.nil))))))))) (by kernel_rfl) ?_ ?_
     ·repeat' (first | (conv => whnf); first | refine .w ?_ | refine Ix.v ?_ | refine Sd.v ?_ | refine Sl.v ?_ | apply am | refine sc_d ?_ ?_ <;> (intro hb; try exact dd hb) | apply ah | (apply sc_i <;> intro hb) | (apply bx_i; intro hbd) | (apply ak; first | fail) | (apply ab_i; intro bl) | exact rt_w | exact True.intro | (apply bc_i; intro C hC) | apply bt_i | apply og_n | (apply og_a; exact rfl))
      all_goals try conv => whnf
      erw [tD hMl hlt]
      refine sp_i rfl ?_
      erw [bz, tC]
      repeat' (first | (conv => whnf); first | refine .w ?_ | refine Ix.v ?_ | refine Sd.v ?_ | refine Sl.v ?_ | apply am | refine sc_d ?_ ?_ <;> (intro hb; try exact dd hb) | apply ah | (apply sc_i <;> intro hb) | (apply bx_i; intro hbd) | (apply ak; first | fail) | (apply ab_i; intro bl) | exact rt_w | exact True.intro | (apply bc_i; intro C hC) | apply bt_i | apply og_n | (apply og_a; exact rfl))
      all_goals try conv => whnf
      exact ⟨(), ⟨rfl, rfl, rfl, rfl, rfl, trivial⟩, rfl⟩
     ·intro _
      repeat' (first | (conv => whnf); first | refine .w ?_ | refine Ix.v ?_ | refine Sd.v ?_ | refine Sl.v ?_ | apply am | refine sc_d ?_ ?_ <;> (intro hb; try exact dd hb) | apply ah | (apply sc_i <;> intro hb) | (apply bx_i; intro hbd) | (apply ak; first | fail) | (apply ab_i; intro bl) | exact rt_w | exact True.intro | (apply bc_i; intro C hC) | apply bt_i | apply og_n | (apply og_a; exact rfl))
      all_goals try conv => whnf
      have h0 : m1 i = 0 := by omega
      have h1 : m1 i + cnt3 i = cnt3 (i + 1) := by rw [lK]; omega
      rw [h0, Nat.zero_add] at h1
      refine nxt (i + 1, M.take i ++ [.int .u8 3] ++ M.drop (i + 1)) ?_ ?_ ⟨rfl, rfl, ?_, rfl, rfl, trivial⟩ rfl
      ·refine ⟨hlt, ?_⟩
       show M.take i ++ [.int .u8 3] ++ M.drop (i + 1) = mapI (i + 1)
       rw [hM, ← pG hlt, FT h0]
       rfl
      ·show 256 - (i + 1) < 256 - i; omega
      ·show some (AVal.int .u8 ((cnt3 i : Nat) : Int)) = some (AVal.int .u8 ((cnt3 (i + 1) : Nat) : Int))
       rw [h1]
    ·erw [tD hMl hlt]
     refine sp_i rfl ?_
     erw [bz, tC]
     repeat' (first | (conv => whnf); first | refine .w ?_ | refine Ix.v ?_ | refine Sd.v ?_ | refine Sl.v ?_ | apply am | refine sc_d ?_ ?_ <;> (intro hb; try exact dd hb) | apply ah | (apply sc_i <;> intro hb) | (apply bx_i; intro hbd) | (apply ak; first | fail) | (apply ab_i; intro bl) | exact rt_w | exact True.intro | (apply bc_i; intro C hC) | apply bt_i | apply og_n | (apply og_a; exact rfl))
     all_goals try conv => whnf
     have h0 : m1 i ≠ 0 := by omega
     have h1 : m1 i + cnt3 i = cnt3 (i + 1) := by rw [lK]; omega
     refine nxt (i + 1, M.take i ++ [.int .u8 ((cnt3 i : Nat) : Int)] ++ M.drop (i + 1)) ?_ ?_ ⟨rfl, rfl, ?_, rfl, rfl, trivial⟩ rfl
     ·refine ⟨hlt, ?_⟩
      show M.take i ++ [.int .u8 ((cnt3 i : Nat) : Int)] ++ M.drop (i + 1) = mapI (i + 1)
      rw [hM, ← pG hlt, FR h0]
     ·show 256 - (i + 1) < 256 - i; omega
     ·show some (AVal.int .u8 (((cnt3 i : Nat) : Int) + 1)) = some (AVal.int .u8 ((cnt3 (i + 1) : Nat) : Int))
      rw [show ((cnt3 (i + 1) : Nat) : Int) = (cnt3 i : Nat) + 1 by omega]
   ·obtain rfl : i = 256 := by omega
    subst hM
    repeat' (first | (conv => whnf); first | refine .w ?_ | refine Ix.v ?_ | refine Sd.v ?_ | refine Sl.v ?_ | apply am | refine sc_d ?_ ?_ <;> (intro hb; try exact dd hb) | apply ah | (apply sc_i <;> intro hb) | (apply bx_i; intro hbd) | (apply ak; first | fail) | (apply ab_i; intro bl) | exact rt_w | exact True.intro | (apply bc_i; intro C hC) | apply bt_i | apply og_n | (apply og_a; exact rfl))
    all_goals try conv => whnf
    refine pz (m := 3) hC hGL rfl rfl (by omega) rfl rfl rfl rfl rfl rfl rfl rfl (fun bt => ?_)
    repeat' (first | (conv => whnf); first | refine .w ?_ | refine Ix.v ?_ | refine Sd.v ?_ | refine Sl.v ?_ | apply am | refine sc_d ?_ ?_ <;> (intro hb; try exact dd hb) | apply ah | (apply sc_i <;> intro hb) | (apply bx_i; intro hbd) | (apply ak; first | fail) | (apply ab_i; intro bl) | exact rt_w | exact True.intro | (apply bc_i; intro C hC) | apply bt_i | apply og_n | (apply og_a; exact rfl))
    all_goals try conv => whnf
    refine rds hC hGL 4 ?_
    repeat' (first | (conv => whnf); first | refine .w ?_ | refine Ix.v ?_ | refine Sd.v ?_ | refine Sl.v ?_ | apply am | refine sc_d ?_ ?_ <;> (intro hb; try exact dd hb) | apply ah | (apply sc_i <;> intro hb) | (apply bx_i; intro hbd) | (apply ak; first | fail) | (apply ab_i; intro bl) | exact rt_w | exact True.intro | (apply bc_i; intro C hC) | apply bt_i | apply og_n | (apply og_a; exact rfl))
    all_goals try conv => whnf
    refine dw_p mixed hC hGL false (fun (_ : Nat × Nat) => [(0, .own 0 (.slice (some ⟨br, 0, none⟩) 6 vc)), (3, .own 2 (pv bl 0)), (12, .int .i64 0)]) (fun y => [decR br vc, e1, .cells bl (some 340) (genC (.own 3 (.slice (some ⟨bt, 0, none⟩) 3 3)) 3 mapD), .row (.slice (some ⟨bt, 0, none⟩) 3 3) (some 335) 1 3 [.raw (.pointer none), .own 4 (pv y.1 0), .raw (.pointer none)], .cells y.1 (some 338) [.str [], .int .i64 0, .str [94], .own 5 (pv y.2 0), .raw (.slice none 0 0)], .cells y.2 (some 338) [.str [94], .int .i64 6, .str [], .raw (.pointer none), .raw (.slice none 0 0)]]) (.take 0 (.take 1 (.take 2 (.take 3 (.take 4 (.take 5 (.take 7 (.take 8 (.take 9 (.take 10 (.take 12 (.take 13 (.take 14 (.take 15 (.take 16 (.br 6 (.br 11 (.br 17 (.done) (.nil)) (.nil)) (.br 11 (.br 6 (.br 17 (.done) (.nil)) (.nil)) (.nil)))))))))))))))))) (by kernel_rfl) ?_ ?_
    ·repeat' (first | (conv => whnf); first | refine .w ?_ | refine Ix.v ?_ | refine Sd.v ?_ | refine Sl.v ?_ | apply am | refine sc_d ?_ ?_ <;> (intro hb; try exact dd hb) | apply ah | (apply sc_i <;> intro hb) | (apply bx_i; intro hbd) | (apply ak; first | fail) | (apply ab_i; intro bl) | exact rt_w | exact True.intro | (apply bc_i; intro C hC) | apply bt_i | apply og_n | (apply og_a; exact rfl))
     all_goals try conv => whnf
     ·refine ⟨_, AS bl bt _ _, ?_, ?_⟩
      ·rintro v H ⟨n1, n2, e, rfl⟩
       cases e
       repeat' (first | (conv => whnf); first | refine .w ?_ | refine Ix.v ?_ | refine Sd.v ?_ | refine Sl.v ?_ | apply am | refine sc_d ?_ ?_ <;> (intro hb; try exact dd hb) | apply ah | (apply sc_i <;> intro hb) | (apply bx_i; intro hbd) | (apply ak; first | fail) | (apply ab_i; intro bl) | exact rt_w | exact True.intro | (apply bc_i; intro C hC) | apply bt_i | apply og_n | (apply og_a; exact rfl))
       all_goals try conv => whnf
       exact ⟨(n1, n2), ⟨rfl, rfl, rfl, trivial⟩, rfl⟩
      ·rintro v H ⟨n1, n2, e, rfl⟩
       cases e
     ·refine ⟨_, AS bl bt _ _, ?_, ?_⟩
      ·rintro v H ⟨n1, n2, e, rfl⟩
       cases e
       repeat' (first | (conv => whnf); first | refine .w ?_ | refine Ix.v ?_ | refine Sd.v ?_ | refine Sl.v ?_ | apply am | refine sc_d ?_ ?_ <;> (intro hb; try exact dd hb) | apply ah | (apply sc_i <;> intro hb) | (apply bx_i; intro hbd) | (apply ak; first | fail) | (apply ab_i; intro bl) | exact rt_w | exact True.intro | (apply bc_i; intro C hC) | apply bt_i | apply og_n | (apply og_a; exact rfl))
       all_goals try conv => whnf
       exact ⟨(n1, n2), ⟨rfl, rfl, rfl, trivial⟩, rfl⟩
      ·rintro v H ⟨n1, n2, e, rfl⟩
       cases e
    intro y
    repeat' (first | (conv => whnf); first | refine .w ?_ | refine Ix.v ?_ | refine Sd.v ?_ | refine Sl.v ?_ | apply am | refine sc_d ?_ ?_ <;> (intro hb; try exact dd hb) | apply ah | (apply sc_i <;> intro hb) | (apply bx_i; intro hbd) | (apply ak; first | fail) | (apply ab_i; intro bl) | exact rt_w | exact True.intro | (apply bc_i; intro C hC) | apply bt_i | apply og_n | (apply og_a; exact rfl))
    all_goals try conv => whnf
    refine dw_p mixed hC hGL false (fun (_ : Nat × Nat) => [(0, .own 0 (.slice (some ⟨br, 0, none⟩) 6 vc)), (3, .own 2 (pv bl 0)), (12, .int .i64 2)]) (fun z => [decR br vc, e1, .cells bl (some 340) (genC (.own 3 (.slice (some ⟨bt, 0, none⟩) 3 3)) 3 mapD), .row (.slice (some ⟨bt, 0, none⟩) 3 3) (some 335) 1 3 [.raw (.pointer none), .own 4 (pv y.1 0), .raw (.pointer none)], .cells y.1 (some 338) [.str [], .int .i64 0, .str [], .raw (.pointer none), .own 7 (.slice (some ⟨z.2, 0, none⟩) 3 3)], .cells y.2 (some 338) [.str [94], .int .i64 6, .str [], .raw (.pointer none), .raw (.slice none 0 0)], .cells z.1 (some 338) [.str [10], .int .i64 4, .str [], .raw (.pointer none), .raw (.slice none 0 0)], .row (.slice (some ⟨z.2, 0, none⟩) 3 3) (some 335) 1 3 [.raw (.pointer none), .own 5 (pv y.2 0), .own 6 (pv z.1 0)]]) (.take 0 (.take 1 (.take 2 (.take 3 (.take 4 (.take 5 (.take 7 (.take 8 (.take 9 (.take 10 (.take 12 (.take 13 (.take 14 (.take 15 (.take 16 (.br 6 (.br 11 (.br 17 (.done) (.nil)) (.nil)) (.br 11 (.br 6 (.br 17 (.done) (.nil)) (.nil)) (.nil)))))))))))))))))) (by kernel_rfl) ?_ ?_
    ·repeat' (first | (conv => whnf); first | refine .w ?_ | refine Ix.v ?_ | refine Sd.v ?_ | refine Sl.v ?_ | apply am | refine sc_d ?_ ?_ <;> (intro hb; try exact dd hb) | apply ah | (apply sc_i <;> intro hb) | (apply bx_i; intro hbd) | (apply ak; first | fail) | (apply ab_i; intro bl) | exact rt_w | exact True.intro | (apply bc_i; intro C hC) | apply bt_i | apply og_n | (apply og_a; exact rfl))
     all_goals try conv => whnf
     ·refine ⟨_, AR bl bt y.1 y.2 _ _, ?_, ?_⟩
      ·rintro v H ⟨n3, b7, e, rfl⟩
       cases e
       repeat' (first | (conv => whnf); first | refine .w ?_ | refine Ix.v ?_ | refine Sd.v ?_ | refine Sl.v ?_ | apply am | refine sc_d ?_ ?_ <;> (intro hb; try exact dd hb) | apply ah | (apply sc_i <;> intro hb) | (apply bx_i; intro hbd) | (apply ak; first | fail) | (apply ab_i; intro bl) | exact rt_w | exact True.intro | (apply bc_i; intro C hC) | apply bt_i | apply og_n | (apply og_a; exact rfl))
       all_goals try conv => whnf
       exact ⟨(n3, b7), ⟨rfl, rfl, rfl, trivial⟩, rfl⟩
      ·rintro v H ⟨n3, b7, e, rfl⟩
       cases e
     ·refine ⟨_, AR bl bt y.1 y.2 _ _, ?_, ?_⟩
      ·rintro v H ⟨n3, b7, e, rfl⟩
       cases e
       repeat' (first | (conv => whnf); first | refine .w ?_ | refine Ix.v ?_ | refine Sd.v ?_ | refine Sl.v ?_ | apply am | refine sc_d ?_ ?_ <;> (intro hb; try exact dd hb) | apply ah | (apply sc_i <;> intro hb) | (apply bx_i; intro hbd) | (apply ak; first | fail) | (apply ab_i; intro bl) | exact rt_w | exact True.intro | (apply bc_i; intro C hC) | apply bt_i | apply og_n | (apply og_a; exact rfl))
       all_goals try conv => whnf
       exact ⟨(n3, b7), ⟨rfl, rfl, rfl, trivial⟩, rfl⟩
      ·rintro v H ⟨n3, b7, e, rfl⟩
       cases e
    intro z
    repeat' (first | (conv => whnf); first | refine .w ?_ | refine Ix.v ?_ | refine Sd.v ?_ | refine Sl.v ?_ | apply am | refine sc_d ?_ ?_ <;> (intro hb; try exact dd hb) | apply ah | (apply sc_i <;> intro hb) | (apply bx_i; intro hbd) | (apply ak; first | fail) | (apply ab_i; intro bl) | exact rt_w | exact True.intro | (apply bc_i; intro C hC) | apply bt_i | apply og_n | (apply og_a; exact rfl))
    all_goals try conv => whnf
    refine dw_p mixed hC hGL false (fun (_ : Nat) => [(0, .own 0 (.slice (some ⟨br, 0, none⟩) 6 vc)), (3, .own 2 (pv bl 0)), (12, .int .i64 4)]) (fun q => [decR br vc, e1, .cells bl (some 340) (genC (.own 3 (.slice (some ⟨bt, 0, none⟩) 3 3)) 3 mapD), .row (.slice (some ⟨bt, 0, none⟩) 3 3) (some 335) 1 3 [.raw (.pointer none), .own 4 (pv y.1 0), .raw (.pointer none)], .cells y.1 (some 338) [.str [], .int .i64 0, .str [], .raw (.pointer none), .own 7 (.slice (some ⟨z.2, 0, none⟩) 3 3)], .cells y.2 (some 338) [.str [94], .int .i64 6, .str [], .raw (.pointer none), .raw (.slice none 0 0)], .cells z.1 (some 338) [.str [10], .int .i64 4, .str [], .raw (.pointer none), .raw (.slice none 0 0)], .row (.slice (some ⟨z.2, 0, none⟩) 3 3) (some 335) 1 3 [.own 8 (pv q 0), .own 5 (pv y.2 0), .own 6 (pv z.1 0)], .cells q (some 338) [.str [34], .int .i64 2, .str [], .raw (.pointer none), .raw (.slice none 0 0)]]) (.take 0 (.take 1 (.take 2 (.take 3 (.take 4 (.take 5 (.take 7 (.take 8 (.take 9 (.take 10 (.take 12 (.take 13 (.take 14 (.take 15 (.take 16 (.br 6 (.br 11 (.br 17 (.done) (.nil)) (.nil)) (.br 11 (.br 6 (.br 17 (.done) (.nil)) (.nil)) (.nil)))))))))))))))))) (by kernel_rfl) ?_ ?_
    ·repeat' (first | (conv => whnf); first | refine .w ?_ | refine Ix.v ?_ | refine Sd.v ?_ | refine Sl.v ?_ | apply am | refine sc_d ?_ ?_ <;> (intro hb; try exact dd hb) | apply ah | (apply sc_i <;> intro hb) | (apply bx_i; intro hbd) | (apply ak; first | fail) | (apply ab_i; intro bl) | exact rt_w | exact True.intro | (apply bc_i; intro C hC) | apply bt_i | apply og_n | (apply og_a; exact rfl))
     all_goals try conv => whnf
     ·refine ⟨_, AP bl bt y.1 y.2 z.1 z.2 _ _, ?_, ?_⟩
      ·rintro v H ⟨n4, e, rfl⟩
       cases e
       repeat' (first | (conv => whnf); first | refine .w ?_ | refine Ix.v ?_ | refine Sd.v ?_ | refine Sl.v ?_ | apply am | refine sc_d ?_ ?_ <;> (intro hb; try exact dd hb) | apply ah | (apply sc_i <;> intro hb) | (apply bx_i; intro hbd) | (apply ak; first | fail) | (apply ab_i; intro bl) | exact rt_w | exact True.intro | (apply bc_i; intro C hC) | apply bt_i | apply og_n | (apply og_a; exact rfl))
       all_goals try conv => whnf
       exact ⟨n4, ⟨rfl, rfl, rfl, trivial⟩, rfl⟩
      ·rintro v H ⟨n4, e, rfl⟩
       cases e
     ·refine ⟨_, AP bl bt y.1 y.2 z.1 z.2 _ _, ?_, ?_⟩
      ·rintro v H ⟨n4, e, rfl⟩
       cases e
       repeat' (first | (conv => whnf); first | refine .w ?_ | refine Ix.v ?_ | refine Sd.v ?_ | refine Sl.v ?_ | apply am | refine sc_d ?_ ?_ <;> (intro hb; try exact dd hb) | apply ah | (apply sc_i <;> intro hb) | (apply bx_i; intro hbd) | (apply ak; first | fail) | (apply ab_i; intro bl) | exact rt_w | exact True.intro | (apply bc_i; intro C hC) | apply bt_i | apply og_n | (apply og_a; exact rfl))
       all_goals try conv => whnf
       exact ⟨n4, ⟨rfl, rfl, rfl, trivial⟩, rfl⟩
      ·rintro v H ⟨n4, e, rfl⟩
       cases e
    intro q
    repeat' (first | (conv => whnf); first | refine .w ?_ | refine Ix.v ?_ | refine Sd.v ?_ | refine Sl.v ?_ | apply am | refine sc_d ?_ ?_ <;> (intro hb; try exact dd hb) | apply ah | (apply sc_i <;> intro hb) | (apply bx_i; intro hbd) | (apply ak; first | fail) | (apply ab_i; intro bl) | exact rt_w | exact True.intro | (apply bc_i; intro C hC) | apply bt_i | apply og_n | (apply og_a; exact rfl))
    all_goals try conv => whnf
    exact ⟨_, List.Sublist.refl _, bl, bt, y.1, y.2, z.1, z.2, q, rfl, rfl⟩
end
section
open Go Go.RowKit
attribute [local irreducible] AWp AOps ax OrOk ab ae
attribute [local irreducible] mapD
structure DecY where
 bg : Nat
 bt : Nat
 n1 : Nat
 n2 : Nat
 n3 : Nat
 b7 : Nat
 n4 : Nat
abbrev DecY.H (y : DecY) : Heap := EO y.bg y.bt y.n1 y.n2 y.n3 y.b7 y.n4
abbrev decI (y : DecY) : AVal := .iface 315 (.own 2 (pv y.bg 0))
abbrev decP (br vc : Nat) : List AVal := (hO (.slice (some ⟨br, 0, none⟩) 6 vc)).set 1 (.int .i32 1)
theorem zD {G : Glo} (br bl vc : Nat) : ae Tryz.prog G 197 [.raw (pv bl 0)] [decR br vc, .cells bl (some 280) (decP br vc)]
  (fun r H => ∃ y : DecY, r = .ret (decI y) ∧ H = [decR br vc, .cells bl (some 280) (decP br vc)] ++ y.H) := by
 have hGL : ab G [] := ad
 have e1 := GR (G := G) br vc (.cells bl (some 280) (decP br vc))
 unfold decP hO at *
 refine fQ 1 Tryz.func197 Tryz.call197 rfl rfl rfl rfl hGL rfl ?_
 intro C hC
 have r0 : ct (.slice (some ⟨br, 0, none⟩) 6 vc) br 6 := ⟨_, rfl⟩
 have d0 : decO[0]? = some (.str [94, 94]) := rfl
 refine xn1 ?_
 intros
 refine rds hC hGL 1 ?_
 refine xn1 ?_
 intros
 refine ⟨_, e1, ?_, ?_⟩
 ·rintro v H ⟨bg, bt, n1, n2, n3, b7, n4, e, rfl⟩
  cases e
  refine xn1 ?_
  intros
  exact ⟨_, List.Sublist.refl _, ⟨bg, bt, n1, n2, n3, b7, n4⟩, rfl, rfl⟩
 ·rintro v H ⟨bg, bt, n1, n2, n3, b7, n4, e, rfl⟩
  cases e
abbrev decA (y : DecY) : List AVal := [.int .u32 0, .int .i32 1, .int .u32 0, decI y, .raw (.slice none 0 0)]
abbrev decB (y : DecY) : List AVal := [.int .u32 1, .int .i32 0, .int .u32 0, decI y, .raw (.slice none 0 0)]
theorem Bi {G : Glo} (br bl vc : Nat) : ae Tryz.prog G 186 [.raw (pv bl 0)] [decR br vc, .cells bl (some 280) (decP br vc)]
  (fun r H => ∃ y : DecY, r = .ret (.tuple []) ∧ H = [decR br vc, .cells bl (some 280) (decA y)] ++ y.H) := by
 have hGL : ab G [] := ad
 have e1 := zD (G := G) br bl vc
 unfold decP hO at *
 refine fQ 1 Tryz.func186 Tryz.call186 rfl rfl rfl rfl hGL rfl ?_
 intro C hC
 refine xn1 ?_
 intros
 refine ⟨_, e1, ?_, ?_⟩
 ·rintro v' H2 ⟨y, e, rfl⟩
  cases e
  refine xn1 ?_
  intros
  exact ⟨_, List.Sublist.refl _, y, rfl, rfl⟩
 ·rintro v' H2 ⟨y, e, rfl⟩
  cases e
theorem Gc {G : Glo} (br bl vc : Nat) : ae Tryz.prog G 185 [.raw (pv bl 0), .func (.func 186) [.raw (pv bl 0)] []] [decR br vc, .cells bl (some 280) (hO (.slice (some ⟨br, 0, none⟩) 6 vc))]
  (fun r H => ∃ y : DecY, r = .ret (.tuple []) ∧ H = [decR br vc, .cells bl (some 280) (decB y)] ++ y.H) := by
 have e1 := Bi (G := G) br bl vc
 have e2 := DR (G := G) (b := bl) (off := 0) (fid := 186) (eT := some 280) (cs := hO (.slice (some ⟨br, 0, none⟩) 6 vc)) (T := [decR br vc]) (Y := DecY) (cs2 := decA) (T2 := fun y => decR br vc :: y.H) (l1 := [.raw (pv bl 0)]) (l2 := []) rfl rfl (fun _ => rfl) (fun _ => rfl) rfl rfl
  (by
   refine gh (gg (List.Perm.swap _ _ _) e1) ?_
   rintro r H ⟨y, rfl, rfl⟩
   exact ⟨_, List.Perm.swap _ _ _, y, rfl, rfl⟩)
 refine gh (gg (List.Perm.swap _ _ _) e2) ?_
 rintro r H ⟨y, rfl, rfl⟩
 exact ⟨_, List.Perm.swap _ _ _, y, rfl, rfl⟩
end
section
open Go Go.RowKit
abbrev cM (s : List UInt8) : List AVal := s.map fun c => .int .u8 (c.toNat : Int)
abbrev rowR (v : Value) (s : List UInt8) : HEnt := .row v (some 5) 1 s.length (cM s)
theorem AO (v : Value) (s t : List UInt8) : HEnt.row v (some 5) 1 (s.length + t.length) (cM s ++ cM t) = rowR v (s ++ t) := by
 simp only [rowR, cM, List.length_append, List.map_append]
section
variable {P : Program} [Tab P] {C : Ctx} {n : Nat} {env : Env} {H : Heap} {Q : AExit → Env → Heap → Prop} {ops : Array Oper} {rest : List Oper} {G : Glo} {GL : List (Nat × List AVal)}
variable {d : Nat} {t : TypeId} {p : String} {af : Array Edge} {g : Option (Nat × Bool)} {b : Bool}
variable {x y : Operand} {T : TypeId} {xT : TI} {tx ty : TypeId}
theorem Bh {i n0 : Nat} {v : Value} {s : List UInt8} {cs z : List AVal} {eT : Option TypeId} {e : TypeId} {xe xx : TI} (hC : C.G = G) (hGL : ab G GL) (hg : aF ops env g = some (b, b)) (hdn : Nat.ble (d + 1) n = true)
  (hx : ai env x = some (.own i v)) (hi : H[i]? = some (.row v eT 1 n0 cs)) (hy : ai env y = some (.str s))
  (h1 : tab P T = some xT) (h2 : xT.desc = .slice e) (h3 : tab P e = some xe) (h4 : xe.size = 1) (h6 : Nat.ble xe.bytes 1024 = true) (h7 : aQ xe.zero = some z) (h8 : z.length = 1) (h9 : tab P tx = some xx) (h10 : xx.desc = .string)
  (hlen : n0 + s.length ≤ 137438953472) (hty : tyOK eT e = true)
  (h : ∀ a k c, opsX P C n G GL ops Q rest ((d, .own i (.slice a k c)) :: env) (H.set i (.row (.slice a k c) eT 1 (n0 + s.length) (cs ++ cM s)))) :
  Op1 P C n ops ({ dst := some d, op := .call { callee := .builtin .append, args := [x, y].toArray, argTypes := [T, tx].toArray }, type := t, pos := p, after := af, guard := g } :: rest) env H Q :=
 ⟨py hg hdn hx hi hy h1 h2 h3 h4 rfl h6 h7 h8 (fun R v hv => Dx hv h9 h10) hlen (wR hty) fun v' => gk (ji hi) fun ⟨a, k, c, e, _⟩ => by subst e; exact cP hC hGL _ _ _ (h a k c)⟩
theorem sb {s : List UInt8} {i m : Nat} {v : Value} {eT : Option TypeId} {S e : TypeId} {xS xe : TI}
  (hx : ai env x = some (.own i v)) (hi : H[i]? = some (.row v eT 1 m (cM s)))
  (h1 : tab P S = some xS) (h2 : xS.desc = .slice e) (h5 : tab P e = some xe) (h6 : xe.desc = .int .u8) (h3 : tab P T = some xT) (h4 : xT.desc = .string) : RunV P C H env (.convert S T x) (.str s) := by
 obtain ⟨k, rfl, hs⟩ := f8 hx
 exact bW hs (uX (by simp only [ai]; exact dy) hi rfl h1 h2 h5 h6 h3 h4)
end
end
section
open Go Go.RowKit
attribute [local irreducible] AWp AOps ax OrOk ab ae
attribute [local irreducible] mapD
abbrev wrC (bw : Nat) (v : Value) : HEnt := .cells bw (some 378) [.own 9 v]
theorem lO {G : Glo} (x0 x1 x2 x3 x4 x5 x6 x7 x8 : HEnt) (bw : Nat) (v : Value) (b t : List UInt8) (hl : b.length + t.length ≤ 137438953472) :
  ae Tryz.prog G 288 [.raw (pv bw 0), .str t] [x0, x1, x2, x3, x4, x5, x6, x7, x8, rowR v b, wrC bw v]
  (fun r H => ∃ va vk vc, r = .ret (.tuple [.int .i64 t.length, .raw .nilIface]) ∧ H = [x0, x1, x2, x3, x4, x5, x6, x7, x8, rowR (.slice va vk vc) (b ++ t), wrC bw (.slice va vk vc)]) := by
 have hGL : ab G [] := ad
 refine fQ 10 Tryz.func288 Tryz.call288 rfl rfl rfl rfl hGL rfl ?_
 intro C hC
 refine xn1 ?_
 intros
 refine Bh hC hGL rfl rfl rfl rfl rfl rfl rfl rfl rfl rfl rfl rfl rfl rfl hl rfl ?_
 intro va vk vc
 refine xn1 ?_
 intros
 exact ⟨_, List.Sublist.refl _, va, vk, vc, rfl, by rw [AO]⟩
theorem GV : ∀ v w, (Instr.typeAssert (.iface 379 v) 381 383 true).run Tryz.prog w = .ok (.tuple #[.iface 379 v, .bool true]) w := by intro v w; kernel_rfl
theorem F4 {G : Glo} (v : Value) : FnIs Tryz.prog G 281 [.iface 379 (.raw v)] (.iface 379 (.raw v)) := by
 have h := GV
 have hGL : ab G [] := ad
 refine fn_x Tryz.func281 Tryz.call281 rfl rfl rfl rfl hGL ?_
 intro C hC
 exact xw0
theorem BC (a : AVal) : ∀ R v, Rel R a v → ∀ w, ∃ u, (Go.method (Tryz.prog.types.size + Made.depth) 379 v "WriteString").run Tryz.prog w = .ok (288, u) w ∧ Rel R a u := by
 intro R v hv w
 exact ⟨v, by kernel_rfl, hv⟩
section
variable {P : Program} [Tab P] {C : Ctx} {env : Env} {H : Heap} {x : Operand}
theorem gx {T : TypeId} {a : AVal} {name : String} {l2 : List AVal} (hx : ai env x = some (.func (.method name) [.iface T a] l2))
  (hn : ∀ R v, Rel R a v → ∀ w, (nilAhead (P.types.size + Made.depth) T v name).run P w = .ok (some false) w) : RunV P C H env (.nilCheck x) (.func (.method name) [.iface T a] l2) := by
 intro R ρ w hm hf dst t p af g
 have hr := hf _ _ hx
 obtain ⟨A, B, e, h1, h2⟩ := aT hr rfl
 simp only [List.cons.injEq, and_true] at e
 obtain ⟨v, l, hA, hv, rfl⟩ := h1
 obtain ⟨u, e2, hu⟩ := aT hv rfl
 simp only [List.cons.injEq, and_true] at e2
 subst e2
 have hA0 : A[0]? = some (.iface T u) := by rw [← Array.getElem?_toList, hA]; rfl
 have hp : (program).run P w = .ok P w := rfl
 refine ⟨.func (.method name) A B, ?_, by rw [← e]; exact hr⟩
 simp only [execOp, e, hA0, Sem.run_bind, hp, Result.andThen_ok, hn R u hu w, bne_self_eq_false, Bool.false_eq_true, if_false, Sem.run_pure]
end
theorem ES (b : Nat) : ∀ R v, Rel R (.raw (pv b 0)) v → ∀ w, (nilAhead (Tryz.prog.types.size + Made.depth) 379 v "WriteString").run Tryz.prog w = .ok (some false) w := by
 intro R v hv w
 obtain rfl := an.1 hv
 kernel_rfl
end
section
open Go Go.RowKit
theorem Bz {i : Nat} (hi : i < 256) : mapD[i]? = some (.int .u8 (m2 i : Nat)) := by
 unfold mapD m2
 by_cases h1 : i = 110
 ·subst h1; rfl
 ·rw [List.getElem?_set_ne (Ne.symm h1)]
  by_cases h2 : i = 94
  ·subst h2; rfl
  ·rw [List.getElem?_set_ne (Ne.symm h2)]
   by_cases h3 : i = 39
   ·subst h3; rfl
   ·rw [List.getElem?_set_ne (Ne.symm h3), if_neg h3, if_neg h2, if_neg h1]
    rw [List.getElem?_replicate_of_lt hi]
    rfl
attribute [local irreducible] AWp AOps ax OrOk ab ae
attribute [local irreducible] mapD
theorem ea {i : Nat} {t : AVal} {v : Int} (hi : i < 256) (h : (m2 i : Int) = v) : some (AVal.int .u8 v) = (genC t 3 mapD)[0 + 6 + i * 1]? := by
 rw [show 0 + 6 + i * 1 = i + 6 by omega, ← h]
 exact (Bz hi).symm
def lkP (s : List UInt8) : List UInt8 × Int × Bool :=
 if s.length < 2 then ([], 0, false) else if aa s 1 = 94 then ([94], 2, true) else if aa s 1 = 110 then ([10], 2, true) else if aa s 1 = 39 then ([34], 2, true) else ([], 0, false)
theorem nK {G : Glo} (x0 x1 : HEnt) (y : DecY) (s : List UInt8) (hl : s.length ≤ 1000000) (h0 : s.length = 0 ∨ aa s 0 = 94) :
  ae Tryz.prog G 282 [.raw (pv y.bg 0), .str s, .bool false] ([x0, x1] ++ y.H)
   (fun r H => r = .ret (.tuple [.str (lkP s).1, .int .i64 (lkP s).2.1, .bool (lkP s).2.2]) ∧ H = [x0, x1] ++ y.H) := by
 have hGL : ab G [] := ad
 refine fQ 2 Tryz.func282 Tryz.call282 rfl rfl rfl rfl hGL rfl ?_
 intro C hC
 refine xn1 ?_
 intros
 refine rds hC hGL 4 ?_
 repeat' (first | (conv => whnf); first | refine .w ?_ | refine Ix.v ?_ | refine Sd.v ?_ | refine Sl.v ?_ | apply am | refine sc_d ?_ ?_ <;> (intro hb; try exact dd hb) | apply ah | (apply sc_i <;> intro hb) | (apply bx_i; intro hbd) | (apply ak; first | fail) | (apply ab_i; intro bl) | exact rt_w | exact True.intro | (apply bc_i; intro C hC) | apply bt_i | apply og_n | (apply og_a; exact rfl))
 all_goals try conv => whnf
 ·apply nh
  ·unfold lkP; rw [if_pos (by omega)]; rfl
  ·exact List.Sublist.refl _
 ·have hb0 : aa s 0 = 94 := h0.resolve_left hb
  have g := ea (i := aa s 0) (t := .own 3 (.slice (some ⟨y.bt, 0, none⟩) 3 3)) (v := 1) (by omega) (by rw [hb0]; rfl)
  have q3 : ct (.slice (some ⟨y.bt, 0, none⟩) 3 3) y.bt 3 := ⟨_, rfl⟩
  have q7 : ct (.slice (some ⟨y.b7, 0, none⟩) 3 3) y.b7 3 := ⟨_, rfl⟩
  refine dw_p mixed hC hGL true (fun (_ : Unit) => [(0, .own 2 (pv y.bg 0)), (1, .str s), (2, .bool false), (6, .str []), (7, .int .i64 0), (8, .bool false), (9, .int .i64 0), (10, .own 2 (pv y.bg 0)), (11, .int .i64 0), (12, .int .u8 1)]) (fun _ => [x0, x1] ++ y.H) (.take 0 (.take 1 (.take 2 (.take 3 (.take 4 (.take 5 (.take 6 (.take 7 (.done))))))))) (by kernel_rfl) ?_ ?_
  ·refine xn1 ?_
   intros
   erw [← g]
   refine xn1 ?_
   intros
   exact ⟨(), ⟨rfl, rfl, rfl, rfl, rfl, rfl, rfl, rfl, rfl, rfl, trivial⟩, rfl⟩
  intro _
  refine xn1 ?_
  intros
  refine gt_i rfl rfl ?_
  repeat' (first | (conv => whnf); first | refine .w ?_ | refine Ix.v ?_ | refine Sd.v ?_ | refine Sl.v ?_ | apply am | refine sc_d ?_ ?_ <;> (intro hb; try exact dd hb) | apply ah | (apply sc_i <;> intro hb) | (apply bx_i; intro hbd) | (apply ak; first | fail) | (apply ab_i; intro bl) | exact rt_w | exact True.intro | (apply bc_i; intro C hC) | apply bt_i | apply og_n | (apply og_a; exact rfl))
  all_goals try conv => whnf
  ·apply nh
   ·have hb : s.length - 1 = 0 := by rw [← List.length_drop]; exact hb
    unfold lkP; rw [if_pos (by omega)]
   ·exact List.Sublist.refl _
  ·have hb : s.length - 1 ≠ 0 := by rw [← List.length_drop]; exact hb
   have hb1 : aa (s.drop 1) 0 = aa s 1 := by simp [aa]
   have hl2 : 2 ≤ s.length := by omega
   have hq := aX s 1
   rcases (show aa s 1 = 94 ∨ aa s 1 = 110 ∨ aa s 1 = 39 ∨ (aa s 1 ≠ 94 ∧ aa s 1 ≠ 110 ∧ aa s 1 ≠ 39) by omega) with hk | hk | hk | ⟨k1, k2, k3⟩
   ·have g2 := ea (i := aa (s.drop 1) 0) (t := .own 3 (.slice (some ⟨y.bt, 0, none⟩) 3 3)) (v := 1) (by rw [hb1]; exact hq) (by rw [hb1, hk]; rfl)
    refine dw_p mixed hC hGL true (fun (_ : Unit) => [(0, .own 2 (pv y.bg 0)), (1, .str (s.drop 1)), (2, .bool false), (6, .str []), (7, .int .i64 0), (8, .bool false), (9, .int .i64 0), (10, .own 4 (pv y.n1 0)), (11, .int .i64 1), (12, .int .u8 1)]) (fun _ => [x0, x1] ++ y.H) (.take 0 (.take 1 (.take 2 (.take 3 (.take 4 (.take 5 (.take 6 (.take 7 (.done))))))))) (by kernel_rfl) ?_ ?_
    ·refine xn1 ?_
     intros
     erw [← g2]
     refine xn1 ?_
     intros
     exact ⟨(), ⟨rfl, rfl, rfl, rfl, rfl, rfl, rfl, rfl, rfl, rfl, trivial⟩, rfl⟩
    intro _
    refine xn1 ?_
    intros
    refine gt_i rfl rfl ?_
    refine xn ?_
    repeat' (first | exact Le.n | refine Lc.mk ?_ ?_)
    all_goals intros
    all_goals (apply nh; (unfold lkP; rw [if_neg (by omega), if_pos hk]; rfl); exact List.Sublist.refl _)
   ·have g2 := ea (i := aa (s.drop 1) 0) (t := .own 3 (.slice (some ⟨y.bt, 0, none⟩) 3 3)) (v := 2) (by rw [hb1]; exact hq) (by rw [hb1, hk]; rfl)
    refine dw_p mixed hC hGL true (fun (_ : Unit) => [(0, .own 2 (pv y.bg 0)), (1, .str (s.drop 1)), (2, .bool false), (6, .str []), (7, .int .i64 0), (8, .bool false), (9, .int .i64 0), (10, .own 4 (pv y.n1 0)), (11, .int .i64 1), (12, .int .u8 2)]) (fun _ => [x0, x1] ++ y.H) (.take 0 (.take 1 (.take 2 (.take 3 (.take 4 (.take 5 (.take 6 (.take 7 (.done))))))))) (by kernel_rfl) ?_ ?_
    ·refine xn1 ?_
     intros
     erw [← g2]
     refine xn1 ?_
     intros
     exact ⟨(), ⟨rfl, rfl, rfl, rfl, rfl, rfl, rfl, rfl, rfl, rfl, trivial⟩, rfl⟩
    intro _
    refine xn1 ?_
    intros
    refine gt_i rfl rfl ?_
    refine xn ?_
    repeat' (first | exact Le.n | refine Lc.mk ?_ ?_)
    all_goals intros
    all_goals (apply nh; (unfold lkP; rw [if_neg (by omega), if_neg (by omega), if_pos hk]; rfl); exact List.Sublist.refl _)
   ·have g2 := ea (i := aa (s.drop 1) 0) (t := .own 3 (.slice (some ⟨y.bt, 0, none⟩) 3 3)) (v := 0) (by rw [hb1]; exact hq) (by rw [hb1, hk]; rfl)
    refine dw_p mixed hC hGL true (fun (_ : Unit) => [(0, .own 2 (pv y.bg 0)), (1, .str (s.drop 1)), (2, .bool false), (6, .str []), (7, .int .i64 0), (8, .bool false), (9, .int .i64 0), (10, .own 4 (pv y.n1 0)), (11, .int .i64 1), (12, .int .u8 0)]) (fun _ => [x0, x1] ++ y.H) (.take 0 (.take 1 (.take 2 (.take 3 (.take 4 (.take 5 (.take 6 (.take 7 (.done))))))))) (by kernel_rfl) ?_ ?_
    ·refine xn1 ?_
     intros
     erw [← g2]
     refine xn1 ?_
     intros
     exact ⟨(), ⟨rfl, rfl, rfl, rfl, rfl, rfl, rfl, rfl, rfl, rfl, trivial⟩, rfl⟩
    intro _
    refine xn1 ?_
    intros
    refine gt_i rfl rfl ?_
    refine xn ?_
    repeat' (first | exact Le.n | refine Lc.mk ?_ ?_)
    all_goals intros
    all_goals (apply nh; (unfold lkP; rw [if_neg (by omega), if_neg (by omega), if_neg (by omega), if_pos hk]; rfl); exact List.Sublist.refl _)
   ·have g2 := ea (i := aa (s.drop 1) 0) (t := .own 3 (.slice (some ⟨y.bt, 0, none⟩) 3 3)) (v := 3) (by rw [hb1]; exact hq) (by rw [hb1]; unfold m2; rw [if_neg k3, if_neg k1, if_neg k2]; rfl)
    refine dw_p mixed hC hGL true (fun (_ : Unit) => [(0, .own 2 (pv y.bg 0)), (1, .str (s.drop 1)), (2, .bool false), (6, .str []), (7, .int .i64 0), (8, .bool false), (9, .int .i64 0), (10, .own 4 (pv y.n1 0)), (11, .int .i64 1), (12, .int .u8 3)]) (fun _ => [x0, x1] ++ y.H) (.take 0 (.take 1 (.take 2 (.take 3 (.take 4 (.take 5 (.take 6 (.take 7 (.done))))))))) (by kernel_rfl) ?_ ?_
    ·refine xn1 ?_
     intros
     erw [← g2]
     refine xn1 ?_
     intros
     exact ⟨(), ⟨rfl, rfl, rfl, rfl, rfl, rfl, rfl, rfl, rfl, rfl, trivial⟩, rfl⟩
    intro _
    refine xn ?_
    repeat' (first | exact Le.n | refine Lc.mk ?_ ?_)
    all_goals intros
    ·apply nh
     ·unfold lkP; rw [if_neg (by omega), if_neg k1, if_neg k2, if_neg k3]
     ·exact List.Sublist.refl _
end
section
open Go Go.RowKit
theorem iY {s : List UInt8} {i last : Nat} (h1 : last ≤ i) (h2 : i < s.length) : (s.drop last).take (i + 1 - last) = (s.drop last).take (i - last) ++ (s.drop i).take 1 := by
 rw [show i + 1 - last = (i - last) + 1 by omega, List.take_add, List.drop_drop, show last + (i - last) = i by omega]
theorem BJ {s : List UInt8} {i : Nat} (hi : i < s.length) : (∃ e : UInt8, lkP (s.drop i) = ([e], 2, true) ∧ i + 1 < s.length ∧ ((aa s (i + 1) = 94 ∧ e = 94) ∨ (aa s (i + 1) = 110 ∧ e = 10) ∨ (aa s (i + 1) = 39 ∧ e = 34))) ∨
  (lkP (s.drop i) = ([], 0, false) ∧ (s.length ≤ i + 1 ∨ (aa s (i + 1) ≠ 94 ∧ aa s (i + 1) ≠ 110 ∧ aa s (i + 1) ≠ 39))) := by
 have h1 : aa (s.drop i) 1 = aa s (i + 1) := by simp [aa]
 unfold lkP
 rw [h1, List.length_drop]
 by_cases h2 : s.length ≤ i + 1
 ·right; exact ⟨by rw [if_pos (by omega)], .inl h2⟩
 ·rw [if_neg (by omega)]
  by_cases h3 : aa s (i + 1) = 94
  ·left; exact ⟨94, by rw [if_pos h3], by omega, .inl ⟨h3, rfl⟩⟩
  ·rw [if_neg h3]
   by_cases h4 : aa s (i + 1) = 110
   ·left; exact ⟨10, by rw [if_pos h4], by omega, .inr (.inl ⟨h4, rfl⟩)⟩
   ·rw [if_neg h4]
    by_cases h5 : aa s (i + 1) = 39
    ·left; exact ⟨34, by rw [if_pos h5], by omega, .inr (.inr ⟨h5, rfl⟩)⟩
    ·rw [if_neg h5]
     right; exact ⟨rfl, .inr ⟨h3, h4, h5⟩⟩
theorem rk {s : List UInt8} {i : Nat} : aa (s.drop i) 0 = aa s i := by simp [aa]
attribute [local irreducible] AWp AOps ax OrOk ab ae
attribute [local irreducible] mapD decS
structure WrX where
 i : Nat
 last : Nat
 va : Option Addr
 vk : Nat
 vc : Nat
 b : List UInt8
abbrev wrI (bg bw : Nat) (s : List UInt8) (x : WrX) : Env := [(0, .own 2 (pv bg 0)), (2, .str s), (6, .int .i64 (x.b.length : Nat)), (7, .raw .nilIface), (8, .iface 379 (.raw (pv bw 0))), (9, .int .i64 (x.last : Nat)), (11, .bool false), (12, .int .i64 (x.i : Nat))]
abbrev wrJ (x0 x1 : HEnt) (y : DecY) (bw : Nat) (x : WrX) : Heap := [x0, x1] ++ y.H ++ [rowR (.slice x.va x.vk x.vc) x.b, wrC bw (.slice x.va x.vk x.vc)]
abbrev GE (s : List UInt8) (x : WrX) : Prop := x.i ≤ s.length + 1 ∧ x.last ≤ s.length ∧ x.last ≤ x.i ∧ x.b.length ≤ x.last ∧ x.b ++ (s.drop x.last).take (x.i - x.last) ++ decS (s.drop x.i) = decS s
theorem BV {G : Glo} (x0 x1 : HEnt) (y : DecY) (bw : Nat) (va : Option Addr) (vk vc : Nat) (s : List UInt8) (hl : s.length ≤ 1000000) :
  ae Tryz.prog G 280 [.raw (pv y.bg 0), .iface 379 (.raw (pv bw 0)), .str s] ([x0, x1] ++ y.H ++ [rowR (.slice va vk vc) [], wrC bw (.slice va vk vc)])
   (fun r H => ∃ va vk vc n, r = .ret (.tuple [.int .i64 n, .raw .nilIface]) ∧ H = [x0, x1] ++ y.H ++ [rowR (.slice va vk vc) (decS s), wrC bw (.slice va vk vc)]) := by
 have hGL : ab G [] := ad
 have e1 := F4 (G := G) (pv bw 0)
 refine fQ 2 Tryz.func280 Tryz.call280 rfl rfl rfl rfl hGL rfl ?_
 intro C hC
 refine xn1 ?_
 intros
 refine lp hC hGL (wrI y.bg bw s) (wrJ x0 x1 y bw) (GE s) (fun x => s.length + 1 - x.i) (WrX.mk 0 0 va vk vc []) ?_ aj rfl ?_
 ·refine ⟨Nat.zero_le _, Nat.zero_le _, Nat.le_refl _, Nat.le_refl _, ?_⟩
  simp
 ·rintro ⟨i, last, va, vk, vc, b⟩ ⟨h1, h2, h3, h4, h5⟩
  have h1 : i ≤ s.length + 1 := h1
  have h2 : last ≤ s.length := h2
  have h3 : last ≤ i := h3
  have h4 : b.length ≤ last := h4
  have h5 : b ++ (s.drop last).take (i - last) ++ decS (s.drop i) = decS s := h5
  rcases (show i < s.length ∨ i = s.length ∨ i = s.length + 1 by omega) with hi | rfl | rfl
  ·have g0 := aX s i
   have q3 : ct (.slice (some ⟨y.bt, 0, none⟩) 3 3) y.bt 3 := ⟨_, rfl⟩
   rcases (show aa s i = 94 ∨ aa s i = 110 ∨ aa s i = 39 ∨ (aa s i ≠ 94 ∧ aa s i ≠ 110 ∧ aa s i ≠ 39) by omega) with hk | hk | hk | ⟨k1, k2, k3⟩
   ·have g := ea (i := aa s i) (t := .own 3 (.slice (some ⟨y.bt, 0, none⟩) 3 3)) (v := 1) g0 (by rw [hk]; rfl)
    refine xn1 ?_
    intros
    refine dw_p mixed hC hGL true (fun (_ : Unit) => wrI y.bg bw s ⟨i, last, va, vk, vc, b⟩ ++ [(13, .int .i64 1)]) (fun _ => wrJ x0 x1 y bw ⟨i, last, va, vk, vc, b⟩) (.take 0 (.take 1 (.take 2 (.take 3 (.take 4 (.take 5 (.take 6 (.take 7 (.take 8 (.take 9 (.done))))))))))) (by kernel_rfl) ?_ ?_
    ·refine xn1 ?_
     intros
     erw [← g]
     refine xn1 ?_
     intros
     exact ⟨(), ⟨rfl, rfl, rfl, rfl, rfl, rfl, rfl, rfl, rfl, trivial⟩, rfl⟩
    intro _
    refine xn1 ?_
    intros
    refine gt_i rfl rfl ?_
    refine xn1 ?_
    intros
    have e2 := nK (G := G) x0 x1 y (s.drop i) (by rw [List.length_drop]; omega) (.inr (rk.trans hk))
    rcases BJ hi with ⟨e, ek, hi2, he⟩ | ⟨ek, hn⟩
    ·rw [ek] at e2
     refine ⟨_, cf [_, _] e2, ?_, ?_⟩
     ·rintro v H ⟨H1, ⟨e, rfl⟩, rfl⟩
      cases e
      refine xn1 ?_
      intros
      have w1 : ((s.take i).drop last).length = i - last := by rw [List.length_drop, List.length_take, Nat.min_eq_left (by omega)]
      refine dw_p mixed hC hGL false (fun (_ : Option Addr × Nat × Nat) => [(0, .own 2 (pv y.bg 0)), (2, .str s), (6, .int .i64 (b.length : Nat)), (7, .raw .nilIface), (8, .iface 379 (.raw (pv bw 0))), (9, .int .i64 (last : Nat)), (10, .int .i64 (((s.take i).drop last).length : Nat)), (11, .bool (eqB 2 0)), (12, .int .i64 (i : Nat)), (14, .str [e]), (15, .int .i64 2)]) (fun z => [x0, x1] ++ y.H ++ [rowR (.slice z.1 z.2.1 z.2.2) (b ++ (s.take i).drop last), wrC bw (.slice z.1 z.2.1 z.2.2)]) (.take 0 (.take 1 (.take 2 (.take 3 (.take 4 (.br 5 (.br 6 (.take 7 (.br 8 (.take 9 (.take 10 (.take 11 (.take 12 (.take 13 (.done)))))) (.nil))) (.nil)) (.nil))))))) (by kernel_rfl) ?_ ?_
      ·repeat' (first | (conv => whnf); first | refine .w ?_ | refine Ix.v ?_ | refine Sd.v ?_ | refine Sl.v ?_ | apply am | refine sc_d ?_ ?_ <;> (intro hb; try exact dd hb) | apply ah | (apply sc_i <;> intro hb) | (apply bx_i; intro hbd) | (apply ak; first | fail) | (apply ab_i; intro bl) | exact rt_w | exact True.intro | (apply bc_i; intro C hC) | apply bt_i | apply og_n | (apply og_a; exact rfl))
       all_goals try conv => whnf
       refine bF hC hGL (gx rfl (ES bw)) rfl rfl ?_
       refine xn1 ?_
       intros
       refine iv 288 _ (BC _) ⟨_, lO (G := G) x0 x1 _ _ _ _ _ _ _ bw (.slice va vk vc) b ((s.take i).drop last) (by omega), ?_, ?_⟩
       ·rintro v H ⟨va2, vk2, vc2, e, rfl⟩
        cases e
        refine xn1 ?_
        intros
        exact ⟨(va2, vk2, vc2), ⟨rfl, rfl, rfl, rfl, rfl, rfl, rfl, rfl, rfl, rfl, rfl, trivial⟩, rfl⟩
       ·rintro v H ⟨va2, vk2, vc2, e, rfl⟩
        cases e
      rintro ⟨va2, vk2, vc2⟩
      refine xn1 ?_
      intros
      refine iv 288 _ (BC _) ⟨_, lO (G := G) x0 x1 _ _ _ _ _ _ _ bw (.slice va2 vk2 vc2) (b ++ (s.take i).drop last) [e] (by rw [List.length_append, w1]; show b.length + (i - last) + 1 ≤ _; omega), ?_, ?_⟩
      ·rintro v H ⟨va3, vk3, vc3, e, rfl⟩
       cases e
       refine xn1 ?_
       intros
       refine nxt ⟨i + 2, i + 2, va3, vk3, vc3, b ++ (s.take i).drop last ++ [e]⟩ ?_ ?_ ⟨rfl, rfl, ?_, rfl, rfl, rfl, ?_, rfl, trivial⟩ rfl
       ·refine ⟨(show i + 2 ≤ s.length + 1 by omega), (show i + 2 ≤ s.length by omega), Nat.le_refl _, ?_, ?_⟩
        ·show (b ++ (s.take i).drop last ++ [e]).length ≤ i + 2
         rw [List.length_append, List.length_append, w1, List.length_singleton]; omega
        ·show b ++ (s.take i).drop last ++ [e] ++ (s.drop (i + 2)).take (i + 2 - (i + 2)) ++ decS (s.drop (i + 2)) = decS s
         rw [← h5, mJ hi2 hk he, Nat.sub_self, List.take_zero, List.drop_take]
         simp only [List.append_assoc, List.append_nil, List.nil_append, List.cons_append]
       ·show s.length + 1 - (i + 2) < s.length + 1 - i; omega
       ·show some (AVal.int .i64 _) = some (AVal.int .i64 ((b ++ (s.take i).drop last ++ [e]).length : Nat))
        rw [List.length_append, List.length_append, Int.natCast_add, Int.natCast_add]
       ·show some (AVal.bool (eqB 2 0)) = some (AVal.bool false)
        rw [oe.2 (by decide : (2 : Int) ≠ 0)]
      ·rintro v H ⟨va3, vk3, vc3, e, rfl⟩
       cases e
     ·rintro v H ⟨H1, ⟨e, rfl⟩, rfl⟩
      cases e
    ·rw [ek] at e2
     refine ⟨_, cf [_, _] e2, ?_, ?_⟩
     ·rintro v H ⟨H1, ⟨e, rfl⟩, rfl⟩
      cases e
      refine xn1 ?_
      intros
      refine nxt (WrX.mk (i + 1) last va vk vc b) ?_ ?_ aj rfl
      ·refine ⟨(show i + 1 ≤ s.length + 1 by omega), h2, (show last ≤ i + 1 by omega), h4, ?_⟩
       show b ++ (s.drop last).take (i + 1 - last) ++ decS (s.drop (i + 1)) = decS s
       rw [← h5, iY h3 hi, g8 hi (.inr hn)]
       simp only [List.append_assoc]
      ·show s.length + 1 - (i + 1) < s.length + 1 - i; omega
     ·rintro v H ⟨H1, ⟨e, rfl⟩, rfl⟩
      cases e
   ·have g := ea (i := aa s i) (t := .own 3 (.slice (some ⟨y.bt, 0, none⟩) 3 3)) (v := 2) g0 (by rw [hk]; rfl)
    refine xn1 ?_
    intros
    refine dw_p mixed hC hGL true (fun (_ : Unit) => wrI y.bg bw s ⟨i, last, va, vk, vc, b⟩ ++ [(13, .int .i64 2)]) (fun _ => wrJ x0 x1 y bw ⟨i, last, va, vk, vc, b⟩) (.take 0 (.take 1 (.take 2 (.take 3 (.take 4 (.take 5 (.take 6 (.take 7 (.take 8 (.take 9 (.done))))))))))) (by kernel_rfl) ?_ ?_
    ·refine xn1 ?_
     intros
     erw [← g]
     refine xn1 ?_
     intros
     exact ⟨(), ⟨rfl, rfl, rfl, rfl, rfl, rfl, rfl, rfl, rfl, trivial⟩, rfl⟩
    intro _
    refine xn1 ?_
    intros
    refine gt_i rfl rfl ?_
    refine xn1 ?_
    intros
    refine nxt (WrX.mk (i + 1) last va vk vc b) ?_ ?_ aj rfl
    ·refine ⟨(show i + 1 ≤ s.length + 1 by omega), h2, (show last ≤ i + 1 by omega), h4, ?_⟩
     show b ++ (s.drop last).take (i + 1 - last) ++ decS (s.drop (i + 1)) = decS s
     rw [← h5, iY h3 hi, g8 hi (.inl (by omega))]
     simp only [List.append_assoc]
    ·show s.length + 1 - (i + 1) < s.length + 1 - i; omega
   ·have g := ea (i := aa s i) (t := .own 3 (.slice (some ⟨y.bt, 0, none⟩) 3 3)) (v := 0) g0 (by rw [hk]; rfl)
    refine xn1 ?_
    intros
    refine dw_p mixed hC hGL true (fun (_ : Unit) => wrI y.bg bw s ⟨i, last, va, vk, vc, b⟩ ++ [(13, .int .i64 0)]) (fun _ => wrJ x0 x1 y bw ⟨i, last, va, vk, vc, b⟩) (.take 0 (.take 1 (.take 2 (.take 3 (.take 4 (.take 5 (.take 6 (.take 7 (.take 8 (.take 9 (.done))))))))))) (by kernel_rfl) ?_ ?_
    ·refine xn1 ?_
     intros
     erw [← g]
     refine xn1 ?_
     intros
     exact ⟨(), ⟨rfl, rfl, rfl, rfl, rfl, rfl, rfl, rfl, rfl, trivial⟩, rfl⟩
    intro _
    refine xn1 ?_
    intros
    refine gt_i rfl rfl ?_
    refine xn1 ?_
    intros
    refine nxt (WrX.mk (i + 1) last va vk vc b) ?_ ?_ aj rfl
    ·refine ⟨(show i + 1 ≤ s.length + 1 by omega), h2, (show last ≤ i + 1 by omega), h4, ?_⟩
     show b ++ (s.drop last).take (i + 1 - last) ++ decS (s.drop (i + 1)) = decS s
     rw [← h5, iY h3 hi, g8 hi (.inl (by omega))]
     simp only [List.append_assoc]
    ·show s.length + 1 - (i + 1) < s.length + 1 - i; omega
   ·have g := ea (i := aa s i) (t := .own 3 (.slice (some ⟨y.bt, 0, none⟩) 3 3)) (v := 3) g0 (by unfold m2; rw [if_neg k3, if_neg k1, if_neg k2]; rfl)
    refine xn1 ?_
    intros
    refine dw_p mixed hC hGL true (fun (_ : Unit) => wrI y.bg bw s ⟨i, last, va, vk, vc, b⟩ ++ [(13, .int .i64 3)]) (fun _ => wrJ x0 x1 y bw ⟨i, last, va, vk, vc, b⟩) (.take 0 (.take 1 (.take 2 (.take 3 (.take 4 (.take 5 (.take 6 (.take 7 (.take 8 (.take 9 (.done))))))))))) (by kernel_rfl) ?_ ?_
    ·refine xn1 ?_
     intros
     erw [← g]
     refine xn1 ?_
     intros
     exact ⟨(), ⟨rfl, rfl, rfl, rfl, rfl, rfl, rfl, rfl, rfl, trivial⟩, rfl⟩
    intro _
    refine xn1 ?_
    intros
    refine nxt (WrX.mk (i + 1) last va vk vc b) ?_ ?_ aj rfl
    ·refine ⟨(show i + 1 ≤ s.length + 1 by omega), h2, (show last ≤ i + 1 by omega), h4, ?_⟩
     show b ++ (s.drop last).take (i + 1 - last) ++ decS (s.drop (i + 1)) = decS s
     rw [← h5, iY h3 hi, g8 hi (.inl k1)]
     simp only [List.append_assoc]
    ·show s.length + 1 - (i + 1) < s.length + 1 - i; omega
  ·have e2 := nK (G := G) x0 x1 y (s.drop s.length) (by rw [List.length_drop]; omega) (.inl (by rw [List.length_drop]; omega))
   rw [show lkP (s.drop s.length) = ([], 0, false) by unfold lkP; rw [if_pos (by rw [List.length_drop]; omega)]] at e2
   refine xn1 ?_
   intros
   refine ⟨_, cf [_, _] e2, ?_, ?_⟩
   ·rintro v H ⟨H1, ⟨e, rfl⟩, rfl⟩
    cases e
    refine xn1 ?_
    intros
    refine nxt (WrX.mk (s.length + 1) last va vk vc b) ?_ ?_ aj rfl
    ·refine ⟨Nat.le_refl _, h2, (show last ≤ s.length + 1 by omega), h4, ?_⟩
     show b ++ (s.drop last).take (s.length + 1 - last) ++ decS (s.drop (s.length + 1)) = decS s
     rw [← h5, List.drop_eq_nil_of_le (by omega : s.length ≤ s.length + 1), List.drop_eq_nil_of_le (Nat.le_refl s.length), List.take_of_length_le (by rw [List.length_drop]; omega), List.take_of_length_le (by rw [List.length_drop]; omega)]
    ·show s.length + 1 - (s.length + 1) < s.length + 1 - s.length; omega
   ·rintro v H ⟨H1, ⟨e, rfl⟩, rfl⟩
    cases e
  ·have h6 : b ++ s.drop last = decS s := by
    rw [← h5, List.drop_eq_nil_of_le (by omega : s.length ≤ s.length + 1), List.take_of_length_le (by rw [List.length_drop]; omega), tN, List.append_nil]
   refine xn ?_
   repeat' (first | exact Le.n | refine Lc.mk ?_ ?_)
   all_goals intros
   ·refine dw_p mixed hC hGL false (fun (_ : Option Addr × Nat × Nat) => [(6, .int .i64 (b.length : Nat)), (7, .raw .nilIface), (10, .int .i64 ((s.drop last).length : Nat))]) (fun z => [x0, x1] ++ y.H ++ [rowR (.slice z.1 z.2.1 z.2.2) (b ++ s.drop last), wrC bw (.slice z.1 z.2.1 z.2.2)]) (.take 0 (.take 1 (.take 2 (.take 3 (.br 4 (.br 5 (.take 6 (.br 7 (.take 8 (.take 9 (.take 10 (.take 11 (.take 12 (.done)))))) (.nil))) (.nil)) (.nil)))))) (by kernel_rfl) ?_ ?_
    ·repeat' (first | (conv => whnf); first | refine .w ?_ | refine Ix.v ?_ | refine Sd.v ?_ | refine Sl.v ?_ | apply am | refine sc_d ?_ ?_ <;> (intro hb; try exact dd hb) | apply ah | (apply sc_i <;> intro hb) | (apply bx_i; intro hbd) | (apply ak; first | fail) | (apply ab_i; intro bl) | exact rt_w | exact True.intro | (apply bc_i; intro C hC) | apply bt_i | apply og_n | (apply og_a; exact rfl))
     all_goals try conv => whnf
     refine bF hC hGL (gx rfl (ES bw)) rfl rfl ?_
     refine xn1 ?_
     intros
     refine iv 288 _ (BC _) ⟨_, lO (G := G) x0 x1 _ _ _ _ _ _ _ bw (.slice va vk vc) b (s.drop last) (by rw [List.length_drop]; omega), ?_, ?_⟩
     ·rintro v H ⟨va2, vk2, vc2, e, rfl⟩
      cases e
      refine xn1 ?_
      intros
      exact ⟨(va2, vk2, vc2), ⟨rfl, rfl, rfl, trivial⟩, rfl⟩
     ·rintro v H ⟨va2, vk2, vc2, e, rfl⟩
      cases e
    rintro ⟨va2, vk2, vc2⟩
    have h7 := congrArg List.length h6
    rw [List.length_append, List.length_drop] at h7
    have h8 : (s.drop last).length = s.length - last := List.length_drop
    refine xn ?_
    repeat' (first | exact Le.n | refine Lc.mk ?_ ?_)
    all_goals intros
    all_goals exact ⟨_, List.Sublist.refl _, va2, vk2, vc2, _, rfl, by rw [h6]⟩
   ·have hb2 : ((last : Nat) : Int) = (s.length : Nat) := by assumption
    have h9 : last = s.length := by omega
    subst h9
    rw [List.drop_eq_nil_of_le (Nat.le_refl _), List.append_nil] at h6
    subst h6
    exact ⟨_, List.Sublist.refl _, va, vk, vc, _, rfl, rfl⟩
end
section
open Go Go.RowKit
attribute [local irreducible] AWp AOps ax OrOk ab ae
attribute [local irreducible] mapD decS
theorem vT {G : Glo} (x0 x1 : HEnt) (y : DecY) (s : List UInt8) (hl : s.length ≤ 1000000) :
  ae Tryz.prog G 279 [.raw (pv y.bg 0), .str s] ([x0, x1] ++ y.H) (fun r H => r = .ret (.str (decS s)) ∧ H = []) := by
 have hGL : ab G [] := ad
 refine fQ 2 Tryz.func279 Tryz.call279 rfl rfl rfl rfl hGL rfl ?_
 intro C hC
 refine xn1 ?_
 intros
 refine ze (m := s.length) hC hGL rfl rfl (by omega) rfl rfl rfl rfl rfl rfl rfl (fun bs => ?_)
 refine xn1 ?_
 intros
 rename Nat => bw
 refine ⟨_, BV x0 x1 y bw (some ⟨bs, 0, none⟩) 0 s.length s hl, ?_, ?_⟩
 ·rintro v H ⟨va, vk, vc, n, e, rfl⟩
  cases e
  refine xn1 ?_
  intros
  rcases va with _ | ⟨b9, _ | o9, _ | d9⟩
  all_goals (conv => whnf)
  all_goals refine bF hC hGL (sb (i := 9) rfl rfl rfl rfl rfl rfl rfl rfl) rfl rfl ?_
  all_goals (conv => whnf)
  all_goals (apply ar; exact rfl)
 ·rintro v H ⟨va, vk, vc, n, e, rfl⟩
  cases e
theorem m_gr (a : AVal) : ∀ R v, Rel R a v → ∀ w, ∃ u, (Go.method (Tryz.prog.types.size + Made.depth) 315 v "Replace").run Tryz.prog w = .ok (279, u) w ∧ Rel R a u := by
 intro R v hv w
 exact ⟨v, by kernel_rfl, hv⟩
theorem sw {G : Glo} (br bl vc : Nat) (s : List UInt8) (hl : s.length ≤ 1000000) :
  ae Tryz.prog G 169 [.raw (pv bl 0), .str s] [decR br vc, .cells bl (some 280) (hO (.slice (some ⟨br, 0, none⟩) 6 vc))] (fun r H => r = .ret (.str (decS s)) ∧ H = []) := by
 have hGL : ab G [] := ad
 have e1 := Gc (G := G) br bl vc
 refine fQ 1 Tryz.func169 Tryz.call169 rfl rfl rfl rfl hGL rfl ?_
 intro C hC
 refine xn1 ?_
 intros
 refine ⟨_, e1, ?_, fun v' H' ⟨y, e, _⟩ => by cases e⟩
 rintro v' H' ⟨y, e, rfl⟩
 cases e
 have e3 := vT (G := G) (decR br vc) (.cells bl (some 280) (decB y)) y s hl
 refine xn1 ?_
 intros
 refine iv 279 (.raw (pv y.bg 0)) (m_gr _) (Cl e3 ?_)
 exact xn0
theorem rj {G : Glo} (s : List UInt8) (hl : s.length ≤ 1000000) : FnIs Tryz.prog G 129 [.str s] (.str (decS s)) := by
 have hGL : ab G [] := ad
 refine fn_x Tryz.func129 Tryz.call129 rfl rfl rfl rfl hGL ?_
 intro C hC
 refine xn1 ?_
 intros
 refine ⟨_, mr 6 _ (by decide) (by decide) ?_, ?_, ?_⟩
 ·unfold ax
  exact iZ rfl
 ·rintro v H' ⟨bl, va, vk, vc, hva, e, rfl⟩
  cases e
  obtain ⟨br, rfl, rfl⟩ := hva (by omega)
  have e2 := sw (G := G) br bl vc s hl
  refine xn1 ?_
  intros
  refine Cl e2 ?_
  exact xn0
 ·rintro v H' ⟨bl, va, vk, vc, hva, e, rfl⟩
  cases e
end
end Go.Proofs.YtkelbglfhigmiaaGreatDoor
