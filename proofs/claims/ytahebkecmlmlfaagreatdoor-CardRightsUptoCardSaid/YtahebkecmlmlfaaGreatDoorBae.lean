/- Parts of the proof of prints_root: Wk, Esn, Def, Deg, Deh, Syn, Onc, Ond, Mak, Cpy, Rpl, Rpm, Rpn, Wm, Esl. -/
import Derived.Defers
import Derived.Recover
import Derived.Laws.LoneSync
import Derived.Laws.MakeOwn
import Derived.Laws.IdiomCopy
import Derived.Test.YtahebkecmlmlfaaGreatDoorBad
set_option linter.unusedVariables false
set_option linter.unusedSimpArgs false
set_option linter.unusedSectionVars false
namespace Go.Proofs.YtahebkecmlmlfaaGreatDoor
set_option maxRecDepth 20000
set_option maxHeartbeats 4000000
section
open Go
structure Lf (Q : Prop) : Prop where
 h : Q
structure Lc (a b : Prop) : Prop where
 l : a
 r : b
inductive Le : Prop
 | n
inductive Lz : Prop → Prop
 | n : Lz Le
 | c {a b : Prop} : Lz b → Lz (Lc a b)
theorem Lf.l {a b : Prop} (q : Lf (Lc a b)) : a := q.h.l
theorem Lf.r {a b : Prop} (q : Lf (Lc a b)) : Lf b := ⟨q.h.r⟩
structure Ct (I : Env) (J : Heap) (p : Prop) (e : Env) (h : Heap) : Prop where
 p : p
 s : Env.sub e I
 j : h = J
theorem Ct.w {I : Env} {J : Heap} {p : Prop} {e : Env} {h : Heap} (hp : p := by first | exact True.intro | assumption | omega) (hs : Env.sub e I := by repeat (first | exact trivial | refine And.intro rfl ?_)) (hj : h = J := by rfl) : Ct I J p e h := ⟨hp, hs, hj⟩
structure Cy {X : Type} (I : X → Env) (J : X → Heap) (Inv : X → Prop) (e : Env) (h : Heap) : Prop where
 h : ∃ x, Inv x ∧ Env.sub e (I x) ∧ h = J x
theorem cy {X : Type} {I : X → Env} {J : X → Heap} {Inv : X → Prop} {e : Env} {h : Heap} (x : X) (hp : Inv x) (hs : Env.sub e (I x) := by repeat (first | exact trivial | refine And.intro rfl ?_)) (hj : h = J x := by rfl) : Cy I J Inv e h := ⟨⟨x, hp, hs, hj⟩⟩
section
variable {P : Program} [Tab P] {C : Ctx} {n : Nat} {G : Glo} {GL : List (Nat × List AVal)} {env : Env} {H : Heap} {Q : AExit → Env → Heap → Prop}
theorem fn_a {f : FuncId} {fn : Func} {c : Code} {avs : List AVal} {Qf : ARes → Heap → Prop} {rs : List ResultVar} (hf : P.funcs[f]? = some fn)
  (hc : ∀ args w, (callFunc f args).run P w = .ok (.enter f args) w) (hb : fn.body = some c) (hn : fn.ntmps = n) (hrs : fn.results = rs.toArray) (hlen : Nat.ble avs.length n = true)
  (h : ∀ C : Ctx, C.G = G → AWp P C n c (cX 0 avs) H (RetX P rs Qf)) : ae P G f avs H Qf :=
 la hf hb hc hn hrs hlen fun w0 R0 hG => (h ⟨w0, R0, blks H, G, hG, []⟩ rfl).mono fun _ _ _ q => fI q
theorem bw {c : Code} (hC : C.G = G) (hGL : ad G GL) (h : dA P C n G GL c env H Q) : AWp P C n c env H Q := bJ hC hGL _ _ _ _ h
theorem cuty {a b : Code} {X : Type} (hC : C.G = G) (hGL : ad G GL) (I : X → Env) (J : X → Heap) (Inv : X → Prop) (h1 : dA P C n G GL a env H (dV (fun e h => Cy I J Inv e h) Q)) (h2 : ∀ x, Inv x → AWp P C n b (I x) (J x) Q) : AWp P C n (.seq a b) env H Q :=
 iU ((bJ hC hGL _ _ _ _ h1).mono fun x e h q => by
  cases x with
  | normal =>
   obtain ⟨y, hy, hs, rfl⟩ := q.h
   exact DB hs (h2 y hy)
  | exit i => exact q
  | goto i => exact q
  | ret => exact q
  | panic v => exact q)
theorem cut {a b : Code} (hC : C.G = G) (hGL : ad G GL) (I : Env) (J : Heap) (p : Prop) (h1 : dA P C n G GL a env H (dV (fun e h => Ct I J p e h) Q)) (h2 : p → AWp P C n b I J Q) : AWp P C n (.seq a b) env H Q :=
 iU ((bJ hC hGL _ _ _ _ h1).mono fun x e h q => by
  cases x with
  | normal =>
   obtain ⟨hp, hs, rfl⟩ := q
   exact DB hs (h2 hp)
  | exit i => exact q
  | goto i => exact q
  | ret => exact q
  | panic v => exact q)
end
theorem xw0 {P : Prop} (h : P := by
  repeat' (first
   | (conv => whnf); first
    | refine .w ?_ | refine .v ?_ | apply cO | apply aW
    | (first | apply kB | apply gD | apply kC | apply gF | apply gE | apply ew | apply gC | apply eu) <;> (intro wb; try exact dd wb)
    | apply an | apply az | (apply sc_i <;> intro wb)
    | (apply bx_i; intro wb) | (apply gt_i; assumption; exact rfl)
    | (apply ar; first | assumption | (apply k1 <;> omega) | (apply k2 <;> omega) | (apply k3 <;> omega)) | (apply ap (i := 0) rfl; assumption) | (apply ap (i := 1) rfl; assumption) | (apply ap (i := 2) rfl; assumption)
    | (apply ab_i; intro wl) | (apply as_i; intro wa wk wc wh) | (apply av_i; intro wv) | (apply ac_i; intro wl wq wb)
    | apply bo_l | (apply nx_i <;> intro wb) | (apply Ia.hit; assumption) | (apply Ia.miss; assumption)
    | (apply aj; exact rfl) | exact rt_w | exact Ct.w | (apply iv; assumption)
    | exact True.intro | (apply bc_i; intro wC whC) | apply bt_i | apply og_n | (apply og_a; exact rfl) | apply dw_q mixed whC hGL (by kernel_rfl) | apply dw_q mixed hC hGL (by kernel_rfl) | (apply cq; assumption; (first | assumption | (apply k1 <;> omega) | (apply k2 <;> omega)); exact rfl))
  all_goals (try conv => whnf)) : P := h
theorem xw1 {P Q : Prop} (hQ : Q) (h : Lf Q → P := by
  intro ww
  repeat' (first
   | (conv => whnf); first
    | refine .w ?_ | refine .v ?_ | apply cO | apply aW
    | (first | apply kB | apply gD | apply kC | apply gF | apply gE | apply ew | apply gC | apply eu) <;> (intro wb; try exact dd wb)
    | apply an | apply az | (apply sc_i <;> intro wb)
    | (apply bx_i; intro wb) | (apply gt_i; assumption; exact rfl)
    | (apply ar; first | assumption | (apply k1 <;> omega) | (apply k2 <;> omega) | (apply k3 <;> omega)) | (apply ap (i := 0) rfl; assumption) | (apply ap (i := 1) rfl; assumption) | (apply ap (i := 2) rfl; assumption)
    | (apply ab_i; intro wl) | (apply as_i; intro wa wk wc wh) | (apply av_i; intro wv) | (apply ac_i; intro wl wq wb)
    | apply bo_l | (apply nx_i <;> intro wb) | (apply Ia.hit; assumption) | (apply Ia.miss; assumption)
    | (apply aj; exact rfl) | exact rt_w | exact Ct.w | (apply iv; assumption)
    | exact True.intro | (apply bc_i; intro wC whC) | apply bt_i | apply og_n | (apply og_a; exact rfl) | apply dw_q mixed whC hGL (by kernel_rfl) | apply dw_q mixed hC hGL (by kernel_rfl) | (apply cq; assumption; (first | assumption | (apply k1 <;> omega) | (apply k2 <;> omega)); exact rfl))
  all_goals (try conv => whnf)
  all_goals (repeat (first | revert wb | revert wh | revert wc | revert wk | revert wa | revert wq | revert wl | revert wv | revert whC | revert wC))
  all_goals (apply Lf.h; apply ww)) : P := h ⟨hQ⟩
theorem xw {P Q : Prop} (hQ : Q) (h : Lf Q → P := by
  intro ww
  repeat' (first
   | (conv => whnf); first
    | refine .w ?_ | refine .v ?_ | apply cO | apply aW
    | (first | apply kB | apply gD | apply kC | apply gF | apply gE | apply ew | apply gC | apply eu) <;> (intro wb; try exact dd wb)
    | apply an | apply az | (apply sc_i <;> intro wb)
    | (apply bx_i; intro wb) | (apply gt_i; assumption; exact rfl)
    | (apply ar; first | assumption | (apply k1 <;> omega) | (apply k2 <;> omega) | (apply k3 <;> omega)) | (apply ap (i := 0) rfl; assumption) | (apply ap (i := 1) rfl; assumption) | (apply ap (i := 2) rfl; assumption)
    | (apply ab_i; intro wl) | (apply as_i; intro wa wk wc wh) | (apply av_i; intro wv) | (apply ac_i; intro wl wq wb)
    | apply bo_l | (apply nx_i <;> intro wb) | (apply Ia.hit; assumption) | (apply Ia.miss; assumption)
    | (apply aj; exact rfl) | exact rt_w | exact Ct.w | (apply iv; assumption)
    | exact True.intro | (apply bc_i; intro wC whC) | apply bt_i | apply og_n | (apply og_a; exact rfl) | apply dw_q mixed whC hGL (by kernel_rfl) | apply dw_q mixed hC hGL (by kernel_rfl) | (apply cq; assumption; (first | assumption | (apply k1 <;> omega) | (apply k2 <;> omega)); exact rfl))
  all_goals (try conv => whnf)
  all_goals (repeat (first | revert wb | revert wh | revert wc | revert wk | revert wa | revert wq | revert wl | revert wv | revert whC | revert wC))
  all_goals (apply Lf.l; with_reducible (repeat (first | apply ww | apply Lf.r)))) (e : Lz Q := by repeat (first | exact Lz.n | apply Lz.c)) : P := h ⟨hQ⟩
theorem xn0 {P : Prop} (h : P := by
  repeat' (first
   | (conv => whnf); first
    | refine .w ?_ | refine .v ?_ | apply cO | apply aW
    | (first | apply kB | apply gD | apply kC | apply gF | apply gE | apply ew | apply gC | apply eu) <;> (intro wb; try exact dd wb)
    | apply an | apply az | (apply sc_i <;> intro wb)
    | (apply bx_i; intro wb) | (apply gt_i; assumption; exact rfl)
    | (apply ar; first | assumption | (apply k1 <;> omega) | (apply k2 <;> omega) | (apply k3 <;> omega)) | (apply ap (i := 0) rfl; assumption) | (apply ap (i := 1) rfl; assumption) | (apply ap (i := 2) rfl; assumption)
    | (apply ab_i; intro wl) | (apply as_i; intro wa wk wc wh) | (apply av_i; intro wv) | (apply ac_i; intro wl wq wb)
    | apply bo_l | (apply nx_i <;> intro wb) | (apply Ia.hit; assumption) | (apply Ia.miss; assumption)
    | (apply aj; exact rfl) | exact rt_w | exact Ct.w | (apply iv; assumption)
    | exact True.intro | (apply bc_i; intro wC whC) | apply bt_i | apply og_n | (apply og_a; exact rfl))
  all_goals (try conv => whnf)) : P := h
theorem xn1 {P Q : Prop} (hQ : Q) (h : Lf Q → P := by
  intro ww
  repeat' (first
   | (conv => whnf); first
    | refine .w ?_ | refine .v ?_ | apply cO | apply aW
    | (first | apply kB | apply gD | apply kC | apply gF | apply gE | apply ew | apply gC | apply eu) <;> (intro wb; try exact dd wb)
    | apply an | apply az | (apply sc_i <;> intro wb)
    | (apply bx_i; intro wb) | (apply gt_i; assumption; exact rfl)
    | (apply ar; first | assumption | (apply k1 <;> omega) | (apply k2 <;> omega) | (apply k3 <;> omega)) | (apply ap (i := 0) rfl; assumption) | (apply ap (i := 1) rfl; assumption) | (apply ap (i := 2) rfl; assumption)
    | (apply ab_i; intro wl) | (apply as_i; intro wa wk wc wh) | (apply av_i; intro wv) | (apply ac_i; intro wl wq wb)
    | apply bo_l | (apply nx_i <;> intro wb) | (apply Ia.hit; assumption) | (apply Ia.miss; assumption)
    | (apply aj; exact rfl) | exact rt_w | exact Ct.w | (apply iv; assumption)
    | exact True.intro | (apply bc_i; intro wC whC) | apply bt_i | apply og_n | (apply og_a; exact rfl))
  all_goals (try conv => whnf)
  all_goals (repeat (first | revert wb | revert wh | revert wc | revert wk | revert wa | revert wq | revert wl | revert wv | revert whC | revert wC))
  all_goals (apply Lf.h; apply ww)) : P := h ⟨hQ⟩
theorem xn {P Q : Prop} (hQ : Q) (h : Lf Q → P := by
  intro ww
  repeat' (first
   | (conv => whnf); first
    | refine .w ?_ | refine .v ?_ | apply cO | apply aW
    | (first | apply kB | apply gD | apply kC | apply gF | apply gE | apply ew | apply gC | apply eu) <;> (intro wb; try exact dd wb)
    | apply an | apply az | (apply sc_i <;> intro wb)
    | (apply bx_i; intro wb) | (apply gt_i; assumption; exact rfl)
    | (apply ar; first | assumption | (apply k1 <;> omega) | (apply k2 <;> omega) | (apply k3 <;> omega)) | (apply ap (i := 0) rfl; assumption) | (apply ap (i := 1) rfl; assumption) | (apply ap (i := 2) rfl; assumption)
    | (apply ab_i; intro wl) | (apply as_i; intro wa wk wc wh) | (apply av_i; intro wv) | (apply ac_i; intro wl wq wb)
    | apply bo_l | (apply nx_i <;> intro wb) | (apply Ia.hit; assumption) | (apply Ia.miss; assumption)
    | (apply aj; exact rfl) | exact rt_w | exact Ct.w | (apply iv; assumption)
    | exact True.intro | (apply bc_i; intro wC whC) | apply bt_i | apply og_n | (apply og_a; exact rfl))
  all_goals (try conv => whnf)
  all_goals (repeat (first | revert wb | revert wh | revert wc | revert wk | revert wa | revert wq | revert wl | revert wv | revert whC | revert wC))
  all_goals (apply Lf.l; with_reducible (repeat (first | apply ww | apply Lf.r)))) (e : Lz Q := by repeat (first | exact Lz.n | apply Lz.c)) : P := h ⟨hQ⟩
theorem xb1 {P Q : Prop} (hQ : Q) (h : Lf Q → P := by
  intro ww
  repeat' (first
   | (conv => whnf); first
    | refine .w ?_ | refine .v ?_ | apply cO | apply aW
    | (first | apply kB | apply gD | apply kC | apply gF | apply gE | apply ew | apply gC | apply eu) <;> (intro wb; try exact dd wb)
    | apply an | apply az | (apply sc_i <;> intro wb)
    | (apply bx_i; intro wb) | (apply gt_i; assumption; exact rfl)
    | (apply ar; first | assumption | (apply k1 <;> omega) | (apply k2 <;> omega) | (apply k3 <;> omega)) | (apply ap (i := 0) rfl; assumption) | (apply ap (i := 1) rfl; assumption) | (apply ap (i := 2) rfl; assumption)
    | (apply ab_i; intro wl) | (apply as_i; intro wa wk wc wh) | (apply av_i; intro wv) | (apply ac_i; intro wl wq wb)
    | apply bo_r | (apply nx_i <;> intro wb) | (apply Ia.hit; assumption) | (apply Ia.miss; assumption)
    | (apply aj; exact rfl) | exact rt_w | exact Ct.w | (apply iv; assumption)
    | exact True.intro | (apply bc_i; intro wC whC) | apply bt_i | apply og_n | (apply og_a; exact rfl))
  all_goals (try conv => whnf)
  all_goals (repeat (first | revert wb | revert wh | revert wc | revert wk | revert wa | revert wq | revert wl | revert wv | revert whC | revert wC))
  all_goals (apply Lf.h; apply ww)) : P := h ⟨hQ⟩
theorem xb {P Q : Prop} (hQ : Q) (h : Lf Q → P := by
  intro ww
  repeat' (first
   | (conv => whnf); first
    | refine .w ?_ | refine .v ?_ | apply cO | apply aW
    | (first | apply kB | apply gD | apply kC | apply gF | apply gE | apply ew | apply gC | apply eu) <;> (intro wb; try exact dd wb)
    | apply an | apply az | (apply sc_i <;> intro wb)
    | (apply bx_i; intro wb) | (apply gt_i; assumption; exact rfl)
    | (apply ar; first | assumption | (apply k1 <;> omega) | (apply k2 <;> omega) | (apply k3 <;> omega)) | (apply ap (i := 0) rfl; assumption) | (apply ap (i := 1) rfl; assumption) | (apply ap (i := 2) rfl; assumption)
    | (apply ab_i; intro wl) | (apply as_i; intro wa wk wc wh) | (apply av_i; intro wv) | (apply ac_i; intro wl wq wb)
    | apply bo_r | (apply nx_i <;> intro wb) | (apply Ia.hit; assumption) | (apply Ia.miss; assumption)
    | (apply aj; exact rfl) | exact rt_w | exact Ct.w | (apply iv; assumption)
    | exact True.intro | (apply bc_i; intro wC whC) | apply bt_i | apply og_n | (apply og_a; exact rfl))
  all_goals (try conv => whnf)
  all_goals (repeat (first | revert wb | revert wh | revert wc | revert wk | revert wa | revert wq | revert wl | revert wv | revert whC | revert wC))
  all_goals (apply Lf.l; with_reducible (repeat (first | apply ww | apply Lf.r)))) (e : Lz Q := by repeat (first | exact Lz.n | apply Lz.c)) : P := h ⟨hQ⟩
end
section
open Go Go.RowKit
theorem jw {s : List UInt8} {j : Nat} (h : j < s.length) : aa s j = s[j].toNat := by
 simp [aa, List.getD, h]
theorem u8_k {c : UInt8} {k : Nat} (hk : k < 256) : c = UInt8.ofNat k ↔ c.toNat = k := by
 constructor
 ·rintro rfl
  rw [UInt8.toNat_ofNat_of_lt' hk]
 ·intro h
  rw [← h, UInt8.ofNat_toNat]
def escF (c : UInt8) : List UInt8 := if c = 92 then [92, 92] else if c = 44 then [92, 44] else if c = 59 then [92, 59] else if c = 10 then [92, 110] else [c]
def escS (s : List UInt8) : List UInt8 := s.flatMap escF
theorem sQ : escF 92 = [92, 92] := rfl
theorem sS : escF 44 = [92, 44] := rfl
theorem sR : escF 59 = [92, 59] := rfl
theorem sT : escF 10 = [92, 110] := rfl
theorem lf {c : UInt8} (h0 : c.toNat ≠ 92) (h1 : c.toNat ≠ 44) (h2 : c.toNat ≠ 59) (h3 : c.toNat ≠ 10) : escF c = [c] := by
 unfold escF
 rw [if_neg (by rintro rfl; exact h0 rfl), if_neg (by rintro rfl; exact h1 rfl), if_neg (by rintro rfl; exact h2 rfl), if_neg (by rintro rfl; exact h3 rfl)]
theorem fd : escS [] = [] := rfl
theorem js (c : UInt8) (s : List UInt8) : escS (c :: s) = escF c ++ escS s := rfl
theorem vw (s t : List UInt8) : escS (s ++ t) = escS s ++ escS t := by simp [escS]
theorem vx (c : UInt8) : 1 ≤ (escF c).length ∧ (escF c).length ≤ 2 := by
 unfold escF
 (repeat' split) <;> simp
theorem ff (s : List UInt8) : s.length ≤ (escS s).length ∧ (escS s).length ≤ 2 * s.length := by
 induction s with
 | nil => exact ⟨Nat.le_refl _, Nat.le_refl _⟩
 | cons c t ih =>
  have := vx c
  rw [js, List.length_append, List.length_cons]
  omega
theorem jq {s : List UInt8} {i : Nat} (h : i < s.length) : escS (s.take (i + 1)) = escS (s.take i) ++ escF s[i] := by
 rw [List.take_succ_eq_append_getElem h, vw]
 simp [escS]
theorem lg {s : List UInt8} {i : Nat} (h : s.length ≤ i) : escS (s.take i) = escS s := by rw [List.take_of_length_le h]
theorem jr {s : List UInt8} {i : Nat} : (escS (s.take i)).length + (escS (s.drop i)).length = (escS s).length := by
 rw [← List.length_append, ← vw, List.take_append_drop]
theorem zo {s : List UInt8} (h : (escS s).length = s.length) : escS s = s := by
 induction s with
 | nil => rfl
 | cons c t ih =>
  have h1 := vx c
  have h2 := ff t
  rw [js, List.length_append, List.length_cons] at h
  have h3 : (escF c).length = 1 := by omega
  rw [js, ih (by omega)]
  revert h3
  unfold escF
  (repeat' split) <;> simp
theorem xN (s : List UInt8) : (escS s).length = s.length + (s.countP (· == 10) + s.countP (· == 59) + s.countP (· == 44) + s.countP (· == 92)) := by
 induction s with
 | nil => rfl
 | cons c t ih =>
  rw [js, List.length_append, ih, List.countP_cons, List.countP_cons, List.countP_cons, List.countP_cons, List.length_cons]
  unfold escF
  by_cases h0 : c = 92
  ·subst h0; simp; omega
  ·by_cases h1 : c = 44
   ·subst h1; simp; omega
   ·by_cases h2 : c = 59
    ·subst h2; simp; omega
    ·by_cases h3 : c = 10
     ·subst h3; simp; omega
     ·simp [h0, h1, h2, h3]; omega
def tabN (N : Nat) (a0 a1 a2 a3 t : AVal) : List AVal := (((((List.replicate N (.raw (.slice none 0 0))).set 10 a0).set 59 a1).set 44 a2).set 92 a3) ++ [t]
def tabE (a0 a1 a2 a3 t : AVal) : List AVal := tabN 256 a0 a1 a2 a3 t
theorem By (N : Nat) (a0 a1 a2 a3 t : AVal) : (tabN N a0 a1 a2 a3 t)[N]? = some t := by
 unfold tabN
 rw [List.getElem?_append_right (by simp)]
 simp
theorem BA (a0 a1 a2 a3 t : AVal) : (tabE a0 a1 a2 a3 t)[256]? = some t := By 256 a0 a1 a2 a3 t
theorem Bt {N n : Nat} {a0 a1 a2 a3 t : AVal} (hn : n < N) : (tabN N a0 a1 a2 a3 t)[n]? = some (if n = 92 then a3 else if n = 44 then a2 else if n = 59 then a1 else if n = 10 then a0 else .raw (.slice none 0 0)) := by
 unfold tabN
 rw [List.getElem?_append_left (by simpa using hn)]
 by_cases h3 : n = 92
 ·subst h3; rw [List.getElem?_set_self (by simpa using hn), if_pos rfl]
 ·rw [if_neg h3, List.getElem?_set_ne (Ne.symm h3)]
  by_cases h2 : n = 44
  ·subst h2; rw [List.getElem?_set_self (by simpa using hn), if_pos rfl]
  ·rw [if_neg h2, List.getElem?_set_ne (Ne.symm h2)]
   by_cases h1 : n = 59
   ·subst h1; rw [List.getElem?_set_self (by simpa using hn), if_pos rfl]
   ·rw [if_neg h1, List.getElem?_set_ne (Ne.symm h1)]
    by_cases h0 : n = 10
    ·subst h0; rw [List.getElem?_set_self (by simpa using hn), if_pos rfl]
    ·rw [if_neg h0, List.getElem?_set_ne (Ne.symm h0)]
     simp [hn]
theorem Bz {n : Nat} {a0 a1 a2 a3 t : AVal} (hn : n < 256) : (tabE a0 a1 a2 a3 t)[n]? = some (if n = 92 then a3 else if n = 44 then a2 else if n = 59 then a1 else if n = 10 then a0 else .raw (.slice none 0 0)) := Bt (N := 256) hn
theorem fF {A e : List UInt8} {N j : Nat} {c : UInt8} (hj : j = A.length) (h : A.length + e.length ≤ N) : (A ++ List.replicate (N - A.length) c).take j ++ e ++ (A ++ List.replicate (N - A.length) c).drop (j + e.length) = A ++ e ++ List.replicate (N - (A ++ e).length) c := by
 subst hj
 rw [List.take_left, List.drop_append, List.drop_eq_nil_of_le (by omega), List.nil_append, List.drop_replicate, List.length_append]
 congr 2
 omega
theorem zz {A : List UInt8} {N j : Nat} {c d : UInt8} (hj : j = A.length) (h : A.length < N) : (A ++ List.replicate (N - A.length) c).set j d = A ++ [d] ++ List.replicate (N - (A ++ [d]).length) c := by
 subst hj
 rw [List.set_append_right _ _ (Nat.le_refl _), Nat.sub_self, show N - A.length = (N - (A ++ [d]).length) + 1 by rw [List.length_append, List.length_singleton]; omega, List.replicate_succ, List.set_cons_zero, List.append_assoc]
 rfl
end
section
open Go Go.RowKit
/-! ## Values that are known whole -/
def Dk : AVal → Option Value
 | .own _ v => some v
 | .raw v => some v
 | .int k n => some (.int k n)
 | .bool b => some (.bool b)
 | _ => none
def pA : List AVal → Option (List Value)
 | [] => some []
 | a :: t => match Dk a, pA t with
  | some v, some r => some (v :: r)
  | _, _ => none
theorem EP {R : Seal} {a : AVal} {v x : Value} (h : Dk a = some v) (hr : Rel R a x) : x = v := by
 cases a <;> simp only [Dk, Option.some.injEq, reduceCtorEq] at h <;> subst h
 ·exact aD.1 hr
 ·exact am.1 hr
 ·exact ao.1 hr
 ·exact (aI.1 hr).1
theorem ll {R : Seal} : ∀ {l : List AVal} {vs xs : List Value}, pA l = some vs → RelV R l xs → xs = vs
 | [], vs, xs, h, hr => by
  simp only [pA, Option.some.injEq] at h
  subst h
  simpa [RelV] using hr
 | a :: t, vs, xs, h, hr => by
  simp only [pA] at h
  split at h
  ·rename_i v r hv ht
   simp only [Option.some.injEq] at h
   subst h
   obtain ⟨x, ys, rfl, h1, h2⟩ := hr
   rw [EP hv h1, ll ht h2]
  ·cases h
def C6 (env : Env) (fv : Operand) (args : List Operand) : Option Deferred :=
 match ah env fv with
 | some (.func (.func f) l1 l2) => match pA l1, ef env args, pA l2 with
  | some x1, some avs, some x2 => match pA avs with
   | some xs => some { target := .fn (.func f) x2.toArray, args := (x1 ++ xs).toArray }
   | none => none
  | _, _, _ => none
 | _ => none
theorem tE {P : Program} {o : Oper} {a : Act} {next next' : Act → World → Prop} {Q Q' : Exit → Act → World → Prop} {r : Result Next} (hn : ∀ a w, next a w → next' a w)
  (hp : ∀ ch a w, Q (.panic ch) a w → Q' (.panic ch) a w) (ho : LetsOut Q → LetsOut Q') (hh : o.upon P a next Q r) : o.upon P a next' Q' r := by
 cases r with
 | ok n w' =>
  cases n <;> simp only [Oper.upon] at hh ⊢ <;>
   first
    | exact hn _ _ hh
    | exact Calls.mono hh (fun e w'' he => by cases e <;> first | exact hn _ _ he | exact hp _ _ _ he | exact ho he)
    | exact Rows.mono hh (fun _ _ he => hn _ _ he)
 | halt x w' => cases x <;> simp only [Oper.upon] at hh ⊢ <;> exact hp _ _ _ hh
def Br (P : Program) (ops : Array Oper) (l : List Oper) (Q : Exit → Act → World → Prop) : Exit → Act → World → Prop
 | .normal, a, w => wpList P ops Q l a w
 | e, a, w => Q e a w
theorem jT {P : Program} {ops : Array Oper} {l : List Oper} {Q : Exit → Act → World → Prop} : ∀ {pre : List Oper} {a : Act} {w : World}, wpList P ops (Br P ops l Q) pre a w → wpList P ops Q (pre ++ l) a w
 | [], a, w, h => h
 | o :: pre, a, w, h => by
  simp only [List.cons_append, wpList] at h ⊢
  split
  ·rename_i hw
   rw [if_pos hw] at h
   rcases h with h | ⟨h1, h2⟩
   ·exact .inl (tE (fun _ _ => jT) (fun _ _ _ => id) (fun ⟨a, w, q⟩ => ⟨a, w, q⟩) h)
   ·exact .inr ⟨h1, h2⟩
  ·rename_i hw
   rw [if_neg hw] at h
   exact jT h
/-! ## The spine -/
def withD (C : Ctx) (D : List Deferred) : Ctx := ⟨C.w0, C.R0, C.B0, C.G, C.hG, D⟩
theorem MS.withD {C : Ctx} {R : Seal} {H : Heap} {w : World} (h : MS C R H w) (D : List Deferred) : MS (withD C D) R H w := ⟨h.sealed, h.ge, h.fresh, h.heap, h.own, h.ext⟩
theorem MS.ofD {C : Ctx} {R : Seal} {H : Heap} {w : World} {D : List Deferred} (h : MS (Proofs.YtahebkecmlmlfaaGreatDoor.withD C D) R H w) : MS C R H w := ⟨h.sealed, h.ge, h.fresh, h.heap, h.own, h.ext⟩
def DM (C : Ctx) (n : Nat) (Q : List Deferred → AExit → Env → Heap → Prop) (e : Exit) (a : Act) (w : World) : Prop :=
 ∃ D x env H R, Q D x env H ∧ aC R x e ∧ MS C R H w ∧ FS D n R env a
def AWpD (P : Program) (C : Ctx) (n : Nat) (c : Code) (env : Env) (H : Heap) (Q : List Deferred → AExit → Env → Heap → Prop) : Prop :=
 ∀ R a w, MS C R H w → FS C.D n R env a → c.wp P (DM C n Q) a w
section
variable {P : Program} {C : Ctx} {n : Nat} {env : Env} {H : Heap} {Q : List Deferred → AExit → Env → Heap → Prop} {G : Glo} {GL : List (Nat × List AVal)}
theorem Dy {c : Code} (h : AWp P C n c env H (Q C.D)) : AWpD P C n c env H Q :=
 fun R a w hm hf => wp_mono (h R a w hm hf) fun _ _ _ ⟨x, en, H', R', q, r⟩ => ⟨C.D, x, en, H', R', q, r⟩
theorem iT [Tab P] (hC : C.G = G) (hGL : ad G GL) {c : Code} (h : dA P C n G GL c env H (Q C.D)) : AWpD P C n c env H Q := Dy (bJ hC hGL _ _ _ _ h)
def GO (K : List Deferred → Env → Heap → Prop) (Q : List Deferred → AExit → Env → Heap → Prop) : List Deferred → AExit → Env → Heap → Prop
 | D, .normal, e, h => K D e h
 | D, x, e, h => Q D x e h
theorem gT {x y : Code} (h : AWpD P C n x env H (GO (fun D e h => AWpD P (withD C D) n y e h Q) Q)) : AWpD P C n (.seq x y) env H Q := by
 intro R a w hm hf
 refine wp_seq (wp_mono (h R a w hm hf) ?_)
 rintro e a' w' ⟨D, x, en, H', R', q, er, hm', hf'⟩
 cases x with
 | normal =>
  simp only [aC] at er; subst er
  exact wp_mono (q R' a' w' (hm'.withD D) hf') fun _ _ _ ⟨D2, x, en, H', R', q, er, hm2, hf2⟩ => ⟨D2, x, en, H', R', q, er, hm2.ofD, hf2⟩
 | exit i => simp only [aC] at er; subst er; exact ⟨D, .exit i, en, H', R', q, rfl, hm', hf'⟩
 | goto i => simp only [aC] at er; subst er; exact ⟨D, .goto i, en, H', R', q, rfl, hm', hf'⟩
 | ret => simp only [aC] at er; subst er; exact ⟨D, .ret, en, H', R', q, rfl, hm', hf'⟩
 | panic v => obtain ⟨y, rfl, hr⟩ := er; exact ⟨D, .panic v, en, H', R', q, ⟨y, rfl, hr⟩, hm', hf'⟩
theorem Dz {c : Operand} {x y : Code} {b : Bool} (hc : ah env c = some (.bool b)) (ht : b = true → AWpD P C n x env H Q) (hf : b = false → AWpD P C n y env H Q) : AWpD P C n (.cond c x y) env H Q := by
 intro R a w hm hfs
 refine wp_cond (aD.1 (hfs.eval hc)) ?_
 cases b with
 | true => exact ht rfl R a w hm hfs
 | false => exact hf rfl R a w hm hfs
structure Df (d : Option Deferred) (K : Deferred → Prop) : Prop where
 h : ∃ x, d = some x ∧ K x
def defQ (C : Ctx) (fv : Operand) (args : List Operand) (Q : List Deferred → AExit → Env → Heap → Prop) : AExit → Env → Heap → Prop
 | .normal, e, h => Df (C6 e fv args) fun d => Q (d :: C.D) .normal e h
 | x, e, h => Q C.D x e h
theorem rB [Tab P] {id : Nat} {ops : Array Oper} {fv : Operand} {args : Array Operand} {ts : Array TypeId} {ty : TypeId} {pos : String} {af : Array Edge} (hC : C.G = G) (hGL : ad G GL)
  (hl : ops.toList = ops.toList.dropLast ++ [{ dst := none, op := .defer { callee := .value fv, args := args, argTypes := ts }, type := ty, pos := pos, after := af, guard := none }])
  (h : opsX P C n G GL ops (defQ C fv args.toList Q) ops.toList.dropLast env H) : AWpD P C n (.region id ops false) env H Q := by
 intro R a w hm hf
 refine wp_region_list ?_
 rw [hl]
 refine jT ?_
 have h1 := cw (C := C) hC hGL _ _ _ h R a w hm hf
 have key : ∀ {l : List Oper} {a w}, wpList P ops (Post C n (defQ C fv args.toList Q)) l a w → wpList P ops (Br P ops [{ dst := none, op := .defer { callee := .value fv, args := args, argTypes := ts }, type := ty, pos := pos, after := af, guard := none }] (DM C n Q)) l a w := by
  have hq : ∀ e a w, Post C n (defQ C fv args.toList Q) e a w → Br P ops [{ dst := none, op := .defer { callee := .value fv, args := args, argTypes := ts }, type := ty, pos := pos, after := af, guard := none }] (DM C n Q) e a w := by
   rintro e a' w' ⟨x, en, H', R', q, er, hm', hf'⟩
   cases x with
   | normal =>
    simp only [aC] at er; subst er
    obtain ⟨d, hd, q⟩ := Df.h q
    refine wpList_plain rfl fun K hK => ?_
    have hrun : (execOp a'.eval { dst := none, op := .defer { callee := .value fv, args := args, argTypes := ts }, type := ty, pos := pos, after := af, guard := none : Oper }).run P w' = .ok (.defer d) w' := by
     unfold C6 at hd
     split at hd
     ·rename_i f l1 l2 hfv
      split at hd
      ·rename_i x1 avs x2 h1 h2 h3
       split at hd
       ·rename_i xs h4
        simp only [Option.some.injEq] at hd
        subst hd
        obtain ⟨⟨y1, y2, ey, r1, r2⟩, _⟩ := aP (hf'.eval hfv) rfl, trivial
        simp only [List.cons.injEq, and_true] at ey
        have e1 := ll h1 r1
        have e2 := ll h3 r2
        have e3 := ll h4 (de (fun x av h => hf'.eval h) h2)
        have e3' : (args.map a'.eval) = xs.toArray := by
         apply Array.ext'
         simpa using e3
        have e1' : y1 = x1.toArray := by apply Array.ext'; simpa using e1
        have e2' : y2 = x2.toArray := by apply Array.ext'; simpa using e2
        simp only [execOp, resolve, ey, e3', e1', e2', Deferred.ofValue, Sem.run_bind, Sem.run_pure, Result.andThen_ok]
        simp
       ·cases hd
      ·cases hd
     ·cases hd
    rw [Oper.wp, hrun, Oper.upon_defer]
    refine hK _ _ (wpList_nil ⟨_, .normal, en, H', R', q, rfl, hm', ?_⟩)
    exact ⟨fun k v x => hf'.fr k v x, hf'.size, by show _ :: a'.defers = _; rw [hf'.defers]⟩
   | exit i => simp only [aC] at er; subst er; exact ⟨C.D, .exit i, en, H', R', q, rfl, hm', hf'⟩
   | goto i => simp only [aC] at er; subst er; exact ⟨C.D, .goto i, en, H', R', q, rfl, hm', hf'⟩
   | ret => simp only [aC] at er; subst er; exact ⟨C.D, .ret, en, H', R', q, rfl, hm', hf'⟩
   | panic v => obtain ⟨y, rfl, hr⟩ := er; exact ⟨C.D, .panic v, en, H', R', q, ⟨y, rfl, hr⟩, hm', hf'⟩
  intro l
  induction l with
  | nil => exact fun {a w} h => hq _ _ _ h
  | cons o r ih =>
   intro a w h
   simp only [wpList] at h ⊢
   split
   ·rename_i hw
    rw [if_pos hw] at h
    rcases h with h | ⟨h1, b, w2, x, en, H', R', q, er, _⟩
    ·exact .inl (tE (fun _ _ => ih) (fun _ _ _ => hq _ _ _) (fun ⟨a, w, q⟩ => ⟨a, w, hq _ _ _ q⟩) h)
    ·exact .inr ⟨h1, b, w2, hq _ _ _ ⟨x, en, H', R', q, er, by assumption⟩⟩
   ·rename_i hw
    rw [if_neg hw] at h
    exact ih h
 exact key h1
end
end
section
open Go Go.RowKit
inductive AMode where
 | ret
 | pan (v : AVal)
 | rcv (v : AVal)
def dR (R : Seal) : AMode → FrameMode → Prop
 | .ret, u => u = .returning
 | .pan v, u => ∃ x, u = .panicking [{ v := x, recovered := false }] ∧ Rel R v x
 | .rcv v, u => ∃ x, u = .panicking [{ v := x, recovered := true }] ∧ Rel R v x
theorem dR.mono {R R' : Seal} (h : R.le R') : ∀ {m : AMode} {u : FrameMode}, dR R m u → dR R' m u
 | .ret, _, x => x
 | .pan _, _, ⟨y, e, r⟩ => ⟨y, e, dW h r⟩
 | .rcv _, _, ⟨y, e, r⟩ => ⟨y, e, dW h r⟩
def AMode.settle : AMode → AMode
 | .ret => .ret
 | .pan v => .pan v
 | .rcv _ => .ret
theorem wx {R : Seal} : ∀ {m : AMode} {u : FrameMode}, dR R m u → dR R m.settle (Go.settle u)
 | .ret, _, rfl => rfl
 | .pan _, _, ⟨y, rfl, r⟩ => ⟨y, rfl, r⟩
 | .rcv _, _, ⟨y, rfl, _⟩ => rfl
theorem uM {R : Seal} : ∀ {m : AMode} {u : FrameMode}, dR R m u → u ≠ .run
 | .ret, _, rfl => by simp
 | .pan _, _, ⟨_, rfl, _⟩ => by simp
 | .rcv _, _, ⟨_, rfl, _⟩ => by simp
def fJ (P : Program) (G : Glo) (f : FuncId) (avs : List AVal) (m : AMode) (H : Heap) (Qd : ARes → AMode → Heap → Prop) : Prop :=
 ∀ R w args u (hG : G.p R), MS ⟨w, R, blks H, G, hG, []⟩ R H w → RelV R avs args.toList → dR R m u →
  CallsD P f args u w fun e u' w' => ∃ res m' H' R', Qd res m' H' ∧ fT R' res e ∧ dR R' m' u' ∧ MS ⟨w, R, blks H, G, hG, []⟩ R' H' w'
section
variable {P : Program} [Tab P] {G : Glo} {GL : List (Nat × List AVal)} {n : Nat} {H : Heap} {m : AMode}
theorem yu {R : Seal} {avs : List AVal} {args : Array Value} {n : Nat} (hlen : Nat.ble avs.length n = true) (ha : RelV R avs args.toList) :
  FS [] n R (cX 0 avs) { tmps := args ++ Array.replicate (n - args.size) undef, defers := [] } := by
 have hl := fp ha
 have hlen := Nat.le_of_ble_eq_true hlen
 simp only [Array.length_toList] at hl
 refine ⟨fun k v hk => ?_, ?_, rfl⟩
 ·obtain ⟨_, x, hx, hr⟩ := kh ha hk
  refine ⟨x, ?_, hr⟩
  simp only [Nat.sub_zero, Array.getElem?_toList] at hx
  have := Array.getElem?_eq_some_iff.1 hx
  rw [Array.getElem?_append_left this.1]
  exact hx
 ·simp only [Array.size_append, Array.size_replicate]; omega
theorem zu {f : FuncId} {fn : Func} {c : Code} {avs : List AVal} {Qf : ARes → Heap → Prop} {rs : List ResultVar} (hf : P.funcs[f]? = some fn)
  (hb : fn.body = some c) (hn : fn.ntmps = n) (hrs : fn.results = rs.toArray) (hlen : Nat.ble avs.length n = true) (hGL : ad G GL)
  (h : ∀ C : Ctx, C.G = G → dA P C n G GL c (cX 0 avs) H (RetX P rs Qf)) : fJ P G f avs m H (fun res m' H' => m' = m ∧ Qf res H') := by
 intro R w args u hG hm ha hu
 have h1 := (bJ (C := ⟨w, R, blks H, G, hG, []⟩) rfl hGL _ _ _ _ (h ⟨w, R, blks H, G, hG, []⟩ rfl)).mono fun _ _ _ q => fI q
 have h2 : c.wp P (bodyPost P fn (fun e w' => ∃ res H' R', Qf res H' ∧ fT R' res e ∧ R.le R' ∧ MS ⟨w, R, blks H, G, hG, []⟩ R' H' w')) { tmps := args ++ Array.replicate (fn.ntmps - args.size) undef, defers := [] } w := by
  subst hn
  refine wp_mono (h1 R _ w hm (yu hlen ha)) ?_
  have hrs' : fn.results.toList = rs := by rw [hrs]
  rintro e a' w' ⟨x, env', H', R', q, er, hm', hf'⟩
  cases x with
  | normal =>
   simp only [aC] at er; subst er
   obtain ⟨vs, H'', hv, hs, q⟩ := q
   obtain ⟨y, hy, hr⟩ := da (fn := fn) hm' hf' (by rw [hrs']; exact hv)
   exact ⟨hf'.defers, y, hy, _, H'', R', q, ⟨y, rfl, hr⟩, hm'.ge, hm'.drop hs⟩
  | ret =>
   simp only [aC] at er; subst er
   obtain ⟨vs, H'', hv, hs, q⟩ := q
   obtain ⟨y, hy, hr⟩ := da (fn := fn) hm' hf' (by rw [hrs']; exact hv)
   exact ⟨hf'.defers, y, hy, _, H'', R', q, ⟨y, rfl, hr⟩, hm'.ge, hm'.drop hs⟩
  | panic v =>
   obtain ⟨y, rfl, hr⟩ := er
   obtain ⟨H'', hs, q⟩ := q
   exact ⟨hf'.defers, _, H'', R', q, ⟨y, rfl, hr⟩, hm'.ge, hm'.drop hs⟩
  | exit i => exact q.elim
  | goto i => exact q.elim
 refine (callsD_of_wp (u := u) hf hb h2).mono ?_
 rintro e u' w' ⟨rfl, res, H', R', q, er, hle, hm'⟩
 exact ⟨res, m, H', R', ⟨rfl, q⟩, er, hu.mono hle, hm'⟩
omit [Tab P] in
theorem C4 {f : FuncId} {avs : List AVal} {H1 : Heap} (H2 : Heap) {Qd : ARes → AMode → Heap → Prop} (h : fJ P G f avs m H1 Qd) : fJ P G f avs m (H1 ++ H2) (fun r m' H' => ∃ H1', Qd r m' H1' ∧ H' = H1' ++ H2) := by
 intro R w args u hG hm ha hu
 exact (h R w args u hG hm.enter ha hu).mono fun e u' w' ⟨res, m', H', R', q, er, hu', hm'⟩ => ⟨res, m', H' ++ H2, R', ⟨H', q, rfl⟩, er, hu', MS.call hm hm'⟩
omit [Tab P] in
omit [Tab P] in
theorem EM {f : FuncId} {avs : List AVal} {Qd Qd' : ARes → AMode → Heap → Prop} (h : fJ P G f avs m H Qd) (hq : ∀ r m' H', Qd r m' H' → ∃ H'', H'.Perm H'' ∧ Qd' r m' H'') : fJ P G f avs m H Qd' := by
 intro R w args u hG hm ha hu
 exact (h R w args u hG hm ha hu).mono fun e u' w' ⟨res, m', H', R', q, er, hu', hm'⟩ => let ⟨H'', hp, q'⟩ := hq _ _ _ q; ⟨res, m', H'', R', q', er, hu', hm'.perm hp⟩
omit [Tab P] in
omit [Tab P] in
theorem C3 {f : FuncId} {avs : List AVal} {H1 H1' : Heap} {r : ARes} {m' : AMode} (H2 : Heap) (hs : fJ P G f avs m H1 (fun r2 m2 H2 => m2 = m' ∧ r2 = r ∧ H2 = H1')) :
  fJ P G f avs m (H1 ++ H2) (fun r2 m2 H' => m2 = m' ∧ r2 = r ∧ H' = H1' ++ H2) := by
 refine EM (C4 H2 hs) ?_
 rintro r2 m2 H' ⟨H3, ⟨rfl, rfl, rfl⟩, rfl⟩
 exact ⟨_, List.Perm.refl _, rfl, rfl, rfl⟩
/-! ## As a function leaves -/
def Lv (P : Program) (G : Glo) (n : Nat) (rs : List ResultVar) (env : Env) (D : List Deferred) (m : AMode) (H : Heap) (Qf : ARes → Heap → Prop) : Prop :=
 ∀ (C : Ctx) (R : Seal) (a : Act) (w : World) (fn : Func) (u : FrameMode) (D0 : List Deferred), C.G = G → fn.results.toList = rs → MS C R H w → FS D0 n R env a → dR R m u →
  Leaves P fn a.tmps (fun e w' => ∃ res H' R', Qf res H' ∧ fT R' res e ∧ MS C R' H' w') D u w
variable {rs : List ResultVar} {env : Env} {Qf : ARes → Heap → Prop} {D : List Deferred}
theorem F8 (h : RetX P rs Qf .ret env H) : Lv P G n rs env [] .ret H Qf := by
 rintro C R a w fn u D0 hC hrs hm hf rfl
 obtain ⟨vs, H'', hv, hs, q⟩ := fI h
 obtain ⟨y, hy, hr⟩ := da (fn := fn) hm hf (by rw [hrs]; exact hv)
 exact ⟨y, hy, _, H'', R, q, ⟨y, rfl, hr⟩, hm.drop hs⟩
omit [Tab P] in
omit [Tab P] in
theorem y4 {f : FuncId} {avs : List AVal} {cap args : Array Value} {v : AVal} {m' : AMode} {H' : Heap} (hs : fJ P G f avs m H (fun r2 m2 H2 => m2 = m' ∧ r2 = .ret v ∧ H2 = H')) (ha : ∀ R, RelV R avs (args ++ cap).toList)
  (hc : ∀ args w, (callFunc f args).run P w = .ok (.enter f args) w) (k : Lv P G n rs env D m'.settle H' Qf) : Lv P G n rs env ({ target := .fn (.func f) cap, args := args } :: D) m H Qf := by
 intro C R a w fn u D0 hC hrs hm hf hu
 subst hC
 refine leaves_cons (f := f) (args := args ++ cap) (uM hu) (by simp only [invoke]; exact hc _ _) ?_
 refine (hs R w _ u hm.glo (MS.enter (H2 := []) (by simpa using hm)) (ha R) hu).mono ?_
 rintro e u' w' ⟨res, m2, H2, R', ⟨rfl, rfl, rfl⟩, ⟨y, rfl, hr⟩, hu', hm'⟩
 have hm2 : MS C R' H2 w' := by simpa using MS.call (H2 := []) (by simpa using hm) hm'
 exact k C R' a w' fn _ D0 rfl hrs hm2 (hf.mono hm'.ge) (wx hu')
def LvQ (P : Program) (G : Glo) (n : Nat) (rs : List ResultVar) (Qf : ARes → Heap → Prop) : List Deferred → AExit → Env → Heap → Prop
 | D, .ret, e, H | D, .normal, e, H => Lv P G n rs e D .ret H Qf
 | D, .panic v, e, H => Lv P G n rs e D (.pan v) H Qf
 | _, _, _, _ => False
omit [Tab P] in
theorem fn_d {f : FuncId} {fn : Func} {c : Code} {avs : List AVal} (hf : P.funcs[f]? = some fn)
  (hc : ∀ args w, (callFunc f args).run P w = .ok (.enter f args) w) (hb : fn.body = some c) (hn : fn.ntmps = n) (hrs : fn.results = rs.toArray) (hlen : Nat.ble avs.length n = true)
  (h : ∀ C : Ctx, C.G = G → C.D = [] → AWpD P C n c (cX 0 avs) H (LvQ P G n rs Qf)) : ae P G f avs H Qf := by
 intro R w args hG hm ha
 refine .inl ⟨hc args w, calls_of_wp_defers hf hb ?_⟩
 subst hn
 have hrs' : fn.results.toList = rs := by rw [hrs]
 refine wp_mono (h ⟨w, R, blks H, G, hG, []⟩ rfl rfl R _ w hm (yu hlen ha)) ?_
 rintro e a' w' ⟨D, x, env', H', R', q, er, hm', hf'⟩
 cases x with
 | normal =>
  simp only [aC] at er; subst er
  have := q _ R' a' w' fn .returning D rfl hrs' hm' hf' rfl
  rwa [← hf'.defers] at this
 | ret =>
  simp only [aC] at er; subst er
  have := q _ R' a' w' fn .returning D rfl hrs' hm' hf' rfl
  rwa [← hf'.defers] at this
 | panic v =>
  obtain ⟨y, rfl, hr⟩ := er
  have := q _ R' a' w' fn (.panicking [{ v := y, recovered := false }]) D rfl hrs' hm' hf' ⟨y, rfl, hr⟩
  rwa [← hf'.defers] at this
 | exit i => exact q.elim
 | goto i => exact q.elim
end
end
section
open Go Go.RowKit
theorem jN {α β : Type} {f : α → Option β} {x y : α} (hf : f y = f x) : ∀ {h : List α} {i : Nat}, h[i]? = some x → (h.set i y).filterMap f = h.filterMap f
 | [], i, e => by simp at e
 | z :: h, 0, e => by
  simp only [List.getElem?_cons_zero, Option.some.injEq] at e
  subst e
  simp [List.filterMap_cons, hf]
 | z :: h, i + 1, e => by
  simp only [List.getElem?_cons_succ] at e
  simp only [List.set_cons_succ, List.filterMap_cons, jN hf e]
theorem MS.setEnt {C : Ctx} {R : Seal} {H : Heap} {w : World} {i : Nat} {x y : HEnt} (h : MS C R H w) (hi : H[i]? = some x) (hb : y.blk = x.blk) (hy : y.holds R w) : MS C R (H.set i y) w := by
 have hx : x ∈ H := List.mem_of_getElem? hi
 have hm : ∀ z, z ∈ H.set i y → z ∈ H ∨ z = y := fun z hz => List.mem_or_eq_of_mem_set hz
 refine ⟨h.sealed, h.ge, h.fresh, ⟨fun z hz => ?_, ?_, fun z hz b hzb => ?_⟩, fun z hz b hzb => ?_, h.ext⟩
 ·rcases hm z hz with h1 | rfl
  ·exact h.heap.holds z h1
  ·exact hy
 ·rw [jN hb hi]; exact h.heap.nodup
 ·rcases hm z hz with h1 | rfl
  ·exact h.heap.apart z h1 b hzb
  ·exact h.heap.apart x hx b (by rw [← hb]; exact hzb)
 ·rcases hm z hz with h1 | rfl
  ·exact h.own z h1 b hzb
  ·exact h.own x hx b (by rw [← hb]; exact hzb)
theorem ou {R : Seal} {a a' : AVal} (ht : ∀ v, RelC R a [v] → RelC R a' [v]) : ∀ {cs : List AVal} {vs : List Value} {p : Nat}, RelL R cs vs → cs[p]? = some a → RelL R (cs.set p a') vs
 | [], _, _, _, e => by simp at e
 | c :: cs, _, 0, ⟨v, t, rfl, h1, h2⟩, e => by
  simp only [List.getElem?_cons_zero, Option.some.injEq] at e
  subst e
  exact ⟨v, t, rfl, ht v h1, h2⟩
 | c :: cs, _, p + 1, ⟨v, t, rfl, h1, h2⟩, e => by
  simp only [List.getElem?_cons_succ] at e
  exact ⟨v, t, rfl, h1, ou ht h2 e⟩
inductive CellTo (R : Seal) (p : Nat) (a' : AVal) : HEnt → HEnt → Prop
 | cells {b eT cs a} (hp : cs[p]? = some a) (ht : ∀ v, RelC R a [v] → RelC R a' [v]) : CellTo R p a' (.cells b eT cs) (.cells b eT (cs.set p a'))
 | row {v eT sz n cs a} (hp : cs[p]? = some a) (ht : ∀ v, RelC R a [v] → RelC R a' [v]) : CellTo R p a' (.row v eT sz n cs) (.row v eT sz n (cs.set p a'))
theorem CellTo.holds {R : Seal} {p : Nat} {a' : AVal} {x y : HEnt} {w : World} (h : CellTo R p a' x y) (hx : x.holds R w) : y.holds R w ∧ y.blk = x.blk := by
 cases h with
 | cells hp ht =>
  obtain ⟨C, e, fz, hb, hl, hf⟩ := hx
  exact ⟨⟨C, e, fz, hb, ou ht hl hp, hf⟩, rfl⟩
 | row hp ht =>
  rename_i v eT sz n cs a
  obtain ⟨hlen, y⟩ := hx
  refine ⟨⟨by rw [List.length_set]; exact hlen, ?_⟩, by cases v with | slice a l c => cases a <;> rfl | _ => rfl⟩
  rcases y with ⟨h1, h2⟩ | ⟨b, cap, C, e, fz, rfl, hb, hs, hn, hl, hf⟩
  ·exact .inl ⟨h1, h2⟩
  ·exact .inr ⟨b, cap, C, e, fz, rfl, hb, hs, hn, ou ht hl hp, hf⟩
def To (C : Ctx) (n : Nat) (e : Env) (h : Heap) (e' : Env) (h' : Heap) : Prop :=
 ∀ R a w, MS C R h w → FS C.D n R e a → ∃ R', R.le R' ∧ MS C R' h' w ∧ FS C.D n R' e' a
section
variable {C : Ctx} {n : Nat} {e e' e'' : Env} {h h' h'' : Heap}
theorem dT (a : To C n e h e' h') (b : To C n e' h' e'' h'') : To C n e h e'' h'' := fun R x w hm hf =>
 let ⟨R1, l1, m1, f1⟩ := a R x w hm hf
 let ⟨R2, l2, m2, f2⟩ := b R1 x w m1 f1
 ⟨R2, Seal.le_trans l1 l2, m2, f2⟩
theorem FB {k i : Nat} {v : Value} (hv : vAgg v = false) (hk : Env.get e k = some (.raw v)) : To C n e h ((k, .own i v) :: e) h := fun R _ _ hm hf => ⟨R, Seal.le_refl R, hm, pg hv hk hf⟩
theorem tH (sz : Nat) : To C n e h e (h ++ [.row (.slice none 0 0) none sz 0 []]) := fun R a w hm hf => by
 refine ⟨R, Seal.le_refl R, MS.perm (H := .row (.slice none 0 0) none sz 0 [] :: h) ?_ (List.perm_append_singleton _ h).symm, hf⟩
 refine ⟨hm.sealed, hm.ge, hm.fresh, ⟨fun z hz => ?_, hm.heap.nodup, fun z hz b hb => ?_⟩, fun z hz b hb => ?_, hm.ext⟩
 ·rcases List.mem_cons.1 hz with rfl | hz
  ·exact ⟨by simp, .inl ⟨rfl, rfl⟩⟩
  ·exact hm.heap.holds z hz
 ·rcases List.mem_cons.1 hz with rfl | hz
  ·cases hb
  ·exact hm.heap.apart z hz b hb
 ·rcases List.mem_cons.1 hz with rfl | hz
  ·cases hb
  ·exact hm.own z hz b hb
theorem DU {i p : Nat} {a' : AVal} {x y : HEnt} (hi : h[i]? = some x) (hc : ∀ R, CellTo R p a' x y) : To C n e h e (h.set i y) := fun R a w hm hf => by
 obtain ⟨h1, h2⟩ := (hc R).holds (hm.heap.holds x (List.mem_of_getElem? hi))
 exact ⟨R, Seal.le_refl R, hm.setEnt hi h2 h1, hf⟩
theorem El {R : Seal} {j : Nat} {u : Value} : RelC R (.raw (.slice none 0 0)) [u] → RelC R (.own j (.slice none 0 0)) [u] := by
 intro e
 have e : [u] = [.slice none 0 0] := e
 exact ⟨e, rfl⟩
end
section
variable {P : Program} [Tab P] {C : Ctx} {n : Nat} {env : Env} {H : Heap} {Q : AExit → Env → Heap → Prop} {G : Glo} {GL : List (Nat × List AVal)}
omit [Tab P] in
theorem G0 {c : Code} {e' : Env} {h' : Heap} (hto : To C n env H e' h') (k : Lp P C n c e' h' Q) : Lp P C n c env H Q := by
 refine ⟨fun R a w hm hf => ?_⟩
 obtain ⟨R0, _, hm, hf⟩ := hto R a w hm hf
 exact k.h R0 a w hm hf
omit [Tab P] in
theorem eb {id : Nat} {ops : Array Oper} {e' : Env} {h' : Heap} (hto : To C n env H e' h') (k : Dw P C n id ops e' h' Q) : Dw P C n id ops env H Q := by
 refine ⟨fun R a w hm hf => ?_⟩
 obtain ⟨R0, _, hm, hf⟩ := hto R a w hm hf
 exact k.h R0 a w hm hf
def G6 (res : ARes) (H : Heap) (v : AVal) : Prop := ∀ (C : Ctx) (R : Seal) (w : World) (e : Ending), MS C R H w → fT R res e → ∃ R', MS C R' [] w ∧ fT R' (.ret v) e
omit [Tab P] in
theorem sO {f : FuncId} {avs : List AVal} {H : Heap} {Qf : ARes → Heap → Prop} {v : AVal} (h : ae P G f avs H Qf) (hq : ∀ r H', Qf r H' → G6 r H' v) : ae P G f avs H (fun r H' => r = .ret v ∧ H' = []) := by
 intro R w args hG hm ha
 rcases h R w args hG hm ha with ⟨h1, h2⟩ | ⟨x, w', h1, res, H', R', q, er, hm'⟩
 ·exact .inl ⟨h1, h2.mono fun e w' ⟨res, H', R', q, er, hm'⟩ => let ⟨R2, m2, e2⟩ := hq _ _ q _ _ _ _ hm' er; ⟨.ret v, [], R2, ⟨rfl, rfl⟩, e2, m2⟩⟩
 ·obtain ⟨R2, m2, e2⟩ := hq _ _ q _ _ _ _ hm' er
  exact .inr ⟨x, w', h1, .ret v, [], R2, ⟨rfl, rfl⟩, e2, m2⟩
end
end
section
open Go Go.RowKit
theorem gA {P : Program} [Tab P] {G : Glo} {f : FuncId} {avs : List AVal} {b : Nat} {eT : Option TypeId} {cs cs' : List AVal} {v : AVal}
  (hrun : ∀ R w Cs e fz args, w.heap[b]? = some (.cells Cs e fz) → RelL R cs Cs.toList → ii fz Cs.size → RelV R avs args.toList → ∃ x w' Cs', (callFunc f args).run P w = .ok (.value x) w' ∧ Rel R v x ∧ OneBlk w b (.cells Cs' e fz) w' ∧ RelL R cs' Cs'.toList ∧ Cs'.size = Cs.size) :
  ae P G f avs [.cells b eT cs] (fun r H => r = .ret v ∧ H = [.cells b eT cs']) := by
 intro R w args hG hm ha
 obtain ⟨Cs, e, fz, hb, hl, hfz, het⟩ := hm.heap.holds _ (List.mem_cons_self ..)
 obtain ⟨x, w', Cs', h1, h2, h3, h4, h5⟩ := hrun R w Cs e fz args hb hl hfz ha
 refine .inr ⟨x, w', h1, .ret v, [.cells b eT cs'], R, ⟨rfl, rfl⟩, ⟨x, rfl, h2⟩, ?_⟩
 exact hm.write (i := 0) rfl rfl h3 rfl ⟨Cs', e, fz, h3.at_, h4, by rw [h5]; exact hfz, het⟩
theorem uG {w : World} {b : Nat} {o : Obj} (h : w.heap[b]? = some o) : OneBlk w b o w := ⟨rfl, rfl, rfl, rfl, h, fun _ _ => rfl⟩
theorem j3 {w : World} {b off e : Nat} {Cs : Array Value} {fz : Nat × Nat} {v : Value} (h : w.heap[b]? = some (.cells Cs e fz)) (ho : off < Cs.size) : OneBlk w b (.cells (Cs.setIfInBounds off v) e fz) (w.setCell ⟨b, off, none⟩ v) := by
 have hlt : b < w.heap.size := by
  rcases Nat.lt_or_ge b w.heap.size with h1 | h1
  ·exact h1
  ·simp [Array.getElem?_eq_none h1] at h
 refine ⟨rfl, rfl, rfl, by simp [World.setCell], ?_, fun k hk => ?_⟩
 ·simp only [World.setCell, Array.getElem?_modify, if_true, h, Option.map_some, Option.isSome_none, Bool.false_eq_true, if_false]
 ·simp only [World.setCell, Array.getElem?_modify]
  rw [if_neg (fun e => hk e.symm)]
theorem kN {R : Seal} {a : AVal} {v : Value} (ha : RelC R a [v]) : ∀ {cs : List AVal} {vs : List Value} {p : Nat}, RelL R cs vs → p < cs.length → RelL R (cs.set p a) (vs.set p v)
 | [], _, _, _, h => absurd h (Nat.not_lt_zero _)
 | c :: cs, _, 0, ⟨u, t, rfl, h1, h2⟩, _ => ⟨v, t, rfl, ha, h2⟩
 | c :: cs, _, p + 1, ⟨u, t, rfl, h1, h2⟩, hp => ⟨u, _, rfl, h1, kN ha h2 (by simpa using hp)⟩
theorem arg1 {R : Seal} {v : Value} {args : Array Value} (h : RelV R [.raw v] args.toList) : args = #[v] := by
 obtain ⟨x, t, e, hx, rfl⟩ := h
 obtain rfl := ao.1 (show Rel R (.raw v) x from hx)
 exact Array.ext' e
theorem arg2 {R : Seal} {v : Value} {k : IntKind} {n : Int} {args : Array Value} (h : RelV R [.raw v, .int k n] args.toList) : args = #[v, .int k n] := by
 obtain ⟨x, t, e, hx, y, t2, rfl, hy, rfl⟩ := h
 obtain rfl := ao.1 (show Rel R (.raw v) x from hx)
 obtain rfl := am.1 (show Rel R (.int k n) y from hy)
 exact Array.ext' e
theorem arg3 {R : Seal} {v : Value} {k k2 : IntKind} {n m : Int} {args : Array Value} (h : RelV R [.raw v, .int k n, .int k2 m] args.toList) : args = #[v, .int k n, .int k2 m] := by
 obtain ⟨x, t, e, hx, y, t2, rfl, hy, z, t3, rfl, hz, rfl⟩ := h
 obtain rfl := ao.1 (show Rel R (.raw v) x from hx)
 obtain rfl := am.1 (show Rel R (.int k n) y from hy)
 obtain rfl := am.1 (show Rel R (.int k2 m) z from hz)
 exact Array.ext' e
section
variable {G : Glo} {b off : Nat} {eT : Option TypeId} {cs : List AVal}
abbrev pv (b off : Nat) : Value := .pointer (some ⟨b, off, none⟩)
theorem lq {R : Seal} {w : World} {Cs : Array Value} {e : Nat} {fz : Nat × Nat} {k : IntKind} {n : Int} (hb : w.heap[b]? = some (.cells Cs e fz)) (hl : RelL R cs Cs.toList) (hc : cs[off]? = some (.int k n)) : w.cell? ⟨b, off, none⟩ = some (.int k n) ∧ off < Cs.size := by
 obtain ⟨v, hv, hr⟩ := bX hl hc
 simp only [RelC, List.cons.injEq, and_true] at hr
 subst hr
 refine ⟨by simp only [World.cell?, hb]; simpa using hv, ?_⟩
 have := (List.getElem?_eq_some_iff.1 hv).1
 simpa using this
theorem j4 {w : World} {Cs : Array Value} {e : Nat} {fz : Nat × Nat} (hb : w.heap[b]? = some (.cells Cs e fz)) (hfz : ii fz Cs.size) (ho : off < Cs.size) : w.frozen? ⟨b, off, none⟩ = false := by
 obtain ⟨lo, hi⟩ := fz
 simp only [World.frozen?, hb, ii] at hfz ⊢
 simp
 omega
theorem E3 {n : Int} (hc : cs[off]? = some (.int .u32 n)) : ae Tryz.prog G 210 [.raw (pv b off)] [.cells b eT cs] (fun r H => r = .ret (.int .u32 n) ∧ H = [.cells b eT cs]) := by
 refine gA fun R w Cs e fz args hb hl hfz ha => ?_
 obtain rfl := arg1 ha
 obtain ⟨h1, _⟩ := lq hb hl hc
 exact ⟨_, _, Cs, run_call_load Tryz.func210 (by kernel_rfl) (by kernel_rfl) (by kernel_rfl) .u32 (by kernel_rfl) h1, am.2 rfl, uG hb, hl, rfl⟩
theorem DD {n y : Int} (hc : cs[off]? = some (.int .u32 n)) : ae Tryz.prog G 225 [.raw (pv b off), .int .u32 y] [.cells b eT cs] (fun r H => r = .ret (.tuple []) ∧ H = [.cells b eT (cs.set off (.int .u32 y))]) := by
 refine gA fun R w Cs e fz args hb hl hfz ha => ?_
 obtain rfl := arg2 ha
 obtain ⟨h1, ho⟩ := lq hb hl hc
 have hlen := ay hl
 rw [Array.length_toList] at hlen
 refine ⟨_, _, Cs.setIfInBounds off (.int .u32 y), run_call_store Tryz.func225 (by kernel_rfl) (by kernel_rfl) (by kernel_rfl) (by kernel_rfl) h1 (j4 hb hfz ho), ⟨⟨#[], rfl, rfl⟩, rfl⟩, j3 hb ho, ?_, by simp⟩
 rw [Array.toList_setIfInBounds]
 exact kN (show RelC R (.int .u32 y) [.int .u32 y] from rfl) hl (by omega)
theorem GB {n y : Int} (hc : cs[off]? = some (.int .i32 n)) : ae Tryz.prog G 233 [.raw (pv b off), .int .i32 n, .int .i32 y] [.cells b eT cs] (fun r H => r = .ret (.bool true) ∧ H = [.cells b eT (cs.set off (.int .i32 y))]) := by
 refine gA fun R w Cs e fz args hb hl hfz ha => ?_
 obtain rfl := arg3 ha
 obtain ⟨h1, ho⟩ := lq hb hl hc
 have hlen := ay hl
 rw [Array.length_toList] at hlen
 refine ⟨_, _, Cs.setIfInBounds off (.int .i32 y), run_call_cas_hit Tryz.func233 (by kernel_rfl) (by kernel_rfl) (by kernel_rfl) .i32 (by kernel_rfl) h1 (j4 hb hfz ho), aD.2 rfl, j3 hb ho, ?_, by simp⟩
 rw [Array.toList_setIfInBounds]
 exact kN (show RelC R (.int .i32 y) [.int .i32 y] from rfl) hl (by omega)
theorem GA (hc : cs[off]? = some (.int .i32 1)) : ae Tryz.prog G 238 [.raw (pv b off), .int .i32 (-1)] [.cells b eT cs] (fun r H => r = .ret (.int .i32 0) ∧ H = [.cells b eT (cs.set off (.int .i32 0))]) := by
 refine gA fun R w Cs e fz args hb hl hfz ha => ?_
 obtain rfl := arg2 ha
 obtain ⟨h1, ho⟩ := lq hb hl hc
 have hlen := ay hl
 rw [Array.length_toList] at hlen
 refine ⟨_, _, Cs.setIfInBounds off (.int .i32 0), run_call_add Tryz.func238 (by kernel_rfl) (by kernel_rfl) (by kernel_rfl) .i32 (by kernel_rfl) (s := 0) h1 (j4 hb hfz ho) (by simp [go_sem]; rfl), am.2 rfl, j3 hb ho, ?_, by simp⟩
 rw [Array.toList_setIfInBounds]
 exact kN (show RelC R (.int .i32 0) [.int .i32 0] from rfl) hl (by omega)
end
end
section
open Go Go.RowKit
theorem gj {P : Program} [Tab P] {G : Glo} {GL : List (Nat × List AVal)} {n : Nat} {H : Heap} {v : Value} (i : Nat) {f : FuncId} {fn : Func} {c : Code} {avs : List AVal} {Qf : ARes → Heap → Prop} {rs : List ResultVar} (hf : P.funcs[f]? = some fn)
  (hc : ∀ args w, (callFunc f args).run P w = .ok (.enter f args) w) (hb : fn.body = some c) (hn : fn.ntmps = n) (hrs : fn.results = rs.toArray) (hlen : Nat.ble (AVal.raw v :: avs).length n = true) (hGL : ad G GL) (hv : vAgg v = false)
  (h : ∀ C : Ctx, C.G = G → dA P C n G GL c ((0, .own i v) :: cX 0 (.raw v :: avs)) H (RetX P rs Qf)) : ae P G f (.raw v :: avs) H Qf :=
 la hf hb hc hn hrs hlen fun w0 R0 hG => (uD (C := ⟨w0, R0, blks H, G, hG, []⟩) (k := 0) i rfl hGL hv rfl (h ⟨w0, R0, blks H, G, hG, []⟩ rfl)).mono fun _ _ _ q => fI q
section
variable {P : Program} [Tab P] {C : Ctx} {n : Nat} {env : Env} {H : Heap} {G : Glo} {x : Operand} {S T u : TypeId} {xS xT xu : TI}
theorem BP {i j b off : Nat} {eT : Option TypeId} {cs : List AVal} {a : AVal} (hx : ah env x = some (.own i (pv b off))) (hj : H[j]? = some (.cells b eT cs)) (hc : cs[off]? = some a) (h1 : tab P S = some xS) (h2 : xS.desc = .pointer u) (h3 : tab P T = some xT) (h4 : xT.desc = .unsafePointer) (h5 : tab P u = some xu) (h6 : Nat.ble 1 xu.size = true) :
  RunV P C H env (.convert S T x) (.raw (pv b off)) := by
 intro R ρ w hm hf dst t p af g
 obtain ⟨Cs, el, fz, hb, hl, _⟩ := eK hm hj
 obtain ⟨v, hv, _⟩ := bX hl hc
 have hcell : w.cell? ⟨b, off, none⟩ = some v := by simp only [World.cell?, hb]; simpa using hv
 obtain ⟨iu, hiu, his, _⟩ := dg h5
 have h6 := Nat.le_of_ble_eq_true h6
 have hr := run_convert_to_unsafe (P := P) (src := S) (dst := T) (by rw [a6 h1, h2]) (by rw [a6 h3, h4]) (by rw [hiu]; simp [his]; omega) hcell
 exact ⟨_, by simp only [execOp, (aI.1 (hf _ _ hx)).1, Sem.run_bind, hr, Result.andThen_ok, Sem.run_pure], ao.2 rfl⟩
end
section
variable {G : Glo}
theorem qS {f : FuncId} (h : ∀ w, (callFunc f #[]).run Tryz.prog w = .ok (.value (.tuple #[])) w) : FnIs Tryz.prog G f [] (.tuple []) := by
 intro R w args hG hm ha
 have e : args = #[] := by
  have : args.toList = [] := ha
  exact Array.ext' this
 subst e
 exact .inr ⟨_, w, h w, _, [], R, ⟨rfl, rfl⟩, ⟨_, rfl, ⟨#[], rfl, rfl⟩, rfl⟩, hm⟩
theorem mQ {f : FuncId} {a : Addr} (h : ∀ w, (callFunc f #[.pointer (some a)]).run Tryz.prog w = .ok (.value (.tuple #[])) w) : FnIs Tryz.prog G f [.raw (.pointer (some a))] (.tuple []) := by
 intro R w args hG hm ha
 obtain rfl := arg1 ha
 exact .inr ⟨_, w, h w, _, [], R, ⟨rfl, rfl⟩, ⟨_, rfl, ⟨#[], rfl, rfl⟩, rfl⟩, hm⟩
theorem gc : FnIs Tryz.prog G 232 [] (.tuple []) := qS fun w => run_call_mark0 Tryz.func232 (by kernel_rfl) (by kernel_rfl) (by kernel_rfl) .disable (by kernel_rfl) w
theorem jb : FnIs Tryz.prog G 234 [] (.tuple []) := qS fun w => run_call_mark0 Tryz.func234 (by kernel_rfl) (by kernel_rfl) (by kernel_rfl) .enable (by kernel_rfl) w
theorem oC (a : Addr) : FnIs Tryz.prog G 235 [.raw (.pointer (some a))] (.tuple []) := mQ fun w => run_call_marked Tryz.func235 (by kernel_rfl) (by kernel_rfl) (by kernel_rfl) .acquire (by kernel_rfl) a w
theorem oB (a : Addr) : FnIs Tryz.prog G 237 [.raw (.pointer (some a))] (.tuple []) := mQ fun w => run_call_marked Tryz.func237 (by kernel_rfl) (by kernel_rfl) (by kernel_rfl) .releaseMerge (by kernel_rfl) a w
attribute [local irreducible] AWp AOps aa ax OrOk ad ae
theorem CI {b off : Nat} {eT : Option TypeId} {cs : List AVal} (hc : cs[off]? = some (.int .i32 0)) : ae Tryz.prog G 223 [.raw (pv b off)] [.cells b eT cs] (fun r H => r = .ret (.tuple []) ∧ H = [.cells b eT (cs.set off (.int .i32 1))]) := by
 have hGL : ad G [] := ab
 have e1 := GB (G := G) (b := b) (eT := eT) (y := 1) hc
 have hlt := (List.getElem?_eq_some_iff.1 hc).1
 refine gj 0 Tryz.func223 Tryz.call223 rfl rfl rfl rfl hGL rfl ?_
 intro C hC
 repeat' (first | (conv => whnf); first | refine .w ?_ | refine .v ?_ | refine sc_c ?_ ?_ <;> (intro hb; try exact dd hb) | apply an | apply az | (apply sc_i <;> intro hb) | (apply bx_i; intro hbd) | (apply ar; first | exact gc | exact jb | exact e1) | (apply ap (i := 0) rfl; first | exact gc | exact jb | exact e1) | (apply ab_i; intro bl) | (apply as_i; intro va vk vc hva) | (apply av_i; intro v) | (apply ac_i; intro bl cap hcap) | apply bo_l | (apply nx_i <;> intro hnx) | exact rt_w | apply dw_q mixed hC hGL (by kernel_rfl) | (apply cq; assumption; (first | exact gc | exact jb | exact e1); exact rfl))
 all_goals try conv => whnf
 refine aH hC hGL (BP (j := 0) rfl rfl (List.getElem?_set_self hlt) rfl rfl rfl rfl rfl rfl) rfl rfl ?_
 repeat' (first | (conv => whnf); first | refine .w ?_ | refine .v ?_ | refine sc_c ?_ ?_ <;> (intro hb; try exact dd hb) | apply an | apply az | (apply sc_i <;> intro hb) | (apply bx_i; intro hbd) | (apply ar; first | exact oC _) | (apply ap (i := 0) rfl; first | exact oC _) | (apply ab_i; intro bl) | (apply as_i; intro va vk vc hva) | (apply av_i; intro v) | (apply ac_i; intro bl cap hcap) | apply bo_l | (apply nx_i <;> intro hnx) | exact rt_w | apply dw_q mixed hC hGL (by kernel_rfl) | (apply cq; assumption; (first | exact oC _); exact rfl))
 all_goals try conv => whnf
theorem xq {b off : Nat} {eT : Option TypeId} {cs : List AVal} (hc : cs[off]? = some (.int .i32 1)) : ae Tryz.prog G 224 [.raw (pv b off)] [.cells b eT cs] (fun r H => r = .ret (.tuple []) ∧ H = [.cells b eT (cs.set off (.int .i32 0))]) := by
 have hGL : ad G [] := ab
 have e1 := GA (G := G) (b := b) (eT := eT) hc
 refine gj 0 Tryz.func224 Tryz.call224 rfl rfl rfl rfl hGL rfl ?_
 intro C hC
 refine xw1 ?_
 intros
 erw [hc]
 refine xw1 ?_
 intros
 refine aH hC hGL (BP (j := 0) rfl rfl hc rfl rfl rfl rfl rfl rfl) rfl rfl ?_
 repeat' (first | (conv => whnf); first | refine .w ?_ | refine .v ?_ | refine sc_c ?_ ?_ <;> (intro hb; try exact dd hb) | apply an | apply az | (apply sc_i <;> intro hb) | (apply bx_i; intro hbd) | (apply ar; first | exact oB _ | exact gc | exact jb | exact e1) | (apply ap (i := 0) rfl; first | exact oB _ | exact gc | exact jb | exact e1) | (apply ab_i; intro bl) | (apply as_i; intro va vk vc hva) | (apply av_i; intro v) | (apply ac_i; intro bl cap hcap) | apply bo_l | (apply nx_i <;> intro hnx) | exact rt_w | apply dw_q mixed hC hGL (by kernel_rfl) | (apply cq; assumption; (first | exact oB _ | exact gc | exact jb | exact e1); exact rfl))
 all_goals try conv => whnf
theorem lock {b off : Nat} {eT : Option TypeId} {cs : List AVal} (hc : cs[off]? = some (.int .i32 0)) : ae Tryz.prog G 211 [.raw (pv b off)] [.cells b eT cs] (fun r H => r = .ret (.tuple []) ∧ H = [.cells b eT (cs.set off (.int .i32 1))]) := by
 have hGL : ad G [] := ab
 have e1 := CI (G := G) (b := b) (eT := eT) hc
 refine gj 0 Tryz.func211 Tryz.call211 rfl rfl rfl rfl hGL rfl ?_
 intro C hC
 exact xw0
theorem Fz {b off : Nat} {eT : Option TypeId} {cs : List AVal} (hc : cs[off]? = some (.int .i32 1)) (m : AMode) : fJ Tryz.prog G 212 [.own 0 (pv b off)] m [.cells b eT cs] (fun r m' H => m' = m ∧ r = .ret (.tuple []) ∧ H = [.cells b eT (cs.set off (.int .i32 0))]) := by
 have hGL : ad G [] := ab
 have e1 := xq (G := G) (b := b) (eT := eT) hc
 refine zu (rs := []) (GL := []) Tryz.func212 rfl rfl rfl rfl hGL ?_
 intro C hC
 exact xw0
theorem ru {b off : Nat} {eT : Option TypeId} {cs : List AVal} {n : Int} (hc : cs[off]? = some (.int .u32 n)) : ae Tryz.prog G 187 [.raw (pv b off)] [.cells b eT cs] (fun r H => r = .ret (.bool (!eqB n 0)) ∧ H = [.cells b eT cs]) := by
 have hGL : ad G [] := ab
 have e1 := E3 (G := G) (b := b) (eT := eT) hc
 refine gj 0 Tryz.func187 Tryz.call187 rfl rfl rfl rfl hGL rfl ?_
 intro C hC
 exact xw0
theorem vS : FnIs Tryz.prog G 226 [.bool true] (.int .u32 1) := by
 have hGL : ad G [] := ab
 refine fn_x Tryz.func226 Tryz.call226 rfl rfl rfl rfl hGL ?_
 intro C hC
 exact xw0
theorem ym {b off : Nat} {eT : Option TypeId} {cs : List AVal} {n : Int} (hc : cs[off]? = some (.int .u32 n)) (m : AMode) : fJ Tryz.prog G 213 [.own 0 (pv b off), .bool true] m [.cells b eT cs] (fun r m' H => m' = m ∧ r = .ret (.tuple []) ∧ H = [.cells b eT (cs.set off (.int .u32 1))]) := by
 have hGL : ad G [] := ab
 have e1 := DD (G := G) (b := b) (eT := eT) (y := 1) hc
 refine zu (rs := []) (GL := []) Tryz.func213 rfl rfl rfl rfl hGL ?_
 intro C hC
 refine xn1 ?_
 intros
 refine dw_p mixed hC hGL false (fun (_ : Unit) => []) (fun _ => [.cells b eT (cs.set off (.int .u32 1))]) (.take 0 (.take 1 (.take 2 (.take 3 (.br 4 (.br 5 (.done) (.nil)) (.nil)))))) (by kernel_rfl) ?_ ?_
 ·repeat' (first | (conv => whnf); first | refine .w ?_ | refine .v ?_ | refine sc_c ?_ ?_ <;> (intro hb; try exact dd hb) | apply an | apply az | (apply sc_i <;> intro hb) | (apply bx_i; intro hbd) | (apply ar; first | exact e1 | exact vS) | (apply ap (i := 0) rfl; first | exact e1 | exact vS) | (apply ab_i; intro bl) | (apply as_i; intro va vk vc hva) | (apply av_i; intro v) | (apply ac_i; intro bl cap hcap) | apply bo_l | (apply nx_i <;> intro hnx) | exact rt_w | exact True.intro | (apply bc_i; intro C hC) | apply bt_i | apply og_n | (apply og_a; exact rfl))
  all_goals try conv => whnf
  all_goals exact ⟨(), trivial, rfl⟩
 ·intro _
  exact xn0
end
end
section
open Go Go.RowKit
theorem EY {P : Program} {C : Ctx} {n : Nat} {c : Code} {env : Env} {H : Heap} {Q : List Deferred → AExit → Env → Heap → Prop} {k : Nat} (i : Nat) {v : Value} (hv : vAgg v = false) (hk : Env.get env k = some (.raw v)) (h : AWpD P C n c ((k, .own i v) :: env) H Q) : AWpD P C n c env H Q :=
 fun R a w hm hf => h R a w hm (pg hv hk hf)
theorem s4 {P : Program} [Tab P] {G : Glo} {f : FuncId} {avs : List AVal} {H H' : Heap} {v : AVal} {K Kp : AVal → Heap → Prop} (hs : ae P G f avs H (fun r H2 => r = .ret v ∧ H2 = H')) (k : K v H') : Cx P G f avs H K Kp := by
 refine ⟨_, hs, ?_, ?_⟩
 ·rintro v' H2 ⟨e, rfl⟩; cases e; exact k
 ·rintro v' H2 ⟨e, rfl⟩; cases e
attribute [local irreducible] AWp AOps aa ax OrOk ad ae
attribute [local irreducible] fJ Lv AWpD To
theorem Al {G : Glo} {b off fid : Nat} {eT : Option TypeId} {cs : List AVal} {T : Heap} {Y : Type} {cs2 : Y → List AVal} {T2 : Y → Heap} {l1 l2 : List AVal} (h0 : cs[off]? = some (.int .u32 0)) (h1 : cs[off + 1]? = some (.int .i32 0)) (k0 : ∀ y, (cs2 y)[off]? = some (.int .u32 0)) (k1 : ∀ y, (cs2 y)[off + 1]? = some (.int .i32 1))
  (hf : ae Tryz.prog G fid (dC (l1 ++ ([] ++ l2))) (.cells b eT (cs.set (off + 1) (.int .i32 1)) :: T) (fun r H => ∃ y, r = .ret (.tuple []) ∧ H = .cells b eT (cs2 y) :: T2 y)) :
  ae Tryz.prog G 188 [.raw (pv b off), .func (.func fid) l1 l2] (.cells b eT cs :: T) (fun r H => ∃ y, r = .ret (.tuple []) ∧ H = .cells b eT (((cs2 y).set off (.int .u32 1)).set (off + 1) (.int .i32 0)) :: T2 y) := by
 have hGL : ad G [] := ab
 have e1 := lock (G := G) (b := b) (eT := eT) h1
 have h0' : (cs.set (off + 1) (.int .i32 1))[off]? = some (.int .u32 0) := by rw [List.getElem?_set_ne (by omega)]; exact h0
 have e2 := ru (G := G) (b := b) (eT := eT) h0'
 refine fn_d (rs := []) Tryz.func188 Tryz.call188 rfl rfl rfl rfl ?_
 intro C hC hD
 refine EY (k := 0) (v := pv b off) 0 rfl rfl ?_
 refine gT (iT hC hGL ?_)
 refine xw1 ?_
 intros
 rw [aO]
 refine xw1 ?_
 intros
 refine gT (rB hC hGL rfl ?_)
 refine xw1 ?_
 intros
 refine ⟨_, rfl, ?_⟩
 refine (fun (h : ∀ C2 : Ctx, C2.G = G → C2.D = [{ target := .fn (.func 212) #[], args := #[pv b (off + 1)] }] → AWpD Tryz.prog C2 _ _ _ _ _) => h (withD C ({ target := .fn (.func 212) #[], args := #[pv b (off + 1)] } :: C.D)) hC (by show _ :: C.D = _; rw [hD])) ?_
 clear hC hD C
 intro C hC hD
 refine gT (iT hC hGL ?_)
 refine xw1 ?_
 intros
 rw [aO]
 refine xw1 ?_
 intros
 refine Dz rfl (fun _ => ?_) (fun hb => absurd hb (by simp [eqB]))
 refine gT (rB hC hGL rfl ?_)
 refine xw1 ?_
 intros
 refine ⟨_, rfl, ?_⟩
 refine iT (P := Tryz.prog) (C := withD C ({ target := .fn (.func 213) #[], args := #[pv b off, .bool true] } :: C.D)) (G := G) hC hGL ?_
 refine xw1 ?_
 intros
 rw [bC]
 refine ⟨_, hf, ?_, fun v' H2 ⟨y, e, _⟩ => by cases e⟩
 rintro v' H2 ⟨y, e, rfl⟩
 cases e
 show Lv Tryz.prog _ _ _ _ ({ target := .fn (.func 213) #[], args := #[pv b off, .bool true] } :: C.D) _ _ _
 rw [hD]
 refine y4 (C3 (T2 y) (ym (k0 y) .ret)) (fun R => ⟨_, _, rfl, aI.2 ⟨rfl, rfl⟩, _, _, rfl, aD.2 rfl, rfl⟩) Tryz.call213 ?_
 have k1' : ((cs2 y).set off (.int .u32 1))[off + 1]? = some (.int .i32 1) := by rw [List.getElem?_set_ne (by omega)]; exact k1 y
 refine y4 (C3 (T2 y) (Fz k1' .ret)) (fun R => ⟨_, _, rfl, aI.2 ⟨rfl, rfl⟩, rfl⟩) Tryz.call212 ?_
 refine F8 (P := Tryz.prog) ?_
 exact ⟨_, List.Sublist.refl _, y, rfl, rfl⟩
theorem yX {G : Glo} {b off fid : Nat} {eT : Option TypeId} {cs : List AVal} {T : Heap} {Y : Type} {cs2 : Y → List AVal} {T2 : Y → Heap} {l1 l2 : List AVal} (h0 : cs[off]? = some (.int .u32 0)) (h1 : cs[off + 1]? = some (.int .i32 0)) (k0 : ∀ y, (cs2 y)[off]? = some (.int .u32 0)) (k1 : ∀ y, (cs2 y)[off + 1]? = some (.int .i32 1))
  (hl1 : dC l1 = l1) (hl2 : dC l2 = l2)
  (hf : ae Tryz.prog G fid (dC (l1 ++ ([] ++ l2))) (.cells b eT (cs.set (off + 1) (.int .i32 1)) :: T) (fun r H => ∃ y, r = .ret (.tuple []) ∧ H = .cells b eT (cs2 y) :: T2 y)) :
  ae Tryz.prog G 157 [.raw (pv b off), .func (.func fid) l1 l2] (.cells b eT cs :: T) (fun r H => ∃ y, r = .ret (.tuple []) ∧ H = .cells b eT (((cs2 y).set off (.int .u32 1)).set (off + 1) (.int .i32 0)) :: T2 y) := by
 have hGL : ad G [] := ab
 have e1 := ru (G := G) (b := b) (eT := eT) h0
 have e2 := Al h0 h1 k0 k1 hf
 refine gj 0 Tryz.func157 Tryz.call157 rfl rfl rfl rfl hGL rfl ?_
 intro C hC
 refine xw1 ?_
 intros
 rw [aO]
 refine xw1 ?_
 intros
 rw [show fX (.func (.func fid) l1 l2) = .func (.func fid) l1 l2 by simp [fX, hl1, hl2]]
 refine ⟨_, e2, ?_, fun v' H2 ⟨y, e, _⟩ => by cases e⟩
 rintro v' H2 ⟨y, e, rfl⟩
 cases e
 exact ⟨_, List.Sublist.refl _, y, rfl, rfl⟩
end
section
open Go Go.RowKit
theorem Cv (v : Value) (n : Nat) : (madeCells #[v] n).toList = List.replicate n v := by
 unfold madeCells
 refine List.ext_getElem (by simp) (fun i h1 h2 => ?_)
 simp [Nat.mod_one]
section
variable {P : Program} [Tab P] {C : Ctx} {n : Nat} {env : Env} {H : Heap} {Q : AExit → Env → Heap → Prop} {ops : Array Oper} {rest : List Oper} {G : Glo} {GL : List (Nat × List AVal)}
variable {d : Nat} {t : TypeId} {p : String} {af : Array Edge} {g : Option (Nat × Bool)} {b : Bool}
variable {x y : Operand} {T e : TypeId} {xT xe : TI}
theorem mJ {ρ : Operand → Value} {w w' : World} {a c u : Value} (ha : ρ x = a) (hc : ρ y = c) (hr : (Instr.makeSlice T a c).run P w = .ok u w') :
  (execOp ρ { dst := some d, op := .makeSlice T x y, type := t, pos := p, after := af, guard := g }).run P w = .ok (.value u) w' := by
 simp only [execOp, ha, hc, Sem.run_bind, hr, Result.andThen_ok, Sem.run_pure]
theorem dE {k1 k2 : IntKind} {m : Nat} (hC : C.G = G) (hGL : ad G GL) (hx : ah env x = some (.int k1 (m : Int))) (hy : ah env y = some (.int k2 (m : Int))) (hm0 : m ≤ 1000000000000) (ht : tab P T = some xT) (hd : xT.desc = .slice e) (he : tab P e = some xe) (hz : xe.zero = some (.int .u8 0)) (hs : xe.size = 1) (hb : xe.bytes = 1)
  (hg : aE ops env g = some (b, b)) (hdn : Nat.ble (d + 1) n = true)
  (k : ∀ bl, opsX P C n G GL ops Q rest ((d, .own H.length (.slice (some ⟨bl, 0, none⟩) m m)) :: env) (H ++ [.buf bl (List.replicate m 0) m])) :
  Op1 P C n ops ({ dst := some d, op := .makeSlice T x y, type := t, pos := p, after := af, guard := g } :: rest) env H Q := by
 refine ⟨cR (X := Nat) (av := fun bl => .raw (.slice (some ⟨bl, 0, none⟩) m m)) (H' := fun bl => .buf bl (List.replicate m 0) m :: H) hg rfl hdn (fun R ρ w hm hf => ?_)
  (fun bl => gW (cG (i := H.length) rfl (cw hC hGL _ _ _ (k bl))))⟩
 obtain ⟨i, hi, his, hib, hiz, _⟩ := dg he
 have hr := run_make (P := P) w T e i (.int .u8 0) (by rw [a6 ht, hd]) hi (by rw [hiz, hz]) k1 k2 (m : Int) (m : Int) (by omega) (by omega) (by rw [hib, hb]; omega) (by omega)
 simp only [Int.toNat_natCast] at hr
 have hrun := mJ (d := d) (t := t) (p := p) (af := af) (g := g) (am.1 (hf _ _ hx)) (am.1 (hf _ _ hy)) hr
 refine ⟨w.heap.size, _, _, R, hrun, Seal.le_refl R, ao.2 rfl, ?_⟩
 ·rw [gN]
  refine hm.alloc _ _ rfl ⟨by simp, _, _, _, cK w _, ?_, .inl (Nat.le_refl _)⟩
  rw [his, hs, Nat.mul_one, show (Value.int .u8 0).cells = #[.int .u8 0] from rfl, Cv]
  have : ownB (List.replicate m 0) m = List.replicate m (.int .u8 0) := by simp [ownB, byteA]
  rw [this]
  exact eQ (show RelC R (.int .u8 0) [.int .u8 0] from rfl) _
theorem qL {k1 k2 : IntKind} {m : Nat} (hC : C.G = G) (hGL : ad G GL) (hx : ah env x = some (.int k1 0)) (hy : ah env y = some (.int k2 (m : Int))) (hm0 : m ≤ 1000000000) (ht : tab P T = some xT) (hd : xT.desc = .slice e) (he : tab P e = some xe) {z : Value} (hz : xe.zero = some z) (hb : Nat.ble xe.bytes 1024 = true)
  (hg : aE ops env g = some (b, b)) (hdn : Nat.ble (d + 1) n = true)
  (k : ∀ bl, opsX P C n G GL ops Q rest ((d, .own H.length (.slice (some ⟨bl, 0, none⟩) 0 m)) :: env) (H ++ [.row (.slice (some ⟨bl, 0, none⟩) 0 m) (some e) xe.size 0 []])) :
  Op1 P C n ops ({ dst := some d, op := .makeSlice T x y, type := t, pos := p, after := af, guard := g } :: rest) env H Q := by
 refine ⟨cR (X := Nat) (av := fun bl => .raw (.slice (some ⟨bl, 0, none⟩) 0 m)) (H' := fun bl => .row (.slice (some ⟨bl, 0, none⟩) 0 m) (some e) xe.size 0 [] :: H) hg rfl hdn (fun R ρ w hm hf => ?_)
  (fun bl => gW (cG (i := H.length) rfl (cw hC hGL _ _ _ (k bl))))⟩
 obtain ⟨i, hi, his, hib, hiz, _⟩ := dg he
 have hb := Nat.le_of_ble_eq_true hb
 have hmul : xe.bytes * m ≤ 1024 * 1000000000 := Nat.mul_le_mul hb hm0
 have hr := run_make (P := P) w T e i z (by rw [a6 ht, hd]) hi (by rw [hiz, hz]) k1 k2 0 (m : Int) (by omega) (by omega) (by rw [hib, ← Int.natCast_mul]; omega) (by omega)
 simp only [Int.toNat_natCast, Int.toNat_zero] at hr
 have hrun := mJ (d := d) (t := t) (p := p) (af := af) (g := g) (am.1 (hf _ _ hx)) (am.1 (hf _ _ hy)) hr
 refine ⟨w.heap.size, _, _, R, hrun, Seal.le_refl R, ao.2 rfl, ?_⟩
 ·rw [gN]
  refine hm.alloc _ _ rfl ⟨by simp, .inr ⟨_, _, _, _, _, rfl, cK w _, ?_, Nat.zero_le _, ?_, .inl (Nat.le_refl _), fun t ht => by cases ht; rfl⟩⟩
  ·rw [size_madeCells, his]
  ·simp [RelL]
end
end
section
open Go Go.RowKit
section
variable {P : Program} [Tab P] {C : Ctx} {n : Nat} {env : Env} {H : Heap} {Q : AExit → Env → Heap → Prop} {ops : Array Oper} {rest : List Oper} {G : Glo} {GL : List (Nat × List AVal)}
variable {d : Nat} {t : TypeId} {p : String} {af : Array Edge} {g : Option (Nat × Bool)} {b : Bool}
variable {x y : Operand} {T T2 e : TypeId} {xT xe : TI}
theorem Ca {s s2 : List UInt8} {cap o : Nat} (ho : o + s2.length ≤ s.length) (hc : s.length ≤ cap) :
  ownB (s.take o ++ s2 ++ s.drop (o + s2.length)) cap = (ownB s cap).take o ++ s2.map byteA ++ (ownB s cap).drop (o + s2.length) := by
 have e : (s.take o ++ s2 ++ s.drop (o + s2.length)).length = s.length := by
  simp only [List.length_append, List.length_take, List.length_drop]; omega
 unfold ownB
 rw [e, List.map_append, List.map_append, List.map_take, List.map_drop]
 rw [List.take_append_of_le_length (by simp; omega), List.drop_append_of_le_length (by simp; omega), ← List.append_assoc]
theorem ug {ρ : Operand → Value} {ty : TypeId} {w w' : World} {a c u : Value} (ha : ρ x = a) (hc : ρ y = c) (hr : (Builtin.copy_ #[T, T2] t #[a, c]).run P w = .ok u w') :
  (execOp ρ { dst := some d, op := .call { callee := .builtin .copy, args := #[x, y], argTypes := #[T, T2] }, type := t, pos := p, after := af, guard := g }).run P w = .ok (.value u) w' := by
 simp only [execOp, resolve, Sem.run_bind, Sem.run_pure, Result.andThen_ok, invoke, List.map_toArray, List.map_cons, List.map_nil, ha, hc]
 simp only [builtin, Sem.run_bind, hr, Result.andThen_ok, Sem.run_pure]
theorem aJ {i j bl o l c b2 c2 cap cap2 : Nat} {s s2 : List UInt8} (hC : C.G = G) (hGL : ad G GL) (hx : ah env x = some (.own i (.slice (some ⟨bl, o, none⟩) l c))) (hy : ah env y = some (.own j (.slice (some ⟨b2, 0, none⟩) s2.length c2)))
  (hi : H[i]? = some (.buf bl s cap)) (hj : H[j]? = some (.buf b2 s2 cap2)) (ho : o + s2.length ≤ s.length) (hl : s2.length ≤ l) (ht : tab P T = some xT) (hd : xT.desc = .slice e) (he : tab P e = some xe) (hs : xe.size = 1)
  (hg : aE ops env g = some (b, b)) (hdn : Nat.ble (d + 1) n = true)
  (k : opsX P C n G GL ops Q rest ((d, .int .i64 s2.length) :: env) (H.set i (.buf bl (s.take o ++ s2 ++ s.drop (o + s2.length)) cap))) :
  Op1 P C n ops ({ dst := some d, op := .call { callee := .builtin .copy, args := #[x, y], argTypes := #[T, T2] }, type := t, pos := p, after := af, guard := g } :: rest) env H Q := by
 refine ⟨mD hg rfl hdn (av := .int .i64 s2.length) (H' := H.set i (.buf bl (s.take o ++ s2 ++ s.drop (o + s2.length)) cap)) (fun R ρ w hm hf => ?_) (cw hC hGL _ _ _ k)⟩
 obtain ⟨hcap, Cs, e1, fz, hb, hrel, hfz⟩ := hm.heap.holds _ (List.mem_of_getElem? hi)
 obtain ⟨hcap2, Cs2, e2, fz2, hb2, hrel2, hfz2⟩ := hm.heap.holds _ (List.mem_of_getElem? hj)
 have hlen := ay hrel
 have hown : (ownB s cap).length = cap := by simp [ownB]; omega
 rw [hown, Array.length_toList] at hlen
 obtain ⟨ti, hti, his, _, _, _⟩ := dg he
 have hn1 : (s2.map fun c => Value.int .u8 (c.toNat : Int)).length = s2.length := by simp
 have hone : ∀ v ∈ s2.map (fun c => Value.int .u8 (c.toNat : Int)), v.oneCell' = true := by
  intro v hv
  obtain ⟨c, _, rfl⟩ := List.mem_map.1 hv
  rfl
 have hcell : ∀ j, j < (s2.map fun c => Value.int .u8 (c.toNat : Int)).length → (w.cell? ⟨bl, o + j, none⟩).isSome = true := by
  intro j hj
  rw [hn1] at hj
  simp only [World.cell?, hb]
  simp
  omega
 have hfro : ∀ j, j < (s2.map fun c => Value.int .u8 (c.toNat : Int)).length → w.frozen? ⟨bl, o + j, none⟩ = false := by
  intro j hj
  rw [hn1] at hj
  obtain ⟨lo, hi'⟩ := fz
  simp only [World.frozen?, hb, ii] at hfz ⊢
  simp
  omega
 have hsrc : ∀ j v, (s2.map fun c => Value.int .u8 (c.toNat : Int))[j]? = some v → w.cell? ((⟨b2, 0, none⟩ : Addr).add j) = some v := by
  intro j v hv
  have hj2 : j < s2.length := by
   have := (List.getElem?_eq_some_iff.1 hv).1
   simpa using this
  rw [List.getElem?_map, List.getElem?_eq_getElem hj2] at hv
  simp only [Option.map_some, Option.some.injEq] at hv
  have hg2 : (ownB s2 cap2)[j]? = some (byteA s2[j]) := by
   unfold ownB
   rw [List.getElem?_append_left (by simpa using hj2), List.getElem?_map, List.getElem?_eq_getElem hj2]
   rfl
  obtain ⟨u, hu, hr⟩ := bX hrel2 hg2
  simp only [byteA, RelC, List.cons.injEq, and_true] at hr
  subst hr
  subst hv
  have hadd : (⟨b2, 0, none⟩ : Addr).add j = ⟨b2, j, none⟩ := by
   simp only [Addr.add]
   by_cases h0 : j = 0
   ·simp [h0]
   ·simp [h0]
  rw [hadd]
  simp only [World.cell?, hb2]
  simpa using hu
 have hr := run_copy_cells (P := P) w T T2 t e bl o l c ⟨b2, 0, none⟩ s2.length c2 _ (by rw [a6 ht, hd]) (by rw [hti]; simp [his, hs]) (by rw [hn1]; exact (Nat.min_eq_left hl).symm) hsrc hcell hfro hone
 have hrun := ug (ty := t) (d := d) (p := p) (af := af) (g := g) (aI.1 (hf _ _ hx)).1 (aI.1 (hf _ _ hy)).1 hr
 obtain ⟨w', hw', ho'⟩ := cd (P := P) (s2.map fun c => Value.int .u8 (c.toNat : Int)) o 0 Cs w hb (by rw [hn1]; omega) hfz (fun u hu => by
  obtain ⟨c, _, rfl⟩ := List.mem_map.1 hu
  exact ⟨rfl, fun a h => by cases h⟩)
 have hst := run_storeCells_cells (P := P) bl o (s2.map fun c => Value.int .u8 (c.toNat : Int)) 0 w (by simpa using hcell) (by simpa using hfro) hone
 rw [hst] at hw'
 simp only [Result.ok.injEq, true_and] at hw'
 simp only [Nat.add_zero] at hw' ho'
 refine ⟨_, _, R, hrun, Seal.le_refl R, ?_, ?_⟩
 ·rw [hn1]; exact am.2 rfl
 ·rw [hw']
  refine hm.write hi rfl ho' rfl ⟨?_, _, _, _, ho'.at_, ?_, ?_⟩
  ·simp only [List.length_append, List.length_take, List.length_drop]; omega
  ·rw [Ca ho hcap, hn1]
   exact aZ (aZ (bB _ hrel) (jX R s2)) (bQ _ hrel)
  ·have : ((Cs.toList.take o ++ (s2.map fun c => Value.int .u8 (c.toNat : Int)) ++ Cs.toList.drop (o + (s2.map fun c => Value.int .u8 (c.toNat : Int)).length)).toArray).size = Cs.size := by
    simp only [List.size_toArray, List.length_append, List.length_take, List.length_drop, Array.length_toList, hn1]; omega
   rw [this]
   exact hfz
theorem aG {i bl l c o : Nat} {k0 : IntKind} (hC : C.G = G) (hGL : ad G GL) (hx : ah env x = some (.own i (.slice (some ⟨bl, 0, none⟩) l c))) (hy : ah env y = some (.int k0 (o : Int))) (ho : o ≤ l) (hoc : o < c) (ht : tab P T = some xT) (hd : xT.desc = .slice e) (he : tab P e = some xe) (hs : xe.size = 1)
  (hg : aE ops env g = some (b, b)) (hdn : Nat.ble (d + 1) n = true)
  (k : opsX P C n G GL ops Q rest ((d, .own i (.slice (some ⟨bl, o, none⟩) (l - o) (c - o))) :: env) H) :
  Op1 P C n ops ({ dst := some d, op := .slice T x (some y) none none, type := t, pos := p, after := af, guard := g } :: rest) env H Q := by
 refine ⟨mD hg rfl hdn (av := .own i (.slice (some ⟨bl, o, none⟩) (l - o) (c - o))) (H' := H) (fun R ρ w hm hf => ?_) (cw hC hGL _ _ _ k)⟩
 have hel : P.elem T = e := by simp [Program.elem, a6 ht, hd]
 have hr := run_slice_l (P := P) w T (some ⟨bl, 0, none⟩) l c (by rw [a6 ht, hd, hel]) k0 (o : Int) (by omega) (by omega)
 have hsz := aA he w
 refine ⟨.slice (some ⟨bl, o, none⟩) (l - o) (c - o), w, R, ?_, Seal.le_refl R, aI.2 ⟨rfl, rfl⟩, hm⟩
 simp only [execOp, (aI.1 (hf _ _ hx)).1, Option.map_some, Option.map_none, am.1 (hf _ _ hy), Sem.run_bind, run_sliceAt_slice w T _ _ _ _ (show P.underlying T = some (.slice (P.elem T)) by rw [a6 ht, hd, hel]), hr, hel, hsz, Result.andThen_ok, Sem.run_pure]
 simp only [sliced, Int.toNat_natCast]
 rw [if_neg (by omega)]
 simp [hs, Addr.add]
 by_cases h0 : o = 0
 ·simp [h0]
 ·simp [h0]
end
end
section
open Go Go.RowKit
attribute [local irreducible] AWp AOps ax OrOk ad ae
attribute [local irreducible] fJ Lv AWpD To
def eD (u : Value) : List AVal := [.int .u32 0, .int .i32 0, .int .u32 0, .raw .nilIface, .own 0 u]
theorem nk {G : Glo} (m : Nat) (f : Nat → AVal) (hm : m ≤ 1000) (h2 : m % 2 = 0) (hs : ax 1 m f) : ae Tryz.prog G 113 [.list 1 m f] [] (fun r H => ∃ bl va vk vc, RowV m va vk ∧ r = .ret (.own 1 (pv bl 0)) ∧ H = [.row (.slice va vk vc) none 1 m (cg m f), .cells bl (some 214) (eD (.slice va vk vc))]) := by
 have hGL : ad G [] := ab
 refine fn_x Tryz.func113 Tryz.call113 rfl rfl rfl rfl hGL ?_
 intro C hC
 repeat' (first | (conv => whnf); first | refine .w ?_ | refine .v ?_ | refine sc_c ?_ ?_ <;> (intro hb; try exact dd hb) | apply an | apply az | (apply sc_i <;> intro hb) | (apply bx_i; intro hbd) | (apply ar; first | fail) | (apply ap (i := 0) rfl; first | fail) | (apply ab_i; intro bl) | (apply as_i; intro va vk vc hva) | (apply av_i; intro v) | (apply ac_i; intro bl cap hcap) | apply bo_r | (apply nx_i <;> intro hnx) | exact rt_w | exact True.intro | (apply bc_i; intro C hC) | apply bt_i | apply og_n | (apply og_a; exact rfl))
 all_goals try conv => whnf
 exact ⟨_, List.Sublist.refl _, bl, va, vk, vc, hva, rfl, rfl⟩
def tabC (i j k : Nat) (a b c t : AVal) : List AVal := (((List.replicate 256 (.raw (.slice none 0 0))).set i a).set j b).set k c ++ [t]
theorem AU {G : Glo} (br bl vc : Nat) : ae Tryz.prog G 189 [.raw (pv bl 0)] [.row (.slice (some ⟨br, 0, none⟩) 6 vc) none 1 6 [.str [94], .str [94, 94], .str [10], .str [94, 110], .str [34], .str [94, 39]], .cells bl (some 214) ((eD (.slice (some ⟨br, 0, none⟩) 6 vc)).set 1 (.int .i32 1))]
  (fun r H => ∃ va vk vt bz b1 c1 b2 c2 b3 c3, RowV 3 va vk ∧ r = .ret (.iface 294 (.own 3 (pv bz 0))) ∧ H = [.row (.slice (some ⟨br, 0, none⟩) 6 vc) none 1 6 [.str [94], .str [94, 94], .str [10], .str [94, 110], .str [34], .str [94, 39]], .cells bl (some 214) ((eD (.slice (some ⟨br, 0, none⟩) 6 vc)).set 1 (.int .i32 1)),
   .row (.slice va vk vt) (some 9) 1 3 [.str [34], .str [10], .str [94]], .cells bz (some 293) (tabC 34 10 94 (.own 4 (.slice (some ⟨b1, 0, none⟩) 2 c1)) (.own 5 (.slice (some ⟨b2, 0, none⟩) 2 c2)) (.own 6 (.slice (some ⟨b3, 0, none⟩) 2 c3)) (.own 2 (.slice va vk vt))), .buf b1 [94, 39] c1, .buf b2 [94, 110] c2, .buf b3 [94, 94] c3]) := by
 have hGL : ad G [] := ab
 unfold eD
 refine gj 1 Tryz.func189 Tryz.call189 rfl rfl rfl rfl hGL rfl ?_
 intro C hC
 refine xn1 ?_
 intros
 have c0 : ([.str [94], .str [94, 94], .str [10], .str [94, 110], .str [34], .str [94, 39]] : List AVal)[0]? = some (.str [94]) := rfl
 have r0 : cm (.slice (some ⟨br, 0, none⟩) 6 vc) br 6 ∧ 0 < 6 * 1 := ⟨⟨_, rfl⟩, by decide⟩
 have c1 : ([.str [94], .str [94, 94], .str [10], .str [94, 110], .str [34], .str [94, 39]] : List AVal)[1]? = some (.str [94, 94]) := rfl
 have r1 : cm (.slice (some ⟨br, 0, none⟩) 6 vc) br 6 ∧ 1 < 6 * 1 := ⟨⟨_, rfl⟩, by decide⟩
 have c2 : ([.str [94], .str [94, 94], .str [10], .str [94, 110], .str [34], .str [94, 39]] : List AVal)[2]? = some (.str [10]) := rfl
 have r2 : cm (.slice (some ⟨br, 0, none⟩) 6 vc) br 6 ∧ 2 < 6 * 1 := ⟨⟨_, rfl⟩, by decide⟩
 have c3 : ([.str [94], .str [94, 94], .str [10], .str [94, 110], .str [34], .str [94, 39]] : List AVal)[3]? = some (.str [94, 110]) := rfl
 have r3 : cm (.slice (some ⟨br, 0, none⟩) 6 vc) br 6 ∧ 3 < 6 * 1 := ⟨⟨_, rfl⟩, by decide⟩
 have c4 : ([.str [94], .str [94, 94], .str [10], .str [94, 110], .str [34], .str [94, 39]] : List AVal)[4]? = some (.str [34]) := rfl
 have r4 : cm (.slice (some ⟨br, 0, none⟩) 6 vc) br 6 ∧ 4 < 6 * 1 := ⟨⟨_, rfl⟩, by decide⟩
 have c5 : ([.str [94], .str [94, 94], .str [10], .str [94, 110], .str [34], .str [94, 39]] : List AVal)[5]? = some (.str [94, 39]) := rfl
 have r5 : cm (.slice (some ⟨br, 0, none⟩) 6 vc) br 6 ∧ 5 < 6 * 1 := ⟨⟨_, rfl⟩, by decide⟩
 refine rds hC hGL 4 ?_
 refine xn1 ?_
 intros
 refine qL (m := 3) hC hGL rfl rfl (by omega) rfl rfl rfl rfl rfl rfl rfl (fun bt => ?_)
 refine xn1 ?_
 intros
 refine rds hC hGL 4 ?_
 refine xn1 ?_
 intros
 refine aH hC hGL (bp [34] rfl (by intro v hv; simp only [List.mem_cons, List.not_mem_nil, or_false] at hv; omega) rfl rfl rfl rfl rfl rfl) rfl rfl ?_
 refine xn1 ?_
 intros
 refine aH hC hGL (bp [10] rfl (by intro v hv; simp only [List.mem_cons, List.not_mem_nil, or_false] at hv; omega) rfl rfl rfl rfl rfl rfl) rfl rfl ?_
 refine xn1 ?_
 intros
 refine aH hC hGL (bp [94] rfl (by intro v hv; simp only [List.mem_cons, List.not_mem_nil, or_false] at hv; omega) rfl rfl rfl rfl rfl rfl) rfl rfl ?_
 refine xn1 ?_
 intros
 exact ⟨_, List.Sublist.refl _, _, _, _, _, _, _, _, _, _, _, by assumption, rfl, rfl⟩
end
section
open Go Go.RowKit
attribute [local irreducible] AWp AOps aa ax OrOk ad ae
abbrev encH (br bl vc : Nat) (cs : List AVal) (va : Option Addr) (vk vt bz b1 c1 b2 c2 b3 c3 : Nat) : Heap := [.row (.slice (some ⟨br, 0, none⟩) 6 vc) none 1 6 [.str [94], .str [94, 94], .str [10], .str [94, 110], .str [34], .str [94, 39]], .cells bl (some 214) cs,
   .row (.slice va vk vt) (some 9) 1 3 [.str [34], .str [10], .str [94]], .cells bz (some 293) (tabC 34 10 94 (.own 4 (.slice (some ⟨b1, 0, none⟩) 2 c1)) (.own 5 (.slice (some ⟨b2, 0, none⟩) 2 c2)) (.own 6 (.slice (some ⟨b3, 0, none⟩) 2 c3)) (.own 2 (.slice va vk vt))), .buf b1 [94, 39] c1, .buf b2 [94, 110] c2, .buf b3 [94, 94] c3]
attribute [local irreducible] tabC
theorem yl {G : Glo} (br bl vc : Nat) : ae Tryz.prog G 158 [.raw (pv bl 0)] [.row (.slice (some ⟨br, 0, none⟩) 6 vc) none 1 6 [.str [94], .str [94, 94], .str [10], .str [94, 110], .str [34], .str [94, 39]], .cells bl (some 214) ((eD (.slice (some ⟨br, 0, none⟩) 6 vc)).set 1 (.int .i32 1))]
  (fun r H => ∃ va vk vt bz b1 c1 b2 c2 b3 c3, RowV 3 va vk ∧ r = .ret (.tuple []) ∧ H = encH br bl vc [.int .u32 0, .int .i32 1, .int .u32 0, .iface 294 (.own 3 (pv bz 0)), .raw (.slice none 0 0)] va vk vt bz b1 c1 b2 c2 b3 c3) := by
 have hGL : ad G [] := ab
 have e1 := AU (G := G) br bl vc
 unfold eD at *
 refine gj 1 Tryz.func158 Tryz.call158 rfl rfl rfl rfl hGL rfl ?_
 intro C hC
 refine xn1 ?_
 intros
 refine ⟨_, e1, ?_, ?_⟩
 ·rintro v' H2 ⟨va, vk, vt, bz, b1, c1, b2, c2, b3, c3, hva, e, rfl⟩
  cases e
  refine xn1 ?_
  intros
  exact ⟨_, List.Sublist.refl _, va, vk, vt, bz, b1, c1, b2, c2, b3, c3, hva, rfl, rfl⟩
 ·rintro v' H2 ⟨va, vk, vt, bz, b1, c1, b2, c2, b3, c3, hva, e, rfl⟩
  cases e
end
section
open Go Go.RowKit
theorem eE {s : List UInt8} {j : Nat} (h : j < s.length) : aa s j = s[j].toNat := by
 simp [aa, List.getD, h]
def encF (c : UInt8) : List UInt8 := if c = 94 then [94, 94] else if c = 10 then [94, 110] else if c = 34 then [94, 39] else [c]
def encS (s : List UInt8) : List UInt8 := s.flatMap encF
theorem sU : encF 94 = [94, 94] := rfl
theorem sW : encF 10 = [94, 110] := rfl
theorem sV : encF 34 = [94, 39] := rfl
theorem lh {c : UInt8} (h1 : c.toNat ≠ 94) (h2 : c.toNat ≠ 10) (h3 : c.toNat ≠ 34) : encF c = [c] := by
 unfold encF
 rw [if_neg (by rintro rfl; exact h1 rfl), if_neg (by rintro rfl; exact h2 rfl), if_neg (by rintro rfl; exact h3 rfl)]
theorem fg : encS [] = [] := rfl
theorem ju (c : UInt8) (s : List UInt8) : encS (c :: s) = encF c ++ encS s := rfl
theorem pr (s t : List UInt8) : encS (s ++ t) = encS s ++ encS t := by simp [encS]
theorem vA (c : UInt8) : 1 ≤ (encF c).length ∧ (encF c).length ≤ 2 := by
 unfold encF
 (repeat' split) <;> simp
theorem fh (s : List UInt8) : s.length ≤ (encS s).length ∧ (encS s).length ≤ 2 * s.length := by
 induction s with
 | nil => exact ⟨Nat.le_refl _, Nat.le_refl _⟩
 | cons c t ih =>
  have := vA c
  rw [ju, List.length_append, List.length_cons]
  omega
def nE (N : Nat) (v : AVal) (i j k : Nat) (a b c t : AVal) : List AVal := (((List.replicate N v).set i a).set j b).set k c ++ [t]
theorem vK (N : Nat) (v : AVal) (i j k : Nat) (a b c t : AVal) : (nE N v i j k a b c t)[N]? = some t := by
 unfold nE
 rw [List.getElem?_append_right (by simp)]
 simp
theorem vJ {N : Nat} {v : AVal} {i j k n : Nat} {a b c t : AVal} (hn : n < N) : (nE N v i j k a b c t)[n]? = some (if n = k then c else if n = j then b else if n = i then a else v) := by
 unfold nE
 rw [List.getElem?_append_left (by simpa using hn)]
 by_cases h1 : n = k
 ·subst h1; rw [List.getElem?_set_self (by simpa using hn), if_pos rfl]
 ·rw [if_neg h1, List.getElem?_set_ne (Ne.symm h1)]
  by_cases h2 : n = j
  ·subst h2; rw [List.getElem?_set_self (by simpa using hn), if_pos rfl]
  ·rw [if_neg h2, List.getElem?_set_ne (Ne.symm h2)]
   by_cases h3 : n = i
   ·subst h3; rw [List.getElem?_set_self (by simpa using hn), if_pos rfl]
   ·rw [if_neg h3, List.getElem?_set_ne (Ne.symm h3)]
    simp [hn]
theorem BC (i j k : Nat) (a b c t : AVal) : (tabC i j k a b c t)[256]? = some t := vK 256 _ i j k a b c t
theorem BB {i j k n : Nat} {a b c t : AVal} (hn : n < 256) : (tabC i j k a b c t)[n]? = some (if n = k then c else if n = j then b else if n = i then a else .raw (.slice none 0 0)) := vJ (N := 256) hn
end
section
open Go Go.RowKit
theorem xm0 {P : Prop} (h : P := by
  repeat' (first
   | (conv => whnf); first
    | refine .w ?_ | refine Ix.v ?_ | refine Sd.v ?_ | refine Sl.v ?_ | apply cO | apply aW
    | refine sc_c ?_ ?_ <;> (intro wb; try exact dd wb)
    | apply an | (apply sc_i <;> intro wb) | (apply bx_i; intro wb) | (apply gt_i; assumption; exact rfl)
    | (apply ar; first | assumption | (apply k1 <;> omega)) | (apply ab_i; intro wl) | (apply aj; exact rfl) | exact rt_w
    | exact True.intro | (apply bc_i; intro wC whC) | apply bt_i | apply og_n | (apply og_a; exact rfl))
  all_goals (try conv => whnf)) : P := h
theorem xm1 {P Q : Prop} (hQ : Q) (h : Lf Q → P := by
  intro ww
  repeat' (first
   | (conv => whnf); first
    | refine .w ?_ | refine Ix.v ?_ | refine Sd.v ?_ | refine Sl.v ?_ | apply cO | apply aW
    | refine sc_c ?_ ?_ <;> (intro wb; try exact dd wb)
    | apply an | (apply sc_i <;> intro wb) | (apply bx_i; intro wb) | (apply gt_i; assumption; exact rfl)
    | (apply ar; first | assumption | (apply k1 <;> omega)) | (apply ab_i; intro wl) | (apply aj; exact rfl) | exact rt_w
    | exact True.intro | (apply bc_i; intro wC whC) | apply bt_i | apply og_n | (apply og_a; exact rfl))
  all_goals (try conv => whnf)
  all_goals (repeat (first | revert wb | revert wl | revert whC | revert wC))
  all_goals (apply Lf.h; apply ww)) : P := h ⟨hQ⟩
theorem xm {P Q : Prop} (hQ : Q) (h : Lf Q → P := by
  intro ww
  repeat' (first
   | (conv => whnf); first
    | refine .w ?_ | refine Ix.v ?_ | refine Sd.v ?_ | refine Sl.v ?_ | apply cO | apply aW
    | refine sc_c ?_ ?_ <;> (intro wb; try exact dd wb)
    | apply an | (apply sc_i <;> intro wb) | (apply bx_i; intro wb) | (apply gt_i; assumption; exact rfl)
    | (apply ar; first | assumption | (apply k1 <;> omega)) | (apply ab_i; intro wl) | (apply aj; exact rfl) | exact rt_w
    | exact True.intro | (apply bc_i; intro wC whC) | apply bt_i | apply og_n | (apply og_a; exact rfl))
  all_goals (try conv => whnf)
  all_goals (repeat (first | revert wb | revert wl | revert whC | revert wC))
  all_goals (apply Lf.l; with_reducible (repeat (first | apply ww | apply Lf.r)))) (e : Lz Q := by repeat (first | exact Lz.n | apply Lz.c)) : P := h ⟨hQ⟩
end
section
open Go Go.RowKit
attribute [local irreducible] AWp AOps ax OrOk ad ae
attribute [local irreducible] fJ Lv AWpD To
def newC (u : Value) : List AVal := [.int .u32 0, .int .i32 0, .int .u32 0, .raw .nilIface, .own 0 u]
theorem ss {G : Glo} (m : Nat) (f : Nat → AVal) (hm : m ≤ 1000) (h2 : m % 2 = 0) (hs : ax 1 m f) : ae Tryz.prog G 113 [.list 1 m f] [] (fun r H => ∃ bl va vk vc, RowV m va vk ∧ r = .ret (.own 1 (pv bl 0)) ∧ H = [.row (.slice va vk vc) none 1 m (cg m f), .cells bl (some 214) (newC (.slice va vk vc))]) := by
 have hGL : ad G [] := ab
 refine fn_x Tryz.func113 Tryz.call113 rfl rfl rfl rfl hGL ?_
 intro C hC
 repeat' (first | (conv => whnf); first | refine .w ?_ | refine .v ?_ | refine sc_c ?_ ?_ <;> (intro hb; try exact dd hb) | apply an | apply az | (apply sc_i <;> intro hb) | (apply bx_i; intro hbd) | (apply ar; first | fail) | (apply ap (i := 0) rfl; first | fail) | (apply ab_i; intro bl) | (apply as_i; intro va vk vc hva) | (apply av_i; intro v) | (apply ac_i; intro bl cap hcap) | apply bo_r | (apply nx_i <;> intro hnx) | exact rt_w | exact True.intro | (apply bc_i; intro C hC) | apply bt_i | apply og_n | (apply og_a; exact rfl))
 all_goals try conv => whnf
 exact ⟨_, List.Sublist.refl _, bl, va, vk, vc, hva, rfl, rfl⟩
abbrev escO (br vc : Nat) : HEnt := HEnt.row (.slice (some ⟨br, 0, none⟩) 8 vc) none 1 8 [.str [92], .str [92, 92], .str [44], .str [92, 44], .str [59], .str [92, 59], .str [10], .str [92, 110]]
abbrev escH (br bl vc : Nat) (cs : List AVal) (va : Option Addr) (vk vt bz b1 c1 b2 c2 b3 c3 b4 c4 : Nat) : Heap := [escO br vc, .cells bl (some 214) cs, .row (.slice va vk vt) (some 9) 1 4 [.str [10], .str [59], .str [44], .str [92]], .cells bz (some 293) (tabE (.own 4 (.slice (some ⟨b1, 0, none⟩) 2 c1)) (.own 5 (.slice (some ⟨b2, 0, none⟩) 2 c2)) (.own 6 (.slice (some ⟨b3, 0, none⟩) 2 c3)) (.own 7 (.slice (some ⟨b4, 0, none⟩) 2 c4)) (.own 2 (.slice va vk vt))), .buf b1 [92, 110] c1, .buf b2 [92, 59] c2, .buf b3 [92, 44] c3, .buf b4 [92, 92] c4]
theorem AT {G : Glo} (br bl vc : Nat) : ae Tryz.prog G 189 [.raw (pv bl 0)] [escO br vc, .cells bl (some 214) ((newC (.slice (some ⟨br, 0, none⟩) 8 vc)).set 1 (.int .i32 1))]
  (fun r H => ∃ va vk vt bz b1 c1 b2 c2 b3 c3 b4 c4, RowV 4 va vk ∧ r = .ret (.iface 294 (.own 3 (pv bz 0))) ∧ H = escH br bl vc ((newC (.slice (some ⟨br, 0, none⟩) 8 vc)).set 1 (.int .i32 1)) va vk vt bz b1 c1 b2 c2 b3 c3 b4 c4) := by
 have hGL : ad G [] := ab
 unfold newC
 refine gj 1 Tryz.func189 Tryz.call189 rfl rfl rfl rfl hGL rfl ?_
 intro C hC
 refine xn1 ?_
 intros
 have d0 : ([.str [92], .str [92, 92], .str [44], .str [92, 44], .str [59], .str [92, 59], .str [10], .str [92, 110]] : List AVal)[0]? = some (.str [92]) := rfl
 have r0 : cm (.slice (some ⟨br, 0, none⟩) 8 vc) br 8 ∧ 0 < 8 * 1 := ⟨⟨_, rfl⟩, by decide⟩
 have d1 : ([.str [92], .str [92, 92], .str [44], .str [92, 44], .str [59], .str [92, 59], .str [10], .str [92, 110]] : List AVal)[1]? = some (.str [92, 92]) := rfl
 have r1 : cm (.slice (some ⟨br, 0, none⟩) 8 vc) br 8 ∧ 1 < 8 * 1 := ⟨⟨_, rfl⟩, by decide⟩
 have d2 : ([.str [92], .str [92, 92], .str [44], .str [92, 44], .str [59], .str [92, 59], .str [10], .str [92, 110]] : List AVal)[2]? = some (.str [44]) := rfl
 have r2 : cm (.slice (some ⟨br, 0, none⟩) 8 vc) br 8 ∧ 2 < 8 * 1 := ⟨⟨_, rfl⟩, by decide⟩
 have d3 : ([.str [92], .str [92, 92], .str [44], .str [92, 44], .str [59], .str [92, 59], .str [10], .str [92, 110]] : List AVal)[3]? = some (.str [92, 44]) := rfl
 have r3 : cm (.slice (some ⟨br, 0, none⟩) 8 vc) br 8 ∧ 3 < 8 * 1 := ⟨⟨_, rfl⟩, by decide⟩
 have d4 : ([.str [92], .str [92, 92], .str [44], .str [92, 44], .str [59], .str [92, 59], .str [10], .str [92, 110]] : List AVal)[4]? = some (.str [59]) := rfl
 have r4 : cm (.slice (some ⟨br, 0, none⟩) 8 vc) br 8 ∧ 4 < 8 * 1 := ⟨⟨_, rfl⟩, by decide⟩
 have d5 : ([.str [92], .str [92, 92], .str [44], .str [92, 44], .str [59], .str [92, 59], .str [10], .str [92, 110]] : List AVal)[5]? = some (.str [92, 59]) := rfl
 have r5 : cm (.slice (some ⟨br, 0, none⟩) 8 vc) br 8 ∧ 5 < 8 * 1 := ⟨⟨_, rfl⟩, by decide⟩
 have d6 : ([.str [92], .str [92, 92], .str [44], .str [92, 44], .str [59], .str [92, 59], .str [10], .str [92, 110]] : List AVal)[6]? = some (.str [10]) := rfl
 have r6 : cm (.slice (some ⟨br, 0, none⟩) 8 vc) br 8 ∧ 6 < 8 * 1 := ⟨⟨_, rfl⟩, by decide⟩
 have d7 : ([.str [92], .str [92, 92], .str [44], .str [92, 44], .str [59], .str [92, 59], .str [10], .str [92, 110]] : List AVal)[7]? = some (.str [92, 110]) := rfl
 have r7 : cm (.slice (some ⟨br, 0, none⟩) 8 vc) br 8 ∧ 7 < 8 * 1 := ⟨⟨_, rfl⟩, by decide⟩
 refine rds hC hGL 5 ?_
 refine xn1 ?_
 intros
 refine qL (m := 4) hC hGL rfl rfl (by omega) rfl rfl rfl rfl rfl rfl rfl (fun bt => ?_)
 refine xn1 ?_
 intros
 refine rds hC hGL 5 ?_
 refine xn1 ?_
 intros
 refine aH hC hGL (bp [10] rfl (by intro v hv; simp only [List.mem_cons, List.not_mem_nil, or_false] at hv; omega) rfl rfl rfl rfl rfl rfl) rfl rfl ?_
 refine xn1 ?_
 intros
 refine aH hC hGL (bp [59] rfl (by intro v hv; simp only [List.mem_cons, List.not_mem_nil, or_false] at hv; omega) rfl rfl rfl rfl rfl rfl) rfl rfl ?_
 refine xn1 ?_
 intros
 refine aH hC hGL (bp [44] rfl (by intro v hv; simp only [List.mem_cons, List.not_mem_nil, or_false] at hv; omega) rfl rfl rfl rfl rfl rfl) rfl rfl ?_
 refine xn1 ?_
 intros
 refine aH hC hGL (bp [92] rfl (by intro v hv; simp only [List.mem_cons, List.not_mem_nil, or_false] at hv; omega) rfl rfl rfl rfl rfl rfl) rfl rfl ?_
 refine xn1 ?_
 intros
 exact ⟨_, List.Sublist.refl _, _, _, _, _, _, _, _, _, _, _, _, _, by assumption, rfl, rfl⟩
attribute [local irreducible] tabE
structure EscY where
 va : Option Addr
 vk : Nat
 vt : Nat
 bz : Nat
 b1 : Nat
 c1 : Nat
 b2 : Nat
 c2 : Nat
 b3 : Nat
 c3 : Nat
 b4 : Nat
 c4 : Nat
 h : RowV 4 va vk
abbrev EscY.H (y : EscY) (br bl vc : Nat) (cs : List AVal) : Heap := escH br bl vc cs y.va y.vk y.vt y.bz y.b1 y.c1 y.b2 y.c2 y.b3 y.c3 y.b4 y.c4
abbrev escA (y : EscY) : List AVal := [.int .u32 0, .int .i32 1, .int .u32 0, .iface 294 (.own 3 (pv y.bz 0)), .raw (.slice none 0 0)]
abbrev escQ (y : EscY) : List AVal := [.int .u32 1, .int .i32 0, .int .u32 0, .iface 294 (.own 3 (pv y.bz 0)), .raw (.slice none 0 0)]
theorem Ci {G : Glo} (br bl vc : Nat) : ae Tryz.prog G 158 [.raw (pv bl 0)] [escO br vc, .cells bl (some 214) ((newC (.slice (some ⟨br, 0, none⟩) 8 vc)).set 1 (.int .i32 1))]
  (fun r H => ∃ y : EscY, r = .ret (.tuple []) ∧ H = y.H br bl vc (escA y)) := by
 have hGL : ad G [] := ab
 have e1 := AT (G := G) br bl vc
 unfold newC at *
 refine gj 1 Tryz.func158 Tryz.call158 rfl rfl rfl rfl hGL rfl ?_
 intro C hC
 refine xm1 ?_
 intros
 refine ⟨_, e1, ?_, ?_⟩
 ·rintro v' H2 ⟨va, vk, vt, bz, b1, c1, b2, c2, b3, c3, b4, c4, hva, e, rfl⟩
  cases e
  refine xm1 ?_
  intros
  exact ⟨_, List.Sublist.refl _, ⟨va, vk, vt, bz, b1, c1, b2, c2, b3, c3, b4, c4, hva⟩, rfl, rfl⟩
 ·rintro v' H2 ⟨va, vk, vt, bz, b1, c1, b2, c2, b3, c3, b4, c4, hva, e, rfl⟩
  cases e
theorem Gr {G : Glo} (br bl vc : Nat) : ae Tryz.prog G 157 [.raw (pv bl 0), .func (.func 158) [.raw (pv bl 0)] []] [escO br vc, .cells bl (some 214) (newC (.slice (some ⟨br, 0, none⟩) 8 vc))]
  (fun r H => ∃ y : EscY, r = .ret (.tuple []) ∧ H = y.H br bl vc (escQ y)) := by
 have e1 := Ci (G := G) br bl vc
 have e2 := yX (G := G) (b := bl) (off := 0) (fid := 158) (eT := some 214) (cs := newC (.slice (some ⟨br, 0, none⟩) 8 vc)) (T := [escO br vc]) (Y := EscY) (cs2 := escA) (T2 := fun y => (y.H br bl vc (escA y)).eraseIdx 1) (l1 := [.raw (pv bl 0)]) (l2 := []) rfl rfl (fun _ => rfl) (fun _ => rfl) rfl rfl
  (by
   refine dP (dO (List.Perm.swap _ _ _) e1) ?_
   rintro r H ⟨y, rfl, rfl⟩
   exact ⟨_, List.Perm.swap _ _ _, y, rfl, rfl⟩)
 refine dP (dO (List.Perm.swap _ _ _) e2) ?_
 rintro r H ⟨y, rfl, rfl⟩
 exact ⟨_, List.Perm.swap _ _ _, y, rfl, rfl⟩
end
end Go.Proofs.YtahebkecmlmlfaaGreatDoor
