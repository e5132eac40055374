/- Parts of the proof of rulesTypes_card: Rnd, Nm, Shb, Tell, Telb, Rua, Ext. -/
import Derived.RangeFuncRecord
import Derived.RangeFuncSeq
import Derived.OrdersIn
import Derived.LoopNIn
import Derived.Below
import Derived.Laws.Externs
import Derived.Stop.Asserts
import Derived.Lib.Fields
import Derived.Test.YtjccffnjhdhgfaaGreatDoorBad
set_option linter.unusedVariables false
set_option linter.unusedSimpArgs false
namespace Go.Proofs.YtjccffnjhdhgfaaGreatDoor
open Go
set_option linter.unusedSimpArgs false
set_option linter.unusedSectionVars false
set_option linter.unusedVariables false
/-- The fence that lets all in: of plain frames, or of a round's. -/
def Fo (rd : Option Nat) : Fence := { fn := fun _ => True, depth := none, alive := false, round := rd }
theorem calls_fo {P : Program} {f : FuncId} {args : Array Value} {w : World} {R : Ending → World → Prop} (rd : Option Nat) (m : Nat) (h : Calls P f args w R) : CallsIn (Fo rd) m P f args w R := (callsIn_wide (n := m)).2 h
theorem rows_fo {P : Program} {row : String} {args : Array Value} {w : World} {R : Value → World → Prop} (rd : Option Nat) (m : Nat) (h : Rows P row args w R) : RowsIn (Fo rd) m P row args w R :=
  fun c cs _ => let ⟨v, w', r, s⟩ := h c cs; ⟨v, w', r, stepsIn_wide.2 s⟩
theorem post_out {C : Ctx} {n : Nat} {Q : AExit → Env → Heap → Prop} : ¬ LetsOut (Post C n Q) := by
  rintro ⟨a, w, x, env, H, R, q, er, _⟩
  cases x with
  | normal => cases er
  | exit i => cases er
  | goto i => cases er
  | ret => cases er
  | panic v => obtain ⟨y, e, _⟩ := er; cases e
def noDefer (l : List Oper) : Bool := l.all fun o => match o.op with
  | .defer _ => false
  | _ => true
theorem noDefer_mem {l : List Oper} (h : noDefer l = true) {o : Oper} (ho : o ∈ l) : ∀ c, o.op ≠ .defer c := by
  intro c e
  have := List.all_eq_true.1 h o ho
  rw [e] at this
  cases this
theorem sem_fo {rd : Option Nat} {ρ : Operand → Value} {o : Oper} (hd : ∀ c, o.op ≠ .defer c) : Oper.semAt rd ρ o = execOp ρ o := by
  cases rd with
  | none => exact Oper.semAt_none ρ o
  | some l => exact Oper.semAt_some l ρ o hd
section
variable {P : Program} {rd : Option Nat} {m : Nat} {ops : Array Oper} {Q0 Q : Exit → Act → World → Prop}
theorem upon_fo {o : Oper} {a : Act} {K K' : Act → World → Prop} {r : Result Next} (hk : ∀ a w, K a w → K' a w) (hp : ∀ c a w, Q0 (.panic c) a w → Q (.panic c) a w) (ho : ¬ LetsOut Q0) (h : o.upon P a K Q0 r) : o.uponIn (Fo rd) m P a K' Q r := by
  cases r with
  | ok x w' =>
    cases x <;> simp only [Oper.upon, Oper.uponIn] at h ⊢ <;> first
      | exact hk _ _ h
      | exact ⟨fun e => (by cases e), (calls_fo rd _ h).mono fun e w'' he => by cases e <;> first | exact hk _ _ he | exact hp _ _ _ he | exact absurd he ho⟩
      | exact ⟨fun e => (by cases e), (rows_fo rd _ h).mono fun _ _ he => hk _ _ he⟩
      | exact h.elim
  | halt x w' => cases x <;> simp only [Oper.upon, Oper.uponIn] at h ⊢ <;> exact hp _ _ _ h
theorem wpList_fo {l : List Oper} (hn : ∀ a w, Q0 .normal a w → wpListIn (Fo rd) m P ops Q l a w) (hp : ∀ c a w, Q0 (.panic c) a w → Q (.panic c) a w) (ho : ¬ LetsOut Q0) :
    ∀ {pre : List Oper} {a : Act} {w : World}, noDefer pre = true → wpList P ops Q0 pre a w → wpListIn (Fo rd) m P ops Q (pre ++ l) a w
  | [], a, w, _, h => hn a w h
  | o :: rest, a, w, hd, h => by
    have h1 := noDefer_mem hd (List.mem_cons_self ..)
    have h2 : noDefer rest = true := by
      unfold noDefer at hd ⊢
      rw [List.all_cons, Bool.and_eq_true] at hd
      exact hd.2
    simp only [wpList, List.cons_append, wpListIn] at h ⊢
    split
    · rename_i hw
      rw [if_pos hw] at h
      rcases h with h | ⟨_, h⟩
      · refine ⟨fun _ _ => trivial, ?_⟩
        rw [show (Fo rd).round = rd from rfl, sem_fo h1]
        exact upon_fo (fun a w h => wpList_fo hn hp ho h2 h) hp ho h
      · exact absurd h ho
    · rename_i hw
      rw [if_neg hw] at h
      exact ⟨fun _ _ => trivial, wpList_fo hn hp ho h2 h⟩
theorem wpOp_fo {i : Nat} {a : Act} {w : World} {K K' : Act → World → Prop} (hd : noDefer ops.toList = true) (hk : ∀ a w, K a w → K' a w) (ho : ¬ LetsOut Q) (h : wpOp P ops Q i K a w) : wpOpIn (Fo rd) m P ops Q i K' a w := by
  unfold wpOp at h
  unfold wpOpIn
  cases hi : ops[i]? with
  | none => rw [hi] at h; exact hk _ _ h
  | some o =>
    rw [hi] at h
    have h1 := noDefer_mem hd (List.mem_of_getElem? (i := i) (by rw [Array.getElem?_toList]; exact hi))
    dsimp only at h ⊢
    split
    · rename_i hw
      rw [if_pos hw] at h
      rcases h with h | ⟨_, h⟩
      · refine ⟨fun _ _ => trivial, ?_⟩
        rw [show (Fo rd).round = rd from rfl, sem_fo h1]
        exact upon_fo hk (fun _ _ _ q => q) ho h
      · exact absurd h ho
    · rename_i hw
      rw [if_neg hw] at h
      exact ⟨fun _ _ => trivial, hk _ _ h⟩
theorem wpAny_fo {md : Region.Mode} (hd : noDefer ops.toList = true) (ho : ¬ LetsOut Q) : ∀ (fuel : Nat) (listed : Array Bool) (a : Act) (w : World), wpAny P md ops Q fuel listed a w → wpAnyIn (Fo rd) m P md ops Q fuel listed a w
  | 0, _, _, _, h => h
  | fuel + 1, _, _, _, h => ⟨h.1, fun i hi => wpOp_fo hd (fun a w q => wpAny_fo hd ho fuel _ a w q) ho (h.2 i hi)⟩
end
/-! ## Code in a round -/
def AWpR (rd : Option Nat) (P : Program) (C : Ctx) (n : Nat) (c : Code) (env : Env) (H : Heap) (Q : AExit → Env → Heap → Prop) : Prop :=
  ∀ R a w, MS C R H w → FS C.D n R env a → c.wpIn (Fo rd) 0 P (Post C n Q) a w
section
variable {rd : Option Nat} {P : Program} {C : Ctx} {n : Nat} {env : Env} {H : Heap} {Q : AExit → Env → Heap → Prop} {G : Glo} {GL : List (Nat × List AVal)}
theorem AWpR.mono {c : Code} {Q' : AExit → Env → Heap → Prop} (h : AWpR rd P C n c env H Q) (hq : ∀ x e h, Q x e h → Q' x e h) : AWpR rd P C n c env H Q' :=
  fun R a w hm hf => Go.wpIn_mono (h R a w hm hf) fun _ _ _ ⟨x, en, H', R', q, r⟩ => ⟨x, en, H', R', hq _ _ _ q, r⟩
theorem awr_seq {x y : Code} (h : AWpR rd P C n x env H (thenQ (fun e h => AWpR rd P C n y e h Q) Q)) : AWpR rd P C n (.seq x y) env H Q := by
  intro R a w hm hf
  refine wpIn_seq (Go.wpIn_mono (h R a w hm hf) ?_)
  rintro e a' w' ⟨x', en, H', R', q, er, hm', hf'⟩
  cases x' with
  | normal => simp only [ExitRel] at er; subst er; exact q R' a' w' hm' hf'
  | exit i => simp only [ExitRel] at er; subst er; exact ⟨.exit i, en, H', R', q, rfl, hm', hf'⟩
  | goto i => simp only [ExitRel] at er; subst er; exact ⟨.goto i, en, H', R', q, rfl, hm', hf'⟩
  | ret => simp only [ExitRel] at er; subst er; exact ⟨.ret, en, H', R', q, rfl, hm', hf'⟩
  | panic v => obtain ⟨y, rfl, hr⟩ := er; exact ⟨.panic v, en, H', R', q, ⟨y, rfl, hr⟩, hm', hf'⟩
theorem awr_cond {c : Operand} {x y : Code} {b : Bool} (hc : evalA env c = some (.bool b)) (ht : b = true → AWpR rd P C n x env H Q) (hf : b = false → AWpR rd P C n y env H Q) : AWpR rd P C n (.cond c x y) env H Q := by
  intro R a w hm hfr
  exact wpIn_cond_split (rel_bool.1 (hfr.eval hc)) (fun e => ht e R a w hm hfr) (fun e => hf e R a w hm hfr)
theorem awr_block {id : Nat} {c : Code} (h : AWpR rd P C n c env H (blockQ id Q)) : AWpR rd P C n (.block id c) env H Q := by
  intro R a w hm hf
  refine wpIn_block (Go.wpIn_mono (h R a w hm hf) ?_)
  rintro e a' w' ⟨x', en, H', R', q, er, hm', hf'⟩
  cases x' with
  | normal => simp only [ExitRel] at er; subst er; exact ⟨.normal, en, H', R', q, rfl, hm', hf'⟩
  | exit i =>
    simp only [ExitRel] at er; subst er
    simp only [Exit.inBlock]
    by_cases e : i = id
    · rw [if_pos e]; exact ⟨.normal, en, H', R', q.1 e, rfl, hm', hf'⟩
    · rw [if_neg e]; exact ⟨.exit i, en, H', R', q.2 e, rfl, hm', hf'⟩
  | goto i => simp only [ExitRel] at er; subst er; exact ⟨.goto i, en, H', R', q, rfl, hm', hf'⟩
  | ret => simp only [ExitRel] at er; subst er; exact ⟨.ret, en, H', R', q, rfl, hm', hf'⟩
  | panic v => obtain ⟨y, rfl, hr⟩ := er; exact ⟨.panic v, en, H', R', q, ⟨y, rfl, hr⟩, hm', hf'⟩
theorem awr_region {id : Nat} {l : List Oper} (hd : noDefer l = true) (h : AOps P C n l.toArray l env H Q) : AWpR rd P C n (.region id l.toArray false) env H Q := by
  intro R a w hm hf
  refine wpIn_region_lit ?_
  have := wpList_fo (rd := rd) (m := 0) (l := []) (Q := Post C n Q) (fun a w q => wpListIn_nil q) (fun _ _ _ q => q) post_out hd (h R a w hm hf)
  rwa [List.append_nil] at this
theorem awr_draw {id : Nat} {l : List Oper} (hm : P.follows .mixedOrders = true) (hB : Region.lexB .any l.toArray = true) (hd : noDefer l = true) (h : AQ P C n l.toArray l env H (fun e => Q .normal e H)) :
    AWpR rd P C n (.region id l.toArray true) env H Q := by
  intro R a w hw hf
  refine wpIn_region_any hm (wpAny_fo (by simpa using hd) post_out _ _ _ _ ?_)
  have h1 := h R a hf
  have h2 : ∀ (l' : List Oper) (a : Act), wpQuiet P l.toArray (CW C R H) (fun a' => ∃ env', Q .normal env' H ∧ FS C.D n R env' a') l' a →
      wpQuiet P l.toArray (CW C R H) (fun a' => ∀ w', CW C R H w' → Post C n Q .normal a' w') l' a := by
    intro l'
    induction l' with
    | nil => rintro a ⟨env', hq, hfs⟩ w' ⟨R', hle, hms⟩; exact ⟨.normal, env', H, R', hq, rfl, hms, hfs.mono hle⟩
    | cons o r ih =>
      intro a h
      have h' := h
      unfold wpQuiet at h'
      refine wpQuiet_step fun X hX => ?_
      split
      · rename_i hw; rw [if_pos hw] at h'; exact Oper.quiet_mono (fun a' q => hX _ (ih a' q)) h'
      · rename_i hw; rw [if_neg hw] at h'; exact hX _ (ih _ h')
  simp only [Region.lexB, Bool.and_eq_true] at hB
  refine wpAny_of_quiet (C := CW C R H) (Q := fun a' => ∀ w', CW C R H w' → Post C n Q .normal a' w') (fun _ w' hw' h => h w' hw') _ _ _ _ ⟨R, Seal.le_refl R, hw.drawn _⟩ ?_
  have := wpAnyQ_lex (C := CW C R H) (md := .any) hB.1 l.toArray.toList 0 (Array.replicate l.toArray.size false) a (by simp) (by simpa using hB.2) (h2 _ _ (by simpa using h1))
  simpa using this
/-- Rounds of a loop. -/
def RoundsR (rd : Option Nat) (P : Program) (C : Ctx) (n : Nat) (c : Code) (Q : AExit → Env → Heap → Prop) : Nat → Env → Heap → Prop
  | 0, _, _ => False
  | k + 1, e, h => AWpR rd P C n c e h (thenQ (RoundsR rd P C n c Q k) Q)
theorem awr_rounds {c : Code} (k : Nat) (h : RoundsR rd P C n c Q k env H) : AWpR rd P C n (.loop c) env H Q := by
  intro R a w hm hf
  refine wpIn_loop_rounds k ?_
  induction k generalizing env H R a w with
  | zero => exact h.elim
  | succ k ih =>
    rw [roundsIn_succ]
    refine Go.wpIn_mono (h R a w hm hf) ?_
    rintro e a' w' ⟨x', en, H', R', q, er, hm', hf'⟩
    cases x' with
    | normal => simp only [ExitRel] at er; subst er; exact ih q R' a' w' hm' hf'
    | exit i => simp only [ExitRel] at er; subst er; exact ⟨.exit i, en, H', R', q, rfl, hm', hf'⟩
    | goto i => simp only [ExitRel] at er; subst er; exact ⟨.goto i, en, H', R', q, rfl, hm', hf'⟩
    | ret => simp only [ExitRel] at er; subst er; exact ⟨.ret, en, H', R', q, rfl, hm', hf'⟩
    | panic v => obtain ⟨y, rfl, hr⟩ := er; exact ⟨.panic v, en, H', R', q, ⟨y, rfl, hr⟩, hm', hf'⟩
theorem awr_sub {c : Code} {env' : Env} (hs : Env.sub env env') (h : AWpR rd P C n c env' H Q) : AWpR rd P C n c env H Q := fun R a w hm hf => h R a w hm (hf.sub hs)
/-- Code in a round, by reckoning: without loops, jumps, deferred calls, drawn regions. -/
noncomputable def codeR (P : Program) [Tab P] (C : Ctx) (n : Nat) (G : Glo) (GL : List (Nat × List AVal)) (c : Code) : Env → Heap → (AExit → Env → Heap → Prop) → Prop :=
  Code.rec (motive := fun _ => Env → Heap → (AExit → Env → Heap → Prop) → Prop)
    (fun env H Q => Q .normal env H)
    (fun _ ops d env H Q => match d with
      | false => match noDefer ops.toList with
        | true => opsX P C n G GL ops Q ops.toList env H
        | false => False
      | true => False)
    (fun _ _ iha ihb env H Q => iha env H (thenQ (fun e h => ihb e h Q) Q))
    (fun c _ _ ihx ihy env H Q => match evalA env c with
      | some (.bool b) => Sc b (ihx env H Q) (ihy env H Q)
      | _ => False)
    (fun id _ ih env H Q => ih env H (blockX id Q))
    (fun _ _ _ _ _ => False)
    (fun _ _ _ _ _ _ _ _ _ => False)
    (fun id env H Q => Q (.exit id) env H)
    (fun _ _ _ _ _ => False)
    (fun _ _ _ _ => False)
    (fun _ _ _ _ => False)
    (fun env H Q => Q .ret env H)
    (fun _ _ _ _ => False) c
theorem codeR_ok [Tab P] (hC : C.G = G) (hGL : GloAll G GL) : ∀ (c : Code) (env : Env) (H : Heap) (Q : AExit → Env → Heap → Prop), codeR P C n G GL c env H Q → AWpR rd P C n c env H Q
  | .skip, _, _, _, h => fun R _ _ hm hf => wpIn_skip ⟨.normal, _, _, R, h, rfl, hm, hf⟩
  | .region id ops dr, env, H, Q, h => by
    cases dr with
    | false =>
      replace h : (match noDefer ops.toList with
        | true => opsX P C n G GL ops Q ops.toList env H
        | false => False) := h
      cases hd : noDefer ops.toList with
      | false => rw [hd] at h; exact h.elim
      | true =>
        rw [hd] at h
        have e := call_args (a := ops) rfl
        have := awr_region (rd := rd) (id := id) hd (by rw [← e]; exact opsX_ok hC hGL _ _ _ h)
        rwa [← e] at this
    | true => exact False.elim h
  | .seq a b, env, H, Q, h => by
    replace h : codeR P C n G GL a env H (thenQ (fun e h => codeR P C n G GL b e h Q) Q) := h
    refine awr_seq ((codeR_ok hC hGL a env H _ h).mono ?_)
    intro x e h' q
    cases x with
    | normal => exact codeR_ok hC hGL b e h' Q q
    | exit i => exact q
    | goto i => exact q
    | ret => exact q
    | panic v => exact q
  | .cond c x y, env, H, Q, h => by
    replace h : (match evalA env c with
      | some (.bool b) => Sc b (codeR P C n G GL x env H Q) (codeR P C n G GL y env H Q)
      | _ => False) := h
    split at h
    · rename_i b hb
      exact awr_cond hb (fun e => codeR_ok hC hGL x env H Q (h.1 e)) (fun e => codeR_ok hC hGL y env H Q (h.2 e))
    · exact h.elim
  | .block id c, env, H, Q, h => awr_block ((codeR_ok hC hGL c env H _ h).mono fun _ _ _ q => blockX_ok q)
  | .exit id, _, _, _, h => fun R _ _ hm hf => wpIn_exit ⟨.exit id, _, _, R, h, rfl, hm, hf⟩
  | .ret, _, _, _, h => fun R _ _ hm hf => wpIn_ret ⟨.ret, _, _, R, h, rfl, hm, hf⟩
  | .loop c, _, _, _, h => False.elim h
  | .rangeFunc .., _, _, _, h => False.elim h
  | .scope _, _, _, _, h => False.elim h
  | .label _, _, _, _, h => False.elim h
  | .goto _, _, _, _, h => False.elim h
  | .refuse _, _, _, _, h => False.elim h
/-- A statement is walked; then the rest, from a state that is told. -/
theorem awr_cut [Tab P] {a b : Code} {X : Type} (hC : C.G = G) (hGL : GloAll G GL) (I : X → Env) (J : X → Heap) (Inv : X → Prop) (h1 : codeR P C n G GL a env H (thenQ (fun e h => Cy I J Inv e h) Q)) (h2 : ∀ x, Inv x → AWpR rd P C n b (I x) (J x) Q) : AWpR rd P C n (.seq a b) env H Q :=
  awr_seq ((codeR_ok hC hGL _ _ _ _ h1).mono fun x e h q => by
    cases x with
    | normal =>
      obtain ⟨y, hy, hs, rfl⟩ := q.h
      exact awr_sub hs (h2 y hy)
    | exit i => exact q
    | goto i => exact q
    | ret => exact q
    | panic v => exact q)
theorem awr_code [Tab P] {c : Code} (hC : C.G = G) (hGL : GloAll G GL) (h : codeR P C n G GL c env H Q) : AWpR rd P C n c env H Q := codeR_ok hC hGL _ _ _ _ h
/-- A drawn region, each of whose operations is quiet. -/
theorem awr_dwq [Tab P] {id : Nat} {ops : Array Oper} (hm : P.follows .mixedOrders = true) (hC : C.G = G) (hGL : GloAll G GL) (hB : (Region.lexB .any ops && noDefer ops.toList) = true) (h : quX P C n G GL H ops (fun e => Q .normal e H) ops.toList env) : AWpR rd P C n (.region id ops true) env H Q := by
  rw [Bool.and_eq_true] at hB
  have e := call_args (a := ops) rfl
  have := awr_draw (rd := rd) (P := P) (C := C) (n := n) (env := env) (H := H) (Q := Q) (id := id) (l := ops.toList) hm (by rw [← e]; exact hB.1) hB.2 (by rw [← e]; exact quX_ok hC hGL _ _ h)
  rwa [← e] at this
theorem rdsR [Tab P] {c : Code} {k : Nat} (h : AWpR rd P C n c env H (thenQ (RoundsR rd P C n c Q k) Q)) : RoundsR rd P C n c Q (k + 1) env H := h
end
/-! ## A call of yield -/
/-- What a call of yield answers. -/
def YSpec (P : Program) (G : Glo) (L : Nat) (avs : List AVal) (H : Heap) (Qf : Bool → Heap → Prop) : Prop :=
  ∀ R w args (hG : G.p R), MS ⟨w, R, blks H, G, hG, []⟩ R H w → RelV R avs args.toList →
    YieldAt Fence.wide 0 P L args w fun e w' => ∃ b H' R', Qf b H' ∧ e = .returned (.bool b) ∧ MS ⟨w, R, blks H, G, hG, []⟩ R' H' w'
/-- A loop's record: what stays, where it stands, the jump that waits. -/
def recL (r : Loop) (st : LoopState) (pe : Option Code) : Loop := { r with state := st, pending := pe }
abbrev objD (D : Nat) : HEnt := .obj D (.deferred (some []))
abbrev objL (L : Nat) (r : Loop) (st : LoopState) (pe : Option Code) : HEnt := .obj L (.loop (recL r st pe))
theorem ms_obj {C : Ctx} {R : Seal} {H : Heap} {w : World} {i L : Nat} {o : Obj} (h : MS C R H w) (hi : H[i]? = some (.obj L o)) : w.heap[L]? = some o := h.heap.holds _ (List.mem_of_getElem? hi)
theorem ms_putObj {C : Ctx} {R : Seal} {H : Heap} {w : World} {i L : Nat} {o : Obj} (o' : Obj) (h : MS C R H w) (hi : H[i]? = some (.obj L o)) : MS C R (H.set i (.obj L o')) (w.putObj L o') := by
  have hl := heap_lt (ms_obj h hi)
  exact h.write hi rfl ⟨rfl, rfl, rfl, World.putObj_size, World.putObj_heap_same hl, fun b hb => World.putObj_heap_other hb⟩ rfl (World.putObj_heap_same hl)
/-- How a round is left. -/
def RdQ (L : Nat) (r : Loop) (Qf : Bool → Heap → Prop) : AExit → Env → Heap → Prop
  | .normal, _, h => ∃ j, h[j]? = some (objL L r .busy none) ∧ Qf true (h.set j (objL L r .ready none))
  | .ret, _, h => ∃ j, h[j]? = some (objL L r .busy none) ∧ Qf false (h.set j (objL L r .done (some .ret)))
  | .exit i, _, h => ∃ j, h[j]? = some (objL L r .busy none) ∧ Qf false (h.set j (objL L r .done (some (.exit i))))
  | _, _, _ => False
section
variable {P : Program} {n : Nat} {env : Env} {H : Heap} {G : Glo} {GL : List (Nat × List AVal)}
theorem y_spec {L p i : Nat} {av : AVal} {r : Loop} {Qf : Bool → Heap → Prop} (hi : H[i]? = some (objL L r .ready none)) (hps : r.params = #[p]) (hp : Nat.ble (p + 1) n = true)
    (hfs : ∀ R, FS [] n R env { tmps := r.tmps, defers := [] })
    (ha : ∀ C : Ctx, C.G = G → C.D = [] → AWpR (some L) P C n r.assign ((p, av) :: env) H (fun x e h => x = .normal ∧ ∃ j, h[j]? = some (objL L r .ready none) ∧ AWpR (some L) P C n r.body e (h.set j (objL L r .busy none)) (RdQ L r Qf))) :
    YSpec P G L [av] H Qf := by
  intro R w args hG hm hargs
  obtain ⟨v, t, e, hv, ht⟩ := hargs
  obtain rfl : t = [] := ht
  have hargs' : args = #[v] := by rw [← Array.toList_inj]; exact e
  subst hargs'
  have hl := ms_obj hm hi
  have hy := run_yield (P := P) (args := #[v]) hl (by show 1 = r.params.size; rw [hps]; rfl)
  refine ⟨_, _, _, _, hy, roundIn_of_wpIn trivial ?_⟩
  have h1 := ha ⟨w, R, blks H, G, hG, []⟩ rfl rfl R _ w hm ((hfs R).put hp ⟨hv.1, hv.2⟩)
  have e1 : ((recL r .ready none).params.zip #[v]).foldl (fun tmps (t, a) => tmps.setIfInBounds t a) (recL r .ready none).tmps = r.tmps.setIfInBounds p v := by
    show (r.params.zip #[v]).foldl (fun tmps (t, a) => tmps.setIfInBounds t a) r.tmps = _
    rw [hps]
    simp
  rw [e1]
  refine Go.wpIn_mono h1 ?_
  rintro ex a' w' ⟨x, en, H', R', ⟨rfl, j, hj, hb⟩, er, hm', hf'⟩
  obtain rfl : ex = .normal := er
  refine ⟨_, run_beginRound (ms_obj hm' hj) rfl, ?_⟩
  refine Go.wpIn_mono (hb R' a' _ (ms_putObj _ hm' hj) hf') ?_
  rintro ex a2 w2 ⟨x, en2, H2, R2, q, er, hm2, hf2⟩
  cases x with
  | normal =>
    obtain rfl : ex = .normal := er
    obtain ⟨k, hk, q⟩ := q
    exact ⟨_, _, run_endRound none (ms_obj hm2 hk), true, _, R2, q, rfl, ms_putObj _ hm2 hk⟩
  | ret =>
    obtain rfl : ex = .ret := er
    obtain ⟨k, hk, q⟩ := q
    exact ⟨_, _, run_endRound (some .ret) (ms_obj hm2 hk), false, _, R2, q, rfl, ms_putObj _ hm2 hk⟩
  | exit id =>
    obtain rfl : ex = .exit id := er
    obtain ⟨k, hk, q⟩ := q
    exact ⟨_, _, run_endRound (some (.exit id)) (ms_obj hm2 hk), false, _, R2, q, rfl, ms_putObj _ hm2 hk⟩
  | goto i => exact q.elim
  | panic v => exact q.elim
/-- A call of yield, met in a walk. -/
structure YCall (P : Program) (G : Glo) (fv : Option AVal) (avs : Option (List AVal)) (H : Heap) (K : Bool → Heap → Prop) : Prop where
  h : ∃ L vs, fv = some (.func (.yield L) [] []) ∧ avs = some vs ∧ YSpec P G L vs H K
def yQ (P : Program) [Tab P] (C : Ctx) (n : Nat) (G : Glo) (GL : List (Nat × List AVal)) (ops : Array Oper) (d : Nat) (fv : Operand) (args : Array Operand) (post : List Oper) (Q : AExit → Env → Heap → Prop) : AExit → Env → Heap → Prop
  | .normal, e, h => YCall P G (evalA e fv) (argsA e args.toList) h fun b h' => opsX P C n G GL ops Q post ((d, .bool b) :: e) h'
  | x, e, h => Q x e h
/-- A region with one call of yield in it. -/
theorem aw_yield [Tab P] {C : Ctx} {Q : AExit → Env → Heap → Prop} {id d : Nat} {ops : Array Oper} {fv : Operand} {args : Array Operand} {ts : Array TypeId} {t : TypeId} {ps : String} {af : Array Edge} (k : Nat) (hC : C.G = G) (hGL : GloAll G GL)
    (hk : ops.toList[k]? = some { dst := some d, op := .call { callee := .value fv, args := args, argTypes := ts }, type := t, pos := ps, after := af, guard := none }) (hdn : Nat.ble (d + 1) n = true) (hnd : noDefer ops.toList = true)
    (h : opsX P C n G GL ops (yQ P C n G GL ops d fv args (ops.toList.drop (k + 1)) Q) (ops.toList.take k) env H) : AWp P C n (.region id ops false) env H Q := by
  intro R a w hm hf
  have hlt : k < ops.toList.length := (List.getElem?_eq_some_iff.1 hk).1
  have hsp : ops.toList = ops.toList.take k ++ { dst := some d, op := .call { callee := .value fv, args := args, argTypes := ts }, type := t, pos := ps, after := af, guard := none } :: ops.toList.drop (k + 1) := by
    have := List.take_append_drop k ops.toList
    rw [List.drop_eq_getElem_cons hlt, (List.getElem?_eq_some_iff.1 hk).2] at this
    exact this.symm
  have nd : ∀ {l : List Oper}, l.Sublist ops.toList → noDefer l = true := fun hs => List.all_eq_true.2 fun o ho => List.all_eq_true.1 hnd o (hs.subset ho)
  refine (wpIn_wide (n := 0)).1 (wpIn_region_list ?_)
  rw [hsp]
  refine wpList_fo (rd := none) (m := 0) (Q0 := Post C n (yQ P C n G GL ops d fv args (ops.toList.drop (k + 1)) Q)) ?_ ?_ post_out (nd (List.take_sublist _ _)) (opsX_ok hC hGL _ _ _ h R a w hm hf)
  · rintro a w ⟨x, en, H', R', q, er, hm', hf'⟩
    cases x with
    | normal =>
      obtain ⟨L, vs, h1, h2, hs⟩ := YCall.h q
      refine wpListIn_plain rfl fun K hK => ⟨fun _ _ => trivial, ?_⟩
      obtain ⟨x1, x2, e, r1, r2⟩ := rel_one (hf'.eval h1) rfl
      simp only [List.cons.injEq, and_true] at e
      have r1 : x1.toList = [] := r1
      have r2 : x2.toList = [] := r2
      have r1 : x1 = #[] := by rw [← Array.toList_inj]; exact r1
      have r2 : x2 = #[] := by rw [← Array.toList_inj]; exact r2
      subst r1; subst r2; subst hC
      have hrel : RelV R' vs (args.map a.eval).toList := by
        have := argsA_rel (fun x av h => hf'.eval h) h2
        simpa using this
      obtain ⟨fn, tmps, asg, body, hy, hR⟩ := hs R' w _ hm'.glo (MS.enter (H2 := []) (by simpa using hm')) hrel
      have hrun : (execOp a.eval { dst := some d, op := .call { callee := .value fv, args := args, argTypes := ts }, type := t, pos := ps, after := af, guard := none : Oper }).run P w = .ok (.round L fn tmps asg body) w := by
        rw [← hy]
        simp only [execOp, resolve, e, Deferred.ofValue, Sem.run_bind, Sem.run_pure, Result.andThen_ok, invoke, Array.empty_append, Array.append_empty]
      rw [show (Fo none).round = none from rfl, Oper.semAt_none, hrun, Oper.uponIn_round]
      refine ⟨fun e => (by cases e), hR.mono ?_⟩
      rintro e w' ⟨b, H2, R2, q2, rfl, hm2⟩
      have hm3 : MS C R2 H2 w' := by simpa using MS.call (H2 := []) (by simpa using hm') hm2
      refine hK _ _ ?_
      have := wpList_fo (rd := none) (m := 0) (l := []) (Q := Post C n Q) (fun a w q => wpListIn_nil q) (fun _ _ _ q => q) post_out (nd (List.drop_sublist _ _))
        (opsX_ok rfl hGL _ _ _ q2 R2 _ w' hm3 ((hf'.mono hm2.ge).put hdn (rel_bool.2 rfl)))
      rwa [List.append_nil] at this
    | exit i => cases er
    | goto i => cases er
    | ret => cases er
    | panic v => obtain ⟨y, e, _⟩ := er; cases e
  · rintro c a w ⟨x, en, H', R', q, er, hm', hf'⟩
    cases x with
    | normal => cases er
    | exit i => cases er
    | goto i => cases er
    | ret => cases er
    | panic v => exact ⟨.panic v, en, H', R', q, er, hm', hf'⟩
/-! ## The loop -/
def detE (env : Env) : Bool := env.all fun x => x.2.det
theorem env_get_mem : ∀ {env : Env} {k : Nat} {v : AVal}, Env.get env k = some v → (k, v) ∈ env
  | (j, x) :: t, k, v, h => by
    simp only [Env.get] at h
    split at h
    · rename_i hb
      have := Nat.eq_of_beq_eq_true hb
      subst this
      simp only [Option.some.injEq] at h
      subst h
      exact List.mem_cons_self ..
    · exact List.mem_cons_of_mem _ (env_get_mem h)
theorem fs_det {D : List Deferred} {R : Seal} {a : Act} (hd : detE env = true) (hf : FS D n R env a) (R' : Seal) : FS [] n R' env { tmps := a.tmps, defers := [] } := by
  refine ⟨fun k v hk => ?_, hf.size, rfl⟩
  obtain ⟨x, hx, hr⟩ := hf.fr k v hk
  have hdv : v.det = true := List.all_eq_true.1 hd _ (env_get_mem hk)
  refine ⟨x, hx, ?_⟩
  rw [det_eq hr hdv]
  exact det_rel hdv
abbrev colD (D : Nat) : Deferred := { target := .collected D, args := #[] }
/-- What is asked as the function that was ranged over has ended. -/
def LpQ (L D : Nat) (r : Loop) (C : Ctx) (env : Env) (Q : List Deferred → AExit → Env → Heap → Prop) (res : ARes) (h : Heap) : Prop :=
  ∃ v j st pe, res = .ret v ∧ h[j]? = some (objL L r st pe) ∧ st ≠ .busy ∧ (match pe with
    | none => Q (colD D :: C.D) .normal env (h.set j (objL L r .exhausted pe))
    | some .ret => Q (colD D :: C.D) .ret env (h.set j (objL L r .exhausted pe))
    | some (.exit i) => Q (colD D :: C.D) (.exit i) env (h.set j (objL L r .exhausted pe))
    | _ => False)
theorem awd_range {C : Ctx} {Q : List Deferred → AExit → Env → Heap → Prop} {g : Operand} {ps : Array Tmp} {assign body : Code} {f : FuncId} {l2 : List AVal} (hg : evalA env g = some (.func (.func f) [] l2))
    (hcf : ∀ args w, (callFunc f args).run P w = .ok (.enter f args) w) (env' : Env) (hs : Env.sub env env') (hdet : detE env' = true)
    (hit : ∀ (L D : Nat) (r : Loop), r.params = ps → r.assign = assign → r.body = body → (∀ R, FS [] n R env' { tmps := r.tmps, defers := [] }) →
      FnSpec P C.G f (AVal.func (.yield L) [] [] :: l2) (H ++ [objD D, objL L r .ready none]) (LpQ L D r C env' Q)) : AWpD P C n (.rangeFunc g ps assign body) env H Q := by
  intro R a w hm hf
  refine (wpIn_wide (n := 1)).1 (wpIn_rangeFunc ?_)
  intro fn _
  obtain ⟨r, hr⟩ : ∃ r : Loop, r = { state := .ready, pending := none, fn, tmps := a.tmps, params := ps, assign, body, defers := w.heap.size } := ⟨_, rfl⟩
  have hW : (w.alloc (.deferred (some []))).alloc (.loop r) = grow (grow w (.deferred (some []))) (.loop r) := rfl
  obtain ⟨x1, b1, e, q1, q2⟩ := rel_one (hf.eval hg) rfl
  simp only [List.cons.injEq, and_true] at e
  have q1 : x1.toList = [] := q1
  have q1 : x1 = #[] := by rw [← Array.toList_inj]; exact q1
  subst q1
  have hsz : (grow w (.deferred (some []))).heap.size = w.heap.size + 1 := by simp [grow]
  have hm1 : MS C R (objD w.heap.size :: H) (grow w (.deferred (some []))) := hm.alloc _ (objD w.heap.size) rfl (grow_at w _)
  have hm2 : MS C R (objL (w.heap.size + 1) r .ready none :: objD w.heap.size :: H) (grow (grow w (.deferred (some []))) (.loop r)) := by
    have hrr : recL r .ready none = r := by rw [hr]; rfl
    refine hm1.alloc _ (objL (w.heap.size + 1) r .ready none) (by rw [hsz]; rfl) ?_
    show (grow (grow w (.deferred (some []))) (.loop r)).heap[w.heap.size + 1]? = some (.loop (recL r .ready none))
    rw [hrr, ← hsz]
    exact grow_at _ _
  have hm3 : MS C R (H ++ [objD w.heap.size, objL (w.heap.size + 1) r .ready none]) (grow (grow w (.deferred (some []))) (.loop r)) := by
    refine hm2.perm ?_
    refine List.Perm.trans (List.Perm.swap _ _ _) ?_
    exact List.perm_append_comm (l₁ := [objD w.heap.size, objL (w.heap.size + 1) r .ready none]) (l₂ := H)
  have hspec := hit (w.heap.size + 1) w.heap.size r (by rw [hr]) (by rw [hr]) (by rw [hr]) (fun R' => by rw [hr]; exact fs_det hdet (hf.sub hs) R')
  refine ⟨w.heap.size + 1, [colD w.heap.size], grow (grow w (.deferred (some []))) (.loop r), { target := .fn (.func f) b1, args := #[.func (.yield (w.heap.size + 1)) #[] #[]] }, grow (grow w (.deferred (some []))) (.loop r), f,
    #[.func (.yield (w.heap.size + 1)) #[] #[]] ++ b1, grow (grow w (.deferred (some []))) (.loop r), ?_, ?_, fun _ _ => trivial, ?_, fun _ => Nat.le_refl _, ?_⟩
  · rw [← hW, hr]
    exact run_enterLoop_outer _ _ _ _ _
  · simp only [resolve, rangeCall, e]
    simp [go_sem, Deferred.ofValue]
  · simp only [invoke]
    exact hcf _ _
  · have hrel : RelV R (AVal.func (.yield (w.heap.size + 1)) [] [] :: l2) (#[Value.func (.yield (w.heap.size + 1)) #[] #[]] ++ b1).toList := by
      rw [Array.toList_append]
      exact ⟨.func (.yield (w.heap.size + 1)) #[] #[], _, rfl, ⟨⟨#[], #[], rfl, rfl, rfl⟩, rfl⟩, q2⟩
    have hcall := hspec R _ _ hm.glo (MS.enter (H2 := []) (by simpa using hm3)) hrel
    have hcalls : Calls P f (#[Value.func (.yield (w.heap.size + 1)) #[] #[]] ++ b1) (grow (grow w (.deferred (some []))) (.loop r)) (fun e w' => ∃ res H' R', LpQ (w.heap.size + 1) w.heap.size r C env' Q res H' ∧ EndRel R' res e ∧
        MS ⟨grow (grow w (.deferred (some []))) (.loop r), R, blks (H ++ [objD w.heap.size, objL (w.heap.size + 1) r .ready none]), C.G, hm.glo, []⟩ R' H' w') := by
      rcases hcall with ⟨_, h2⟩ | ⟨v, w', h1, _⟩
      · exact h2
      · rw [hcf] at h1; cases h1
    refine ((callsIn_wide (n := 1 - 1)).2 hcalls).mono ?_
    rintro e' w3 ⟨res, H', R', ⟨v, j, st, pe, rfl, hj, hst, hq⟩, ⟨y, rfl, _⟩, hm4⟩
    have hm5 : MS C R' H' w3 := by simpa using MS.call (H2 := []) (by simpa using hm3) hm4
    refine ⟨pe, _, run_endLoop (ms_obj hm5 hj) hst, ?_⟩
    have hm6 := ms_putObj (.loop { recL r st pe with state := .exhausted }) hm5 hj
    have hf6 : FS (colD w.heap.size :: C.D) n R' env' { a with defers := [colD w.heap.size] ++ a.defers } := by
      have h7 := (hf.sub hs).mono hm4.ge
      exact ⟨h7.fr, h7.size, by show colD w.heap.size :: a.defers = _; rw [h7.defers]⟩
    cases pe with
    | none => exact ⟨_, .normal, env', _, R', hq, rfl, hm6, hf6⟩
    | some c =>
      cases c with
      | ret => exact wpIn_ret ⟨_, .ret, env', _, R', hq, rfl, hm6, hf6⟩
      | exit i => exact wpIn_exit ⟨_, .exit i, env', _, R', hq, rfl, hm6, hf6⟩
      | _ => exact hq.elim
def blockD (id : Nat) (Q : List Deferred → AExit → Env → Heap → Prop) : List Deferred → AExit → Env → Heap → Prop
  | D, .exit i, e, h => (i = id → Q D .normal e h) ∧ (i ≠ id → Q D (.exit i) e h)
  | D, x, e, h => Q D x e h
theorem awd_block {C : Ctx} {Q : List Deferred → AExit → Env → Heap → Prop} {id : Nat} {c : Code} (h : AWpD P C n c env H (blockD id Q)) : AWpD P C n (.block id c) env H Q := by
  intro R a w hm hf
  refine wp_block (wp_mono (h R a w hm hf) ?_)
  rintro e a' w' ⟨D, x', en, H', R', q, er, hm', hf'⟩
  cases x' with
  | normal => simp only [ExitRel] at er; subst er; exact ⟨D, .normal, en, H', R', q, rfl, hm', hf'⟩
  | exit i =>
    simp only [ExitRel] at er; subst er
    simp only [Exit.inBlock]
    by_cases e : i = id
    · rw [if_pos e]; exact ⟨D, .normal, en, H', R', q.1 e, rfl, hm', hf'⟩
    · rw [if_neg e]; exact ⟨D, .exit i, en, H', R', q.2 e, rfl, hm', hf'⟩
  | goto i => simp only [ExitRel] at er; subst er; exact ⟨D, .goto i, en, H', R', q, rfl, hm', hf'⟩
  | ret => simp only [ExitRel] at er; subst er; exact ⟨D, .ret, en, H', R', q, rfl, hm', hf'⟩
  | panic v => obtain ⟨y, rfl, hr⟩ := er; exact ⟨D, .panic v, en, H', R', q, ⟨y, rfl, hr⟩, hm', hf'⟩
/-! ## As a function with marks leaves -/
def LvM (P : Program) (G : Glo) (n : Nat) (rs : List ResultVar) (env : Env) (D : List Deferred) (m : AMode) (H : Heap) (Qf : ARes → Heap → Prop) : Prop :=
  ∀ (C : Ctx) (R : Seal) (a : Act) (w : World) (fn : Func) (u : FrameMode) (D0 : List Deferred), C.G = G → fn.results.toList = rs → MS C R H w → FS D0 n R env a → ModeRel R m u →
    LeavesInM Fence.wide 0 P fn a.tmps (fun e w' => ∃ res H' R', Qf res H' ∧ EndRel R' res e ∧ MS C R' H' w') D u w
variable {rs : List ResultVar} {Qf : ARes → Heap → Prop} {D : List Deferred} {m : AMode}
theorem lvm_ret [Tab P] (h : RetX P rs Qf .ret env H) : LvM P G n rs env [] .ret H Qf := by
  rintro C R a w fn u D0 hC hrs hm hf rfl
  obtain ⟨vs, H'', hv, hs, q⟩ := RetX_ok h
  obtain ⟨y, hy, hr⟩ := results_run (fn := fn) hm hf (by rw [hrs]; exact hv)
  exact ⟨y, hy, _, H'', R, q, ⟨y, rfl, hr⟩, hm.drop hs⟩
theorem lvm_col {i d : Nat} (hi : H[i]? = some (objD d)) (h : LvM P G n rs env D m (H.set i (.obj d (.deferred none))) Qf) : LvM P G n rs env (colD d :: D) m H Qf := by
  rintro C R a w fn u D0 hC hrs hm hf hu
  refine ⟨mode_run hu, .inl ⟨d, _, rfl, run_takeDeferred (ms_obj hm hi), h C R a _ fn u D0 hC hrs (ms_putObj _ hm hi) hf hu⟩⟩
def LvQM (P : Program) (G : Glo) (n : Nat) (rs : List ResultVar) (Qf : ARes → Heap → Prop) : List Deferred → AExit → Env → Heap → Prop
  | D, .ret, e, H | D, .normal, e, H => LvM P G n rs e D .ret H Qf
  | D, .panic v, e, H => LvM P G n rs e D (.pan v) H Qf
  | _, _, _, _ => False
theorem fn_m {f : FuncId} {fn : Func} {c : Code} {avs : List AVal} (hf : P.funcs[f]? = some fn)
    (hc : ∀ args w, (callFunc f args).run P w = .ok (.enter f args) w) (hb : fn.body = some c) (hn : fn.ntmps = n) (hrs : fn.results = rs.toArray) (hlen : Nat.ble avs.length n = true)
    (h : ∀ C : Ctx, C.G = G → C.D = [] → AWpD P C n c (argEnv 0 avs) H (LvQM P G n rs Qf)) : FnSpec P G f avs H Qf := by
  intro R w args hG hm ha
  refine .inl ⟨hc args w, (callsIn_wide (n := 0)).1 (callsIn_of_wp_marks hf hb trivial ((wpIn_wide (n := 0)).2 ?_))⟩
  subst hn
  have hrs' : fn.results.toList = rs := by rw [hrs]
  refine wp_mono (h ⟨w, R, blks H, G, hG, []⟩ rfl rfl R _ w hm (arg_fs hlen ha)) ?_
  rintro e a' w' ⟨D, x, env', H', R', q, er, hm', hf'⟩
  cases x with
  | normal =>
    simp only [ExitRel] at er; subst er
    have := q _ R' a' w' fn .returning D rfl hrs' hm' hf' rfl
    rwa [← hf'.defers] at this
  | ret =>
    simp only [ExitRel] at er; subst er
    have := q _ R' a' w' fn .returning D rfl hrs' hm' hf' rfl
    rwa [← hf'.defers] at this
  | panic v =>
    obtain ⟨y, rfl, hr⟩ := er
    have := q _ R' a' w' fn (.panicking [{ v := y, recovered := false }]) D rfl hrs' hm' hf' ⟨y, rfl, hr⟩
    rwa [← hf'.defers] at this
  | exit i => exact q.elim
  | goto i => exact q.elim
end
end Go.Proofs.YtjccffnjhdhgfaaGreatDoor
namespace Go.Proofs.YtjccffnjhdhgfaaGreatDoor
open Go
set_option maxRecDepth 20000
set_option maxHeartbeats 4000000
set_option linter.unusedSimpArgs false
set_option linter.unusedVariables false
attribute [local irreducible] AWp AOps byteAt SrcOK OrOk GloAll FnSpec
theorem ext_byteAt {s t : List UInt8} (h : t.length = s.length) (hb : ∀ j, j < s.length → byteAt t j = byteAt s j) : t = s := by
  apply List.ext_getElem h
  intro i h1 h2
  have := hb i h2
  simp only [byteAt, List.getD, List.getElem?_eq_getElem h1, List.getElem?_eq_getElem h2, Option.getD_some] at this
  exact UInt8.toNat_inj.1 this
def turnN (low high by_ : Int) (c : Nat) : Int := if low ≤ c ∧ (c : Int) ≤ high then c + by_ else c
def turnS (low high by_ : Int) (s : List UInt8) : List UInt8 := s.map fun c => UInt8.ofNat (turnN low high by_ c.toNat).toNat
theorem byteAt_turn {low high by_ : Int} (h1 : 0 ≤ low + by_) (h2 : high + by_ ≤ 255) {s : List UInt8} {j : Nat} (h : j < s.length) : (byteAt (turnS low high by_ s) j : Int) = turnN low high by_ (byteAt s j) := by
  have e : (byteAt (turnS low high by_ s) j) = (UInt8.ofNat (turnN low high by_ s[j].toNat).toNat).toNat := by
    simp [byteAt, turnS, List.getD, h]
  have e2 : byteAt s j = s[j].toNat := by simp [byteAt, List.getD, h]
  rw [e, e2, UInt8.toNat_ofNat']
  have := UInt8.toNat_lt s[j]
  unfold turnN
  split <;> omega
/-- How far the turning has come. -/
def Turned (low high by_ : Int) (s : List UInt8) (x : Nat × List UInt8) : Prop :=
  x.1 ≤ s.length ∧ x.2.length = s.length ∧ ∀ j, j < s.length → (byteAt x.2 j : Int) = if j < x.1 then turnN low high by_ (byteAt s j) else byteAt s j
theorem turned_0 {low high by_ : Int} {s : List UInt8} : Turned low high by_ s (0, s) := ⟨Nat.zero_le _, rfl, fun j _ => by rw [if_neg (by simp)]⟩
theorem turned_at {low high by_ : Int} {s : List UInt8} {i : Nat} {t : List UInt8} (h : Turned low high by_ s (i, t)) (hi : i < s.length) : byteAt t i = byteAt s i := by
  have := h.2.2 i hi
  rw [if_neg (by simp)] at this
  exact Int.ofNat.inj this
theorem turned_hit {low high by_ : Int} {s : List UInt8} {i : Nat} {t : List UInt8} (h : Turned low high by_ s (i, t)) (hi : i < s.length) {m : Int} (hm : m = turnN low high by_ (byteAt s i)) (h0 : 0 ≤ m) (h1 : m ≤ 255) :
    Turned low high by_ s (i + 1, t.set i (UInt8.ofNat m.toNat)) := by
  obtain ⟨h2, h3, h4⟩ := h
  refine ⟨hi, by simp only [List.length_set]; exact h3, fun j hj => ?_⟩
  dsimp only at *
  rw [byteAt_set (by omega) (by omega) (by omega)]
  by_cases e : j = i
  · subst e
    rw [if_pos rfl, if_pos (by omega), hm]
  · rw [if_neg e, h4 j hj]
    by_cases e2 : j < i
    · rw [if_pos e2, if_pos (by omega)]
    · rw [if_neg e2, if_neg (by omega)]
theorem turned_miss {low high by_ : Int} {s : List UInt8} {i : Nat} {t : List UInt8} (h : Turned low high by_ s (i, t)) (hi : i < s.length) (hm : turnN low high by_ (byteAt s i) = byteAt s i) :
    Turned low high by_ s (i + 1, t) := by
  refine ⟨hi, h.2.1, fun j hj => ?_⟩
  have := h.2.2 j hj
  dsimp only at *
  rw [this]
  by_cases e : j = i
  · subst e
    rw [if_neg (by omega), if_pos (by omega), hm]
  · by_cases e2 : j < i
    · rw [if_pos e2, if_pos (by omega)]
    · rw [if_neg e2, if_neg (by omega)]
theorem turned_end {low high by_ : Int} (h1 : 0 ≤ low + by_) (h2 : high + by_ ≤ 255) {s : List UInt8} {i : Nat} {t : List UInt8} (h : Turned low high by_ s (i, t)) (hi : s.length ≤ i) : t = turnS low high by_ s := by
  refine ext_byteAt (by simp only [turnS, List.length_map]; exact h.2.1) (fun j hj => ?_)
  have hj' : j < s.length := by simpa [turnS] using hj
  have := h.2.2 j hj'
  rw [if_pos (show j < i by omega), ← byteAt_turn h1 h2 hj'] at this
  exact Int.ofNat.inj this
theorem name_turn {G : Glo} (s : List UInt8) (low high by_ : Int) (h1 : 0 ≤ low + by_) (h2 : high + by_ ≤ 255) (h3 : 0 ≤ low) (h4 : high ≤ 255) (h5 : -300 ≤ by_) (h6 : by_ ≤ 300) (hl : s.length ≤ 9223372036854775807) :
    FnIs Tryz.prog G 34 [.str s, .int .u8 low, .int .u8 high, .int .i64 by_] (.str (turnS low high by_ s)) := by
  have hGL : GloAll G [] := gloAll_nil
  refine fn_x Tryz.func34 Tryz.call34 rfl rfl rfl rfl hGL ?_
  intro C hC
  repeat' (first
    | (conv => whnf); first
      | refine .w ?_ | refine .v ?_ | apply sc_true | apply sc_false
      | (first | apply sc_lt | apply sc_nlt | apply sc_eq | apply sc_neq | apply sc_nil | apply sc_nnil | apply sc_seq | apply sc_nseq) <;> (intro hb; try exact dd hb)
      | apply sc_not | apply sc_or | (apply sc_i <;> intro hb)
      | (apply bx_i; intro hbd) | (apply gt_i; assumption; exact rfl)
      | (apply cx_is; first | fail) | (apply cx_do (i := 0) rfl; first | fail)
      | (apply ab_i; intro bl) | (apply as_i; intro va vk vc hva) | (apply av_i; intro v) | (apply ac_i; intro bl cap hcap)
      | apply bo_l | (apply nx_i <;> intro hnx) | (apply Ia.hit; assumption) | (apply Ia.miss; assumption)
      | (apply rt_is; exact rfl) | exact rt_w | (apply iv; assumption)
      | apply dw_q mixed hC hGL (by kernel_rfl) | (apply cq; assumption; (first | fail); exact rfl))
  all_goals (try conv => whnf)
  refine lp hC hGL (fun (x : Nat × List UInt8) => [(1, .int .u8 low), (2, .int .u8 high), (3, .int .i64 by_), (9, .own 0 (.slice (some ⟨bl, 0, none⟩) s.length cap)), (14, .own 0 (.slice (some ⟨bl, 0, none⟩) s.length cap)), (15, .int .i64 s.length), (16, .int .i64 x.1)]) (fun x => [.buf bl x.2 cap]) (Turned low high by_ s) (fun x => s.length - x.1) (0, s) ?_ env_w rfl ?_
  · exact turned_0
  rintro ⟨i, t⟩ hI
  have hi := hI.1
  have ht := hI.2.1
  dsimp only at hi ht ⊢
  repeat' (first
    | (conv => whnf); first
      | refine .w ?_ | refine .v ?_ | apply sc_true | apply sc_false
      | (first | apply sc_lt | apply sc_nlt | apply sc_eq | apply sc_neq | apply sc_nil | apply sc_nnil | apply sc_seq | apply sc_nseq) <;> (intro hb; try exact dd hb)
      | apply sc_not | apply sc_or | (apply sc_i <;> intro hb)
      | (apply bx_i; intro hbd) | (apply gt_i; assumption; exact rfl)
      | (apply cx_is; first | fail) | (apply cx_do (i := 0) rfl; first | fail)
      | (apply ab_i; intro bl) | (apply as_i; intro va vk vc hva) | (apply av_i; intro v) | (apply ac_i; intro bl cap hcap)
      | apply bo_l | (apply nx_i <;> intro hnx) | (apply Ia.hit; assumption) | (apply Ia.miss; assumption)
      | (apply rt_is; exact rfl) | exact rt_w | (apply iv; assumption)
      | apply dw_q mixed hC hGL (by kernel_rfl) | (apply cq; assumption; (first | fail); exact rfl))
  all_goals (try conv => whnf)
  · refine nxt (i + 1, t.set i (UInt8.ofNat ((byteAt t i : Int) + by_).toNat)) ?_ ?_ env_w rfl
    · have e := turned_at hI (by omega)
      refine turned_hit hI (by omega) ?_ (by omega) (by omega)
      unfold turnN
      rw [if_pos (by omega)]
      omega
    · dsimp only; omega
  iterate 2
    · refine nxt (i + 1, t) ?_ ?_ env_w rfl
      · have e := turned_at hI (by omega)
        refine turned_miss hI (by omega) ?_
        unfold turnN
        rw [if_neg (by omega)]
      · dsimp only; omega
  · apply rt_is
    rw [turned_end h1 h2 hI (by omega)]
theorem name_Upper {G : Glo} (s : List UInt8) (hl : s.length ≤ 9223372036854775807) : FnIs Tryz.prog G 23 [.str s] (.str (turnS 97 122 (-32) s)) := by
  have hGL : GloAll G [] := gloAll_nil
  refine fn_x Tryz.func23 Tryz.call23 rfl rfl rfl rfl hGL ?_
  intro C hC
  have ht := name_turn (G := G) s 97 122 (-32) (by decide) (by decide) (by decide) (by decide) (by decide) (by decide) hl
  repeat' (first
    | (conv => whnf); first
      | refine .w ?_ | refine .v ?_ | apply sc_true | apply sc_false
      | (first | apply sc_lt | apply sc_nlt | apply sc_eq | apply sc_neq | apply sc_nil | apply sc_nnil | apply sc_seq | apply sc_nseq) <;> (intro hb; try exact dd hb)
      | apply sc_not | apply sc_or | (apply sc_i <;> intro hb)
      | (apply bx_i; intro hbd) | (apply gt_i; assumption; exact rfl)
      | (apply cx_is; first | exact ht) | (apply cx_do (i := 0) rfl; first | exact ht)
      | (apply ab_i; intro bl) | (apply as_i; intro va vk vc hva) | (apply av_i; intro v) | (apply ac_i; intro bl cap hcap)
      | apply bo_l | (apply nx_i <;> intro hnx) | (apply Ia.hit; assumption) | (apply Ia.miss; assumption)
      | (apply rt_is; exact rfl) | exact rt_w | (apply iv; assumption)
      | apply dw_q mixed hC hGL (by kernel_rfl) | (apply cq; assumption; (first | exact ht); exact rfl))
  all_goals (try conv => whnf)
theorem name_Lower {G : Glo} (s : List UInt8) (hl : s.length ≤ 9223372036854775807) : FnIs Tryz.prog G 28 [.str s] (.str (turnS 65 90 32 s)) := by
  have hGL : GloAll G [] := gloAll_nil
  refine fn_x Tryz.func28 Tryz.call28 rfl rfl rfl rfl hGL ?_
  intro C hC
  have ht := name_turn (G := G) s 65 90 32 (by decide) (by decide) (by decide) (by decide) (by decide) (by decide) hl
  repeat' (first
    | (conv => whnf); first
      | refine .w ?_ | refine .v ?_ | apply sc_true | apply sc_false
      | (first | apply sc_lt | apply sc_nlt | apply sc_eq | apply sc_neq | apply sc_nil | apply sc_nnil | apply sc_seq | apply sc_nseq) <;> (intro hb; try exact dd hb)
      | apply sc_not | apply sc_or | (apply sc_i <;> intro hb)
      | (apply bx_i; intro hbd) | (apply gt_i; assumption; exact rfl)
      | (apply cx_is; first | exact ht) | (apply cx_do (i := 0) rfl; first | exact ht)
      | (apply ab_i; intro bl) | (apply as_i; intro va vk vc hva) | (apply av_i; intro v) | (apply ac_i; intro bl cap hcap)
      | apply bo_l | (apply nx_i <;> intro hnx) | (apply Ia.hit; assumption) | (apply Ia.miss; assumption)
      | (apply rt_is; exact rfl) | exact rt_w | (apply iv; assumption)
      | apply dw_q mixed hC hGL (by kernel_rfl) | (apply cq; assumption; (first | exact ht); exact rfl))
  all_goals (try conv => whnf)
theorem name_Same {G : Glo} (s t : List UInt8) (hl : s.length ≤ 9223372036854775807) (hm : t.length ≤ 9223372036854775807) : FnIs Tryz.prog G 29 [.str s, .str t] (.bool (seqB (turnS 97 122 (-32) s) (turnS 97 122 (-32) t))) := by
  have hGL : GloAll G [] := gloAll_nil
  refine fn_x Tryz.func29 Tryz.call29 rfl rfl rfl rfl hGL ?_
  intro C hC
  have h1 := name_Upper (G := G) s hl
  have h2 := name_Upper (G := G) t hm
  repeat' (first
    | (conv => whnf); first
      | refine .w ?_ | refine .v ?_ | apply sc_true | apply sc_false
      | (first | apply sc_lt | apply sc_nlt | apply sc_eq | apply sc_neq | apply sc_nil | apply sc_nnil | apply sc_seq | apply sc_nseq) <;> (intro hb; try exact dd hb)
      | apply sc_not | apply sc_or | (apply sc_i <;> intro hb)
      | (apply bx_i; intro hbd) | (apply gt_i; assumption; exact rfl)
      | (apply cx_is; first | exact h1 | exact h2) | (apply cx_do (i := 0) rfl; first | exact h1 | exact h2)
      | (apply ab_i; intro bl) | (apply as_i; intro va vk vc hva) | (apply av_i; intro v) | (apply ac_i; intro bl cap hcap)
      | apply bo_l | (apply nx_i <;> intro hnx) | (apply Ia.hit; assumption) | (apply Ia.miss; assumption)
      | (apply rt_is; exact rfl) | exact rt_w | (apply iv; assumption)
      | apply dw_q mixed hC hGL (by kernel_rfl) | (apply cq; assumption; (first | exact h1 | exact h2); exact rfl))
  all_goals (try conv => whnf)
def letterB (c : Int) : Bool := decide ((97 ≤ c ∧ c ≤ 122) ∨ (65 ≤ c ∧ c ≤ 90) ∨ (48 ≤ c ∧ c ≤ 57) ∨ c = 45)
attribute [local irreducible] letterB
/-- All bytes are such. -/
def allB (f : Int → Bool) (s : List UInt8) : Bool := s.all fun c => f (c.toNat : Int)
def isS (s : List UInt8) : Bool := allB letterB s && (decide (s.length ≠ 0) && decide (s.length ≤ 40))
theorem ref_within {G : Glo} (m low high : Int) : FnIs Tryz.prog G 30 [.int .i64 m, .int .i64 low, .int .i64 high] (.bool (decide (low ≤ m) && decide (m ≤ high))) := by
  have hGL : GloAll G [] := gloAll_nil
  refine fn_x Tryz.func30 Tryz.call30 rfl rfl rfl rfl hGL ?_
  intro C hC
  repeat' (first
    | (conv => whnf); first
      | refine .w ?_ | refine .v ?_ | apply sc_true | apply sc_false
      | (first | apply sc_lt | apply sc_nlt | apply sc_eq | apply sc_neq | apply sc_nil | apply sc_nnil | apply sc_seq | apply sc_nseq) <;> (intro hb; try exact dd hb)
      | apply sc_not | apply sc_or | (apply sc_i <;> intro hb)
      | (apply bx_i; intro hbd) | (apply gt_i; assumption; exact rfl)
      | (apply cx_is; first | fail) | (apply cx_do (i := 0) rfl; first | fail)
      | (apply ab_i; intro bl) | (apply as_i; intro va vk vc hva) | (apply av_i; intro v) | (apply ac_i; intro bl cap hcap)
      | apply bo_l | (apply nx_i <;> intro hnx) | (apply Ia.hit; assumption) | (apply Ia.miss; assumption)
      | (apply rt_is; exact rfl) | exact rt_w | (apply iv; assumption)
      | apply dw_q mixed hC hGL (by kernel_rfl) | (apply cq; assumption; (first | fail); exact rfl))
  all_goals (try conv => whnf)
  all_goals (apply rt_is; refine congrArg AVal.bool ?_; rw [Bool.eq_iff_iff]; simp [ltB_f, Bool.not_eq_true'] <;> omega)
end Go.Proofs.YtjccffnjhdhgfaaGreatDoor
namespace Go.Proofs.YtjccffnjhdhgfaaGreatDoor
open Go Go.RowKit
theorem fnis_of_calls {P : Program} {G : Glo} {f : FuncId} {avs : List AVal} {v : AVal} (hdet : v.det = true) (hc : ∀ args w, (callFunc f args).run P w = .ok (.enter f args) w)
    (h : ∀ R args, RelV R avs args.toList → ∀ w, G.p R → Sealed R w → Calls P f args w fun e w' => e = .returned v.conc ∧ Below w.heap.size w w') : FnIs P G f avs v := by
  intro R w args hG hm ha
  refine .inl ⟨hc args w, (h R args ha w hG hm.sealed).mono ?_⟩
  rintro e w' ⟨rfl, hb⟩
  refine ⟨.ret v, [], R, ⟨rfl, rfl⟩, ⟨_, rfl, det_rel hdet⟩, ?_⟩
  refine ⟨?_, Seal.le_refl R, fun _ hb => .inl hb, ⟨fun _ h => absurd h List.not_mem_nil, List.nodup_nil, fun _ h => absurd h List.not_mem_nil⟩, fun _ h => absurd h List.not_mem_nil,
    ⟨hb.os, hb.tape, hb.output, hb.size, fun b hlt _ => hb.block b hlt⟩⟩
  intro b o ho
  have h1 := hm.sealed b o ho
  have hlt : b < w.heap.size := by
    rcases Nat.lt_or_ge b w.heap.size with h | h
    · exact h
    · rw [Array.getElem?_eq_none h] at h1; cases h1
  rw [hb.block b hlt, h1]
/-- The same, of any value that no sealed memory is asked for. -/
theorem fnis_of_calls_v {P : Program} {G : Glo} {f : FuncId} {avs : List AVal} {v : AVal} (u : Value) (hu : ∀ R, Rel R v u) (hc : ∀ args w, (callFunc f args).run P w = .ok (.enter f args) w)
    (h : ∀ R args, RelV R avs args.toList → ∀ w, G.p R → Sealed R w → Calls P f args w fun e w' => e = .returned u ∧ Below w.heap.size w w') : FnIs P G f avs v := by
  intro R w args hG hm ha
  refine .inl ⟨hc args w, (h R args ha w hG hm.sealed).mono ?_⟩
  rintro e w' ⟨rfl, hb⟩
  refine ⟨.ret v, [], R, ⟨rfl, rfl⟩, ⟨_, rfl, hu R⟩, ?_⟩
  refine ⟨?_, Seal.le_refl R, fun _ hb => .inl hb, ⟨fun _ h => absurd h List.not_mem_nil, List.nodup_nil, fun _ h => absurd h List.not_mem_nil⟩, fun _ h => absurd h List.not_mem_nil,
    ⟨hb.os, hb.tape, hb.output, hb.size, fun b hlt _ => hb.block b hlt⟩⟩
  intro b o ho
  have h1 := hm.sealed b o ho
  have hlt : b < w.heap.size := by
    rcases Nat.lt_or_ge b w.heap.size with h | h
    · exact h
    · rw [Array.getElem?_eq_none h] at h1; cases h1
  rw [hb.block b hlt, h1]
theorem arr_of {args : Array Value} {l : List Value} (h : args.toList = l) : args = l.toArray := by rw [← h]
theorem rel_tup2 {R : Seal} {a b : AVal} {x y : Value} (h : Rel R a x) (k : Rel R b y) : Rel R (.tuple [a, b]) (.tuple #[x, y]) :=
  ⟨⟨_, rfl, _, _, rfl, ⟨h.1, h.2⟩, _, _, rfl, ⟨k.1, k.2⟩, rfl⟩, rfl⟩
theorem fnis_extern {P : Program} {G : Glo} {f : FuncId} {fn : Func} {e : Array Value → Sem Value} {avs : List AVal} {v : AVal} (hf : P.funcs[f]? = some fn) (hname : (fn.name == "runtime.NumGoroutine") = false)
    (hb : fn.body.isNone = true) (hn : Extern.findNext fn = none) (he : Extern.find fn = some e)
    (h : ∀ R args, RelV R avs args.toList → ∀ w, ∃ x, (e args).run P w = .ok x w ∧ Rel R v x) : FnIs P G f avs v := by
  intro R w args hG hm ha
  obtain ⟨x, hx, hr⟩ := h R args ha w
  refine .inr ⟨x, w, ?_, .ret v, [], R, ⟨rfl, rfl⟩, ⟨x, rfl, hr⟩, hm⟩
  rw [run_callFunc_extern hf hname hb hn he]
  simp only [hx, Result.andThen_ok]
/-- What the model answers, whatever it does to memory. -/
theorem fnspec_extern {P : Program} {G : Glo} {f : FuncId} {fn : Func} {e : Array Value → Sem Value} {avs : List AVal} {H : Heap} {v : AVal} {H' : Heap} (hf : P.funcs[f]? = some fn) (hname : (fn.name == "runtime.NumGoroutine") = false)
    (hb : fn.body.isNone = true) (hn : Extern.findNext fn = none) (he : Extern.find fn = some e)
    (h : ∀ C R args w, MS C R H w → RelV R avs args.toList → ∃ x w' R', (e args).run P w = .ok x w' ∧ R.le R' ∧ Rel R' v x ∧ MS C R' H' w') : FnSpec P G f avs H (fun r h => r = .ret v ∧ h = H') := by
  intro R w args hG hm ha
  obtain ⟨x, w', R', hx, hle, hr, hm'⟩ := h _ R args w hm ha
  refine .inr ⟨x, w', ?_, .ret v, H', R', ⟨rfl, rfl⟩, ⟨x, rfl, hr⟩, hm'⟩
  rw [run_callFunc_extern hf hname hb hn he]
  simp only [hx, Result.andThen_ok]
/-- The same, where a new variable is laid that nobody will write. -/
theorem fnis_extern_new {P : Program} {G : Glo} {f : FuncId} {fn : Func} {e : Array Value → Sem Value} {avs : List AVal} {v : AVal} (hf : P.funcs[f]? = some fn) (hname : (fn.name == "runtime.NumGoroutine") = false)
    (hb : fn.body.isNone = true) (hn : Extern.findNext fn = none) (he : Extern.find fn = some e)
    (h : ∀ R args w, RelV R avs args.toList → ∃ x cs t, (e args).run P w = .ok x (w.alloc (.cells cs t)) ∧ ∀ R', R.le R' → R' w.heap.size = some (.cells cs t) → Rel R' v x) : FnIs P G f avs v := by
  refine fnspec_extern hf hname hb hn he fun C R args w hm ha => ?_
  obtain ⟨x, cs, t, hx, hr⟩ := h R args w ha
  exact ⟨x, _, R.put w.heap.size (.cells cs t), hx, Seal.put_le hm.seal_free, hr _ (Seal.put_le hm.seal_free) (Seal.put_at _ _ _), hm.alloc_sealed _⟩
end Go.Proofs.YtjccffnjhdhgfaaGreatDoor
namespace Go.Proofs.YtjccffnjhdhgfaaGreatDoor
open Go Go.Extern
set_option maxRecDepth 20000
set_option maxHeartbeats 4000000
set_option linter.unusedSimpArgs false
set_option linter.unusedVariables false
attribute [local irreducible] AWp AOps byteAt SrcOK OrOk GloAll FnSpec
/-! ### Types as the model's externs hand them about -/
noncomputable def hdl (t : TypeId) : Value := typeHandle Tryz.prog t
theorem run_valueOf_ptr (t : Addr) (w : World) : (ReflectliteValue.unpack (.iface 106 (.pointer (some t)))).run Tryz.prog w
    = .ok (.agg #[hdl 106, .pointer (some ⟨w.heap.size, 0, none⟩), .int .u64 150]) (w.alloc (.cells #[.pointer (some t)] 106)) := by kernel_rfl
theorem run_valueOf_errno (e : Int) (w : World) : (ReflectliteValue.unpack (.iface 24 (.int .i64 e))).run Tryz.prog w
    = .ok (.agg #[hdl 24, .pointer (some ⟨w.heap.size, 0, none⟩), .int .u64 130]) (w.alloc (.cells #[.int .i64 e] 24)) := by kernel_rfl
theorem one_arg {R : Seal} {a : AVal} {args : Array Value} (h : RelV R [a] args.toList) : ∃ v, args = #[v] ∧ Rel R a v := by
  obtain ⟨x, t, e, hx, rfl⟩ := h
  exact ⟨x, by cases args; simp_all, hx⟩
theorem two_args {R : Seal} {a b : AVal} {args : Array Value} (h : RelV R [a, b] args.toList) : ∃ v u, args = #[v, u] ∧ Rel R a v ∧ Rel R b u := by
  obtain ⟨x, t, e, hx, y, t', e', hy, rfl⟩ := h
  exact ⟨x, y, by cases args; simp_all, hx, hy⟩
theorem iface_val {R : Seal} {t : TypeId} {a : AVal} {v : Value} (h : Rel R (.iface t a) v) : ∃ u, v = .iface t u ∧ Rel R a u := by
  obtain ⟨u, e, h1, h2⟩ := rel_one h rfl
  simp only [List.cons.injEq, and_true] at e
  exact ⟨u, e, h1, h2⟩
theorem valueOf_ptr {G : Glo} (bl : Nat) : FnIs Tryz.prog G 69 [.iface 106 (.raw (.pointer (some ⟨bl, 0, none⟩)))]
    (.agg [.raw (hdl 106), .rop [.raw (.pointer (some ⟨bl, 0, none⟩))] 0, .int .u64 150]) := by
  refine fnis_extern_new Tryz.func69 (by kernel_rfl) (by kernel_rfl) (by kernel_rfl) (e := fun args => ReflectliteValue.unpack (args.getD 0 (.tuple #[]))) (by kernel_rfl) ?_
  intro R args w ha
  obtain ⟨v, rfl, hv⟩ := one_arg ha
  obtain ⟨u, rfl, hu⟩ := iface_val hv
  obtain rfl := rel_raw.1 hu
  refine ⟨_, _, _, run_valueOf_ptr _ w, fun R' _ hR => ⟨⟨_, _, rfl, rfl, _, _, rfl, ?_, _, _, rfl, rfl, rfl⟩, rfl⟩⟩
  exact (relC_rop (R := R') (cs := [.raw (.pointer (some ⟨bl, 0, none⟩))]) (off := 0) (Nat.le_refl _) ⟨_, _, _, hR, ⟨_, _, rfl, rfl, rfl⟩⟩).1
theorem valueOf_errno {G : Glo} (e : Int) : FnIs Tryz.prog G 69 [.iface 24 (.int .i64 e)]
    (.agg [.raw (hdl 24), .rop [.int .i64 e] 0, .int .u64 130]) := by
  refine fnis_extern_new Tryz.func69 (by kernel_rfl) (by kernel_rfl) (by kernel_rfl) (e := fun args => ReflectliteValue.unpack (args.getD 0 (.tuple #[]))) (by kernel_rfl) ?_
  intro R args w ha
  obtain ⟨v, rfl, hv⟩ := one_arg ha
  obtain ⟨u, rfl, hu⟩ := iface_val hv
  obtain rfl := rel_int.1 hu
  refine ⟨_, _, _, run_valueOf_errno _ w, fun R' _ hR => ⟨⟨_, _, rfl, rfl, _, _, rfl, ?_, _, _, rfl, rfl, rfl⟩, rfl⟩⟩
  exact (relC_rop (R := R') (cs := [.int .i64 e]) (off := 0) (Nat.le_refl _) ⟨_, _, _, hR, ⟨_, _, rfl, rfl, rfl⟩⟩).1
/-! ### Types -/
noncomputable abbrev rty (t : TypeId) : AVal := .iface 164 (.agg [.raw (hdl t)])
theorem rel_rty {R : Seal} (t : TypeId) : Rel R (rty t) (.iface 164 (.agg #[hdl t])) := ⟨⟨_, rfl, ⟨_, _, rfl, rfl, rfl⟩, rfl⟩, rfl⟩
theorem agg1_val {R : Seal} {x : Value} {v : Value} (hx : vAgg x = false) (h : Rel R (.agg [.raw x]) v) : v = .agg #[x] := by
  obtain ⟨h1, h2⟩ := h
  cases v <;> simp only [AVal.isAgg, vAgg, Bool.true_eq_false] at h2
  rename_i cs
  obtain ⟨a, t, e, ha, rfl⟩ := h1
  simp only [Value.cells] at e
  have ha : [a] = x.cells.toList := ha
  have : x.cells.toList = [x] := by cases x <;> first | rfl | (simp [vAgg] at hx)
  rw [this] at ha
  simp only [List.cons.injEq, and_true] at ha
  subst ha
  have : cs = #[a] := by cases cs; simp_all
  rw [this]
theorem rty_val {R : Seal} {t : TypeId} {v : Value} (h : Rel R (rty t) v) : v = .iface 164 (.agg #[hdl t]) := by
  obtain ⟨u, rfl, hu⟩ := iface_val h
  rw [agg1_val rfl hu]
theorem agg3_val {R : Seal} {x : Value} {k : IntKind} {n : Int} {c : AVal} {v : Value} (hx : vAgg x = false) (h : Rel R (.agg [.raw x, .rop [c] 0, .int k n]) v) :
    ∃ b o, v = .agg #[x, .pointer (some ⟨b, o, none⟩), .int k n] ∧ SealedAt R b o [c] := by
  obtain ⟨h1, h2⟩ := h
  cases v <;> simp only [AVal.isAgg, vAgg, Bool.true_eq_false] at h2
  rename_i cs
  obtain ⟨a, t, e, ha, a', t', e', ha', a'', t'', e'', ha'', rfl⟩ := h1
  simp only [Value.cells] at e
  have ha : [a] = x.cells.toList := ha
  have hxl : x.cells.toList = [x] := by cases x <;> first | rfl | (simp [vAgg] at hx)
  rw [hxl] at ha
  simp only [List.cons.injEq, and_true] at ha
  subst ha
  have ha'' : [a''] = [Value.int k n] := ha''
  simp only [List.cons.injEq, and_true] at ha''
  subst ha''
  obtain ⟨b, o, e2, ho, hs⟩ := rop_inv (relC_rel ha' rfl)
  subst e2
  refine ⟨b, o, ?_, by simpa using hs⟩
  have : cs = #[a, .pointer (some ⟨b, o, none⟩), .int k n] := by cases cs; simp_all
  rw [this]
theorem typeOf_errno {G : Glo} (e : Int) : FnIs Tryz.prog G 84 [.iface 24 (.int .i64 e)] (rty 24) := by
  refine fnis_extern Tryz.func84 (by kernel_rfl) (by kernel_rfl) (by kernel_rfl) (e := ReflectliteType.typeOf) (by kernel_rfl) ?_
  intro R args ha w
  obtain ⟨v, rfl, hv⟩ := one_arg ha
  obtain ⟨u, rfl, hu⟩ := iface_val hv
  exact ⟨.iface 164 (.agg #[hdl 24]), by kernel_rfl, rel_rty _⟩
theorem typeOf_at {G : Glo} (a : AVal) : FnIs Tryz.prog G 84 [.iface 80 a] (rty 80) := by
  refine fnis_extern Tryz.func84 (by kernel_rfl) (by kernel_rfl) (by kernel_rfl) (e := ReflectliteType.typeOf) (by kernel_rfl) ?_
  intro R args ha w
  obtain ⟨v, rfl, hv⟩ := one_arg ha
  obtain ⟨u, rfl, hu⟩ := iface_val hv
  exact ⟨.iface 164 (.agg #[hdl 80]), by kernel_rfl, rel_rty _⟩
theorem type_ptr {G : Glo} (c : AVal) : FnIs Tryz.prog G 70 [.agg [.raw (hdl 106), .rop [c] 0, .int .u64 150]] (rty 106) := by
  refine fnis_extern Tryz.func70 (by kernel_rfl) (by kernel_rfl) (by kernel_rfl)
    (e := ReflectliteValue.methodAny (ReflectliteValue.valueError "reflectlite.Value.Type" 0) fun t _ _ _ => ReflectliteType.toType t) (by kernel_rfl) ?_
  intro R args ha w
  obtain ⟨v, rfl, hv⟩ := one_arg ha
  obtain ⟨b, o, rfl, _⟩ := agg3_val rfl hv
  exact ⟨.iface 164 (.agg #[hdl 106]), by kernel_rfl, rel_rty _⟩
theorem abi_kind {G : Glo} (t : TypeId) (k : Int) (h : ∀ w, (((ReflectliteType.abiMethod fun t => do pure (.int .u8 (← Rtype.kind t))) #[hdl t]).run Tryz.prog w) = .ok (.int .u8 k) w) : FnIs Tryz.prog G 120 [.raw (hdl t)] (.int .u8 k) := by
  refine fnis_extern Tryz.func120 (by kernel_rfl) (by kernel_rfl) (by kernel_rfl)
    (e := ReflectliteType.abiMethod fun t => do pure (.int .u8 (← Rtype.kind t))) (by kernel_rfl) ?_
  intro R args ha w
  obtain ⟨v, rfl, hv⟩ := one_arg ha
  obtain rfl := rel_raw.1 hv
  exact ⟨.int .u8 k, h w, rel_int.2 rfl⟩
theorem kind_ptr {G : Glo} : FnIs Tryz.prog G 120 [.raw (hdl 106)] (.int .u8 22) := abi_kind _ _ (fun w => by kernel_rfl)
theorem kind_errno {G : Glo} : FnIs Tryz.prog G 120 [.raw (hdl 24)] (.int .u8 2) := abi_kind _ _ (fun w => by kernel_rfl)
theorem elem_ptr {G : Glo} : FnIs Tryz.prog G 137 [.agg [.raw (hdl 106)]] (rty 24) := by
  refine fnis_extern Tryz.func137 (by kernel_rfl) (by kernel_rfl) (by kernel_rfl) (e := ReflectliteType.method ReflectliteType.elem) (by kernel_rfl) ?_
  intro R args ha w
  obtain ⟨v, rfl, hv⟩ := one_arg ha
  obtain rfl := agg1_val rfl hv
  exact ⟨.iface 164 (.agg #[hdl 24]), by kernel_rfl, rel_rty _⟩
theorem implements_errno {G : Glo} : FnIs Tryz.prog G 138 [.agg [.raw (hdl 24)], rty 28] (.bool true) := by
  refine fnis_extern Tryz.func138 (by kernel_rfl) (by kernel_rfl) (by kernel_rfl) (e := ReflectliteType.relation "Implements" ReflectliteType.implements_) (by kernel_rfl) ?_
  intro R args ha w
  obtain ⟨v, u, rfl, hv, hu⟩ := two_args ha
  obtain rfl := agg1_val rfl hv
  obtain rfl := rty_val hu
  exact ⟨.bool true, by kernel_rfl, rel_bool.2 rfl⟩
theorem assignable_errno {G : Glo} : FnIs Tryz.prog G 135 [.agg [.raw (hdl 24)], rty 24] (.bool true) := by
  refine fnis_extern Tryz.func135 (by kernel_rfl) (by kernel_rfl) (by kernel_rfl) (e := ReflectliteType.relation "AssignableTo" ReflectliteType.assignableTo) (by kernel_rfl) ?_
  intro R args ha w
  obtain ⟨v, u, rfl, hv, hu⟩ := two_args ha
  obtain rfl := agg1_val rfl hv
  obtain rfl := rty_val hu
  exact ⟨.bool true, by kernel_rfl, rel_bool.2 rfl⟩
theorem assignable_at {G : Glo} : FnIs Tryz.prog G 135 [.agg [.raw (hdl 80)], rty 24] (.bool false) := by
  refine fnis_extern Tryz.func135 (by kernel_rfl) (by kernel_rfl) (by kernel_rfl) (e := ReflectliteType.relation "AssignableTo" ReflectliteType.assignableTo) (by kernel_rfl) ?_
  intro R args ha w
  obtain ⟨v, u, rfl, hv, hu⟩ := two_args ha
  obtain rfl := agg1_val rfl hv
  obtain rfl := rty_val hu
  exact ⟨.bool false, by kernel_rfl, rel_bool.2 rfl⟩
/-! ### What reads or writes memory -/
theorem rlm (z : Sem Value) (f : TypeId → Addr → Nat → Nat → Sem Value) (v : Value) :
    ReflectliteValue.method z f #[v] = (do match ← ReflectliteValue.parts v with | none => z | some (t, a, fl) => f t a fl (fl % 32)) := rfl
theorem parts_ptr (a : Addr) (w : World) : (ReflectliteValue.parts (.agg #[hdl 106, .pointer (some a), .int .u64 150])).run Tryz.prog w = .ok (some (106, a, 150)) w := by kernel_rfl
theorem parts_var (a : Addr) (w : World) : (ReflectliteValue.parts (.agg #[hdl 24, .pointer (some a), .int .u64 386])).run Tryz.prog w = .ok (some (24, a, 386)) w := by kernel_rfl
theorem parts_errno (a : Addr) (w : World) : (ReflectliteValue.parts (.agg #[hdl 24, .pointer (some a), .int .u64 130])).run Tryz.prog w = .ok (some (24, a, 130)) w := by kernel_rfl
theorem elemOf_ptr (w : World) : (Rtype.elem? 106).run Tryz.prog w = .ok (some 24) w := by kernel_rfl
theorem mk_var (p : Addr) (w : World) : (ReflectliteValue.mk 24 p ReflectliteValue.flagAddr).run Tryz.prog w = .ok (.agg #[hdl 24, .pointer (some p), .int .u64 386]) w := by kernel_rfl
theorem isNil_ptr {G : Glo} (bl : Nat) : FnIs Tryz.prog G 71 [.agg [.raw (hdl 106), .rop [.raw (.pointer (some ⟨bl, 0, none⟩))] 0, .int .u64 150]] (.bool false) := by
  refine fnspec_extern Tryz.func71 (by kernel_rfl) (by kernel_rfl) (by kernel_rfl) (e := ReflectliteValue.method (ReflectliteValue.valueError "reflectlite.Value.IsNil" 0) ReflectliteValue.isNil) (by kernel_rfl) ?_
  intro C R args w hm ha
  obtain ⟨v, rfl, hv⟩ := one_arg ha
  obtain ⟨b, o, rfl, hs⟩ := agg3_val rfl hv
  obtain ⟨u, hu, hr⟩ := hs.cell hm.sealed (i := 0) rfl
  rw [Nat.add_zero] at hu
  have hr : [u] = [Value.pointer (some ⟨bl, 0, none⟩)] := hr
  simp only [List.cons.injEq, and_true] at hr
  subst hr
  refine ⟨.bool false, w, R, ?_, Seal.le_refl R, rel_bool.2 rfl, hm⟩
  rw [rlm]
  simp only [Sem.run_bind, parts_ptr, Result.andThen]
  simp [ReflectliteValue.isNil, loadVar, isAgg, underlying, Tryz.underlying106, hu, Result.andThen]
theorem elemV_ptr {G : Glo} (bl : Nat) : FnIs Tryz.prog G 85 [.agg [.raw (hdl 106), .rop [.raw (.pointer (some ⟨bl, 0, none⟩))] 0, .int .u64 150]] (.agg [.raw (hdl 24), .raw (.pointer (some ⟨bl, 0, none⟩)), .int .u64 386]) := by
  refine fnspec_extern Tryz.func85 (by kernel_rfl) (by kernel_rfl) (by kernel_rfl) (e := ReflectliteValue.method (ReflectliteValue.valueError "reflectlite.Value.Elem" 0) ReflectliteValue.elem) (by kernel_rfl) ?_
  intro C R args w hm ha
  obtain ⟨v, rfl, hv⟩ := one_arg ha
  obtain ⟨b, o, rfl, hs⟩ := agg3_val rfl hv
  obtain ⟨u, hu, hr⟩ := hs.cell hm.sealed (i := 0) rfl
  rw [Nat.add_zero] at hu
  have hr : [u] = [Value.pointer (some ⟨bl, 0, none⟩)] := hr
  simp only [List.cons.injEq, and_true] at hr
  subst hr
  refine ⟨.agg #[hdl 24, .pointer (some ⟨bl, 0, none⟩), .int .u64 386], w, R, ?_, Seal.le_refl R, ⟨⟨_, _, rfl, rfl, _, _, rfl, rfl, _, _, rfl, rfl, rfl⟩, rfl⟩, hm⟩
  rw [rlm]
  simp only [Sem.run_bind, parts_ptr, Result.andThen]
  simp [ReflectliteValue.elem, loadVar, isAgg, underlying, Tryz.underlying106, hu, Result.andThen, elemOf_ptr, mk_var]
end Go.Proofs.YtjccffnjhdhgfaaGreatDoor
namespace Go.Proofs.YtjccffnjhdhgfaaGreatDoor
open Go Go.Extern
set_option maxRecDepth 20000
set_option maxHeartbeats 4000000
set_option linter.unusedSimpArgs false
set_option linter.unusedVariables false
attribute [local irreducible] AWp AOps byteAt SrcOK OrOk GloAll FnSpec
theorem rls (v x : Value) : ReflectliteValue.set #[v, x] = (do
    let (some (dst, a, fl), some (src, b, _)) := (← ReflectliteValue.parts v, ← ReflectliteValue.parts x)
      | unsupported (.noEntry "extern/(internal/reflectlite.Value).Set.zeroValue")
    if fl / ReflectliteValue.flagAddr % 2 == 0 then unsupported (.noEntry "extern/(internal/reflectlite.Value).Set.unaddressable")
    let val ← loadVar src b
    if ← Rtype.directlyAssignable dst src then storeVar dst a val
    else if ← Rtype.implements dst src then
      if (← Rtype.kind src) == 20 then
        match val with
        | .nilIface => unsupported (.noEntry "extern/reflectlite: a nil value of one interface type handed on as a value of another")
        | _ => storeVar dst a val
      else storeVar dst a (.iface src val)
    else panicString ("reflectlite.Set: value of type " ++ (← Rtype.spelt src) ++ " is not assignable to type " ++ (← Rtype.spelt dst))
    pure (.tuple #[])) := rfl
theorem direct_errno (w : World) : (Rtype.directlyAssignable 24 24).run Tryz.prog w = .ok true w := by kernel_rfl
theorem aggv_val {R : Seal} {x y : Value} {k : IntKind} {n : Int} {v : Value} (hx : vAgg x = false) (hy : vAgg y = false) (h : Rel R (.agg [.raw x, .raw y, .int k n]) v) : v = .agg #[x, y, .int k n] := by
  obtain ⟨h1, h2⟩ := h
  cases v <;> simp only [AVal.isAgg, vAgg, Bool.true_eq_false] at h2
  rename_i cs
  obtain ⟨a, t, e, ha, a', t', e', ha', a'', t'', e'', ha'', rfl⟩ := h1
  simp only [Value.cells] at e
  have key : ∀ {z : Value}, vAgg z = false → z.cells.toList = [z] := by intro z hz; cases z <;> first | rfl | (simp [vAgg] at hz)
  have ha : [a] = x.cells.toList := ha
  have ha' : [a'] = y.cells.toList := ha'
  rw [key hx] at ha
  rw [key hy] at ha'
  have ha'' : [a''] = [Value.int k n] := ha''
  simp only [List.cons.injEq, and_true] at ha ha' ha''
  subst ha ha' ha''
  have : cs = #[a, a', .int k n] := by cases cs; simp_all
  rw [this]
theorem set_errno {G : Glo} (bl : Nat) (e old : Int) : FnSpec Tryz.prog G 86 [.agg [.raw (hdl 24), .raw (.pointer (some ⟨bl, 0, none⟩)), .int .u64 386], .agg [.raw (hdl 24), .rop [.int .i64 e] 0, .int .u64 130]]
    [.cells bl (some 24) [.int .i64 old]] (fun r H => r = .ret (.tuple []) ∧ H = [.cells bl (some 24) [.int .i64 e]]) := by
  refine fnspec_extern Tryz.func86 (by kernel_rfl) (by kernel_rfl) (by kernel_rfl) (e := ReflectliteValue.set) (by kernel_rfl) ?_
  intro C R args w hm ha
  obtain ⟨v, u, rfl, hv, hu⟩ := two_args ha
  obtain rfl := aggv_val rfl rfl hv
  obtain ⟨b, o, rfl, hs⟩ := agg3_val rfl hu
  obtain ⟨u, hu, hr⟩ := hs.cell hm.sealed (i := 0) rfl
  rw [Nat.add_zero] at hu
  have hr : [u] = [Value.int .i64 e] := hr
  simp only [List.cons.injEq, and_true] at hr
  subst hr
  obtain ⟨Cs, el, fz, hb, hl, hfz⟩ := own_cells hm (i := 0) rfl
  have hlen := relL_length hl
  simp only [Array.length_toList, List.length_cons, List.length_nil] at hlen
  obtain ⟨w', hst, ho⟩ := storeCells_run (P := Tryz.prog) [Value.int .i64 e] 0 0 Cs w hb (by simp only [List.length_cons, List.length_nil]; omega) hfz.1 (by intro v hv; simp only [List.mem_singleton] at hv; subst hv; exact ⟨rfl, fun _ => by simp⟩)
  refine ⟨.tuple #[], w', R, ?_, Seal.le_refl R, ⟨⟨#[], rfl, rfl⟩, rfl⟩, ?_⟩
  · rw [rls]
    simp only [Sem.run_bind, parts_var, parts_errno, Result.andThen]
    simp [ReflectliteValue.flagAddr, loadVar, isAgg, underlying, Tryz.underlying24, hu, Result.andThen, direct_errno, storeVar, Value.cells]
    rw [hst]
  · have hd : Cs.toList.drop (0 + 0 + [Value.int .i64 e].length) = [] := List.drop_eq_nil_of_le (by simp; omega)
    refine hm.write (i := 0) rfl rfl ho rfl ⟨_, _, _, ho.at_, ?_, ?_⟩
    · rw [hd]; exact ⟨_, _, rfl, rfl, rfl⟩
    · rw [hd]
      have : Cs.size = 1 := by omega
      rw [this] at hfz
      exact hfz
/-! ### Methods -/
section
variable (t : TypeId)
theorem m_kind : ∀ R v, Rel R (.agg [.raw (hdl t)]) v → ∀ w, ∃ u, (Go.method (Tryz.prog.types.size + Made.depth) 164 v "Kind").run Tryz.prog w = .ok (120, u) w ∧ Rel R (.raw (hdl t)) u := by
  intro R v h w
  obtain rfl := agg1_val rfl h
  exact ⟨hdl t, by kernel_rfl, rel_raw.2 rfl⟩
theorem m_elem : ∀ R v, Rel R (.agg [.raw (hdl t)]) v → ∀ w, ∃ u, (Go.method (Tryz.prog.types.size + Made.depth) 164 v "Elem").run Tryz.prog w = .ok (137, u) w ∧ Rel R (.agg [.raw (hdl t)]) u := by
  intro R v h w
  obtain rfl := agg1_val rfl h
  exact ⟨.agg #[hdl t], by kernel_rfl, h⟩
theorem m_impl : ∀ R v, Rel R (.agg [.raw (hdl t)]) v → ∀ w, ∃ u, (Go.method (Tryz.prog.types.size + Made.depth) 164 v "Implements").run Tryz.prog w = .ok (138, u) w ∧ Rel R (.agg [.raw (hdl t)]) u := by
  intro R v h w
  obtain rfl := agg1_val rfl h
  exact ⟨.agg #[hdl t], by kernel_rfl, h⟩
theorem m_asgn : ∀ R v, Rel R (.agg [.raw (hdl t)]) v → ∀ w, ∃ u, (Go.method (Tryz.prog.types.size + Made.depth) 164 v "AssignableTo").run Tryz.prog w = .ok (135, u) w ∧ Rel R (.agg [.raw (hdl t)]) u := by
  intro R v h w
  obtain rfl := agg1_val rfl h
  exact ⟨.agg #[hdl t], by kernel_rfl, h⟩
end
theorem m_unwrap (a : AVal) : ∀ R v, Rel R a v → ∀ w, ∃ u, (Go.method (Tryz.prog.types.size + Made.depth) 80 v "Unwrap").run Tryz.prog w = .ok (125, u) w ∧ Rel R a u := by
  intro R v h w
  exact ⟨v, by kernel_rfl, h⟩
theorem i_at_As : ∀ v w, (Instr.typeAssert (.iface 80 v) 28 169 true).run Tryz.prog w = .ok (.tuple #[.nilIface, .bool false]) w := fun v w => run_typeAssert_lacksB (z := .nilIface) Tryz.underlying169 (by kernel_rfl) (by kernel_rfl) v _ w
theorem i_at_Unwrap : ∀ v w, (Instr.typeAssert (.iface 80 v) 28 84 true).run Tryz.prog w = .ok (.tuple #[.iface 80 v, .bool true]) w := by intro v w; kernel_rfl
theorem i_errno_Unwrap : ∀ v w, (Instr.typeAssert (.iface 24 v) 28 84 true).run Tryz.prog w = .ok (.tuple #[.nilIface, .bool false]) w := fun v w => run_typeAssert_lacksB (z := .nilIface) Tryz.underlying84 (by kernel_rfl) (by kernel_rfl) v _ w
/-! ### The walks -/
abbrev errA (e : Int) : AVal := .iface 24 (.int .i64 e)
abbrev atA (e p : Int) : AVal := .iface 80 (.rop [.int .i64 e, .int .i64 p] 0)
noncomputable abbrev tgtV (bl : Nat) : AVal := .agg [.raw (hdl 106), .rop [.raw (.pointer (some ⟨bl, 0, none⟩))] 0, .int .u64 150]
abbrev tgtA (bl : Nat) : AVal := .iface 106 (.raw (.pointer (some ⟨bl, 0, none⟩)))
theorem At_Unwrap {G : Glo} (e p : Int) : FnIs Tryz.prog G 125 [.rop [.int .i64 e, .int .i64 p] 0] (errA e) := by
  have hGL : GloAll G [] := gloAll_nil
  refine fn_x Tryz.func125 Tryz.call125 rfl rfl rfl rfl hGL ?_
  intro C hC
  repeat' (first
    | (conv => whnf); first
      | refine .w ?_ | refine .v ?_ | apply sc_true | apply sc_false
      | (first | apply sc_lt | apply sc_nlt | apply sc_eq | apply sc_neq | apply sc_nil | apply sc_nnil | apply sc_seq | apply sc_nseq) <;> (intro hb; try exact dd hb)
      | apply sc_not | apply sc_or | (apply sc_i <;> intro hb)
      | (apply bx_i; intro hbd) | (apply gt_i; assumption; exact rfl)
      | (apply cx_is; first | fail) | (apply cx_do (i := 0) rfl; first | fail)
      | (apply ab_i; intro bl) | (apply as_i; intro va vk vc hva) | (apply av_i; intro v) | (apply ac_i; intro bl cap hcap)
      | apply bo_l | (apply nx_i <;> intro hnx) | (apply Ia.hit; assumption) | (apply Ia.miss; assumption)
      | (apply rt_is; exact rfl) | exact rt_w | (apply iv; assumption)
      | apply dw_q mixed hC hGL (by kernel_rfl) | (apply cq; assumption; (first | fail); exact rfl))
  all_goals (try conv => whnf)
theorem errors_as_errno {G : Glo} (bl : Nat) (e old : Int) : FnSpec Tryz.prog G 72 [errA e, tgtA bl, tgtV bl, rty 24] [.cells bl (some 24) [.int .i64 old]] (fun r H => r = .ret (.bool true) ∧ H = [.cells bl (some 24) [.int .i64 e]]) := by
  have hGL : GloAll G [] := gloAll_nil
  refine fn_x Tryz.func72 Tryz.call72 rfl rfl rfl rfl hGL ?_
  intro C hC
  have h1 := typeOf_errno (G := G) e
  have h2 := elemV_ptr (G := G) bl
  have h3 := valueOf_errno (G := G) e
  have h4 := set_errno (G := G) bl e old
  have h5 := assignable_errno (G := G)
  have m1 := m_asgn 24
  repeat' (first
    | (conv => whnf); first
      | refine .w ?_ | refine .v ?_ | apply sc_true | apply sc_false
      | (first | apply sc_lt | apply sc_nlt | apply sc_eq | apply sc_neq | apply sc_nil | apply sc_nnil | apply sc_seq | apply sc_nseq) <;> (intro hb; try exact dd hb)
      | apply sc_not | apply sc_or | (apply sc_i <;> intro hb)
      | (apply bx_i; intro hbd) | (apply gt_i; assumption; exact rfl)
      | (apply cx_is; first | fail) | (apply cx_do (i := 0) rfl; first | fail)
      | (apply ab_i; intro bl) | (apply as_i; intro va vk vc hva) | (apply av_i; intro v) | (apply ac_i; intro bl cap hcap)
      | apply bo_l | (apply nx_i <;> intro hnx) | (apply Ia.hit; assumption) | (apply Ia.miss; assumption)
      | (apply rt_is; exact rfl) | exact rt_w | (apply iv; assumption)
      | apply dw_q mixed hC hGL (by kernel_rfl) | (apply cq; assumption; (first | fail); exact rfl))
  all_goals (try conv => whnf)
  refine rds hC hGL 1 ?_
  repeat' (first
    | (conv => whnf); first
      | refine .w ?_ | refine .v ?_ | apply sc_true | apply sc_false
      | (first | apply sc_lt | apply sc_nlt | apply sc_eq | apply sc_neq | apply sc_nil | apply sc_nnil | apply sc_seq | apply sc_nseq) <;> (intro hb; try exact dd hb)
      | apply sc_not | apply sc_or | (apply sc_i <;> intro hb)
      | (apply bx_i; intro hbd) | (apply gt_i; assumption; exact rfl)
      | (apply cx_is; first | exact h1 | exact h2 | exact h3 | exact h4 | exact h5) | (apply cx_do (i := 0) rfl; first | exact h1 | exact h2 | exact h3 | exact h4 | exact h5)
      | (apply ab_i; intro bl) | (apply as_i; intro va vk vc hva) | (apply av_i; intro v) | (apply ac_i; intro bl cap hcap)
      | apply bo_l | (apply nx_i <;> intro hnx) | (apply Ia.hit; assumption) | (apply Ia.miss; assumption)
      | (apply rt_is; exact rfl) | exact rt_w | (apply iv; assumption)
      | apply dw_q mixed hC hGL (by kernel_rfl) | (apply cq; assumption; (first | exact h1 | exact h2 | exact h3 | exact h4 | exact h5); exact rfl))
  all_goals (try conv => whnf)
theorem errors_as_at {G : Glo} (bl : Nat) (e p old : Int) : FnSpec Tryz.prog G 72 [atA e p, tgtA bl, tgtV bl, rty 24] [.cells bl (some 24) [.int .i64 old]] (fun r H => r = .ret (.bool true) ∧ H = [.cells bl (some 24) [.int .i64 e]]) := by
  have hGL : GloAll G [] := gloAll_nil
  refine fn_x Tryz.func72 Tryz.call72 rfl rfl rfl rfl hGL ?_
  intro C hC
  have h1 := typeOf_errno (G := G) e
  have h2 := elemV_ptr (G := G) bl
  have h3 := valueOf_errno (G := G) e
  have h4 := set_errno (G := G) bl e old
  have h5 := assignable_errno (G := G)
  have h6 := assignable_at (G := G)
  have h7 := typeOf_at (G := G) (.rop [.int .i64 e, .int .i64 p] 0)
  have h8 := At_Unwrap (G := G) e p
  have m1 := m_asgn 24
  have m2 := m_asgn 80
  have m3 := m_unwrap (.rop [.int .i64 e, .int .i64 p] 0)
  have i1 := i_at_As
  have i2 := i_at_Unwrap
  repeat' (first
    | (conv => whnf); first
      | refine .w ?_ | refine .v ?_ | apply sc_true | apply sc_false
      | (first | apply sc_lt | apply sc_nlt | apply sc_eq | apply sc_neq | apply sc_nil | apply sc_nnil | apply sc_seq | apply sc_nseq) <;> (intro hb; try exact dd hb)
      | apply sc_not | apply sc_or | (apply sc_i <;> intro hb)
      | (apply bx_i; intro hbd) | (apply gt_i; assumption; exact rfl)
      | (apply cx_is; first | fail) | (apply cx_do (i := 0) rfl; first | fail)
      | (apply ab_i; intro bl) | (apply as_i; intro va vk vc hva) | (apply av_i; intro v) | (apply ac_i; intro bl cap hcap)
      | apply bo_l | (apply nx_i <;> intro hnx) | (apply Ia.hit; assumption) | (apply Ia.miss; assumption)
      | (apply rt_is; exact rfl) | exact rt_w | (apply iv; assumption)
      | apply dw_q mixed hC hGL (by kernel_rfl) | (apply cq; assumption; (first | fail); exact rfl))
  all_goals (try conv => whnf)
  refine rds hC hGL 2 ?_
  repeat' (first
    | (conv => whnf); first
      | refine .w ?_ | refine .v ?_ | apply sc_true | apply sc_false
      | (first | apply sc_lt | apply sc_nlt | apply sc_eq | apply sc_neq | apply sc_nil | apply sc_nnil | apply sc_seq | apply sc_nseq) <;> (intro hb; try exact dd hb)
      | apply sc_not | apply sc_or | (apply sc_i <;> intro hb)
      | (apply bx_i; intro hbd) | (apply gt_i; assumption; exact rfl)
      | (apply cx_is; first | exact h1 | exact h2 | exact h3 | exact h4 | exact h5 | exact h6 | exact h7 | exact h8) | (apply cx_do (i := 0) rfl; first | exact h1 | exact h2 | exact h3 | exact h4 | exact h5 | exact h6 | exact h7 | exact h8)
      | (apply ab_i; intro bl) | (apply as_i; intro va vk vc hva) | (apply av_i; intro v) | (apply ac_i; intro bl cap hcap)
      | apply bo_l | (apply nx_i <;> intro hnx) | (apply Ia.hit; assumption) | (apply Ia.miss; assumption)
      | (apply rt_is; exact rfl) | exact rt_w | (apply iv; assumption)
      | apply dw_q mixed hC hGL (by kernel_rfl) | (apply cq; assumption; (first | exact h1 | exact h2 | exact h3 | exact h4 | exact h5 | exact h6 | exact h7 | exact h8); exact rfl))
  all_goals (try conv => whnf)
/-- What stands in errors.errorType. -/
noncomputable abbrev errTy : List (Nat × List AVal) := [(5, [rty 28])]
theorem errors_As {G : Glo} (hGL : GloAll G errTy) (bl : Nat) (e : Int) {ty : TypeId} {a : AVal} (hs : FnSpec Tryz.prog G 72 [.iface ty (unown a), tgtA bl, tgtV bl, rty 24] [.cells bl (some 24) [.int .i64 0]] (fun r H => r = .ret (.bool true) ∧ H = [.cells bl (some 24) [.int .i64 e]])) :
    FnSpec Tryz.prog G 51 [.iface ty a, tgtA bl] [.cells bl (some 24) [.int .i64 0]] (fun r H => r = .ret (.bool true) ∧ H = [.cells bl (some 24) [.int .i64 e]]) := by
  refine fn_x Tryz.func51 Tryz.call51 rfl rfl rfl rfl hGL ?_
  intro C hC
  have h1 := valueOf_ptr (G := G) bl
  have h2 := type_ptr (G := G) (.raw (.pointer (some ⟨bl, 0, none⟩)))
  have h3 := isNil_ptr (G := G) bl
  have h4 := kind_ptr (G := G)
  have h5 := elem_ptr (G := G)
  have h6 := kind_errno (G := G)
  have h7 := implements_errno (G := G)
  have m1 := m_kind 106
  have m2 := m_elem 106
  have m3 := m_kind 24
  have m4 := m_impl 24
  repeat' (first
    | (conv => whnf); first
      | refine .w ?_ | refine .v ?_ | apply sc_true | apply sc_false
      | (first | apply sc_lt | apply sc_nlt | apply sc_eq | apply sc_neq | apply sc_nil | apply sc_nnil | apply sc_seq | apply sc_nseq) <;> (intro hb; try exact dd hb)
      | apply sc_not | apply sc_or | (apply sc_i <;> intro hb)
      | (apply bx_i; intro hbd) | (apply gt_i; assumption; exact rfl)
      | (apply cx_is; first | exact h1 | exact h2 | exact h3 | exact h4 | exact h5 | exact h6 | exact h7 | exact hs) | (apply cx_do (i := 0) rfl; first | exact h1 | exact h2 | exact h3 | exact h4 | exact h5 | exact h6 | exact h7 | exact hs)
      | (apply ab_i; intro bl) | (apply as_i; intro va vk vc hva) | (apply av_i; intro v) | (apply ac_i; intro bl cap hcap)
      | apply bo_l | (apply nx_i <;> intro hnx) | (apply Ia.hit; assumption) | (apply Ia.miss; assumption)
      | (apply rt_is; exact rfl) | exact rt_w | (apply iv; assumption)
      | apply dw_q mixed hC hGL (by kernel_rfl) | (apply cq; assumption; (first | exact h1 | exact h2 | exact h3 | exact h4 | exact h5 | exact h6 | exact h7 | exact hs); exact rfl))
  all_goals (try conv => whnf)
theorem api_Tell_nil {G : Glo} : FnIs Tryz.prog G 38 [.raw .nilIface] (.int .i64 0) := by
  have hGL : GloAll G [] := gloAll_nil
  refine fn_x Tryz.func38 Tryz.call38 rfl rfl rfl rfl hGL ?_
  intro C hC
  repeat' (first
    | (conv => whnf); first
      | refine .w ?_ | refine .v ?_ | apply sc_true | apply sc_false
      | (first | apply sc_lt | apply sc_nlt | apply sc_eq | apply sc_neq | apply sc_nil | apply sc_nnil | apply sc_seq | apply sc_nseq) <;> (intro hb; try exact dd hb)
      | apply sc_not | apply sc_or | (apply sc_i <;> intro hb)
      | (apply bx_i; intro hbd) | (apply gt_i; assumption; exact rfl)
      | (apply cx_is; first | fail) | (apply cx_do (i := 0) rfl; first | fail)
      | (apply ab_i; intro bl) | (apply as_i; intro va vk vc hva) | (apply av_i; intro v) | (apply ac_i; intro bl cap hcap)
      | apply bo_l | (apply nx_i <;> intro hnx) | (apply Ia.hit; assumption) | (apply Ia.miss; assumption)
      | (apply rt_is; exact rfl) | exact rt_w | (apply iv; assumption)
      | apply dw_q mixed hC hGL (by kernel_rfl) | (apply cq; assumption; (first | fail); exact rfl))
  all_goals (try conv => whnf)
theorem api_Tell_errno {G : Glo} (hGL : GloAll G errTy) (e : Int) : FnIs Tryz.prog G 38 [errA e] (.int .i64 e) := by
  refine fn_x Tryz.func38 Tryz.call38 rfl rfl rfl rfl hGL ?_
  intro C hC
  repeat' (first
    | (conv => whnf); first
      | refine .w ?_ | refine .v ?_ | apply sc_true | apply sc_false
      | (first | apply sc_lt | apply sc_nlt | apply sc_eq | apply sc_neq | apply sc_nil | apply sc_nnil | apply sc_seq | apply sc_nseq) <;> (intro hb; try exact dd hb)
      | apply sc_not | apply sc_or | (apply sc_i <;> intro hb)
      | (apply bx_i; intro hbd) | (apply gt_i; assumption; exact rfl)
      | (apply cx_is; first | exact errors_As hGL _ e (errors_as_errno _ e 0)) | (apply cx_do (i := 0) rfl; first | exact errors_As hGL _ e (errors_as_errno _ e 0))
      | (apply ab_i; intro bl) | (apply as_i; intro va vk vc hva) | (apply av_i; intro v) | (apply ac_i; intro bl cap hcap)
      | apply bo_l | (apply nx_i <;> intro hnx) | (apply Ia.hit; assumption) | (apply Ia.miss; assumption)
      | (apply rt_is; exact rfl) | exact rt_w | (apply iv; assumption)
      | apply dw_q mixed hC hGL (by kernel_rfl) | (apply cq; assumption; (first | exact errors_As hGL _ e (errors_as_errno _ e 0)); exact rfl))
  all_goals (try conv => whnf)
theorem api_Tell_at {G : Glo} (hGL : GloAll G errTy) (e p : Int) : FnIs Tryz.prog G 38 [atA e p] (.int .i64 e) := by
  refine fn_x Tryz.func38 Tryz.call38 rfl rfl rfl rfl hGL ?_
  intro C hC
  repeat' (first
    | (conv => whnf); first
      | refine .w ?_ | refine .v ?_ | apply sc_true | apply sc_false
      | (first | apply sc_lt | apply sc_nlt | apply sc_eq | apply sc_neq | apply sc_nil | apply sc_nnil | apply sc_seq | apply sc_nseq) <;> (intro hb; try exact dd hb)
      | apply sc_not | apply sc_or | (apply sc_i <;> intro hb)
      | (apply bx_i; intro hbd) | (apply gt_i; assumption; exact rfl)
      | (apply cx_is; first | exact errors_As hGL _ e (errors_as_at _ e p 0)) | (apply cx_do (i := 0) rfl; first | exact errors_As hGL _ e (errors_as_at _ e p 0))
      | (apply ab_i; intro bl) | (apply as_i; intro va vk vc hva) | (apply av_i; intro v) | (apply ac_i; intro bl cap hcap)
      | apply bo_l | (apply nx_i <;> intro hnx) | (apply Ia.hit; assumption) | (apply Ia.miss; assumption)
      | (apply rt_is; exact rfl) | exact rt_w | (apply iv; assumption)
      | apply dw_q mixed hC hGL (by kernel_rfl) | (apply cq; assumption; (first | exact errors_As hGL _ e (errors_as_at _ e p 0)); exact rfl))
  all_goals (try conv => whnf)
/-- An error, and what it is taken for. -/
inductive Err
  | none
  | errno (e : Int)
  | at (e p : Int)
def Err.A : Err → AVal
  | .none => .raw .nilIface
  | .errno e => errA e
  | .at e p => atA e p
def Err.e : Err → Int
  | .none => 0
  | .errno e => e
  | .at e _ => e
def Err.p : Err → Int
  | .none => -1
  | .errno _ => -1
  | .at _ p => p
theorem plain_Place_nil {G : Glo} : FnIs Tryz.prog G 26 [.raw .nilIface] (.tuple [.int .i64 0, .int .i64 (-1)]) := by
  have hGL : GloAll G [] := gloAll_nil
  refine fn_x Tryz.func26 Tryz.call26 rfl rfl rfl rfl hGL ?_
  intro C hC
  repeat' (first
    | (conv => whnf); first
      | refine .w ?_ | refine .v ?_ | apply sc_true | apply sc_false
      | (first | apply sc_lt | apply sc_nlt | apply sc_eq | apply sc_neq | apply sc_nil | apply sc_nnil | apply sc_seq | apply sc_nseq) <;> (intro hb; try exact dd hb)
      | apply sc_not | apply sc_or | (apply sc_i <;> intro hb)
      | (apply bx_i; intro hbd) | (apply gt_i; assumption; exact rfl)
      | (apply cx_is; first | exact api_Tell_nil) | (apply cx_do (i := 0) rfl; first | exact api_Tell_nil)
      | (apply ab_i; intro bl) | (apply as_i; intro va vk vc hva) | (apply av_i; intro v) | (apply ac_i; intro bl cap hcap)
      | apply bo_l | (apply nx_i <;> intro hnx) | (apply Ia.hit; assumption) | (apply Ia.miss; assumption)
      | (apply rt_is; exact rfl) | exact rt_w | (apply iv; assumption)
      | apply dw_q mixed hC hGL (by kernel_rfl) | (apply cq; assumption; (first | exact api_Tell_nil); exact rfl))
  all_goals (try conv => whnf)
  refine rds hC hGL 1 ?_
  repeat' (first
    | (conv => whnf); first
      | refine .w ?_ | refine .v ?_ | apply sc_true | apply sc_false
      | (first | apply sc_lt | apply sc_nlt | apply sc_eq | apply sc_neq | apply sc_nil | apply sc_nnil | apply sc_seq | apply sc_nseq) <;> (intro hb; try exact dd hb)
      | apply sc_not | apply sc_or | (apply sc_i <;> intro hb)
      | (apply bx_i; intro hbd) | (apply gt_i; assumption; exact rfl)
      | (apply cx_is; first | fail) | (apply cx_do (i := 0) rfl; first | fail)
      | (apply ab_i; intro bl) | (apply as_i; intro va vk vc hva) | (apply av_i; intro v) | (apply ac_i; intro bl cap hcap)
      | apply bo_l | (apply nx_i <;> intro hnx) | (apply Ia.hit; assumption) | (apply Ia.miss; assumption)
      | (apply rt_is; exact rfl) | exact rt_w | (apply iv; assumption)
      | apply dw_q mixed hC hGL (by kernel_rfl) | (apply cq; assumption; (first | fail); exact rfl))
  all_goals (try conv => whnf)
theorem plain_Place_errno {G : Glo} (hGL : GloAll G errTy) (e : Int) : FnIs Tryz.prog G 26 [errA e] (.tuple [.int .i64 e, .int .i64 (-1)]) := by
  refine fn_x Tryz.func26 Tryz.call26 rfl rfl rfl rfl hGL ?_
  intro C hC
  have i1 := i_errno_Unwrap
  repeat' (first
    | (conv => whnf); first
      | refine .w ?_ | refine .v ?_ | apply sc_true | apply sc_false
      | (first | apply sc_lt | apply sc_nlt | apply sc_eq | apply sc_neq | apply sc_nil | apply sc_nnil | apply sc_seq | apply sc_nseq) <;> (intro hb; try exact dd hb)
      | apply sc_not | apply sc_or | (apply sc_i <;> intro hb)
      | (apply bx_i; intro hbd) | (apply gt_i; assumption; exact rfl)
      | (apply cx_is; first | exact api_Tell_errno hGL e) | (apply cx_do (i := 0) rfl; first | exact api_Tell_errno hGL e)
      | (apply ab_i; intro bl) | (apply as_i; intro va vk vc hva) | (apply av_i; intro v) | (apply ac_i; intro bl cap hcap)
      | apply bo_l | (apply nx_i <;> intro hnx) | (apply Ia.hit; assumption) | (apply Ia.miss; assumption)
      | (apply rt_is; exact rfl) | exact rt_w | (apply iv; assumption)
      | apply dw_q mixed hC hGL (by kernel_rfl) | (apply cq; assumption; (first | exact api_Tell_errno hGL e); exact rfl))
  all_goals (try conv => whnf)
  refine rds hC hGL 1 ?_
  repeat' (first
    | (conv => whnf); first
      | refine .w ?_ | refine .v ?_ | apply sc_true | apply sc_false
      | (first | apply sc_lt | apply sc_nlt | apply sc_eq | apply sc_neq | apply sc_nil | apply sc_nnil | apply sc_seq | apply sc_nseq) <;> (intro hb; try exact dd hb)
      | apply sc_not | apply sc_or | (apply sc_i <;> intro hb)
      | (apply bx_i; intro hbd) | (apply gt_i; assumption; exact rfl)
      | (apply cx_is; first | fail) | (apply cx_do (i := 0) rfl; first | fail)
      | (apply ab_i; intro bl) | (apply as_i; intro va vk vc hva) | (apply av_i; intro v) | (apply ac_i; intro bl cap hcap)
      | apply bo_l | (apply nx_i <;> intro hnx) | (apply Ia.hit; assumption) | (apply Ia.miss; assumption)
      | (apply rt_is; exact rfl) | exact rt_w | (apply iv; assumption)
      | apply dw_q mixed hC hGL (by kernel_rfl) | (apply cq; assumption; (first | fail); exact rfl))
  all_goals (try conv => whnf)
theorem plain_Place_at {G : Glo} (hGL : GloAll G errTy) (e p : Int) : FnIs Tryz.prog G 26 [atA e p] (.tuple [.int .i64 e, .int .i64 p]) := by
  refine fn_x Tryz.func26 Tryz.call26 rfl rfl rfl rfl hGL ?_
  intro C hC
  repeat' (first
    | (conv => whnf); first
      | refine .w ?_ | refine .v ?_ | apply sc_true | apply sc_false
      | (first | apply sc_lt | apply sc_nlt | apply sc_eq | apply sc_neq | apply sc_nil | apply sc_nnil | apply sc_seq | apply sc_nseq) <;> (intro hb; try exact dd hb)
      | apply sc_not | apply sc_or | (apply sc_i <;> intro hb)
      | (apply bx_i; intro hbd) | (apply gt_i; assumption; exact rfl)
      | (apply cx_is; first | exact api_Tell_at hGL e p) | (apply cx_do (i := 0) rfl; first | exact api_Tell_at hGL e p)
      | (apply ab_i; intro bl) | (apply as_i; intro va vk vc hva) | (apply av_i; intro v) | (apply ac_i; intro bl cap hcap)
      | apply bo_l | (apply nx_i <;> intro hnx) | (apply Ia.hit; assumption) | (apply Ia.miss; assumption)
      | (apply rt_is; exact rfl) | exact rt_w | (apply iv; assumption)
      | apply dw_q mixed hC hGL (by kernel_rfl) | (apply cq; assumption; (first | exact api_Tell_at hGL e p); exact rfl))
  all_goals (try conv => whnf)
  refine rds hC hGL 1 ?_
  repeat' (first
    | (conv => whnf); first
      | refine .w ?_ | refine .v ?_ | apply sc_true | apply sc_false
      | (first | apply sc_lt | apply sc_nlt | apply sc_eq | apply sc_neq | apply sc_nil | apply sc_nnil | apply sc_seq | apply sc_nseq) <;> (intro hb; try exact dd hb)
      | apply sc_not | apply sc_or | (apply sc_i <;> intro hb)
      | (apply bx_i; intro hbd) | (apply gt_i; assumption; exact rfl)
      | (apply cx_is; first | fail) | (apply cx_do (i := 0) rfl; first | fail)
      | (apply ab_i; intro bl) | (apply as_i; intro va vk vc hva) | (apply av_i; intro v) | (apply ac_i; intro bl cap hcap)
      | apply bo_l | (apply nx_i <;> intro hnx) | (apply Ia.hit; assumption) | (apply Ia.miss; assumption)
      | (apply rt_is; exact rfl) | exact rt_w | (apply iv; assumption)
      | apply dw_q mixed hC hGL (by kernel_rfl) | (apply cq; assumption; (first | fail); exact rfl))
  all_goals (try conv => whnf)
theorem plain_Place {G : Glo} (hGL : GloAll G errTy) (x : Err) : FnIs Tryz.prog G 26 [x.A] (.tuple [.int .i64 x.e, .int .i64 x.p]) := by
  cases x with
  | none => exact plain_Place_nil
  | errno e => exact plain_Place_errno hGL e
  | «at» e p => exact plain_Place_at hGL e p
theorem law_bare {G : Glo} (hGL : GloAll G errTy) (x : Err) (e : Int) : FnIs Tryz.prog G 9 [x.A, .int .i64 e] (.bool (eqB x.e e && eqB x.p (-1))) := by
  have hP := plain_Place hGL x
  cases x
  all_goals (
    refine fn_x Tryz.func9 Tryz.call9 rfl rfl rfl rfl hGL ?_
    intro C hC
    repeat' (first
      | (conv => whnf); first
        | refine .w ?_ | refine .v ?_ | apply sc_true | apply sc_false
        | (first | apply sc_lt | apply sc_nlt | apply sc_eq | apply sc_neq | apply sc_nil | apply sc_nnil | apply sc_seq | apply sc_nseq) <;> (intro hb; try exact dd hb)
        | apply sc_not | apply sc_or | (apply sc_i <;> intro hb)
        | (apply bx_i; intro hbd) | (apply gt_i; assumption; exact rfl)
        | (apply cx_is; first | exact hP) | (apply cx_do (i := 0) rfl; first | exact hP)
        | (apply ab_i; intro bl) | (apply as_i; intro va vk vc hva) | (apply av_i; intro v) | (apply ac_i; intro bl cap hcap)
        | apply bo_l | (apply nx_i <;> intro hnx) | (apply Ia.hit; assumption) | (apply Ia.miss; assumption)
        | (apply rt_is; exact rfl) | exact rt_w | (apply iv; assumption)
        | apply dw_q mixed hC hGL (by kernel_rfl) | (apply cq; assumption; (first | exact hP); exact rfl))
    all_goals (try conv => whnf)
    all_goals (apply rt_is; refine congrArg AVal.bool ?_; first | (rw [eqB_t.2 hb, Bool.true_and]; done) | (rw [eqB_f.2 hb]; rfl) | (rw [eqB_t.2 hb, Bool.true_and]; rfl)))
end Go.Proofs.YtjccffnjhdhgfaaGreatDoor
namespace Go.Proofs.YtjccffnjhdhgfaaGreatDoor
open Go Go.RowKit
/-- A rule: the type, least, most, parts. -/
structure Rl where
  t : Int
  a : Int
  b : Int
  p : Int
deriving DecidableEq
def Rl.A (r : Rl) : AVal := .agg [.int .i64 r.t, .int .i64 r.a, .int .i64 r.b, .int .i64 r.p]
def Rl.z : Rl := ⟨0, 0, 0, 0⟩
/-- A property: its name, its rule in the old version, in the new one. -/
structure Kn where
  n : List UInt8
  o : Option Rl
  w : Option Rl
def knR : List Kn := [
  ⟨[70, 78], some ⟨1, 1, 1, 0⟩, some ⟨1, 1, 0, 0⟩⟩,
  ⟨[78], some ⟨3, 1, 1, 5⟩, some ⟨3, 0, 1, 5⟩⟩,
  ⟨[78, 73, 67, 75, 78, 65, 77, 69], some ⟨2, 0, 0, 0⟩, some ⟨2, 0, 0, 0⟩⟩,
  ⟨[80, 72, 79, 84, 79], some ⟨8, 0, 0, 0⟩, some ⟨4, 0, 0, 0⟩⟩,
  ⟨[66, 68, 65, 89], some ⟨5, 0, 1, 0⟩, some ⟨5, 0, 1, 0⟩⟩,
  ⟨[65, 78, 78, 73, 86, 69, 82, 83, 65, 82, 89], none, some ⟨5, 0, 1, 0⟩⟩,
  ⟨[71, 69, 78, 68, 69, 82], none, some ⟨3, 0, 1, 2⟩⟩,
  ⟨[65, 68, 82], some ⟨3, 0, 0, 7⟩, some ⟨3, 0, 0, 7⟩⟩,
  ⟨[76, 65, 66, 69, 76], some ⟨1, 0, 0, 0⟩, none⟩,
  ⟨[84, 69, 76], some ⟨1, 0, 0, 0⟩, some ⟨1, 0, 0, 0⟩⟩,
  ⟨[69, 77, 65, 73, 76], some ⟨1, 0, 0, 0⟩, some ⟨1, 0, 0, 0⟩⟩,
  ⟨[77, 65, 73, 76, 69, 82], some ⟨1, 0, 0, 0⟩, none⟩,
  ⟨[73, 77, 80, 80], none, some ⟨4, 0, 0, 0⟩⟩,
  ⟨[76, 65, 78, 71], none, some ⟨7, 0, 0, 0⟩⟩,
  ⟨[84, 90], some ⟨6, 0, 1, 0⟩, some ⟨1, 0, 0, 0⟩⟩,
  ⟨[71, 69, 79], some ⟨3, 0, 1, 2⟩, some ⟨4, 0, 0, 0⟩⟩,
  ⟨[84, 73, 84, 76, 69], some ⟨1, 0, 0, 0⟩, some ⟨1, 0, 0, 0⟩⟩,
  ⟨[82, 79, 76, 69], some ⟨1, 0, 0, 0⟩, some ⟨1, 0, 0, 0⟩⟩,
  ⟨[76, 79, 71, 79], some ⟨8, 0, 0, 0⟩, some ⟨4, 0, 0, 0⟩⟩,
  ⟨[65, 71, 69, 78, 84], some ⟨1, 0, 0, 0⟩, none⟩,
  ⟨[79, 82, 71], some ⟨3, 0, 0, 0⟩, some ⟨3, 0, 0, 0⟩⟩,
  ⟨[77, 69, 77, 66, 69, 82], none, some ⟨4, 0, 0, 0⟩⟩,
  ⟨[82, 69, 76, 65, 84, 69, 68], none, some ⟨4, 0, 0, 0⟩⟩,
  ⟨[67, 65, 84, 69, 71, 79, 82, 73, 69, 83], some ⟨2, 0, 0, 0⟩, some ⟨2, 0, 0, 0⟩⟩,
  ⟨[78, 79, 84, 69], some ⟨1, 0, 0, 0⟩, some ⟨1, 0, 0, 0⟩⟩,
  ⟨[80, 82, 79, 68, 73, 68], some ⟨1, 0, 1, 0⟩, some ⟨1, 0, 1, 0⟩⟩,
  ⟨[82, 69, 86], some ⟨5, 0, 1, 0⟩, some ⟨5, 0, 1, 0⟩⟩,
  ⟨[83, 79, 82, 84, 45, 83, 84, 82, 73, 78, 71], some ⟨1, 0, 1, 0⟩, none⟩,
  ⟨[83, 79, 85, 78, 68], some ⟨8, 0, 0, 0⟩, some ⟨4, 0, 0, 0⟩⟩,
  ⟨[85, 73, 68], some ⟨1, 0, 1, 0⟩, some ⟨4, 0, 1, 0⟩⟩,
  ⟨[85, 82, 76], some ⟨4, 0, 0, 0⟩, some ⟨4, 0, 0, 0⟩⟩,
  ⟨[67, 76, 65, 83, 83], some ⟨1, 0, 1, 0⟩, none⟩,
  ⟨[75, 73, 78, 68], none, some ⟨1, 0, 1, 0⟩⟩,
  ⟨[75, 69, 89], some ⟨8, 0, 0, 0⟩, some ⟨4, 0, 0, 0⟩⟩,
  ⟨[78, 65, 77, 69], some ⟨1, 0, 1, 0⟩, none⟩,
  ⟨[83, 79, 85, 82, 67, 69], some ⟨4, 0, 0, 0⟩, some ⟨4, 0, 0, 0⟩⟩]
def Kn.of (k : Kn) (v : Int) : Option Rl := if v = 3 then k.o else k.w
/-- What a version knows. -/
def rowV (v : Int) : List (List UInt8 × Rl) := knR.filterMap fun k => (k.of v).map fun r => (k.n, r)
def digC (i : Int) : UInt8 := UInt8.ofNat (48 + i.toNat)
def txtR (x : List UInt8 × Rl) : List UInt8 := x.1 ++ [32, digC x.2.t, 32, digC x.2.a, 32, digC x.2.b, 32, digC x.2.p]
/-- Texts with a byte between. -/
def joinB (c : UInt8) : List (List UInt8) → List UInt8
  | [] => []
  | [x] => x
  | x :: y :: t => x ++ c :: joinB c (y :: t)
def tabR (v : Int) : List (List UInt8) := (rowV v).map txtR
def tabS (v : Int) : List UInt8 := joinB 124 (tabR v)
def findV (s : List UInt8) : List (List UInt8 × Rl) → Rl
  | [] => ⟨8, 0, 0, 0⟩
  | x :: t => if x.1 = s then x.2 else findV s t
def ruleV (v : Int) (s : List UInt8) : Rl := if v = 3 ∨ v = 4 then findV (turnS 97 122 (-32) s) (rowV v) else Rl.z
def verE (v : Int) : Err := if v = 3 ∨ v = 4 then .none else .errno 1
/-! Texts joined, cut again. -/
theorem joinB_drop {c : UInt8} {l : List (List UInt8)} {k : Nat} (h : k + 1 < l.length) : joinB c (l.drop k) = l.getD k [] ++ c :: joinB c (l.drop (k + 1)) := by
  rw [List.drop_eq_getElem_cons (by omega), List.drop_eq_getElem_cons h]
  simp only [joinB]
  rw [List.getD_eq_getElem?_getD, List.getElem?_eq_getElem (by omega)]
  rfl
theorem joinB_last {c : UInt8} {l : List (List UInt8)} {k : Nat} (h : k + 1 = l.length) : joinB c (l.drop k) = l.getD k [] := by
  rw [List.drop_eq_getElem_cons (by omega), List.drop_of_length_le (by omega)]
  simp only [joinB]
  rw [List.getD_eq_getElem?_getD, List.getElem?_eq_getElem (by omega)]
  rfl
end Go.Proofs.YtjccffnjhdhgfaaGreatDoor
namespace Go.Proofs.YtjccffnjhdhgfaaGreatDoor
open Go
set_option maxRecDepth 20000
set_option maxHeartbeats 4000000
set_option linter.unusedSimpArgs false
set_option linter.unusedVariables false
attribute [local irreducible] AWp AOps byteAt SrcOK OrOk GloAll FnSpec
/-- Where a byte stands first. -/
def idxF (c : Int) : List UInt8 → Nat → Int
  | [], _ => -1
  | x :: t, k => if (x.toNat : Int) = c then k else idxF c t (k + 1)
def idxB (s : List UInt8) (c : Int) : Int := idxF c s 0
theorem idxF_find {c : UInt8} (b : ByteArray) : ∀ (t : List UInt8) (k : Nat), (∀ j, j < t.length → b[k + j]! = t.getD j 0) →
    (match (List.range' k t.length).find? fun i => b[i]! == c with | some i => (i : Int) | none => -1) = idxF (c.toNat : Int) t k
  | [], _, _ => by simp [idxF]
  | x :: t, k, h => by
    have h0 := h 0 (by simp)
    simp only [Nat.add_zero, List.getD_cons_zero] at h0
    rw [List.length_cons, List.range'_succ, List.find?_cons, h0]
    by_cases e : x = c
    · subst e; simp [idxF]
    · have e1 : (x == c) = false := by simpa using e
      rw [e1]
      have e2 : ¬ ((x.toNat : Int) = (c.toNat : Int)) := by
        intro h; exact e (UInt8.toNat_inj.1 (by omega))
      simp only [idxF, if_neg e2]
      exact idxF_find b t (k + 1) (fun j hj => by
        have := h (j + 1) (by simpa using hj)
        rw [show k + 1 + j = k + (j + 1) by omega, this]; simp)
theorem bytealg_IndexByteString {G : Glo} (s : List UInt8) (c : Int) (h0 : 0 ≤ c) (h1 : c ≤ 255) : FnIs Tryz.prog G 73 [.str s, .int .u8 c] (.int .i64 (idxB s c)) := by
  refine fnis_extern Tryz.func73 (by kernel_rfl) (by kernel_rfl) (by kernel_rfl) (e := Go.Extern.BytealgIndexByte.indexByte) (by kernel_rfl) ?_
  intro R args ha w
  obtain ⟨x, t, e, hx, y, t', e', hy, rfl⟩ := ha
  have hx := rel_str.1 hx
  have hy := rel_int.1 hy
  subst hx hy
  obtain rfl : args = #[.string ⟨s.toArray⟩, .int .u8 c] := by cases args; simp_all
  refine ⟨.int .i64 (idxB s c), ?_, rel_int.2 rfl⟩
  have hc : (c.toNat.toUInt8).toNat = c.toNat := by
    show (UInt8.ofNat c.toNat).toNat = _
    rw [UInt8.toNat_ofNat']; omega
  have key := idxF_find (c := c.toNat.toUInt8) ⟨s.toArray⟩ s 0 (fun j hj => by
    rw [Nat.zero_add]
    rw [getElem!_pos (⟨s.toArray⟩ : ByteArray) j (by rw [str_size]; exact hj)]
    show s.toArray[j] = _
    simp [List.getD, hj])
  rw [hc, Int.toNat_of_nonneg h0] at key
  have e : Go.Extern.BytealgIndexByte.indexByte #[.string ⟨s.toArray⟩, .int .u8 c] = (match (List.range (⟨s.toArray⟩ : ByteArray).size).find? fun i => (⟨s.toArray⟩ : ByteArray)[i]! == c.toNat.toUInt8 with | some i => pure (goInt i) | none => pure (goInt (-1))) := rfl
  rw [e, str_size, List.range_eq_range']
  unfold idxB
  rw [← key]
  generalize List.find? _ _ = o
  cases o <;> rfl
theorem stringslite_IndexByte {G : Glo} (s : List UInt8) (c : Int) (h0 : 0 ≤ c) (h1 : c ≤ 255) : FnIs Tryz.prog G 52 [.str s, .int .u8 c] (.int .i64 (idxB s c)) := by
  have hb := bytealg_IndexByteString (G := G) s c h0 h1
  have hGL : GloAll G [] := gloAll_nil
  refine fn_x Tryz.func52 Tryz.call52 rfl rfl rfl rfl hGL ?_
  intro C hC
  repeat' (first
    | (conv => whnf); first
      | refine .w ?_ | refine .v ?_ | apply sc_true | apply sc_false
      | (first | apply sc_lt | apply sc_nlt | apply sc_eq | apply sc_neq | apply sc_nil | apply sc_nnil | apply sc_seq | apply sc_nseq) <;> (intro hb; try exact dd hb)
      | apply sc_not | apply sc_or | (apply sc_i <;> intro hb)
      | (apply bx_i; intro hbd) | (apply gt_i; assumption; exact rfl)
      | (apply cx_is; first | exact hb) | (apply cx_do (i := 0) rfl; first | exact hb)
      | (apply ab_i; intro bl) | (apply as_i; intro va vk vc hva) | (apply av_i; intro v) | (apply ac_i; intro bl cap hcap)
      | apply bo_l | (apply nx_i <;> intro hnx) | (apply Ia.hit; assumption) | (apply Ia.miss; assumption)
      | (apply rt_is; exact rfl) | exact rt_w | (apply iv; assumption)
      | apply dw_q mixed hC hGL (by kernel_rfl) | (apply cq; assumption; (first | exact hb); exact rfl))
  all_goals (try conv => whnf)
theorem strings_IndexByte {G : Glo} (s : List UInt8) (c : Int) (h0 : 0 ≤ c) (h1 : c ≤ 255) : FnIs Tryz.prog G 39 [.str s, .int .u8 c] (.int .i64 (idxB s c)) := by
  have hb := stringslite_IndexByte (G := G) s c h0 h1
  have hGL : GloAll G [] := gloAll_nil
  refine fn_x Tryz.func39 Tryz.call39 rfl rfl rfl rfl hGL ?_
  intro C hC
  repeat' (first
    | (conv => whnf); first
      | refine .w ?_ | refine .v ?_ | apply sc_true | apply sc_false
      | (first | apply sc_lt | apply sc_nlt | apply sc_eq | apply sc_neq | apply sc_nil | apply sc_nnil | apply sc_seq | apply sc_nseq) <;> (intro hb; try exact dd hb)
      | apply sc_not | apply sc_or | (apply sc_i <;> intro hb)
      | (apply bx_i; intro hbd) | (apply gt_i; assumption; exact rfl)
      | (apply cx_is; first | exact hb) | (apply cx_do (i := 0) rfl; first | exact hb)
      | (apply ab_i; intro bl) | (apply as_i; intro va vk vc hva) | (apply av_i; intro v) | (apply ac_i; intro bl cap hcap)
      | apply bo_l | (apply nx_i <;> intro hnx) | (apply Ia.hit; assumption) | (apply Ia.miss; assumption)
      | (apply rt_is; exact rfl) | exact rt_w | (apply iv; assumption)
      | apply dw_q mixed hC hGL (by kernel_rfl) | (apply cq; assumption; (first | exact hb); exact rfl))
  all_goals (try conv => whnf)
end Go.Proofs.YtjccffnjhdhgfaaGreatDoor
