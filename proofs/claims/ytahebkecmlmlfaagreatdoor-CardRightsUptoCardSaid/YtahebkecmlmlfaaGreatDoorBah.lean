/- Parts of the proof of prints_root: Rnd, Rua, Scu, Rub, Deh, Slc, Dfx, Ruc, Rud, Rue, Ruf, Rug, Rva. -/
import Derived.RangeFuncRecord
import Derived.RangeFuncSeq
import Derived.OrdersIn
import Derived.LoopNIn
import Derived.Lib.Fields
import Derived.Lib.LaidTab
import Derived.Test.YtahebkecmlmlfaaGreatDoorBad
import Derived.Test.YtahebkecmlmlfaaGreatDoorBag
import Derived.Test.YtahebkecmlmlfaaGreatDoorBae
import Derived.Test.YtahebkecmlmlfaaGreatDoorBaf
set_option linter.unusedVariables false
set_option linter.unusedSimpArgs false
set_option linter.unusedSectionVars false
namespace Go.Proofs.YtahebkecmlmlfaaGreatDoor
set_option maxRecDepth 20000
set_option maxHeartbeats 4000000
section
open Go
def Fo (rd : Option Nat) : Fence := { fn := fun _ => True, depth := none, alive := false, round := rd }
theorem Dr {P : Program} {f : FuncId} {args : Array Value} {w : World} {R : Ending → World → Prop} (rd : Option Nat) (m : Nat) (h : Calls P f args w R) : CallsIn (Fo rd) m P f args w R := (callsIn_wide (n := m)).2 h
theorem Eh {P : Program} {row : String} {args : Array Value} {w : World} {R : Value → World → Prop} (rd : Option Nat) (m : Nat) (h : Rows P row args w R) : RowsIn (Fo rd) m P row args w R :=
 fun c cs _ => let ⟨v, w', r, s⟩ := h c cs; ⟨v, w', r, stepsIn_wide.2 s⟩
theorem kO {C : Ctx} {n : Nat} {Q : AExit → Env → Heap → Prop} : ¬ LetsOut (Post C n Q) := by
 rintro ⟨a, w, x, env, H, R, q, er, _⟩
 cases x with
 | normal => cases er
 | exit i => cases er
 | goto i => cases er
 | ret => cases er
 | panic v => obtain ⟨y, e, _⟩ := er; cases e
def cD (l : List Oper) : Bool := l.all fun o => match o.op with
 | .defer _ => false
 | _ => true
theorem mM {l : List Oper} (h : cD l = true) {o : Oper} (ho : o ∈ l) : ∀ c, o.op ≠ .defer c := by
 intro c e
 have := List.all_eq_true.1 h o ho
 rw [e] at this
 cases this
theorem BN {rd : Option Nat} {ρ : Operand → Value} {o : Oper} (hd : ∀ c, o.op ≠ .defer c) : Oper.semAt rd ρ o = execOp ρ o := by
 cases rd with
 | none => exact Oper.semAt_none ρ o
 | some l => exact Oper.semAt_some l ρ o hd
section
variable {P : Program} {rd : Option Nat} {m : Nat} {ops : Array Oper} {Q0 Q : Exit → Act → World → Prop}
theorem yy {o : Oper} {a : Act} {K K' : Act → World → Prop} {r : Result Next} (hk : ∀ a w, K a w → K' a w) (hp : ∀ c a w, Q0 (.panic c) a w → Q (.panic c) a w) (ho : ¬ LetsOut Q0) (h : o.upon P a K Q0 r) : o.uponIn (Fo rd) m P a K' Q r := by
 cases r with
 | ok x w' =>
  cases x <;> simp only [Oper.upon, Oper.uponIn] at h ⊢ <;> first
   | exact hk _ _ h
   | exact ⟨fun e => (by cases e), (Dr rd _ h).mono fun e w'' he => by cases e <;> first | exact hk _ _ he | exact hp _ _ _ he | exact absurd he ho⟩
   | exact ⟨fun e => (by cases e), (Eh rd _ h).mono fun _ _ he => hk _ _ he⟩
   | exact h.elim
 | halt x w' => cases x <;> simp only [Oper.upon, Oper.uponIn] at h ⊢ <;> exact hp _ _ _ h
theorem fX {l : List Oper} (hn : ∀ a w, Q0 .normal a w → wpListIn (Fo rd) m P ops Q l a w) (hp : ∀ c a w, Q0 (.panic c) a w → Q (.panic c) a w) (ho : ¬ LetsOut Q0) :
  ∀ {pre : List Oper} {a : Act} {w : World}, cD pre = true → wpList P ops Q0 pre a w → wpListIn (Fo rd) m P ops Q (pre ++ l) a w
 | [], a, w, _, h => hn a w h
 | o :: rest, a, w, hd, h => by
  have h1 := mM hd (List.mem_cons_self ..)
  have h2 : cD rest = true := by
   unfold cD at hd ⊢
   rw [List.all_cons, Bool.and_eq_true] at hd
   exact hd.2
  simp only [wpList, List.cons_append, wpListIn] at h ⊢
  split
  ·rename_i hw
   rw [if_pos hw] at h
   rcases h with h | ⟨_, h⟩
   ·refine ⟨fun _ _ => trivial, ?_⟩
    rw [show (Fo rd).round = rd from rfl, BN h1]
    exact yy (fun a w h => fX hn hp ho h2 h) hp ho h
   ·exact absurd h ho
  ·rename_i hw
   rw [if_neg hw] at h
   exact ⟨fun _ _ => trivial, fX hn hp ho h2 h⟩
theorem DU {i : Nat} {a : Act} {w : World} {K K' : Act → World → Prop} (hd : cD ops.toList = true) (hk : ∀ a w, K a w → K' a w) (ho : ¬ LetsOut Q) (h : wpOp P ops Q i K a w) : wpOpIn (Fo rd) m P ops Q i K' a w := by
 unfold wpOp at h
 unfold wpOpIn
 cases hi : ops[i]? with
 | none => rw [hi] at h; exact hk _ _ h
 | some o =>
  rw [hi] at h
  have h1 := mM hd (List.mem_of_getElem? (i := i) (by rw [Array.getElem?_toList]; exact hi))
  dsimp only at h ⊢
  split
  ·rename_i hw
   rw [if_pos hw] at h
   rcases h with h | ⟨_, h⟩
   ·refine ⟨fun _ _ => trivial, ?_⟩
    rw [show (Fo rd).round = rd from rfl, BN h1]
    exact yy hk (fun _ _ _ q => q) ho h
   ·exact absurd h ho
  ·rename_i hw
   rw [if_neg hw] at h
   exact ⟨fun _ _ => trivial, hk _ _ h⟩
theorem tl {md : Region.Mode} (hd : cD ops.toList = true) (ho : ¬ LetsOut Q) : ∀ (fuel : Nat) (listed : Array Bool) (a : Act) (w : World), wpAny P md ops Q fuel listed a w → wpAnyIn (Fo rd) m P md ops Q fuel listed a w
 | 0, _, _, _, h => h
 | fuel + 1, _, _, _, h => ⟨h.1, fun i hi => DU hd (fun a w q => tl hd ho fuel _ a w q) ho (h.2 i hi)⟩
end
/-! ## Code in a round -/
def AWpR (rd : Option Nat) (P : Program) (C : Ctx) (n : Nat) (c : Code) (env : Env) (H : Heap) (Q : AExit → Env → Heap → Prop) : Prop :=
 ∀ R a w, MS C R H w → FS C.D n R env a → c.wpIn (Fo rd) 0 P (Post C n Q) a w
section
variable {rd : Option Nat} {P : Program} {C : Ctx} {n : Nat} {env : Env} {H : Heap} {Q : AExit → Env → Heap → Prop} {G : Glo} {GL : List (Nat × List AVal)}
theorem AWpR.mono {c : Code} {Q' : AExit → Env → Heap → Prop} (h : AWpR rd P C n c env H Q) (hq : ∀ x e h, Q x e h → Q' x e h) : AWpR rd P C n c env H Q' :=
 fun R a w hm hf => Go.wpIn_mono (h R a w hm hf) fun _ _ _ ⟨x, en, H', R', q, r⟩ => ⟨x, en, H', R', hq _ _ _ q, r⟩
theorem nF {x y : Code} (h : AWpR rd P C n x env H (dX (fun e h => AWpR rd P C n y e h Q) Q)) : AWpR rd P C n (.seq x y) env H Q := by
 intro R a w hm hf
 refine wpIn_seq (Go.wpIn_mono (h R a w hm hf) ?_)
 rintro e a' w' ⟨x', en, H', R', q, er, hm', hf'⟩
 cases x' with
 | normal => simp only [aD] at er; subst er; exact q R' a' w' hm' hf'
 | exit i => simp only [aD] at er; subst er; exact ⟨.exit i, en, H', R', q, rfl, hm', hf'⟩
 | goto i => simp only [aD] at er; subst er; exact ⟨.goto i, en, H', R', q, rfl, hm', hf'⟩
 | ret => simp only [aD] at er; subst er; exact ⟨.ret, en, H', R', q, rfl, hm', hf'⟩
 | panic v => obtain ⟨y, rfl, hr⟩ := er; exact ⟨.panic v, en, H', R', q, ⟨y, rfl, hr⟩, hm', hf'⟩
theorem vO {c : Operand} {x y : Code} {b : Bool} (hc : ai env c = some (.bool b)) (ht : b = true → AWpR rd P C n x env H Q) (hf : b = false → AWpR rd P C n y env H Q) : AWpR rd P C n (.cond c x y) env H Q := by
 intro R a w hm hfr
 exact wpIn_cond_split (aE.1 (hfr.eval hc)) (fun e => ht e R a w hm hfr) (fun e => hf e R a w hm hfr)
theorem mA {id : Nat} {c : Code} (h : AWpR rd P C n c env H (s6 id Q)) : AWpR rd P C n (.block id c) env H Q := by
 intro R a w hm hf
 refine wpIn_block (Go.wpIn_mono (h R a w hm hf) ?_)
 rintro e a' w' ⟨x', en, H', R', q, er, hm', hf'⟩
 cases x' with
 | normal => simp only [aD] at er; subst er; exact ⟨.normal, en, H', R', q, rfl, hm', hf'⟩
 | exit i =>
  simp only [aD] at er; subst er
  simp only [Exit.inBlock]
  by_cases e : i = id
  ·rw [if_pos e]; exact ⟨.normal, en, H', R', q.1 e, rfl, hm', hf'⟩
  ·rw [if_neg e]; exact ⟨.exit i, en, H', R', q.2 e, rfl, hm', hf'⟩
 | goto i => simp only [aD] at er; subst er; exact ⟨.goto i, en, H', R', q, rfl, hm', hf'⟩
 | ret => simp only [aD] at er; subst er; exact ⟨.ret, en, H', R', q, rfl, hm', hf'⟩
 | panic v => obtain ⟨y, rfl, hr⟩ := er; exact ⟨.panic v, en, H', R', q, ⟨y, rfl, hr⟩, hm', hf'⟩
theorem ym {id : Nat} {l : List Oper} (hd : cD l = true) (h : AOps P C n l.toArray l env H Q) : AWpR rd P C n (.region id l.toArray false) env H Q := by
 intro R a w hm hf
 refine wpIn_region_lit ?_
 have := fX (rd := rd) (m := 0) (l := []) (Q := Post C n Q) (fun a w q => wpListIn_nil q) (fun _ _ _ q => q) kO hd (h R a w hm hf)
 rwa [List.append_nil] at this
theorem DC {id : Nat} {l : List Oper} (hm : P.follows .mixedOrders = true) (hB : Region.lexB .any l.toArray = true) (hd : cD l = true) (h : AQ P C n l.toArray l env H (fun e => Q .normal e H)) :
  AWpR rd P C n (.region id l.toArray true) env H Q := by
 intro R a w hw hf
 refine wpIn_region_any hm (tl (by simpa using hd) kO _ _ _ _ ?_)
 have h1 := h R a hf
 have h2 : ∀ (l' : List Oper) (a : Act), wpQuiet P l.toArray (CW C R H) (fun a' => ∃ env', Q .normal env' H ∧ FS C.D n R env' a') l' a →
   wpQuiet P l.toArray (CW C R H) (fun a' => ∀ w', CW C R H w' → Post C n Q .normal a' w') l' a := by
  intro l'
  induction l' with
  | nil => rintro a ⟨env', hq, hfs⟩ w' ⟨R', hle, hms⟩; exact ⟨.normal, env', H, R', hq, rfl, hms, hfs.mono hle⟩
  | cons o r ih =>
   intro a h
   have h' := h
   unfold wpQuiet at h'
   refine wpQuiet_step fun X hX => ?_
   split
   ·rename_i hw; rw [if_pos hw] at h'; exact Oper.quiet_mono (fun a' q => hX _ (ih a' q)) h'
   ·rename_i hw; rw [if_neg hw] at h'; exact hX _ (ih _ h')
 simp only [Region.lexB, Bool.and_eq_true] at hB
 refine wpAny_of_quiet (C := CW C R H) (Q := fun a' => ∀ w', CW C R H w' → Post C n Q .normal a' w') (fun _ w' hw' h => h w' hw') _ _ _ _ ⟨R, Seal.le_refl R, hw.drawn _⟩ ?_
 have := wpAnyQ_lex (C := CW C R H) (md := .any) hB.1 l.toArray.toList 0 (Array.replicate l.toArray.size false) a (by simp) (by simpa using hB.2) (h2 _ _ (by simpa using h1))
 simpa using this
def nH (rd : Option Nat) (P : Program) (C : Ctx) (n : Nat) (c : Code) (Q : AExit → Env → Heap → Prop) : Nat → Env → Heap → Prop
 | 0, _, _ => False
 | k + 1, e, h => AWpR rd P C n c e h (dX (nH rd P C n c Q k) Q)
theorem yl {c : Code} (k : Nat) (h : nH rd P C n c Q k env H) : AWpR rd P C n (.loop c) env H Q := by
 intro R a w hm hf
 refine wpIn_loop_rounds k ?_
 induction k generalizing env H R a w with
 | zero => exact h.elim
 | succ k ih =>
  rw [roundsIn_succ]
  refine Go.wpIn_mono (h R a w hm hf) ?_
  rintro e a' w' ⟨x', en, H', R', q, er, hm', hf'⟩
  cases x' with
  | normal => simp only [aD] at er; subst er; exact ih q R' a' w' hm' hf'
  | exit i => simp only [aD] at er; subst er; exact ⟨.exit i, en, H', R', q, rfl, hm', hf'⟩
  | goto i => simp only [aD] at er; subst er; exact ⟨.goto i, en, H', R', q, rfl, hm', hf'⟩
  | ret => simp only [aD] at er; subst er; exact ⟨.ret, en, H', R', q, rfl, hm', hf'⟩
  | panic v => obtain ⟨y, rfl, hr⟩ := er; exact ⟨.panic v, en, H', R', q, ⟨y, rfl, hr⟩, hm', hf'⟩
theorem E4 {c : Code} {env' : Env} (hs : Env.sub env env') (h : AWpR rd P C n c env' H Q) : AWpR rd P C n c env H Q := fun R a w hm hf => h R a w hm (hf.sub hs)
noncomputable def pw (P : Program) [Tab P] (C : Ctx) (n : Nat) (G : Glo) (GL : List (Nat × List AVal)) (c : Code) : Env → Heap → (AExit → Env → Heap → Prop) → Prop :=
 Code.rec (motive := fun _ => Env → Heap → (AExit → Env → Heap → Prop) → Prop)
  (fun env H Q => Q .normal env H)
  (fun _ ops d env H Q => match d with
   | false => match cD ops.toList with
    | true => opsX P C n G GL ops Q ops.toList env H
    | false => False
   | true => False)
  (fun _ _ iha ihb env H Q => iha env H (dX (fun e h => ihb e h Q) Q))
  (fun c _ _ ihx ihy env H Q => match ai env c with
   | some (.bool b) => Sc b (ihx env H Q) (ihy env H Q)
   | _ => False)
  (fun id _ ih env H Q => ih env H (s5 id Q))
  (fun _ _ _ _ _ => False)
  (fun _ _ _ _ _ _ _ _ _ => False)
  (fun id env H Q => Q (.exit id) env H)
  (fun _ _ _ _ _ => False)
  (fun _ _ _ _ => False)
  (fun _ _ _ _ => False)
  (fun env H Q => Q .ret env H)
  (fun _ _ _ _ => False) c
theorem fk [Tab P] (hC : C.G = G) (hGL : ad G GL) : ∀ (c : Code) (env : Env) (H : Heap) (Q : AExit → Env → Heap → Prop), pw P C n G GL c env H Q → AWpR rd P C n c env H Q
 | .skip, _, _, _, h => fun R _ _ hm hf => wpIn_skip ⟨.normal, _, _, R, h, rfl, hm, hf⟩
 | .region id ops dr, env, H, Q, h => by
  cases dr with
  | false =>
   replace h : (match cD ops.toList with
    | true => opsX P C n G GL ops Q ops.toList env H
    | false => False) := h
   cases hd : cD ops.toList with
   | false => rw [hd] at h; exact h.elim
   | true =>
    rw [hd] at h
    have e := bD (a := ops) rfl
    have := ym (rd := rd) (id := id) hd (by rw [← e]; exact cw hC hGL _ _ _ h)
    rwa [← e] at this
  | true => exact False.elim h
 | .seq a b, env, H, Q, h => by
  replace h : pw P C n G GL a env H (dX (fun e h => pw P C n G GL b e h Q) Q) := h
  refine nF ((fk hC hGL a env H _ h).mono ?_)
  intro x e h' q
  cases x with
  | normal => exact fk hC hGL b e h' Q q
  | exit i => exact q
  | goto i => exact q
  | ret => exact q
  | panic v => exact q
 | .cond c x y, env, H, Q, h => by
  replace h : (match ai env c with
   | some (.bool b) => Sc b (pw P C n G GL x env H Q) (pw P C n G GL y env H Q)
   | _ => False) := h
  split at h
  ·rename_i b hb
   exact vO hb (fun e => fk hC hGL x env H Q (h.1 e)) (fun e => fk hC hGL y env H Q (h.2 e))
  ·exact h.elim
 | .block id c, env, H, Q, h => mA ((fk hC hGL c env H _ h).mono fun _ _ _ q => ro q)
 | .exit id, _, _, _, h => fun R _ _ hm hf => wpIn_exit ⟨.exit id, _, _, R, h, rfl, hm, hf⟩
 | .ret, _, _, _, h => fun R _ _ hm hf => wpIn_ret ⟨.ret, _, _, R, h, rfl, hm, hf⟩
 | .loop c, _, _, _, h => False.elim h
 | .rangeFunc .., _, _, _, h => False.elim h
 | .scope _, _, _, _, h => False.elim h
 | .label _, _, _, _, h => False.elim h
 | .goto _, _, _, _, h => False.elim h
 | .refuse _, _, _, _, h => False.elim h
theorem s9 [Tab P] {a b : Code} {X : Type} (hC : C.G = G) (hGL : ad G GL) (I : X → Env) (J : X → Heap) (Inv : X → Prop) (h1 : pw P C n G GL a env H (dX (fun e h => Cy I J Inv e h) Q)) (h2 : ∀ x, Inv x → AWpR rd P C n b (I x) (J x) Q) : AWpR rd P C n (.seq a b) env H Q :=
 nF ((fk hC hGL _ _ _ _ h1).mono fun x e h q => by
  cases x with
  | normal =>
   obtain ⟨y, hy, hs, rfl⟩ := q.h
   exact E4 hs (h2 y hy)
  | exit i => exact q
  | goto i => exact q
  | ret => exact q
  | panic v => exact q)
theorem cO [Tab P] {c : Code} (hC : C.G = G) (hGL : ad G GL) (h : pw P C n G GL c env H Q) : AWpR rd P C n c env H Q := fk hC hGL _ _ _ _ h
theorem E5 [Tab P] {id : Nat} {ops : Array Oper} (hm : P.follows .mixedOrders = true) (hC : C.G = G) (hGL : ad G GL) (hB : (Region.lexB .any ops && cD ops.toList) = true) (h : quX P C n G GL H ops (fun e => Q .normal e H) ops.toList env) : AWpR rd P C n (.region id ops true) env H Q := by
 rw [Bool.and_eq_true] at hB
 have e := bD (a := ops) rfl
 have := DC (rd := rd) (P := P) (C := C) (n := n) (env := env) (H := H) (Q := Q) (id := id) (l := ops.toList) hm (by rw [← e]; exact hB.1) hB.2 (by rw [← e]; exact Ca hC hGL _ _ h)
 rwa [← e] at this
theorem rdsR [Tab P] {c : Code} {k : Nat} (h : AWpR rd P C n c env H (dX (nH rd P C n c Q k) Q)) : nH rd P C n c Q (k + 1) env H := h
end
/-! ## A call of yield -/
def ii (P : Program) (G : Glo) (L : Nat) (avs : List AVal) (H : Heap) (Qf : Bool → Heap → Prop) : Prop :=
 ∀ R w args (hG : G.p R), MS ⟨w, R, blks H, G, hG, []⟩ R H w → RelV R avs args.toList →
  YieldAt Fence.wide 0 P L args w fun e w' => ∃ b H' R', Qf b H' ∧ e = .returned (.bool b) ∧ MS ⟨w, R, blks H, G, hG, []⟩ R' H' w'
def recL (r : Loop) (st : LoopState) (pe : Option Code) : Loop := { r with state := st, pending := pe }
abbrev objD (D : Nat) : HEnt := .obj D (.deferred (some []))
abbrev objL (L : Nat) (r : Loop) (st : LoopState) (pe : Option Code) : HEnt := .obj L (.loop (recL r st pe))
theorem iD {C : Ctx} {R : Seal} {H : Heap} {w : World} {i L : Nat} {o : Obj} (h : MS C R H w) (hi : H[i]? = some (.obj L o)) : w.heap[L]? = some o := h.heap.holds _ (List.mem_of_getElem? hi)
theorem eO {C : Ctx} {R : Seal} {H : Heap} {w : World} {i L : Nat} {o : Obj} (o' : Obj) (h : MS C R H w) (hi : H[i]? = some (.obj L o)) : MS C R (H.set i (.obj L o')) (w.putObj L o') := by
 have hl := jh (iD h hi)
 exact h.write hi rfl ⟨rfl, rfl, rfl, World.putObj_size, World.putObj_heap_same hl, fun b hb => World.putObj_heap_other hb⟩ rfl (World.putObj_heap_same hl)
def RdQ (L : Nat) (r : Loop) (Qf : Bool → Heap → Prop) : AExit → Env → Heap → Prop
 | .normal, _, h => ∃ j, h[j]? = some (objL L r .busy none) ∧ Qf true (h.set j (objL L r .ready none))
 | .ret, _, h => ∃ j, h[j]? = some (objL L r .busy none) ∧ Qf false (h.set j (objL L r .done (some .ret)))
 | .exit i, _, h => ∃ j, h[j]? = some (objL L r .busy none) ∧ Qf false (h.set j (objL L r .done (some (.exit i))))
 | _, _, _ => False
section
variable {P : Program} {n : Nat} {env : Env} {H : Heap} {G : Glo} {GL : List (Nat × List AVal)}
theorem Ba {L p i : Nat} {av : AVal} {r : Loop} {Qf : Bool → Heap → Prop} (hi : H[i]? = some (objL L r .ready none)) (hps : r.params = #[p]) (hp : Nat.ble (p + 1) n = true)
  (hfs : ∀ R, FS [] n R env { tmps := r.tmps, defers := [] })
  (ha : ∀ C : Ctx, C.G = G → C.D = [] → AWpR (some L) P C n r.assign ((p, av) :: env) H (fun x e h => x = .normal ∧ ∃ j, h[j]? = some (objL L r .ready none) ∧ AWpR (some L) P C n r.body e (h.set j (objL L r .busy none)) (RdQ L r Qf))) :
  ii P G L [av] H Qf := by
 intro R w args hG hm hargs
 obtain ⟨v, t, e, hv, ht⟩ := hargs
 obtain rfl : t = [] := ht
 have hargs' : args = #[v] := by rw [← Array.toList_inj]; exact e
 subst hargs'
 have hl := iD hm hi
 have hy := run_yield (P := P) (args := #[v]) hl (by show 1 = r.params.size; rw [hps]; rfl)
 refine ⟨_, _, _, _, hy, roundIn_of_wpIn trivial ?_⟩
 have h1 := ha ⟨w, R, blks H, G, hG, []⟩ rfl rfl R _ w hm ((hfs R).put hp ⟨hv.1, hv.2⟩)
 have e1 : ((recL r .ready none).params.zip #[v]).foldl (fun tmps (t, a) => tmps.setIfInBounds t a) (recL r .ready none).tmps = r.tmps.setIfInBounds p v := by
  show (r.params.zip #[v]).foldl (fun tmps (t, a) => tmps.setIfInBounds t a) r.tmps = _
  rw [hps]
  simp
 rw [e1]
 refine Go.wpIn_mono h1 ?_
 rintro ex a' w' ⟨x, en, H', R', ⟨rfl, j, hj, hb⟩, er, hm', hf'⟩
 obtain rfl : ex = .normal := er
 refine ⟨_, run_beginRound (iD hm' hj) rfl, ?_⟩
 refine Go.wpIn_mono (hb R' a' _ (eO _ hm' hj) hf') ?_
 rintro ex a2 w2 ⟨x, en2, H2, R2, q, er, hm2, hf2⟩
 cases x with
 | normal =>
  obtain rfl : ex = .normal := er
  obtain ⟨k, hk, q⟩ := q
  exact ⟨_, _, run_endRound none (iD hm2 hk), true, _, R2, q, rfl, eO _ hm2 hk⟩
 | ret =>
  obtain rfl : ex = .ret := er
  obtain ⟨k, hk, q⟩ := q
  exact ⟨_, _, run_endRound (some .ret) (iD hm2 hk), false, _, R2, q, rfl, eO _ hm2 hk⟩
 | exit id =>
  obtain rfl : ex = .exit id := er
  obtain ⟨k, hk, q⟩ := q
  exact ⟨_, _, run_endRound (some (.exit id)) (iD hm2 hk), false, _, R2, q, rfl, eO _ hm2 hk⟩
 | goto i => exact q.elim
 | panic v => exact q.elim
structure YCall (P : Program) (G : Glo) (fv : Option AVal) (avs : Option (List AVal)) (H : Heap) (K : Bool → Heap → Prop) : Prop where
 h : ∃ L vs, fv = some (.func (.yield L) [] []) ∧ avs = some vs ∧ ii P G L vs H K
def yQ (P : Program) [Tab P] (C : Ctx) (n : Nat) (G : Glo) (GL : List (Nat × List AVal)) (ops : Array Oper) (d : Nat) (fv : Operand) (args : Array Operand) (post : List Oper) (Q : AExit → Env → Heap → Prop) : AExit → Env → Heap → Prop
 | .normal, e, h => YCall P G (ai e fv) (eh e args.toList) h fun b h' => opsX P C n G GL ops Q post ((d, .bool b) :: e) h'
 | x, e, h => Q x e h
theorem vP [Tab P] {C : Ctx} {Q : AExit → Env → Heap → Prop} {id d : Nat} {ops : Array Oper} {fv : Operand} {args : Array Operand} {ts : Array TypeId} {t : TypeId} {ps : String} {af : Array Edge} (k : Nat) (hC : C.G = G) (hGL : ad G GL)
  (hk : ops.toList[k]? = some { dst := some d, op := .call { callee := .value fv, args := args, argTypes := ts }, type := t, pos := ps, after := af, guard := none }) (hdn : Nat.ble (d + 1) n = true) (hnd : cD ops.toList = true)
  (h : opsX P C n G GL ops (yQ P C n G GL ops d fv args (ops.toList.drop (k + 1)) Q) (ops.toList.take k) env H) : AWp P C n (.region id ops false) env H Q := by
 intro R a w hm hf
 have hlt : k < ops.toList.length := (List.getElem?_eq_some_iff.1 hk).1
 have hsp : ops.toList = ops.toList.take k ++ { dst := some d, op := .call { callee := .value fv, args := args, argTypes := ts }, type := t, pos := ps, after := af, guard := none } :: ops.toList.drop (k + 1) := by
  have := List.take_append_drop k ops.toList
  rw [List.drop_eq_getElem_cons hlt, (List.getElem?_eq_some_iff.1 hk).2] at this
  exact this.symm
 have nd : ∀ {l : List Oper}, l.Sublist ops.toList → cD l = true := fun hs => List.all_eq_true.2 fun o ho => List.all_eq_true.1 hnd o (hs.subset ho)
 refine (wpIn_wide (n := 0)).1 (wpIn_region_list ?_)
 rw [hsp]
 refine fX (rd := none) (m := 0) (Q0 := Post C n (yQ P C n G GL ops d fv args (ops.toList.drop (k + 1)) Q)) ?_ ?_ kO (nd (List.take_sublist _ _)) (cw hC hGL _ _ _ h R a w hm hf)
 ·rintro a w ⟨x, en, H', R', q, er, hm', hf'⟩
  cases x with
  | normal =>
   obtain ⟨L, vs, h1, h2, hs⟩ := YCall.h q
   refine wpListIn_plain rfl fun K hK => ⟨fun _ _ => trivial, ?_⟩
   obtain ⟨x1, x2, e, r1, r2⟩ := aQ (hf'.eval h1) rfl
   simp only [List.cons.injEq, and_true] at e
   have r1 : x1.toList = [] := r1
   have r2 : x2.toList = [] := r2
   have r1 : x1 = #[] := by rw [← Array.toList_inj]; exact r1
   have r2 : x2 = #[] := by rw [← Array.toList_inj]; exact r2
   subst r1; subst r2; subst hC
   have hrel : RelV R' vs (args.map a.eval).toList := by
    have := df (fun x av h => hf'.eval h) h2
    simpa using this
   obtain ⟨fn, tmps, asg, body, hy, hR⟩ := hs R' w _ hm'.glo (MS.enter (H2 := []) (by simpa using hm')) hrel
   have hrun : (execOp a.eval { dst := some d, op := .call { callee := .value fv, args := args, argTypes := ts }, type := t, pos := ps, after := af, guard := none : Oper }).run P w = .ok (.round L fn tmps asg body) w := by
    rw [← hy]
    simp only [execOp, resolve, e, Deferred.ofValue, Sem.run_bind, Sem.run_pure, Result.andThen_ok, invoke, Array.empty_append, Array.append_empty]
   rw [show (Fo none).round = none from rfl, Oper.semAt_none, hrun, Oper.uponIn_round]
   refine ⟨fun e => (by cases e), hR.mono ?_⟩
   rintro e w' ⟨b, H2, R2, q2, rfl, hm2⟩
   have hm3 : MS C R2 H2 w' := by simpa using MS.call (H2 := []) (by simpa using hm') hm2
   refine hK _ _ ?_
   have := fX (rd := none) (m := 0) (l := []) (Q := Post C n Q) (fun a w q => wpListIn_nil q) (fun _ _ _ q => q) kO (nd (List.drop_sublist _ _))
    (cw rfl hGL _ _ _ q2 R2 _ w' hm3 ((hf'.mono hm2.ge).put hdn (aE.2 rfl)))
   rwa [List.append_nil] at this
  | exit i => cases er
  | goto i => cases er
  | ret => cases er
  | panic v => obtain ⟨y, e, _⟩ := er; cases e
 ·rintro c a w ⟨x, en, H', R', q, er, hm', hf'⟩
  cases x with
  | normal => cases er
  | exit i => cases er
  | goto i => cases er
  | ret => cases er
  | panic v => exact ⟨.panic v, en, H', R', q, er, hm', hf'⟩
/-! ## The loop -/
def detE (env : Env) : Bool := env.all fun x => x.2.det
theorem mT : ∀ {env : Env} {k : Nat} {v : AVal}, Env.get env k = some v → (k, v) ∈ env
 | (j, x) :: t, k, v, h => by
  simp only [Env.get] at h
  split at h
  ·rename_i hb
   have := Nat.eq_of_beq_eq_true hb
   subst this
   simp only [Option.some.injEq] at h
   subst h
   exact List.mem_cons_self ..
  ·exact List.mem_cons_of_mem _ (mT h)
theorem Gv {D : List Deferred} {R : Seal} {a : Act} (hd : detE env = true) (hf : FS D n R env a) (R' : Seal) : FS [] n R' env { tmps := a.tmps, defers := [] } := by
 refine ⟨fun k v hk => ?_, hf.size, rfl⟩
 obtain ⟨x, hx, hr⟩ := hf.fr k v hk
 have hdv : v.det = true := List.all_eq_true.1 hd _ (mT hk)
 refine ⟨x, hx, ?_⟩
 rw [xQ hr hdv]
 exact nA hdv
abbrev colD (D : Nat) : Deferred := { target := .collected D, args := #[] }
def LpQ (L D : Nat) (r : Loop) (C : Ctx) (env : Env) (Q : List Deferred → AExit → Env → Heap → Prop) (res : ARes) (h : Heap) : Prop :=
 ∃ v j st pe, res = .ret v ∧ h[j]? = some (objL L r st pe) ∧ st ≠ .busy ∧ (match pe with
  | none => Q (colD D :: C.D) .normal env (h.set j (objL L r .exhausted pe))
  | some .ret => Q (colD D :: C.D) .ret env (h.set j (objL L r .exhausted pe))
  | some (.exit i) => Q (colD D :: C.D) (.exit i) env (h.set j (objL L r .exhausted pe))
  | _ => False)
theorem rq {C : Ctx} {Q : List Deferred → AExit → Env → Heap → Prop} {g : Operand} {ps : Array Tmp} {assign body : Code} {f : FuncId} {l2 : List AVal} (hg : ai env g = some (.func (.func f) [] l2))
  (hcf : ∀ args w, (callFunc f args).run P w = .ok (.enter f args) w) (env' : Env) (hs : Env.sub env env') (hdet : detE env' = true)
  (hit : ∀ (L D : Nat) (r : Loop), r.params = ps → r.assign = assign → r.body = body → (∀ R, FS [] n R env' { tmps := r.tmps, defers := [] }) →
   ah P C.G f (AVal.func (.yield L) [] [] :: l2) (H ++ [objD D, objL L r .ready none]) (LpQ L D r C env' Q)) : AWpD P C n (.rangeFunc g ps assign body) env H Q := by
 intro R a w hm hf
 refine (wpIn_wide (n := 1)).1 (wpIn_rangeFunc ?_)
 intro fn _
 obtain ⟨r, hr⟩ : ∃ r : Loop, r = { state := .ready, pending := none, fn, tmps := a.tmps, params := ps, assign, body, defers := w.heap.size } := ⟨_, rfl⟩
 have hW : (w.alloc (.deferred (some []))).alloc (.loop r) = grow (grow w (.deferred (some []))) (.loop r) := rfl
 obtain ⟨x1, b1, e, q1, q2⟩ := aQ (hf.eval hg) rfl
 simp only [List.cons.injEq, and_true] at e
 have q1 : x1.toList = [] := q1
 have q1 : x1 = #[] := by rw [← Array.toList_inj]; exact q1
 subst q1
 have hsz : (grow w (.deferred (some []))).heap.size = w.heap.size + 1 := by simp [grow]
 have hm1 : MS C R (objD w.heap.size :: H) (grow w (.deferred (some []))) := hm.alloc _ (objD w.heap.size) rfl (cL w _)
 have hm2 : MS C R (objL (w.heap.size + 1) r .ready none :: objD w.heap.size :: H) (grow (grow w (.deferred (some []))) (.loop r)) := by
  have hrr : recL r .ready none = r := by rw [hr]; rfl
  refine hm1.alloc _ (objL (w.heap.size + 1) r .ready none) (by rw [hsz]; rfl) ?_
  show (grow (grow w (.deferred (some []))) (.loop r)).heap[w.heap.size + 1]? = some (.loop (recL r .ready none))
  rw [hrr, ← hsz]
  exact cL _ _
 have hm3 : MS C R (H ++ [objD w.heap.size, objL (w.heap.size + 1) r .ready none]) (grow (grow w (.deferred (some []))) (.loop r)) := by
  refine hm2.perm ?_
  refine List.Perm.trans (List.Perm.swap _ _ _) ?_
  exact List.perm_append_comm (l₁ := [objD w.heap.size, objL (w.heap.size + 1) r .ready none]) (l₂ := H)
 have hspec := hit (w.heap.size + 1) w.heap.size r (by rw [hr]) (by rw [hr]) (by rw [hr]) (fun R' => by rw [hr]; exact Gv hdet (hf.sub hs) R')
 refine ⟨w.heap.size + 1, [colD w.heap.size], grow (grow w (.deferred (some []))) (.loop r), { target := .fn (.func f) b1, args := #[.func (.yield (w.heap.size + 1)) #[] #[]] }, grow (grow w (.deferred (some []))) (.loop r), f,
  #[.func (.yield (w.heap.size + 1)) #[] #[]] ++ b1, grow (grow w (.deferred (some []))) (.loop r), ?_, ?_, fun _ _ => trivial, ?_, fun _ => Nat.le_refl _, ?_⟩
 ·rw [← hW, hr]
  exact run_enterLoop_outer _ _ _ _ _
 ·simp only [resolve, rangeCall, e]
  simp [go_sem, Deferred.ofValue]
 ·simp only [invoke]
  exact hcf _ _
 ·have hrel : RelV R (AVal.func (.yield (w.heap.size + 1)) [] [] :: l2) (#[Value.func (.yield (w.heap.size + 1)) #[] #[]] ++ b1).toList := by
   rw [Array.toList_append]
   exact ⟨.func (.yield (w.heap.size + 1)) #[] #[], _, rfl, ⟨⟨#[], #[], rfl, rfl, rfl⟩, rfl⟩, q2⟩
  have hcall := hspec R _ _ hm.glo (MS.enter (H2 := []) (by simpa using hm3)) hrel
  have hcalls : Calls P f (#[Value.func (.yield (w.heap.size + 1)) #[] #[]] ++ b1) (grow (grow w (.deferred (some []))) (.loop r)) (fun e w' => ∃ res H' R', LpQ (w.heap.size + 1) w.heap.size r C env' Q res H' ∧ fV R' res e ∧
    MS ⟨grow (grow w (.deferred (some []))) (.loop r), R, blks (H ++ [objD w.heap.size, objL (w.heap.size + 1) r .ready none]), C.G, hm.glo, []⟩ R' H' w') := by
   rcases hcall with ⟨_, h2⟩ | ⟨v, w', h1, _⟩
   ·exact h2
   ·rw [hcf] at h1; cases h1
  refine ((callsIn_wide (n := 1 - 1)).2 hcalls).mono ?_
  rintro e' w3 ⟨res, H', R', ⟨v, j, st, pe, rfl, hj, hst, hq⟩, ⟨y, rfl, _⟩, hm4⟩
  have hm5 : MS C R' H' w3 := by simpa using MS.call (H2 := []) (by simpa using hm3) hm4
  refine ⟨pe, _, run_endLoop (iD hm5 hj) hst, ?_⟩
  have hm6 := eO (.loop { recL r st pe with state := .exhausted }) hm5 hj
  have hf6 : FS (colD w.heap.size :: C.D) n R' env' { a with defers := [colD w.heap.size] ++ a.defers } := by
   have h7 := (hf.sub hs).mono hm4.ge
   exact ⟨h7.fr, h7.size, by show colD w.heap.size :: a.defers = _; rw [h7.defers]⟩
  cases pe with
  | none => exact ⟨_, .normal, env', _, R', hq, rfl, hm6, hf6⟩
  | some c =>
   cases c with
   | ret => exact wpIn_ret ⟨_, .ret, env', _, R', hq, rfl, hm6, hf6⟩
   | exit i => exact wpIn_exit ⟨_, .exit i, env', _, R', hq, rfl, hm6, hf6⟩
   | _ => exact hq.elim
def GG (id : Nat) (Q : List Deferred → AExit → Env → Heap → Prop) : List Deferred → AExit → Env → Heap → Prop
 | D, .exit i, e, h => (i = id → Q D .normal e h) ∧ (i ≠ id → Q D (.exit i) e h)
 | D, x, e, h => Q D x e h
theorem ru {C : Ctx} {Q : List Deferred → AExit → Env → Heap → Prop} {id : Nat} {c : Code} (h : AWpD P C n c env H (GG id Q)) : AWpD P C n (.block id c) env H Q := by
 intro R a w hm hf
 refine wp_block (wp_mono (h R a w hm hf) ?_)
 rintro e a' w' ⟨D, x', en, H', R', q, er, hm', hf'⟩
 cases x' with
 | normal => simp only [aD] at er; subst er; exact ⟨D, .normal, en, H', R', q, rfl, hm', hf'⟩
 | exit i =>
  simp only [aD] at er; subst er
  simp only [Exit.inBlock]
  by_cases e : i = id
  ·rw [if_pos e]; exact ⟨D, .normal, en, H', R', q.1 e, rfl, hm', hf'⟩
  ·rw [if_neg e]; exact ⟨D, .exit i, en, H', R', q.2 e, rfl, hm', hf'⟩
 | goto i => simp only [aD] at er; subst er; exact ⟨D, .goto i, en, H', R', q, rfl, hm', hf'⟩
 | ret => simp only [aD] at er; subst er; exact ⟨D, .ret, en, H', R', q, rfl, hm', hf'⟩
 | panic v => obtain ⟨y, rfl, hr⟩ := er; exact ⟨D, .panic v, en, H', R', q, ⟨y, rfl, hr⟩, hm', hf'⟩
/-! ## As a function with marks leaves -/
def LvM (P : Program) (G : Glo) (n : Nat) (rs : List ResultVar) (env : Env) (D : List Deferred) (m : AMode) (H : Heap) (Qf : ARes → Heap → Prop) : Prop :=
 ∀ (C : Ctx) (R : Seal) (a : Act) (w : World) (fn : Func) (u : FrameMode) (D0 : List Deferred), C.G = G → fn.results.toList = rs → MS C R H w → FS D0 n R env a → dT R m u →
  LeavesInM Fence.wide 0 P fn a.tmps (fun e w' => ∃ res H' R', Qf res H' ∧ fV R' res e ∧ MS C R' H' w') D u w
variable {rs : List ResultVar} {Qf : ARes → Heap → Prop} {D : List Deferred} {m : AMode}
theorem sr [Tab P] (h : RetX P rs Qf .ret env H) : LvM P G n rs env [] .ret H Qf := by
 rintro C R a w fn u D0 hC hrs hm hf rfl
 obtain ⟨vs, H'', hv, hs, q⟩ := fK h
 obtain ⟨y, hy, hr⟩ := db (fn := fn) hm hf (by rw [hrs]; exact hv)
 exact ⟨y, hy, _, H'', R, q, ⟨y, rfl, hr⟩, hm.drop hs⟩
theorem ss {i d : Nat} (hi : H[i]? = some (objD d)) (h : LvM P G n rs env D m (H.set i (.obj d (.deferred none))) Qf) : LvM P G n rs env (colD d :: D) m H Qf := by
 rintro C R a w fn u D0 hC hrs hm hf hu
 refine ⟨uH hu, .inl ⟨d, _, rfl, run_takeDeferred (iD hm hi), h C R a _ fn u D0 hC hrs (eO _ hm hi) hf hu⟩⟩
def LvQM (P : Program) (G : Glo) (n : Nat) (rs : List ResultVar) (Qf : ARes → Heap → Prop) : List Deferred → AExit → Env → Heap → Prop
 | D, .ret, e, H | D, .normal, e, H => LvM P G n rs e D .ret H Qf
 | D, .panic v, e, H => LvM P G n rs e D (.pan v) H Qf
 | _, _, _, _ => False
theorem fn_m {f : FuncId} {fn : Func} {c : Code} {avs : List AVal} (hf : P.funcs[f]? = some fn)
  (hc : ∀ args w, (callFunc f args).run P w = .ok (.enter f args) w) (hb : fn.body = some c) (hn : fn.ntmps = n) (hrs : fn.results = rs.toArray) (hlen : Nat.ble avs.length n = true)
  (h : ∀ C : Ctx, C.G = G → C.D = [] → AWpD P C n c (cY 0 avs) H (LvQM P G n rs Qf)) : ah P G f avs H Qf := by
 intro R w args hG hm ha
 refine .inl ⟨hc args w, (callsIn_wide (n := 0)).1 (callsIn_of_wp_marks hf hb trivial ((wpIn_wide (n := 0)).2 ?_))⟩
 subst hn
 have hrs' : fn.results.toList = rs := by rw [hrs]
 refine wp_mono (h ⟨w, R, blks H, G, hG, []⟩ rfl rfl R _ w hm (yp hlen ha)) ?_
 rintro e a' w' ⟨D, x, env', H', R', q, er, hm', hf'⟩
 cases x with
 | normal =>
  simp only [aD] at er; subst er
  have := q _ R' a' w' fn .returning D rfl hrs' hm' hf' rfl
  rwa [← hf'.defers] at this
 | ret =>
  simp only [aD] at er; subst er
  have := q _ R' a' w' fn .returning D rfl hrs' hm' hf' rfl
  rwa [← hf'.defers] at this
 | panic v =>
  obtain ⟨y, rfl, hr⟩ := er
  have := q _ R' a' w' fn (.panicking [{ v := y, recovered := false }]) D rfl hrs' hm' hf' ⟨y, rfl, hr⟩
  rwa [← hf'.defers] at this
 | exit i => exact q.elim
 | goto i => exact q.elim
end
end
section
open Go Go.RowKit
structure Rl where
 t : Int
 a : Int
 b : Int
 p : Int
deriving DecidableEq
def Rl.A (r : Rl) : AVal := .agg [.int .i64 r.t, .int .i64 r.a, .int .i64 r.b, .int .i64 r.p]
def Rl.z : Rl := ⟨0, 0, 0, 0⟩
structure Kn where
 n : List UInt8
 o : Option Rl
 w : Option Rl
def knR : List Kn := [
 ⟨[70, 78], some ⟨1, 1, 1, 0⟩, some ⟨1, 1, 0, 0⟩⟩,
 ⟨[78], some ⟨3, 1, 1, 5⟩, some ⟨3, 0, 1, 5⟩⟩,
 ⟨[78, 73, 67, 75, 78, 65, 77, 69], some ⟨2, 0, 0, 0⟩, some ⟨2, 0, 0, 0⟩⟩,
 ⟨[80, 72, 79, 84, 79], some ⟨8, 0, 0, 0⟩, some ⟨4, 0, 0, 0⟩⟩,
 ⟨[66, 68, 65, 89], some ⟨5, 0, 1, 0⟩, some ⟨5, 0, 1, 0⟩⟩,
 ⟨[65, 78, 78, 73, 86, 69, 82, 83, 65, 82, 89], none, some ⟨5, 0, 1, 0⟩⟩,
 ⟨[71, 69, 78, 68, 69, 82], none, some ⟨3, 0, 1, 2⟩⟩,
 ⟨[65, 68, 82], some ⟨3, 0, 0, 7⟩, some ⟨3, 0, 0, 7⟩⟩,
 ⟨[76, 65, 66, 69, 76], some ⟨1, 0, 0, 0⟩, none⟩,
 ⟨[84, 69, 76], some ⟨1, 0, 0, 0⟩, some ⟨1, 0, 0, 0⟩⟩,
 ⟨[69, 77, 65, 73, 76], some ⟨1, 0, 0, 0⟩, some ⟨1, 0, 0, 0⟩⟩,
 ⟨[77, 65, 73, 76, 69, 82], some ⟨1, 0, 0, 0⟩, none⟩,
 ⟨[73, 77, 80, 80], none, some ⟨4, 0, 0, 0⟩⟩,
 ⟨[76, 65, 78, 71], none, some ⟨7, 0, 0, 0⟩⟩,
 ⟨[84, 90], some ⟨6, 0, 1, 0⟩, some ⟨1, 0, 0, 0⟩⟩,
 ⟨[71, 69, 79], some ⟨3, 0, 1, 2⟩, some ⟨4, 0, 0, 0⟩⟩,
 ⟨[84, 73, 84, 76, 69], some ⟨1, 0, 0, 0⟩, some ⟨1, 0, 0, 0⟩⟩,
 ⟨[82, 79, 76, 69], some ⟨1, 0, 0, 0⟩, some ⟨1, 0, 0, 0⟩⟩,
 ⟨[76, 79, 71, 79], some ⟨8, 0, 0, 0⟩, some ⟨4, 0, 0, 0⟩⟩,
 ⟨[65, 71, 69, 78, 84], some ⟨1, 0, 0, 0⟩, none⟩,
 ⟨[79, 82, 71], some ⟨3, 0, 0, 0⟩, some ⟨3, 0, 0, 0⟩⟩,
 ⟨[77, 69, 77, 66, 69, 82], none, some ⟨4, 0, 0, 0⟩⟩,
 ⟨[82, 69, 76, 65, 84, 69, 68], none, some ⟨4, 0, 0, 0⟩⟩,
 ⟨[67, 65, 84, 69, 71, 79, 82, 73, 69, 83], some ⟨2, 0, 0, 0⟩, some ⟨2, 0, 0, 0⟩⟩,
 ⟨[78, 79, 84, 69], some ⟨1, 0, 0, 0⟩, some ⟨1, 0, 0, 0⟩⟩,
 ⟨[80, 82, 79, 68, 73, 68], some ⟨1, 0, 1, 0⟩, some ⟨1, 0, 1, 0⟩⟩,
 ⟨[82, 69, 86], some ⟨5, 0, 1, 0⟩, some ⟨5, 0, 1, 0⟩⟩,
 ⟨[83, 79, 82, 84, 45, 83, 84, 82, 73, 78, 71], some ⟨1, 0, 1, 0⟩, none⟩,
 ⟨[83, 79, 85, 78, 68], some ⟨8, 0, 0, 0⟩, some ⟨4, 0, 0, 0⟩⟩,
 ⟨[85, 73, 68], some ⟨1, 0, 1, 0⟩, some ⟨4, 0, 1, 0⟩⟩,
 ⟨[85, 82, 76], some ⟨4, 0, 0, 0⟩, some ⟨4, 0, 0, 0⟩⟩,
 ⟨[67, 76, 65, 83, 83], some ⟨1, 0, 1, 0⟩, none⟩,
 ⟨[75, 73, 78, 68], none, some ⟨1, 0, 1, 0⟩⟩,
 ⟨[75, 69, 89], some ⟨8, 0, 0, 0⟩, some ⟨4, 0, 0, 0⟩⟩,
 ⟨[78, 65, 77, 69], some ⟨1, 0, 1, 0⟩, none⟩,
 ⟨[83, 79, 85, 82, 67, 69], some ⟨4, 0, 0, 0⟩, some ⟨4, 0, 0, 0⟩⟩]
def Kn.of (k : Kn) (v : Int) : Option Rl := if v = 3 then k.o else k.w
def rowV (v : Int) : List (List UInt8 × Rl) := knR.filterMap fun k => (k.of v).map fun r => (k.n, r)
def digC (i : Int) : UInt8 := UInt8.ofNat (48 + i.toNat)
def txtR (x : List UInt8 × Rl) : List UInt8 := x.1 ++ [32, digC x.2.t, 32, digC x.2.a, 32, digC x.2.b, 32, digC x.2.p]
def ck (c : UInt8) : List (List UInt8) → List UInt8
 | [] => []
 | [x] => x
 | x :: y :: t => x ++ c :: ck c (y :: t)
def tabR (v : Int) : List (List UInt8) := (rowV v).map txtR
def tabS (v : Int) : List UInt8 := ck 124 (tabR v)
def cF (s : List UInt8) : List (List UInt8 × Rl) → Rl
 | [] => ⟨8, 0, 0, 0⟩
 | x :: t => if x.1 = s then x.2 else cF s t
def ba (v : Int) (s : List UInt8) : Rl := if v = 3 ∨ v = 4 then cF (ap 97 122 (-32) s) (rowV v) else Rl.z
def verE (v : Int) : Err := if v = 3 ∨ v = 4 then .none else .errno 1
def ax (v : Int) : List (List UInt8) := if v = 3 ∨ v = 4 then (rowV v).map (·.1) else []
/-! Texts joined, cut again. -/
theorem xj {c : UInt8} {l : List (List UInt8)} {k : Nat} (h : k + 1 < l.length) : ck c (l.drop k) = l.getD k [] ++ c :: ck c (l.drop (k + 1)) := by
 rw [List.drop_eq_getElem_cons (by omega), List.drop_eq_getElem_cons h]
 simp only [ck]
 rw [List.getD_eq_getElem?_getD, List.getElem?_eq_getElem (by omega)]
 rfl
theorem xi {c : UInt8} {l : List (List UInt8)} {k : Nat} (h : k + 1 = l.length) : ck c (l.drop k) = l.getD k [] := by
 rw [List.drop_eq_getElem_cons (by omega), List.drop_of_length_le (by omega)]
 simp only [ck]
 rw [List.getD_eq_getElem?_getD, List.getElem?_eq_getElem (by omega)]
 rfl
end
section
open Go Go.RowKit
def cutB (s : List UInt8) (c : Int) : List UInt8 × List UInt8 × Bool := if idxB s c < 0 then (s, [], false) else (s.take (idxB s c).toNat, s.drop ((idxB s c).toNat + 1), true)
theorem CO {c : UInt8} : idxB [c] (c.toNat : Int) = 0 := sB (i := 0) (Nat.lt_succ_self 0) rfl (fun j h => absurd h (Nat.not_lt_zero _))
theorem Du {c : UInt8} : (aa [c] 0 : Int) = (c.toNat : Int) := rfl
attribute [local irreducible] AWp AOps aa az OrOk ad ah
theorem kx {G : Glo} (s : List UInt8) (c : UInt8) : FnIs Tryz.prog G 161 [.str s, .str [c]] (.int .i64 (idxB s (c.toNat : Int))) := by
 have hc := c.toNat_lt
 have hb := Du (c := c)
 have k1 := dz (G := G) s (aa [c] 0 : Int) (by omega) (by omega)
 by_cases hs : [c] = s
 ·have e := CO (c := c)
  rw [hs] at e
  rw [e]
  have hGL : ad G [] := ab
  refine fn_x Tryz.func161 Tryz.call161 rfl rfl rfl rfl hGL ?_
  intro C hC
  exact xw0
 ·rw [← hb]
  have hGL : ad G [] := ab
  refine fn_x Tryz.func161 Tryz.call161 rfl rfl rfl rfl hGL ?_
  intro C hC
  exact xw0
theorem wm {G : Glo} (s : List UInt8) (c : UInt8) (hl : s.length ≤ 1000000) : FnIs Tryz.prog G 116 [.str s, .str [c]] (.tuple [.str (cutB s (c.toNat : Int)).1, .str (cutB s (c.toNat : Int)).2.1, .bool (cutB s (c.toNat : Int)).2.2]) := by
 have k1 := kx (G := G) s c
 rcases gN s (c.toNat : Int) with ⟨h1, h2⟩ | ⟨m, h1, h2, h3, h4⟩
 ·have e : cutB s (c.toNat : Int) = (s, [], false) := by unfold cutB; rw [h1, if_pos (by decide)]
  rw [h1] at k1
  rw [e]
  have hGL : ad G [] := ab
  refine fn_x Tryz.func116 Tryz.call116 rfl rfl rfl rfl hGL ?_
  intro C hC
  exact xw0
 ·have e : cutB s (c.toNat : Int) = (s.take m, s.drop (m + 1), true) := by unfold cutB; rw [h2, if_neg (by omega), Int.toNat_natCast]
  rw [h2] at k1
  rw [e]
  have hGL : ad G [] := ab
  refine fn_x Tryz.func116 Tryz.call116 rfl rfl rfl rfl hGL ?_
  intro C hC
  exact xw0
theorem mY {G : Glo} (s : List UInt8) (c : UInt8) (hl : s.length ≤ 1000000) : FnIs Tryz.prog G 62 [.str s, .str [c]] (.tuple [.str (cutB s (c.toNat : Int)).1, .str (cutB s (c.toNat : Int)).2.1, .bool (cutB s (c.toNat : Int)).2.2]) := by
 have k1 := wm (G := G) s c hl
 have hGL : ad G [] := ab
 refine fn_x Tryz.func62 Tryz.call62 rfl rfl rfl rfl hGL ?_
 intro C hC
 exact xw0
end
section
open Go Go.RowKit
theorem vG {s : List UInt8} {j : Nat} {c : UInt8} (hj : j < s.length) (h : c ∉ s) : (aa s j : Int) ≠ (c.toNat : Int) := by
 intro e
 apply h
 have e1 : aa s j = (s[j]).toNat := by simp [aa, List.getD, hj]
 have e2 : (s[j]).toNat = c.toNat := by rw [← e1]; omega
 rw [← UInt8.toNat_inj.1 e2]
 exact List.getElem_mem hj
theorem CQ {r t : List UInt8} {c : UInt8} (h : c ∉ r) : idxB (r ++ c :: t) (c.toNat : Int) = (r.length : Nat) := by
 refine sB (by simp) ?_ fun j hj => ?_
 ·simp [aa, List.getD]
 ·have := vG hj h
  rwa [show aa (r ++ c :: t) j = aa r j by simp [aa, List.getD, List.getElem?_append_left hj]]
theorem EF {r : List UInt8} {c : UInt8} (h : c ∉ r) : idxB r (c.toNat : Int) = -1 := qW fun j hj => vG hj h
/-! ## Yields in another order of what is owned -/
theorem rB {P : Program} {G : Glo} {L : Nat} {avs : List AVal} {H : Heap} {Q Q' : Bool → Heap → Prop} (h : ii P G L avs H Q) (hq : ∀ b H', Q b H' → ∃ H2, H'.Perm H2 ∧ Q' b H2) : ii P G L avs H Q' := by
 intro R w args hG hm ha
 obtain ⟨fn, tm, ag, bd, hy, hr⟩ := h R w args hG hm ha
 exact ⟨fn, tm, ag, bd, hy, hr.mono fun e w' ⟨b, H', R', q, er, hm'⟩ => let ⟨H2, hp, q'⟩ := hq _ _ q; ⟨b, H2, R', q', er, hm'.perm hp⟩⟩
theorem Bb {P : Program} [Tab P] {G : Glo} {L : Nat} {avs : List AVal} {H1 H2 : Heap} {Q : Bool → Heap → Prop} (hp : H1.Perm H2) (h : ii P G L avs H1 Q) : ii P G L avs H2 Q := by
 have hb : ∀ k, k ∈ blks H2 ↔ k ∈ blks H1 := fun k => by
  have := (hp.filterMap HEnt.blk).mem_iff (a := k)
  exact this.symm
 intro R w args hG hm ha
 obtain ⟨fn, tm, ag, bd, hy, hr⟩ := h R w args hG ((hm.perm hp.symm).blks_iff hb) ha
 exact ⟨fn, tm, ag, bd, hy, hr.mono fun e w' ⟨b, H', R', q, er, hm'⟩ => ⟨b, H', R', q, er, hm'.blks_iff fun k => (hb k).symm⟩⟩
theorem Gz {P : Program} [Tab P] {G : Glo} {f : FuncId} {avs : List AVal} (H : Heap) {X : Type} {N : X → Heap} {v v' : X → AVal} (hs : ah P G f avs [] (fun r H' => ∃ x, r = .ret (v x) ∧ H' = N x)) (hv : ∀ x R u, Rel R (v x) u → Rel R (v' x) u) :
  ah P G f avs H (fun r H' => ∃ x, r = .ret (v' x) ∧ H' = H ++ N x) := by
 intro R w args hG hm ha
 rcases fc H hs R w args hG hm ha with ⟨h1, h2⟩ | ⟨u, w', h1, res, H', R', ⟨H1, ⟨x, rfl, rfl⟩, rfl⟩, er, hm'⟩
 ·refine .inl ⟨h1, h2.mono ?_⟩
  rintro e w' ⟨res, H', R', ⟨H1, ⟨x, rfl, rfl⟩, rfl⟩, ⟨y, e1, hr⟩, hm'⟩
  exact ⟨.ret (v' x), _, R', ⟨x, rfl, rfl⟩, ⟨y, e1, hv x R' y hr⟩, hm'.perm List.perm_append_comm⟩
 ·obtain ⟨y, e1, hr⟩ := er
  exact .inr ⟨u, w', h1, .ret (v' x), _, R', ⟨x, rfl, rfl⟩, ⟨y, e1, hv x R' y hr⟩, hm'.perm List.perm_append_comm⟩
theorem xR {P : Program} [Tab P] {G : Glo} {f : FuncId} {avs : List AVal} {H : Heap} {K Kp : AVal → Heap → Prop} {X : Type} {N : X → Heap} {v : X → AVal} (v' : X → AVal) (hs : ah P G f avs [] (fun r H' => ∃ x, r = .ret (v x) ∧ H' = N x)) (hv : ∀ x R u, Rel R (v x) u → Rel R (v' x) u) (k : ∀ x, K (v' x) (H ++ N x)) : Cx P G f avs H K Kp := by
 refine .mk _ (Gz H hs hv) ?_ ?_
 ·rintro u H' ⟨x, e, rfl⟩; cases e; exact k x
 ·rintro u H' ⟨x, e, rfl⟩; cases e
abbrev sqS (b : Nat) (s : List UInt8) : HEnt := .cells b (some 9) [.str s]
abbrev sqI (b : Nat) (m : Int) : HEnt := .cells b (some 3) [.int .i64 m]
abbrev sqP (b : Nat) : Value := .pointer (some ⟨b, 0, none⟩)
attribute [local irreducible] AWp AOps aa az OrOk ad ah
attribute [local irreducible] AWpR ii
theorem mX {G : Glo} (s : List UInt8) (c : UInt8) : FnIs Tryz.prog G 137 [.str s, .str [c]] (.int .i64 (idxB s (c.toNat : Int))) := by
 have k1 := kx (G := G) s c
 have hGL : ad G [] := ab
 refine fn_x Tryz.func137 Tryz.call137 rfl rfl rfl rfl hGL ?_
 intro C hC
 exact xw0
theorem lG {G : Glo} (s : List UInt8) (c : UInt8) : ah Tryz.prog G 115 [.str s, .str [c], .int .i64 0] []
  (fun r H => ∃ x : Nat × Nat × Nat, r = .ret (.func (.func 159) [] [.own 1 (sqP x.2.1), .own 0 (sqP x.1), .own 2 (sqP x.2.2)]) ∧ H = [sqS x.1 s, sqS x.2.1 [c], sqI x.2.2 0]) := by
 have hGL : ad G [] := ab
 refine fn_x Tryz.func115 Tryz.call115 rfl rfl rfl rfl hGL ?_
 intro C hC
 refine xb1 ?_
 intro b0 b1 b2
 intros
 exact ⟨_, List.Sublist.refl _, (b0, b1, b2), rfl, rfl⟩
theorem f7 {G : Glo} (s : List UInt8) (c : UInt8) : ah Tryz.prog G 60 [.str s, .str [c]] []
  (fun r H => ∃ x : Nat × Nat × Nat, r = .ret (.func (.func 159) [] [.own 1 (sqP x.2.1), .own 0 (sqP x.1), .own 2 (sqP x.2.2)]) ∧ H = [sqS x.1 s, sqS x.2.1 [c], sqI x.2.2 0]) := by
 have h1 := lG (G := G) s c
 have hGL : ad G [] := ab
 refine fn_x Tryz.func60 Tryz.call60 rfl rfl rfl rfl hGL ?_
 intro C hC
 refine xn1 ?_
 refine xR (fun x : Nat × Nat × Nat => .func (.func 159) [] [.own 1 (sqP x.2.1), .own 0 (sqP x.1), .own 2 (sqP x.2.2)]) h1 (fun _ _ _ h => h) ?_
 rintro ⟨b0, b1, b2⟩
 refine xn1 ?_
 exact ⟨_, List.Sublist.refl _, (b0, b1, b2), rfl, rfl⟩
theorem jA {G : Glo} (L b0 b1 b2 : Nat) (c : UInt8) (rows : List (List UInt8)) (hne : 0 < rows.length) (hno : ∀ k, c ∉ rows.getD k []) (hlen : ∀ k, (ck c (rows.drop k)).length ≤ 1000000) {Y Z : Type} (J : Y → Heap) (E : Z → Heap) (Inv : Nat → Y → Prop) (y0 : Y) (h0 : Inv 0 y0)
  (hy : ∀ (k : Nat) (s' : List UInt8) (y : Y), k < rows.length → Inv k y → ii Tryz.prog G L [.str (rows.getD k [])] (sqS b0 s' :: sqS b1 [c] :: sqI b2 0 :: J y) (fun b H' => (b = true ∧ ∃ y', Inv (k + 1) y' ∧ H' = sqS b0 s' :: sqS b1 [c] :: sqI b2 0 :: J y') ∨ (b = false ∧ ∃ z, H' = sqS b0 s' :: sqS b1 [c] :: sqI b2 0 :: E z))) :
  ah Tryz.prog G 159 [.func (.yield L) [] [], .own 1 (sqP b1), .own 0 (sqP b0), .own 2 (sqP b2)] (sqS b0 (ck c rows) :: sqS b1 [c] :: sqI b2 0 :: J y0)
   (fun r H' => r = .ret (.tuple []) ∧ ∃ s', (∃ y, Inv rows.length y ∧ H' = sqS b0 s' :: sqS b1 [c] :: sqI b2 0 :: J y) ∨ ∃ z, H' = sqS b0 s' :: sqS b1 [c] :: sqI b2 0 :: E z) := by
 have k1 := fun s => mX (G := G) s c
 have hGL : ad G [] := ab
 refine fn_a Tryz.func159 Tryz.call159 rfl rfl rfl rfl ?_
 intro C hC
 refine cut hC hGL [(0, .func (.yield L) [] []), (1, .own 1 (sqP b1)), (2, .own 0 (sqP b0)), (3, .own 2 (sqP b2))] (sqS b0 (ck c rows) :: sqS b1 [c] :: sqI b2 0 :: J y0) True xn0 fun _ => ?_
 refine iU (iV (lu (X := Nat × Y) (fun x => [(0, .func (.yield L) [] []), (1, .own 1 (sqP b1)), (2, .own 0 (sqP b0)), (3, .own 2 (sqP b2))]) (fun x => sqS b0 (ck c (rows.drop x.1)) :: sqS b1 [c] :: sqI b2 0 :: J x.2) (fun x => x.1 < rows.length ∧ Inv x.1 x.2) (fun x => rows.length - x.1) (0, y0) ⟨hne, h0⟩ ak (List.Sublist.refl _) ?_))
 rintro ⟨k, y⟩ ⟨hk, hI⟩
 dsimp only at hk hI ⊢
 refine iV ?_
 by_cases hl : k + 1 < rows.length
 ·have e1 := xj (c := c) hl
  have hi := CQ (r := rows.getD k []) (t := ck c (rows.drop (k + 1))) (hno k)
  have hln := hlen k
  rw [← e1] at hi
  have k2 := k1 (ck c (rows.drop k))
  rw [hi] at k2
  have hy1 := hy k (ck c (rows.drop k)) y hk hI
  have e3 : (ck c (rows.drop k)).take (rows.getD k []).length = rows.getD k [] := by rw [e1, List.take_left]
  have e4 : (ck c (rows.drop k)).drop ((rows.getD k []).length + 1) = ck c (rows.drop (k + 1)) := by
   rw [e1, ← List.drop_drop, List.drop_left]; rfl
  have e5 : (rows.getD k []).length + 1 ≤ (ck c (rows.drop k)).length := by rw [e1]; simp
  generalize hsr : ck c (rows.drop k) = s at *
  generalize hr : rows.getD k [] = r at *
  refine cut hC hGL [(0, .func (.yield L) [] []), (1, .own 1 (sqP b1)), (2, .own 0 (sqP b0)), (3, .own 2 (sqP b2)), (7, .int .i64 (r.length : Nat))] (sqS b0 s :: sqS b1 [c] :: sqI b2 0 :: J y) True xn0 fun _ => ?_
  refine cut hC hGL [(0, .func (.yield L) [] []), (1, .own 1 (sqP b1)), (2, .own 0 (sqP b0)), (3, .own 2 (sqP b2)), (7, .int .i64 (r.length : Nat))] (sqS b0 s :: sqS b1 [c] :: sqI b2 0 :: J y) True xn0 fun _ => ?_
  refine cut hC hGL [(0, .func (.yield L) [] []), (1, .own 1 (sqP b1)), (2, .own 0 (sqP b0)), (3, .own 2 (sqP b2)), (7, .int .i64 (r.length : Nat)), (8, .str (s.take r.length))] (sqS b0 s :: sqS b1 [c] :: sqI b2 0 :: J y) True xn0 fun _ => ?_
  rw [e3]
  refine iU (iU (vP 2 hC hGL rfl rfl (by kernel_rfl) ?_))
  refine xn1 ?_
  refine ⟨L, _, rfl, rfl, rB hy1 ?_⟩
  rintro b H' (⟨rfl, y', hy', rfl⟩ | ⟨rfl, z, rfl⟩)
  ·refine ⟨_, List.Perm.refl _, ?_⟩
   refine xn1 ?_
   refine bw hC hGL (xn1 ?_)
   refine bw hC hGL (xn1 ?_)
   rw [aP]
   refine ⟨(k + 1, y'), ⟨hl, hy'⟩, by show rows.length - (k + 1) < rows.length - k; omega, ak, ?_⟩
   show List.Sublist (sqS b0 (ck c (rows.drop (k + 1))) :: sqS b1 [c] :: sqI b2 0 :: J y') _
   rw [← e4]
   exact List.Sublist.refl _
  ·refine ⟨_, List.Perm.refl _, ?_⟩
   refine xn1 ?_
   refine bw hC hGL (xn1 ?_)
   exact ⟨_, List.Sublist.refl _, rfl, s, .inr ⟨z, rfl⟩⟩
 ·have e1 := xi (c := c) (l := rows) (k := k) (by omega)
  have hi := EF (hno k)
  rw [← e1] at hi
  have k2 := k1 (ck c (rows.drop k))
  rw [hi] at k2
  have hy1 := hy k (ck c (rows.drop k)) y hk hI
  rw [← e1] at hy1
  have hkl : k + 1 = rows.length := by omega
  generalize ck c (rows.drop k) = s at *
  refine cut hC hGL [(0, .func (.yield L) [] []), (1, .own 1 (sqP b1)), (2, .own 0 (sqP b0)), (3, .own 2 (sqP b2)), (7, .int .i64 (-1))] (sqS b0 s :: sqS b1 [c] :: sqI b2 0 :: J y) True xn0 fun _ => ?_
  refine bw hC hGL (xn1 ?_)
  intro _
  refine ⟨fun h => absurd h (by decide), fun _ => ⟨fun _ => ?_, fun h => absurd rfl h⟩⟩
  refine vP 2 hC hGL rfl rfl (by kernel_rfl) ?_
  refine xn1 ?_
  refine ⟨L, _, rfl, rfl, rB hy1 ?_⟩
  rintro b H' (⟨rfl, y', hy', rfl⟩ | ⟨rfl, z, rfl⟩)
  ·refine ⟨_, List.Perm.refl _, ?_⟩
   refine xn1 ?_
   rw [hkl] at hy'
   exact ⟨_, List.Sublist.refl _, rfl, s, .inl ⟨y', hy', rfl⟩⟩
  ·refine ⟨_, List.Perm.refl _, ?_⟩
   refine xn1 ?_
   exact ⟨_, List.Sublist.refl _, rfl, s, .inr ⟨z, rfl⟩⟩
end
section
open Go Go.RowKit
theorem jM {α β : Type} {f : α → Option β} {x y : α} (hf : f y = f x) : ∀ {h : List α} {i : Nat}, h[i]? = some x → (h.set i y).filterMap f = h.filterMap f
 | [], i, e => by simp at e
 | z :: h, 0, e => by
  simp only [List.getElem?_cons_zero, Option.some.injEq] at e
  subst e
  simp [List.filterMap_cons, hf]
 | z :: h, i + 1, e => by
  simp only [List.getElem?_cons_succ] at e
  simp only [List.set_cons_succ, List.filterMap_cons, jM hf e]
theorem MS.setEnt {C : Ctx} {R : Seal} {H : Heap} {w : World} {i : Nat} {x y : HEnt} (h : MS C R H w) (hi : H[i]? = some x) (hb : y.blk = x.blk) (hy : y.holds R w) : MS C R (H.set i y) w := by
 have hx : x ∈ H := List.mem_of_getElem? hi
 have hm : ∀ z, z ∈ H.set i y → z ∈ H ∨ z = y := fun z hz => List.mem_or_eq_of_mem_set hz
 refine ⟨h.sealed, h.ge, h.fresh, ⟨fun z hz => ?_, ?_, fun z hz b hzb => ?_⟩, fun z hz b hzb => ?_, h.ext⟩
 ·rcases hm z hz with h1 | rfl
  ·exact h.heap.holds z h1
  ·exact hy
 ·rw [jM hb hi]; exact h.heap.nodup
 ·rcases hm z hz with h1 | rfl
  ·exact h.heap.apart z h1 b hzb
  ·exact h.heap.apart x hx b (by rw [← hb]; exact hzb)
 ·rcases hm z hz with h1 | rfl
  ·exact h.own z h1 b hzb
  ·exact h.own x hx b (by rw [← hb]; exact hzb)
theorem on {R : Seal} {a a' : AVal} (ht : ∀ v, RelC R a [v] → RelC R a' [v]) : ∀ {cs : List AVal} {vs : List Value} {p : Nat}, RelL R cs vs → cs[p]? = some a → RelL R (cs.set p a') vs
 | [], _, _, _, e => by simp at e
 | c :: cs, _, 0, ⟨v, t, rfl, h1, h2⟩, e => by
  simp only [List.getElem?_cons_zero, Option.some.injEq] at e
  subst e
  exact ⟨v, t, rfl, ht v h1, h2⟩
 | c :: cs, _, p + 1, ⟨v, t, rfl, h1, h2⟩, e => by
  simp only [List.getElem?_cons_succ] at e
  exact ⟨v, t, rfl, h1, on ht h2 e⟩
inductive CellTo (R : Seal) (p : Nat) (a' : AVal) : HEnt → HEnt → Prop
 | cells {b eT cs a} (hp : cs[p]? = some a) (ht : ∀ v, RelC R a [v] → RelC R a' [v]) : CellTo R p a' (.cells b eT cs) (.cells b eT (cs.set p a'))
 | row {v eT sz n cs a} (hp : cs[p]? = some a) (ht : ∀ v, RelC R a [v] → RelC R a' [v]) : CellTo R p a' (.row v eT sz n cs) (.row v eT sz n (cs.set p a'))
theorem CellTo.holds {R : Seal} {p : Nat} {a' : AVal} {x y : HEnt} {w : World} (h : CellTo R p a' x y) (hx : x.holds R w) : y.holds R w ∧ y.blk = x.blk := by
 cases h with
 | cells hp ht =>
  obtain ⟨C, e, fz, hb, hl, hf⟩ := hx
  exact ⟨⟨C, e, fz, hb, on ht hl hp, hf⟩, rfl⟩
 | row hp ht =>
  rename_i v eT sz n cs a
  obtain ⟨hlen, y⟩ := hx
  refine ⟨⟨by rw [List.length_set]; exact hlen, ?_⟩, by cases v with | slice a l c => cases a <;> rfl | _ => rfl⟩
  rcases y with ⟨h1, h2⟩ | ⟨b, cap, C, e, fz, rfl, hb, hs, hn, hl, hf⟩
  ·exact .inl ⟨h1, h2⟩
  ·exact .inr ⟨b, cap, C, e, fz, rfl, hb, hs, hn, on ht hl hp, hf⟩
def To (C : Ctx) (n : Nat) (e : Env) (h : Heap) (e' : Env) (h' : Heap) : Prop :=
 ∀ R a w, MS C R h w → FS C.D n R e a → ∃ R', R.le R' ∧ MS C R' h' w ∧ FS C.D n R' e' a
section
variable {C : Ctx} {n : Nat} {e e' e'' : Env} {h h' h'' : Heap}
theorem dV (a : To C n e h e' h') (b : To C n e' h' e'' h'') : To C n e h e'' h'' := fun R x w hm hf =>
 let ⟨R1, l1, m1, f1⟩ := a R x w hm hf
 let ⟨R2, l2, m2, f2⟩ := b R1 x w m1 f1
 ⟨R2, Seal.le_trans l1 l2, m2, f2⟩
theorem FL {k i : Nat} {v : Value} (hv : vAgg v = false) (hk : Env.get e k = some (.raw v)) : To C n e h ((k, .own i v) :: e) h := fun R _ _ hm hf => ⟨R, Seal.le_refl R, hm, o9 hv hk hf⟩
theorem tC (sz : Nat) : To C n e h e (h ++ [.row (.slice none 0 0) none sz 0 []]) := fun R a w hm hf => by
 refine ⟨R, Seal.le_refl R, MS.perm (H := .row (.slice none 0 0) none sz 0 [] :: h) ?_ (List.perm_append_singleton _ h).symm, hf⟩
 refine ⟨hm.sealed, hm.ge, hm.fresh, ⟨fun z hz => ?_, hm.heap.nodup, fun z hz b hb => ?_⟩, fun z hz b hb => ?_, hm.ext⟩
 ·rcases List.mem_cons.1 hz with rfl | hz
  ·exact ⟨by simp, .inl ⟨rfl, rfl⟩⟩
  ·exact hm.heap.holds z hz
 ·rcases List.mem_cons.1 hz with rfl | hz
  ·cases hb
  ·exact hm.heap.apart z hz b hb
 ·rcases List.mem_cons.1 hz with rfl | hz
  ·cases hb
  ·exact hm.own z hz b hb
theorem D4 {i p : Nat} {a' : AVal} {x y : HEnt} (hi : h[i]? = some x) (hc : ∀ R, CellTo R p a' x y) : To C n e h e (h.set i y) := fun R a w hm hf => by
 obtain ⟨h1, h2⟩ := (hc R).holds (hm.heap.holds x (List.mem_of_getElem? hi))
 exact ⟨R, Seal.le_refl R, hm.setEnt hi h2 h1, hf⟩
theorem Eu {R : Seal} {j : Nat} {u : Value} : RelC R (.raw (.slice none 0 0)) [u] → RelC R (.own j (.slice none 0 0)) [u] := by
 intro e
 have e : [u] = [.slice none 0 0] := e
 exact ⟨e, rfl⟩
end
section
variable {P : Program} [Tab P] {C : Ctx} {n : Nat} {env : Env} {H : Heap} {Q : AExit → Env → Heap → Prop} {G : Glo} {GL : List (Nat × List AVal)}
omit [Tab P] in
theorem Ha {c : Code} {e' : Env} {h' : Heap} (hto : To C n env H e' h') (k : Lp P C n c e' h' Q) : Lp P C n c env H Q := by
 refine ⟨fun R a w hm hf => ?_⟩
 obtain ⟨R0, _, hm, hf⟩ := hto R a w hm hf
 exact k.h R0 a w hm hf
omit [Tab P] in
theorem eg {id : Nat} {ops : Array Oper} {e' : Env} {h' : Heap} (hto : To C n env H e' h') (k : Dw P C n id ops e' h' Q) : Dw P C n id ops env H Q := by
 refine ⟨fun R a w hm hf => ?_⟩
 obtain ⟨R0, _, hm, hf⟩ := hto R a w hm hf
 exact k.h R0 a w hm hf
def Hg (res : ARes) (H : Heap) (v : AVal) : Prop := ∀ (C : Ctx) (R : Seal) (w : World) (e : Ending), MS C R H w → fV R res e → ∃ R', MS C R' [] w ∧ fV R' (.ret v) e
omit [Tab P] in
theorem sJ {f : FuncId} {avs : List AVal} {H : Heap} {Qf : ARes → Heap → Prop} {v : AVal} (h : ah P G f avs H Qf) (hq : ∀ r H', Qf r H' → Hg r H' v) : ah P G f avs H (fun r H' => r = .ret v ∧ H' = []) := by
 intro R w args hG hm ha
 rcases h R w args hG hm ha with ⟨h1, h2⟩ | ⟨x, w', h1, res, H', R', q, er, hm'⟩
 ·exact .inl ⟨h1, h2.mono fun e w' ⟨res, H', R', q, er, hm'⟩ => let ⟨R2, m2, e2⟩ := hq _ _ q _ _ _ _ hm' er; ⟨.ret v, [], R2, ⟨rfl, rfl⟩, e2, m2⟩⟩
 ·obtain ⟨R2, m2, e2⟩ := hq _ _ q _ _ _ _ hm' er
  exact .inr ⟨x, w', h1, .ret v, [], R2, ⟨rfl, rfl⟩, e2, m2⟩
end
end
section
open Go Go.RowKit
theorem MS.seal_cells {C : Ctx} {R : Seal} {w : World} {H : Heap} {b : Nat} {eT : Option TypeId} {cs : List AVal} (h : MS C R (.cells b eT cs :: H) w) :
  ∃ R', R.le R' ∧ MS C R' H w ∧ Rel R' (.rop cs 0) (.pointer (some ⟨b, 0, none⟩)) := by
 obtain ⟨Cs, el, fz, hb, hl, hfz⟩ := h.heap.holds _ (List.mem_cons_self ..)
 obtain ⟨h1, h2⟩ := h.fixed (b := b) rfl hb
 refine ⟨_, h2, h1, ⟨b, 0, Cs, el, fz, rfl, Nat.le_refl _, Seal.put_at _ _ _, ?_⟩, rfl⟩
 have hlen := aA hl
 rw [Nat.sub_self, List.drop_zero, List.take_of_length_le (by omega)]
 exact ci h2 _ _ hl
abbrev bE : HEnt := .row (.slice none 0 0) none 1 0 []
section
variable {P : Program} [Tab P] {C : Ctx} {n : Nat} {G : Glo} {GL : List (Nat × List AVal)} {e : Env} {h : Heap} {env : Env} {H : Heap} {Q : AExit → Env → Heap → Prop}
theorem aX {i k j b : Nat} {eT : Option TypeId} {cs : List AVal} (hi : h[i]? = some (.cells b eT cs)) (hk : Env.get e k = some (.own j (.pointer (some ⟨b, 0, none⟩)))) :
  To C n e h ((k, .rop cs 0) :: e) (h.set i bE) := fun R a w hm hf => by
 obtain ⟨R', hle, hm', hr⟩ := MS.seal_cells (hm.perm (jY hi))
 refine ⟨R', hle, (hm'.ghost 1).perm (f9 bE hi), ?_⟩
 have hf' := hf.mono hle
 refine ⟨fun t x ht => ?_, hf'.size, hf'.defers⟩
 simp only [Env.get] at ht
 split at ht
 ·rename_i hb
  have := Nat.eq_of_beq_eq_true hb
  subst this
  simp only [Option.some.injEq] at ht
  subst ht
  obtain ⟨y, hy, hr'⟩ := hf'.fr k _ hk
  refine ⟨y, hy, ?_⟩
  rw [(aJ.1 hr').1]
  exact hr
 ·exact hf'.fr t x ht
omit [Tab P] in
def owns : List (Nat × Nat × Value) → Env → Env
 | [], e => e
 | (s, i, v) :: t, e => (s, .own i v) :: owns t e
def yu : List (Nat × Nat × Value) → Env → Prop
 | [], _ => True
 | (s, _, v) :: t, e => (Env.get (owns t e) s = some (.raw v) ∧ vAgg v = false) ∧ yu t e
theorem zg {D : List Deferred} {R : Seal} {a : Act} : ∀ {os : List (Nat × Nat × Value)} {e : Env}, yu os e → FS D n R e a → FS D n R (owns os e) a
 | [], _, _, h => h
 | (_, _, _) :: _, _, ⟨⟨h1, h2⟩, h3⟩, h => o9 h2 h1 (zg h3 h)
theorem Gy (os : List (Nat × Nat × Value)) {f : FuncId} {fn : Func} {c : Code} {avs : List AVal} {Qf : ARes → Heap → Prop} {rs : List ResultVar} (hf : P.funcs[f]? = some fn)
  (hc : ∀ args w, (callFunc f args).run P w = .ok (.enter f args) w) (hb : fn.body = some c) (hn : fn.ntmps = n) (hrs : fn.results = rs.toArray) (hlen : Nat.ble avs.length n = true) (ho : yu os (cY 0 avs))
  (h : ∀ C : Ctx, C.G = G → AWp P C n c (owns os (cY 0 avs)) H (RetX P rs Qf)) : ah P G f avs H Qf :=
 k8 hf hb hc hn hrs hlen fun w0 R0 hG => AWp.mono (yn (fun _ _ hf => zg ho hf) (h ⟨w0, R0, blks H, G, hG, []⟩ rfl)) fun _ _ _ q => fK q
end
end
section
open Go Go.RowKit
theorem qn {R R' : Seal} {a a' b : AVal} {x : Value} (hle : R.le R') (h : Rel R (.tuple [a, b]) x) (ht : ∀ v, Rel R a v → Rel R' a' v) : Rel R' (.tuple [a', b]) x := by
 obtain ⟨⟨ws, e, u, t, e1, hu, u2, t2, e2, hu2, rfl⟩, h2⟩ := h
 have k := ht u ⟨hu.1, hu.2⟩
 have k2 := dY hle (show Rel R b u2 from ⟨hu2.1, hu2.2⟩)
 exact ⟨⟨ws, e, _, _, e1, ⟨k.1, k.2⟩, _, _, e2, ⟨k2.1, k2.2⟩, rfl⟩, h2⟩
section
variable {P : Program} [Tab P] {C : Ctx} {n : Nat} {env : Env} {H : Heap} {Q : List Deferred → AExit → Env → Heap → Prop} {G : Glo} {GL : List (Nat × List AVal)}
theorem fo {a b : Code} {X : Type} (hC : C.G = G) (hGL : ad G GL) (I : X → Env) (J : X → Heap) (Inv : X → Prop) (h1 : dB P C n G GL a env H (dX (fun e h => Cy I J Inv e h) (Q C.D))) (h2 : ∀ x, Inv x → AWpD P C n b (I x) (J x) Q) : AWpD P C n (.seq a b) env H Q := by
 refine gU (DD ((bJ hC hGL _ _ _ _ h1).mono fun x e h q => ?_))
 cases x with
 | normal =>
  obtain ⟨y, hy, hs, rfl⟩ := q.h
  exact fun R a w hm hf => h2 y hy R a w hm (hf.sub hs)
 | exit i => exact q
 | goto i => exact q
 | ret => exact q
 | panic v => exact q
end
end
section
open Go Go.RowKit
theorem GH {P : Program} {C : Ctx} {n : Nat} {c : Code} {env env' : Env} {H H' : Heap} {Q : List Deferred → AExit → Env → Heap → Prop} (hto : To C n env H env' H') (h : AWpD P C n c env' H' Q) : AWpD P C n c env H Q := fun R a w hm hf => by
 obtain ⟨R', hle, hm', hf'⟩ := hto R a w hm hf
 exact h R' a w hm' hf'
theorem zi {P : Program} {G : Glo} {f : FuncId} {avs avs' : List AVal} {H : Heap} {Qf : ARes → Heap → Prop} (h : ah P G f avs H Qf) (ha : ∀ R vs, RelV R avs' vs → RelV R avs vs) : ah P G f avs' H Qf :=
 fun R w args hG hm h2 => h R w args hG hm (ha R _ h2)
def qw (x : List UInt8 × Rl) : Bool := !(txtR x).contains 124 && decide ((cutB (txtR x) 32).1 = x.1) && (txtR x).all (fun c => decide (c.toNat < 128)) && decide ((txtR x).length ≤ 60) &&
 decide (Lib.fields (txtR x) = [x.1, [digC x.2.t], [digC x.2.a], [digC x.2.b], [digC x.2.p]]) && decide (0 ≤ x.2.t ∧ x.2.t < 10 ∧ 0 ≤ x.2.a ∧ x.2.a < 10 ∧ 0 ≤ x.2.b ∧ x.2.b < 10 ∧ 0 ≤ x.2.p ∧ x.2.p < 10)
theorem kF {v : Int} (hv : v = 3 ∨ v = 4) : (rowV v).all qw = true ∧ (rowV v).length ≤ 36 ∧ 0 < (rowV v).length := by
 rcases hv with rfl | rfl
 ·exact ⟨by decide +kernel, by decide +kernel, by decide +kernel⟩
 ·exact ⟨by decide +kernel, by decide +kernel, by decide +kernel⟩
theorem wG {v : Int} (hv : v = 3 ∨ v = 4) {k : Nat} (hk : k < (rowV v).length) : qw (rowV v)[k] = true := List.all_eq_true.1 (kF hv).1 _ (List.getElem_mem hk)
theorem gx {v : Int} {k : Nat} (hk : k < (rowV v).length) : (tabR v).getD k [] = txtR (rowV v)[k] := by
 unfold tabR
 rw [List.getD_eq_getElem?_getD, List.getElem?_map, List.getElem?_eq_getElem hk]
 rfl
theorem qU (c : UInt8) {m : Nat} : ∀ l : List (List UInt8), (∀ x ∈ l, x.length ≤ m) → (ck c l).length ≤ l.length * (m + 1)
 | [], _ => Nat.zero_le _
 | [x], h => by
  have := h x (List.mem_singleton.2 rfl)
  simp only [ck, List.length_cons, List.length_nil]
  omega
 | x :: y :: t, h => by
  have h1 := h x (List.mem_cons_self ..)
  have ih := qU c (m := m) (y :: t) fun z hz => h z (List.mem_cons_of_mem _ hz)
  simp only [ck, List.length_append, List.length_cons] at ih ⊢
  rw [Nat.succ_mul]
  generalize (t.length + 1) * (m + 1) = z at *
  omega
theorem yD {v : Int} (hv : v = 3 ∨ v = 4) (k : Nat) : (ck 124 ((tabR v).drop k)).length ≤ 1000000 := by
 have h1 := qU 124 (m := 60) ((tabR v).drop k) fun x hx => by
  obtain ⟨y, hy, rfl⟩ := List.mem_map.1 (List.mem_of_mem_drop hx)
  have := List.all_eq_true.1 (kF hv).1 _ hy
  simp only [qw, Bool.and_eq_true, decide_eq_true_eq] at this
  exact this.1.1.2
 have h2 : ((tabR v).drop k).length ≤ 36 := by
  have := (kF hv).2.1
  unfold tabR
  rw [List.length_drop, List.length_map]
  omega
 have := Nat.mul_le_mul_right (60 + 1) h2
 omega
theorem BA {v : Int} (hv : v = 3 ∨ v = 4) (k : Nat) : (124 : UInt8) ∉ (tabR v).getD k [] := by
 by_cases hk : k < (rowV v).length
 ·rw [gx hk]
  have := wG hv hk
  simp only [qw, Bool.and_eq_true, Bool.not_eq_true', List.contains_eq_mem, decide_eq_false_iff_not] at this
  exact this.1.1.1.1.1
 ·rw [List.getD_eq_getElem?_getD, List.getElem?_eq_none (by unfold tabR; rw [List.length_map]; omega)]
  simp
def nmV (v : Int) : List (List UInt8) := (rowV v).map (·.1)
theorem Er {v : Int} {k : Nat} (hk : k < (rowV v).length) : (nmV v).take (k + 1) = (nmV v).take k ++ [(rowV v)[k].1] := by
 unfold nmV
 rw [List.take_add_one, List.getElem?_map, List.getElem?_eq_getElem hk]
 rfl
abbrev nmB (b : Nat) (i : Nat) (v : Value) : HEnt := .cells b (some 67) [.own i v]
attribute [local irreducible] AWp AOps aa az OrOk ad ah
attribute [local irreducible] AWpR ii AWpD LvM To tabR rowV nmV cutB
theorem mI {G : Glo} {v : Int} (hv : v = 3 ∨ v = 4) : FnIs Tryz.prog G 61 [.int .i64 v] (.str (tabS v)) := by
 rcases hv with rfl | rfl
 ·have hGL : ad G [] := ab
  refine fn_x Tryz.func61 Tryz.call61 rfl rfl rfl rfl hGL ?_
  intro C hC
  refine xw ?_
  repeat' (first | exact Le.n | refine Lc.mk ?_ ?_)
  all_goals intros
  all_goals first
   | exact absurd rfl (by assumption)
   | (apply al; refine congrArg AVal.str ?_; decide +kernel)
 ·have hGL : ad G [] := ab
  refine fn_x Tryz.func61 Tryz.call61 rfl rfl rfl rfl hGL ?_
  intro C hC
  refine xw ?_
  repeat' (first | exact Le.n | refine Lc.mk ?_ ?_)
  all_goals intros
  all_goals first
   | (apply al; refine congrArg AVal.str ?_; decide +kernel)
theorem rV {G : Glo} {v : Int} (hv : v = 3 ∨ v = 4) : ah Tryz.prog G 26 [.int .i64 v] [] (fun r H => ∃ va, r = .ret (.tuple [.own 4 va, .raw .nilIface]) ∧ H = [.row va none 1 (nmV v).length (aO (nmV v))]) := by
 have hGL : ad G [] := ab
 have hT := mI (G := G) hv
 have hS := f7 (G := G) (tabS v) 124
 have hlen : (nmV v).length = (tabR v).length := by unfold nmV tabR; rw [List.length_map, List.length_map]
 have hlr : (tabR v).length = (rowV v).length := by unfold tabR; rw [List.length_map]
 have h36 := (kF hv).2
 refine fn_m (rs := [.tmp 2, .tmp 3]) Tryz.func26 Tryz.call26 rfl rfl rfl rfl ?_
 intro C hC hD
 refine fo hC hGL (fun _ : Unit => [(0, .int .i64 v)]) (fun _ => []) (fun _ => True) ?_ fun _ _ => ?_
 ·refine xn1 ?_
  exact cy () trivial
 refine fo hC hGL (fun _ : Unit => [(0, .int .i64 v)]) (fun _ => []) (fun _ => True) ?_ fun _ _ => ?_
 ·refine xn ?_
  repeat' (first | exact Le.n | refine Lc.mk ?_ ?_)
  all_goals intros
  all_goals first
   | exact cy () trivial
   | (exfalso; omega)
 refine fo hC hGL (fun bo : Nat => [(0, .int .i64 v), (4, .own 0 (sqP bo))]) (fun bo => [.cells bo (some 67) [.raw (.slice none 0 0)]]) (fun _ => True) ?_ fun bo _ => ?_
 ·refine xn1 ?_
  intro bo
  intros
  exact cy bo trivial
 refine gU (fo hC hGL (fun x : Nat × Nat × Nat => [(0, .int .i64 v), (4, .own 0 (sqP bo)), (18, .func (.func 159) [] [.own 2 (sqP x.2.1), .own 1 (sqP x.1), .own 3 (sqP x.2.2)])]) (fun x => [.cells bo (some 67) [.raw (.slice none 0 0)], sqS x.1 (tabS v), sqS x.2.1 [124], sqI x.2.2 0]) (fun _ => True) ?_ ?_)
 ·refine xn1 ?_
  refine xR (fun x : Nat × Nat × Nat => .func (.func 159) [] [.own 2 (sqP x.2.1), .own 1 (sqP x.1), .own 3 (sqP x.2.2)]) hS (fun _ _ _ h => h) ?_
  rintro ⟨b0, b1, b2⟩
  refine xn1 ?_
  exact cy (b0, b1, b2) trivial
 rintro ⟨b0, b1, b2⟩ -
 dsimp only
 refine ru (GH (dV (tC 1) (D4 (i := 0) (p := 0) (a' := .own 4 (.slice none 0 0)) rfl (fun R => .cells rfl fun _ => Eu))) ?_)
 refine rq rfl Tryz.call159 [(0, .int .i64 v), (4, .own 0 (sqP bo))] ak rfl ?_
 intro L D r hp ha hb hfs
 rw [hC]
 have hy : ∀ (k : Nat) (s' : List UInt8) (y : List (List UInt8) × Value), k < (tabR v).length → y.1 = (nmV v).take k → ii Tryz.prog G L [.str ((tabR v).getD k [])] (sqS b0 s' :: sqS b1 [124] :: sqI b2 0 :: [nmB bo 4 y.2, .row y.2 none 1 y.1.length (aO y.1), objD D, objL L r .ready none])
   (fun b H' => (b = true ∧ ∃ y' : List (List UInt8) × Value, y'.1 = (nmV v).take (k + 1) ∧ H' = sqS b0 s' :: sqS b1 [124] :: sqI b2 0 :: [nmB bo 4 y'.2, .row y'.2 none 1 y'.1.length (aO y'.1), objD D, objL L r .ready none]) ∨ (b = false ∧ ∃ z : Empty, H' = sqS b0 s' :: sqS b1 [124] :: sqI b2 0 :: [])) := by
  rintro k s' ⟨ns, w⟩ hk hI
  dsimp only at hI ⊢
  have hk' : k < (rowV v).length := by omega
  have hro := wG hv hk'
  simp only [qw, Bool.and_eq_true, decide_eq_true_eq] at hro
  have hcut := mY (G := G) ((tabR v).getD k []) 32 (by rw [gx hk']; omega)
  have e1 : (cutB ((tabR v).getD k []) 32).1 = (rowV v)[k].1 := by rw [gx hk']; exact hro.1.1.1.1.2
  have hcut : FnIs Tryz.prog G 62 [.str ((tabR v).getD k []), .str [32]] (.tuple [.str (rowV v)[k].1, .str (cutB ((tabR v).getD k []) 32).2.1, .bool (cutB ((tabR v).getD k []) 32).2.2]) := by rw [← e1]; exact hcut
  have hns : ns.length ≤ 36 := by rw [hI, List.length_take]; omega
  have e2 := Er hk'
  refine rB (Bb (H1 := [nmB bo 4 w, sqS b0 s', sqS b1 [124], sqI b2 0, .row w none 1 ns.length (aO ns), objD D, objL L r .ready none]) (List.perm_middle (l₁ := [sqS b0 s', sqS b1 [124], sqI b2 0]) (a := nmB bo 4 w)).symm
   (Ba (i := 6) (p := 19) (Qf := fun b H' => b = true ∧ ∃ w', H' = [nmB bo 4 w', sqS b0 s', sqS b1 [124], sqI b2 0, .row w' none 1 (ns ++ [(rowV v)[k].1]).length (aO (ns ++ [(rowV v)[k].1])), objD D, objL L r .ready none]) rfl hp (by kernel_rfl) hfs ?_)) ?_
  ·intro C2 hC2 hD2
   rw [ha]
   refine cO hC2 hGL (xn1 ?_)
   refine ⟨rfl, 6, rfl, ?_⟩
   rw [hb]
   generalize (rowV v)[k].1 = nm at *
   refine cO hC2 hGL (xn1 ?_)
   intro wa wk wc _
   refine ⟨6, rfl, rfl, .slice wa wk wc, ?_⟩
   rw [← bS, List.length_append]
   rfl
  ·rintro b H' ⟨rfl, w', rfl⟩
   refine ⟨_, (List.perm_middle (l₁ := [sqS b0 s', sqS b1 [124], sqI b2 0]) (a := nmB bo 4 w')).symm, .inl ⟨rfl, (ns ++ [(rowV v)[k].1], w'), ?_, rfl⟩⟩
   rw [e2, hI]
 have run := jA (G := G) L b0 b1 b2 124 (tabR v) (by omega) (BA hv) (yD hv) (Y := List (List UInt8) × Value) (Z := Empty) (fun y => [nmB bo 4 y.2, .row y.2 none 1 y.1.length (aO y.1), objD D, objL L r .ready none]) (fun _ => []) (fun k y => y.1 = (nmV v).take k) ([], .slice none 0 0) rfl hy
 refine dR (dQ (List.perm_middle (l₁ := [sqS b0 (tabS v), sqS b1 [124], sqI b2 0]) (a := nmB bo 4 (.slice none 0 0))) (zi run fun _ _ h => h)) ?_
 rintro res H' ⟨rfl, s', ⟨⟨ns, w⟩, hI, rfl⟩ | ⟨z, _⟩⟩
 ·refine ⟨_, List.perm_middle (l₁ := [sqS b0 s', sqS b1 [124], sqI b2 0]) (a := nmB bo 4 w), .tuple [], 6, .ready, none, rfl, rfl, (fun h => by cases h), ?_⟩
  dsimp only at hI ⊢
  rw [← hlen, List.take_length] at hI
  subst hI
  show AWpD Tryz.prog _ _ _ _ _ _
  refine iT (C := withD C (colD D :: C.D)) hC hGL (xn1 ?_)
  rw [show (withD C (colD D :: C.D)).D = [colD D] from (by show colD D :: C.D = _; rw [hD])]
  refine ss (i := 5) rfl (sr ?_)
  refine xn1 ?_
  exact ⟨_, .cons _ (.cons _ (.cons _ (.cons _ (.cons_cons _ (List.nil_sublist _))))), w, rfl, rfl⟩
 ·exact z.elim
theorem ue {G : Glo} (v : Int) : FnIs Tryz.prog G 26 [.int .i64 v] (.tuple [.list 1 (ax v).length (aG (ax v)), (verE v).A]) := by
 by_cases hv : v = 3 ∨ v = 4
 ·have e1 : ax v = nmV v := by unfold ax nmV; rw [if_pos hv]
  have e2 : verE v = .none := by unfold verE; rw [if_pos hv]
  rw [e1, e2]
  exact nz (fun a => .tuple [a, Err.none.A]) (Cw _) (aG (nmV v)) (kq _) (cs := aO (nmV v)) (eT := none) ((rV hv).mono fun r H ⟨va, h1, h2⟩ => ⟨_, va, h1, h2⟩)
 ·have e1 : ax v = [] := by unfold ax; rw [if_neg hv]
  have e2 : verE v = .errno 1 := by unfold verE; rw [if_neg hv]
  rw [e1, e2]
  refine sJ (H := []) (Qf := fun r H => r = .ret (.tuple [.raw (.slice none 0 0), (Err.errno 1).A]) ∧ H = []) ?_ (fun r H h => by
   obtain ⟨rfl, rfl⟩ := h
   rintro C R w e hm ⟨x, rfl, hx⟩
   exact ⟨R, hm, x, rfl, qn (Seal.le_refl R) hx fun u hu => by
    obtain rfl := ar.1 (show Rel R (.raw (.slice none 0 0)) u from hu)
    exact ⟨⟨none, 0, rfl, Nat.le_refl _, .inl rfl⟩, rfl⟩⟩)
  have hGL : ad G [] := ab
  refine fn_x Tryz.func26 Tryz.call26 rfl rfl rfl rfl hGL ?_
  intro C hC
  refine xw ?_
  repeat' (first | exact Le.n | refine Lc.mk ?_ ?_)
  all_goals intros
  all_goals first
   | (exfalso; omega)
   | (apply al; rfl)
end
section
open Go Go.RowKit
def SpIs (G : Glo) : Prop := ∀ R, G.p R → ∃ e fz, R 0 = some (.cells (Lib.asciiSpaceTab.map fun z => Value.int .u8 z).toArray e fz)
theorem FM {G : Glo} (hS : SpIs G) {R : Seal} {w : World} (hG : G.p R) (hs : cI R w) : Lib.TabIs Tryz.prog w "strings.asciiSpace" .u8 Lib.asciiSpaceTab := by
 obtain ⟨e, fz, h⟩ := hS R hG
 have hb := hs _ _ h
 unfold Lib.TabIs World.var?
 rw [show Tryz.prog.globalNamed "strings.asciiSpace" = some 0 by kernel_rfl]
 simp [hb]
theorem DG : ∀ d : Fin 10, Lib.atoiAll [UInt8.ofNat (48 + d.val)] = .ok (d.val : Int) := by decide
attribute [local irreducible] AWp AOps aa az OrOk ad ah
theorem lv {G : Glo} (d : Int) (h0 : 0 ≤ d) (h1 : d < 10) : FnIs Tryz.prog G 65 [.str [digC d]] (.tuple [.int .i64 d, .raw .nilIface]) := by
 have ha := DG ⟨d.toNat, by omega⟩
 have ed : ((d.toNat : Nat) : Int) = d := by omega
 simp only [ed] at ha
 refine ib (.tuple #[.int .i64 d, .nilIface]) (fun R => kI (aq.2 rfl) (ar.2 rfl)) Tryz.call65 ?_
 intro R args hr w _ _
 obtain ⟨x, t, e', hx, rfl⟩ := hr
 obtain rfl := aC.1 hx
 obtain rfl := dL e'
 refine (Tryz.strconv_Atoi_ok ⟨[digC d].toArray⟩ (by rw [aY]; show 1 ≤ 9223372036854775806; omega) _ (by unfold digC; simpa using ha) w).mono ?_
 rintro e w' ⟨rfl, hw⟩
 refine ⟨rfl, ?_⟩
 rcases hw with rfl | ⟨t, rfl⟩
 ·exact Below.refl _ _
 ·exact ⟨rfl, rfl, rfl, by rw [Lib.bytesWorld_size]; omega, fun k hk => Lib.bytesWorld_at_old _ _ _ _ hk⟩
theorem xH {G : Glo} (hS : SpIs G) (H : Heap) (s : List UInt8) (hl : s.length < 100000) (ha : ∀ (j : Nat) (b : UInt8), s[j]? = some b → b.toNat < 128) :
  ah Tryz.prog G 64 [.str s] H (fun r H' => ∃ b, r = .ret (.own H.length (.slice (some ⟨b, 0, none⟩) (Lib.fields s).length (Lib.fields s).length)) ∧ H' = H ++ [.row (.slice (some ⟨b, 0, none⟩) (Lib.fields s).length (Lib.fields s).length) (some 9) 1 (Lib.fields s).length (aO (Lib.fields s))]) := by
 refine iI Tryz.call64 (by rw [qp, Nat.mul_one]) ?_
 rintro C R args ⟨x, t, e, hx, rfl⟩ w hG hm
 obtain rfl := aC.1 hx
 obtain rfl := dL e
 refine (Tryz.strings_Fields ⟨s.toArray⟩ w (by rw [aY]; omega) (fun j b hb => ha j b (by simpa using hb)) (FM hS hG hm.sealed)).mono ?_
 rintro e w' ⟨rfl, rfl⟩
 refine ⟨w, _, Below.refl _ _, rfl, rfl, ?_, fun R => ?_⟩
 ·simp
 ·have := lS R (Lib.fields s)
  simpa using this
theorem vm {G : Glo} (hS : SpIs G) (s : List UInt8) (hl : s.length < 100000) (ha : ∀ (j : Nat) (b : UInt8), s[j]? = some b → b.toNat < 128) : FnIs Tryz.prog G 64 [.str s] (.list 1 (Lib.fields s).length (aG (Lib.fields s))) :=
 nz (fun a => a) Fq (aG (Lib.fields s)) (kq _) ((xH hS [] s hl ha).mono fun _ _ ⟨_, h1, h2⟩ => ⟨_, _, h1, h2⟩)
end
section
open Go Go.RowKit
abbrev rlC (b : Nat) (r : Rl) : HEnt := .cells b (some 76) [.int .i64 r.t, .int .i64 r.a, .int .i64 r.b, .int .i64 r.p]
abbrev arC (b : Nat) (t a u p : Int) : HEnt := .cells b (some 128) [.int .i64 t, .int .i64 a, .int .i64 u, .int .i64 p]
abbrev erV (b : Nat) : HEnt := .cells b (some 38) [.raw .nilIface]
theorem zZ {s : List UInt8} (h : (s.all fun c => decide (c.toNat < 128)) = true) : ∀ (j : Nat) (b : UInt8), s[j]? = some b → b.toNat < 128 := fun j b hb => by
 have := List.all_eq_true.1 h b (List.mem_of_getElem? hb)
 simpa using this
theorem rb {s : List UInt8} : ∀ {l : List (List UInt8 × Rl)} {k : Nat} (hk : k < l.length), (∀ j (hj : j < l.length), j < k → l[j].1 ≠ s) → l[k].1 = s → cF s l = l[k].2
 | x :: t, 0, hk, _, h => by
  have h : x.1 = s := h
  simp only [cF, if_pos h]
  rfl
 | x :: t, k + 1, hk, h0, h => by
  have h1 := h0 0 (by simp) (Nat.succ_pos k)
  have h1 : x.1 ≠ s := h1
  have ih := rb (s := s) (l := t) (k := k) (by simpa using hk) (fun j hj hjk => by
   have := h0 (j + 1) (by simpa using hj) (by omega)
   simpa using this) (by simpa using h)
  simp only [cF, if_neg h1, ih]
  rfl
theorem vi {s : List UInt8} : ∀ {l : List (List UInt8 × Rl)}, (∀ j (hj : j < l.length), l[j].1 ≠ s) → cF s l = ⟨8, 0, 0, 0⟩
 | [], _ => rfl
 | x :: t, h0 => by
  have h1 : x.1 ≠ s := h0 0 (by simp)
  have ih := vi (s := s) (l := t) (fun j hj => by
   have := h0 (j + 1) (by simpa using hj)
   simpa using this)
  simp only [cF, if_neg h1, ih]
attribute [local irreducible] AWp AOps aa az OrOk ad ah
attribute [local irreducible] AWpR ii AWpD LvM To tabR rowV nmV ap
theorem zY {G : Glo} (hS : SpIs G) {v : Int} (hv : v = 3 ∨ v = 4) (s : List UInt8) (hl : s.length ≤ 1000000) : FnIs Tryz.prog G 28 [.str s, .int .i64 v] (.tuple [(cF (ap 97 122 (-32) s) (rowV v)).A, .raw .nilIface]) := by
 have hGL : ad G [] := ab
 have hT := mI (G := G) hv
 have hSq := f7 (G := G) (tabS v) 124
 have hU := dH (G := G) s (by omega)
 have hcu := Tryz.call27
 have hlr : (tabR v).length = (rowV v).length := by unfold tabR; rw [List.length_map]
 have h36 := (kF hv).2
 generalize hup : ap 97 122 (-32) s = up at *
 refine fn_m (rs := [.cell 4 76, .cell 5 38]) Tryz.func28 Tryz.call28 rfl rfl rfl rfl ?_
 intro C hC hD
 refine fo hC hGL (fun x : Nat × Nat × Nat => [(1, .int .i64 v), (2, .own 0 (sqP x.1)), (4, .own 1 (sqP x.2.1)), (5, .own 2 (sqP x.2.2))]) (fun x => [sqS x.1 s, rlC x.2.1 Rl.z, erV x.2.2]) (fun _ => True) ?_ ?_
 ·refine xb1 ?_
  intro b2 b4 b5
  intros
  exact cy (b2, b4, b5) trivial
 rintro ⟨b2, b4, b5⟩ -
 dsimp only
 refine fo hC hGL (fun _ : Unit => [(1, .int .i64 v), (2, .own 0 (sqP b2)), (4, .own 1 (sqP b4)), (5, .own 2 (sqP b5))]) (fun _ => [sqS b2 s, rlC b4 Rl.z, erV b5]) (fun _ => True) ?_ fun _ _ => ?_
 ·refine xn ?_
  repeat' (first | exact Le.n | refine Lc.mk ?_ ?_)
  all_goals intros
  all_goals first
   | exact cy () trivial
   | (exfalso; omega)
 refine gU (fo hC hGL (fun x : Nat × Nat × Nat => [(1, .int .i64 v), (2, .own 0 (sqP b2)), (4, .own 1 (sqP b4)), (5, .own 2 (sqP b5)), (20, .func (.func 159) [] [.own 4 (sqP x.2.1), .own 3 (sqP x.1), .own 5 (sqP x.2.2)])]) (fun x => [sqS b2 s, rlC b4 Rl.z, erV b5, sqS x.1 (tabS v), sqS x.2.1 [124], sqI x.2.2 0]) (fun _ => True) ?_ ?_)
 ·refine xn1 ?_
  refine xR (fun x : Nat × Nat × Nat => .func (.func 159) [] [.own 4 (sqP x.2.1), .own 3 (sqP x.1), .own 5 (sqP x.2.2)]) hSq (fun _ _ _ h => h) ?_
  rintro ⟨b0, b1, b3⟩
  refine xn1 ?_
  exact cy (b0, b1, b3) trivial
 rintro ⟨b0, b1, b3⟩ -
 dsimp only
 refine ru ?_
 refine rq rfl Tryz.call159 [(1, .int .i64 v), (2, .own 0 (sqP b2)), (4, .own 1 (sqP b4)), (5, .own 2 (sqP b5))] ak rfl ?_
 intro L D r hp ha hb hfs
 rw [hC]
 have hy : ∀ (k : Nat) (s' : List UInt8) (y : Unit), k < (tabR v).length → (∀ j (hj : j < (rowV v).length), j < k → (rowV v)[j].1 ≠ up) → ii Tryz.prog G L [.str ((tabR v).getD k [])] (sqS b0 s' :: sqS b1 [124] :: sqI b3 0 :: [sqS b2 s, rlC b4 Rl.z, erV b5, objD D, objL L r .ready none])
   (fun b H' => (b = true ∧ ∃ _ : Unit, (∀ j (hj : j < (rowV v).length), j < k + 1 → (rowV v)[j].1 ≠ up) ∧ H' = sqS b0 s' :: sqS b1 [124] :: sqI b3 0 :: [sqS b2 s, rlC b4 Rl.z, erV b5, objD D, objL L r .ready none]) ∨
    (b = false ∧ ∃ T : Heap, H' = sqS b0 s' :: sqS b1 [124] :: sqI b3 0 :: (sqS b2 s :: rlC b4 (cF up (rowV v)) :: erV b5 :: objD D :: objL L r .done (some .ret) :: T))) := by
  intro k s' y hk hI
  have hk' : k < (rowV v).length := by omega
  have hro := wG hv hk'
  simp only [qw, Bool.and_eq_true, decide_eq_true_eq] at hro
  have hF := vm hS ((tabR v).getD k []) (by rw [gx hk']; omega) (by rw [gx hk']; exact zZ hro.1.1.1.2)
  rw [gx hk', hro.1.2] at hF
  have hdg := hro.2
  have a1 := lv (G := G) (rowV v)[k].2.t hdg.1 hdg.2.1
  have a2 := lv (G := G) (rowV v)[k].2.a hdg.2.2.1 hdg.2.2.2.1
  have a3 := lv (G := G) (rowV v)[k].2.b hdg.2.2.2.2.1 hdg.2.2.2.2.2.1
  have a4 := lv (G := G) (rowV v)[k].2.p hdg.2.2.2.2.2.2.1 hdg.2.2.2.2.2.2.2
  have hfind : (rowV v)[k].1 = up → cF up (rowV v) = (rowV v)[k].2 := fun h => rb hk' hI h
  have hnext : (rowV v)[k].1 ≠ up → ∀ j (hj : j < (rowV v).length), j < k + 1 → (rowV v)[j].1 ≠ up := fun h j hj hjk => by
   by_cases e : j = k
   ·subst e; exact h
   ·exact hI j hj (by omega)
  rw [gx hk']
  generalize (rowV v)[k] = row at *
  obtain ⟨nm, t, a, b, p⟩ := row
  dsimp only at *
  have hperm : ∀ (x : HEnt) (rr : Rl) (T : Heap), (sqS b2 s :: rlC b4 rr :: erV b5 :: sqS b0 s' :: sqS b1 [124] :: sqI b3 0 :: T).Perm (sqS b0 s' :: sqS b1 [124] :: sqI b3 0 :: sqS b2 s :: rlC b4 rr :: erV b5 :: T) := fun _ rr T =>
   (List.perm_append_comm (l₁ := [sqS b2 s, rlC b4 rr, erV b5]) (l₂ := [sqS b0 s', sqS b1 [124], sqI b3 0])).append_right T
  refine rB (Bb (H1 := [sqS b2 s, rlC b4 Rl.z, erV b5, sqS b0 s', sqS b1 [124], sqI b3 0, objD D, objL L r .ready none]) (hperm (objD D) _ _)
   (Ba (i := 7) (p := 21) (Qf := fun bb H' => (bb = true ∧ nm ≠ up ∧ H' = [sqS b2 s, rlC b4 Rl.z, erV b5, sqS b0 s', sqS b1 [124], sqI b3 0, objD D, objL L r .ready none]) ∨ (bb = false ∧ nm = up ∧ ∃ T, H' = [sqS b2 s, rlC b4 ⟨t, a, b, p⟩, erV b5, sqS b0 s', sqS b1 [124], sqI b3 0, objD D, objL L r .done (some .ret)] ++ T)) rfl hp (by kernel_rfl) hfs ?_)) ?_
  ·intro C2 hC2 hD2
   rw [ha]
   refine cO hC2 hGL (xn1 ?_)
   refine ⟨rfl, 7, rfl, ?_⟩
   rw [hb]
   refine mA (s9 hC2 hGL (fun _ : Unit => [(1, .int .i64 v), (2, .own 0 (sqP b2)), (4, .own 1 (sqP b4)), (5, .own 2 (sqP b5)), (7, .list 1 5 (aG [nm, [digC t], [digC a], [digC b], [digC p]]))]) (fun _ => [sqS b2 s, rlC b4 Rl.z, erV b5, sqS b0 s', sqS b1 [124], sqI b3 0, objD D, objL L r .busy none]) (fun _ => True) ?_ fun _ _ => ?_)
   ·refine xn1 ?_
    intros
    exact cy () trivial
   refine nF (E5 mixed hC2 hGL (by kernel_rfl) ?_)
   refine xn1 ?_
   refine cq hcu hU rfl ?_
   refine xn1 ?_
   refine vO rfl (fun h => ?_) (fun h => ?_)
   ·have hnu : nm = up := a7.1 h
    refine s9 hC2 hGL (fun b8 : Nat => [(4, .own 1 (sqP b4)), (5, .own 2 (sqP b5)), (7, .list 1 5 (aG [nm, [digC t], [digC a], [digC b], [digC p]])), (8, .own 8 (sqP b8))]) (fun b8 => [sqS b2 s, rlC b4 Rl.z, erV b5, sqS b0 s', sqS b1 [124], sqI b3 0, objD D, objL L r .busy none, arC b8 0 0 0 0]) (fun _ => True) ?_ fun b8 _ => ?_
    ·refine xn1 ?_
     intro b8
     intros
     exact cy b8 trivial
    refine nF (s9 hC2 hGL (fun _ : Unit => [(4, .own 1 (sqP b4)), (5, .own 2 (sqP b5)), (7, .list 1 5 (aG [nm, [digC t], [digC a], [digC b], [digC p]])), (8, .own 8 (sqP b8)), (30, .int .i64 0)]) (fun _ => [sqS b2 s, rlC b4 Rl.z, erV b5, sqS b0 s', sqS b1 [124], sqI b3 0, objD D, objL L r .busy none, arC b8 0 0 0 0]) (fun _ => True) ?_ fun _ _ => ?_)
    ·refine xn1 ?_
     exact cy () trivial
    refine mA (yl 5 (rdsR (cO hC2 hGL (xn1 ?_))))
    intro _
    refine cO hC2 hGL (xn1 ?_)
    intro _
    refine cO hC2 hGL (xn1 ?_)
    intro _
    refine cO hC2 hGL (xn1 ?_)
    intro _
    refine cO hC2 hGL (xn1 ?_)
    intro _
    refine ⟨fun _ => ?_, fun h => absurd rfl h⟩
    refine cO hC2 hGL (xn1 ?_)
    exact ⟨7, rfl, .inr ⟨rfl, hnu, [arC b8 t a b p], rfl⟩⟩
   ·refine cO hC2 hGL (xn1 ?_)
    refine ⟨7, rfl, .inl ⟨rfl, fun e => ?_, rfl⟩⟩
    have h : seqB nm up = false := h
    rw [a7.2 e] at h
    cases h
  ·rintro b' H' (⟨rfl, hne, rfl⟩ | ⟨rfl, hnu, T, rfl⟩)
   ·exact ⟨_, hperm (objD D) _ _, .inl ⟨rfl, (), hnext hne, rfl⟩⟩
   ·rw [hfind hnu]
    exact ⟨_, hperm (objD D) _ _, .inr ⟨rfl, T, rfl⟩⟩
 have run := jA (G := G) L b0 b1 b3 124 (tabR v) (by omega) (BA hv) (yD hv) (Y := Unit) (Z := Heap) (fun _ => [sqS b2 s, rlC b4 Rl.z, erV b5, objD D, objL L r .ready none]) (fun T => sqS b2 s :: rlC b4 (cF up (rowV v)) :: erV b5 :: objD D :: objL L r .done (some .ret) :: T) (fun k _ => ∀ j (hj : j < (rowV v).length), j < k → (rowV v)[j].1 ≠ up) () (fun j hj h => absurd h (Nat.not_lt_zero _)) hy
 have hperm : ∀ (s' : List UInt8) (rr : Rl) (T : Heap), (sqS b0 s' :: sqS b1 [124] :: sqI b3 0 :: sqS b2 s :: rlC b4 rr :: erV b5 :: T).Perm (sqS b2 s :: rlC b4 rr :: erV b5 :: sqS b0 s' :: sqS b1 [124] :: sqI b3 0 :: T) := fun s' rr T =>
  (List.perm_append_comm (l₁ := [sqS b0 s', sqS b1 [124], sqI b3 0]) (l₂ := [sqS b2 s, rlC b4 rr, erV b5])).append_right T
 refine dR (dQ (hperm _ _ _) (zi run fun _ _ h => h)) ?_
 rintro res H' ⟨rfl, s', ⟨y, hI, rfl⟩ | ⟨T, rfl⟩⟩
 ·refine ⟨_, hperm _ _ _, .tuple [], 7, .ready, none, rfl, rfl, (fun h => by cases h), ?_⟩
  rw [vi fun j hj => hI j hj (by omega)]
  show AWpD Tryz.prog _ _ _ _ _ _
  refine iT (C := withD C (colD D :: C.D)) hC hGL (xn1 ?_)
  rw [show (withD C (colD D :: C.D)).D = [colD D] from (by show colD D :: C.D = _; rw [hD])]
  refine ss (i := 6) rfl (sr ?_)
  exact xn0
 ·refine ⟨_, hperm _ _ _, .tuple [], 7, .done, some .ret, rfl, rfl, (fun h => by cases h), ?_⟩
  show LvM _ _ _ _ _ (colD D :: C.D) _ _ _
  rw [hD]
  refine ss (i := 6) rfl (sr ?_)
  exact xn0
theorem kE {G : Glo} (hS : SpIs G) (v : Int) (s : List UInt8) (hl : s.length ≤ 1000000) : FnIs Tryz.prog G 28 [.str s, .int .i64 v] (.tuple [(ba v s).A, (verE v).A]) := by
 by_cases hv : v = 3 ∨ v = 4
 ·have e1 : ba v s = cF (ap 97 122 (-32) s) (rowV v) := by unfold ba; rw [if_pos hv]
  have e2 : verE v = .none := by unfold verE; rw [if_pos hv]
  rw [e1, e2]
  exact zY hS hv s hl
 ·have e1 : ba v s = Rl.z := by unfold ba; rw [if_neg hv]
  have e2 : verE v = .errno 1 := by unfold verE; rw [if_neg hv]
  rw [e1, e2]
  have hGL : ad G [] := ab
  refine fn_x Tryz.func28 Tryz.call28 rfl rfl rfl rfl hGL ?_
  intro C hC
  refine xb ?_
  repeat' (first | exact Le.n | refine Lc.mk ?_ ?_)
  all_goals intros
  all_goals intros
  all_goals first
   | (exfalso; omega)
   | (apply al; rfl)
end
section
open Go Go.RowKit
theorem GI {P : Program} {C : Ctx} {n : Nat} {c : Code} {env env' : Env} {H H' : Heap} {Q : AExit → Env → Heap → Prop} (hto : To C n env H env' H') (h : AWp P C n c env' H' Q) : AWp P C n c env H Q := fun R a w hm hf => by
 obtain ⟨R', hle, hm', hf'⟩ := hto R a w hm hf
 exact h R' a w hm' hf'
def rlL (r : Rl) : AVal := .list 1 4 (bH [(0, .int .i64 r.t), (1, .int .i64 r.a), (2, .int .i64 r.b), (3, .int .i64 r.p)])
def optA : Option Rl → AVal
 | none => .raw (.slice none 0 0)
 | some r => rlL r
def knAt (i : Nat) : Kn := knR.getD i ⟨[], none, none⟩
def knF (i : Nat) : AVal := .agg [.str (knAt i).n, optA (knAt i).o, optA (knAt i).w]
def knPs : List (Nat × AVal) := (List.range 36).map fun i => (i, knF i)
theorem Gm {i : Nat} (h : i < 36) : bH knPs i = knF i := by
 unfold bH knPs
 rw [List.getElem?_map, List.getElem?_range h]
 rfl
theorem uM {R : Seal} {sz n : Nat} {f g : Nat → AVal} {u : Value} (h : ∀ i, i < n → f i = g i) : Rel R (.list sz n f) u → Rel R (.list sz n g) u := by
 rintro ⟨⟨a, cap, e, hle, y⟩, h2⟩
 refine ⟨⟨a, cap, e, hle, ?_⟩, h2⟩
 rcases y with y | ⟨b, o, C, el, fz, ha, hR, hi⟩
 ·exact .inl y
 ·exact .inr ⟨b, o, C, el, fz, ha, hR, fun i hn => by rw [← h i hn]; exact hi i hn⟩
/-! Names whatever their letters. -/
def upB (c : UInt8) : Bool := decide ((65 ≤ c.toNat ∧ c.toNat ≤ 90) ∨ c.toNat = 45)
theorem Gl : (knR.all fun k => k.n.all upB) = true := by decide +kernel
theorem AH {c d : UInt8} (hc : upB c = true) : UInt8.ofNat (bR 65 90 32 c.toNat).toNat = UInt8.ofNat (bR 65 90 32 d.toNat).toNat ↔ c = UInt8.ofNat (bR 97 122 (-32) d.toNat).toNat := by
 have hc : (65 ≤ c.toNat ∧ c.toNat ≤ 90) ∨ c.toNat = 45 := by simpa [upB] using hc
 have h1 := c.toNat_lt
 have h2 := d.toNat_lt
 rw [← UInt8.toNat_inj, ← UInt8.toNat_inj, UInt8.toNat_ofNat', UInt8.toNat_ofNat', UInt8.toNat_ofNat']
 unfold bR
 (repeat' split) <;> omega
theorem q8 : ∀ {n s : List UInt8}, n.all upB = true → (ap 65 90 32 n = ap 65 90 32 s ↔ n = ap 97 122 (-32) s)
 | [], [], _ => by simp [ap]
 | [], d :: s, _ => by simp [ap]
 | c :: n, [], _ => by simp [ap]
 | c :: n, d :: s, h => by
  rw [List.all_cons, Bool.and_eq_true] at h
  have ih := q8 (n := n) (s := s) h.2
  have hb := AH (d := d) h.1
  unfold ap at ih ⊢
  simp only [List.map_cons, List.cons.injEq]
  rw [ih, hb]
theorem EB (i : Nat) : (knAt i).n.all upB = true := by
 unfold knAt
 by_cases h : i < knR.length
 ·rw [List.getD_eq_getElem?_getD, List.getElem?_eq_getElem h]
  exact List.all_eq_true.1 Gl _ (List.getElem_mem h)
 ·rw [List.getD_eq_getElem?_getD, List.getElem?_eq_none (by omega)]
  rfl
/-! What is found. -/
theorem rf {v : Int} {up : List UInt8} {r : Rl} : ∀ {l : List Kn} {k : Nat} (hk : k < l.length), (∀ j (hj : j < l.length), j < k → (l[j].of v = none ∨ l[j].n ≠ up)) → l[k].of v = some r → l[k].n = up → cF up (l.filterMap fun k => (k.of v).map fun r => (k.n, r)) = r
 | x :: t, 0, hk, _, h1, h2 => by
  have h1 : x.of v = some r := h1
  have h2 : x.n = up := h2
  simp only [List.filterMap_cons, h1, Option.map_some, cF, if_pos h2]
 | x :: t, k + 1, hk, h0, h1, h2 => by
  have ih := rf (l := t) (k := k) (by simpa using hk) (fun j hj hjk => by
   have := h0 (j + 1) (by simpa using hj) (by omega)
   simpa using this) (by simpa using h1) (by simpa using h2)
  have h3 : x.of v = none ∨ x.n ≠ up := h0 0 (by simp) (Nat.succ_pos k)
  cases hx : x.of v with
  | none => simp only [List.filterMap_cons, hx, Option.map_none, ih]
  | some r' =>
   rw [hx] at h3
   have h3 : x.n ≠ up := by rcases h3 with h | h; cases h; exact h
   simp only [List.filterMap_cons, hx, Option.map_some, cF, if_neg h3, ih]
theorem vl {v : Int} {up : List UInt8} : ∀ {l : List Kn}, (∀ j (hj : j < l.length), (l[j].of v = none ∨ l[j].n ≠ up)) → cF up (l.filterMap fun k => (k.of v).map fun r => (k.n, r)) = ⟨8, 0, 0, 0⟩
 | [], _ => rfl
 | x :: t, h0 => by
  have ih := vl (v := v) (up := up) (l := t) (fun j hj => by
   have := h0 (j + 1) (by simpa using hj)
   simpa using this)
  have h3 : x.of v = none ∨ x.n ≠ up := h0 0 (by simp)
  cases hx : x.of v with
  | none => simp only [List.filterMap_cons, hx, Option.map_none, ih]
  | some r' =>
   rw [hx] at h3
   have h3 : x.n ≠ up := by rcases h3 with h | h; cases h; exact h
   simp only [List.filterMap_cons, hx, Option.map_some, cF, if_neg h3, ih]
theorem kV {i : Nat} (h : i < knR.length) : knAt i = knR[i] := by
 unfold knAt
 rw [List.getD_eq_getElem?_getD, List.getElem?_eq_getElem h]
 rfl
theorem fB : knR.length = 36 := rfl
attribute [local irreducible] AWp AOps aa az OrOk ad ah
theorem wM {G : Glo} : FnIs Tryz.prog G 66 [] (.list 3 36 (bH knPs)) := by
 have hGL : ad G [] := ab
 refine fn_x Tryz.func66 Tryz.call66 rfl rfl rfl rfl hGL ?_
 intro C hC
 exact xw0
theorem qB {G : Glo} : FnIs Tryz.prog G 66 [] (.list 3 36 knF) :=
 sJ wM fun r H h => by
  obtain ⟨rfl, rfl⟩ := h
  rintro C R w e hm ⟨x, rfl, hx⟩
  exact ⟨R, hm, x, rfl, uM (fun i h => Gm h) hx⟩
theorem d8 {G : Glo} (s t : List UInt8) (hl : s.length ≤ 9223372036854775807) (hm : t.length ≤ 9223372036854775807) : FnIs Tryz.prog G 32 [.str s, .str t] (.bool (seqB (ap 65 90 32 s) (ap 65 90 32 t))) := by
 have h1 := lW (G := G) s hl
 have h2 := lW (G := G) t hm
 have hGL : ad G [] := ab
 refine fn_x Tryz.func32 Tryz.call32 rfl rfl rfl rfl hGL ?_
 intro C hC
 exact xw0
end
section
open Go Go.RowKit
abbrev kRl (b : Nat) (r : Rl) : HEnt := .cells b (some 76) [.int .i64 r.t, .int .i64 r.a, .int .i64 r.b, .int .i64 r.p]
abbrev kPt (b : Nat) : Value := .pointer (some ⟨b, 0, none⟩)
section
variable {P : Program} [Tab P] {C : Ctx} {H : Heap} {env : Env}
theorem gH {sz m : Nat} {f : Nat → AVal} {x : Operand} {T ty e : TypeId} {xT : TI} (hx : ai env x = some (.list sz (m + 1) f)) (h1 : tab P T = some xT) (h2 : xT.desc = .slice e) : RunV P C H env (.binOp .neq T x (.const (.slice none 0 0)) ty) (.bool true) := by
 intro R ρ w hm hf dst t p af g
 refine ⟨_, ?_, aE.2 rfl⟩
 obtain ⟨a, cap, e1, _, y⟩ := aQ (hf _ _ hx) rfl
 have e1 : ρ x = .slice a (m + 1) cap := (List.cons.inj e1).1
 obtain ⟨b, o, C0, el, fz, rfl, _⟩ := y.resolve_left (Nat.succ_ne_zero m)
 have hc : ρ (.const (.slice none 0 0)) = .slice none 0 0 := ar.1 (hf (.const (.slice none 0 0)) _ (cG env (.slice none 0 0)))
 obtain ⟨h3, h4, h5⟩ := mq (R := R) (x := x) (w := w) (av := .raw (ρ x)) (c := false) (z := .slice none 0 0) (ar.2 rfl) h1 (by rw [h2, e1]; rfl) (by rw [h2]; rfl)
 have h6 := h5 .neq (.inr rfl)
 rw [if_neg (by decide)] at h6
 simp only [execOp, hc, Sem.run_bind, h4, Result.andThen_ok, h6, h3, Sem.run_pure, Bool.not_false]
end
attribute [local irreducible] AWp AOps aa az OrOk ad ah
attribute [local irreducible] ap knAt knR rowV To
theorem Ak {G : Glo} {v : Int} (hv : v = 3 ∨ v = 4) (s : List UInt8) (hl : s.length ≤ 1000000) : FnIs Tryz.prog G 33 [.str s, .int .i64 v] (.tuple [(cF (ap 97 122 (-32) s) (rowV v)).A, .int .i64 0]) := by
 have hGL : ad G [] := ab
 have hK := qB (G := G)
 generalize hup : ap 97 122 (-32) s = up at *
 have hsame : ∀ k, k < 36 → FnIs Tryz.prog G 32 [.str (knAt k).n, .str s] (.bool (seqB (knAt k).n up)) := fun k hk => by
  have h := d8 (G := G) (knAt k).n s (by
   have : ∀ j, j < 36 → (knAt j).n.length ≤ 100 := by decide +kernel
   have := this k hk
   omega) (by omega)
  have e : seqB (ap 65 90 32 (knAt k).n) (ap 65 90 32 s) = seqB (knAt k).n up := by
   rw [Bool.eq_iff_iff, a7, a7, q8 (EB k), hup]
  rwa [e] at h
 refine fn_a Tryz.func33 Tryz.call33 rfl rfl rfl rfl ?_
 intro C hC
 refine cuty hC hGL (fun b4 : Nat => [(0, .str s), (1, .int .i64 v), (4, .own 0 (kPt b4))]) (fun b4 => [kRl b4 Rl.z]) (fun _ => True) ?_ fun b4 _ => ?_
 ·refine xb1 ?_
  intro b4
  intros
  exact cy b4 trivial
 refine cut hC hGL [(0, .str s), (1, .int .i64 v), (4, .own 0 (kPt b4))] [kRl b4 Rl.z] True ?_ fun _ => ?_
 ·refine xn ?_
  repeat' (first | exact Le.n | refine Lc.mk ?_ ?_)
  all_goals intros
  all_goals first
   | exact Ct.w
   | (exfalso; omega)
 refine iU (cut hC hGL [(0, .str s), (1, .int .i64 v), (4, .own 0 (kPt b4)), (16, .list 3 36 knF), (17, .int .i64 (36 : Nat)), (18, .int .i64 (0 : Nat))] [kRl b4 Rl.z] True xn0 fun _ => ?_)
 refine iV (lu (X := Nat) (fun k => [(0, .str s), (1, .int .i64 v), (4, .own 0 (kPt b4)), (16, .list 3 36 knF), (17, .int .i64 (36 : Nat)), (18, .int .i64 (k : Nat))]) (fun _ => [kRl b4 Rl.z]) (fun k => k ≤ 36 ∧ ∀ j, j < k → ((knAt j).of v = none ∨ (knAt j).n ≠ up)) (fun k => 36 - k) 0 ⟨Nat.zero_le _, fun j h => absurd h (Nat.not_lt_zero _)⟩ ak (List.Sublist.refl _) ?_)
 rintro k ⟨hk, hI⟩
 have hk : k ≤ 36 := hk
 by_cases hlt : k < 36
 ·have hs1 := hsame k hlt
  refine cut hC hGL [(0, .str s), (1, .int .i64 v), (4, .own 0 (kPt b4)), (16, .list 3 36 knF), (17, .int .i64 (36 : Nat)), (18, .int .i64 (k : Nat)), (19, .bool (ltB (k : Int) (36 : Nat)))] [kRl b4 Rl.z] True xn0 fun _ => ?_
  refine cut hC hGL [(0, .str s), (1, .int .i64 v), (4, .own 0 (kPt b4)), (16, .list 3 36 knF), (17, .int .i64 (36 : Nat)), (18, .int .i64 (k : Nat))] [kRl b4 Rl.z] True ?_ fun _ => ?_
  ·refine xn ?_
   repeat' (first | exact Le.n | refine Lc.mk ?_ ?_)
   all_goals intros
   all_goals first
    | (intros; exact Ct.w)
    | (intros; exfalso; omega)
  rcases hkn : knAt k with ⟨n, o, w⟩
  have hkF : knF k = .agg [.str n, optA o, optA w] := by unfold knF; rw [hkn]
  rw [hkn] at hs1
  dsimp only at hs1
  have hnx : ((knAt k).of v = none ∨ n ≠ up) → ∀ j, j < k + 1 → ((knAt j).of v = none ∨ (knAt j).n ≠ up) := fun h j hj => by
   by_cases e : j = k
   ·subst e; rw [hkn] at h ⊢; exact h
   ·exact hI j (by omega)
  rw [hkn] at hnx
  have hfound : ∀ r, (⟨n, o, w⟩ : Kn).of v = some r → n = up → cF up (rowV v) = r := fun r h1 h2 => by
   have e := kV (i := k) (by rw [fB]; exact hlt)
   rw [hkn] at e
   unfold rowV
   exact rf (k := k) (by rw [fB]; exact hlt) (fun j hj hjk => by have := hI j hjk; rwa [kV hj] at this) (by rw [← e]; exact h1) (by rw [← e]; exact h2)
  rcases hv with rfl | rfl
  ·rcases o with _ | o <;> rcases w with _ | w
   all_goals
    refine bw hC hGL ?_
    (conv => whnf)
    refine Ix.w ?_
    rw [hkF]
    refine xn ?_
    repeat' (first | exact Le.n | refine Lc.mk ?_ ?_)
    all_goals intros
    all_goals intros
    all_goals try exact ⟨k + 1, ⟨by show k + 1 ≤ 36; omega, hnx (.inl rfl)⟩, by show 36 - (k + 1) < 36 - k; omega, ak, aS⟩
    all_goals try exact ⟨k + 1, ⟨by show k + 1 ≤ 36; omega, hnx (.inr (by assumption))⟩, by show 36 - (k + 1) < 36 - k; omega, ak, aS⟩
   all_goals
    have hfd := hfound o rfl (by assumption)
    refine aI hC hGL (gH (m := 3) rfl rfl rfl) rfl rfl ?_
    refine xn1 ?_
    refine dw_p mixed hC hGL false (fun (_ : HEnt) => [(4, .own 0 (kPt b4)), (5, .int .i64 0)]) (fun y => [kRl b4 o, y]) (.take 0 (.take 1 (.take 2 (.take 3 (.take 4 (.take 5 (.take 6 (.take 7 (.take 8 (.take 9 (.take 10 (.take 11 (.br 12 (.br 13 (.take 14 (.done)) (.nil)) (.nil)))))))))))))) (by kernel_rfl) ?_ ?_
    ·refine xn ?_
     repeat' (first | exact Le.n | refine Lc.mk ?_ ?_)
     all_goals intros
     all_goals exact ⟨_, ak, rfl⟩
    intro y
    refine xn1 ?_
    rw [hfd]
    exact al rfl
  ·rcases o with _ | o <;> rcases w with _ | w
   all_goals
    refine bw hC hGL ?_
    (conv => whnf)
    refine Ix.w ?_
    rw [hkF]
    refine xn ?_
    repeat' (first | exact Le.n | refine Lc.mk ?_ ?_)
    all_goals intros
    all_goals intros
    all_goals try exact ⟨k + 1, ⟨by show k + 1 ≤ 36; omega, hnx (.inl rfl)⟩, by show 36 - (k + 1) < 36 - k; omega, ak, aS⟩
    all_goals try exact ⟨k + 1, ⟨by show k + 1 ≤ 36; omega, hnx (.inr (by assumption))⟩, by show 36 - (k + 1) < 36 - k; omega, ak, aS⟩
   all_goals
    have hfd := hfound w rfl (by assumption)
    refine aI hC hGL (gH (m := 3) rfl rfl rfl) rfl rfl ?_
    refine xn1 ?_
    refine dw_p mixed hC hGL false (fun (_ : HEnt) => [(4, .own 0 (kPt b4)), (5, .int .i64 0)]) (fun y => [kRl b4 w, y]) (.take 0 (.take 1 (.take 2 (.take 3 (.take 4 (.take 5 (.take 6 (.take 7 (.take 8 (.take 9 (.take 10 (.take 11 (.br 12 (.br 13 (.take 14 (.done)) (.nil)) (.nil)))))))))))))) (by kernel_rfl) ?_ ?_
    ·refine xn ?_
     repeat' (first | exact Le.n | refine Lc.mk ?_ ?_)
     all_goals intros
     all_goals exact ⟨_, ak, rfl⟩
    intro y
    refine xn1 ?_
    rw [hfd]
    exact al rfl
 ·obtain rfl : k = 36 := by omega
  have hno : cF up (rowV v) = ⟨8, 0, 0, 0⟩ := by
   unfold rowV
   exact vl fun j hj => by have := hI j (by rw [fB] at hj; exact hj); rwa [kV hj] at this
  refine bw hC hGL (xn1 ?_)
  intro _
  refine ⟨fun _ => ?_, fun h => absurd rfl h⟩
  refine bw hC hGL (xn1 ?_)
  rw [hno]
  exact al rfl
theorem kM {G : Glo} (v : Int) (s : List UInt8) (hl : s.length ≤ 1000000) : FnIs Tryz.prog G 33 [.str s, .int .i64 v] (.tuple [(ba v s).A, .int .i64 (verE v).e]) := by
 by_cases hv : v = 3 ∨ v = 4
 ·have e1 : ba v s = cF (ap 97 122 (-32) s) (rowV v) := by unfold ba; rw [if_pos hv]
  have e2 : verE v = .none := by unfold verE; rw [if_pos hv]
  rw [e1, e2]
  exact Ak hv s hl
 ·have e1 : ba v s = Rl.z := by unfold ba; rw [if_neg hv]
  have e2 : verE v = .errno 1 := by unfold verE; rw [if_neg hv]
  rw [e1, e2]
  have hGL : ad G [] := ab
  refine fn_x Tryz.func33 Tryz.call33 rfl rfl rfl rfl hGL ?_
  intro C hC
  refine xb ?_
  repeat' (first | exact Le.n | refine Lc.mk ?_ ?_)
  all_goals intros
  all_goals intros
  all_goals first
   | (exfalso; omega)
   | (apply al; rfl)
def nmK (v : Int) (k : Nat) : List (List UInt8) := (knR.take k).filterMap fun k => (k.of v).map fun _ => k.n
theorem Co {v : Int} {k : Nat} (h : k < 36) : nmK v (k + 1) = nmK v k ++ (((knAt k).of v).map fun _ => (knAt k).n).toList := by
 unfold nmK
 rw [List.take_add_one, List.filterMap_append, kV (by rw [fB]; exact h), List.getElem?_eq_getElem (by rw [fB]; exact h)]
 refine congrArg _ ?_
 simp only [Option.toList_some, List.filterMap_cons, List.filterMap_nil]
 cases hx : (knR[k]'(by rw [fB]; exact h)).of v <;> simp
theorem Es (v : Int) (k : Nat) : (nmK v k).length ≤ 36 := by
 unfold nmK
 refine Nat.le_trans (List.length_filterMap_le _ _) ?_
 rw [List.length_take, fB]
 omega
theorem Et {v : Int} (hv : v = 3 ∨ v = 4) : nmK v 36 = ax v := by
 have e : ∀ l : List Kn, (l.filterMap fun k => (k.of v).map fun _ => k.n) = (l.filterMap fun k => (k.of v).map fun r => (k.n, r)).map (·.1) := fun l => by
  induction l with
  | nil => rfl
  | cons x t ih => cases hx : x.of v <;> simp [List.filterMap_cons, hx, ih]
 unfold nmK ax rowV
 rw [if_pos hv, List.take_of_length_le (by rw [fB]; omega), e]
attribute [local irreducible] nmK
theorem wO {G : Glo} {v : Int} (hv : v = 3 ∨ v = 4) : ah Tryz.prog G 29 [.int .i64 v] [] (fun r H => ∃ va, r = .ret (.tuple [.own 0 va, .int .i64 0]) ∧ H = [.row va none 1 (ax v).length (aO (ax v))]) := by
  have hGL : ad G [] := ab
  have hK := qB (G := G)
  refine fn_a Tryz.func29 Tryz.call29 rfl rfl rfl rfl ?_
  intro C hC
  refine cut hC hGL [(0, .int .i64 v)] [] True xn0 fun _ => ?_
  refine cut hC hGL [(0, .int .i64 v)] [] True ?_ fun _ => ?_
  · refine xn ?_
    repeat' (first | exact Le.n | refine Lc.mk ?_ ?_)
    all_goals intros
    all_goals first
      | exact Ct.w
      | (exfalso; omega)
  refine cut hC hGL [(0, .int .i64 v), (4, .raw (.slice none 0 0))] [] True xn0 fun _ => ?_
  refine iU (cut hC hGL [(0, .int .i64 v), (4, .raw (.slice none 0 0)), (13, .list 3 36 knF), (14, .int .i64 (36 : Nat)), (15, .int .i64 (0 : Nat))] [] True xn0 fun _ => ?_)
  refine GI (dV (tC 1) (FL (k := 4) (i := 0) rfl rfl)) ?_
  have e0 : nmK v 0 = [] := by unfold nmK; rfl
  refine iV (lu (X := Nat × Value) (fun x => [(0, .int .i64 v), (4, .own 0 x.2), (13, .list 3 36 knF), (14, .int .i64 (36 : Nat)), (15, .int .i64 (x.1 : Nat))]) (fun x => [.row x.2 none 1 (nmK v x.1).length (aO (nmK v x.1))]) (fun x => x.1 ≤ 36) (fun x => 36 - x.1) (0, .slice none 0 0) (Nat.zero_le _) ak (by rw [e0]; exact List.Sublist.refl _) ?_)
  rintro ⟨k, y⟩ hk
  have hk : k ≤ 36 := hk
  dsimp only
  by_cases hlt : k < 36
  · have hln := Es v k
    have hsc := Co (v := v) hlt
    rcases hkn : knAt k with ⟨n, o, w⟩
    have hkF : knF k = .agg [.str n, optA o, optA w] := by unfold knF; rw [hkn]
    rw [hkn] at hsc
    refine cut hC hGL [(0, .int .i64 v), (4, .own 0 y), (13, .list 3 36 knF), (14, .int .i64 (36 : Nat)), (15, .int .i64 (k : Nat)), (16, .bool (ltB (k : Int) (36 : Nat)))] [.row y none 1 (nmK v k).length (aO (nmK v k))] True xn0 fun _ => ?_
    refine cut hC hGL [(0, .int .i64 v), (4, .own 0 y), (13, .list 3 36 knF), (14, .int .i64 (36 : Nat)), (15, .int .i64 (k : Nat))] [.row y none 1 (nmK v k).length (aO (nmK v k))] True ?_ fun _ => ?_
    · refine xn ?_
      repeat' (first | exact Le.n | refine Lc.mk ?_ ?_)
      all_goals intros
      all_goals first
        | (intros; exact Ct.w)
        | (intros; exfalso; omega)
    generalize hnm : nmK v k = nm at *
    rcases hv with rfl | rfl
    · rcases o with _ | o <;> rcases w with _ | w
      all_goals
        simp only [Kn.of, if_true, if_false, Int.reduceEq, Option.map_none, Option.map_some, Option.toList_none, Option.toList_some, List.append_nil, reduceIte] at hsc
        refine bw hC hGL ?_
        (conv => whnf)
        refine Ix.w ?_
        rw [hkF]
        refine xn1 ?_
        intros
        first
          | exact ⟨(k + 1, y), by show k + 1 ≤ 36; omega, by show 36 - (k + 1) < 36 - k; omega, ak, by show List.Sublist [HEnt.row y none 1 (nmK 3 (k + 1)).length (aO (nmK 3 (k + 1)))] _; rw [hsc]; exact aS⟩
          | (refine aI hC hGL (gH (m := 3) rfl rfl rfl) rfl rfl ?_
             refine xn1 ?_
             intro wa wk wc _
             exact ⟨(k + 1, .slice wa wk wc), by show k + 1 ≤ 36; omega, by show 36 - (k + 1) < 36 - k; omega, ak, by show List.Sublist [HEnt.row (.slice wa wk wc) none 1 (nmK 3 (k + 1)).length (aO (nmK 3 (k + 1)))] _; rw [hsc, ← bS, List.length_append]; exact aS⟩)
    · rcases o with _ | o <;> rcases w with _ | w
      all_goals
        simp only [Kn.of, if_true, if_false, Int.reduceEq, Option.map_none, Option.map_some, Option.toList_none, Option.toList_some, List.append_nil, reduceIte] at hsc
        refine bw hC hGL ?_
        (conv => whnf)
        refine Ix.w ?_
        rw [hkF]
        refine xn1 ?_
        intros
        first
          | exact ⟨(k + 1, y), by show k + 1 ≤ 36; omega, by show 36 - (k + 1) < 36 - k; omega, ak, by show List.Sublist [HEnt.row y none 1 (nmK 4 (k + 1)).length (aO (nmK 4 (k + 1)))] _; rw [hsc]; exact aS⟩
          | (refine aI hC hGL (gH (m := 3) rfl rfl rfl) rfl rfl ?_
             refine xn1 ?_
             intro wa wk wc _
             exact ⟨(k + 1, .slice wa wk wc), by show k + 1 ≤ 36; omega, by show 36 - (k + 1) < 36 - k; omega, ak, by show List.Sublist [HEnt.row (.slice wa wk wc) none 1 (nmK 4 (k + 1)).length (aO (nmK 4 (k + 1)))] _; rw [hsc, ← bS, List.length_append]; exact aS⟩)
  · obtain rfl : k = 36 := by omega
    refine bw hC hGL (xn1 ?_)
    intro _
    refine ⟨fun _ => ?_, fun h => absurd rfl h⟩
    refine bw hC hGL (xn1 ?_)
    rw [Et hv]
    exact ⟨_, List.Sublist.refl _, y, rfl, rfl⟩
theorem pY {G : Glo} (v : Int) : FnIs Tryz.prog G 29 [.int .i64 v] (.tuple [.list 1 (ax v).length (aG (ax v)), .int .i64 (verE v).e]) := by
 by_cases hv : v = 3 ∨ v = 4
 ·have e2 : verE v = .none := by unfold verE; rw [if_pos hv]
  rw [e2]
  exact nz (fun a => .tuple [a, .int .i64 0]) (Cw _) (aG (ax v)) (kq _) (cs := aO (ax v)) (eT := none) ((wO hv).mono fun r H ⟨va, h1, h2⟩ => ⟨_, va, h1, h2⟩)
 ·have e1 : ax v = [] := by unfold ax; rw [if_neg hv]
  have e2 : verE v = .errno 1 := by unfold verE; rw [if_neg hv]
  rw [e1, e2]
  refine sJ (H := []) (Qf := fun r H => r = .ret (.tuple [.raw (.slice none 0 0), .int .i64 1]) ∧ H = []) ?_ (fun r H h => by
   obtain ⟨rfl, rfl⟩ := h
   rintro C R w e hm ⟨x, rfl, hx⟩
   exact ⟨R, hm, x, rfl, qn (Seal.le_refl R) hx fun u hu => by
    obtain rfl := ar.1 (show Rel R (.raw (.slice none 0 0)) u from hu)
    exact ⟨⟨none, 0, rfl, Nat.le_refl _, .inl rfl⟩, rfl⟩⟩)
  have hGL : ad G [] := ab
  refine fn_x Tryz.func29 Tryz.call29 rfl rfl rfl rfl hGL ?_
  intro C hC
  refine xw ?_
  repeat' (first | exact Le.n | refine Lc.mk ?_ ?_)
  all_goals intros
  all_goals first
   | (exfalso; omega)
   | (apply al; rfl)
end
section
open Go Go.RowKit
section
variable {P : Program} [Tab P] {C : Ctx} {n : Nat} {H : Heap} {env : Env} {x y : Operand} {T : TypeId} {xT : TI} {e : TypeId} {xe : TI}
theorem lK {len i : Nat} {k0 : IntKind} {cs : List AVal} {av : AVal} (hx : ai env x = some (.agg cs)) (hy : ai env y = some (.int k0 (i : Int))) (h1 : tab P T = some xT) (h2 : xT.desc = .array len e) (h3 : tab P e = some xe) (h4 : xe.size = 1) (h5 : a8 xe.desc = false) (hi : i < len) (hc : cs[i]? = some av) (ha : av.isAgg = false) :
  RunV P C H env (.index T x y) av := by
 intro R ρ w hm hf dst t p af g
 have hr := hf _ _ hx
 obtain ⟨vs, hvs⟩ : ∃ vs, ρ x = .agg vs := by
  have := hr.2
  cases hv : ρ x <;> rw [hv] at this <;> simp [AVal.isAgg, vAgg] at this
  exact ⟨_, rfl⟩
 rw [hvs] at hr
 obtain ⟨v, hv, hrv⟩ := bX (R := R) (cs := cs) (vs := vs.toList) hr.1 hc
 refine ⟨v, ?_, bG hrv ha⟩
 have hv' : vs[i]? = some v := by simpa using hv
 have hn : (0 : Int) ≤ i ∧ (i : Int) < len := ⟨by omega, by omega⟩
 have hil : i < vs.size := by
  rcases Nat.lt_or_ge i vs.size with h | h
  ·exact h
  ·rw [Array.getElem?_eq_none h] at hv'; cases hv'
 simp only [execOp, hvs, aq.1 (hf _ _ hy), Instr.index, asIntOf, Sem.run_bind, Sem.run_pure, Result.andThen_ok, ao h1, h2, hn, part, Int.toNat_natCast]
 simp [aB h3, bM h3, h5, h4, hv']
end
end
end Go.Proofs.YtahebkecmlmlfaaGreatDoor
