/- Regions that draw their order: where every operation leaves the memory's side as it is and hands back what is determinate, one walk serves every order. -/
import Derived.Test.YtlmihggafbmkaaaGreatDoorDisp
import Derived.Deep.Quiet
namespace Go.Proofs.YtlmihggafbmkaaaGreatDoor
open Go
set_option linter.unusedSimpArgs false

/-- Values within which no address of sealed memory stands: what stands for them is fixed. -/
def AVal.det : AVal → Bool
  | .bool _ => true
  | .int _ _ => true
  | .str _ => true
  | .raw _ => true
  | .own _ v => !vAgg v
  | _ => false
def AVal.conc : AVal → Value
  | .bool b => .bool b
  | .int k m => .int k m
  | .str s => .string ⟨s.toArray⟩
  | .raw x => x
  | .own _ x => x
  | _ => undef
theorem det_eq {R : Seal} {av : AVal} {v : Value} (h : Rel R av v) (hd : av.det = true) : v = av.conc := by
  cases av <;> simp only [AVal.det, Bool.false_eq_true] at hd
  · exact rel_bool.1 h
  · exact rel_int.1 h
  · exact rel_str.1 h
  · exact rel_raw.1 h
  · exact (rel_own.1 h).1
theorem det_rel {R : Seal} {av : AVal} (hd : av.det = true) : Rel R av av.conc := by
  cases av <;> simp only [AVal.det, Bool.false_eq_true] at hd
  · exact rel_bool.2 rfl
  · exact rel_int.2 rfl
  · exact rel_str.2 rfl
  · exact rel_raw.2 rfl
  · exact rel_own.2 ⟨rfl, by simpa using hd⟩
/-- Worlds that fit. -/
def CW (C : Ctx) (R : Seal) (H : Heap) : World → Prop := fun w => ∃ R', R.le R' ∧ MS C R' H w
def AQ (P : Program) (C : Ctx) (n : Nat) (ops : Array Oper) (l : List Oper) (env : Env) (H : Heap) (K : Env → Prop) : Prop :=
  ∀ R a, FS C.D n R env a → wpQuiet P ops (CW C R H) (fun a' => ∃ env', K env' ∧ FS C.D n R env' a') l a
theorem MS.drawn {C : Ctx} {R : Seal} {H : Heap} {w : World} (h : MS C R H w) (k : Nat) : MS C R H { w with drawn := k } := by
  refine ⟨fun b o hb => h.sealed b o hb, h.ge, h.fresh, ⟨fun x hx => ?_, h.heap.nodup, h.heap.apart⟩, h.own, ⟨h.ext.os, h.ext.tape, h.ext.output, h.ext.size, h.ext.block⟩⟩
  exact HEnt.holds_mono (h.heap.holds x hx) (Seal.le_refl R) (fun _ _ => rfl)
section
variable {P : Program} {C : Ctx} {n : Nat} {env : Env} {H : Heap} {Q : AExit → Env → Heap → Prop} {K : Env → Prop} {ops : Array Oper} {rest : List Oper}
theorem aw_region_draw {id : Nat} {l : List Oper} (hm : P.follows .mixedOrders = true) (hB : Region.lexB .any l.toArray = true) (h : AQ P C n l.toArray l env H (fun e => Q .normal e H)) :
    AWp P C n (.region id l.toArray true) env H Q := by
  intro R a w hw hf
  refine wp_region_quiet (C := CW C R H) hm hB ⟨R, Seal.le_refl R, hw.drawn _⟩ ?_
  have h1 := h R a hf
  have h2 : ∀ (l' : List Oper) (a : Act), wpQuiet P l.toArray (CW C R H) (fun a' => ∃ env', Q .normal env' H ∧ FS C.D n R env' a') l' a →
      wpQuiet P l.toArray (CW C R H) (fun a' => ∀ w', CW C R H w' → Post C n Q .normal a' w') l' a := by
    intro l'
    induction l' with
    | nil => rintro a ⟨env', hq, hfs⟩ w' ⟨R', hle, hms⟩; exact ⟨.normal, env', H, R', hq, rfl, hms, hfs.mono hle⟩
    | cons o r ih =>
      intro a h
      have h' := h
      unfold wpQuiet at h'
      refine wpQuiet_step fun X hX => ?_
      split
      · rename_i hw; rw [if_pos hw] at h'; exact Oper.quiet_mono (fun a' q => hX _ (ih a' q)) h'
      · rename_i hw; rw [if_neg hw] at h'; exact hX _ (ih _ h')
  exact h2 _ _ (by simpa using h1)
theorem kq_bin {op : BinOp} {tx ty : TypeId} {x y : Operand} {dst : Option Nat} {t : TypeId} {p : String} {af : Array Edge} {g : Option (Nat × Bool)} (h : AQ P C n ops ({ dst := dst, op := .binOp op tx x y ty, type := t, pos := p, after := af, guard := g } :: rest) env H K) :
    AQ P C n ops ({ dst := dst, op := .binOp op tx x y ty, type := t, pos := p, after := af, guard := g } :: rest) env H K := h
theorem kq_call {c : Call} {dst : Option Nat} {t : TypeId} {p : String} {af : Array Edge} {g : Option (Nat × Bool)} (h : AQ P C n ops ({ dst := dst, op := .call c, type := t, pos := p, after := af, guard := g } :: rest) env H K) :
    AQ P C n ops ({ dst := dst, op := .call c, type := t, pos := p, after := af, guard := g } :: rest) env H K := h
theorem aq_nil (h : K env) : AQ P C n ops [] env H K := fun _ _ hf => ⟨env, h, hf⟩
theorem aq_pure {o : Oper} {d : Nat} {av : AVal} {b : Bool} (hg : guardA ops env o.guard = some (b, b)) (hd : o.dst = some d) (hdn : Nat.ble (d + 1) n = true) (hdet : av.det = true)
    (hx : ∀ R ρ w, MS C R H w → Evals R env ρ → ∃ v, (execOp ρ o).run P w = .ok (.value v) w ∧ Rel R av v)
    (h : AQ P C n ops rest ((d, av) :: env) H K) : AQ P C n ops (o :: rest) env H K := by
  intro R a hf
  refine wpQuiet_step fun X hX => ?_
  rw [wanted_of hf hg, if_pos (by simp)]
  refine ⟨av.conc, ?_, ?_⟩
  · rintro w ⟨R', hle, hms⟩
    obtain ⟨v, hr, hv⟩ := hx R' a.eval w hms (fun x av h => (hf.mono hle).eval h)
    show Oper.quietUpon P _ w _ ((execOp a.eval o).run P w)
    rw [hr]
    exact ⟨rfl, det_eq hv hdet⟩
  · rw [hd]
    exact hX _ (h R _ (hf.put hdn (det_rel hdet)))
theorem aq_skip {o : Oper} {d : Nat} (hg : guardA ops env o.guard = some (true, false)) (hd : o.dst = some d) (hdn : Nat.ble (d + 1) n = true)
    (h : AQ P C n ops rest ((d, .raw undef) :: env) H K) : AQ P C n ops (o :: rest) env H K := by
  intro R a hf
  refine wpQuiet_step fun X hX => ?_
  rw [wanted_of hf hg, if_neg (by simp), hd]
  exact hX _ (h R _ (hf.put hdn (rel_raw.2 rfl)))
theorem aq_skip' {o : Oper} {d : Nat} (hg : guardA ops env o.guard = some (false, true)) (hd : o.dst = some d) (hdn : Nat.ble (d + 1) n = true)
    (h : AQ P C n ops rest ((d, .raw undef) :: env) H K) : AQ P C n ops (o :: rest) env H K := by
  intro R a hf
  refine wpQuiet_step fun X hX => ?_
  rw [wanted_of hf hg, if_neg (by simp), hd]
  exact hX _ (h R _ (hf.put hdn (rel_raw.2 rfl)))
theorem aq_callv {fv : Operand} {args : List Operand} {ts : Array TypeId} {f : FuncId} {avs : List AVal} {v : AVal} {d : Nat} {t : TypeId} {p : String} {af : Array Edge} {g : Option (Nat × Bool)} {b : Bool}
    (hg : guardA ops env g = some (b, b)) (hdn : Nat.ble (d + 1) n = true) (hfv : evalA env fv = some (.func (.func f) [] [])) (ha : argsA env args = some avs)
    (hs : FnIs P C.G f avs v) (hc : ∀ args w, (callFunc f args).run P w = .ok (.enter f args) w) (hdet : v.det = true) (h : AQ P C n ops rest ((d, v) :: env) H K) :
    AQ P C n ops ({ dst := some d, op := .call { callee := .value fv, args := args.toArray, argTypes := ts }, type := t, pos := p, after := af, guard := g } :: rest) env H K := by
  intro R a hf
  refine wpQuiet_step fun X hX => ?_
  rw [wanted_of hf hg, if_pos (by simp)]
  refine ⟨v.conc, ?_, hX _ (h R _ (hf.put hdn (det_rel hdet)))⟩
  rintro w ⟨R', hle, hms⟩
  have hf' := hf.mono hle
  obtain ⟨x1, x2, e, r1, r2⟩ := rel_one (hf'.eval hfv) rfl
  simp only [List.cons.injEq, and_true] at e
  have hrel : RelV R' avs (x1 ++ args.toArray.map a.eval ++ x2).toList := by
    have := relV_append r1 (relV_append (argsA_rel (fun x av h => hf'.eval h) ha) r2)
    simpa using this
  have hrun : (execOp a.eval { dst := some d, op := .call { callee := .value fv, args := args.toArray, argTypes := ts }, type := t, pos := p, after := af, guard := g : Oper }).run P w =
      (callFunc f (x1 ++ args.toArray.map a.eval ++ x2)).run P w := by
    simp only [execOp, resolve, e, Deferred.ofValue, Sem.run_bind, Sem.run_pure, Result.andThen_ok, invoke]
  show Oper.quietUpon P _ w _ ((execOp a.eval _).run P w)
  rw [hrun]
  have hent := hms.enter (H1 := []) (H2 := H) (G := C.G) (hG := hms.glo)
  rcases hs R' w _ hms.glo hent hrel with ⟨h1, h2⟩ | ⟨v', w', h1, _⟩
  · rw [h1]
    refine ⟨rfl, h2.mono ?_⟩
    rintro en w' ⟨res, H', R'', ⟨rfl, rfl⟩, ⟨y, rfl, hy⟩, hm'⟩
    refine ⟨by rw [det_eq hy hdet], R'', fun b o hb => hm'.ge b o (hle b o hb), ?_⟩
    exact MS.call (H1 := []) (H2 := H) hms hm'
  · rw [hc] at h1
    cases h1
end
end Go.Proofs.YtlmihggafbmkaaaGreatDoor
