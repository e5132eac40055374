/- Why the walk by reckoning is enough; the rules of its stops; a function's contract from its walk. -/
import Derived.Test.YtlmihggafbmkaaaGreatDoorExf
namespace Go.Proofs.YtlmihggafbmkaaaGreatDoor
open Go
set_option linter.unusedSimpArgs false
set_option linter.unusedSectionVars false
set_option linter.unusedVariables false
section
variable {P : Program} [Tab P] {C : Ctx} {n : Nat} {env : Env} {H : Heap} {Q : AExit → Env → Heap → Prop} {ops : Array Oper} {rest : List Oper} {G : Glo} {GL : List (Nat × List AVal)}
variable {eT : Option TypeId}
variable {d : Nat} {t : TypeId} {p : String} {af : Array Edge} {g : Option (Nat × Bool)} {b : Bool} {F : Prop}
variable {x y : Operand} {T : TypeId} {xT : TI} {tx ty : TypeId} {av : AVal}
theorem storeX_ok {K : Heap → Prop} (hg : guardA ops env g = some (b, b)) (h : storeX P env H T x y F K)
    (hF : F → AOps P C n ops ({ dst := none, op := .store T x y, type := t, pos := p, after := af, guard := g } :: rest) env H Q) (hK : ∀ H', K H' → AOps P C n ops rest env H' Q) :
    AOps P C n ops ({ dst := none, op := .store T x y, type := t, pos := p, after := af, guard := g } :: rest) env H Q := by
  unfold storeX at h
  split at h
  · rename_i xT ht
    split at h
    · rename_i i b o a hx hy
      split at h
      · rename_i b' cs hi
        rcases cellsOf_ok h with h | ⟨hp, h⟩
        · exact hF h
        · split at h
          · rename_i h1 h2 h3
            obtain ⟨rfl, h⟩ := h
            rw [forceL_eq, forceH_eq] at h
            exact ow_store hg hx hy hi ht (Nat.eq_of_beq_eq_true h1) h2 hp h3 (by
              have e := Nat.eq_of_beq_eq_true h1
              exact hK _ h)
          · exact hF h
      · rename_i b' s cap hi
        split at h
        · rename_i m h1
          obtain ⟨⟨rfl, ho, h0, h2⟩, h⟩ := h
          rw [forceH_eq] at h
          have hsz := Nat.eq_of_beq_eq_true h1
          intro R act w hm hf
          obtain ⟨hcap, _⟩ := hm.heap.holds _ (List.mem_of_getElem? hi)
          refine ao_heap (H' := H.set i (.cells b' none (ownB s cap))) (fun R w hm => buf_cells hi hm) ?_ R act w hm hf
          refine ow_store (av := .int .u8 m) hg hx hy (get_set hi) ht hsz.symm (Nat.ble_eq_true_of_le (by rw [ownB_length hcap, hsz]; omega)) rfl rfl ?_
          rw [hsz]
          have e : (ownB s cap).take o ++ AVal.cells (.int .u8 m) ++ (ownB s cap).drop (o + 1) = ownB (s.set o (UInt8.ofNat m.toNat)) cap := ownB_set ho h0 h2
          rw [e, set_set]
          refine ao_heap (H' := H.set i (.buf b' (s.set o (UInt8.ofNat m.toNat)) cap)) (fun R w hm => ?_) (hK _ h)
          have := cells_buf (by simpa using hcap) (get_set hi) hm
          rwa [set_set] at this
        · exact hF h
      · rename_i v' _ sz n0 cs hi
        rcases cellsOf_ok h with h | ⟨hp, h⟩
        · exact hF h
        · split at h
          · rename_i h1 h2
            split at h
            · rename_i hs1
              have e1 := Nat.eq_of_beq_eq_true hs1
              rw [← e1] at h
              obtain ⟨⟨hr, ho, h0⟩, h⟩ := h
              rw [forceH_eq] at h
              exact ow_store_row hg hx hy hi hr h0 ht (Nat.eq_of_beq_eq_true h1) ho hp h2 (hK _ h)
            · obtain ⟨⟨hr, ho, h0⟩, h⟩ := h
              rw [forceH_eq] at h
              exact ow_store_row hg hx hy hi hr h0 ht (Nat.eq_of_beq_eq_true h1) ho hp h2 (hK _ h)
          · exact hF h
      · exact hF h
    · exact hF h
  · exact hF h
theorem ao_dst_row {i sz m : Nat} {v : Value} {cs : List AVal} (hi : H[i]? = some (.row v eT sz m cs)) (h : AOps P C n ops rest ((d, .own i v) :: env) H Q) : AOps P C n ops rest ((d, .raw v) :: env) H Q :=
  fun R a w hm hf => ao_dst_own (row_vAgg hm hi) h R a w hm hf
theorem last_get {z : HEnt} : (H ++ [z])[H.length]? = some z := by simp
theorem appendX_ok {K : AVal → Heap → Prop} (hg : guardA ops env g = some (b, b)) (hdn : Nat.ble (d + 1) n = true) (h : appendX P env H T tx x y F K)
    (hF : F → AOps P C n ops ({ dst := some d, op := .call { callee := .builtin .append, args := [x, y].toArray, argTypes := [T, tx].toArray }, type := t, pos := p, after := af, guard := g } :: rest) env H Q)
    (hK : ∀ av H', K av H' → AOps P C n ops rest ((d, av) :: env) H' Q) :
    AOps P C n ops ({ dst := some d, op := .call { callee := .builtin .append, args := [x, y].toArray, argTypes := [T, tx].toArray }, type := t, pos := p, after := af, guard := g } :: rest) env H Q := by
  unfold appendX at h
  split at h
  · rename_i xT xx ht htx
    split at h
    · rename_i e e' hd hdx
      split at h
      · rename_i xe he
        split at h
        · rename_i z hz h1024 h1
          split at h
          · rename_i sz m f hzl hy
            split at h
            · rename_i hsz
              have hsz := Nat.eq_of_beq_eq_true hsz
              have hzl := Nat.eq_of_beq_eq_true hzl
              subst hsz
              split at h
              · rename_i i v hx
                split at h
                · rename_i v' eT sz' n0 cs hi
                  split at h
                  case h_2 => exact hF h
                  rename_i hty
                  obtain ⟨⟨rfl, rfl, hlen⟩, h⟩ := h
                  have hok : SrcOK xe.size m f ∧ ∀ (va : Option Addr) (vk vc : Nat), RowV (n0 + m) va vk → K (.own i (.slice va vk vc)) (H.set i (.row (.slice va vk vc) eT xe.size (n0 + m) (cs ++ rowCells m f))) := by
                    rcases h with ⟨h1, h2⟩ | ⟨h1, h2⟩
                    · exact ⟨srcChk_ok h1, fun va vk vc hv => by have := h2.h va vk vc hv; simp only [forceH_eq] at this; exact this⟩
                    · exact ⟨h1, fun va vk vc hv => by have := h2.h va vk vc hv; simp only [forceH_eq] at this; exact this⟩
                  exact ow_append hg hdn hx hi hy ht hd he rfl h1 h1024 hz hzl (fun R v hv => src_list hv htx hdx hok.1) hlen (tyOK_ok hty) (fun v' => ao_rowslice (get_set hi) fun ⟨va, vk, vc, e, hv⟩ => by subst e; exact hK _ _ (hok.2 va vk vc hv))
                · exact hF h
              · rename_i hx
                obtain ⟨hlen, h⟩ := h
                have hok : SrcOK xe.size m f ∧ ∀ (va : Option Addr) (vk vc : Nat), RowV m va vk → K (.own H.length (.slice va vk vc)) (H ++ [.row (.slice va vk vc) none xe.size m (rowCells m f)]) := by
                  rcases h with ⟨h1, h2⟩ | ⟨h1, h2⟩
                  · exact ⟨srcChk_ok h1, fun va vk vc hv => by have := h2.h va vk vc hv; simp only [forceH_eq] at this; exact this⟩
                  · exact ⟨h1, fun va vk vc hv => by have := h2.h va vk vc hv; simp only [forceH_eq] at this; exact this⟩
                refine ao_ghost_row (eT := none) xe.size (ao_end ?_)
                refine ao_append (i := H.length) hg hdn hx last_get hy ht hd he rfl h1 h1024 hz hzl (fun R v hv => src_list hv htx hdx hok.1) (by omega) (fun _ h => nomatch h) (fun v' => ?_)
                have e2 : (H ++ [HEnt.row (.slice none 0 0) none xe.size 0 []]).set H.length (.row v' none xe.size (0 + m) ([] ++ (List.range m).flatMap fun i => (f i).cells)) = H ++ [.row v' none xe.size m (rowCells m f)] := by
                  simp [rowCells]
                rw [e2]
                refine ao_rowslice last_get fun ⟨va, vk, vc, e, hv⟩ => ?_
                subst e
                exact ao_dst_row last_get (hK _ _ (hok.2 va vk vc hv))
              · exact hF h
            · exact hF h
          · exact hF h
        · exact hF h
      · exact hF h
    · exact hF h
  · exact hF h
theorem rv_conv_str {S : TypeId} {xS : TI} {s : List UInt8} (hx : evalA env x = some (.str s)) (h1 : tab P S = some xS) (hd1 : xS.desc = .string) (h2 : tab P T = some xT) (hd2 : xT.desc = .string) : RunV P C H env (.convert S T x) (.str s) := by
  intro R ρ w hm hf dst t p af g
  refine ⟨_, ?_, rel_str.2 rfl⟩
  simp only [execOp, rel_str.1 (hf _ _ hx), convert, Sem.run_bind, tab_run_und h1, tab_run_und h2, hd1, hd2, Result.andThen_ok, Sem.run_pure]
theorem ao_invoke {recv : Operand} {name : String} {args : List Operand} {ts : Array TypeId} {f : FuncId} {ty : TypeId} {a r : AVal} {avs : List AVal} {Qf : ARes → Heap → Prop}
    (hg : guardA ops env g = some (b, b)) (hdn : Nat.ble (d + 1) n = true) (hfv : evalA env recv = some (.iface ty a)) (ha : argsA env args = some avs)
    (hmt : ∀ R v, Rel R (unown a) v → ∀ w, ∃ u, (Go.method (P.types.size + Made.depth) ty v name).run P w = .ok (f, u) w ∧ Rel R r u)
    (hs : FnSpec P C.G f (r :: unownL avs) H Qf)
    (hret : ∀ v H', Qf (.ret v) H' → AOps P C n ops rest ((d, v) :: env) H' Q)
    (hpan : ∀ v H', Qf (.panic v) H' → Q (.panic v) env H') :
    AOps P C n ops ({ dst := some d, op := .call { callee := .invoke recv name, args := args.toArray, argTypes := ts }, type := t, pos := p, after := af, guard := g } :: rest) env H Q := by
  intro R act w hm hf
  refine wpList_step fun K hK => ?_
  rw [wanted_of hf hg, if_pos (by simp)]
  obtain ⟨v, e, hv1, hv2⟩ := rel_one (hf.eval hfv) rfl
  simp only [List.cons.injEq, and_true] at e
  obtain ⟨u, hu, hru⟩ := hmt R v (unown_rel a v ⟨hv1, hv2⟩) w
  have hrel : RelV R (r :: unownL avs) (#[u] ++ args.toArray.map act.eval).toList := by
    have := unownL_rel _ _ (argsA_rel (fun x av h => hf.eval h) ha)
    have e9 : (#[u] ++ args.toArray.map act.eval).toList = u :: args.map act.eval := by simp
    rw [e9]
    exact ⟨u, _, rfl, ⟨hru.1, hru.2⟩, this⟩
  have hrun : (execOp act.eval { dst := some d, op := .call { callee := .invoke recv name, args := args.toArray, argTypes := ts }, type := t, pos := p, after := af, guard := g : Oper }).run P w =
      (callFunc f (#[u] ++ args.toArray.map act.eval)).run P w := by
    have e0 : (#[Value.iface ty v] ++ args.toArray.map act.eval)[0]? = some (.iface ty v) := by simp
    have e1 : (#[Value.iface ty v] ++ args.toArray.map act.eval).extract 1 (#[Value.iface ty v] ++ args.toArray.map act.eval).size = args.toArray.map act.eval := by
      apply Array.ext'
      simp [List.extract_eq_take_drop]
      rw [List.take_of_length_le (by simp)]
    simp only [execOp, resolve, e, Sem.run_bind, Sem.run_pure, Result.andThen_ok, invoke, e0, e1, callMethod, run_program, hu]
  have hent : MS ⟨w, R, blks H, C.G, hm.glo, []⟩ R H w := MS.enter (H1 := H) (H2 := []) (by simpa using hm)
  have hms : ∀ {R' H' w'}, MS ⟨w, R, blks H, C.G, hm.glo, []⟩ R' H' w' → MS C R' H' w' := fun h => by
    have := MS.call (H2 := []) (by simpa using hm) h
    simpa using this
  rcases hs R w _ hm.glo hent hrel with ⟨h1, h2⟩ | ⟨x, w', h1, res, H', R', q, er, hm'⟩
  · rw [Oper.wp, hrun, h1, Oper.upon_enter]
    refine h2.mono ?_
    rintro en w' ⟨res, H', R', q, er, hm'⟩
    have hf' := hf.mono hm'.ge
    cases res with
    | ret x =>
      obtain ⟨y, rfl, hr⟩ := er
      exact hK _ _ (hret x H' q R' _ w' (hms hm') (hf'.put hdn hr))
    | panic x =>
      obtain ⟨y, rfl, hr⟩ := er
      exact ⟨.panic x, env, _, R', hpan x H' q, ⟨y, rfl, hr⟩, hms hm', hf'⟩
  · rw [Oper.wp, hrun, h1, Oper.upon_value]
    have hf' := hf.mono hm'.ge
    cases res with
    | ret v' =>
      obtain ⟨y, e, hr⟩ := er
      simp only [Ending.returned.injEq] at e
      subst e
      exact hK _ _ (hret v' H' q R' _ w' (hms hm') (hf'.put hdn hr))
    | panic v' => obtain ⟨y, e, _⟩ := er; cases e
theorem memX_ok (hC : C.G = G) (hGL : GloAll G GL) {op : Op} {Kp K : AVal → Heap → Prop} (hg : guardA ops env g = some (b, b)) (hdn : Nat.ble (d + 1) n = true) (h : memX P G GL env H op F Kp K)
    (hF : F → AOps P C n ops ({ dst := some d, op := op, type := t, pos := p, after := af, guard := g } :: rest) env H Q)
    (hp : ∀ v H', Kp v H' → Q (.panic v) env H') (hK : ∀ av H', K av H' → AOps P C n ops rest ((d, av) :: env) H' Q) :
    AOps P C n ops ({ dst := some d, op := op, type := t, pos := p, after := af, guard := g } :: rest) env H Q := by
  subst hC
  unfold memX at h
  split at h
  · rename_i T
    split at h
    · rename_i xT ht
      split at h
      · rename_i cs hc
        refine ao_alloc hg hdn ht hc (fun bl => ao_end (ao_dst_own (i := H.length) rfl (hK _ _ ?_)))
        have := h.h bl
        simp only [forceL_eq, forceH_eq] at this
        exact this
      · exact hF h
    · exact hF h
  · rename_i T x
    split at h
    · rename_i a hx
      rcases cellsOf_ok h with h | ⟨hpl, h | h⟩
      · exact hF h
      · exact ao_box_sealed hg hdn hx hpl (hK _ _ h)
      · refine ao_box hg hdn hx hpl (fun bl => ao_end (ao_dst_own (i := H.length) rfl (hK _ _ ?_)))
        have := h.h bl
        simp only [forceH_eq] at this
        exact this
    · exact hF h
  · rename_i args ts
    split at h
    · rename_i x y T tx h1 h2
      rw [call_args h1, call_args h2] at hF ⊢
      exact appendX_ok hg hdn h hF hK
    · exact hF h
  · rename_i recv name args ts
    split at h
    · rename_i ty a avs h1 h2
      obtain ⟨f, r, hmt, hs⟩ := h
      obtain ⟨Qf, hs, hr, hpn⟩ := hs
      have e := call_args (a := args) rfl
      rw [e]
      exact ao_invoke hg hdn h1 h2 hmt hs (fun v H' q => hK _ _ (hr v H' q)) (fun v H' q => hp _ _ (hpn v H' q))
    · exact hF h
  · rename_i fv args ts
    unfold callX at h
    split at h
    · rename_i f l1 l2 avs h1 h2
      rw [forceL_eq] at h
      obtain ⟨Qf, hs, hr, hpn⟩ := h
      have e := call_args (a := args) rfl
      rw [e]
      refine ao_call (H1 := H) (H2 := []) (Qf := Qf) hg hdn h1 h2 ?_ (by simp) (fun v H' q => by simpa using hK _ _ (hr v H' q)) (fun v H' q => by simpa using hp _ _ (hpn v H' q))
      intro R w args' hG hm ha
      exact hs R w args' hG hm (unownL_rel _ _ ha)
    · exact hF h
  · rename_i S T x
    split at h
    · rename_i s hx
      unfold bytesX at h
      split at h
      · rename_i xS xT hS hT
        split at h
        · rename_i e hd1 hd2
          split at h
          · rename_i xe he
            split at h
            · rename_i hu
              refine ao_buf hg hdn hx hS hd1 hT hd2 he hu (fun bl cap hcap => ?_)
              have h := h.h bl cap hcap
              simp only [forceH_eq] at h
              refine ao_end (ao_dst_own (i := H.length) rfl ?_)
              refine ao_heap (H' := H ++ [.buf bl s cap]) (fun R w hm => ?_) (hK _ _ h)
              have := cells_buf hcap last_get hm
              simpa using this
            · exact hF h
          · exact hF h
        · rename_i hd1 hd2
          exact ao_of_run hg hdn (rv_conv_str hx hS hd1 hT hd2) (hK _ _ h)
        · exact hF h
      · exact hF h
    · exact ao_of_x hg hdn (valX_ok hGL h) hF (fun av h => hK av H h)
  · rename_i T m l
    unfold buildSX at h
    split at h
    · rename_i xT ps ht hl
      split at h
      · rename_i e hd
        split at h
        · rename_i xe he
          split at h
          · rename_i z hz
            split at h
            · rename_i h5 h6 h7 h8 h9
              have e2 := call_args (a := l) rfl
              rw [e2]
              rcases h with h | h
              · exact ao_buildSlice_sealed hg hdn hl ht hd he hz h5 h6 h7 h8 h9 (hK _ _ h)
              · refine ao_buildSlice_row hg hdn hl ht hd he hz h5 h6 h7 h8 h9 (fun v => ao_end (ao_rowslice last_get fun ⟨va, vk, vc, e, hv⟩ => ?_))
                subst e
                refine ao_dst_row (i := H.length) last_get (hK _ _ ?_)
                have := h.h va vk vc hv
                simp only [forceL_eq, forceH_eq] at this
                exact this
            · exact hF h
          · exact hF h
        · exact hF h
      · exact hF h
    · exact hF h
  · rename_i T x
    split at h
    · rename_i xT s ht hx
      split at h
      · rename_i hd
        refine ao_range_str hg hdn hx ht hd (fun bl => ao_end (ao_dst_own (i := H.length) rfl (hK _ _ ?_)))
        have := h.h bl
        simp only [forceH_eq] at this
        exact this
      · exact hF h
    · exact hF h
  · rename_i x
    split at h
    · rename_i i b hx
      split at h
      · rename_i b' s pos hi
        obtain ⟨rfl, h1, h2⟩ := h
        refine ow_next2 hg hdn hx hi (fun hlt => hK _ _ ?_) (fun hlt => hK _ _ (h2 hlt))
        have := h1 hlt
        rwa [forceH_eq] at this
      · exact hF h
    · exact hF h
  · exact ao_of_x hg hdn (valX_ok hGL h) hF (fun av h => hK av H h)
theorem ao_skip_undef_none {o : Oper} {e : Nat} (hs : guardSlot ops o.guard = some e) (hv : Env.get env e = some (.raw undef)) (hd : o.dst = none)
    (h : AOps P C n ops rest env H Q) : AOps P C n ops (o :: rest) env H Q := by
  intro R a w hm hf
  refine wpList_step fun K hK => ?_
  have hw : Region.wanted o (yielded ops a.tmps) = false := by
    unfold guardSlot at hs
    unfold Region.wanted
    split at hs
    · rename_i j want h
      rw [h]
      split at hs
      · rename_i o' ho
        obtain ⟨x, hx, hr⟩ := hf.fr e _ hv
        rw [rel_raw.1 hr] at hx
        simp [yielded, ho, hs, hx, undef]
      · cases hs
    · cases hs
  rw [hw, if_neg (by simp), hd]
  exact hK _ _ (h R _ w hm hf)
theorem opsX_ok (hC : C.G = G) (hGL : GloAll G GL) : ∀ (l : List Oper) (env : Env) (H : Heap), opsX P C n G GL ops Q l env H → AOps P C n ops l env H Q
  | [], env, H, h => ao_nil h
  | o :: rest, env, H, h => by
    have ih := opsX_ok hC hGL rest
    replace h : stepX P C n G GL ops o rest Q (opsX P C n G GL ops Q rest) env H := h
    generalize opsX P C n G GL ops Q rest = K at h ih
    have run : ∀ env' b, guardA ops env' o.guard = some (b, b) → (match o.op with
      | .panic x => match evalA env' x with
        | some (.iface ty v) => Q (.panic (.iface ty v)) env' H
        | _ => Op1 P C n ops (o :: rest) env' H Q
      | op => match o.dst with
        | some d => match Nat.ble (d + 1) n with
          | true => memX P G GL env' H op (Op1 P C n ops (o :: rest) env' H Q) (fun v H' => Q (.panic v) env' H') (fun av H' => K ((d, av) :: env') H')
          | false => Op1 P C n ops (o :: rest) env' H Q
        | none => match op with
          | .store T x y => storeX P env' H T x y (Op1 P C n ops (o :: rest) env' H Q) (fun H' => K env' H')
          | _ => Op1 P C n ops (o :: rest) env' H Q) → AOps P C n ops (o :: rest) env' H Q := by
      intro env' b hg h
      obtain ⟨dst, op, type, pos, after, guard⟩ := o
      dsimp only at h hg ⊢
      split at h
      · rename_i x
        split at h
        · rename_i ty v hx
          exact ao_panic hg hx h
        · exact h.h
      · split at h
        · rename_i d
          split at h
          · rename_i hdn
            exact memX_ok hC hGL hg hdn h (fun h => h.h) (fun v H' h => h) (fun av H' h => ih _ _ h)
          · exact h.h
        · split at h
          · exact storeX_ok hg h (fun h => h.h) (fun H' h => ih _ _ h)
          · exact h.h
    have skip : ∀ env', (∀ d, o.dst = some d → Nat.ble (d + 1) n = true → AOps P C n ops rest ((d, .raw undef) :: env') H Q → AOps P C n ops (o :: rest) env' H Q) →
        (o.dst = none → AOps P C n ops rest env' H Q → AOps P C n ops (o :: rest) env' H Q) → (match o.dst with
      | some d => match Nat.ble (d + 1) n with
        | true => K ((d, .raw undef) :: env') H
        | false => Op1 P C n ops (o :: rest) env' H Q
      | none => K env' H) → AOps P C n ops (o :: rest) env' H Q := by
      intro env' h1 h2 h
      split at h
      · rename_i d hd
        split at h
        · rename_i hdn; exact h1 d hd hdn (ih _ _ h)
        · exact h.h
      · rename_i hd; exact h2 hd (ih _ _ h)
    simp only [stepX, guardX] at h
    split at h
    · rename_i hgn
      exact run env true (by rw [hgn]; rfl) h
    · rename_i j want hgn
      split at h
      · rename_i o' ho
        split at h
        · rename_i e he
          split at h
          · rename_i b hb
            have hgA : guardA ops env o.guard = some (b, want) := by rw [hgn]; simp only [guardA, ho, he, hb]
            have hgS : guardSlot ops o.guard = some e := by rw [hgn]; simp only [guardSlot, ho, he]
            have hgT : ∀ v, guardA ops ((e, .bool v) :: env) o.guard = some (v, want) := fun v => by rw [hgn]; exact guard_const ho he
            split at h
            · refine ao_split hgA hgS hb (fun hv => ?_) (fun hv => ?_)
              · exact run _ true (hgT true) (h.1 hv)
              · exact skip _ (fun d hd hdn k => ao_skip' (hgT false) hd hdn k) (fun hd k => ao_skip_none (hgT false) rfl hd k) (h.2 hv)
            · refine ao_split hgA hgS hb (fun hv => ?_) (fun hv => ?_)
              · exact skip _ (fun d hd hdn k => ao_skip (hgT true) hd hdn k) (fun hd k => ao_skip_none (hgT true) rfl hd k) (h.1 hv)
              · exact run _ false (hgT false) (h.2 hv)
          · rename_i v hv
            have hgS : guardSlot ops o.guard = some e := by rw [hgn]; simp only [guardSlot, ho, he]
            obtain ⟨rfl, h⟩ := h
            exact skip _ (fun d hd hdn k => ao_skip_undef hgS hv hd hdn k) (fun hd k => ao_skip_undef_none hgS hv hd k) h
          · exact h.h
        · exact h.h
      · exact h.h
theorem blockX_ok {id : Nat} {x : AExit} {e : Env} {h : Heap} (q : blockX id Q x e h) : blockQ id Q x e h := by
  cases x with
  | exit i =>
    simp only [blockX] at q
    simp only [blockQ]
    split at q
    · rename_i hb
      exact ⟨fun _ => q, fun hne => absurd (Nat.eq_of_beq_eq_true hb) hne⟩
    · rename_i hb
      exact ⟨fun he => (by subst he; rw [Nat.beq_refl] at hb; cases hb), fun _ => q⟩
  | normal => exact q
  | goto i => exact q
  | ret => exact q
  | panic v => exact q
theorem codeX_ok (hC : C.G = G) (hGL : GloAll G GL) : ∀ (c : Code) (env : Env) (H : Heap) (Q : AExit → Env → Heap → Prop), codeX P C n G GL c env H Q → AWp P C n c env H Q
  | .skip, _, _, _, h => aw_skip h
  | .region id ops dr, env, H, Q, h => by
    cases dr with
    | false =>
      replace h : opsX P C n G GL ops Q ops.toList env H := h
      have e := call_args (a := ops) rfl
      have := aw_region (id := id) (l := ops.toList) (by rw [← e]; exact opsX_ok hC hGL _ _ _ h)
      rwa [← e] at this
    | true => exact Dw.h h
  | .seq a b, env, H, Q, h => by
    replace h : codeX P C n G GL a env H (thenQ (fun e h => codeX P C n G GL b e h Q) Q) := h
    refine aw_seq ((codeX_ok hC hGL a env H _ h).mono ?_)
    intro x e h' q
    cases x with
    | normal => exact codeX_ok hC hGL b e h' Q q
    | exit i => exact q
    | goto i => exact q
    | ret => exact q
    | panic v => exact q
  | .cond c x y, env, H, Q, h => by
    replace h : (match evalA env c with
      | some (.bool b) => Sc b (codeX P C n G GL x env H Q) (codeX P C n G GL y env H Q)
      | _ => Cd P C n (.cond c x y) env H Q) := h
    split at h
    · rename_i b hb
      exact aw_cond hb (fun e => codeX_ok hC hGL x env H Q (h.1 e)) (fun e => codeX_ok hC hGL y env H Q (h.2 e))
    · exact h.h
  | .block id c, env, H, Q, h => aw_block ((codeX_ok hC hGL c env H _ h).mono fun _ _ _ q => blockX_ok q)
  | .exit id, _, _, _, h => aw_exit h
  | .ret, _, _, _, h => aw_ret h
  | .loop c, _, _, _, h => Lp.h h
  | .rangeFunc .., _, _, _, h => Cd.h h
  | .scope _, _, _, _, h => Cd.h h
  | .label _, _, _, _, h => Cd.h h
  | .goto _, _, _, _, h => Cd.h h
  | .refuse _, _, _, _, h => Cd.h h

/-! ## Loops -/
structure Nxt {X : Type} (I : X → Env) (J : X → Heap) (Inv : X → Prop) (μ : X → Nat) (x : X) (e : Env) (h : Heap) : Prop where
  h : ∃ x', Inv x' ∧ μ x' < μ x ∧ Env.sub e (I x') ∧ (J x').Sublist h
theorem nxt {X : Type} {I : X → Env} {J : X → Heap} {Inv : X → Prop} {μ : X → Nat} {x : X} {e : Env} {h : Heap} (x' : X) (h1 : Inv x') (h2 : μ x' < μ x) (h3 : Env.sub e (I x')) (h4 : h = J x') : Nxt I J Inv μ x e h := ⟨⟨x', h1, h2, h3, h4 ▸ List.Sublist.refl _⟩⟩
/-- .. what else is owned is let go. -/
theorem nxs {X : Type} {I : X → Env} {J : X → Heap} {Inv : X → Prop} {μ : X → Nat} {x : X} {e : Env} {h : Heap} (x' : X) (h1 : Inv x') (h2 : μ x' < μ x) (h3 : Env.sub e (I x')) (h4 : (J x').Sublist h) : Nxt I J Inv μ x e h := ⟨⟨x', h1, h2, h3, h4⟩⟩
/-- A loop whose rounds may let go of what they own. -/
theorem aw_loopS {c : Code} {X : Type} (I : X → Env) (J : X → Heap) (Inv : X → Prop) (μ : X → Nat) (x0 : X) (h0 : Inv x0) (hs : Env.sub env (I x0)) (hH : (J x0).Sublist H)
    (round : ∀ x, Inv x → AWp P C n c (I x) (J x) (thenQ (fun e h => ∃ x', Inv x' ∧ μ x' < μ x ∧ Env.sub e (I x') ∧ (J x').Sublist h) Q)) :
    AWp P C n (.loop c) env H Q := by
  intro R a w hm hf
  refine wp_loop_ghost (fun m a w => ∃ x R, Inv x ∧ μ x = m ∧ MS C R (J x) w ∧ FS C.D n R (I x) a) (μ x0) ⟨x0, R, h0, rfl, hm.drop hH, hf.sub hs⟩ ?_
  rintro m a w ⟨x, R, hx, rfl, hm, hf⟩
  refine wp_mono (round x hx R a w hm hf) ?_
  rintro e a' w' ⟨x', en, H', R', q, er, hm', hf'⟩
  cases x' with
  | normal =>
    simp only [ExitRel] at er; subst er
    obtain ⟨x', hx', hlt, hs', hsub⟩ := q
    exact ⟨μ x', hlt, x', R', hx', rfl, hm'.drop hsub, hf'.sub hs'⟩
  | exit i => simp only [ExitRel] at er; subst er; exact ⟨.exit i, en, H', R', q, rfl, hm', hf'⟩
  | goto i => simp only [ExitRel] at er; subst er; exact ⟨.goto i, en, H', R', q, rfl, hm', hf'⟩
  | ret => simp only [ExitRel] at er; subst er; exact ⟨.ret, en, H', R', q, rfl, hm', hf'⟩
  | panic v => obtain ⟨y, rfl, hr⟩ := er; exact ⟨.panic v, en, H', R', q, ⟨y, rfl, hr⟩, hm', hf'⟩
theorem nxt_id {X : Type} {I : X → Env} {J : X → Heap} {Inv : X → Prop} {μ : X → Nat} {x : X} {e : Env} {h : Heap} (k : Nxt I J Inv μ x e h) : Nxt I J Inv μ x e h := k
theorem lp {c : Code} {X : Type} (hC : C.G = G) (hGL : GloAll G GL) (I : X → Env) (J : X → Heap) (Inv : X → Prop) (μ : X → Nat) (x0 : X) (h0 : Inv x0) (hs : Env.sub env (I x0)) (hH : H = J x0)
    (round : ∀ x, Inv x → codeX P C n G GL c (I x) (J x) (thenQ (fun e h => Nxt I J Inv μ x e h) Q)) : Lp P C n c env H Q :=
  ⟨aw_loopS I J Inv μ x0 h0 hs (hH ▸ List.Sublist.refl _) fun x hx => (codeX_ok hC hGL _ _ _ _ (round x hx)).mono fun ex e h q => by
    cases ex with
    | normal => exact Nxt.h q
    | exit i => exact q
    | goto i => exact q
    | ret => exact q
    | panic v => exact q⟩
/-- So many rounds at most. -/
def Rds (P : Program) [Tab P] (C : Ctx) (n : Nat) (G : Glo) (GL : List (Nat × List AVal)) (c : Code) (Q : AExit → Env → Heap → Prop) : Nat → Env → Heap → Prop
  | 0, _, _ => False
  | k + 1, e, h => codeX P C n G GL c e h (thenQ (Rds P C n G GL c Q k) Q)
theorem rds {c : Code} (hC : C.G = G) (hGL : GloAll G GL) (k : Nat) (h : Rds P C n G GL c Q k env H) : Lp P C n c env H Q := by
  refine ⟨aw_rounds k ?_⟩
  induction k generalizing env H with
  | zero => exact h
  | succ k ih =>
    refine ar_succ ((codeX_ok hC hGL _ _ _ _ h).mono ?_)
    intro x e h' q
    cases x with
    | normal => exact ih q
    | exit i => exact q
    | goto i => exact q
    | ret => exact q
    | panic v => exact q
theorem env_sub_nil : Env.sub env [] := trivial
theorem env_sub_cons {k : Nat} {v : AVal} {e : Env} (h : Env.get env k = some v) (t : Env.sub env e) : Env.sub env ((k, v) :: e) := ⟨h, t⟩

/-! ## A function's end -/
inductive Rt (Qf : ARes → Heap → Prop) (v : AVal) (H : Heap) : Prop
  | mk (H' : Heap) (hs : H'.Sublist H) (hq : Qf (.ret v) H')
inductive Pn (Qf : ARes → Heap → Prop) (v : AVal) (H : Heap) : Prop
  | mk (H' : Heap) (hs : H'.Sublist H) (hq : Qf (.panic v) H')
def resX (P : Program) [Tab P] (env : Env) (H : Heap) : List ResultVar → (List AVal → Prop) → Prop
  | [], k => k []
  | .tmp t :: rs, k => match Env.get env t with
    | some v => resX P env H rs fun vs => k (v :: vs)
    | none => False
  | .cell a ty :: rs, k => match Env.get env a, tab P ty with
    | some (.own i (.pointer (some ⟨b, 0, none⟩))), some x => match H[i]? with
      | some (.cells b' eT cs) => match Nat.beq x.size cs.length, descAgg x.desc with
        | true, true => Sp (b' = b) (resX P env H rs fun vs => k (.agg cs :: vs))
        | true, false => match cs with
          | [v] => match v.isAgg with
            | false => Sp (b' = b) (resX P env H rs fun vs => k (v :: vs))
            | true => False
          | _ => False
        | false, _ => False
      | _ => False
    | _, _ => False
theorem resX_ok : ∀ (rs : List ResultVar) (k : List AVal → Prop), resX P env H rs k → ∃ vs, resAll P env H rs vs ∧ k vs
  | [], k, h => ⟨[], rfl, h⟩
  | .tmp t :: rs, k, h => by
    simp only [resX] at h
    split at h
    · rename_i v hv
      obtain ⟨vs, h1, h2⟩ := resX_ok rs _ h
      exact ⟨v :: vs, ⟨v, vs, rfl, hv, h1⟩, h2⟩
    · exact h.elim
  | .cell a ty :: rs, k, h => by
    simp only [resX] at h
    split at h
    · rename_i i b x ha hx
      split at h
      · rename_i b' eT cs hi
        split at h
        · rename_i h1 h2
          obtain ⟨rfl, h⟩ := h
          obtain ⟨vs, h3, h4⟩ := resX_ok rs _ h
          exact ⟨_, ⟨_, vs, rfl, ⟨b', i, eT, cs, x, .inr ⟨i, ha⟩, hi, hx, Nat.eq_of_beq_eq_true h1, .inl ⟨h2, rfl⟩⟩, h3⟩, h4⟩
        · rename_i h1 h2
          split at h
          · rename_i v
            split at h
            · rename_i hv
              obtain ⟨rfl, h⟩ := h
              obtain ⟨vs, h3, h4⟩ := resX_ok rs _ h
              exact ⟨_, ⟨_, vs, rfl, ⟨b', i, eT, _, x, .inr ⟨i, ha⟩, hi, hx, Nat.eq_of_beq_eq_true h1, .inr ⟨h2, rfl, hv⟩⟩, h3⟩, h4⟩
            · exact h.elim
          · exact h.elim
        · exact h.elim
      · exact h.elim
    · exact h.elim
def RetX (P : Program) [Tab P] (rs : List ResultVar) (Qf : ARes → Heap → Prop) : AExit → Env → Heap → Prop
  | .ret, env, H | .normal, env, H => resX P env H rs fun vs => match vs with
    | [v] => Rt Qf v H
    | vs => Rt Qf (.tuple vs) H
  | .panic v, _, H => Pn Qf v H
  | _, _, _ => False
theorem RetX_ok {rs : List ResultVar} {Qf : ARes → Heap → Prop} {x : AExit} {e : Env} {h : Heap} (q : RetX P rs Qf x e h) : RetQ P rs Qf x e h := by
  cases x with
  | ret =>
    obtain ⟨vs, h1, h2⟩ := resX_ok rs _ q
    have : Rt Qf (resVal vs) h := by
      match vs with
      | [v] => exact h2
      | [] => exact h2
      | _ :: _ :: _ => exact h2
    obtain ⟨H', h3, h4⟩ := this
    exact ⟨vs, H', h1, h3, h4⟩
  | normal =>
    obtain ⟨vs, h1, h2⟩ := resX_ok rs _ q
    have : Rt Qf (resVal vs) h := by
      match vs with
      | [v] => exact h2
      | [] => exact h2
      | _ :: _ :: _ => exact h2
    obtain ⟨H', h3, h4⟩ := this
    exact ⟨vs, H', h1, h3, h4⟩
  | panic v => obtain ⟨H', h2, h3⟩ := q; exact ⟨H', h2, h3⟩
  | exit i => exact q
  | goto i => exact q
/-- FROM THE WALK TO THE CONTRACT. -/
theorem fn_x {f : FuncId} {fn : Func} {c : Code} {avs : List AVal} {Qf : ARes → Heap → Prop} {rs : List ResultVar} (hf : P.funcs[f]? = some fn)
    (hc : ∀ args w, (callFunc f args).run P w = .ok (.enter f args) w) (hb : fn.body = some c) (hn : fn.ntmps = n) (hrs : fn.results = rs.toArray) (hlen : Nat.ble avs.length n = true) (hGL : GloAll G GL)
    (h : ∀ C : Ctx, C.G = G → codeX P C n G GL c (argEnv 0 avs) H (RetX P rs Qf)) : FnSpec P G f avs H Qf :=
  fn_spec hf hb hc hn hrs hlen fun w0 R0 hG => (codeX_ok rfl hGL _ _ _ _ (h ⟨w0, R0, blks H, G, hG, []⟩ rfl)).mono fun _ _ _ q => RetX_ok q
/-- A slot's own pointer. -/
theorem own_slot {c : Code} {k : Nat} (i : Nat) {v : Value} (hC : C.G = G) (hGL : GloAll G GL) (hv : vAgg v = false) (hk : Env.get env k = some (.raw v)) (h : codeX P C n G GL c ((k, .own i v) :: env) H Q) : AWp P C n c env H Q :=
  aw_env (fun _ _ hf => fs_own hv hk hf) (codeX_ok hC hGL _ _ _ _ h)
theorem rt_is {v v' : AVal} (h : v' = v) : Rt (fun x H => x = .ret v ∧ H = []) v' H := ⟨[], List.nil_sublist _, by rw [h], rfl⟩
theorem rt_do {v v' : AVal} {H0 H' : Heap} (h : v' = v) (hs : H0.Sublist H') : Rt (fun x H => x = .ret v ∧ H = H0) v' H' := ⟨H0, hs, by rw [h], rfl⟩
theorem pn_do {v v' : AVal} {H0 H' : Heap} (h : v' = v) (hs : H0.Sublist H') : Pn (fun x H => x = .panic v ∧ H = H0) v' H' := ⟨H0, hs, by rw [h], rfl⟩
theorem pn_is {v v' : AVal} (h : v' = v) : Pn (fun x H => x = .panic v ∧ H = []) v' H := ⟨[], List.nil_sublist _, by rw [h], rfl⟩

/-! ## Calls -/
theorem fn_frame {f : FuncId} {avs : List AVal} {H1 : Heap} (H2 : Heap) {Qf : ARes → Heap → Prop} (h : FnSpec P G f avs H1 Qf) : FnSpec P G f avs (H1 ++ H2) (fun r H' => ∃ H1', Qf r H1' ∧ H' = H1' ++ H2) := by
  intro R w args hG hm ha
  rcases h R w args hG hm.enter ha with ⟨h1, h2⟩ | ⟨v, w', h1, res, H', R', q, er, hm'⟩
  · exact .inl ⟨h1, h2.mono fun e w' ⟨res, H', R', q, er, hm'⟩ => ⟨res, H' ++ H2, R', ⟨H', q, rfl⟩, er, MS.call hm hm'⟩⟩
  · exact .inr ⟨v, w', h1, res, H' ++ H2, R', ⟨H', q, rfl⟩, er, MS.call hm hm'⟩
theorem MS.blks_iff {w0 w : World} {R0 R : Seal} {B B' : List Nat} {hG : G.p R0} (hb : ∀ k, k ∈ B ↔ k ∈ B') (h : MS ⟨w0, R0, B, G, hG, []⟩ R H w) : MS ⟨w0, R0, B', G, hG, []⟩ R H w :=
  ⟨h.sealed, h.ge, fun k hk => by rcases h.fresh k hk with h1 | h1 | h1; exact .inl h1; exact .inr (.inl h1); exact .inr (.inr ((hb k).1 h1)), h.heap,
    fun z hz k hk => by rcases h.own z hz k hk with h1 | h1; exact .inl h1; exact .inr ((hb k).1 h1), ⟨h.ext.os, h.ext.tape, h.ext.output, h.ext.size, fun k hk hn => h.ext.block k hk (fun hm => hn ((hb k).1 hm))⟩⟩
theorem fn_perm {f : FuncId} {avs : List AVal} {H1 H2 : Heap} {Qf : ARes → Heap → Prop} (hp : H1.Perm H2) (h : FnSpec P G f avs H1 Qf) : FnSpec P G f avs H2 Qf := by
  have hb : ∀ k, k ∈ blks H2 ↔ k ∈ blks H1 := fun k => by
    have := (hp.filterMap HEnt.blk).mem_iff (a := k)
    exact this.symm
  intro R w args hG hm ha
  rcases h R w args hG ((hm.perm hp.symm).blks_iff hb) ha with ⟨h1, h2⟩ | ⟨v, w', h1, res, H', R', q, er, hm'⟩
  · exact .inl ⟨h1, h2.mono fun e w' ⟨res, H', R', q, er, hm'⟩ => ⟨res, H', R', q, er, hm'.blks_iff fun k => (hb k).symm⟩⟩
  · exact .inr ⟨v, w', h1, res, H', R', q, er, hm'.blks_iff fun k => (hb k).symm⟩
theorem fn_heap {f : FuncId} {avs : List AVal} {Qf Qf' : ARes → Heap → Prop} (h : FnSpec P G f avs H Qf) (hq : ∀ r H', Qf r H' → ∃ H'', H'.Perm H'' ∧ Qf' r H'') : FnSpec P G f avs H Qf' := by
  intro R w args hG hm ha
  rcases h R w args hG hm ha with ⟨h1, h2⟩ | ⟨v, w', h1, res, H', R', q, er, hm'⟩
  · exact .inl ⟨h1, h2.mono fun e w' ⟨res, H', R', q, er, hm'⟩ => let ⟨H'', hp, q'⟩ := hq _ _ q; ⟨res, H'', R', q', er, hm'.perm hp⟩⟩
  · obtain ⟨H'', hp, q'⟩ := hq _ _ q
    exact .inr ⟨v, w', h1, res, H'', R', q', er, hm'.perm hp⟩
variable {f : FuncId} {avs : List AVal} {K Kp : AVal → Heap → Prop}
theorem iv {ty : TypeId} {a : AVal} {name : String} (f : FuncId) (r : AVal) (hm : ∀ R v, Rel R a v → ∀ w, ∃ u, (Go.method (P.types.size + Made.depth) ty v name).run P w = .ok (f, u) w ∧ Rel R r u) (k : Cx P G f (r :: avs) H K Kp) :
    Iv P G ty a name avs H K Kp := .mk f r hm k
theorem cx_is {v : AVal} (hs : FnIs P G f avs v) (k : K v H) : Cx P G f avs H K Kp := by
  refine ⟨_, fn_frame H hs, ?_, ?_⟩
  · rintro v' H' ⟨H1', ⟨e, rfl⟩, rfl⟩; cases e; exact k
  · rintro v' H' ⟨H1', ⟨e, rfl⟩, rfl⟩; cases e
/-- A call that answers what it answers, and leaves nothing. -/
theorem cx_any {Qf : AVal → Prop} (hs : FnSpec P G f avs [] (fun r H => (∃ v, r = .ret v ∧ Qf v) ∧ H = [])) (k : ∀ v, Qf v → K v H) : Cx P G f avs H K Kp := by
  refine ⟨_, fn_frame H hs, ?_, ?_⟩
  · rintro v' H' ⟨H1', ⟨⟨v, e, q⟩, rfl⟩, rfl⟩; cases e; exact k _ q
  · rintro v' H' ⟨H1', ⟨⟨v, e, q⟩, rfl⟩, rfl⟩; cases e
theorem cx_panic {v : AVal} (hs : FnSpec P G f avs [] (fun r H => r = .panic v ∧ H = [])) (k : Kp v H) : Cx P G f avs H K Kp := by
  refine ⟨_, fn_frame H hs, ?_, ?_⟩
  · rintro v' H' ⟨H1', ⟨e, rfl⟩, rfl⟩; cases e
  · rintro v' H' ⟨H1', ⟨e, rfl⟩, rfl⟩; cases e; exact k
/-- The entry at a place is handed over. -/
theorem fn_at {i : Nat} {x : HEnt} {Qf : ARes → Heap → Prop} (hi : H[i]? = some x) (hs : FnSpec P G f avs [x] Qf) :
    FnSpec P G f avs H (fun r H' => (∃ y, Qf r [y] ∧ H' = H.set i y) ∨ (∃ H1', Qf r H1' ∧ H' = H1' ++ H.eraseIdx i)) := by
  have hp := perm_front hi
  refine fn_heap (fn_perm (H1 := [x] ++ H.eraseIdx i) (by simpa using hp.symm) (fn_frame (H.eraseIdx i) hs)) ?_
  rintro r H' ⟨H1', q, rfl⟩
  exact ⟨_, List.Perm.refl _, .inr ⟨H1', q, rfl⟩⟩
theorem set_perm {i : Nat} {x : HEnt} (y : HEnt) (hi : H[i]? = some x) : ([y] ++ H.eraseIdx i).Perm (H.set i y) := by
  have := perm_front (get_set (y := y) hi)
  have e : (H.set i y).eraseIdx i = H.eraseIdx i := List.eraseIdx_set_eq
  rw [e] at this
  exact this.symm
theorem cx_do {i : Nat} {x y : HEnt} {v : AVal} (hi : H[i]? = some x) (hs : FnSpec P G f avs [x] (fun r H => r = .ret v ∧ H = [y])) (k : forceH (H.set i y) (K v)) : Cx P G f avs H K Kp := by
  rw [forceH_eq] at k
  have hp := perm_front hi
  refine ⟨fun r H' => r = .ret v ∧ H' = H.set i y, fn_heap (fn_perm (H1 := [x] ++ H.eraseIdx i) (by simpa using hp.symm) (fn_frame (H.eraseIdx i) hs)) ?_, ?_, ?_⟩
  · rintro r H' ⟨H1', ⟨rfl, rfl⟩, rfl⟩
    exact ⟨_, set_perm y hi, rfl, rfl⟩
  · rintro v' H' ⟨e, rfl⟩; cases e; exact k
  · rintro v' H' ⟨e, rfl⟩; cases e
/-- .. and may panic. -/
theorem cx_dop {i : Nat} {x y : HEnt} {v : AVal} (hi : H[i]? = some x) (hs : FnSpec P G f avs [x] (fun r H => r = .panic v ∧ H = [y])) (k : forceH (H.set i y) (Kp v)) : Cx P G f avs H K Kp := by
  rw [forceH_eq] at k
  have hp := perm_front hi
  refine ⟨fun r H' => r = .panic v ∧ H' = H.set i y, fn_heap (fn_perm (H1 := [x] ++ H.eraseIdx i) (by simpa using hp.symm) (fn_frame (H.eraseIdx i) hs)) ?_, ?_, ?_⟩
  · rintro r H' ⟨H1', ⟨rfl, rfl⟩, rfl⟩
    exact ⟨_, set_perm y hi, rfl, rfl⟩
  · rintro v' H' ⟨e, rfl⟩; cases e
  · rintro v' H' ⟨e, rfl⟩; cases e; exact k
end
end Go.Proofs.YtlmihggafbmkaaaGreatDoor
