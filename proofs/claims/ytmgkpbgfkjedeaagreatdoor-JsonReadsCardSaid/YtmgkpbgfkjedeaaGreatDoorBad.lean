/- Parts of the proof of jsonReads_card: Exg, Exq, Shb, Exh, Shelf, Shc, Jsb, Uf, Vr, Jra. -/
import Derived.KernelRfl
import Derived.Below
import Derived.Laws.Externs
import Derived.Shelf.Strings.Builder1
import Derived.Shelf.Small.Utf8
import Derived.Shelf.Small.Strs
import Derived.Shelf.Strconv.Itoa0
import Derived.Shelf.Strconv.Itoa1
import Derived.Shelf.LaysM
import Derived.Shelf.Strconv.Itoa2
import Derived.Shelf.Strconv.Itoa3
import Derived.Shelf.Strconv.ParseIntEmpty
import Derived.Shelf.Strconv.Clone
import Derived.Shelf.Strconv.SyntaxError
import Derived.Shelf.LaysC
import Derived.Shelf.Strconv.ToError
import Derived.Shelf.Strconv.Lower
import Derived.Shelf.Strconv.ParseUint10
import Derived.Shelf.Strconv.ParseUint10Empty
import Derived.Shelf.Strconv.ParseUint10Any
import Derived.Shelf.Strconv.ParseInt10
import Derived.Shelf.Strconv.RangeError
import Derived.Shelf.Strconv.ToErrorRange
import Derived.Shelf.Strconv.ParseUintEmpty
import Derived.Shelf.Strings.Search1
import Derived.Shelf.Strings.Prefix
import Derived.Shelf.Unicode.Decode
import Derived.Shelf.Strings.Runes
import Derived.Shelf.Unicode.DecodeSlow
import Derived.Shelf.Unicode.DecodeAny
import Derived.Test.YtmgkpbgfkjedeaaGreatDoorProg
import Derived.Lib.Join
import Derived.Test.YtmgkpbgfkjedeaaGreatDoorBac
import Derived.Test.YtmgkpbgfkjedeaaGreatDoorBaa
set_option linter.unusedVariables false
set_option linter.unusedSimpArgs false
namespace Go.Proofs.YtmgkpbgfkjedeaaGreatDoor
open Go
set_option linter.unusedSimpArgs false
set_option linter.unusedSectionVars false
set_option linter.unusedVariables false
section
variable {P : Program} [Tab P] {C : Ctx} {n : Nat} {env : Env} {H : Heap} {Q : AExit → Env → Heap → Prop} {ops : Array Oper} {rest : List Oper} {G : Glo} {GL : List (Nat × List AVal)}
variable {eT : Option TypeId}
variable {d : Nat} {t : TypeId} {p : String} {af : Array Edge} {g : Option (Nat × Bool)} {b : Bool} {F : Prop}
variable {x y : Operand} {T : TypeId} {xT : TI} {tx ty : TypeId} {av : AVal}
theorem storeX_ok {K : Heap → Prop} (hg : guardA ops env g = some (b, b)) (h : storeX P env H T x y F K)
    (hF : F → AOps P C n ops ({ dst := none, op := .store T x y, type := t, pos := p, after := af, guard := g } :: rest) env H Q) (hK : ∀ H', K H' → AOps P C n ops rest env H' Q) :
    AOps P C n ops ({ dst := none, op := .store T x y, type := t, pos := p, after := af, guard := g } :: rest) env H Q := by
  unfold storeX at h
  split at h
  · rename_i xT ht
    split at h
    · rename_i i b o a hx hy
      split at h
      · rename_i b' cs hi
        rcases cellsOf_ok h with h | ⟨hp, h⟩
        · exact hF h
        · split at h
          · rename_i h1 h2 h3
            obtain ⟨rfl, h⟩ := h
            rw [forceL_eq, forceH_eq] at h
            exact ow_store hg hx hy hi ht (Nat.eq_of_beq_eq_true h1) h2 hp h3 (by
              have e := Nat.eq_of_beq_eq_true h1
              exact hK _ h)
          · exact hF h
      · rename_i b' s cap hi
        split at h
        · rename_i m h1
          obtain ⟨⟨rfl, ho, h0, h2⟩, h⟩ := h
          rw [forceH_eq] at h
          have hsz := Nat.eq_of_beq_eq_true h1
          intro R act w hm hf
          obtain ⟨hcap, _⟩ := hm.heap.holds _ (List.mem_of_getElem? hi)
          refine ao_heap (H' := H.set i (.cells b' none (ownB s cap))) (fun R w hm => buf_cells hi hm) ?_ R act w hm hf
          refine ow_store (av := .int .u8 m) hg hx hy (get_set hi) ht hsz.symm (Nat.ble_eq_true_of_le (by rw [ownB_length hcap, hsz]; omega)) rfl rfl ?_
          rw [hsz]
          have e : (ownB s cap).take o ++ AVal.cells (.int .u8 m) ++ (ownB s cap).drop (o + 1) = ownB (s.set o (UInt8.ofNat m.toNat)) cap := ownB_set ho h0 h2
          rw [e, set_set]
          refine ao_heap (H' := H.set i (.buf b' (s.set o (UInt8.ofNat m.toNat)) cap)) (fun R w hm => ?_) (hK _ h)
          have := cells_buf (by simpa using hcap) (get_set hi) hm
          rwa [set_set] at this
        · exact hF h
      · rename_i v' _ sz n0 cs hi
        rcases cellsOf_ok h with h | ⟨hp, h⟩
        · exact hF h
        · split at h
          · rename_i h1 h2
            split at h
            · rename_i hs1
              have e1 := Nat.eq_of_beq_eq_true hs1
              rw [← e1] at h
              obtain ⟨⟨hr, ho, h0⟩, h⟩ := h
              rw [forceH_eq] at h
              exact ow_store_row hg hx hy hi hr h0 ht (Nat.eq_of_beq_eq_true h1) ho hp h2 (hK _ h)
            · obtain ⟨⟨hr, ho, h0⟩, h⟩ := h
              rw [forceH_eq] at h
              exact ow_store_row hg hx hy hi hr h0 ht (Nat.eq_of_beq_eq_true h1) ho hp h2 (hK _ h)
          · exact hF h
      · exact hF h
    · exact hF h
  · exact hF h
theorem ao_dst_row {i sz m : Nat} {v : Value} {cs : List AVal} (hi : H[i]? = some (.row v eT sz m cs)) (h : AOps P C n ops rest ((d, .own i v) :: env) H Q) : AOps P C n ops rest ((d, .raw v) :: env) H Q :=
  fun R a w hm hf => ao_dst_own (row_vAgg hm hi) h R a w hm hf
theorem last_get {z : HEnt} : (H ++ [z])[H.length]? = some z := by simp
theorem appendX_ok {K : AVal → Heap → Prop} (hg : guardA ops env g = some (b, b)) (hdn : Nat.ble (d + 1) n = true) (h : appendX P env H T tx x y F K)
    (hF : F → AOps P C n ops ({ dst := some d, op := .call { callee := .builtin .append, args := [x, y].toArray, argTypes := [T, tx].toArray }, type := t, pos := p, after := af, guard := g } :: rest) env H Q)
    (hK : ∀ av H', K av H' → AOps P C n ops rest ((d, av) :: env) H' Q) :
    AOps P C n ops ({ dst := some d, op := .call { callee := .builtin .append, args := [x, y].toArray, argTypes := [T, tx].toArray }, type := t, pos := p, after := af, guard := g } :: rest) env H Q := by
  unfold appendX at h
  split at h
  · rename_i xT xx ht htx
    split at h
    · rename_i e e' hd hdx
      split at h
      · rename_i xe he
        split at h
        · rename_i z hz h1024 h1
          split at h
          · rename_i sz m f hzl hy
            split at h
            · rename_i hsz
              have hsz := Nat.eq_of_beq_eq_true hsz
              have hzl := Nat.eq_of_beq_eq_true hzl
              subst hsz
              split at h
              · rename_i i v hx
                split at h
                · rename_i v' eT sz' n0 cs hi
                  split at h
                  case h_2 => exact hF h
                  rename_i hty
                  obtain ⟨⟨rfl, rfl, hlen⟩, h⟩ := h
                  have hok : SrcOK xe.size m f ∧ ∀ (va : Option Addr) (vk vc : Nat), RowV (n0 + m) va vk → K (.own i (.slice va vk vc)) (H.set i (.row (.slice va vk vc) eT xe.size (n0 + m) (cs ++ rowCells m f))) := by
                    rcases h with ⟨h1, h2⟩ | ⟨h1, h2⟩
                    · exact ⟨srcChk_ok h1, fun va vk vc hv => by have := h2.h va vk vc hv; simp only [forceH_eq] at this; exact this⟩
                    · exact ⟨h1, fun va vk vc hv => by have := h2.h va vk vc hv; simp only [forceH_eq] at this; exact this⟩
                  exact ow_append hg hdn hx hi hy ht hd he rfl h1 h1024 hz hzl (fun R v hv => src_list hv htx hdx hok.1) hlen (tyOK_ok hty) (fun v' => ao_rowslice (get_set hi) fun ⟨va, vk, vc, e, hv⟩ => by subst e; exact hK _ _ (hok.2 va vk vc hv))
                · exact hF h
              · rename_i hx
                obtain ⟨hlen, h⟩ := h
                have hok : SrcOK xe.size m f ∧ ∀ (va : Option Addr) (vk vc : Nat), RowV m va vk → K (.own H.length (.slice va vk vc)) (H ++ [.row (.slice va vk vc) none xe.size m (rowCells m f)]) := by
                  rcases h with ⟨h1, h2⟩ | ⟨h1, h2⟩
                  · exact ⟨srcChk_ok h1, fun va vk vc hv => by have := h2.h va vk vc hv; simp only [forceH_eq] at this; exact this⟩
                  · exact ⟨h1, fun va vk vc hv => by have := h2.h va vk vc hv; simp only [forceH_eq] at this; exact this⟩
                refine ao_ghost_row (eT := none) xe.size (ao_end ?_)
                refine ao_append (i := H.length) hg hdn hx last_get hy ht hd he rfl h1 h1024 hz hzl (fun R v hv => src_list hv htx hdx hok.1) (by omega) (fun _ h => nomatch h) (fun v' => ?_)
                have e2 : (H ++ [HEnt.row (.slice none 0 0) none xe.size 0 []]).set H.length (.row v' none xe.size (0 + m) ([] ++ (List.range m).flatMap fun i => (f i).cells)) = H ++ [.row v' none xe.size m (rowCells m f)] := by
                  simp [rowCells]
                rw [e2]
                refine ao_rowslice last_get fun ⟨va, vk, vc, e, hv⟩ => ?_
                subst e
                exact ao_dst_row last_get (hK _ _ (hok.2 va vk vc hv))
              · exact hF h
            · exact hF h
          · exact hF h
        · exact hF h
      · exact hF h
    · exact hF h
  · exact hF h
theorem rv_conv_str {S : TypeId} {xS : TI} {s : List UInt8} (hx : evalA env x = some (.str s)) (h1 : tab P S = some xS) (hd1 : xS.desc = .string) (h2 : tab P T = some xT) (hd2 : xT.desc = .string) : RunV P C H env (.convert S T x) (.str s) := by
  intro R ρ w hm hf dst t p af g
  refine ⟨_, ?_, rel_str.2 rfl⟩
  simp only [execOp, rel_str.1 (hf _ _ hx), convert, Sem.run_bind, tab_run_und h1, tab_run_und h2, hd1, hd2, Result.andThen_ok, Sem.run_pure]
theorem ao_invoke {recv : Operand} {name : String} {args : List Operand} {ts : Array TypeId} {f : FuncId} {ty : TypeId} {a r : AVal} {avs : List AVal} {Qf : ARes → Heap → Prop}
    (hg : guardA ops env g = some (b, b)) (hdn : Nat.ble (d + 1) n = true) (hfv : evalA env recv = some (.iface ty a)) (ha : argsA env args = some avs)
    (hmt : ∀ R v, Rel R (unown a) v → ∀ w, ∃ u, (Go.method (P.types.size + Made.depth) ty v name).run P w = .ok (f, u) w ∧ Rel R r u)
    (hs : FnSpec P C.G f (r :: unownL avs) H Qf)
    (hret : ∀ v H', Qf (.ret v) H' → AOps P C n ops rest ((d, v) :: env) H' Q)
    (hpan : ∀ v H', Qf (.panic v) H' → Q (.panic v) env H') :
    AOps P C n ops ({ dst := some d, op := .call { callee := .invoke recv name, args := args.toArray, argTypes := ts }, type := t, pos := p, after := af, guard := g } :: rest) env H Q := by
  intro R act w hm hf
  refine wpList_step fun K hK => ?_
  rw [wanted_of hf hg, if_pos (by simp)]
  obtain ⟨v, e, hv1, hv2⟩ := rel_one (hf.eval hfv) rfl
  simp only [List.cons.injEq, and_true] at e
  obtain ⟨u, hu, hru⟩ := hmt R v (unown_rel a v ⟨hv1, hv2⟩) w
  have hrel : RelV R (r :: unownL avs) (#[u] ++ args.toArray.map act.eval).toList := by
    have := unownL_rel _ _ (argsA_rel (fun x av h => hf.eval h) ha)
    have e9 : (#[u] ++ args.toArray.map act.eval).toList = u :: args.map act.eval := by simp
    rw [e9]
    exact ⟨u, _, rfl, ⟨hru.1, hru.2⟩, this⟩
  have hrun : (execOp act.eval { dst := some d, op := .call { callee := .invoke recv name, args := args.toArray, argTypes := ts }, type := t, pos := p, after := af, guard := g : Oper }).run P w =
      (callFunc f (#[u] ++ args.toArray.map act.eval)).run P w := by
    have e0 : (#[Value.iface ty v] ++ args.toArray.map act.eval)[0]? = some (.iface ty v) := by simp
    have e1 : (#[Value.iface ty v] ++ args.toArray.map act.eval).extract 1 (#[Value.iface ty v] ++ args.toArray.map act.eval).size = args.toArray.map act.eval := by
      apply Array.ext'
      simp [List.extract_eq_take_drop]
      rw [List.take_of_length_le (by simp)]
    simp only [execOp, resolve, e, Sem.run_bind, Sem.run_pure, Result.andThen_ok, invoke, e0, e1, callMethod, run_program, hu]
  have hent : MS ⟨w, R, blks H, C.G, hm.glo, []⟩ R H w := MS.enter (H1 := H) (H2 := []) (by simpa using hm)
  have hms : ∀ {R' H' w'}, MS ⟨w, R, blks H, C.G, hm.glo, []⟩ R' H' w' → MS C R' H' w' := fun h => by
    have := MS.call (H2 := []) (by simpa using hm) h
    simpa using this
  rcases hs R w _ hm.glo hent hrel with ⟨h1, h2⟩ | ⟨x, w', h1, res, H', R', q, er, hm'⟩
  · rw [Oper.wp, hrun, h1, Oper.upon_enter]
    refine h2.mono ?_
    rintro en w' ⟨res, H', R', q, er, hm'⟩
    have hf' := hf.mono hm'.ge
    cases res with
    | ret x =>
      obtain ⟨y, rfl, hr⟩ := er
      exact hK _ _ (hret x H' q R' _ w' (hms hm') (hf'.put hdn hr))
    | panic x =>
      obtain ⟨y, rfl, hr⟩ := er
      exact ⟨.panic x, env, _, R', hpan x H' q, ⟨y, rfl, hr⟩, hms hm', hf'⟩
  · rw [Oper.wp, hrun, h1, Oper.upon_value]
    have hf' := hf.mono hm'.ge
    cases res with
    | ret v' =>
      obtain ⟨y, e, hr⟩ := er
      simp only [Ending.returned.injEq] at e
      subst e
      exact hK _ _ (hret v' H' q R' _ w' (hms hm') (hf'.put hdn hr))
    | panic v' => obtain ⟨y, e, _⟩ := er; cases e
theorem memX_ok (hC : C.G = G) (hGL : GloAll G GL) {op : Op} {Kp K : AVal → Heap → Prop} (hg : guardA ops env g = some (b, b)) (hdn : Nat.ble (d + 1) n = true) (h : memX P G GL env H op F Kp K)
    (hF : F → AOps P C n ops ({ dst := some d, op := op, type := t, pos := p, after := af, guard := g } :: rest) env H Q)
    (hp : ∀ v H', Kp v H' → Q (.panic v) env H') (hK : ∀ av H', K av H' → AOps P C n ops rest ((d, av) :: env) H' Q) :
    AOps P C n ops ({ dst := some d, op := op, type := t, pos := p, after := af, guard := g } :: rest) env H Q := by
  subst hC
  unfold memX at h
  split at h
  · rename_i T
    split at h
    · rename_i xT ht
      split at h
      · rename_i cs hc
        refine ao_alloc hg hdn ht hc (fun bl => ao_end (ao_dst_own (i := H.length) rfl (hK _ _ ?_)))
        have := h.h bl
        simp only [forceL_eq, forceH_eq] at this
        exact this
      · exact hF h
    · exact hF h
  · rename_i T x
    split at h
    · rename_i a hx
      rcases cellsOf_ok h with h | ⟨hpl, h | h⟩
      · exact hF h
      · exact ao_box_sealed hg hdn hx hpl (hK _ _ h)
      · refine ao_box hg hdn hx hpl (fun bl => ao_end (ao_dst_own (i := H.length) rfl (hK _ _ ?_)))
        have := h.h bl
        simp only [forceH_eq] at this
        exact this
    · exact hF h
  · rename_i args ts
    split at h
    · rename_i x y T tx h1 h2
      rw [call_args h1, call_args h2] at hF ⊢
      exact appendX_ok hg hdn h hF hK
    · exact hF h
  · rename_i recv name args ts
    split at h
    · rename_i ty a avs h1 h2
      obtain ⟨f, r, hmt, hs⟩ := h
      obtain ⟨Qf, hs, hr, hpn⟩ := hs
      have e := call_args (a := args) rfl
      rw [e]
      exact ao_invoke hg hdn h1 h2 hmt hs (fun v H' q => hK _ _ (hr v H' q)) (fun v H' q => hp _ _ (hpn v H' q))
    · exact hF h
  · rename_i fv args ts
    unfold callX at h
    split at h
    · rename_i f l1 l2 avs h1 h2
      rw [forceL_eq] at h
      obtain ⟨Qf, hs, hr, hpn⟩ := h
      have e := call_args (a := args) rfl
      rw [e]
      refine ao_call (H1 := H) (H2 := []) (Qf := Qf) hg hdn h1 h2 ?_ (by simp) (fun v H' q => by simpa using hK _ _ (hr v H' q)) (fun v H' q => by simpa using hp _ _ (hpn v H' q))
      intro R w args' hG hm ha
      exact hs R w args' hG hm (unownL_rel _ _ ha)
    · exact hF h
  · rename_i S T x
    split at h
    · rename_i s hx
      unfold bytesX at h
      split at h
      · rename_i xS xT hS hT
        split at h
        · rename_i e hd1 hd2
          split at h
          · rename_i xe he
            split at h
            · rename_i hu
              refine ao_buf hg hdn hx hS hd1 hT hd2 he hu (fun bl cap hcap => ?_)
              have h := h.h bl cap hcap
              simp only [forceH_eq] at h
              refine ao_end (ao_dst_own (i := H.length) rfl ?_)
              refine ao_heap (H' := H ++ [.buf bl s cap]) (fun R w hm => ?_) (hK _ _ h)
              have := cells_buf hcap last_get hm
              simpa using this
            · exact hF h
          · exact hF h
        · rename_i hd1 hd2
          exact ao_of_run hg hdn (rv_conv_str hx hS hd1 hT hd2) (hK _ _ h)
        · exact hF h
      · exact hF h
    · exact ao_of_x hg hdn (valX_ok hGL h) hF (fun av h => hK av H h)
  · rename_i T m l
    unfold buildSX at h
    split at h
    · rename_i xT ps ht hl
      split at h
      · rename_i e hd
        split at h
        · rename_i xe he
          split at h
          · rename_i z hz
            split at h
            · rename_i h5 h6 h7 h8 h9
              have e2 := call_args (a := l) rfl
              rw [e2]
              rcases h with h | h
              · exact ao_buildSlice_sealed hg hdn hl ht hd he hz h5 h6 h7 h8 h9 (hK _ _ h)
              · refine ao_buildSlice_row hg hdn hl ht hd he hz h5 h6 h7 h8 h9 (fun v => ao_end (ao_rowslice last_get fun ⟨va, vk, vc, e, hv⟩ => ?_))
                subst e
                refine ao_dst_row (i := H.length) last_get (hK _ _ ?_)
                have := h.h va vk vc hv
                simp only [forceL_eq, forceH_eq] at this
                exact this
            · exact hF h
          · exact hF h
        · exact hF h
      · exact hF h
    · exact hF h
  · rename_i T x
    split at h
    · rename_i xT s ht hx
      split at h
      · rename_i hd
        refine ao_range_str hg hdn hx ht hd (fun bl => ao_end (ao_dst_own (i := H.length) rfl (hK _ _ ?_)))
        have := h.h bl
        simp only [forceH_eq] at this
        exact this
      · exact hF h
    · exact hF h
  · rename_i x
    split at h
    · rename_i i b hx
      split at h
      · rename_i b' s pos hi
        obtain ⟨rfl, h1, h2⟩ := h
        refine ow_next2 hg hdn hx hi (fun hlt => hK _ _ ?_) (fun hlt => hK _ _ (h2 hlt))
        have := h1 hlt
        rwa [forceH_eq] at this
      · exact hF h
    · exact hF h
  · rename_i T
    refine ao_mapnew hg hdn (fun bl => ao_end (ao_dst_own (i := H.length) rfl (hK _ _ ?_)))
    have := h.h bl
    simp only [forceH_eq] at this
    exact this
  · rename_i T x y ok
    split at h
    · rename_i xT i b k ht hx hy
      split at h
      · rename_i kt et b' es hd hi
        split at h
        · rename_i xk xe hk he
          split at h
          · rename_i z hkk hz
            obtain ⟨rfl, h⟩ := h
            rcases lookX_ok h with h | ⟨j, a, hj, h⟩ | ⟨hj, h⟩
            · exact hF h
            · refine ao_of_run hg hdn (rv_look_hit ok hx hy hi ht hd hk hkk hj) (hK _ _ ?_)
              cases ok <;> exact h
            · refine ao_of_run hg hdn (rv_look_miss ok hx hy hi ht hd hk hkk hj he hz) (hK _ _ ?_)
              cases ok <;> exact h
          · exact hF h
        · exact hF h
      · exact hF h
    · exact hF h
  · exact ao_of_x hg hdn (valX_ok hGL h) hF (fun av h => hK av H h)
theorem mapSetX_ok {op : Op} {z : Operand} (hop : op = .mapUpdate T x y z ∨ op = .insert T x y z) {K : Heap → Prop} (hg : guardA ops env g = some (b, b)) (h : mapSetX P env H T x y z F K)
    (hF : F → AOps P C n ops ({ dst := none, op := op, type := t, pos := p, after := af, guard := g } :: rest) env H Q) (hK : ∀ H', K H' → AOps P C n ops rest env H' Q) :
    AOps P C n ops ({ dst := none, op := op, type := t, pos := p, after := af, guard := g } :: rest) env H Q := by
  unfold mapSetX at h
  split at h
  · rename_i xT i b k a ht hx hy hz
    split at h
    · rename_i kt et b' es hd hi
      split at h
      · rename_i xk hk
        split at h
        · rename_i hkk
          obtain ⟨rfl, h⟩ := h
          rcases lookX_ok h with h | ⟨j, a', hj, h⟩ | ⟨hj, h⟩
          · exact hF h
          · rw [forceH_eq] at h
            exact ao_mapset hop hg hx hy hz hi ht hd hk hkk (.inl ⟨j, a', hj, hK _ h⟩)
          · rw [forceH_eq] at h
            exact ao_mapset hop hg hx hy hz hi ht hd hk hkk (.inr ⟨hj, hK _ h⟩)
        · exact hF h
      · exact hF h
    · exact hF h
  · exact hF h
theorem ao_skip_undef_none {o : Oper} {e : Nat} (hs : guardSlot ops o.guard = some e) (hv : Env.get env e = some (.raw undef)) (hd : o.dst = none)
    (h : AOps P C n ops rest env H Q) : AOps P C n ops (o :: rest) env H Q := by
  intro R a w hm hf
  refine wpList_step fun K hK => ?_
  have hw : Region.wanted o (yielded ops a.tmps) = false := by
    unfold guardSlot at hs
    unfold Region.wanted
    split at hs
    · rename_i j want h
      rw [h]
      split at hs
      · rename_i o' ho
        obtain ⟨x, hx, hr⟩ := hf.fr e _ hv
        rw [rel_raw.1 hr] at hx
        simp [yielded, ho, hs, hx, undef]
      · cases hs
    · cases hs
  rw [hw, if_neg (by simp), hd]
  exact hK _ _ (h R _ w hm hf)
theorem opsX_ok (hC : C.G = G) (hGL : GloAll G GL) : ∀ (l : List Oper) (env : Env) (H : Heap), opsX P C n G GL ops Q l env H → AOps P C n ops l env H Q
  | [], env, H, h => ao_nil h
  | o :: rest, env, H, h => by
    have ih := opsX_ok hC hGL rest
    replace h : stepX P C n G GL ops o rest Q (opsX P C n G GL ops Q rest) env H := h
    generalize opsX P C n G GL ops Q rest = K at h ih
    have run : ∀ env' b, guardA ops env' o.guard = some (b, b) → (match o.op with
      | .panic x => match evalA env' x with
        | some (.iface ty v) => Q (.panic (.iface ty v)) env' H
        | _ => Op1 P C n ops (o :: rest) env' H Q
      | op => match o.dst with
        | some d => match Nat.ble (d + 1) n with
          | true => memX P G GL env' H op (Op1 P C n ops (o :: rest) env' H Q) (fun v H' => Q (.panic v) env' H') (fun av H' => K ((d, av) :: env') H')
          | false => Op1 P C n ops (o :: rest) env' H Q
        | none => match op with
          | .store T x y => storeX P env' H T x y (Op1 P C n ops (o :: rest) env' H Q) (fun H' => K env' H')
          | .mapUpdate T x y z => mapSetX P env' H T x y z (Op1 P C n ops (o :: rest) env' H Q) (fun H' => K env' H')
          | .insert T x y z => mapSetX P env' H T x y z (Op1 P C n ops (o :: rest) env' H Q) (fun H' => K env' H')
          | _ => Op1 P C n ops (o :: rest) env' H Q) → AOps P C n ops (o :: rest) env' H Q := by
      intro env' b hg h
      obtain ⟨dst, op, type, pos, after, guard⟩ := o
      dsimp only at h hg ⊢
      split at h
      · rename_i x
        split at h
        · rename_i ty v hx
          exact ao_panic hg hx h
        · exact h.h
      · split at h
        · rename_i d
          split at h
          · rename_i hdn
            exact memX_ok hC hGL hg hdn h (fun h => h.h) (fun v H' h => h) (fun av H' h => ih _ _ h)
          · exact h.h
        · split at h
          · exact storeX_ok hg h (fun h => h.h) (fun H' h => ih _ _ h)
          · exact mapSetX_ok (.inl rfl) hg h (fun h => h.h) (fun H' h => ih _ _ h)
          · exact mapSetX_ok (.inr rfl) hg h (fun h => h.h) (fun H' h => ih _ _ h)
          · exact h.h
    have skip : ∀ env', (∀ d, o.dst = some d → Nat.ble (d + 1) n = true → AOps P C n ops rest ((d, .raw undef) :: env') H Q → AOps P C n ops (o :: rest) env' H Q) →
        (o.dst = none → AOps P C n ops rest env' H Q → AOps P C n ops (o :: rest) env' H Q) → (match o.dst with
      | some d => match Nat.ble (d + 1) n with
        | true => K ((d, .raw undef) :: env') H
        | false => Op1 P C n ops (o :: rest) env' H Q
      | none => K env' H) → AOps P C n ops (o :: rest) env' H Q := by
      intro env' h1 h2 h
      split at h
      · rename_i d hd
        split at h
        · rename_i hdn; exact h1 d hd hdn (ih _ _ h)
        · exact h.h
      · rename_i hd; exact h2 hd (ih _ _ h)
    simp only [stepX, guardX] at h
    split at h
    · rename_i hgn
      exact run env true (by rw [hgn]; rfl) h
    · rename_i j want hgn
      split at h
      · rename_i o' ho
        split at h
        · rename_i e he
          split at h
          · rename_i b hb
            have hgA : guardA ops env o.guard = some (b, want) := by rw [hgn]; simp only [guardA, ho, he, hb]
            have hgS : guardSlot ops o.guard = some e := by rw [hgn]; simp only [guardSlot, ho, he]
            have hgT : ∀ v, guardA ops ((e, .bool v) :: env) o.guard = some (v, want) := fun v => by rw [hgn]; exact guard_const ho he
            split at h
            · refine ao_split hgA hgS hb (fun hv => ?_) (fun hv => ?_)
              · exact run _ true (hgT true) (h.1 hv)
              · exact skip _ (fun d hd hdn k => ao_skip' (hgT false) hd hdn k) (fun hd k => ao_skip_none (hgT false) rfl hd k) (h.2 hv)
            · refine ao_split hgA hgS hb (fun hv => ?_) (fun hv => ?_)
              · exact skip _ (fun d hd hdn k => ao_skip (hgT true) hd hdn k) (fun hd k => ao_skip_none (hgT true) rfl hd k) (h.1 hv)
              · exact run _ false (hgT false) (h.2 hv)
          · rename_i v hv
            have hgS : guardSlot ops o.guard = some e := by rw [hgn]; simp only [guardSlot, ho, he]
            obtain ⟨rfl, h⟩ := h
            exact skip _ (fun d hd hdn k => ao_skip_undef hgS hv hd hdn k) (fun hd k => ao_skip_undef_none hgS hv hd k) h
          · exact h.h
        · exact h.h
      · exact h.h
theorem blockX_ok {id : Nat} {x : AExit} {e : Env} {h : Heap} (q : blockX id Q x e h) : blockQ id Q x e h := by
  cases x with
  | exit i =>
    simp only [blockX] at q
    simp only [blockQ]
    split at q
    · rename_i hb
      exact ⟨fun _ => q, fun hne => absurd (Nat.eq_of_beq_eq_true hb) hne⟩
    · rename_i hb
      exact ⟨fun he => (by subst he; rw [Nat.beq_refl] at hb; cases hb), fun _ => q⟩
  | normal => exact q
  | goto i => exact q
  | ret => exact q
  | panic v => exact q
theorem codeX_ok (hC : C.G = G) (hGL : GloAll G GL) : ∀ (c : Code) (env : Env) (H : Heap) (Q : AExit → Env → Heap → Prop), codeX P C n G GL c env H Q → AWp P C n c env H Q
  | .skip, _, _, _, h => aw_skip h
  | .region id ops dr, env, H, Q, h => by
    cases dr with
    | false =>
      replace h : opsX P C n G GL ops Q ops.toList env H := h
      have e := call_args (a := ops) rfl
      have := aw_region (id := id) (l := ops.toList) (by rw [← e]; exact opsX_ok hC hGL _ _ _ h)
      rwa [← e] at this
    | true => exact Dw.h h
  | .seq a b, env, H, Q, h => by
    replace h : codeX P C n G GL a env H (thenQ (fun e h => codeX P C n G GL b e h Q) Q) := h
    refine aw_seq ((codeX_ok hC hGL a env H _ h).mono ?_)
    intro x e h' q
    cases x with
    | normal => exact codeX_ok hC hGL b e h' Q q
    | exit i => exact q
    | goto i => exact q
    | ret => exact q
    | panic v => exact q
  | .cond c x y, env, H, Q, h => by
    replace h : (match evalA env c with
      | some (.bool b) => Sc b (codeX P C n G GL x env H Q) (codeX P C n G GL y env H Q)
      | _ => Cd P C n (.cond c x y) env H Q) := h
    split at h
    · rename_i b hb
      exact aw_cond hb (fun e => codeX_ok hC hGL x env H Q (h.1 e)) (fun e => codeX_ok hC hGL y env H Q (h.2 e))
    · exact h.h
  | .block id c, env, H, Q, h => aw_block ((codeX_ok hC hGL c env H _ h).mono fun _ _ _ q => blockX_ok q)
  | .exit id, _, _, _, h => aw_exit h
  | .ret, _, _, _, h => aw_ret h
  | .loop c, _, _, _, h => Lp.h h
  | .rangeFunc .., _, _, _, h => Cd.h h
  | .scope _, _, _, _, h => Cd.h h
  | .label _, _, _, _, h => Cd.h h
  | .goto _, _, _, _, h => Cd.h h
  | .refuse _, _, _, _, h => Cd.h h
/-! ## Loops -/
structure Nxt {X : Type} (I : X → Env) (J : X → Heap) (Inv : X → Prop) (μ : X → Nat) (x : X) (e : Env) (h : Heap) : Prop where
  h : ∃ x', Inv x' ∧ μ x' < μ x ∧ Env.sub e (I x') ∧ (J x').Sublist h
theorem nxt {X : Type} {I : X → Env} {J : X → Heap} {Inv : X → Prop} {μ : X → Nat} {x : X} {e : Env} {h : Heap} (x' : X) (h1 : Inv x') (h2 : μ x' < μ x) (h3 : Env.sub e (I x')) (h4 : h = J x') : Nxt I J Inv μ x e h := ⟨⟨x', h1, h2, h3, h4 ▸ List.Sublist.refl _⟩⟩
/-- .. what else is owned is let go. -/
theorem nxs {X : Type} {I : X → Env} {J : X → Heap} {Inv : X → Prop} {μ : X → Nat} {x : X} {e : Env} {h : Heap} (x' : X) (h1 : Inv x') (h2 : μ x' < μ x) (h3 : Env.sub e (I x')) (h4 : (J x').Sublist h) : Nxt I J Inv μ x e h := ⟨⟨x', h1, h2, h3, h4⟩⟩
/-- A loop whose rounds may let go of what they own. -/
theorem aw_loopS {c : Code} {X : Type} (I : X → Env) (J : X → Heap) (Inv : X → Prop) (μ : X → Nat) (x0 : X) (h0 : Inv x0) (hs : Env.sub env (I x0)) (hH : (J x0).Sublist H)
    (round : ∀ x, Inv x → AWp P C n c (I x) (J x) (thenQ (fun e h => ∃ x', Inv x' ∧ μ x' < μ x ∧ Env.sub e (I x') ∧ (J x').Sublist h) Q)) :
    AWp P C n (.loop c) env H Q := by
  intro R a w hm hf
  refine wp_loop_ghost (fun m a w => ∃ x R, Inv x ∧ μ x = m ∧ MS C R (J x) w ∧ FSa C.D n R (I x) a) (μ x0) ⟨x0, R, h0, rfl, hm.drop hH, hf.sub hs⟩ ?_
  rintro m a w ⟨x, R, hx, rfl, hm, hf⟩
  refine wp_mono (round x hx R a w hm hf) ?_
  rintro e a' w' ⟨x', en, H', R', q, er, hm', hf'⟩
  cases x' with
  | normal =>
    simp only [ExitRel] at er; subst er
    obtain ⟨x', hx', hlt, hs', hsub⟩ := q
    exact ⟨μ x', hlt, x', R', hx', rfl, hm'.drop hsub, hf'.sub hs'⟩
  | exit i => simp only [ExitRel] at er; subst er; exact ⟨.exit i, en, H', R', q, rfl, hm', hf'⟩
  | goto i => simp only [ExitRel] at er; subst er; exact ⟨.goto i, en, H', R', q, rfl, hm', hf'⟩
  | ret => simp only [ExitRel] at er; subst er; exact ⟨.ret, en, H', R', q, rfl, hm', hf'⟩
  | panic v => obtain ⟨y, rfl, hr⟩ := er; exact ⟨.panic v, en, H', R', q, ⟨y, rfl, hr⟩, hm', hf'⟩
theorem lp {c : Code} {X : Type} (hC : C.G = G) (hGL : GloAll G GL) (I : X → Env) (J : X → Heap) (Inv : X → Prop) (μ : X → Nat) (x0 : X) (h0 : Inv x0) (hs : Env.sub env (I x0)) (hH : H = J x0)
    (round : ∀ x, Inv x → codeX P C n G GL c (I x) (J x) (thenQ (fun e h => Nxt I J Inv μ x e h) Q)) : Lp P C n c env H Q :=
  ⟨aw_loopS I J Inv μ x0 h0 hs (hH ▸ List.Sublist.refl _) fun x hx => (codeX_ok hC hGL _ _ _ _ (round x hx)).mono fun ex e h q => by
    cases ex with
    | normal => exact Nxt.h q
    | exit i => exact q
    | goto i => exact q
    | ret => exact q
    | panic v => exact q⟩
/-- So many rounds at most. -/
def Rds (P : Program) [Tab P] (C : Ctx) (n : Nat) (G : Glo) (GL : List (Nat × List AVal)) (c : Code) (Q : AExit → Env → Heap → Prop) : Nat → Env → Heap → Prop
  | 0, _, _ => False
  | k + 1, e, h => codeX P C n G GL c e h (thenQ (Rds P C n G GL c Q k) Q)
theorem rds {c : Code} (hC : C.G = G) (hGL : GloAll G GL) (k : Nat) (h : Rds P C n G GL c Q k env H) : Lp P C n c env H Q := by
  refine ⟨aw_rounds k ?_⟩
  induction k generalizing env H with
  | zero => exact h
  | succ k ih =>
    refine ar_succ ((codeX_ok hC hGL _ _ _ _ h).mono ?_)
    intro x e h' q
    cases x with
    | normal => exact ih q
    | exit i => exact q
    | goto i => exact q
    | ret => exact q
    | panic v => exact q
/-! ## A function's end -/
inductive Rt (Qf : ARes → Heap → Prop) (v : AVal) (H : Heap) : Prop
  | mk (H' : Heap) (hs : H'.Sublist H) (hq : Qf (.ret v) H')
inductive Pn (Qf : ARes → Heap → Prop) (v : AVal) (H : Heap) : Prop
  | mk (H' : Heap) (hs : H'.Sublist H) (hq : Qf (.panic v) H')
def resX (P : Program) [Tab P] (env : Env) (H : Heap) : List ResultVar → (List AVal → Prop) → Prop
  | [], k => k []
  | .tmp t :: rs, k => match Env.get env t with
    | some v => resX P env H rs fun vs => k (v :: vs)
    | none => False
  | .cell a ty :: rs, k => match Env.get env a, tab P ty with
    | some (.own i (.pointer (some ⟨b, 0, none⟩))), some x => match H[i]? with
      | some (.cells b' eT cs) => match Nat.beq x.size cs.length, descAgg x.desc with
        | true, true => Sp (b' = b) (resX P env H rs fun vs => k (.agg cs :: vs))
        | true, false => match cs with
          | [v] => match v.isAgg with
            | false => Sp (b' = b) (resX P env H rs fun vs => k (v :: vs))
            | true => False
          | _ => False
        | false, _ => False
      | _ => False
    | _, _ => False
theorem resX_ok : ∀ (rs : List ResultVar) (k : List AVal → Prop), resX P env H rs k → ∃ vs, resAll P env H rs vs ∧ k vs
  | [], k, h => ⟨[], rfl, h⟩
  | .tmp t :: rs, k, h => by
    simp only [resX] at h
    split at h
    · rename_i v hv
      obtain ⟨vs, h1, h2⟩ := resX_ok rs _ h
      exact ⟨v :: vs, ⟨v, vs, rfl, hv, h1⟩, h2⟩
    · exact h.elim
  | .cell a ty :: rs, k, h => by
    simp only [resX] at h
    split at h
    · rename_i i b x ha hx
      split at h
      · rename_i b' eT cs hi
        split at h
        · rename_i h1 h2
          obtain ⟨rfl, h⟩ := h
          obtain ⟨vs, h3, h4⟩ := resX_ok rs _ h
          exact ⟨_, ⟨_, vs, rfl, ⟨b', i, eT, cs, x, .inr ⟨i, ha⟩, hi, hx, Nat.eq_of_beq_eq_true h1, .inl ⟨h2, rfl⟩⟩, h3⟩, h4⟩
        · rename_i h1 h2
          split at h
          · rename_i v
            split at h
            · rename_i hv
              obtain ⟨rfl, h⟩ := h
              obtain ⟨vs, h3, h4⟩ := resX_ok rs _ h
              exact ⟨_, ⟨_, vs, rfl, ⟨b', i, eT, _, x, .inr ⟨i, ha⟩, hi, hx, Nat.eq_of_beq_eq_true h1, .inr ⟨h2, rfl, hv⟩⟩, h3⟩, h4⟩
            · exact h.elim
          · exact h.elim
        · exact h.elim
      · exact h.elim
    · exact h.elim
def RetX (P : Program) [Tab P] (rs : List ResultVar) (Qf : ARes → Heap → Prop) : AExit → Env → Heap → Prop
  | .ret, env, H | .normal, env, H => resX P env H rs fun vs => match vs with
    | [v] => Rt Qf v H
    | vs => Rt Qf (.tuple vs) H
  | .panic v, _, H => Pn Qf v H
  | _, _, _ => False
theorem RetX_ok {rs : List ResultVar} {Qf : ARes → Heap → Prop} {x : AExit} {e : Env} {h : Heap} (q : RetX P rs Qf x e h) : RetQ P rs Qf x e h := by
  cases x with
  | ret =>
    obtain ⟨vs, h1, h2⟩ := resX_ok rs _ q
    have : Rt Qf (resVal vs) h := by
      match vs with
      | [v] => exact h2
      | [] => exact h2
      | _ :: _ :: _ => exact h2
    obtain ⟨H', h3, h4⟩ := this
    exact ⟨vs, H', h1, h3, h4⟩
  | normal =>
    obtain ⟨vs, h1, h2⟩ := resX_ok rs _ q
    have : Rt Qf (resVal vs) h := by
      match vs with
      | [v] => exact h2
      | [] => exact h2
      | _ :: _ :: _ => exact h2
    obtain ⟨H', h3, h4⟩ := this
    exact ⟨vs, H', h1, h3, h4⟩
  | panic v => obtain ⟨H', h2, h3⟩ := q; exact ⟨H', h2, h3⟩
  | exit i => exact q
  | goto i => exact q
/-- FROM THE WALK TO THE CONTRACT. -/
theorem fn_x {f : FuncId} {fn : Func} {c : Code} {avs : List AVal} {Qf : ARes → Heap → Prop} {rs : List ResultVar} (hf : P.funcs[f]? = some fn)
    (hc : ∀ args w, (callFunc f args).run P w = .ok (.enter f args) w) (hb : fn.body = some c) (hn : fn.ntmps = n) (hrs : fn.results = rs.toArray) (hlen : Nat.ble avs.length n = true) (hGL : GloAll G GL)
    (h : ∀ C : Ctx, C.G = G → codeX P C n G GL c (argEnv 0 avs) H (RetX P rs Qf)) : FnSpec P G f avs H Qf :=
  fn_spec hf hb hc hn hrs hlen fun w0 R0 hG => (codeX_ok rfl hGL _ _ _ _ (h ⟨w0, R0, blks H, G, hG, []⟩ rfl)).mono fun _ _ _ q => RetX_ok q
/-- A slot's own pointer. -/
theorem own_slot {c : Code} {k : Nat} (i : Nat) {v : Value} (hC : C.G = G) (hGL : GloAll G GL) (hv : vAgg v = false) (hk : Env.get env k = some (.raw v)) (h : codeX P C n G GL c ((k, .own i v) :: env) H Q) : AWp P C n c env H Q :=
  aw_env (fun _ _ hf => fs_own hv hk hf) (codeX_ok hC hGL _ _ _ _ h)
theorem rt_is {v v' : AVal} (h : v' = v) : Rt (fun x H => x = .ret v ∧ H = []) v' H := ⟨[], List.nil_sublist _, by rw [h], rfl⟩
theorem rt_do {v v' : AVal} {H0 H' : Heap} (h : v' = v) (hs : H0.Sublist H') : Rt (fun x H => x = .ret v ∧ H = H0) v' H' := ⟨H0, hs, by rw [h], rfl⟩
theorem pn_do {v v' : AVal} {H0 H' : Heap} (h : v' = v) (hs : H0.Sublist H') : Pn (fun x H => x = .panic v ∧ H = H0) v' H' := ⟨H0, hs, by rw [h], rfl⟩
theorem pn_is {v v' : AVal} (h : v' = v) : Pn (fun x H => x = .panic v ∧ H = []) v' H := ⟨[], List.nil_sublist _, by rw [h], rfl⟩
/-! ## Calls -/
theorem fn_frame {f : FuncId} {avs : List AVal} {H1 : Heap} (H2 : Heap) {Qf : ARes → Heap → Prop} (h : FnSpec P G f avs H1 Qf) : FnSpec P G f avs (H1 ++ H2) (fun r H' => ∃ H1', Qf r H1' ∧ H' = H1' ++ H2) := by
  intro R w args hG hm ha
  rcases h R w args hG hm.enter ha with ⟨h1, h2⟩ | ⟨v, w', h1, res, H', R', q, er, hm'⟩
  · exact .inl ⟨h1, h2.mono fun e w' ⟨res, H', R', q, er, hm'⟩ => ⟨res, H' ++ H2, R', ⟨H', q, rfl⟩, er, MS.call hm hm'⟩⟩
  · exact .inr ⟨v, w', h1, res, H' ++ H2, R', ⟨H', q, rfl⟩, er, MS.call hm hm'⟩
theorem MS.blks_iff {w0 w : World} {R0 R : Seal} {B B' : List Nat} {hG : G.p R0} (hb : ∀ k, k ∈ B ↔ k ∈ B') (h : MS ⟨w0, R0, B, G, hG, []⟩ R H w) : MS ⟨w0, R0, B', G, hG, []⟩ R H w :=
  ⟨h.sealed, h.ge, fun k hk => by rcases h.fresh k hk with h1 | h1 | h1; exact .inl h1; exact .inr (.inl h1); exact .inr (.inr ((hb k).1 h1)), h.heap,
    fun z hz k hk => by rcases h.own z hz k hk with h1 | h1; exact .inl h1; exact .inr ((hb k).1 h1), ⟨h.ext.os, h.ext.tape, h.ext.output, h.ext.size, fun k hk hn => h.ext.block k hk (fun hm => hn ((hb k).1 hm))⟩⟩
theorem fn_perm {f : FuncId} {avs : List AVal} {H1 H2 : Heap} {Qf : ARes → Heap → Prop} (hp : H1.Perm H2) (h : FnSpec P G f avs H1 Qf) : FnSpec P G f avs H2 Qf := by
  have hb : ∀ k, k ∈ blks H2 ↔ k ∈ blks H1 := fun k => by
    have := (hp.filterMap HEnt.blk).mem_iff (a := k)
    exact this.symm
  intro R w args hG hm ha
  rcases h R w args hG ((hm.perm hp.symm).blks_iff hb) ha with ⟨h1, h2⟩ | ⟨v, w', h1, res, H', R', q, er, hm'⟩
  · exact .inl ⟨h1, h2.mono fun e w' ⟨res, H', R', q, er, hm'⟩ => ⟨res, H', R', q, er, hm'.blks_iff fun k => (hb k).symm⟩⟩
  · exact .inr ⟨v, w', h1, res, H', R', q, er, hm'.blks_iff fun k => (hb k).symm⟩
theorem fn_heap {f : FuncId} {avs : List AVal} {Qf Qf' : ARes → Heap → Prop} (h : FnSpec P G f avs H Qf) (hq : ∀ r H', Qf r H' → ∃ H'', H'.Perm H'' ∧ Qf' r H'') : FnSpec P G f avs H Qf' := by
  intro R w args hG hm ha
  rcases h R w args hG hm ha with ⟨h1, h2⟩ | ⟨v, w', h1, res, H', R', q, er, hm'⟩
  · exact .inl ⟨h1, h2.mono fun e w' ⟨res, H', R', q, er, hm'⟩ => let ⟨H'', hp, q'⟩ := hq _ _ q; ⟨res, H'', R', q', er, hm'.perm hp⟩⟩
  · obtain ⟨H'', hp, q'⟩ := hq _ _ q
    exact .inr ⟨v, w', h1, res, H'', R', q', er, hm'.perm hp⟩
variable {f : FuncId} {avs : List AVal} {K Kp : AVal → Heap → Prop}
theorem iv {ty : TypeId} {a : AVal} {name : String} (f : FuncId) (r : AVal) (hm : ∀ R v, Rel R a v → ∀ w, ∃ u, (Go.method (P.types.size + Made.depth) ty v name).run P w = .ok (f, u) w ∧ Rel R r u) (k : Cx P G f (r :: avs) H K Kp) :
    Iv P G ty a name avs H K Kp := .mk f r hm k
theorem cx_is {v : AVal} (hs : FnIs P G f avs v) (k : K v H) : Cx P G f avs H K Kp := by
  refine ⟨_, fn_frame H hs, ?_, ?_⟩
  · rintro v' H' ⟨H1', ⟨e, rfl⟩, rfl⟩; cases e; exact k
  · rintro v' H' ⟨H1', ⟨e, rfl⟩, rfl⟩; cases e
theorem cx_panic {v : AVal} (hs : FnSpec P G f avs [] (fun r H => r = .panic v ∧ H = [])) (k : Kp v H) : Cx P G f avs H K Kp := by
  refine ⟨_, fn_frame H hs, ?_, ?_⟩
  · rintro v' H' ⟨H1', ⟨e, rfl⟩, rfl⟩; cases e
  · rintro v' H' ⟨H1', ⟨e, rfl⟩, rfl⟩; cases e; exact k
theorem set_perm {i : Nat} {x : HEnt} (y : HEnt) (hi : H[i]? = some x) : ([y] ++ H.eraseIdx i).Perm (H.set i y) := by
  have := perm_front (get_set (y := y) hi)
  have e : (H.set i y).eraseIdx i = H.eraseIdx i := List.eraseIdx_set_eq
  rw [e] at this
  exact this.symm
theorem cx_do {i : Nat} {x y : HEnt} {v : AVal} (hi : H[i]? = some x) (hs : FnSpec P G f avs [x] (fun r H => r = .ret v ∧ H = [y])) (k : forceH (H.set i y) (K v)) : Cx P G f avs H K Kp := by
  rw [forceH_eq] at k
  have hp := perm_front hi
  refine ⟨fun r H' => r = .ret v ∧ H' = H.set i y, fn_heap (fn_perm (H1 := [x] ++ H.eraseIdx i) (by simpa using hp.symm) (fn_frame (H.eraseIdx i) hs)) ?_, ?_, ?_⟩
  · rintro r H' ⟨H1', ⟨rfl, rfl⟩, rfl⟩
    exact ⟨_, set_perm y hi, rfl, rfl⟩
  · rintro v' H' ⟨e, rfl⟩; cases e; exact k
  · rintro v' H' ⟨e, rfl⟩; cases e
/-- .. and may panic. -/
theorem cx_dop {i : Nat} {x y : HEnt} {v : AVal} (hi : H[i]? = some x) (hs : FnSpec P G f avs [x] (fun r H => r = .panic v ∧ H = [y])) (k : forceH (H.set i y) (Kp v)) : Cx P G f avs H K Kp := by
  rw [forceH_eq] at k
  have hp := perm_front hi
  refine ⟨fun r H' => r = .panic v ∧ H' = H.set i y, fn_heap (fn_perm (H1 := [x] ++ H.eraseIdx i) (by simpa using hp.symm) (fn_frame (H.eraseIdx i) hs)) ?_, ?_, ?_⟩
  · rintro r H' ⟨H1', ⟨rfl, rfl⟩, rfl⟩
    exact ⟨_, set_perm y hi, rfl, rfl⟩
  · rintro v' H' ⟨e, rfl⟩; cases e
  · rintro v' H' ⟨e, rfl⟩; cases e; exact k
end
/-! ## Words that close what is plain -/
theorem Sp.w {p k : Prop} (hk : k) (hp : p := by first | exact rfl | omega | exact ⟨rfl, rfl, by omega⟩ | exact ⟨rfl, by omega⟩ | exact ⟨rfl, by omega, by omega, by omega⟩ | exact ⟨rfl, by simp, by omega, by omega⟩ | exact ⟨⟨_, rfl⟩, by omega⟩ | exact ⟨⟨_, rfl⟩, by omega, by omega⟩ | assumption | decide | (simp only [List.length_drop, List.length_take, List.length_append, List.length_set, List.length_cons, List.length_nil, OrOk] at *; omega) | (simp; omega)) : Sp p k := ⟨hp, hk⟩
theorem Ch.w {p k b : Prop} (hk : k) (hp : p := by first | exact rfl | omega | exact ⟨rfl, rfl, by omega⟩ | exact ⟨rfl, by omega⟩ | exact ⟨rfl, by omega, by omega, by omega⟩ | exact ⟨rfl, by simp, by omega, by omega⟩ | exact ⟨⟨_, rfl⟩, by omega⟩ | exact ⟨⟨_, rfl⟩, by omega, by omega⟩ | assumption | decide | (simp only [List.length_drop, List.length_take, List.length_append, List.length_set, List.length_cons, List.length_nil, OrOk] at *; omega) | (simp; omega)) : Ch (Sp p k) b := .inl ⟨hp, hk⟩
theorem Ch.v {p k a : Prop} (hk : k) (hp : p := by first | assumption | decide | (intro i hi; exact ⟨rfl, rfl, rfl⟩)) : Ch a (Sp p k) := .inr ⟨hp, hk⟩
theorem dd {p q : Prop} (hp : p) (n : p → False := by intro hb; first | omega | exact absurd rfl hb | exact absurd hb (by decide) | exact absurd hb (by assumption) | exact absurd (by assumption) hb | (simp only [List.length_cons, List.length_nil, List.length_append] at hb; omega)) : q := (n hp).elim
theorem Ix.w {i m : Nat} {K : Nat → Prop} (k : K i) (h : i < m := by first | omega | (simp only [List.length_drop, List.length_take, List.length_append, List.length_set, List.length_cons, List.length_nil] at *; omega)) : Ix (i : Int) m K := ix_nat h k
theorem Ix.v {i : Int} {m : Nat} {K : Nat → Prop} (k : K i.toNat) (h : 0 ≤ i ∧ i < m := by first | omega | (simp only [List.length_drop, List.length_take, List.length_append, List.length_set, List.length_cons, List.length_nil] at *; omega)) : Ix i m K := ix_int h k
theorem Sd.w {i m : Nat} {K : Nat → Prop} (k : K i) (h : i ≤ m := by first | omega | (simp only [List.length_drop, List.length_take, List.length_append, List.length_set, List.length_cons, List.length_nil] at *; omega)) : Sd (i : Int) m K := sd_nat h k
theorem Sd.v {i : Int} {m : Nat} {K : Nat → Prop} (k : K i.toNat) (h : 0 ≤ i ∧ i ≤ m := by first | omega | (simp only [List.length_drop, List.length_take, List.length_append, List.length_set, List.length_cons, List.length_nil] at *; omega)) : Sd i m K := sd_int h k
theorem Sl.w {i j m : Nat} {K : Nat → Nat → Prop} (k : K i j) (h : i ≤ j ∧ j ≤ m := by first | omega | (simp only [List.length_drop, List.length_take, List.length_append, List.length_set, List.length_cons, List.length_nil] at *; omega)) : Sl (i : Int) (j : Int) m K := sl_nat h k
theorem Sl.v {i j : Int} {m : Nat} {K : Nat → Nat → Prop} (k : K i.toNat j.toNat) (h : 0 ≤ i ∧ i ≤ j ∧ j ≤ m := by first | omega | (simp only [List.length_drop, List.length_take, List.length_append, List.length_set, List.length_cons, List.length_nil] at *; omega)) : Sl i j m K := sl_int h k
theorem rt_w {v v' : AVal} {H0 H' : Heap} (h : v' = v := by exact rfl) (hs : H0.Sublist H' := by repeat (first | exact List.nil_sublist _ | apply List.Sublist.cons_cons)) : Rt (fun x H => x = .ret v ∧ H = H0) v' H' := rt_do h hs
theorem env_w {a b : Env} (h : Env.sub a b := by repeat (first | exact trivial | refine And.intro rfl ?_)) : Env.sub a b := h
theorem sub_w {a b : Heap} (h : a.Sublist b := by repeat (first | exact List.nil_sublist _ | apply List.Sublist.cons_cons | apply List.Sublist.cons)) : a.Sublist b := h
theorem Sc.w {t f : Prop} (h : t) : Sc true t f := sc_true h
theorem Sc.v {t f : Prop} (h : f) : Sc false t f := sc_false h
/-- What a test's two answers say. -/
class ScB (b : Bool) (p q : outParam Prop) : Prop where
  t : b = true → p
  f : b = false → q
theorem sb_of {b : Bool} {p q : Prop} (h : ∀ {t f : Prop}, (p → t) → (q → f) → Sc b t f) : ScB b p q := ⟨fun e => by
  have := h (t := p) (f := q) id id
  exact this.1 e, fun e => by
  have := h (t := p) (f := q) id id
  exact this.2 e⟩
instance sb_lt {x y : Int} : ScB (ltB x y) (x < y) (y ≤ x) := sb_of sc_lt
instance sb_nlt {x y : Int} : ScB (!ltB x y) (y ≤ x) (x < y) := sb_of sc_nlt
instance sb_eq {x y : Int} : ScB (eqB x y) (x = y) (x ≠ y) := sb_of sc_eq
instance sb_neq {x y : Int} : ScB (!eqB x y) (x ≠ y) (x = y) := sb_of sc_neq
instance sb_seq {x y : List UInt8} : ScB (seqB x y) (x = y) (x ≠ y) := sb_of sc_seq
instance sb_nseq {x y : List UInt8} : ScB (!seqB x y) (x ≠ y) (x = y) := sb_of sc_nseq
instance (priority := high) sb_nil {x : List UInt8} : ScB (seqB x []) (x.length = 0) (x.length ≠ 0) := sb_of sc_nil
instance (priority := high) sb_nnil {x : List UInt8} : ScB (!seqB x []) (x.length ≠ 0) (x.length = 0) := sb_of sc_nnil
theorem sc_c {b : Bool} {p q t f : Prop} [h : ScB b p q] (ht : p → t) (hf : q → f) : Sc b t f := ⟨fun e => ht (h.1 e), fun e => hf (h.2 e)⟩
theorem sc_d {b : Bool} {p q t f : Prop} (ht : p → t) (hf : q → f) (h : ScB b p q := by first | exact sb_lt | exact sb_nlt | exact sb_eq | exact sb_neq | exact sb_nil | exact sb_nnil) : Sc b t f := ⟨fun e => ht (h.1 e), fun e => hf (h.2 e)⟩
theorem Ia.w {P : Program} {ty S T : TypeId} {a b : Prop} (k : a) (h : ∀ v w, (Instr.typeAssert (.iface ty v) S T true).run P w = .ok (.tuple #[.iface ty v, .bool true]) w := by assumption) : Ia P ty S T a b := .hit h k
theorem Ia.v {P : Program} {ty S T : TypeId} {a b : Prop} (k : b) (h : ∀ v w, (Instr.typeAssert (.iface ty v) S T true).run P w = .ok (.tuple #[.nilIface, .bool false]) w := by assumption) : Ia P ty S T a b := .miss h k
theorem Gt.w {cs : List AVal} {o : Nat} {K : AVal → Prop} {a : AVal} (k : K a) (h : cs[o]? = some a := by assumption) (ha : a.isAgg = false := by exact rfl) : Gt cs o K := .mk a h ha k
theorem Iv.w {P : Program} {G : Glo} {ty : TypeId} {a : AVal} {name : String} {avs : List AVal} {H : Heap} {K Kp : AVal → Heap → Prop} {f : FuncId} {r : AVal} (k : Cx P G f (r :: avs) H K Kp) (hm : ∀ R v, Rel R a v → ∀ w, ∃ u, (Go.method (P.types.size + Made.depth) ty v name).run P w = .ok (f, u) w ∧ Rel R r u := by assumption) : Iv P G ty a name avs H K Kp := .mk f r hm k
end Go.Proofs.YtmgkpbgfkjedeaaGreatDoor
namespace Go.Proofs.YtmgkpbgfkjedeaaGreatDoor
open Go
set_option linter.unusedSimpArgs false
set_option linter.unusedSectionVars false
set_option linter.unusedVariables false
/-- One value, whatever the world of the class. -/
def RunF (P : Program) (C : Ctx) (H : Heap) (env : Env) (op : Op) (av : AVal) : Prop :=
  ∀ (R : Seal) (ρ : Operand → Value), Evals R env ρ → ∃ v, Rel R av v ∧ ∀ (R' : Seal) (w : World), R.le R' → MS C R' H w → ∀ (dst : Option Nat) (t : TypeId) (p : String) (af : Array Edge) (g : Option (Nat × Bool)),
    (execOp ρ { dst := dst, op := op, type := t, pos := p, after := af, guard := g }).run P w = .ok (.value v) w
structure Qf0 (P : Program) (C : Ctx) (n : Nat) (ops : Array Oper) (l : List Oper) (env : Env) (H : Heap) (K : Env → Prop) : Prop where
  h : AQ P C n ops l env H K
/-- A call that hands back what is fixed. -/
inductive Cq (P : Program) (G : Glo) (f : FuncId) (avs : List AVal) (K : AVal → Prop) : Prop
  | mk (v : AVal) (hc : ∀ args w, (callFunc f args).run P w = .ok (.enter f args) w) (hs : FnIs P G f avs v) (hd : v.det = true) (k : K v)
theorem cq {P : Program} {G : Glo} {f : FuncId} {avs : List AVal} {K : AVal → Prop} {v : AVal} (hc : ∀ args w, (callFunc f args).run P w = .ok (.enter f args) w) (hs : FnIs P G f avs v) (hd : v.det = true) (k : K v) : Cq P G f avs K := .mk v hc hs hd k
section
variable (P : Program) [Tab P] (C : Ctx) (n : Nat) (G : Glo) (GL : List (Nat × List AVal)) (H : Heap)
/-- An operation that looks at no memory that changes: its value may be an address. -/
def stillOp (env : Env) : Op → Bool
  | .fieldAddr _ x _ => match evalA env x with
    | some (.rop _ _) => true
    | _ => false
  | .load _ x => match evalA env x with
    | some (.rop _ _) => true
    | _ => false
  | .indexAddr _ x _ => match evalA env x with
    | some (.list _ _ _) => true
    | some (.rop _ _) => true
    | _ => false
  | _ => false
/-- The value is fixed where the slots' values are. -/
def fixX (env : Env) (op : Op) (F : Prop) : Xf := fun K =>
  match op with
  | .move x | .assign x => match evalA env x with
    | some av => K av
    | none => F
  | .extract x i => match evalA env x with
    | some (.tuple cs) => match cs[i]? with
      | some av => K av
      | none => F
    | _ => F
  | .nilCheck x => match evalA env x with
    | some (.rop cs off) => K (.rop cs off)
    | some (.own i (.pointer (some a))) => K (.own i (.pointer (some a)))
    | _ => F
  | .pick c x y => match evalA env c, evalA env x, evalA env y with
    | some (.bool b), some a, some a' => Sc b (K a) (K a')
    | _, _, _ => F
  | .build T l => buildX P env T l.toList F K
  | .makeInterface T x => ifaceX P env T x F K
  | op => match stillOp env op with
    | true => valX P [] env H op F K
    | false => valX P GL env H op F fun av => match av.det with
      | true => K av
      | false => F
def quStep (ops : Array Oper) (o : Oper) (rest : List Oper) (K : Env → Prop) (ih : Env → Prop) (env : Env) : Prop :=
  guardX ops env o.guard (Qf0 P C n ops (o :: rest) env H K)
    (fun env' => match o.dst with
      | some d => match Nat.ble (d + 1) n with
        | true => match o.op with
          | .call ⟨.value fv, args, _⟩ => match evalA env' fv, argsA env' args.toList with
            | some (.func (.func f) [] []), some avs => Cq P G f avs fun v => ih ((d, v) :: env')
            | _, _ => Qf0 P C n ops (o :: rest) env' H K
          | op => fixX P GL H env' op (Qf0 P C n ops (o :: rest) env' H K) fun av => ih ((d, av) :: env')
        | false => Qf0 P C n ops (o :: rest) env' H K
      | none => Qf0 P C n ops (o :: rest) env' H K)
    (fun env' => match o.dst with
      | some d => match Nat.ble (d + 1) n with
        | true => ih ((d, .raw undef) :: env')
        | false => Qf0 P C n ops (o :: rest) env' H K
      | none => ih env')
noncomputable def quX (ops : Array Oper) (K : Env → Prop) (l : List Oper) : Env → Prop :=
  List.rec (motive := fun _ => Env → Prop) K (fun o rest ih => quStep P C n G GL H ops o rest K ih) l
end
section
variable {P : Program} [Tab P] {C : Ctx} {n : Nat} {env : Env} {H : Heap} {Q : AExit → Env → Heap → Prop} {K : Env → Prop} {ops : Array Oper} {rest : List Oper} {G : Glo} {GL : List (Nat × List AVal)} {F : Prop}
variable {d : Nat} {t : TypeId} {p : String} {af : Array Edge} {g : Option (Nat × Bool)} {b : Bool} {x : Operand} {av : AVal}
theorem runF_det {op : Op} (h : RunV P C H env op av) (hd : av.det = true) : RunF P C H env op av := by
  intro R ρ hf
  refine ⟨av.conc, det_rel hd, fun R' w hle hm dst t p af g => ?_⟩
  obtain ⟨v, h1, h2⟩ := h R' ρ w hm (fun x a hx => rel_mono hle (hf x a hx)) dst t p af g
  rw [h1, det_eq h2 hd]
theorem aq_fix {op : Op} (hg : guardA ops env g = some (b, b)) (hdn : Nat.ble (d + 1) n = true) (hx : RunF P C H env op av) (h : AQ P C n ops rest ((d, av) :: env) H K) :
    AQ P C n ops ({ dst := some d, op := op, type := t, pos := p, after := af, guard := g } :: rest) env H K := by
  intro R a hf
  refine wpQuiet_step fun X hX => ?_
  rw [wanted_of hf hg, if_pos (by simp)]
  obtain ⟨v, hv, hrun⟩ := hx R a.eval (fun x a hx => hf.eval hx)
  refine ⟨v, ?_, hX _ (h R _ (hf.put hdn hv))⟩
  rintro w ⟨R', hle, hms⟩
  show Oper.quietUpon P _ w _ ((execOp a.eval _).run P w)
  rw [hrun R' w hle hms]
  exact ⟨rfl, rfl⟩
theorem rf_build {T : TypeId} {xT : TI} {l : List (Nat × Operand)} {ps : List (Nat × AVal)} {fs : List Field} {pl : List (Nat × Nat)} {z cs : List AVal}
    (hl : partsA env l = some ps) (h1 : tab P T = some xT) (h2 : xT.desc = .struct fs.toArray) (h3 : placesA P fs = some pl) (h4 : zeroCellsA xT.zero = some z) (h5 : fillA pl z ps = some cs) : RunF P C H env (.build T l.toArray) (.agg cs) := by
  intro R ρ hf
  obtain ⟨v, hv, hr⟩ := zeroCellsA_rel (R := R) h4
  obtain ⟨Cs, hC, hrC⟩ := fillA_run (place := (pl.toArray[·]?)) (fun i x hi => by simpa using hi) (partsA_rel hf hl) hr h5
  refine ⟨.agg Cs, ⟨hrC, rfl⟩, fun R' w _ hm dst t p af g => ?_⟩
  have hmap : (l.toArray.map fun x => (x.1, ρ x.2)).toList = l.map fun x => (x.1, ρ x.2) := by simp
  simp only [execOp, Instr.build, Sem.run_bind, tab_run_zero h1 hv, Result.andThen_ok, tab_run_und h1, h2, Array.mapM_eq_mapM_toList, Sem.run_map, placesA_run h3]
  rw [show (Array.map (fun x : Nat × Operand => match x with | (i, x) => (i, ρ x)) l.toArray).toList = l.map fun x => (x.1, ρ x.2) from hmap, hC]
  rfl
theorem rf_build_arr {T : TypeId} {xT : TI} {l : List (Nat × Operand)} {ps : List (Nat × AVal)} {m e : Nat} {xe : TI} {z cs : List AVal}
    (hl : partsA env l = some ps) (h1 : tab P T = some xT) (h2 : xT.desc = .array m e) (h3 : tab P e = some xe) (h4 : zeroCellsA xT.zero = some z) (h5 : fillA (arrPl m 0 xe.size) z ps = some cs) : RunF P C H env (.build T l.toArray) (.agg cs) := by
  intro R ρ hf
  obtain ⟨v, hv, hr⟩ := zeroCellsA_rel (R := R) h4
  obtain ⟨Cs, hC, hrC⟩ := fillA_run (place := fun i => some (i * xe.size, xe.size)) (fun i x hi => by rw [arrPl_at hi, Nat.zero_add]) (partsA_rel hf hl) hr h5
  refine ⟨.agg Cs, ⟨hrC, rfl⟩, fun R' w _ hm dst t p af g => ?_⟩
  have hmap : (l.toArray.map fun x => (x.1, ρ x.2)).toList = l.map fun x => (x.1, ρ x.2) := by simp
  simp only [execOp, Instr.build, Sem.run_bind, tab_run_zero h1 hv, Result.andThen_ok, tab_run_und h1, h2, tab_run_size h3]
  rw [show (Array.map (fun x : Nat × Operand => match x with | (i, x) => (i, ρ x)) l.toArray).toList = l.map fun x => (x.1, ρ x.2) from hmap, hC]
  rfl
theorem rf_buildX {T : TypeId} {l : Array (Nat × Operand)} {F : Prop} {K : AVal → Prop} (h : buildX P env T l.toList F K) : F ∨ ∃ av, RunF P C H env (.build T l) av ∧ K av := by
  unfold buildX at h
  split at h
  · rename_i xT ht
    split at h
    · rename_i fs hd
      split at h
      · rename_i ps pl z h1 h2 h3
        split at h
        · rename_i cs h4
          rw [forceL_eq] at h
          have := rf_build (P := P) (C := C) (H := H) (l := l.toList) h1 ht (by simpa using hd) h2 h3 h4
          exact .inr ⟨_, by simpa using this, h⟩
        · exact .inl h
      · exact .inl h
    · rename_i m e hd
      split at h
      · rename_i ps xe z h1 h2 h3
        split at h
        · rename_i cs h4
          rw [forceL_eq] at h
          have := rf_build_arr (P := P) (C := C) (H := H) (l := l.toList) h1 ht hd h2 h3 h4
          exact .inr ⟨_, by simpa using this, h⟩
        · exact .inl h
      · exact .inl h
    · exact .inl h
  · exact .inl h
theorem rf_ifaceX {T : TypeId} {x : Operand} {F : Prop} {K : AVal → Prop} (h : ifaceX P env T x F K) : F ∨ ∃ av, RunF P C H env (.makeInterface T x) av ∧ K av := by
  unfold ifaceX at h
  split at h
  · rename_i xT v ht hx
    split at h
    · rename_i h2
      refine .inr ⟨_, fun R ρ hf => ⟨.iface T (ρ x), rel_iface (hf _ _ hx), fun R' w _ hm dst t p af g => ?_⟩, h⟩
      simp only [execOp, Instr.makeInterface, Sem.run_bind, tab_run_und ht, Result.andThen_ok]
      cases hd : xT.desc <;> first | rfl | (rw [hd] at h2; simp [descIface] at h2)
    · exact .inl h
  · exact .inl h
theorem rf_move (hx : evalA env x = some av) : RunF P C H env (.move x) av := fun R ρ hf => ⟨ρ x, hf _ _ hx, fun _ _ _ _ _ _ _ _ _ => rfl⟩
theorem rf_assign (hx : evalA env x = some av) : RunF P C H env (.assign x) av := fun R ρ hf => ⟨ρ x, hf _ _ hx, fun _ _ _ _ _ _ _ _ _ => rfl⟩
theorem rf_pick {c x y : Operand} {b : Bool} {a a' : AVal} (hc : evalA env c = some (.bool b)) (hx : evalA env x = some a) (hy : evalA env y = some a') : RunF P C H env (.pick c x y) (if b then a else a') := by
  intro R ρ hf
  have := rel_bool.1 (hf _ _ hc)
  cases b
  · exact ⟨ρ y, hf _ _ hy, fun _ _ _ _ _ _ _ _ _ => by simp only [execOp, this, asBool]; rfl⟩
  · exact ⟨ρ x, hf _ _ hx, fun _ _ _ _ _ _ _ _ _ => by simp only [execOp, this, asBool]; rfl⟩
theorem rf_nilCheck_rop {cs : List AVal} {off : Nat} (hx : evalA env x = some (.rop cs off)) : RunF P C H env (.nilCheck x) (.rop cs off) := by
  intro R ρ hf
  have hr := hf _ _ hx
  obtain ⟨bl, o, e1, ho, hs⟩ := rop_inv hr
  rw [e1] at hr
  exact ⟨_, hr, fun _ _ _ _ _ _ _ _ _ => by simp only [execOp, e1]; rfl⟩
theorem rf_extract {cs : List AVal} {i : Nat} (hx : evalA env x = some (.tuple cs)) (hi : cs[i]? = some av) : RunF P C H env (.extract x i) av := by
  intro R ρ hf
  have key : ∀ {l : List AVal} {vs : List Value} {i : Nat}, RelV R l vs → l[i]? = some av → ∃ v, vs[i]? = some v ∧ Rel R av v := by
    intro l
    induction l with
    | nil => intro vs i _ h; simp at h
    | cons c l ih =>
      rintro vs i ⟨v, t, rfl, h1, h2⟩ h
      cases i with
      | zero => simp only [List.getElem?_cons_zero, Option.some.injEq] at h; subst h; exact ⟨v, rfl, h1⟩
      | succ i => simp only [List.getElem?_cons_succ] at h ⊢; exact ih h2 h
  obtain ⟨ws, e, hr⟩ := rel_one (hf _ _ hx) rfl
  simp only [List.cons.injEq, and_true] at e
  obtain ⟨v, hv, hrv⟩ := key hr hi
  refine ⟨v, hrv, fun _ _ _ _ _ _ _ _ _ => ?_⟩
  have hv' : ws[i]? = some v := by simpa using hv
  simp only [execOp, e, Instr.extract, Sem.run_bind, Sem.run_pure, Result.andThen_ok, hv']
theorem rf_fieldAddr {k : Nat} {T : TypeId} {K : AVal → Prop} {cs0 : List AVal} {off0 : Nat} (hx : evalA env x = some (.rop cs0 off0)) (h : fieldAddrX P env T x k F K) : F ∨ ∃ av, RunF P C H env (.fieldAddr T x k) av ∧ K av := by
  unfold fieldAddrX at h
  split at h
  · rename_i xT h1
    split at h
    · rename_i fs h2
      split at h
      · rename_i f h3
        split at h
        · rename_i xf h4
          split at h
          · rename_i h5
            rw [hx] at h
            refine .inr ⟨_, ?_, h⟩
            intro R ρ hf
            have h5 := Nat.le_of_ble_eq_true h5
            obtain ⟨bl, o, e1, ho, hs⟩ := rop_inv (hf _ _ hx)
            refine ⟨.pointer (some ⟨bl, o + f.offset, none⟩), relC_rop (by omega) (by rw [Nat.add_sub_add_right]; exact hs), fun R' w hle hm dst t p af g => ?_⟩
            simp only [execOp, e1, Instr.fieldAt, Sem.run_bind, tab_run_und h1, h2, Result.andThen_ok, h3, Instr.sureAddr, Sem.run_pure, fieldPlace, tab_run_size h4]
            rw [if_neg (by omega)]
            simp only [Addr.add]
            by_cases h0 : f.offset = 0
            · simp [h0]
            · simp [h0]
          · exact .inl h
        · exact .inl h
      · exact .inl h
    · exact .inl h
  · exact .inl h
theorem rf_load {T : TypeId} {K : AVal → Prop} {cs : List AVal} {off : Nat} (hx : evalA env x = some (.rop cs off)) (h : loadX P [] env H T x F K) : F ∨ ∃ av, RunF P C H env (.load T x) av ∧ K av := by
  unfold loadX at h
  split at h
  · rename_i xT h1
    split at h
    · rename_i g
      simp [evalA] at hx
    · rw [hx] at h
      dsimp only at h
      rcases cellX_ok h with h | ⟨ha, hc, h⟩ | ⟨ha, av, hc, hav, h⟩
      · exact .inl h
      · refine .inr ⟨_, ?_, h⟩
        intro R ρ hf
        obtain ⟨bl, o, e1, ho, Cs, el, fz, hR, hl⟩ := rop_inv (hf _ _ hx)
        have hlen := relL_length hl
        simp only [List.length_take, List.length_drop, Array.length_toList] at hlen
        refine ⟨.agg ((Cs.toList.drop o).take xT.size).toArray, ⟨?_, rfl⟩, fun R' w hle hm dst t p af g => ?_⟩
        · have := relL_take xT.size (relL_drop off hl)
          simp only [Value.cells, RelC]
          rw [List.drop_take, List.drop_drop, Nat.sub_add_cancel ho, List.take_take] at this
          rw [Nat.min_eq_left (by omega)] at this
          simpa using this
        · simp only [execOp, e1, Instr.loadAt, Instr.sureAddr, Sem.run_bind, Sem.run_pure, Result.andThen_ok]
          by_cases hz : xT.size = 0
          · simp only [loadVar, Sem.run_bind, tab_run_agg h1, ha, if_true, tab_run_size h1, loadCells, hz, loadCellsFrom, Result.andThen_ok]
            simp
          · rw [load_agg h1 ha (hm.sealed _ _ (hle _ _ hR)) (by omega)]
            simp
      · refine .inr ⟨_, ?_, h⟩
        intro R ρ hf
        obtain ⟨bl, o, e1, ho, Cs, el, fz, hR, hl⟩ := rop_inv (hf _ _ hx)
        obtain ⟨v, hv, hr⟩ := relL_get hl hc
        refine ⟨v, relC_rel hr hav, fun R' w hle hm dst t p af g => ?_⟩
        have hcell : w.cell? ⟨bl, o, none⟩ = some v := by
          have hlt : off < cs.length := (List.getElem?_eq_some_iff.1 hc).1
          rw [List.getElem?_take_of_lt hlt, List.getElem?_drop, Nat.sub_add_cancel ho] at hv
          simp only [World.cell?, hm.sealed bl _ (hle _ _ hR)]
          simpa using hv
        simp only [execOp, e1, Instr.loadAt, Instr.sureAddr, Sem.run_bind, Sem.run_pure, Result.andThen_ok, load_scalar h1 ha hcell]
  · exact .inl h
theorem rf_index_list {y : Operand} {T e : TypeId} {xT xe : TI} {sz m : Nat} {f : Nat → AVal} {k : IntKind} {i : Int}
    (hx : evalA env x = some (.list sz m f)) (hy : evalA env y = some (.int k i)) (h1 : tab P T = some xT) (h2 : xT.desc = .slice e) (h3 : tab P e = some xe) (h4 : xe.size = sz)
    (hi0 : 0 ≤ i) (hi : i < m) (hp : (f i.toNat).plain = true) : RunF P C H env (.indexAddr T x y) (.rop (f i.toNat).cells 0) := by
  intro R ρ hf
  obtain ⟨a, cap, e1, _, h5⟩ := rel_one (hf _ _ hx) rfl
  simp only [List.cons.injEq, and_true] at e1
  rcases h5 with h5 | ⟨bl, o, Cs, el, fz, rfl, hR, hall⟩
  · omega
  have hr := hall i.toNat (by omega)
  have hl := relC_cells hr hp
  have hlen := relL_length hl
  refine ⟨.pointer (some ⟨bl, o + i.toNat * sz, none⟩), relC_rop (Nat.zero_le _) ⟨Cs, el, fz, hR, ?_⟩, fun R' w hle hm dst t p af g => ?_⟩
  · rw [Nat.sub_zero, take_same hlen]; exact hl
  · simp only [execOp, e1, rel_int.1 (hf _ _ hy), Instr.indexAt, asIntOf, Sem.run_bind, Sem.run_pure, Result.andThen_ok, tab_run_und h1, h2]
    rw [if_pos (show 0 ≤ i ∧ i < (m : Int) from ⟨hi0, hi⟩)]
    simp only [Sem.run_bind, tab_run_size h3, h4, Result.andThen_ok, Sem.run_pure, Addr.add]
    by_cases h0 : i.toNat * sz = 0
    · simp [h0]
    · simp [h0]
theorem rf_indexAddr {T : TypeId} {y : Operand} {K : AVal → Prop} {sz m : Nat} {f : Nat → AVal} (hx : evalA env x = some (.list sz m f)) (h : indexAddrX P [] env T x y F K) : F ∨ ∃ av, RunF P C H env (.indexAddr T x y) av ∧ K av := by
  unfold indexAddrX at h
  split at h
  · rename_i xT ht
    split at h
    · rename_i e hd
      split at h
      · rename_i xe he
        rw [hx] at h
        dsimp only at h
        split at h
        · rename_i hs
          rcases intA_ok h with h | ⟨k, i, hy, h, h'⟩
          · exact .inl h
          · rcases elemX_ok h' with h' | ⟨hp, h'⟩
            · exact .inl h'
            · exact .inr ⟨_, rf_index_list hx hy ht hd he (Nat.eq_of_beq_eq_true hs) h.1 h.2 hp, h'⟩
        · exact .inl h
      · exact .inl h
    · split at h
      · split at h
        · simp [evalA] at hx
        · rw [hx] at h; exact .inl h
      · exact .inl h
    · exact .inl h
  · exact .inl h
theorem rf_indexAddr_rop {T : TypeId} {y : Operand} {K : AVal → Prop} {cs : List AVal} {off : Nat} (hx : evalA env x = some (.rop cs off)) (h : indexAddrX P [] env T x y F K) : F ∨ ∃ av, RunF P C H env (.indexAddr T x y) av ∧ K av := by
  unfold indexAddrX at h
  split at h
  · rename_i xT h1
    split at h
    · split at h
      · rw [hx] at h; exact .inl h
      · exact .inl h
    · rename_i len e h2
      split at h
      · rename_i xe h3
        split at h
        · simp [evalA] at hx
        · rw [hx] at h
          dsimp only at h
          rcases intA_ok h with h | ⟨k, i, hy, h, h'⟩
          · exact .inl h
          · refine .inr ⟨_, ?_, h'⟩
            intro R ρ hf
            obtain ⟨bl, o, e1, ho, hs⟩ := rop_inv (hf _ _ hx)
            refine ⟨.pointer (some ⟨bl, o + i.toNat * xe.size, none⟩), relC_rop (by omega) (by rw [Nat.add_sub_add_right]; exact hs), fun R' w hle hm dst t p af g => ?_⟩
            simp only [execOp, e1, rel_int.1 (hf _ _ hy), Instr.indexAt, asIntOf, Sem.run_bind, Sem.run_pure, Result.andThen_ok, tab_run_und h1, h2, Instr.sureAddr]
            rw [if_pos (show 0 ≤ i ∧ i < (len : Int) from ⟨h.1, h.2⟩)]
            simp only [Sem.run_bind, tab_run_size h3, Result.andThen_ok, Sem.run_pure, Addr.add]
            by_cases h0 : i.toNat * xe.size = 0
            · simp [h0]
            · simp [h0]
      · exact .inl h
    · exact .inl h
  · exact .inl h
theorem still_ok {op : Op} {K : AVal → Prop} (hs : stillOp env op = true) (h : valX P [] env H op F K) : F ∨ ∃ av, RunF P C H env op av ∧ K av := by
  unfold stillOp at hs
  split at hs
  · split at hs
    · rename_i hx; exact rf_fieldAddr hx h
    · cases hs
  · split at hs
    · rename_i hx; exact rf_load hx h
    · cases hs
  · split at hs
    · rename_i hx; exact rf_indexAddr hx h
    · rename_i hx; exact rf_indexAddr_rop hx h
    · cases hs
  · cases hs
theorem fixX_ok (hGL : GloAll C.G GL) {op : Op} {K : AVal → Prop} (h : fixX P GL H env op F K) : F ∨ ∃ av, RunF P C H env op av ∧ K av := by
  unfold fixX at h
  split at h
  · split at h
    · rename_i av hx; exact .inr ⟨_, rf_move hx, h⟩
    · exact .inl h
  · split at h
    · rename_i av hx; exact .inr ⟨_, rf_assign hx, h⟩
    · exact .inl h
  · split at h
    · rename_i cs hx
      split at h
      · rename_i av hi; exact .inr ⟨_, rf_extract hx hi, h⟩
      · exact .inl h
    · exact .inl h
  · split at h
    · rename_i cs off hx; exact .inr ⟨_, rf_nilCheck_rop hx, h⟩
    · rename_i i a hx
      rcases valX_ok (P := P) (C := C) (H := H) (env := env) (op := .nilCheck ‹Operand›) (F := False) (K := fun v => v = .own i (.pointer (some a))) hGL (by simp only [valX, nilCheckX, hx]) with h' | ⟨av, h1, rfl⟩
      · exact h'.elim
      · exact .inr ⟨_, runF_det h1 rfl, h⟩
    · exact .inl h
  · split at h
    · rename_i b a a' hc hx hy
      refine .inr ⟨_, rf_pick hc hx hy, ?_⟩
      cases b
      · exact h.2 rfl
      · exact h.1 rfl
    · exact .inl h
  · exact rf_buildX h
  · exact rf_ifaceX h
  · split at h
    · rename_i hs; exact still_ok hs h
    · rcases valX_ok hGL h with h | ⟨av, h1, h2⟩
      · exact .inl h
      · split at h2
        · rename_i hd; exact .inr ⟨_, runF_det h1 hd, h2⟩
        · exact .inl h2
theorem aq_env {l : List Oper} {env' : Env} (hs : ∀ {D : List Deferred} R a, FSa D n R env a → FSa D n R env' a) (h : AQ P C n ops l env' H K) : AQ P C n ops l env H K := fun R a hf => h R a (hs R a hf)
theorem aq_split {o : Oper} {b want : Bool} {d : Nat} {l : List Oper} (hv : Env.get env d = some (.bool b))
    (ht : b = true → AQ P C n ops l ((d, .bool true) :: env) H K) (hf : b = false → AQ P C n ops l ((d, .bool false) :: env) H K) : AQ P C n ops l env H K := by
  have key : ∀ x, b = x → ∀ {D : List Deferred} R a, FSa D n R env a → FSa D n R ((d, .bool x) :: env) a := by
    rintro x rfl D R a hfr
    refine ⟨fun k v hk => ?_, hfr.size, hfr.defers⟩
    simp only [Env.get] at hk
    cases hb : Nat.beq d k with
    | true =>
      rw [hb] at hk
      have := Nat.eq_of_beq_eq_true hb
      subst this
      simp only [Option.some.injEq] at hk
      subst hk
      exact hfr.fr d _ hv
    | false => rw [hb] at hk; exact hfr.fr k v hk
  cases hb : b with
  | true => exact aq_env (key true hb) (ht hb)
  | false => exact aq_env (key false hb) (hf hb)
theorem aq_skip_none {o : Oper} {b want : Bool} (hg : guardA ops env o.guard = some (b, want)) (hb : (b == want) = false) (hd : o.dst = none)
    (h : AQ P C n ops rest env H K) : AQ P C n ops (o :: rest) env H K := by
  intro R a hf
  refine wpQuiet_step fun X hX => ?_
  rw [wanted_of hf hg, hb, if_neg (by simp), hd]
  exact hX _ (h R _ hf)
theorem aq_skip_undef {o : Oper} {e : Nat} (hs : guardSlot ops o.guard = some e) (hv : Env.get env e = some (.raw undef))
    (h : (∃ d, o.dst = some d ∧ Nat.ble (d + 1) n = true ∧ AQ P C n ops rest ((d, .raw undef) :: env) H K) ∨ (o.dst = none ∧ AQ P C n ops rest env H K)) : AQ P C n ops (o :: rest) env H K := by
  intro R a hf
  refine wpQuiet_step fun X hX => ?_
  have hw : Region.wanted o (yielded ops a.tmps) = false := by
    unfold guardSlot at hs
    unfold Region.wanted
    split at hs
    · rename_i j want h
      rw [h]
      split at hs
      · rename_i o' ho
        obtain ⟨x, hx, hr⟩ := hf.fr e _ hv
        rw [rel_raw.1 hr] at hx
        simp [yielded, ho, hs, hx, undef]
      · cases hs
    · cases hs
  rw [hw, if_neg (by simp)]
  rcases h with ⟨d, hd, hdn, h⟩ | ⟨hd, h⟩
  · rw [hd]; exact hX _ (h R _ (hf.put hdn (rel_raw.2 rfl)))
  · rw [hd]; exact hX _ (h R _ hf)
theorem quX_okC (hGL : GloAll C.G GL) : ∀ (l : List Oper) (env : Env), quX P C n C.G GL H ops K l env → AQ P C n ops l env H K
  | [], env, h => aq_nil h
  | o :: rest, env, h => by
    have ih := quX_okC hGL rest
    replace h : quStep P C n C.G GL H ops o rest K (quX P C n C.G GL H ops K rest) env := h
    generalize quX P C n C.G GL H ops K rest = X at h ih
    have run : ∀ env' b, guardA ops env' o.guard = some (b, b) → (match o.dst with
      | some d => match Nat.ble (d + 1) n with
        | true => match o.op with
          | .call ⟨.value fv, args, _⟩ => match evalA env' fv, argsA env' args.toList with
            | some (.func (.func f) [] []), some avs => Cq P C.G f avs fun v => X ((d, v) :: env')
            | _, _ => Qf0 P C n ops (o :: rest) env' H K
          | op => fixX P GL H env' op (Qf0 P C n ops (o :: rest) env' H K) fun av => X ((d, av) :: env')
        | false => Qf0 P C n ops (o :: rest) env' H K
      | none => Qf0 P C n ops (o :: rest) env' H K) → AQ P C n ops (o :: rest) env' H K := by
      intro env' b hg h
      obtain ⟨dst, op, type, pos, after, guard⟩ := o
      dsimp only at h hg ⊢
      split at h
      · rename_i d
        split at h
        · rename_i hdn
          split at h
          · rename_i fv args ts
            split at h
            · rename_i f avs h1 h2
              obtain ⟨v, hc, hs, hd, k⟩ := h
              have e := call_args (a := args) rfl
              rw [e]
              exact aq_callv hg hdn h1 h2 hs hc hd (ih _ k)
            · exact h.h
          · rcases fixX_ok hGL h with h | ⟨av, h1, h2⟩
            · exact h.h
            · exact aq_fix hg hdn h1 (ih _ h2)
        · exact h.h
      · exact h.h
    have skip : ∀ env', (∀ d, o.dst = some d → Nat.ble (d + 1) n = true → AQ P C n ops rest ((d, .raw undef) :: env') H K → AQ P C n ops (o :: rest) env' H K) →
        (o.dst = none → AQ P C n ops rest env' H K → AQ P C n ops (o :: rest) env' H K) → (match o.dst with
      | some d => match Nat.ble (d + 1) n with
        | true => X ((d, .raw undef) :: env')
        | false => Qf0 P C n ops (o :: rest) env' H K
      | none => X env') → AQ P C n ops (o :: rest) env' H K := by
      intro env' h1 h2 h
      split at h
      · rename_i d hd
        split at h
        · rename_i hdn; exact h1 d hd hdn (ih _ h)
        · exact h.h
      · rename_i hd; exact h2 hd (ih _ h)
    simp only [quStep, guardX] at h
    split at h
    · rename_i hgn
      exact run env true (by rw [hgn]; rfl) h
    · rename_i j want hgn
      split at h
      · rename_i o' ho
        split at h
        · rename_i e he
          split at h
          · rename_i b hb
            have hgT : ∀ v, guardA ops ((e, .bool v) :: env) o.guard = some (v, want) := fun v => by rw [hgn]; exact guard_const ho he
            split at h
            · refine aq_split (o := o) (want := true) hb (fun hv => ?_) (fun hv => ?_)
              · exact run _ true (hgT true) (h.1 hv)
              · exact skip _ (fun d hd hdn k => aq_skip' (hgT false) hd hdn k) (fun hd k => aq_skip_none (hgT false) rfl hd k) (h.2 hv)
            · refine aq_split (o := o) (want := false) hb (fun hv => ?_) (fun hv => ?_)
              · exact skip _ (fun d hd hdn k => aq_skip (hgT true) hd hdn k) (fun hd k => aq_skip_none (hgT true) rfl hd k) (h.1 hv)
              · exact run _ false (hgT false) (h.2 hv)
          · rename_i v hv
            have hgS : guardSlot ops o.guard = some e := by rw [hgn]; simp only [guardSlot, ho, he]
            obtain ⟨rfl, h⟩ := h
            exact skip _ (fun d hd hdn k => aq_skip_undef hgS hv (.inl ⟨d, hd, hdn, k⟩)) (fun hd k => aq_skip_undef hgS hv (.inr ⟨hd, k⟩)) h
          · exact h.h
        · exact h.h
      · exact h.h
theorem quX_ok (hC : C.G = G) (hGL : GloAll G GL) (l : List Oper) (env : Env) (h : quX P C n G GL H ops K l env) : AQ P C n ops l env H K := by subst hC; exact quX_okC hGL l env h
theorem dw_q {id : Nat} (hm : P.follows .mixedOrders = true) (hC : C.G = G) (hGL : GloAll G GL) (hB : Region.lexB .any ops = true) (h : quX P C n G GL H ops (fun e => Q .normal e H) ops.toList env) : Dw P C n id ops env H Q := by
  have e := call_args (a := ops) rfl
  have := aw_region_draw (P := P) (C := C) (n := n) (env := env) (H := H) (Q := Q) (id := id) (l := ops.toList) hm (by rw [← e]; exact hB) (by rw [← e]; exact quX_ok hC hGL _ _ h)
  rw [← e] at this
  exact ⟨this⟩
end
theorem mixed : Tryz.prog.follows .mixedOrders = true := by kernel_rfl
end Go.Proofs.YtmgkpbgfkjedeaaGreatDoor
namespace Go.Proofs.YtmgkpbgfkjedeaaGreatDoor
open Go Go.RowKit
theorem fnis_of_calls {P : Program} {G : Glo} {f : FuncId} {avs : List AVal} {v : AVal} (hdet : v.det = true) (hc : ∀ args w, (callFunc f args).run P w = .ok (.enter f args) w)
    (h : ∀ R args, RelV R avs args.toList → ∀ w, G.p R → Sealed R w → Calls P f args w fun e w' => e = .returned v.conc ∧ Below w.heap.size w w') : FnIs P G f avs v := by
  intro R w args hG hm ha
  refine .inl ⟨hc args w, (h R args ha w hG hm.sealed).mono ?_⟩
  rintro e w' ⟨rfl, hb⟩
  refine ⟨.ret v, [], R, ⟨rfl, rfl⟩, ⟨_, rfl, det_rel hdet⟩, ?_⟩
  refine ⟨?_, Seal.le_refl R, fun _ hb => .inl hb, ⟨fun _ h => absurd h List.not_mem_nil, List.nodup_nil, fun _ h => absurd h List.not_mem_nil⟩, fun _ h => absurd h List.not_mem_nil,
    ⟨hb.os, hb.tape, hb.output, hb.size, fun b hlt _ => hb.block b hlt⟩⟩
  intro b o ho
  have h1 := hm.sealed b o ho
  have hlt : b < w.heap.size := by
    rcases Nat.lt_or_ge b w.heap.size with h | h
    · exact h
    · rw [Array.getElem?_eq_none h] at h1; cases h1
  rw [hb.block b hlt, h1]
theorem arr_of {args : Array Value} {l : List Value} (h : args.toList = l) : args = l.toArray := by rw [← h]
theorem fnis_extern {P : Program} {G : Glo} {f : FuncId} {fn : Func} {e : Array Value → Sem Value} {avs : List AVal} {v : AVal} (hf : P.funcs[f]? = some fn) (hname : (fn.name == "runtime.NumGoroutine") = false)
    (hb : fn.body.isNone = true) (hn : Extern.findNext fn = none) (he : Extern.find fn = some e)
    (h : ∀ R args, RelV R avs args.toList → ∀ w, ∃ x, (e args).run P w = .ok x w ∧ Rel R v x) : FnIs P G f avs v := by
  intro R w args hG hm ha
  obtain ⟨x, hx, hr⟩ := h R args ha w
  refine .inr ⟨x, w, ?_, .ret v, [], R, ⟨rfl, rfl⟩, ⟨x, rfl, hr⟩, hm⟩
  rw [run_callFunc_extern hf hname hb hn he]
  simp only [hx, Result.andThen_ok]
/-- What the model answers, whatever it does to memory. -/
theorem fnspec_extern {P : Program} {G : Glo} {f : FuncId} {fn : Func} {e : Array Value → Sem Value} {avs : List AVal} {H : Heap} {v : AVal} {H' : Heap} (hf : P.funcs[f]? = some fn) (hname : (fn.name == "runtime.NumGoroutine") = false)
    (hb : fn.body.isNone = true) (hn : Extern.findNext fn = none) (he : Extern.find fn = some e)
    (h : ∀ C R args w, MS C R H w → RelV R avs args.toList → ∃ x w' R', (e args).run P w = .ok x w' ∧ R.le R' ∧ Rel R' v x ∧ MS C R' H' w') : FnSpec P G f avs H (fun r h => r = .ret v ∧ h = H') := by
  intro R w args hG hm ha
  obtain ⟨x, w', R', hx, hle, hr, hm'⟩ := h _ R args w hm ha
  refine .inr ⟨x, w', ?_, .ret v, H', R', ⟨rfl, rfl⟩, ⟨x, rfl, hr⟩, hm'⟩
  rw [run_callFunc_extern hf hname hb hn he]
  simp only [hx, Result.andThen_ok]
/-- The same, where a new variable is laid that nobody will write. -/
theorem fnis_extern_new {P : Program} {G : Glo} {f : FuncId} {fn : Func} {e : Array Value → Sem Value} {avs : List AVal} {v : AVal} (hf : P.funcs[f]? = some fn) (hname : (fn.name == "runtime.NumGoroutine") = false)
    (hb : fn.body.isNone = true) (hn : Extern.findNext fn = none) (he : Extern.find fn = some e)
    (h : ∀ R args w, RelV R avs args.toList → ∃ x cs t, (e args).run P w = .ok x (w.alloc (.cells cs t)) ∧ ∀ R', R.le R' → R' w.heap.size = some (.cells cs t) → Rel R' v x) : FnIs P G f avs v := by
  refine fnspec_extern hf hname hb hn he fun C R args w hm ha => ?_
  obtain ⟨x, cs, t, hx, hr⟩ := h R args w ha
  exact ⟨x, _, R.put w.heap.size (.cells cs t), hx, Seal.put_le hm.seal_free, hr _ (Seal.put_le hm.seal_free) (Seal.put_at _ _ _), hm.alloc_sealed _⟩
end Go.Proofs.YtmgkpbgfkjedeaaGreatDoor
namespace Go.Proofs.YtmgkpbgfkjedeaaGreatDoor
open Go
set_option linter.unusedSimpArgs false
set_option linter.unusedSectionVars false
set_option linter.unusedVariables false
section
variable {P : Program} [Tab P] {C : Ctx} {n : Nat} {env : Env} {H : Heap} {Q : AExit → Env → Heap → Prop} {ops : Array Oper} {rest : List Oper} {G : Glo} {GL : List (Nat × List AVal)}
variable {eT : Option TypeId}
variable {d : Nat} {t : TypeId} {p : String} {af : Array Edge} {g : Option (Nat × Bool)} {b : Bool}
variable {x y : Operand} {T : TypeId} {xT : TI} {tx ty : TypeId} {av : AVal} {f : FuncId} {avs : List AVal}
/-- An operation met by a rule of its own. -/
theorem op1_run {op : Op} (hC : C.G = G) (hGL : GloAll G GL) (hr : RunV P C H env op av) (hg : guardA ops env g = some (b, b)) (hdn : Nat.ble (d + 1) n = true)
    (k : opsX P C n G GL ops Q rest ((d, av) :: env) H) : Op1 P C n ops ({ dst := some d, op := op, type := t, pos := p, after := af, guard := g } :: rest) env H Q :=
  ⟨ao_of_run hg hdn hr (opsX_ok hC hGL _ _ _ k)⟩
theorem rv_istr {k : IntKind} {m : Int} {S : TypeId} {xS : TI} (hx : evalA env x = some (.int k m)) (h1 : tab P S = some xS) (h2 : tab P T = some xT) (hd : xT.desc = .string) : RunV P C H env (.convert S T x) (.str (Utf8.encode m).data.toList) := by
  intro R ρ w hm hf dst t p af g
  refine ⟨.string (Utf8.encode m), ?_, rel_str.2 rfl⟩
  simp only [execOp, rel_int.1 (hf _ _ hx), convert, Sem.run_bind, tab_run_und h1, tab_run_und h2, hd, Result.andThen_ok, Sem.run_pure]
  cases xS.desc <;> rfl
end
end Go.Proofs.YtmgkpbgfkjedeaaGreatDoor
namespace Go.Proofs
open Go.Shelf
def Tryz.lays99_ren : Go.Shelf.Ren := ⟨fun | 99 => 24 | 206 => 39 | n => n, fun | 9 => 9 | 4 => 4 | 3 => 3 | n => n, fun | n => n⟩
theorem Tryz.lays99 : Go.Proofs.Lays.n99 Tryz.prog Tryz.lays99_ren := {
  mixed := by kernel_rfl
  f99 := Tryz.func24.trans (congrArg some (by kernel_rfl))
  f206 := Tryz.func39.trans (congrArg some (by kernel_rfl))
  t3 := Tryz.underlying3
  a3 := Tryz.isAgg3
  z3 := Tryz.sizeOf3
  v3 := Tryz.zeroValue3
  t4 := Tryz.underlying4
  a4 := Tryz.isAgg4
  z4 := Tryz.sizeOf4
  v4 := Tryz.zeroValue4
  t9 := Tryz.underlying9
  a9 := Tryz.isAgg9
  z9 := Tryz.sizeOf9
  v9 := Tryz.zeroValue9 }
open Go.RowKit Go.Lib in
/-- strings.HasPrefix: "HasPrefix reports whether the string s begins with prefix.": IT RETURNS 'Lib.hasPrefix s prefix'; the world is as it was. (LAID: no walk: one application.) -/
theorem Tryz.strings_HasPrefix (s p : ByteArray) (w : World) :
    Calls Tryz.prog 24 #[.string s, .string p] w fun e w' => e = .returned (.bool (Lib.hasPrefix s.data.toList p.data.toList)) ∧ w' = w := Any.strings_HasPrefix Tryz.lays99 s p w
end Go.Proofs
namespace Go.Proofs.YtmgkpbgfkjedeaaGreatDoor
open Go Go.RowKit
/-- Texts in a row. -/
def strsC (l : List (List UInt8)) : List AVal := l.map .str
def strsF (l : List (List UInt8)) (i : Nat) : AVal := .str (l.getD i [])
theorem strsF_ok (l : List (List UInt8)) : ∀ i, i < l.length → (strsF l i).cells = ((strsC l).drop (i * 1)).take 1 ∧ (strsF l i).plain = true := by
  intro i hi
  refine ⟨?_, rfl⟩
  have : i < (strsC l).length := by simpa [strsC] using hi
  rw [Nat.mul_one, List.drop_eq_getElem_cons this]
  simp [strsF, AVal.cells, strsC, List.getD, hi]
theorem strsC_snoc (l : List (List UInt8)) (s : List UInt8) : strsC l ++ [.str s] = strsC (l ++ [s]) := by simp [strsC]
end Go.Proofs.YtmgkpbgfkjedeaaGreatDoor
namespace Go.Proofs.YtmgkpbgfkjedeaaGreatDoor
open Go Go.RowKit
inductive Js where
  | mk (k : Int) (t : List UInt8) (ks : List (List UInt8)) (l : List Js)
def Js.k : Js → Int | .mk k _ _ _ => k
def Js.t : Js → List UInt8 | .mk _ t _ _ => t
def Js.ks : Js → List (List UInt8) | .mk _ _ ks _ => ks
def Js.l : Js → List Js | .mk _ _ _ l => l
def Js.z : Js := .mk 0 [] [] []
abbrev atJ (l : List Js) (i : Nat) : Js := l.getD i Js.z
/-- A list of trees of so many levels. -/
def jsF : Nat → List Js → Nat → AVal
  | 0, _, _ => .bool false
  | d + 1, l, i => .agg [.int .i64 (atJ l i).k, .str (atJ l i).t, .list 1 (atJ l i).ks.length (strsF (atJ l i).ks), .list 4 (atJ l i).l.length (jsF d (atJ l i).l)]
/-- A tree; what is in it has so many levels. -/
abbrev Js.C (d : Nat) (x : Js) : List AVal := [.int .i64 x.k, .str x.t, .list 1 x.ks.length (strsF x.ks), .list 4 x.l.length (jsF d x.l)]
def Js.R (d : Nat) (x : Js) : AVal := .agg (Js.C d x)
def Js.le : Nat → Js → Prop
  | 0, x => x.l = []
  | d + 1, x => ∀ i, i < x.l.length → Js.le d (atJ x.l i)
/-- How much a tree holds. -/
def Js.sz : Nat → Js → Nat
  | 0, x => x.t.length + x.ks.length + Lib.lens x.ks + 1
  | d + 1, x => x.t.length + x.ks.length + Lib.lens x.ks + 1 + ((List.range x.l.length).map fun i => Js.sz d (atJ x.l i)).sum
/-! ## What is wrong with a tree -/
/-! ## A tree as text -/
end Go.Proofs.YtmgkpbgfkjedeaaGreatDoor
namespace Go.Proofs.YtmgkpbgfkjedeaaGreatDoor
open Go
set_option maxRecDepth 20000
set_option maxHeartbeats 4000000
set_option linter.unusedSimpArgs false
set_option linter.unusedVariables false
attribute [local irreducible] AWp AOps byteAt SrcOK OrOk GloAll FnSpec
attribute [local irreducible] nextS badI badS stepS rngR ownB
def mayZ (r : Int) : Bool := decide (0 ≤ r ∧ r ≤ 1114111 ∧ (r < 55296 ∨ 57343 < r))
theorem mayZ_t {r : Int} : mayZ r = true ↔ (0 ≤ r ∧ r ≤ 1114111 ∧ (r < 55296 ∨ 57343 < r)) := by simp [mayZ]
theorem mayZ_f {r : Int} : mayZ r = false ↔ ¬ (0 ≤ r ∧ r ≤ 1114111 ∧ (r < 55296 ∨ 57343 < r)) := by simp [mayZ]
attribute [local irreducible] mayZ
theorem utf_May {G : Glo} (r : Int) : FnIs Tryz.prog G 44 [.int .i64 r] (.bool (mayZ r)) := by
  have hGL : GloAll G [] := gloAll_nil
  refine fn_x Tryz.func44 Tryz.call44 rfl rfl rfl rfl hGL ?_
  intro C hC
  repeat' (first | (conv => whnf); first | refine .w ?_ | refine .v ?_ | refine sc_c ?_ ?_ <;> (intro hb; try exact dd hb) | apply sc_not | apply sc_or | (apply sc_i <;> intro hb) | (apply bx_i; intro hbd) | (apply cx_is; first | fail) | (apply cx_do (i := 0) rfl; first | fail) | (apply ab_i; intro bl) | (apply as_i; intro va vk vc hva) | (apply av_i; intro v) | (apply ac_i; intro bl cap hcap) | apply bo_l | (apply nx_i <;> intro hnx) | apply dw_q mixed hC hGL (by kernel_rfl) | (apply cq; assumption; (first | fail); exact rfl) | (show Rt _ _ _; exact rt_w) | fail)
  all_goals try conv => whnf
  all_goals (apply rt_is)
  all_goals (refine congrArg AVal.bool ?_)
  all_goals (rw [Bool.eq_iff_iff]; simp [mayZ_t, ltB_t, ltB_f, Bool.not_eq_true'] <;> omega)
theorem tup2 {k j : IntKind} {a b c e : Int} {H' : Heap} (h : c = a ∧ e = b) : Rt (fun (x : ARes) (H : Heap) => x = .ret (.tuple [.int k c, .int j e]) ∧ H = []) (.tuple [.int k a, .int j b]) H' := by
  obtain ⟨rfl, rfl⟩ := h
  exact rt_is rfl
theorem utf_Next {G : Glo} (s : List UInt8) : FnIs Tryz.prog G 29 [.str s] (.tuple [.int .i64 ((nextS s).1 : Int), .int .i64 ((nextS s).2 : Int)]) := by
  have hGL : GloAll G [] := gloAll_nil
  refine fn_x Tryz.func29 Tryz.call29 rfl rfl rfl rfl hGL ?_
  intro C hC
  repeat' (first | (conv => whnf); first | refine .w ?_ | refine .v ?_ | refine sc_c ?_ ?_ <;> (intro hb; try exact dd hb) | apply sc_not | apply sc_or | (apply sc_i <;> intro hb) | (apply bx_i; intro hbd) | (apply cx_is; first | exact utf_May _) | (apply cx_do (i := 0) rfl; first | exact utf_May _) | (apply ab_i; intro bl) | (apply as_i; intro va vk vc hva) | (apply av_i; intro v) | (apply ac_i; intro bl cap hcap) | apply bo_l | (apply nx_i <;> intro hnx) | apply dw_q mixed hC hGL (by kernel_rfl) | (apply cq; assumption; (first | exact utf_May _); exact rfl) | (show Rt _ _ _; exact rt_w) | fail)
  all_goals try conv => whnf
  any_goals (refine rds hC hGL 4 ?_)
  repeat' (first | (conv => whnf); first | refine .w ?_ | refine .v ?_ | refine sc_c ?_ ?_ <;> (intro hb; try exact dd hb) | apply sc_not | apply sc_or | (apply sc_i <;> intro hb) | (apply bx_i; intro hbd) | (apply cx_is; first | exact utf_May _) | (apply cx_do (i := 0) rfl; first | exact utf_May _) | (apply ab_i; intro bl) | (apply as_i; intro va vk vc hva) | (apply av_i; intro v) | (apply ac_i; intro bl cap hcap) | apply bo_l | (apply nx_i <;> intro hnx) | apply dw_q mixed hC hGL (by kernel_rfl) | (apply cq; assumption; (first | exact utf_May _); exact rfl) | (show Rt _ _ _; exact rt_w) | fail)
  all_goals try conv => whnf
  all_goals (refine tup2 ?_)
  all_goals (
    try simp only [show Int.toNat 0 = 0 from rfl, show Int.toNat 1 = 1 from rfl, show Int.toNat (1 + 1) = 2 from rfl, show Int.toNat (1 + 1 + 1) = 3 from rfl, Int.ofNat_toNat, mayZ_t, mayZ_f, ltB_t, ltB_f] at *
    generalize hz : nextS s = z
    unfold nextS contAt mayN cp2 cp3 cp4 at hz
    generalize byteAt s 0 = b0 at *
    generalize byteAt s 1 = b1 at *
    generalize byteAt s 2 = b2 at *
    generalize byteAt s 3 = b3 at *
    generalize s.length = l at *)
  all_goals (
    repeat' (split at hz; try (exfalso; omega))
    all_goals (try subst z)
    all_goals (first
      | exact ⟨rfl, rfl⟩
      | (simp only [Bool.and_eq_true, Bool.or_eq_true, decide_eq_true_eq, beq_iff_eq] at *; first | (exfalso; omega) | omega)))
end Go.Proofs.YtmgkpbgfkjedeaaGreatDoor
namespace Go.Proofs.YtmgkpbgfkjedeaaGreatDoor
open Go
set_option maxRecDepth 20000
set_option maxHeartbeats 4000000
set_option linter.unusedSimpArgs false
set_option linter.unusedVariables false
attribute [local irreducible] AWp AOps byteAt SrcOK OrOk GloAll FnSpec
attribute [local irreducible] nextS badI badS stepS rngR ownB mayZ
theorem valid_rune {G : Glo} (r : Int) : FnIs Tryz.prog G 55 [.int .i32 r] (.bool (mayZ r)) := by
  have hGL : GloAll G [] := gloAll_nil
  refine fn_x Tryz.func55 Tryz.call55 rfl rfl rfl rfl hGL ?_
  intro C hC
  repeat' (first | (conv => whnf); first | refine .w ?_ | refine .v ?_ | refine sc_c ?_ ?_ <;> (intro hb; try exact dd hb) | apply sc_not | apply sc_or | (apply sc_i <;> intro hb) | (apply bx_i; intro hbd) | (apply cx_is; first | fail) | (apply cx_do (i := 0) rfl; first | fail) | (apply ab_i; intro bl) | (apply as_i; intro va vk vc hva) | (apply av_i; intro v) | (apply ac_i; intro bl cap hcap) | apply bo_l | (apply nx_i <;> intro hnx) | apply dw_q mixed hC hGL (by kernel_rfl) | (apply cq; assumption; (first | fail); exact rfl) | (show Rt _ _ _; exact rt_w) | fail)
  all_goals try conv => whnf
  all_goals (apply rt_is; refine congrArg AVal.bool ?_)
  all_goals (rw [Bool.eq_iff_iff]; simp [mayZ_t, ltB_t, ltB_f, Bool.not_eq_true'] <;> omega)
def encU (r : Int) : List UInt8 := if mayZ r then (Utf8.encode r).data.toList else []
theorem encU_f {r : Int} (h : mayZ r = false) : encU r = [] := by unfold encU; rw [if_neg (by simp [h])]
theorem encU_t {r : Int} (h : mayZ r = true) : encU r = (Utf8.encode r).data.toList := by unfold encU; rw [if_pos h]
attribute [local irreducible] encU
theorem enc_all {r : Int} (hz : 0 ≤ r ∧ r ≤ 1114111 ∧ (r < 55296 ∨ 57343 < r)) : (Utf8.encode r).data.toList =
    if r.toNat < 128 then [UInt8.ofNat r.toNat] else if r.toNat < 2048 then [UInt8.ofNat (192 + r.toNat / 64), UInt8.ofNat (128 + r.toNat % 64)]
    else if r.toNat < 65536 then [UInt8.ofNat (224 + r.toNat / 4096), UInt8.ofNat (128 + r.toNat / 64 % 64), UInt8.ofNat (128 + r.toNat % 64)]
    else [UInt8.ofNat (240 + r.toNat / 262144), UInt8.ofNat (128 + r.toNat / 4096 % 64), UInt8.ofNat (128 + r.toNat / 64 % 64), UInt8.ofNat (128 + r.toNat % 64)] := by
  have hv : Utf8.valid r = true := by simp [Utf8.valid]; omega
  unfold Utf8.encode
  simp only [hv, if_true]
  (repeat' split) <;> first | rfl | omega
end Go.Proofs.YtmgkpbgfkjedeaaGreatDoor
namespace Go.Proofs.YtmgkpbgfkjedeaaGreatDoor
open Go Go.RowKit
set_option maxRecDepth 20000
/-- What a reader comes to: a thing and where it ends, or what is wrong and where. -/
inductive Rj (α : Type) where
  | ok (x : α) (b : Nat)
  | bad (e : Int) (p : Nat)
/-! ## Blanks -/
def blB (c : Nat) : Prop := c = 32 ∨ c = 9 ∨ c = 10 ∨ c = 13
instance (c : Nat) : Decidable (blB c) := inferInstanceAs (Decidable (_ ∨ _))
def skE (s : List UInt8) (i : Nat) : Nat := if h : i < s.length ∧ blB (byteAt s i) then skE s (i + 1) else i
termination_by s.length - i
decreasing_by omega
theorem skE_go {s : List UInt8} {i : Nat} (h : i < s.length) (h1 : blB (byteAt s i)) : skE s i = skE s (i + 1) := by rw [skE, dif_pos ⟨h, h1⟩]
theorem skE_no {s : List UInt8} {i : Nat} (h : ¬ (i < s.length ∧ blB (byteAt s i))) : skE s i = i := by rw [skE, dif_neg h]
theorem skE_ge (s : List UInt8) (i : Nat) : i ≤ skE s i ∧ (i ≤ s.length → skE s i ≤ s.length) := by
  by_cases h : i < s.length ∧ blB (byteAt s i)
  · rw [skE, dif_pos h]
    have := skE_ge s (i + 1)
    omega
  · rw [skE, dif_neg h]
    omega
termination_by s.length - i
decreasing_by omega
/-! ## Four digits -/
def isHx (c : Nat) : Prop := (48 ≤ c ∧ c ≤ 57) ∨ (97 ≤ c ∧ c ≤ 102) ∨ (65 ≤ c ∧ c ≤ 70)
instance (c : Nat) : Decidable (isHx c) := inferInstanceAs (Decidable (_ ∨ _))
def hxN (c : Nat) : Nat := if c ≤ 57 then c - 48 else if c ≤ 70 then c - 55 else c - 87
theorem hxN_lt {c : Nat} (h : isHx c) : hxN c < 16 := by unfold isHx at h; unfold hxN; (repeat' split) <;> omega
/-- So many digits more, behind a number. -/
def cdK (s : List UInt8) : Nat → Nat → Nat → Rj Nat
  | 0, a, n => .ok n a
  | k + 1, a, n => if s.length ≤ a then .bad 7 a else if isHx (byteAt s a) then cdK s k (a + 1) (n * 16 + hxN (byteAt s a)) else .bad 3 a
theorem cdK_ok {s : List UInt8} : ∀ {k a n m b : Nat}, cdK s k a n = .ok m b → b = a + k ∧ (a + k ≤ s.length ∨ k = 0) ∧ m < (n + 1) * 16 ^ k ∧ ∀ i, i < k → isHx (byteAt s (a + i))
  | 0, a, n, m, b, h => by
    cases h
    exact ⟨rfl, .inr rfl, by omega, fun i hi => absurd hi (Nat.not_lt_zero _)⟩
  | k + 1, a, n, m, b, h => by
    rw [cdK] at h
    split at h
    · cases h
    · split at h
      · rename_i h1 h2
        obtain ⟨q1, q2, q3, q4⟩ := cdK_ok h
        have h3 := hxN_lt h2
        refine ⟨by omega, .inl ?_, ?_, fun i hi => ?_⟩
        · rcases q2 with q | q <;> omega
        · refine Nat.lt_of_lt_of_le q3 ?_
          rw [Nat.pow_succ, Nat.mul_comm (16 ^ k) 16, ← Nat.mul_assoc]
          exact Nat.mul_le_mul_right _ (by omega)
        · cases i with
          | zero => exact h2
          | succ i => have := q4 i (by omega); rwa [show a + 1 + i = a + (i + 1) by omega] at this
      · cases h
/-! ## Texts -/
def unB (c : Nat) : Nat := if c = 34 then 34 else if c = 92 then 92 else if c = 47 then 47 else if c = 98 then 8 else if c = 102 then 12 else if c = 110 then 10 else if c = 114 then 13 else if c = 116 then 9 else 0
/-- The number that a \u stands for, whose \ stands at a place, and where it ends. -/
def uniQ (s : List UInt8) (i : Nat) : Rj Nat :=
  match cdK s 4 (i + 2) 0 with
  | .bad e p => .bad e p
  | .ok n _ =>
    if (55296 ≤ n ∧ n ≤ 56319) ∧ [92, 117].isPrefixOf (s.drop (i + 6)) = true then
      match cdK s 4 (i + 8) 0 with
      | .bad e p => .bad e p
      | .ok m _ => if 56320 ≤ m ∧ m ≤ 57343 then .ok (65536 + (n - 55296) * 1024 + m - 56320) (i + 12) else .bad 3 i
    else .ok n (i + 6)
def uniP (s : List UInt8) (i : Nat) : Rj (List UInt8) :=
  match uniQ s i with
  | .bad e p => .bad e p
  | .ok n b => if mayZ (n : Int) = true then .ok (encU (n : Int)) b else .bad 3 i
/-- One thing of a text: what it is, and where it ends; the text's end as nothing. -/
def chP (s : List UInt8) (i : Nat) : Rj (List UInt8) :=
  if s.length ≤ i then .bad 7 i
  else if byteAt s i < 32 then .bad 3 i
  else if byteAt s i ≠ 92 then .ok [UInt8.ofNat (byteAt s i)] (i + 1)
  else if s.length ≤ i + 1 then .bad 7 (i + 1)
  else if unB (byteAt s (i + 1)) ≠ 0 then .ok [UInt8.ofNat (unB (byteAt s (i + 1)))] (i + 2)
  else if byteAt s (i + 1) ≠ 117 then .bad 3 (i + 1)
  else uniP s i
theorem uniQ_ge {s : List UInt8} {i : Nat} {t b : Nat} (h : uniQ s i = .ok t b) : i + 6 ≤ b ∧ b ≤ s.length ∧ b ≤ i + 12 := by
  have inj : ∀ {x y : Nat} {c d : Nat}, Rj.ok x c = Rj.ok y d → c = d := fun h => by cases h; rfl
  unfold uniQ at h
  split at h
  · cases h
  · rename_i n _ h1
    obtain ⟨-, q2, -, -⟩ := cdK_ok h1
    split at h
    · split at h
      · cases h
      · rename_i m _ h2
        obtain ⟨-, q4, -, -⟩ := cdK_ok h2
        split at h
        · have := inj h; omega
        · cases h
    · have := inj h; omega
theorem encU_len (r : Int) : (encU r).length ≤ 4 := by
  by_cases h : mayZ r = true
  · rw [encU_t h, enc_all (mayZ_t.1 h)]
    (repeat' split) <;> simp
  · rw [encU_f (by simpa using h)]
    simp
theorem uniP_ge {s : List UInt8} {i : Nat} {t : List UInt8} {b : Nat} (h : uniP s i = .ok t b) : i + 6 ≤ b ∧ b ≤ s.length ∧ b ≤ i + 12 ∧ t.length ≤ 4 := by
  unfold uniP at h
  split at h
  · cases h
  · rename_i h1
    have := uniQ_ge h1
    split at h
    · cases h
      exact ⟨this.1, this.2.1, this.2.2, encU_len _⟩
    · cases h
theorem chP_ge {s : List UInt8} {i : Nat} {t : List UInt8} {b : Nat} (h : chP s i = .ok t b) : i < b ∧ b ≤ s.length ∧ i < s.length ∧ t.length ≤ b - i := by
  unfold chP at h
  (repeat' split at h) <;> first | (cases h; done) | (cases h; simp only [List.length_cons, List.length_nil]; omega) | (have := uniP_ge h; omega)
/-- A text's inside, up to its quote: so many steps at most. -/
def stP (s : List UInt8) : Nat → Nat → List UInt8 → Rj (List UInt8)
  | 0, _, _ => .bad 3 0
  | k + 1, i, acc => if i < s.length ∧ byteAt s i = 34 then .ok acc (i + 1) else
    match chP s i with
    | .bad e p => .bad e p
    | .ok t b => stP s k b (acc ++ t)
def txP (s : List UInt8) (a : Nat) : Rj (List UInt8) := if s.length ≤ a then .bad 7 a else if byteAt s a ≠ 34 then .bad 3 a else stP s (s.length + 1) (a + 1) []
theorem stP_ge {s : List UInt8} : ∀ {k i : Nat} {acc t : List UInt8} {b : Nat}, stP s k i acc = .ok t b → i < b ∧ b ≤ s.length
  | 0, _, _, _, _, h => by cases h
  | k + 1, i, acc, t, b, h => by
    rw [stP] at h
    split at h
    · cases h; omega
    · split at h
      · cases h
      · rename_i h1
        have := chP_ge h1
        have := stP_ge h
        omega
theorem txP_ge {s : List UInt8} {a : Nat} {t : List UInt8} {b : Nat} (h : txP s a = .ok t b) : a + 1 < b ∧ b ≤ s.length := by
  unfold txP at h
  split at h
  · cases h
  · split at h
    · cases h
    · have := stP_ge h; omega
/-! ## Trees -/
abbrev nulW : List UInt8 := [110, 117, 108, 108]
abbrev falW : List UInt8 := [102, 97, 108, 115, 101]
abbrev truW : List UInt8 := [116, 114, 117, 101]
/-- What comes at a place that is to be a sign. -/
def wnP (s : List UInt8) (a c : Nat) : Option (Int × Nat) := if s.length ≤ a then some (7, a) else if byteAt s a ≠ c then some (3, a) else none
/-- A key, and where its tree begins. -/
def kyP (s : List UInt8) (ks : List (List UInt8)) (a : Nat) : Rj (List UInt8) :=
  match txP s a with
  | .bad e p => .bad e p
  | .ok k b => if k ∈ ks then .bad 9 a else
    match wnP s (skE s b) 58 with
    | some (e, p) => .bad e p
    | none => .ok k (skE s b + 1)
def enB (ob : Bool) : Nat := if ob = true then 125 else 93
def kdJ (ob : Bool) : Int := if ob = true then 7 else 6
/-- Where an element begins, behind its comma. -/
def cmA (l : List Js) (a : Nat) : Nat := if l = [] then a else a + 1
def cmP (s : List UInt8) (l : List Js) (a : Nat) : Option (Int × Nat) := if l = [] then none else wnP s a 44
/-- What stands ahead of an element's tree: a comma, a key. -/
def hdP (s : List UInt8) (ob : Bool) (ks : List (List UInt8)) (l : List Js) (a : Nat) : Rj (List UInt8) :=
  match cmP s l a with
  | some (e, p) => .bad e p
  | none => if ob = true then kyP s ks (skE s (cmA l a)) else .ok [] (cmA l a)
def ksJ (ob : Bool) (ks : List (List UInt8)) (key : List UInt8) : List (List UInt8) := if ob = true then ks ++ [key] else ks
/-- What stands behind a bracket or a brace. -/
def elP (s : List UInt8) (f : Nat → Rj Js) (ob : Bool) : Nat → Nat → List (List UInt8) → List Js → Rj Js
  | 0, _, _, _ => .bad 3 0
  | k + 1, a, ks, l =>
    if a < s.length ∧ byteAt s a = enB ob then .ok (.mk (kdJ ob) [] ks l) (a + 1) else
    match hdP s ob ks l a with
    | .bad e p => .bad e p
    | .ok key b =>
      match f b with
      | .bad e p => .bad e p
      | .ok x c => elP s f ob k (skE s c) (ksJ ob ks key) (l ++ [x])
/-- A tree that may have so many levels. -/
def trP (s : List UInt8) : Nat → Nat → Rj Js
  | 0, a => .bad 4 (skE s a)
  | n + 1, a =>
    if s.length ≤ skE s a then .bad 7 (skE s a)
    else if nulW.isPrefixOf (s.drop (skE s a)) then .ok (.mk 1 [] [] []) (skE s a + 4)
    else if falW.isPrefixOf (s.drop (skE s a)) then .ok (.mk 2 [] [] []) (skE s a + 5)
    else if truW.isPrefixOf (s.drop (skE s a)) then .ok (.mk 3 [] [] []) (skE s a + 4)
    else if numI (s.drop (skE s a)) ≠ 0 then .ok (.mk 4 ((s.drop (skE s a)).take (numI (s.drop (skE s a)))) [] []) (skE s a + numI (s.drop (skE s a)))
    else if byteAt s (skE s a) = 34 then (match txP s (skE s a) with | .bad e p => .bad e p | .ok t b => .ok (.mk 5 t [] []) b)
    else if byteAt s (skE s a) = 91 then elP s (trP s n) false (s.length + 1) (skE s (skE s a + 1)) [] []
    else if byteAt s (skE s a) = 123 then elP s (trP s n) true (s.length + 1) (skE s (skE s a + 1)) [] []
    else .bad 3 (skE s a)
theorem wnP_ok {s : List UInt8} {a c : Nat} (h : wnP s a c = none) : a < s.length ∧ byteAt s a = c := by
  unfold wnP at h
  split at h
  · cases h
  · split at h
    · cases h
    · omega
theorem kyP_ge {s : List UInt8} {ks : List (List UInt8)} {a : Nat} {k : List UInt8} {b : Nat} (h : kyP s ks a = .ok k b) : a < b ∧ b ≤ s.length := by
  unfold kyP at h
  split at h
  · cases h
  · rename_i h1
    have q1 := txP_ge h1
    split at h
    · cases h
    · split at h
      · cases h
      · rename_i h3
        cases h
        have q2 := wnP_ok h3
        have q3 := skE_ge s ‹Nat›
        omega
theorem hdP_ge {s : List UInt8} {ob : Bool} {ks : List (List UInt8)} {l : List Js} {a : Nat} {k : List UInt8} {b : Nat} (ha : a ≤ s.length) (h : hdP s ob ks l a = .ok k b) : a ≤ b ∧ b ≤ s.length := by
  unfold hdP at h
  split at h
  · cases h
  · rename_i hw
    have ha1 : a ≤ cmA l a ∧ cmA l a ≤ s.length := by
      unfold cmA
      unfold cmP at hw
      split at hw
      · rename_i hl; rw [if_pos hl]; omega
      · rename_i hl; rw [if_neg hl]; have := wnP_ok hw; omega
    have hs := skE_ge s (cmA l a)
    split at h
    · have := kyP_ge h; omega
    · cases h; exact ha1
theorem elP_ge {s : List UInt8} {f : Nat → Rj Js} {ob : Bool} (hf : ∀ a x b, a ≤ s.length → f a = .ok x b → a < b ∧ b ≤ s.length) : ∀ {k a : Nat} {ks : List (List UInt8)} {l : List Js} {x : Js} {b : Nat}, a ≤ s.length → elP s f ob k a ks l = .ok x b → a < b ∧ b ≤ s.length
  | 0, _, _, _, _, _, _, h => by cases h
  | k + 1, a, ks, l, x, b, ha, h => by
    rw [elP] at h
    split at h
    · cases h; omega
    · split at h
      · cases h
      · rename_i hk
        have hc := hdP_ge ha hk
        split at h
        · cases h
        · rename_i hy
          have h1 := hf _ _ _ hc.2 hy
          have h3 := elP_ge hf ((skE_ge s _).2 h1.2) h
          have h4 := skE_ge s ‹Nat›
          rename_i d _ _ _
          have h2 := skE_ge s d
          omega
theorem pre_len {p t : List UInt8} (h : p.isPrefixOf t = true) : p.length ≤ t.length := (List.isPrefixOf_iff_prefix.1 h).length_le
theorem trP_ge {s : List UInt8} : ∀ {n a : Nat} {x : Js} {b : Nat}, a ≤ s.length → trP s n a = .ok x b → a < b ∧ b ≤ s.length
  | 0, a, x, b, _, h => by cases h
  | n + 1, a, x, b, ha, h => by
    have h0 := skE_ge s a
    have hl : (s.drop (skE s a)).length = s.length - skE s a := List.length_drop
    have hnum := numI_le (s.drop (skE s a))
    rw [trP] at h
    split at h
    · cases h
    · split at h
      · rename_i h1; have := pre_len h1; cases h; simp only [List.length_cons, List.length_nil] at this; omega
      · split at h
        · rename_i h1; have := pre_len h1; cases h; simp only [List.length_cons, List.length_nil] at this; omega
        · split at h
          · rename_i h1; have := pre_len h1; cases h; simp only [List.length_cons, List.length_nil] at this; omega
          · split at h
            · cases h; omega
            · split at h
              · split at h
                · cases h
                · rename_i h1; have := txP_ge h1; cases h; omega
              · have hk := skE_ge s (skE s a + 1)
                split at h
                · have := elP_ge (fun a x b h1 h2 => trP_ge h1 h2) (hk.2 (by omega)) h; omega
                · split at h
                  · have := elP_ge (fun a x b h1 h2 => trP_ge h1 h2) (hk.2 (by omega)) h; omega
                  · cases h
/-! ## What is wrong is something -/
theorem cdK_ne {s : List UInt8} : ∀ {k a n : Nat} {e : Int} {p : Nat}, cdK s k a n = .bad e p → e ≠ 0
  | 0, _, _, _, _, h => by cases h
  | k + 1, a, n, e, p, h => by
    rw [cdK] at h
    split at h
    · cases h; decide
    · split at h
      · exact cdK_ne h
      · cases h; decide
theorem chP_ne {s : List UInt8} {i : Nat} {e : Int} {p : Nat} (h : chP s i = .bad e p) : e ≠ 0 := by
  have inj : ∀ {α : Type} {x y : Int} {c d : Nat}, (Rj.bad x c : Rj α) = .bad y d → x = y := fun h => by cases h; rfl
  have h1 : ∀ {e : Int} {p : Nat}, uniQ s i = .bad e p → e ≠ 0 := by
    intro e p h
    unfold uniQ at h
    split at h
    · rename_i h2
      have := inj h
      subst this
      exact cdK_ne h2
    · split at h
      · split at h
        · rename_i h2
          have := inj h
          subst this
          exact cdK_ne h2
        · split at h
          · cases h
          · have := inj h; omega
      · cases h
  have h2 : ∀ {e : Int} {p : Nat}, uniP s i = .bad e p → e ≠ 0 := by
    intro e p h
    unfold uniP at h
    split at h
    · rename_i h2
      have := inj h
      subst this
      exact h1 h2
    · split at h
      · cases h
      · have := inj h; omega
  unfold chP at h
  (repeat' split at h) <;> first | (cases h; done) | (have := inj h; omega) | exact h2 h
theorem stP_ne {s : List UInt8} : ∀ {k i : Nat} {acc : List UInt8} {e : Int} {p : Nat}, stP s k i acc = .bad e p → e ≠ 0
  | 0, _, _, _, _, h => by cases h; decide
  | k + 1, i, acc, e, p, h => by
    rw [stP] at h
    split at h
    · cases h
    · split at h
      · rename_i h2; cases h; exact chP_ne h2
      · exact stP_ne h
theorem txP_ne {s : List UInt8} {a : Nat} {e : Int} {p : Nat} (h : txP s a = .bad e p) : e ≠ 0 := by
  unfold txP at h
  split at h
  · cases h; decide
  · split at h
    · cases h; decide
    · exact stP_ne h
theorem wnP_ne {s : List UInt8} {a c : Nat} {e : Int} {p : Nat} (h : wnP s a c = some (e, p)) : e ≠ 0 := by
  unfold wnP at h
  split at h
  · cases h; decide
  · split at h
    · cases h; decide
    · cases h
theorem hdP_ne {s : List UInt8} {ob : Bool} {ks : List (List UInt8)} {l : List Js} {a : Nat} {e : Int} {p : Nat} (h : hdP s ob ks l a = .bad e p) : e ≠ 0 := by
  unfold hdP cmP at h
  split at h
  · rename_i h2
    cases h
    split at h2
    · cases h2
    · exact wnP_ne h2
  · split at h
    · unfold kyP at h
      split at h
      · rename_i h2; cases h; exact txP_ne h2
      · split at h
        · cases h; decide
        · split at h
          · rename_i h2; cases h; exact wnP_ne h2
          · cases h
    · cases h
theorem elP_ne {s : List UInt8} {f : Nat → Rj Js} {ob : Bool} (hf : ∀ a e p, f a = .bad e p → e ≠ 0) : ∀ {k a : Nat} {ks : List (List UInt8)} {l : List Js} {e : Int} {p : Nat}, elP s f ob k a ks l = .bad e p → e ≠ 0
  | 0, _, _, _, _, _, h => by cases h; decide
  | k + 1, a, ks, l, e, p, h => by
    rw [elP] at h
    split at h
    · cases h
    · split at h
      · rename_i h2; cases h; exact hdP_ne h2
      · split at h
        · rename_i h2; cases h; exact hf _ _ _ h2
        · exact elP_ne hf h
theorem trP_ne {s : List UInt8} : ∀ {n a : Nat} {e : Int} {p : Nat}, trP s n a = .bad e p → e ≠ 0
  | 0, a, e, p, h => by cases h; decide
  | n + 1, a, e, p, h => by
    rw [trP] at h
    (repeat' split at h) <;> first | (cases h; done) | (cases h; decide) | (rename_i h2; cases h; exact txP_ne h2) | exact elP_ne (fun _ _ _ h => trP_ne h) h
end Go.Proofs.YtmgkpbgfkjedeaaGreatDoor
