/- Parts of the proof of pickAlls_card: Exg, Exq, Shb, Exh, Shelf, Shc, Len, Prm, Byt. -/
import Derived.KernelRfl
import Derived.Below
import Derived.Laws.Externs
import Derived.Shelf.Strings.Builder1
import Derived.Shelf.Strings.Builder2
import Derived.Shelf.Strings.OnBuilder
import Derived.Shelf.Small.Utf8
import Derived.Shelf.Small.Strs
import Derived.Shelf.Strings.BuilderF
import Derived.Shelf.Strings.BuilderK
import Derived.Shelf.Strings.BuilderRune
import Derived.Shelf.Strings.Builder2Cap
import Derived.Shelf.Strconv.Atoi
import Derived.Shelf.Strconv.Itoa0
import Derived.Shelf.Strconv.Itoa1
import Derived.Shelf.LaysM
import Derived.Shelf.Strconv.Itoa2
import Derived.Shelf.Strconv.Itoa3
import Derived.Shelf.Strconv.AtoiErrFast
import Derived.Shelf.Strconv.ParseIntEmpty
import Derived.Shelf.Strconv.AtoiFail
import Derived.Shelf.Strconv.Clone
import Derived.Shelf.Strconv.SyntaxError
import Derived.Shelf.LaysC
import Derived.Shelf.Strconv.ToError
import Derived.Shelf.Strconv.AtoiErr
import Derived.Shelf.Strconv.Lower
import Derived.Shelf.Strconv.ParseUint10
import Derived.Shelf.Strconv.ParseUint10Empty
import Derived.Shelf.Strconv.ParseUint10Any
import Derived.Shelf.Strconv.ParseInt10
import Derived.Shelf.Strconv.AtoiLong
import Derived.Shelf.Strconv.AtoiInnerAll
import Derived.Shelf.Strconv.RangeError
import Derived.Shelf.Strconv.ToErrorRange
import Derived.Shelf.Strconv.AtoiAll
import Derived.Shelf.Strconv.ErrVarAll
import Derived.Shelf.Strings.Search1
import Derived.Shelf.Strings.Search2
import Derived.Shelf.Strings.Search3
import Derived.Shelf.Strings.Cut
import Derived.Shelf.Strings.Count
import Derived.Shelf.Strings.Shaped
import Derived.Shelf.Strings.Split
import Derived.Shelf.Strings.SplitShaped
import Derived.Shelf.Unicode.Latin
import Derived.Shelf.Unicode.Decode
import Derived.Shelf.Strings.RuneCount
import Derived.Shelf.Strings.Explode
import Derived.Shelf.Unicode.DecodeSlow
import Derived.Shelf.Unicode.DecodeAny
import Derived.Shelf.Unicode.CaseLookup
import Derived.Shelf.Unicode.CaseConvert
import Derived.Shelf.Unicode.CaseTo
import Derived.Shelf.Unicode.CaseLaid
import Derived.Shelf.Strings.MapAny
import Derived.Shelf.Strings.BuilderCap
import Derived.Shelf.Strings.MapGrows
import Derived.Test.YtcoidjllehieeaaGreatDoorProg
import Derived.Lib.Join
import Derived.Test.YtcoidjllehieeaaGreatDoorBac
import Derived.Test.YtcoidjllehieeaaGreatDoorBaa
set_option linter.unusedVariables false
set_option linter.unusedSimpArgs false
namespace Go.Proofs.YtcoidjllehieeaaGreatDoor
open Go
set_option linter.unusedSimpArgs false
set_option linter.unusedSectionVars false
set_option linter.unusedVariables false
section
variable {P : Program} [Tab P] {C : Ctx} {n : Nat} {env : Env} {H : Heap} {Q : AExit → Env → Heap → Prop} {ops : Array Oper} {rest : List Oper} {G : Glo} {GL : List (Nat × List AVal)}
variable {eT : Option TypeId}
variable {d : Nat} {t : TypeId} {p : String} {af : Array Edge} {g : Option (Nat × Bool)} {b : Bool} {F : Prop}
variable {x y : Operand} {T : TypeId} {xT : TI} {tx ty : TypeId} {av : AVal}
theorem storeX_ok {K : Heap → Prop} (hg : guardA ops env g = some (b, b)) (h : storeX P env H T x y F K)
    (hF : F → AOps P C n ops ({ dst := none, op := .store T x y, type := t, pos := p, after := af, guard := g } :: rest) env H Q) (hK : ∀ H', K H' → AOps P C n ops rest env H' Q) :
    AOps P C n ops ({ dst := none, op := .store T x y, type := t, pos := p, after := af, guard := g } :: rest) env H Q := by
  unfold storeX at h
  split at h
  · rename_i xT ht
    split at h
    · rename_i i b o a hx hy
      split at h
      · rename_i b' cs hi
        rcases cellsOf_ok h with h | ⟨hp, h⟩
        · exact hF h
        · split at h
          · rename_i h1 h2 h3
            obtain ⟨rfl, h⟩ := h
            rw [forceL_eq, forceH_eq] at h
            exact ow_store hg hx hy hi ht (Nat.eq_of_beq_eq_true h1) h2 hp h3 (by
              have e := Nat.eq_of_beq_eq_true h1
              exact hK _ h)
          · exact hF h
      · rename_i b' s cap hi
        split at h
        · rename_i m h1
          obtain ⟨⟨rfl, ho, h0, h2⟩, h⟩ := h
          rw [forceH_eq] at h
          have hsz := Nat.eq_of_beq_eq_true h1
          intro R act w hm hf
          obtain ⟨hcap, _⟩ := hm.heap.holds _ (List.mem_of_getElem? hi)
          refine ao_heap (H' := H.set i (.cells b' none (ownB s cap))) (fun R w hm => buf_cells hi hm) ?_ R act w hm hf
          refine ow_store (av := .int .u8 m) hg hx hy (get_set hi) ht hsz.symm (Nat.ble_eq_true_of_le (by rw [ownB_length hcap, hsz]; omega)) rfl rfl ?_
          rw [hsz]
          have e : (ownB s cap).take o ++ AVal.cells (.int .u8 m) ++ (ownB s cap).drop (o + 1) = ownB (s.set o (UInt8.ofNat m.toNat)) cap := ownB_set ho h0 h2
          rw [e, set_set]
          refine ao_heap (H' := H.set i (.buf b' (s.set o (UInt8.ofNat m.toNat)) cap)) (fun R w hm => ?_) (hK _ h)
          have := cells_buf (by simpa using hcap) (get_set hi) hm
          rwa [set_set] at this
        · exact hF h
      · rename_i v' _ sz n0 cs hi
        rcases cellsOf_ok h with h | ⟨hp, h⟩
        · exact hF h
        · split at h
          · rename_i h1 h2
            split at h
            · rename_i hs1
              have e1 := Nat.eq_of_beq_eq_true hs1
              rw [← e1] at h
              obtain ⟨⟨hr, ho, h0⟩, h⟩ := h
              rw [forceH_eq] at h
              exact ow_store_row hg hx hy hi hr h0 ht (Nat.eq_of_beq_eq_true h1) ho hp h2 (hK _ h)
            · obtain ⟨⟨hr, ho, h0⟩, h⟩ := h
              rw [forceH_eq] at h
              exact ow_store_row hg hx hy hi hr h0 ht (Nat.eq_of_beq_eq_true h1) ho hp h2 (hK _ h)
          · exact hF h
      · exact hF h
    · exact hF h
  · exact hF h
theorem ao_dst_row {i sz m : Nat} {v : Value} {cs : List AVal} (hi : H[i]? = some (.row v eT sz m cs)) (h : AOps P C n ops rest ((d, .own i v) :: env) H Q) : AOps P C n ops rest ((d, .raw v) :: env) H Q :=
  fun R a w hm hf => ao_dst_own (row_vAgg hm hi) h R a w hm hf
theorem last_get {z : HEnt} : (H ++ [z])[H.length]? = some z := by simp
theorem appendX_ok {K : AVal → Heap → Prop} (hg : guardA ops env g = some (b, b)) (hdn : Nat.ble (d + 1) n = true) (h : appendX P env H T tx x y F K)
    (hF : F → AOps P C n ops ({ dst := some d, op := .call { callee := .builtin .append, args := [x, y].toArray, argTypes := [T, tx].toArray }, type := t, pos := p, after := af, guard := g } :: rest) env H Q)
    (hK : ∀ av H', K av H' → AOps P C n ops rest ((d, av) :: env) H' Q) :
    AOps P C n ops ({ dst := some d, op := .call { callee := .builtin .append, args := [x, y].toArray, argTypes := [T, tx].toArray }, type := t, pos := p, after := af, guard := g } :: rest) env H Q := by
  unfold appendX at h
  split at h
  · rename_i xT xx ht htx
    split at h
    · rename_i e e' hd hdx
      split at h
      · rename_i xe he
        split at h
        · rename_i z hz h1024 h1
          split at h
          · rename_i sz m f hzl hy
            split at h
            · rename_i hsz
              have hsz := Nat.eq_of_beq_eq_true hsz
              have hzl := Nat.eq_of_beq_eq_true hzl
              subst hsz
              split at h
              · rename_i i v hx
                split at h
                · rename_i v' eT sz' n0 cs hi
                  split at h
                  case h_2 => exact hF h
                  rename_i hty
                  obtain ⟨⟨rfl, rfl, hlen⟩, h⟩ := h
                  have hok : SrcOK xe.size m f ∧ ∀ (va : Option Addr) (vk vc : Nat), RowV (n0 + m) va vk → K (.own i (.slice va vk vc)) (H.set i (.row (.slice va vk vc) eT xe.size (n0 + m) (cs ++ rowCells m f))) := by
                    rcases h with ⟨h1, h2⟩ | ⟨h1, h2⟩
                    · exact ⟨srcChk_ok h1, fun va vk vc hv => by have := h2.h va vk vc hv; simp only [forceH_eq] at this; exact this⟩
                    · exact ⟨h1, fun va vk vc hv => by have := h2.h va vk vc hv; simp only [forceH_eq] at this; exact this⟩
                  exact ow_append hg hdn hx hi hy ht hd he rfl h1 h1024 hz hzl (fun R v hv => src_list hv htx hdx hok.1) hlen (tyOK_ok hty) (fun v' => ao_rowslice (get_set hi) fun ⟨va, vk, vc, e, hv⟩ => by subst e; exact hK _ _ (hok.2 va vk vc hv))
                · exact hF h
              · rename_i hx
                obtain ⟨hlen, h⟩ := h
                have hok : SrcOK xe.size m f ∧ ∀ (va : Option Addr) (vk vc : Nat), RowV m va vk → K (.own H.length (.slice va vk vc)) (H ++ [.row (.slice va vk vc) none xe.size m (rowCells m f)]) := by
                  rcases h with ⟨h1, h2⟩ | ⟨h1, h2⟩
                  · exact ⟨srcChk_ok h1, fun va vk vc hv => by have := h2.h va vk vc hv; simp only [forceH_eq] at this; exact this⟩
                  · exact ⟨h1, fun va vk vc hv => by have := h2.h va vk vc hv; simp only [forceH_eq] at this; exact this⟩
                refine ao_ghost_row (eT := none) xe.size (ao_end ?_)
                refine ao_append (i := H.length) hg hdn hx last_get hy ht hd he rfl h1 h1024 hz hzl (fun R v hv => src_list hv htx hdx hok.1) (by omega) (fun _ h => nomatch h) (fun v' => ?_)
                have e2 : (H ++ [HEnt.row (.slice none 0 0) none xe.size 0 []]).set H.length (.row v' none xe.size (0 + m) ([] ++ (List.range m).flatMap fun i => (f i).cells)) = H ++ [.row v' none xe.size m (rowCells m f)] := by
                  simp [rowCells]
                rw [e2]
                refine ao_rowslice last_get fun ⟨va, vk, vc, e, hv⟩ => ?_
                subst e
                exact ao_dst_row last_get (hK _ _ (hok.2 va vk vc hv))
              · exact hF h
            · exact hF h
          · exact hF h
        · exact hF h
      · exact hF h
    · exact hF h
  · exact hF h
theorem rv_conv_str {S : TypeId} {xS : TI} {s : List UInt8} (hx : evalA env x = some (.str s)) (h1 : tab P S = some xS) (hd1 : xS.desc = .string) (h2 : tab P T = some xT) (hd2 : xT.desc = .string) : RunV P C H env (.convert S T x) (.str s) := by
  intro R ρ w hm hf dst t p af g
  refine ⟨_, ?_, rel_str.2 rfl⟩
  simp only [execOp, rel_str.1 (hf _ _ hx), convert, Sem.run_bind, tab_run_und h1, tab_run_und h2, hd1, hd2, Result.andThen_ok, Sem.run_pure]
theorem ao_invoke {recv : Operand} {name : String} {args : List Operand} {ts : Array TypeId} {f : FuncId} {ty : TypeId} {a r : AVal} {avs : List AVal} {Qf : ARes → Heap → Prop}
    (hg : guardA ops env g = some (b, b)) (hdn : Nat.ble (d + 1) n = true) (hfv : evalA env recv = some (.iface ty a)) (ha : argsA env args = some avs)
    (hmt : ∀ R v, Rel R (unown a) v → ∀ w, ∃ u, (Go.method (P.types.size + Made.depth) ty v name).run P w = .ok (f, u) w ∧ Rel R r u)
    (hs : FnSpec P C.G f (r :: unownL avs) H Qf)
    (hret : ∀ v H', Qf (.ret v) H' → AOps P C n ops rest ((d, v) :: env) H' Q)
    (hpan : ∀ v H', Qf (.panic v) H' → Q (.panic v) env H') :
    AOps P C n ops ({ dst := some d, op := .call { callee := .invoke recv name, args := args.toArray, argTypes := ts }, type := t, pos := p, after := af, guard := g } :: rest) env H Q := by
  intro R act w hm hf
  refine wpList_step fun K hK => ?_
  rw [wanted_of hf hg, if_pos (by simp)]
  obtain ⟨v, e, hv1, hv2⟩ := rel_one (hf.eval hfv) rfl
  simp only [List.cons.injEq, and_true] at e
  obtain ⟨u, hu, hru⟩ := hmt R v (unown_rel a v ⟨hv1, hv2⟩) w
  have hrel : RelV R (r :: unownL avs) (#[u] ++ args.toArray.map act.eval).toList := by
    have := unownL_rel _ _ (argsA_rel (fun x av h => hf.eval h) ha)
    have e9 : (#[u] ++ args.toArray.map act.eval).toList = u :: args.map act.eval := by simp
    rw [e9]
    exact ⟨u, _, rfl, ⟨hru.1, hru.2⟩, this⟩
  have hrun : (execOp act.eval { dst := some d, op := .call { callee := .invoke recv name, args := args.toArray, argTypes := ts }, type := t, pos := p, after := af, guard := g : Oper }).run P w =
      (callFunc f (#[u] ++ args.toArray.map act.eval)).run P w := by
    have e0 : (#[Value.iface ty v] ++ args.toArray.map act.eval)[0]? = some (.iface ty v) := by simp
    have e1 : (#[Value.iface ty v] ++ args.toArray.map act.eval).extract 1 (#[Value.iface ty v] ++ args.toArray.map act.eval).size = args.toArray.map act.eval := by
      apply Array.ext'
      simp [List.extract_eq_take_drop]
      rw [List.take_of_length_le (by simp)]
    simp only [execOp, resolve, e, Sem.run_bind, Sem.run_pure, Result.andThen_ok, invoke, e0, e1, callMethod, run_program, hu]
  have hent : MS ⟨w, R, blks H, C.G, hm.glo, []⟩ R H w := MS.enter (H1 := H) (H2 := []) (by simpa using hm)
  have hms : ∀ {R' H' w'}, MS ⟨w, R, blks H, C.G, hm.glo, []⟩ R' H' w' → MS C R' H' w' := fun h => by
    have := MS.call (H2 := []) (by simpa using hm) h
    simpa using this
  rcases hs R w _ hm.glo hent hrel with ⟨h1, h2⟩ | ⟨x, w', h1, res, H', R', q, er, hm'⟩
  · rw [Oper.wp, hrun, h1, Oper.upon_enter]
    refine h2.mono ?_
    rintro en w' ⟨res, H', R', q, er, hm'⟩
    have hf' := hf.mono hm'.ge
    cases res with
    | ret x =>
      obtain ⟨y, rfl, hr⟩ := er
      exact hK _ _ (hret x H' q R' _ w' (hms hm') (hf'.put hdn hr))
    | panic x =>
      obtain ⟨y, rfl, hr⟩ := er
      exact ⟨.panic x, env, _, R', hpan x H' q, ⟨y, rfl, hr⟩, hms hm', hf'⟩
  · rw [Oper.wp, hrun, h1, Oper.upon_value]
    have hf' := hf.mono hm'.ge
    cases res with
    | ret v' =>
      obtain ⟨y, e, hr⟩ := er
      simp only [Ending.returned.injEq] at e
      subst e
      exact hK _ _ (hret v' H' q R' _ w' (hms hm') (hf'.put hdn hr))
    | panic v' => obtain ⟨y, e, _⟩ := er; cases e
theorem memX_ok (hC : C.G = G) (hGL : GloAll G GL) {op : Op} {Kp K : AVal → Heap → Prop} (hg : guardA ops env g = some (b, b)) (hdn : Nat.ble (d + 1) n = true) (h : memX P G GL env H op F Kp K)
    (hF : F → AOps P C n ops ({ dst := some d, op := op, type := t, pos := p, after := af, guard := g } :: rest) env H Q)
    (hp : ∀ v H', Kp v H' → Q (.panic v) env H') (hK : ∀ av H', K av H' → AOps P C n ops rest ((d, av) :: env) H' Q) :
    AOps P C n ops ({ dst := some d, op := op, type := t, pos := p, after := af, guard := g } :: rest) env H Q := by
  subst hC
  unfold memX at h
  split at h
  · rename_i T
    split at h
    · rename_i xT ht
      split at h
      · rename_i cs hc
        refine ao_alloc hg hdn ht hc (fun bl => ao_end (ao_dst_own (i := H.length) rfl (hK _ _ ?_)))
        have := h.h bl
        simp only [forceL_eq, forceH_eq] at this
        exact this
      · exact hF h
    · exact hF h
  · rename_i T x
    split at h
    · rename_i a hx
      rcases cellsOf_ok h with h | ⟨hpl, h | h⟩
      · exact hF h
      · exact ao_box_sealed hg hdn hx hpl (hK _ _ h)
      · refine ao_box hg hdn hx hpl (fun bl => ao_end (ao_dst_own (i := H.length) rfl (hK _ _ ?_)))
        have := h.h bl
        simp only [forceH_eq] at this
        exact this
    · exact hF h
  · rename_i args ts
    split at h
    · rename_i x y T tx h1 h2
      rw [call_args h1, call_args h2] at hF ⊢
      exact appendX_ok hg hdn h hF hK
    · exact hF h
  · rename_i recv name args ts
    split at h
    · rename_i ty a avs h1 h2
      obtain ⟨f, r, hmt, hs⟩ := h
      obtain ⟨Qf, hs, hr, hpn⟩ := hs
      have e := call_args (a := args) rfl
      rw [e]
      exact ao_invoke hg hdn h1 h2 hmt hs (fun v H' q => hK _ _ (hr v H' q)) (fun v H' q => hp _ _ (hpn v H' q))
    · exact hF h
  · rename_i fv args ts
    unfold callX at h
    split at h
    · rename_i f l1 l2 avs h1 h2
      rw [forceL_eq] at h
      obtain ⟨Qf, hs, hr, hpn⟩ := h
      have e := call_args (a := args) rfl
      rw [e]
      refine ao_call (H1 := H) (H2 := []) (Qf := Qf) hg hdn h1 h2 ?_ (by simp) (fun v H' q => by simpa using hK _ _ (hr v H' q)) (fun v H' q => by simpa using hp _ _ (hpn v H' q))
      intro R w args' hG hm ha
      exact hs R w args' hG hm (unownL_rel _ _ ha)
    · exact hF h
  · rename_i S T x
    split at h
    · rename_i s hx
      unfold bytesX at h
      split at h
      · rename_i xS xT hS hT
        split at h
        · rename_i e hd1 hd2
          split at h
          · rename_i xe he
            split at h
            · rename_i hu
              refine ao_buf hg hdn hx hS hd1 hT hd2 he hu (fun bl cap hcap => ?_)
              have h := h.h bl cap hcap
              simp only [forceH_eq] at h
              refine ao_end (ao_dst_own (i := H.length) rfl ?_)
              refine ao_heap (H' := H ++ [.buf bl s cap]) (fun R w hm => ?_) (hK _ _ h)
              have := cells_buf hcap last_get hm
              simpa using this
            · exact hF h
          · exact hF h
        · rename_i hd1 hd2
          exact ao_of_run hg hdn (rv_conv_str hx hS hd1 hT hd2) (hK _ _ h)
        · exact hF h
      · exact hF h
    · exact ao_of_x hg hdn (valX_ok hGL h) hF (fun av h => hK av H h)
  · rename_i T m l
    unfold buildSX at h
    split at h
    · rename_i xT ps ht hl
      split at h
      · rename_i e hd
        split at h
        · rename_i xe he
          split at h
          · rename_i z hz
            split at h
            · rename_i h5 h6 h7 h8 h9
              have e2 := call_args (a := l) rfl
              rw [e2]
              rcases h with h | h
              · exact ao_buildSlice_sealed hg hdn hl ht hd he hz h5 h6 h7 h8 h9 (hK _ _ h)
              · refine ao_buildSlice_row hg hdn hl ht hd he hz h5 h6 h7 h8 h9 (fun v => ao_end (ao_rowslice last_get fun ⟨va, vk, vc, e, hv⟩ => ?_))
                subst e
                refine ao_dst_row (i := H.length) last_get (hK _ _ ?_)
                have := h.h va vk vc hv
                simp only [forceL_eq, forceH_eq] at this
                exact this
            · exact hF h
          · exact hF h
        · exact hF h
      · exact hF h
    · exact hF h
  · rename_i T x
    split at h
    · rename_i xT s ht hx
      split at h
      · rename_i hd
        refine ao_range_str hg hdn hx ht hd (fun bl => ao_end (ao_dst_own (i := H.length) rfl (hK _ _ ?_)))
        have := h.h bl
        simp only [forceH_eq] at this
        exact this
      · exact hF h
    · exact hF h
  · rename_i x
    split at h
    · rename_i i b hx
      split at h
      · rename_i b' s pos hi
        obtain ⟨rfl, h1, h2⟩ := h
        refine ow_next2 hg hdn hx hi (fun hlt => hK _ _ ?_) (fun hlt => hK _ _ (h2 hlt))
        have := h1 hlt
        rwa [forceH_eq] at this
      · exact hF h
    · exact hF h
  · rename_i T
    refine ao_mapnew hg hdn (fun bl => ao_end (ao_dst_own (i := H.length) rfl (hK _ _ ?_)))
    have := h.h bl
    simp only [forceH_eq] at this
    exact this
  · rename_i T x y ok
    split at h
    · rename_i xT i b k ht hx hy
      split at h
      · rename_i kt et b' es hd hi
        split at h
        · rename_i xk xe hk he
          split at h
          · rename_i z hkk hz
            obtain ⟨rfl, h⟩ := h
            rcases lookX_ok h with h | ⟨j, a, hj, h⟩ | ⟨hj, h⟩
            · exact hF h
            · refine ao_of_run hg hdn (rv_look_hit ok hx hy hi ht hd hk hkk hj) (hK _ _ ?_)
              cases ok <;> exact h
            · refine ao_of_run hg hdn (rv_look_miss ok hx hy hi ht hd hk hkk hj he hz) (hK _ _ ?_)
              cases ok <;> exact h
          · exact hF h
        · exact hF h
      · exact hF h
    · exact hF h
  · exact ao_of_x hg hdn (valX_ok hGL h) hF (fun av h => hK av H h)
theorem mapSetX_ok {op : Op} {z : Operand} (hop : op = .mapUpdate T x y z ∨ op = .insert T x y z) {K : Heap → Prop} (hg : guardA ops env g = some (b, b)) (h : mapSetX P env H T x y z F K)
    (hF : F → AOps P C n ops ({ dst := none, op := op, type := t, pos := p, after := af, guard := g } :: rest) env H Q) (hK : ∀ H', K H' → AOps P C n ops rest env H' Q) :
    AOps P C n ops ({ dst := none, op := op, type := t, pos := p, after := af, guard := g } :: rest) env H Q := by
  unfold mapSetX at h
  split at h
  · rename_i xT i b k a ht hx hy hz
    split at h
    · rename_i kt et b' es hd hi
      split at h
      · rename_i xk hk
        split at h
        · rename_i hkk
          obtain ⟨rfl, h⟩ := h
          rcases lookX_ok h with h | ⟨j, a', hj, h⟩ | ⟨hj, h⟩
          · exact hF h
          · rw [forceH_eq] at h
            exact ao_mapset hop hg hx hy hz hi ht hd hk hkk (.inl ⟨j, a', hj, hK _ h⟩)
          · rw [forceH_eq] at h
            exact ao_mapset hop hg hx hy hz hi ht hd hk hkk (.inr ⟨hj, hK _ h⟩)
        · exact hF h
      · exact hF h
    · exact hF h
  · exact hF h
theorem ao_skip_undef_none {o : Oper} {e : Nat} (hs : guardSlot ops o.guard = some e) (hv : Env.get env e = some (.raw undef)) (hd : o.dst = none)
    (h : AOps P C n ops rest env H Q) : AOps P C n ops (o :: rest) env H Q := by
  intro R a w hm hf
  refine wpList_step fun K hK => ?_
  have hw : Region.wanted o (yielded ops a.tmps) = false := by
    unfold guardSlot at hs
    unfold Region.wanted
    split at hs
    · rename_i j want h
      rw [h]
      split at hs
      · rename_i o' ho
        obtain ⟨x, hx, hr⟩ := hf.fr e _ hv
        rw [rel_raw.1 hr] at hx
        simp [yielded, ho, hs, hx, undef]
      · cases hs
    · cases hs
  rw [hw, if_neg (by simp), hd]
  exact hK _ _ (h R _ w hm hf)
theorem opsX_ok (hC : C.G = G) (hGL : GloAll G GL) : ∀ (l : List Oper) (env : Env) (H : Heap), opsX P C n G GL ops Q l env H → AOps P C n ops l env H Q
  | [], env, H, h => ao_nil h
  | o :: rest, env, H, h => by
    have ih := opsX_ok hC hGL rest
    replace h : stepX P C n G GL ops o rest Q (opsX P C n G GL ops Q rest) env H := h
    generalize opsX P C n G GL ops Q rest = K at h ih
    have run : ∀ env' b, guardA ops env' o.guard = some (b, b) → (match o.op with
      | .panic x => match evalA env' x with
        | some (.iface ty v) => Q (.panic (.iface ty v)) env' H
        | _ => Op1 P C n ops (o :: rest) env' H Q
      | op => match o.dst with
        | some d => match Nat.ble (d + 1) n with
          | true => memX P G GL env' H op (Op1 P C n ops (o :: rest) env' H Q) (fun v H' => Q (.panic v) env' H') (fun av H' => K ((d, av) :: env') H')
          | false => Op1 P C n ops (o :: rest) env' H Q
        | none => match op with
          | .store T x y => storeX P env' H T x y (Op1 P C n ops (o :: rest) env' H Q) (fun H' => K env' H')
          | .mapUpdate T x y z => mapSetX P env' H T x y z (Op1 P C n ops (o :: rest) env' H Q) (fun H' => K env' H')
          | .insert T x y z => mapSetX P env' H T x y z (Op1 P C n ops (o :: rest) env' H Q) (fun H' => K env' H')
          | _ => Op1 P C n ops (o :: rest) env' H Q) → AOps P C n ops (o :: rest) env' H Q := by
      intro env' b hg h
      obtain ⟨dst, op, type, pos, after, guard⟩ := o
      dsimp only at h hg ⊢
      split at h
      · rename_i x
        split at h
        · rename_i ty v hx
          exact ao_panic hg hx h
        · exact h.h
      · split at h
        · rename_i d
          split at h
          · rename_i hdn
            exact memX_ok hC hGL hg hdn h (fun h => h.h) (fun v H' h => h) (fun av H' h => ih _ _ h)
          · exact h.h
        · split at h
          · exact storeX_ok hg h (fun h => h.h) (fun H' h => ih _ _ h)
          · exact mapSetX_ok (.inl rfl) hg h (fun h => h.h) (fun H' h => ih _ _ h)
          · exact mapSetX_ok (.inr rfl) hg h (fun h => h.h) (fun H' h => ih _ _ h)
          · exact h.h
    have skip : ∀ env', (∀ d, o.dst = some d → Nat.ble (d + 1) n = true → AOps P C n ops rest ((d, .raw undef) :: env') H Q → AOps P C n ops (o :: rest) env' H Q) →
        (o.dst = none → AOps P C n ops rest env' H Q → AOps P C n ops (o :: rest) env' H Q) → (match o.dst with
      | some d => match Nat.ble (d + 1) n with
        | true => K ((d, .raw undef) :: env') H
        | false => Op1 P C n ops (o :: rest) env' H Q
      | none => K env' H) → AOps P C n ops (o :: rest) env' H Q := by
      intro env' h1 h2 h
      split at h
      · rename_i d hd
        split at h
        · rename_i hdn; exact h1 d hd hdn (ih _ _ h)
        · exact h.h
      · rename_i hd; exact h2 hd (ih _ _ h)
    simp only [stepX, guardX] at h
    split at h
    · rename_i hgn
      exact run env true (by rw [hgn]; rfl) h
    · rename_i j want hgn
      split at h
      · rename_i o' ho
        split at h
        · rename_i e he
          split at h
          · rename_i b hb
            have hgA : guardA ops env o.guard = some (b, want) := by rw [hgn]; simp only [guardA, ho, he, hb]
            have hgS : guardSlot ops o.guard = some e := by rw [hgn]; simp only [guardSlot, ho, he]
            have hgT : ∀ v, guardA ops ((e, .bool v) :: env) o.guard = some (v, want) := fun v => by rw [hgn]; exact guard_const ho he
            split at h
            · refine ao_split hgA hgS hb (fun hv => ?_) (fun hv => ?_)
              · exact run _ true (hgT true) (h.1 hv)
              · exact skip _ (fun d hd hdn k => ao_skip' (hgT false) hd hdn k) (fun hd k => ao_skip_none (hgT false) rfl hd k) (h.2 hv)
            · refine ao_split hgA hgS hb (fun hv => ?_) (fun hv => ?_)
              · exact skip _ (fun d hd hdn k => ao_skip (hgT true) hd hdn k) (fun hd k => ao_skip_none (hgT true) rfl hd k) (h.1 hv)
              · exact run _ false (hgT false) (h.2 hv)
          · rename_i v hv
            have hgS : guardSlot ops o.guard = some e := by rw [hgn]; simp only [guardSlot, ho, he]
            obtain ⟨rfl, h⟩ := h
            exact skip _ (fun d hd hdn k => ao_skip_undef hgS hv hd hdn k) (fun hd k => ao_skip_undef_none hgS hv hd k) h
          · exact h.h
        · exact h.h
      · exact h.h
theorem blockX_ok {id : Nat} {x : AExit} {e : Env} {h : Heap} (q : blockX id Q x e h) : blockQ id Q x e h := by
  cases x with
  | exit i =>
    simp only [blockX] at q
    simp only [blockQ]
    split at q
    · rename_i hb
      exact ⟨fun _ => q, fun hne => absurd (Nat.eq_of_beq_eq_true hb) hne⟩
    · rename_i hb
      exact ⟨fun he => (by subst he; rw [Nat.beq_refl] at hb; cases hb), fun _ => q⟩
  | normal => exact q
  | goto i => exact q
  | ret => exact q
  | panic v => exact q
theorem codeX_ok (hC : C.G = G) (hGL : GloAll G GL) : ∀ (c : Code) (env : Env) (H : Heap) (Q : AExit → Env → Heap → Prop), codeX P C n G GL c env H Q → AWp P C n c env H Q
  | .skip, _, _, _, h => aw_skip h
  | .region id ops dr, env, H, Q, h => by
    cases dr with
    | false =>
      replace h : opsX P C n G GL ops Q ops.toList env H := h
      have e := call_args (a := ops) rfl
      have := aw_region (id := id) (l := ops.toList) (by rw [← e]; exact opsX_ok hC hGL _ _ _ h)
      rwa [← e] at this
    | true => exact Dw.h h
  | .seq a b, env, H, Q, h => by
    replace h : codeX P C n G GL a env H (thenQ (fun e h => codeX P C n G GL b e h Q) Q) := h
    refine aw_seq ((codeX_ok hC hGL a env H _ h).mono ?_)
    intro x e h' q
    cases x with
    | normal => exact codeX_ok hC hGL b e h' Q q
    | exit i => exact q
    | goto i => exact q
    | ret => exact q
    | panic v => exact q
  | .cond c x y, env, H, Q, h => by
    replace h : (match evalA env c with
      | some (.bool b) => Sc b (codeX P C n G GL x env H Q) (codeX P C n G GL y env H Q)
      | _ => Cd P C n (.cond c x y) env H Q) := h
    split at h
    · rename_i b hb
      exact aw_cond hb (fun e => codeX_ok hC hGL x env H Q (h.1 e)) (fun e => codeX_ok hC hGL y env H Q (h.2 e))
    · exact h.h
  | .block id c, env, H, Q, h => aw_block ((codeX_ok hC hGL c env H _ h).mono fun _ _ _ q => blockX_ok q)
  | .exit id, _, _, _, h => aw_exit h
  | .ret, _, _, _, h => aw_ret h
  | .loop c, _, _, _, h => Lp.h h
  | .rangeFunc .., _, _, _, h => Cd.h h
  | .scope _, _, _, _, h => Cd.h h
  | .label _, _, _, _, h => Cd.h h
  | .goto _, _, _, _, h => Cd.h h
  | .refuse _, _, _, _, h => Cd.h h
/-! ## Loops -/
structure Nxt {X : Type} (I : X → Env) (J : X → Heap) (Inv : X → Prop) (μ : X → Nat) (x : X) (e : Env) (h : Heap) : Prop where
  h : ∃ x', Inv x' ∧ μ x' < μ x ∧ Env.sub e (I x') ∧ (J x').Sublist h
theorem nxt {X : Type} {I : X → Env} {J : X → Heap} {Inv : X → Prop} {μ : X → Nat} {x : X} {e : Env} {h : Heap} (x' : X) (h1 : Inv x') (h2 : μ x' < μ x) (h3 : Env.sub e (I x')) (h4 : h = J x') : Nxt I J Inv μ x e h := ⟨⟨x', h1, h2, h3, h4 ▸ List.Sublist.refl _⟩⟩
/-- .. what else is owned is let go. -/
theorem nxs {X : Type} {I : X → Env} {J : X → Heap} {Inv : X → Prop} {μ : X → Nat} {x : X} {e : Env} {h : Heap} (x' : X) (h1 : Inv x') (h2 : μ x' < μ x) (h3 : Env.sub e (I x')) (h4 : (J x').Sublist h) : Nxt I J Inv μ x e h := ⟨⟨x', h1, h2, h3, h4⟩⟩
/-- A loop whose rounds may let go of what they own. -/
theorem aw_loopS {c : Code} {X : Type} (I : X → Env) (J : X → Heap) (Inv : X → Prop) (μ : X → Nat) (x0 : X) (h0 : Inv x0) (hs : Env.sub env (I x0)) (hH : (J x0).Sublist H)
    (round : ∀ x, Inv x → AWp P C n c (I x) (J x) (thenQ (fun e h => ∃ x', Inv x' ∧ μ x' < μ x ∧ Env.sub e (I x') ∧ (J x').Sublist h) Q)) :
    AWp P C n (.loop c) env H Q := by
  intro R a w hm hf
  refine wp_loop_ghost (fun m a w => ∃ x R, Inv x ∧ μ x = m ∧ MS C R (J x) w ∧ FS C.D n R (I x) a) (μ x0) ⟨x0, R, h0, rfl, hm.drop hH, hf.sub hs⟩ ?_
  rintro m a w ⟨x, R, hx, rfl, hm, hf⟩
  refine wp_mono (round x hx R a w hm hf) ?_
  rintro e a' w' ⟨x', en, H', R', q, er, hm', hf'⟩
  cases x' with
  | normal =>
    simp only [ExitRel] at er; subst er
    obtain ⟨x', hx', hlt, hs', hsub⟩ := q
    exact ⟨μ x', hlt, x', R', hx', rfl, hm'.drop hsub, hf'.sub hs'⟩
  | exit i => simp only [ExitRel] at er; subst er; exact ⟨.exit i, en, H', R', q, rfl, hm', hf'⟩
  | goto i => simp only [ExitRel] at er; subst er; exact ⟨.goto i, en, H', R', q, rfl, hm', hf'⟩
  | ret => simp only [ExitRel] at er; subst er; exact ⟨.ret, en, H', R', q, rfl, hm', hf'⟩
  | panic v => obtain ⟨y, rfl, hr⟩ := er; exact ⟨.panic v, en, H', R', q, ⟨y, rfl, hr⟩, hm', hf'⟩
theorem lp {c : Code} {X : Type} (hC : C.G = G) (hGL : GloAll G GL) (I : X → Env) (J : X → Heap) (Inv : X → Prop) (μ : X → Nat) (x0 : X) (h0 : Inv x0) (hs : Env.sub env (I x0)) (hH : H = J x0)
    (round : ∀ x, Inv x → codeX P C n G GL c (I x) (J x) (thenQ (fun e h => Nxt I J Inv μ x e h) Q)) : Lp P C n c env H Q :=
  ⟨aw_loopS I J Inv μ x0 h0 hs (hH ▸ List.Sublist.refl _) fun x hx => (codeX_ok hC hGL _ _ _ _ (round x hx)).mono fun ex e h q => by
    cases ex with
    | normal => exact Nxt.h q
    | exit i => exact q
    | goto i => exact q
    | ret => exact q
    | panic v => exact q⟩
/-- So many rounds at most. -/
def Rds (P : Program) [Tab P] (C : Ctx) (n : Nat) (G : Glo) (GL : List (Nat × List AVal)) (c : Code) (Q : AExit → Env → Heap → Prop) : Nat → Env → Heap → Prop
  | 0, _, _ => False
  | k + 1, e, h => codeX P C n G GL c e h (thenQ (Rds P C n G GL c Q k) Q)
theorem rds {c : Code} (hC : C.G = G) (hGL : GloAll G GL) (k : Nat) (h : Rds P C n G GL c Q k env H) : Lp P C n c env H Q := by
  refine ⟨aw_rounds k ?_⟩
  induction k generalizing env H with
  | zero => exact h
  | succ k ih =>
    refine ar_succ ((codeX_ok hC hGL _ _ _ _ h).mono ?_)
    intro x e h' q
    cases x with
    | normal => exact ih q
    | exit i => exact q
    | goto i => exact q
    | ret => exact q
    | panic v => exact q
/-! ## A function's end -/
inductive Rt (Qf : ARes → Heap → Prop) (v : AVal) (H : Heap) : Prop
  | mk (H' : Heap) (hs : H'.Sublist H) (hq : Qf (.ret v) H')
inductive Pn (Qf : ARes → Heap → Prop) (v : AVal) (H : Heap) : Prop
  | mk (H' : Heap) (hs : H'.Sublist H) (hq : Qf (.panic v) H')
def resX (P : Program) [Tab P] (env : Env) (H : Heap) : List ResultVar → (List AVal → Prop) → Prop
  | [], k => k []
  | .tmp t :: rs, k => match Env.get env t with
    | some v => resX P env H rs fun vs => k (v :: vs)
    | none => False
  | .cell a ty :: rs, k => match Env.get env a, tab P ty with
    | some (.own i (.pointer (some ⟨b, 0, none⟩))), some x => match H[i]? with
      | some (.cells b' eT cs) => match Nat.beq x.size cs.length, descAgg x.desc with
        | true, true => Sp (b' = b) (resX P env H rs fun vs => k (.agg cs :: vs))
        | true, false => match cs with
          | [v] => match v.isAgg with
            | false => Sp (b' = b) (resX P env H rs fun vs => k (v :: vs))
            | true => False
          | _ => False
        | false, _ => False
      | _ => False
    | _, _ => False
theorem resX_ok : ∀ (rs : List ResultVar) (k : List AVal → Prop), resX P env H rs k → ∃ vs, resAll P env H rs vs ∧ k vs
  | [], k, h => ⟨[], rfl, h⟩
  | .tmp t :: rs, k, h => by
    simp only [resX] at h
    split at h
    · rename_i v hv
      obtain ⟨vs, h1, h2⟩ := resX_ok rs _ h
      exact ⟨v :: vs, ⟨v, vs, rfl, hv, h1⟩, h2⟩
    · exact h.elim
  | .cell a ty :: rs, k, h => by
    simp only [resX] at h
    split at h
    · rename_i i b x ha hx
      split at h
      · rename_i b' eT cs hi
        split at h
        · rename_i h1 h2
          obtain ⟨rfl, h⟩ := h
          obtain ⟨vs, h3, h4⟩ := resX_ok rs _ h
          exact ⟨_, ⟨_, vs, rfl, ⟨b', i, eT, cs, x, .inr ⟨i, ha⟩, hi, hx, Nat.eq_of_beq_eq_true h1, .inl ⟨h2, rfl⟩⟩, h3⟩, h4⟩
        · rename_i h1 h2
          split at h
          · rename_i v
            split at h
            · rename_i hv
              obtain ⟨rfl, h⟩ := h
              obtain ⟨vs, h3, h4⟩ := resX_ok rs _ h
              exact ⟨_, ⟨_, vs, rfl, ⟨b', i, eT, _, x, .inr ⟨i, ha⟩, hi, hx, Nat.eq_of_beq_eq_true h1, .inr ⟨h2, rfl, hv⟩⟩, h3⟩, h4⟩
            · exact h.elim
          · exact h.elim
        · exact h.elim
      · exact h.elim
    · exact h.elim
def RetX (P : Program) [Tab P] (rs : List ResultVar) (Qf : ARes → Heap → Prop) : AExit → Env → Heap → Prop
  | .ret, env, H | .normal, env, H => resX P env H rs fun vs => match vs with
    | [v] => Rt Qf v H
    | vs => Rt Qf (.tuple vs) H
  | .panic v, _, H => Pn Qf v H
  | _, _, _ => False
theorem RetX_ok {rs : List ResultVar} {Qf : ARes → Heap → Prop} {x : AExit} {e : Env} {h : Heap} (q : RetX P rs Qf x e h) : RetQ P rs Qf x e h := by
  cases x with
  | ret =>
    obtain ⟨vs, h1, h2⟩ := resX_ok rs _ q
    have : Rt Qf (resVal vs) h := by
      match vs with
      | [v] => exact h2
      | [] => exact h2
      | _ :: _ :: _ => exact h2
    obtain ⟨H', h3, h4⟩ := this
    exact ⟨vs, H', h1, h3, h4⟩
  | normal =>
    obtain ⟨vs, h1, h2⟩ := resX_ok rs _ q
    have : Rt Qf (resVal vs) h := by
      match vs with
      | [v] => exact h2
      | [] => exact h2
      | _ :: _ :: _ => exact h2
    obtain ⟨H', h3, h4⟩ := this
    exact ⟨vs, H', h1, h3, h4⟩
  | panic v => obtain ⟨H', h2, h3⟩ := q; exact ⟨H', h2, h3⟩
  | exit i => exact q
  | goto i => exact q
/-- FROM THE WALK TO THE CONTRACT. -/
theorem fn_x {f : FuncId} {fn : Func} {c : Code} {avs : List AVal} {Qf : ARes → Heap → Prop} {rs : List ResultVar} (hf : P.funcs[f]? = some fn)
    (hc : ∀ args w, (callFunc f args).run P w = .ok (.enter f args) w) (hb : fn.body = some c) (hn : fn.ntmps = n) (hrs : fn.results = rs.toArray) (hlen : Nat.ble avs.length n = true) (hGL : GloAll G GL)
    (h : ∀ C : Ctx, C.G = G → codeX P C n G GL c (argEnv 0 avs) H (RetX P rs Qf)) : FnSpec P G f avs H Qf :=
  fn_spec hf hb hc hn hrs hlen fun w0 R0 hG => (codeX_ok rfl hGL _ _ _ _ (h ⟨w0, R0, blks H, G, hG, []⟩ rfl)).mono fun _ _ _ q => RetX_ok q
theorem rt_is {v v' : AVal} (h : v' = v) : Rt (fun x H => x = .ret v ∧ H = []) v' H := ⟨[], List.nil_sublist _, by rw [h], rfl⟩
theorem rt_do {v v' : AVal} {H0 H' : Heap} (h : v' = v) (hs : H0.Sublist H') : Rt (fun x H => x = .ret v ∧ H = H0) v' H' := ⟨H0, hs, by rw [h], rfl⟩
/-! ## Calls -/
theorem fn_frame {f : FuncId} {avs : List AVal} {H1 : Heap} (H2 : Heap) {Qf : ARes → Heap → Prop} (h : FnSpec P G f avs H1 Qf) : FnSpec P G f avs (H1 ++ H2) (fun r H' => ∃ H1', Qf r H1' ∧ H' = H1' ++ H2) := by
  intro R w args hG hm ha
  rcases h R w args hG hm.enter ha with ⟨h1, h2⟩ | ⟨v, w', h1, res, H', R', q, er, hm'⟩
  · exact .inl ⟨h1, h2.mono fun e w' ⟨res, H', R', q, er, hm'⟩ => ⟨res, H' ++ H2, R', ⟨H', q, rfl⟩, er, MS.call hm hm'⟩⟩
  · exact .inr ⟨v, w', h1, res, H' ++ H2, R', ⟨H', q, rfl⟩, er, MS.call hm hm'⟩
theorem MS.blks_iff {w0 w : World} {R0 R : Seal} {B B' : List Nat} {hG : G.p R0} (hb : ∀ k, k ∈ B ↔ k ∈ B') (h : MS ⟨w0, R0, B, G, hG, []⟩ R H w) : MS ⟨w0, R0, B', G, hG, []⟩ R H w :=
  ⟨h.sealed, h.ge, fun k hk => by rcases h.fresh k hk with h1 | h1 | h1; exact .inl h1; exact .inr (.inl h1); exact .inr (.inr ((hb k).1 h1)), h.heap,
    fun z hz k hk => by rcases h.own z hz k hk with h1 | h1; exact .inl h1; exact .inr ((hb k).1 h1), ⟨h.ext.os, h.ext.tape, h.ext.output, h.ext.size, fun k hk hn => h.ext.block k hk (fun hm => hn ((hb k).1 hm))⟩⟩
theorem fn_perm {f : FuncId} {avs : List AVal} {H1 H2 : Heap} {Qf : ARes → Heap → Prop} (hp : H1.Perm H2) (h : FnSpec P G f avs H1 Qf) : FnSpec P G f avs H2 Qf := by
  have hb : ∀ k, k ∈ blks H2 ↔ k ∈ blks H1 := fun k => by
    have := (hp.filterMap HEnt.blk).mem_iff (a := k)
    exact this.symm
  intro R w args hG hm ha
  rcases h R w args hG ((hm.perm hp.symm).blks_iff hb) ha with ⟨h1, h2⟩ | ⟨v, w', h1, res, H', R', q, er, hm'⟩
  · exact .inl ⟨h1, h2.mono fun e w' ⟨res, H', R', q, er, hm'⟩ => ⟨res, H', R', q, er, hm'.blks_iff fun k => (hb k).symm⟩⟩
  · exact .inr ⟨v, w', h1, res, H', R', q, er, hm'.blks_iff fun k => (hb k).symm⟩
theorem fn_heap {f : FuncId} {avs : List AVal} {Qf Qf' : ARes → Heap → Prop} (h : FnSpec P G f avs H Qf) (hq : ∀ r H', Qf r H' → ∃ H'', H'.Perm H'' ∧ Qf' r H'') : FnSpec P G f avs H Qf' := by
  intro R w args hG hm ha
  rcases h R w args hG hm ha with ⟨h1, h2⟩ | ⟨v, w', h1, res, H', R', q, er, hm'⟩
  · exact .inl ⟨h1, h2.mono fun e w' ⟨res, H', R', q, er, hm'⟩ => let ⟨H'', hp, q'⟩ := hq _ _ q; ⟨res, H'', R', q', er, hm'.perm hp⟩⟩
  · obtain ⟨H'', hp, q'⟩ := hq _ _ q
    exact .inr ⟨v, w', h1, res, H'', R', q', er, hm'.perm hp⟩
variable {f : FuncId} {avs : List AVal} {K Kp : AVal → Heap → Prop}
theorem iv {ty : TypeId} {a : AVal} {name : String} (f : FuncId) (r : AVal) (hm : ∀ R v, Rel R a v → ∀ w, ∃ u, (Go.method (P.types.size + Made.depth) ty v name).run P w = .ok (f, u) w ∧ Rel R r u) (k : Cx P G f (r :: avs) H K Kp) :
    Iv P G ty a name avs H K Kp := .mk f r hm k
theorem cx_is {v : AVal} (hs : FnIs P G f avs v) (k : K v H) : Cx P G f avs H K Kp := by
  refine ⟨_, fn_frame H hs, ?_, ?_⟩
  · rintro v' H' ⟨H1', ⟨e, rfl⟩, rfl⟩; cases e; exact k
  · rintro v' H' ⟨H1', ⟨e, rfl⟩, rfl⟩; cases e
/-- A call that answers what it answers, and leaves nothing. -/
theorem cx_any {Qf : AVal → Prop} (hs : FnSpec P G f avs [] (fun r H => (∃ v, r = .ret v ∧ Qf v) ∧ H = [])) (k : ∀ v, Qf v → K v H) : Cx P G f avs H K Kp := by
  refine ⟨_, fn_frame H hs, ?_, ?_⟩
  · rintro v' H' ⟨H1', ⟨⟨v, e, q⟩, rfl⟩, rfl⟩; cases e; exact k _ q
  · rintro v' H' ⟨H1', ⟨⟨v, e, q⟩, rfl⟩, rfl⟩; cases e
theorem set_perm {i : Nat} {x : HEnt} (y : HEnt) (hi : H[i]? = some x) : ([y] ++ H.eraseIdx i).Perm (H.set i y) := by
  have := perm_front (get_set (y := y) hi)
  have e : (H.set i y).eraseIdx i = H.eraseIdx i := List.eraseIdx_set_eq
  rw [e] at this
  exact this.symm
theorem cx_do {i : Nat} {x y : HEnt} {v : AVal} (hi : H[i]? = some x) (hs : FnSpec P G f avs [x] (fun r H => r = .ret v ∧ H = [y])) (k : forceH (H.set i y) (K v)) : Cx P G f avs H K Kp := by
  rw [forceH_eq] at k
  have hp := perm_front hi
  refine ⟨fun r H' => r = .ret v ∧ H' = H.set i y, fn_heap (fn_perm (H1 := [x] ++ H.eraseIdx i) (by simpa using hp.symm) (fn_frame (H.eraseIdx i) hs)) ?_, ?_, ?_⟩
  · rintro r H' ⟨H1', ⟨rfl, rfl⟩, rfl⟩
    exact ⟨_, set_perm y hi, rfl, rfl⟩
  · rintro v' H' ⟨e, rfl⟩; cases e; exact k
  · rintro v' H' ⟨e, rfl⟩; cases e
end
/-! ## Words that close what is plain -/
theorem Sp.w {p k : Prop} (hk : k) (hp : p := by first | exact rfl | omega | exact ⟨rfl, rfl, by omega⟩ | exact ⟨rfl, by omega⟩ | exact ⟨rfl, by omega, by omega, by omega⟩ | exact ⟨rfl, by simp, by omega, by omega⟩ | exact ⟨⟨_, rfl⟩, by omega⟩ | exact ⟨⟨_, rfl⟩, by omega, by omega⟩ | assumption | decide | (simp only [List.length_drop, List.length_take, List.length_append, List.length_set, List.length_cons, List.length_nil, OrOk] at *; omega) | (simp; omega)) : Sp p k := ⟨hp, hk⟩
theorem Ch.w {p k b : Prop} (hk : k) (hp : p := by first | exact rfl | omega | exact ⟨rfl, rfl, by omega⟩ | exact ⟨rfl, by omega⟩ | exact ⟨rfl, by omega, by omega, by omega⟩ | exact ⟨rfl, by simp, by omega, by omega⟩ | exact ⟨⟨_, rfl⟩, by omega⟩ | exact ⟨⟨_, rfl⟩, by omega, by omega⟩ | assumption | decide | (simp only [List.length_drop, List.length_take, List.length_append, List.length_set, List.length_cons, List.length_nil, OrOk] at *; omega) | (simp; omega)) : Ch (Sp p k) b := .inl ⟨hp, hk⟩
theorem Ch.v {p k a : Prop} (hk : k) (hp : p := by first | assumption | decide | (intro i hi; exact ⟨rfl, rfl, rfl⟩)) : Ch a (Sp p k) := .inr ⟨hp, hk⟩
theorem dd {p q : Prop} (hp : p) (n : p → False := by intro hb; first | omega | exact absurd rfl hb | exact absurd hb (by decide) | exact absurd hb (by assumption) | exact absurd (by assumption) hb | (simp only [List.length_cons, List.length_nil, List.length_append] at hb; omega)) : q := (n hp).elim
theorem Ix.w {i m : Nat} {K : Nat → Prop} (k : K i) (h : i < m := by first | omega | (simp only [List.length_drop, List.length_take, List.length_append, List.length_set, List.length_cons, List.length_nil] at *; omega)) : Ix (i : Int) m K := ix_nat h k
theorem Ix.v {i : Int} {m : Nat} {K : Nat → Prop} (k : K i.toNat) (h : 0 ≤ i ∧ i < m := by first | omega | (simp only [List.length_drop, List.length_take, List.length_append, List.length_set, List.length_cons, List.length_nil] at *; omega)) : Ix i m K := ix_int h k
theorem Sd.w {i m : Nat} {K : Nat → Prop} (k : K i) (h : i ≤ m := by first | omega | (simp only [List.length_drop, List.length_take, List.length_append, List.length_set, List.length_cons, List.length_nil] at *; omega)) : Sd (i : Int) m K := sd_nat h k
theorem Sd.v {i : Int} {m : Nat} {K : Nat → Prop} (k : K i.toNat) (h : 0 ≤ i ∧ i ≤ m := by first | omega | (simp only [List.length_drop, List.length_take, List.length_append, List.length_set, List.length_cons, List.length_nil] at *; omega)) : Sd i m K := sd_int h k
theorem Sl.w {i j m : Nat} {K : Nat → Nat → Prop} (k : K i j) (h : i ≤ j ∧ j ≤ m := by first | omega | (simp only [List.length_drop, List.length_take, List.length_append, List.length_set, List.length_cons, List.length_nil] at *; omega)) : Sl (i : Int) (j : Int) m K := sl_nat h k
theorem Sl.v {i j : Int} {m : Nat} {K : Nat → Nat → Prop} (k : K i.toNat j.toNat) (h : 0 ≤ i ∧ i ≤ j ∧ j ≤ m := by first | omega | (simp only [List.length_drop, List.length_take, List.length_append, List.length_set, List.length_cons, List.length_nil] at *; omega)) : Sl i j m K := sl_int h k
theorem rt_w {v v' : AVal} {H0 H' : Heap} (h : v' = v := by exact rfl) (hs : H0.Sublist H' := by repeat (first | exact List.nil_sublist _ | apply List.Sublist.cons_cons)) : Rt (fun x H => x = .ret v ∧ H = H0) v' H' := rt_do h hs
theorem env_w {a b : Env} (h : Env.sub a b := by repeat (first | exact trivial | refine And.intro rfl ?_)) : Env.sub a b := h
theorem sub_w {a b : Heap} (h : a.Sublist b := by repeat (first | exact List.nil_sublist _ | apply List.Sublist.cons_cons | apply List.Sublist.cons)) : a.Sublist b := h
theorem Sc.w {t f : Prop} (h : t) : Sc true t f := sc_true h
theorem Sc.v {t f : Prop} (h : f) : Sc false t f := sc_false h
/-- What a test's two answers say. -/
class ScB (b : Bool) (p q : outParam Prop) : Prop where
  t : b = true → p
  f : b = false → q
theorem sb_of {b : Bool} {p q : Prop} (h : ∀ {t f : Prop}, (p → t) → (q → f) → Sc b t f) : ScB b p q := ⟨fun e => by
  have := h (t := p) (f := q) id id
  exact this.1 e, fun e => by
  have := h (t := p) (f := q) id id
  exact this.2 e⟩
instance sb_lt {x y : Int} : ScB (ltB x y) (x < y) (y ≤ x) := sb_of sc_lt
instance sb_nlt {x y : Int} : ScB (!ltB x y) (y ≤ x) (x < y) := sb_of sc_nlt
instance sb_eq {x y : Int} : ScB (eqB x y) (x = y) (x ≠ y) := sb_of sc_eq
instance sb_neq {x y : Int} : ScB (!eqB x y) (x ≠ y) (x = y) := sb_of sc_neq
instance sb_seq {x y : List UInt8} : ScB (seqB x y) (x = y) (x ≠ y) := sb_of sc_seq
instance sb_nseq {x y : List UInt8} : ScB (!seqB x y) (x ≠ y) (x = y) := sb_of sc_nseq
instance (priority := high) sb_nil {x : List UInt8} : ScB (seqB x []) (x.length = 0) (x.length ≠ 0) := sb_of sc_nil
instance (priority := high) sb_nnil {x : List UInt8} : ScB (!seqB x []) (x.length ≠ 0) (x.length = 0) := sb_of sc_nnil
theorem sc_c {b : Bool} {p q t f : Prop} [h : ScB b p q] (ht : p → t) (hf : q → f) : Sc b t f := ⟨fun e => ht (h.1 e), fun e => hf (h.2 e)⟩
theorem Ia.w {P : Program} {ty S T : TypeId} {a b : Prop} (k : a) (h : ∀ v w, (Instr.typeAssert (.iface ty v) S T true).run P w = .ok (.tuple #[.iface ty v, .bool true]) w := by assumption) : Ia P ty S T a b := .hit h k
theorem Ia.v {P : Program} {ty S T : TypeId} {a b : Prop} (k : b) (h : ∀ v w, (Instr.typeAssert (.iface ty v) S T true).run P w = .ok (.tuple #[.nilIface, .bool false]) w := by assumption) : Ia P ty S T a b := .miss h k
theorem Gt.w {cs : List AVal} {o : Nat} {K : AVal → Prop} {a : AVal} (k : K a) (h : cs[o]? = some a := by assumption) (ha : a.isAgg = false := by exact rfl) : Gt cs o K := .mk a h ha k
theorem Iv.w {P : Program} {G : Glo} {ty : TypeId} {a : AVal} {name : String} {avs : List AVal} {H : Heap} {K Kp : AVal → Heap → Prop} {f : FuncId} {r : AVal} (k : Cx P G f (r :: avs) H K Kp) (hm : ∀ R v, Rel R a v → ∀ w, ∃ u, (Go.method (P.types.size + Made.depth) ty v name).run P w = .ok (f, u) w ∧ Rel R r u := by assumption) : Iv P G ty a name avs H K Kp := .mk f r hm k
end Go.Proofs.YtcoidjllehieeaaGreatDoor
namespace Go.Proofs.YtcoidjllehieeaaGreatDoor
open Go
set_option linter.unusedSimpArgs false
set_option linter.unusedSectionVars false
set_option linter.unusedVariables false
/-- One value, whatever the world of the class. -/
def RunF (P : Program) (C : Ctx) (H : Heap) (env : Env) (op : Op) (av : AVal) : Prop :=
  ∀ (R : Seal) (ρ : Operand → Value), Evals R env ρ → ∃ v, Rel R av v ∧ ∀ (R' : Seal) (w : World), R.le R' → MS C R' H w → ∀ (dst : Option Nat) (t : TypeId) (p : String) (af : Array Edge) (g : Option (Nat × Bool)),
    (execOp ρ { dst := dst, op := op, type := t, pos := p, after := af, guard := g }).run P w = .ok (.value v) w
structure Qf0 (P : Program) (C : Ctx) (n : Nat) (ops : Array Oper) (l : List Oper) (env : Env) (H : Heap) (K : Env → Prop) : Prop where
  h : AQ P C n ops l env H K
/-- A call that hands back what is fixed. -/
inductive Cq (P : Program) (G : Glo) (f : FuncId) (avs : List AVal) (K : AVal → Prop) : Prop
  | mk (v : AVal) (hc : ∀ args w, (callFunc f args).run P w = .ok (.enter f args) w) (hs : FnIs P G f avs v) (hd : v.det = true) (k : K v)
theorem cq {P : Program} {G : Glo} {f : FuncId} {avs : List AVal} {K : AVal → Prop} {v : AVal} (hc : ∀ args w, (callFunc f args).run P w = .ok (.enter f args) w) (hs : FnIs P G f avs v) (hd : v.det = true) (k : K v) : Cq P G f avs K := .mk v hc hs hd k
section
variable (P : Program) [Tab P] (C : Ctx) (n : Nat) (G : Glo) (GL : List (Nat × List AVal)) (H : Heap)
/-- An operation that looks at no memory that changes: its value may be an address. -/
def stillOp (env : Env) : Op → Bool
  | .fieldAddr _ x _ => match evalA env x with
    | some (.rop _ _) => true
    | _ => false
  | .load _ x => match evalA env x with
    | some (.rop _ _) => true
    | _ => false
  | .indexAddr _ x _ => match evalA env x with
    | some (.list _ _ _) => true
    | some (.rop _ _) => true
    | _ => false
  | _ => false
/-- The value is fixed where the slots' values are. -/
def fixX (env : Env) (op : Op) (F : Prop) : Xf := fun K =>
  match op with
  | .move x | .assign x => match evalA env x with
    | some av => K av
    | none => F
  | .extract x i => match evalA env x with
    | some (.tuple cs) => match cs[i]? with
      | some av => K av
      | none => F
    | _ => F
  | .nilCheck x => match evalA env x with
    | some (.rop cs off) => K (.rop cs off)
    | some (.own i (.pointer (some a))) => K (.own i (.pointer (some a)))
    | _ => F
  | .pick c x y => match evalA env c, evalA env x, evalA env y with
    | some (.bool b), some a, some a' => Sc b (K a) (K a')
    | _, _, _ => F
  | .build T l => buildX P env T l.toList F K
  | .makeInterface T x => ifaceX P env T x F K
  | op => match stillOp env op with
    | true => valX P [] env H op F K
    | false => valX P GL env H op F fun av => match av.det with
      | true => K av
      | false => F
def quStep (ops : Array Oper) (o : Oper) (rest : List Oper) (K : Env → Prop) (ih : Env → Prop) (env : Env) : Prop :=
  guardX ops env o.guard (Qf0 P C n ops (o :: rest) env H K)
    (fun env' => match o.dst with
      | some d => match Nat.ble (d + 1) n with
        | true => match o.op with
          | .call ⟨.value fv, args, _⟩ => match evalA env' fv, argsA env' args.toList with
            | some (.func (.func f) [] []), some avs => Cq P G f avs fun v => ih ((d, v) :: env')
            | _, _ => Qf0 P C n ops (o :: rest) env' H K
          | op => fixX P GL H env' op (Qf0 P C n ops (o :: rest) env' H K) fun av => ih ((d, av) :: env')
        | false => Qf0 P C n ops (o :: rest) env' H K
      | none => Qf0 P C n ops (o :: rest) env' H K)
    (fun env' => match o.dst with
      | some d => match Nat.ble (d + 1) n with
        | true => ih ((d, .raw undef) :: env')
        | false => Qf0 P C n ops (o :: rest) env' H K
      | none => ih env')
noncomputable def quX (ops : Array Oper) (K : Env → Prop) (l : List Oper) : Env → Prop :=
  List.rec (motive := fun _ => Env → Prop) K (fun o rest ih => quStep P C n G GL H ops o rest K ih) l
end
section
variable {P : Program} [Tab P] {C : Ctx} {n : Nat} {env : Env} {H : Heap} {Q : AExit → Env → Heap → Prop} {K : Env → Prop} {ops : Array Oper} {rest : List Oper} {G : Glo} {GL : List (Nat × List AVal)} {F : Prop}
variable {d : Nat} {t : TypeId} {p : String} {af : Array Edge} {g : Option (Nat × Bool)} {b : Bool} {x : Operand} {av : AVal}
theorem runF_det {op : Op} (h : RunV P C H env op av) (hd : av.det = true) : RunF P C H env op av := by
  intro R ρ hf
  refine ⟨av.conc, det_rel hd, fun R' w hle hm dst t p af g => ?_⟩
  obtain ⟨v, h1, h2⟩ := h R' ρ w hm (fun x a hx => rel_mono hle (hf x a hx)) dst t p af g
  rw [h1, det_eq h2 hd]
theorem aq_fix {op : Op} (hg : guardA ops env g = some (b, b)) (hdn : Nat.ble (d + 1) n = true) (hx : RunF P C H env op av) (h : AQ P C n ops rest ((d, av) :: env) H K) :
    AQ P C n ops ({ dst := some d, op := op, type := t, pos := p, after := af, guard := g } :: rest) env H K := by
  intro R a hf
  refine wpQuiet_step fun X hX => ?_
  rw [wanted_of hf hg, if_pos (by simp)]
  obtain ⟨v, hv, hrun⟩ := hx R a.eval (fun x a hx => hf.eval hx)
  refine ⟨v, ?_, hX _ (h R _ (hf.put hdn hv))⟩
  rintro w ⟨R', hle, hms⟩
  show Oper.quietUpon P _ w _ ((execOp a.eval _).run P w)
  rw [hrun R' w hle hms]
  exact ⟨rfl, rfl⟩
theorem rf_build {T : TypeId} {xT : TI} {l : List (Nat × Operand)} {ps : List (Nat × AVal)} {fs : List Field} {pl : List (Nat × Nat)} {z cs : List AVal}
    (hl : partsA env l = some ps) (h1 : tab P T = some xT) (h2 : xT.desc = .struct fs.toArray) (h3 : placesA P fs = some pl) (h4 : zeroCellsA xT.zero = some z) (h5 : fillA pl z ps = some cs) : RunF P C H env (.build T l.toArray) (.agg cs) := by
  intro R ρ hf
  obtain ⟨v, hv, hr⟩ := zeroCellsA_rel (R := R) h4
  obtain ⟨Cs, hC, hrC⟩ := fillA_run (place := (pl.toArray[·]?)) (fun i x hi => by simpa using hi) (partsA_rel hf hl) hr h5
  refine ⟨.agg Cs, ⟨hrC, rfl⟩, fun R' w _ hm dst t p af g => ?_⟩
  have hmap : (l.toArray.map fun x => (x.1, ρ x.2)).toList = l.map fun x => (x.1, ρ x.2) := by simp
  simp only [execOp, Instr.build, Sem.run_bind, tab_run_zero h1 hv, Result.andThen_ok, tab_run_und h1, h2, Array.mapM_eq_mapM_toList, Sem.run_map, placesA_run h3]
  rw [show (Array.map (fun x : Nat × Operand => match x with | (i, x) => (i, ρ x)) l.toArray).toList = l.map fun x => (x.1, ρ x.2) from hmap, hC]
  rfl
theorem rf_build_arr {T : TypeId} {xT : TI} {l : List (Nat × Operand)} {ps : List (Nat × AVal)} {m e : Nat} {xe : TI} {z cs : List AVal}
    (hl : partsA env l = some ps) (h1 : tab P T = some xT) (h2 : xT.desc = .array m e) (h3 : tab P e = some xe) (h4 : zeroCellsA xT.zero = some z) (h5 : fillA (arrPl m 0 xe.size) z ps = some cs) : RunF P C H env (.build T l.toArray) (.agg cs) := by
  intro R ρ hf
  obtain ⟨v, hv, hr⟩ := zeroCellsA_rel (R := R) h4
  obtain ⟨Cs, hC, hrC⟩ := fillA_run (place := fun i => some (i * xe.size, xe.size)) (fun i x hi => by rw [arrPl_at hi, Nat.zero_add]) (partsA_rel hf hl) hr h5
  refine ⟨.agg Cs, ⟨hrC, rfl⟩, fun R' w _ hm dst t p af g => ?_⟩
  have hmap : (l.toArray.map fun x => (x.1, ρ x.2)).toList = l.map fun x => (x.1, ρ x.2) := by simp
  simp only [execOp, Instr.build, Sem.run_bind, tab_run_zero h1 hv, Result.andThen_ok, tab_run_und h1, h2, tab_run_size h3]
  rw [show (Array.map (fun x : Nat × Operand => match x with | (i, x) => (i, ρ x)) l.toArray).toList = l.map fun x => (x.1, ρ x.2) from hmap, hC]
  rfl
theorem rf_buildX {T : TypeId} {l : Array (Nat × Operand)} {F : Prop} {K : AVal → Prop} (h : buildX P env T l.toList F K) : F ∨ ∃ av, RunF P C H env (.build T l) av ∧ K av := by
  unfold buildX at h
  split at h
  · rename_i xT ht
    split at h
    · rename_i fs hd
      split at h
      · rename_i ps pl z h1 h2 h3
        split at h
        · rename_i cs h4
          rw [forceL_eq] at h
          have := rf_build (P := P) (C := C) (H := H) (l := l.toList) h1 ht (by simpa using hd) h2 h3 h4
          exact .inr ⟨_, by simpa using this, h⟩
        · exact .inl h
      · exact .inl h
    · rename_i m e hd
      split at h
      · rename_i ps xe z h1 h2 h3
        split at h
        · rename_i cs h4
          rw [forceL_eq] at h
          have := rf_build_arr (P := P) (C := C) (H := H) (l := l.toList) h1 ht hd h2 h3 h4
          exact .inr ⟨_, by simpa using this, h⟩
        · exact .inl h
      · exact .inl h
    · exact .inl h
  · exact .inl h
theorem rf_ifaceX {T : TypeId} {x : Operand} {F : Prop} {K : AVal → Prop} (h : ifaceX P env T x F K) : F ∨ ∃ av, RunF P C H env (.makeInterface T x) av ∧ K av := by
  unfold ifaceX at h
  split at h
  · rename_i xT v ht hx
    split at h
    · rename_i h2
      refine .inr ⟨_, fun R ρ hf => ⟨.iface T (ρ x), rel_iface (hf _ _ hx), fun R' w _ hm dst t p af g => ?_⟩, h⟩
      simp only [execOp, Instr.makeInterface, Sem.run_bind, tab_run_und ht, Result.andThen_ok]
      cases hd : xT.desc <;> first | rfl | (rw [hd] at h2; simp [descIface] at h2)
    · exact .inl h
  · exact .inl h
theorem rf_move (hx : evalA env x = some av) : RunF P C H env (.move x) av := fun R ρ hf => ⟨ρ x, hf _ _ hx, fun _ _ _ _ _ _ _ _ _ => rfl⟩
theorem rf_assign (hx : evalA env x = some av) : RunF P C H env (.assign x) av := fun R ρ hf => ⟨ρ x, hf _ _ hx, fun _ _ _ _ _ _ _ _ _ => rfl⟩
theorem rf_pick {c x y : Operand} {b : Bool} {a a' : AVal} (hc : evalA env c = some (.bool b)) (hx : evalA env x = some a) (hy : evalA env y = some a') : RunF P C H env (.pick c x y) (if b then a else a') := by
  intro R ρ hf
  have := rel_bool.1 (hf _ _ hc)
  cases b
  · exact ⟨ρ y, hf _ _ hy, fun _ _ _ _ _ _ _ _ _ => by simp only [execOp, this, asBool]; rfl⟩
  · exact ⟨ρ x, hf _ _ hx, fun _ _ _ _ _ _ _ _ _ => by simp only [execOp, this, asBool]; rfl⟩
theorem rf_nilCheck_rop {cs : List AVal} {off : Nat} (hx : evalA env x = some (.rop cs off)) : RunF P C H env (.nilCheck x) (.rop cs off) := by
  intro R ρ hf
  have hr := hf _ _ hx
  obtain ⟨bl, o, e1, ho, hs⟩ := rop_inv hr
  rw [e1] at hr
  exact ⟨_, hr, fun _ _ _ _ _ _ _ _ _ => by simp only [execOp, e1]; rfl⟩
theorem rf_extract {cs : List AVal} {i : Nat} (hx : evalA env x = some (.tuple cs)) (hi : cs[i]? = some av) : RunF P C H env (.extract x i) av := by
  intro R ρ hf
  have key : ∀ {l : List AVal} {vs : List Value} {i : Nat}, RelV R l vs → l[i]? = some av → ∃ v, vs[i]? = some v ∧ Rel R av v := by
    intro l
    induction l with
    | nil => intro vs i _ h; simp at h
    | cons c l ih =>
      rintro vs i ⟨v, t, rfl, h1, h2⟩ h
      cases i with
      | zero => simp only [List.getElem?_cons_zero, Option.some.injEq] at h; subst h; exact ⟨v, rfl, h1⟩
      | succ i => simp only [List.getElem?_cons_succ] at h ⊢; exact ih h2 h
  obtain ⟨ws, e, hr⟩ := rel_one (hf _ _ hx) rfl
  simp only [List.cons.injEq, and_true] at e
  obtain ⟨v, hv, hrv⟩ := key hr hi
  refine ⟨v, hrv, fun _ _ _ _ _ _ _ _ _ => ?_⟩
  have hv' : ws[i]? = some v := by simpa using hv
  simp only [execOp, e, Instr.extract, Sem.run_bind, Sem.run_pure, Result.andThen_ok, hv']
theorem rf_fieldAddr {k : Nat} {T : TypeId} {K : AVal → Prop} {cs0 : List AVal} {off0 : Nat} (hx : evalA env x = some (.rop cs0 off0)) (h : fieldAddrX P env T x k F K) : F ∨ ∃ av, RunF P C H env (.fieldAddr T x k) av ∧ K av := by
  unfold fieldAddrX at h
  split at h
  · rename_i xT h1
    split at h
    · rename_i fs h2
      split at h
      · rename_i f h3
        split at h
        · rename_i xf h4
          split at h
          · rename_i h5
            rw [hx] at h
            refine .inr ⟨_, ?_, h⟩
            intro R ρ hf
            have h5 := Nat.le_of_ble_eq_true h5
            obtain ⟨bl, o, e1, ho, hs⟩ := rop_inv (hf _ _ hx)
            refine ⟨.pointer (some ⟨bl, o + f.offset, none⟩), relC_rop (by omega) (by rw [Nat.add_sub_add_right]; exact hs), fun R' w hle hm dst t p af g => ?_⟩
            simp only [execOp, e1, Instr.fieldAt, Sem.run_bind, tab_run_und h1, h2, Result.andThen_ok, h3, Instr.sureAddr, Sem.run_pure, fieldPlace, tab_run_size h4]
            rw [if_neg (by omega)]
            simp only [Addr.add]
            by_cases h0 : f.offset = 0
            · simp [h0]
            · simp [h0]
          · exact .inl h
        · exact .inl h
      · exact .inl h
    · exact .inl h
  · exact .inl h
theorem rf_load {T : TypeId} {K : AVal → Prop} {cs : List AVal} {off : Nat} (hx : evalA env x = some (.rop cs off)) (h : loadX P [] env H T x F K) : F ∨ ∃ av, RunF P C H env (.load T x) av ∧ K av := by
  unfold loadX at h
  split at h
  · rename_i xT h1
    split at h
    · rename_i g
      simp [evalA] at hx
    · rw [hx] at h
      dsimp only at h
      rcases cellX_ok h with h | ⟨ha, hc, h⟩ | ⟨ha, av, hc, hav, h⟩
      · exact .inl h
      · refine .inr ⟨_, ?_, h⟩
        intro R ρ hf
        obtain ⟨bl, o, e1, ho, Cs, el, fz, hR, hl⟩ := rop_inv (hf _ _ hx)
        have hlen := relL_length hl
        simp only [List.length_take, List.length_drop, Array.length_toList] at hlen
        refine ⟨.agg ((Cs.toList.drop o).take xT.size).toArray, ⟨?_, rfl⟩, fun R' w hle hm dst t p af g => ?_⟩
        · have := relL_take xT.size (relL_drop off hl)
          simp only [Value.cells, RelC]
          rw [List.drop_take, List.drop_drop, Nat.sub_add_cancel ho, List.take_take] at this
          rw [Nat.min_eq_left (by omega)] at this
          simpa using this
        · simp only [execOp, e1, Instr.loadAt, Instr.sureAddr, Sem.run_bind, Sem.run_pure, Result.andThen_ok]
          by_cases hz : xT.size = 0
          · simp only [loadVar, Sem.run_bind, tab_run_agg h1, ha, if_true, tab_run_size h1, loadCells, hz, loadCellsFrom, Result.andThen_ok]
            simp
          · rw [load_agg h1 ha (hm.sealed _ _ (hle _ _ hR)) (by omega)]
            simp
      · refine .inr ⟨_, ?_, h⟩
        intro R ρ hf
        obtain ⟨bl, o, e1, ho, Cs, el, fz, hR, hl⟩ := rop_inv (hf _ _ hx)
        obtain ⟨v, hv, hr⟩ := relL_get hl hc
        refine ⟨v, relC_rel hr hav, fun R' w hle hm dst t p af g => ?_⟩
        have hcell : w.cell? ⟨bl, o, none⟩ = some v := by
          have hlt : off < cs.length := (List.getElem?_eq_some_iff.1 hc).1
          rw [List.getElem?_take_of_lt hlt, List.getElem?_drop, Nat.sub_add_cancel ho] at hv
          simp only [World.cell?, hm.sealed bl _ (hle _ _ hR)]
          simpa using hv
        simp only [execOp, e1, Instr.loadAt, Instr.sureAddr, Sem.run_bind, Sem.run_pure, Result.andThen_ok, load_scalar h1 ha hcell]
  · exact .inl h
theorem rf_index_list {y : Operand} {T e : TypeId} {xT xe : TI} {sz m : Nat} {f : Nat → AVal} {k : IntKind} {i : Int}
    (hx : evalA env x = some (.list sz m f)) (hy : evalA env y = some (.int k i)) (h1 : tab P T = some xT) (h2 : xT.desc = .slice e) (h3 : tab P e = some xe) (h4 : xe.size = sz)
    (hi0 : 0 ≤ i) (hi : i < m) (hp : (f i.toNat).plain = true) : RunF P C H env (.indexAddr T x y) (.rop (f i.toNat).cells 0) := by
  intro R ρ hf
  obtain ⟨a, cap, e1, _, h5⟩ := rel_one (hf _ _ hx) rfl
  simp only [List.cons.injEq, and_true] at e1
  rcases h5 with h5 | ⟨bl, o, Cs, el, fz, rfl, hR, hall⟩
  · omega
  have hr := hall i.toNat (by omega)
  have hl := relC_cells hr hp
  have hlen := relL_length hl
  refine ⟨.pointer (some ⟨bl, o + i.toNat * sz, none⟩), relC_rop (Nat.zero_le _) ⟨Cs, el, fz, hR, ?_⟩, fun R' w hle hm dst t p af g => ?_⟩
  · rw [Nat.sub_zero, take_same hlen]; exact hl
  · simp only [execOp, e1, rel_int.1 (hf _ _ hy), Instr.indexAt, asIntOf, Sem.run_bind, Sem.run_pure, Result.andThen_ok, tab_run_und h1, h2]
    rw [if_pos (show 0 ≤ i ∧ i < (m : Int) from ⟨hi0, hi⟩)]
    simp only [Sem.run_bind, tab_run_size h3, h4, Result.andThen_ok, Sem.run_pure, Addr.add]
    by_cases h0 : i.toNat * sz = 0
    · simp [h0]
    · simp [h0]
theorem rf_indexAddr {T : TypeId} {y : Operand} {K : AVal → Prop} {sz m : Nat} {f : Nat → AVal} (hx : evalA env x = some (.list sz m f)) (h : indexAddrX P [] env T x y F K) : F ∨ ∃ av, RunF P C H env (.indexAddr T x y) av ∧ K av := by
  unfold indexAddrX at h
  split at h
  · rename_i xT ht
    split at h
    · rename_i e hd
      split at h
      · rename_i xe he
        rw [hx] at h
        dsimp only at h
        split at h
        · rename_i hs
          rcases intA_ok h with h | ⟨k, i, hy, h, h'⟩
          · exact .inl h
          · rcases elemX_ok h' with h' | ⟨hp, h'⟩
            · exact .inl h'
            · exact .inr ⟨_, rf_index_list hx hy ht hd he (Nat.eq_of_beq_eq_true hs) h.1 h.2 hp, h'⟩
        · exact .inl h
      · exact .inl h
    · split at h
      · split at h
        · simp [evalA] at hx
        · rw [hx] at h; exact .inl h
      · exact .inl h
    · exact .inl h
  · exact .inl h
theorem rf_indexAddr_rop {T : TypeId} {y : Operand} {K : AVal → Prop} {cs : List AVal} {off : Nat} (hx : evalA env x = some (.rop cs off)) (h : indexAddrX P [] env T x y F K) : F ∨ ∃ av, RunF P C H env (.indexAddr T x y) av ∧ K av := by
  unfold indexAddrX at h
  split at h
  · rename_i xT h1
    split at h
    · split at h
      · rw [hx] at h; exact .inl h
      · exact .inl h
    · rename_i len e h2
      split at h
      · rename_i xe h3
        split at h
        · simp [evalA] at hx
        · rw [hx] at h
          dsimp only at h
          rcases intA_ok h with h | ⟨k, i, hy, h, h'⟩
          · exact .inl h
          · refine .inr ⟨_, ?_, h'⟩
            intro R ρ hf
            obtain ⟨bl, o, e1, ho, hs⟩ := rop_inv (hf _ _ hx)
            refine ⟨.pointer (some ⟨bl, o + i.toNat * xe.size, none⟩), relC_rop (by omega) (by rw [Nat.add_sub_add_right]; exact hs), fun R' w hle hm dst t p af g => ?_⟩
            simp only [execOp, e1, rel_int.1 (hf _ _ hy), Instr.indexAt, asIntOf, Sem.run_bind, Sem.run_pure, Result.andThen_ok, tab_run_und h1, h2, Instr.sureAddr]
            rw [if_pos (show 0 ≤ i ∧ i < (len : Int) from ⟨h.1, h.2⟩)]
            simp only [Sem.run_bind, tab_run_size h3, Result.andThen_ok, Sem.run_pure, Addr.add]
            by_cases h0 : i.toNat * xe.size = 0
            · simp [h0]
            · simp [h0]
      · exact .inl h
    · exact .inl h
  · exact .inl h
theorem still_ok {op : Op} {K : AVal → Prop} (hs : stillOp env op = true) (h : valX P [] env H op F K) : F ∨ ∃ av, RunF P C H env op av ∧ K av := by
  unfold stillOp at hs
  split at hs
  · split at hs
    · rename_i hx; exact rf_fieldAddr hx h
    · cases hs
  · split at hs
    · rename_i hx; exact rf_load hx h
    · cases hs
  · split at hs
    · rename_i hx; exact rf_indexAddr hx h
    · rename_i hx; exact rf_indexAddr_rop hx h
    · cases hs
  · cases hs
theorem fixX_ok (hGL : GloAll C.G GL) {op : Op} {K : AVal → Prop} (h : fixX P GL H env op F K) : F ∨ ∃ av, RunF P C H env op av ∧ K av := by
  unfold fixX at h
  split at h
  · split at h
    · rename_i av hx; exact .inr ⟨_, rf_move hx, h⟩
    · exact .inl h
  · split at h
    · rename_i av hx; exact .inr ⟨_, rf_assign hx, h⟩
    · exact .inl h
  · split at h
    · rename_i cs hx
      split at h
      · rename_i av hi; exact .inr ⟨_, rf_extract hx hi, h⟩
      · exact .inl h
    · exact .inl h
  · split at h
    · rename_i cs off hx; exact .inr ⟨_, rf_nilCheck_rop hx, h⟩
    · rename_i i a hx
      rcases valX_ok (P := P) (C := C) (H := H) (env := env) (op := .nilCheck ‹Operand›) (F := False) (K := fun v => v = .own i (.pointer (some a))) hGL (by simp only [valX, nilCheckX, hx]) with h' | ⟨av, h1, rfl⟩
      · exact h'.elim
      · exact .inr ⟨_, runF_det h1 rfl, h⟩
    · exact .inl h
  · split at h
    · rename_i b a a' hc hx hy
      refine .inr ⟨_, rf_pick hc hx hy, ?_⟩
      cases b
      · exact h.2 rfl
      · exact h.1 rfl
    · exact .inl h
  · exact rf_buildX h
  · exact rf_ifaceX h
  · split at h
    · rename_i hs; exact still_ok hs h
    · rcases valX_ok hGL h with h | ⟨av, h1, h2⟩
      · exact .inl h
      · split at h2
        · rename_i hd; exact .inr ⟨_, runF_det h1 hd, h2⟩
        · exact .inl h2
theorem aq_env {l : List Oper} {env' : Env} (hs : ∀ {D : List Deferred} R a, FS D n R env a → FS D n R env' a) (h : AQ P C n ops l env' H K) : AQ P C n ops l env H K := fun R a hf => h R a (hs R a hf)
theorem aq_split {o : Oper} {b want : Bool} {d : Nat} {l : List Oper} (hv : Env.get env d = some (.bool b))
    (ht : b = true → AQ P C n ops l ((d, .bool true) :: env) H K) (hf : b = false → AQ P C n ops l ((d, .bool false) :: env) H K) : AQ P C n ops l env H K := by
  have key : ∀ x, b = x → ∀ {D : List Deferred} R a, FS D n R env a → FS D n R ((d, .bool x) :: env) a := by
    rintro x rfl D R a hfr
    refine ⟨fun k v hk => ?_, hfr.size, hfr.defers⟩
    simp only [Env.get] at hk
    cases hb : Nat.beq d k with
    | true =>
      rw [hb] at hk
      have := Nat.eq_of_beq_eq_true hb
      subst this
      simp only [Option.some.injEq] at hk
      subst hk
      exact hfr.fr d _ hv
    | false => rw [hb] at hk; exact hfr.fr k v hk
  cases hb : b with
  | true => exact aq_env (key true hb) (ht hb)
  | false => exact aq_env (key false hb) (hf hb)
theorem aq_skip_none {o : Oper} {b want : Bool} (hg : guardA ops env o.guard = some (b, want)) (hb : (b == want) = false) (hd : o.dst = none)
    (h : AQ P C n ops rest env H K) : AQ P C n ops (o :: rest) env H K := by
  intro R a hf
  refine wpQuiet_step fun X hX => ?_
  rw [wanted_of hf hg, hb, if_neg (by simp), hd]
  exact hX _ (h R _ hf)
theorem aq_skip_undef {o : Oper} {e : Nat} (hs : guardSlot ops o.guard = some e) (hv : Env.get env e = some (.raw undef))
    (h : (∃ d, o.dst = some d ∧ Nat.ble (d + 1) n = true ∧ AQ P C n ops rest ((d, .raw undef) :: env) H K) ∨ (o.dst = none ∧ AQ P C n ops rest env H K)) : AQ P C n ops (o :: rest) env H K := by
  intro R a hf
  refine wpQuiet_step fun X hX => ?_
  have hw : Region.wanted o (yielded ops a.tmps) = false := by
    unfold guardSlot at hs
    unfold Region.wanted
    split at hs
    · rename_i j want h
      rw [h]
      split at hs
      · rename_i o' ho
        obtain ⟨x, hx, hr⟩ := hf.fr e _ hv
        rw [rel_raw.1 hr] at hx
        simp [yielded, ho, hs, hx, undef]
      · cases hs
    · cases hs
  rw [hw, if_neg (by simp)]
  rcases h with ⟨d, hd, hdn, h⟩ | ⟨hd, h⟩
  · rw [hd]; exact hX _ (h R _ (hf.put hdn (rel_raw.2 rfl)))
  · rw [hd]; exact hX _ (h R _ hf)
theorem quX_okC (hGL : GloAll C.G GL) : ∀ (l : List Oper) (env : Env), quX P C n C.G GL H ops K l env → AQ P C n ops l env H K
  | [], env, h => aq_nil h
  | o :: rest, env, h => by
    have ih := quX_okC hGL rest
    replace h : quStep P C n C.G GL H ops o rest K (quX P C n C.G GL H ops K rest) env := h
    generalize quX P C n C.G GL H ops K rest = X at h ih
    have run : ∀ env' b, guardA ops env' o.guard = some (b, b) → (match o.dst with
      | some d => match Nat.ble (d + 1) n with
        | true => match o.op with
          | .call ⟨.value fv, args, _⟩ => match evalA env' fv, argsA env' args.toList with
            | some (.func (.func f) [] []), some avs => Cq P C.G f avs fun v => X ((d, v) :: env')
            | _, _ => Qf0 P C n ops (o :: rest) env' H K
          | op => fixX P GL H env' op (Qf0 P C n ops (o :: rest) env' H K) fun av => X ((d, av) :: env')
        | false => Qf0 P C n ops (o :: rest) env' H K
      | none => Qf0 P C n ops (o :: rest) env' H K) → AQ P C n ops (o :: rest) env' H K := by
      intro env' b hg h
      obtain ⟨dst, op, type, pos, after, guard⟩ := o
      dsimp only at h hg ⊢
      split at h
      · rename_i d
        split at h
        · rename_i hdn
          split at h
          · rename_i fv args ts
            split at h
            · rename_i f avs h1 h2
              obtain ⟨v, hc, hs, hd, k⟩ := h
              have e := call_args (a := args) rfl
              rw [e]
              exact aq_callv hg hdn h1 h2 hs hc hd (ih _ k)
            · exact h.h
          · rcases fixX_ok hGL h with h | ⟨av, h1, h2⟩
            · exact h.h
            · exact aq_fix hg hdn h1 (ih _ h2)
        · exact h.h
      · exact h.h
    have skip : ∀ env', (∀ d, o.dst = some d → Nat.ble (d + 1) n = true → AQ P C n ops rest ((d, .raw undef) :: env') H K → AQ P C n ops (o :: rest) env' H K) →
        (o.dst = none → AQ P C n ops rest env' H K → AQ P C n ops (o :: rest) env' H K) → (match o.dst with
      | some d => match Nat.ble (d + 1) n with
        | true => X ((d, .raw undef) :: env')
        | false => Qf0 P C n ops (o :: rest) env' H K
      | none => X env') → AQ P C n ops (o :: rest) env' H K := by
      intro env' h1 h2 h
      split at h
      · rename_i d hd
        split at h
        · rename_i hdn; exact h1 d hd hdn (ih _ h)
        · exact h.h
      · rename_i hd; exact h2 hd (ih _ h)
    simp only [quStep, guardX] at h
    split at h
    · rename_i hgn
      exact run env true (by rw [hgn]; rfl) h
    · rename_i j want hgn
      split at h
      · rename_i o' ho
        split at h
        · rename_i e he
          split at h
          · rename_i b hb
            have hgT : ∀ v, guardA ops ((e, .bool v) :: env) o.guard = some (v, want) := fun v => by rw [hgn]; exact guard_const ho he
            split at h
            · refine aq_split (o := o) (want := true) hb (fun hv => ?_) (fun hv => ?_)
              · exact run _ true (hgT true) (h.1 hv)
              · exact skip _ (fun d hd hdn k => aq_skip' (hgT false) hd hdn k) (fun hd k => aq_skip_none (hgT false) rfl hd k) (h.2 hv)
            · refine aq_split (o := o) (want := false) hb (fun hv => ?_) (fun hv => ?_)
              · exact skip _ (fun d hd hdn k => aq_skip (hgT true) hd hdn k) (fun hd k => aq_skip_none (hgT true) rfl hd k) (h.1 hv)
              · exact run _ false (hgT false) (h.2 hv)
          · rename_i v hv
            have hgS : guardSlot ops o.guard = some e := by rw [hgn]; simp only [guardSlot, ho, he]
            obtain ⟨rfl, h⟩ := h
            exact skip _ (fun d hd hdn k => aq_skip_undef hgS hv (.inl ⟨d, hd, hdn, k⟩)) (fun hd k => aq_skip_undef hgS hv (.inr ⟨hd, k⟩)) h
          · exact h.h
        · exact h.h
      · exact h.h
theorem quX_ok (hC : C.G = G) (hGL : GloAll G GL) (l : List Oper) (env : Env) (h : quX P C n G GL H ops K l env) : AQ P C n ops l env H K := by subst hC; exact quX_okC hGL l env h
theorem dw_q {id : Nat} (hm : P.follows .mixedOrders = true) (hC : C.G = G) (hGL : GloAll G GL) (hB : Region.lexB .any ops = true) (h : quX P C n G GL H ops (fun e => Q .normal e H) ops.toList env) : Dw P C n id ops env H Q := by
  have e := call_args (a := ops) rfl
  have := aw_region_draw (P := P) (C := C) (n := n) (env := env) (H := H) (Q := Q) (id := id) (l := ops.toList) hm (by rw [← e]; exact hB) (by rw [← e]; exact quX_ok hC hGL _ _ h)
  rw [← e] at this
  exact ⟨this⟩
end
theorem mixed : Tryz.prog.follows .mixedOrders = true := by kernel_rfl
end Go.Proofs.YtcoidjllehieeaaGreatDoor
namespace Go.Proofs.YtcoidjllehieeaaGreatDoor
open Go Go.RowKit
theorem fnis_of_calls {P : Program} {G : Glo} {f : FuncId} {avs : List AVal} {v : AVal} (hdet : v.det = true) (hc : ∀ args w, (callFunc f args).run P w = .ok (.enter f args) w)
    (h : ∀ R args, RelV R avs args.toList → ∀ w, G.p R → Sealed R w → Calls P f args w fun e w' => e = .returned v.conc ∧ Below w.heap.size w w') : FnIs P G f avs v := by
  intro R w args hG hm ha
  refine .inl ⟨hc args w, (h R args ha w hG hm.sealed).mono ?_⟩
  rintro e w' ⟨rfl, hb⟩
  refine ⟨.ret v, [], R, ⟨rfl, rfl⟩, ⟨_, rfl, det_rel hdet⟩, ?_⟩
  refine ⟨?_, Seal.le_refl R, fun _ hb => .inl hb, ⟨fun _ h => absurd h List.not_mem_nil, List.nodup_nil, fun _ h => absurd h List.not_mem_nil⟩, fun _ h => absurd h List.not_mem_nil,
    ⟨hb.os, hb.tape, hb.output, hb.size, fun b hlt _ => hb.block b hlt⟩⟩
  intro b o ho
  have h1 := hm.sealed b o ho
  have hlt : b < w.heap.size := by
    rcases Nat.lt_or_ge b w.heap.size with h | h
    · exact h
    · rw [Array.getElem?_eq_none h] at h1; cases h1
  rw [hb.block b hlt, h1]
/-- The same, of any value that no sealed memory is asked for. -/
theorem fnis_of_calls_v {P : Program} {G : Glo} {f : FuncId} {avs : List AVal} {v : AVal} (u : Value) (hu : ∀ R, Rel R v u) (hc : ∀ args w, (callFunc f args).run P w = .ok (.enter f args) w)
    (h : ∀ R args, RelV R avs args.toList → ∀ w, G.p R → Sealed R w → Calls P f args w fun e w' => e = .returned u ∧ Below w.heap.size w w') : FnIs P G f avs v := by
  intro R w args hG hm ha
  refine .inl ⟨hc args w, (h R args ha w hG hm.sealed).mono ?_⟩
  rintro e w' ⟨rfl, hb⟩
  refine ⟨.ret v, [], R, ⟨rfl, rfl⟩, ⟨_, rfl, hu R⟩, ?_⟩
  refine ⟨?_, Seal.le_refl R, fun _ hb => .inl hb, ⟨fun _ h => absurd h List.not_mem_nil, List.nodup_nil, fun _ h => absurd h List.not_mem_nil⟩, fun _ h => absurd h List.not_mem_nil,
    ⟨hb.os, hb.tape, hb.output, hb.size, fun b hlt _ => hb.block b hlt⟩⟩
  intro b o ho
  have h1 := hm.sealed b o ho
  have hlt : b < w.heap.size := by
    rcases Nat.lt_or_ge b w.heap.size with h | h
    · exact h
    · rw [Array.getElem?_eq_none h] at h1; cases h1
  rw [hb.block b hlt, h1]
theorem arr_of {args : Array Value} {l : List Value} (h : args.toList = l) : args = l.toArray := by rw [← h]
theorem rel_tup2 {R : Seal} {a b : AVal} {x y : Value} (h : Rel R a x) (k : Rel R b y) : Rel R (.tuple [a, b]) (.tuple #[x, y]) :=
  ⟨⟨_, rfl, _, _, rfl, ⟨h.1, h.2⟩, _, _, rfl, ⟨k.1, k.2⟩, rfl⟩, rfl⟩
theorem rel_tup3 {R : Seal} {a b c : AVal} {x y z : Value} (h : Rel R a x) (k : Rel R b y) (l : Rel R c z) : Rel R (.tuple [a, b, c]) (.tuple #[x, y, z]) :=
  ⟨⟨_, rfl, _, _, rfl, ⟨h.1, h.2⟩, _, _, rfl, ⟨k.1, k.2⟩, _, _, rfl, ⟨l.1, l.2⟩, rfl⟩, rfl⟩
theorem fnis_extern {P : Program} {G : Glo} {f : FuncId} {fn : Func} {e : Array Value → Sem Value} {avs : List AVal} {v : AVal} (hf : P.funcs[f]? = some fn) (hname : (fn.name == "runtime.NumGoroutine") = false)
    (hb : fn.body.isNone = true) (hn : Extern.findNext fn = none) (he : Extern.find fn = some e)
    (h : ∀ R args, RelV R avs args.toList → ∀ w, ∃ x, (e args).run P w = .ok x w ∧ Rel R v x) : FnIs P G f avs v := by
  intro R w args hG hm ha
  obtain ⟨x, hx, hr⟩ := h R args ha w
  refine .inr ⟨x, w, ?_, .ret v, [], R, ⟨rfl, rfl⟩, ⟨x, rfl, hr⟩, hm⟩
  rw [run_callFunc_extern hf hname hb hn he]
  simp only [hx, Result.andThen_ok]
end Go.Proofs.YtcoidjllehieeaaGreatDoor
namespace Go.Proofs.YtcoidjllehieeaaGreatDoor
open Go
set_option linter.unusedSimpArgs false
set_option linter.unusedSectionVars false
set_option linter.unusedVariables false
section
variable {P : Program} [Tab P] {C : Ctx} {n : Nat} {env : Env} {H : Heap} {Q : AExit → Env → Heap → Prop} {ops : Array Oper} {rest : List Oper} {G : Glo} {GL : List (Nat × List AVal)}
variable {eT : Option TypeId}
variable {d : Nat} {t : TypeId} {p : String} {af : Array Edge} {g : Option (Nat × Bool)} {b : Bool}
variable {x y : Operand} {T : TypeId} {xT : TI} {tx ty : TypeId} {av : AVal} {f : FuncId} {avs : List AVal}
/-- A nil slice in a slot is a row of the call's own. -/
theorem lp_row {c : Code} (k sz : Nat) (hk : Env.get env k = some (.raw (.slice none 0 0))) (h : Lp P C n c ((k, .own H.length (.slice none 0 0)) :: env) (H ++ [.row (.slice none 0 0) none sz 0 []]) Q) : Lp P C n c env H Q := by
  refine ⟨aw_env (fun _ _ hf => fs_own (i := H.length) rfl hk hf) (aw_ghost_row (eT := none) sz ?_)⟩
  intro R a w hm hf
  exact h.h R a w (hm.perm (List.perm_append_singleton _ H).symm) hf
/-- What is handed back is sealed. -/
theorem fn_seal (mk : AVal → AVal) (hmk : ∀ R R' i v x sz n f, R.le R' → Rel R (mk (.own i v)) x → Rel R' (.list sz n f) v → Rel R' (mk (.list sz n f)) x)
    {sz m : Nat} {cs : List AVal} (fl : Nat → AVal) (hf : ∀ i, i < m → (fl i).cells = (cs.drop (i * sz)).take sz ∧ (fl i).plain = true)
    (h : FnSpec P G f avs [] (fun r H => ∃ i v, r = .ret (mk (.own i v)) ∧ H = [.row v eT sz m cs])) : FnIs P G f avs (mk (.list sz m fl)) := by
  intro R w args hG hm ha
  have key : ∀ {res : ARes} {H' : Heap} {R' : Seal} {e : Ending} {w' : World}, (∃ i v, res = .ret (mk (.own i v)) ∧ H' = [.row v eT sz m cs]) → EndRel R' res e → MS ⟨w, R, blks [], G, hG, []⟩ R' H' w' →
      ∃ res H' R'', (res = .ret (mk (.list sz m fl)) ∧ H' = []) ∧ EndRel R'' res e ∧ MS ⟨w, R, blks [], G, hG, []⟩ R'' H' w' := by
    rintro res H' R' e w' ⟨i, v, rfl, rfl⟩ ⟨x, rfl, hx⟩ hm'
    obtain ⟨R2, hle, hm2, hr⟩ := hm'.seal_row hf
    exact ⟨_, [], R2, ⟨rfl, rfl⟩, ⟨x, rfl, hmk _ _ _ _ _ _ _ _ hle hx hr⟩, hm2⟩
  rcases h R w args hG hm ha with ⟨h1, h2⟩ | ⟨v, w', h1, res, H', R', q, er, hm'⟩
  · exact .inl ⟨h1, h2.mono fun e w' ⟨res, H', R', q, er, hm'⟩ => key q er hm'⟩
  · obtain ⟨res, H'', R'', q', er', hm''⟩ := key q er hm'
    exact .inr ⟨v, w', h1, res, H'', R'', q', er', hm''⟩
theorem mk_id : ∀ (R R' : Seal) (i : Nat) (v x : Value) (sz n : Nat) (f : Nat → AVal), R.le R' → Rel R ((fun a => a) (AVal.own i v)) x → Rel R' (.list sz n f) v → Rel R' ((fun a => a) (AVal.list sz n f)) x := by
  intro R R' i v x sz n f _ h k
  obtain ⟨rfl, _⟩ := rel_own.1 h
  exact k
/-- An operation met by a rule of its own. -/
theorem op1_run {op : Op} (hC : C.G = G) (hGL : GloAll G GL) (hr : RunV P C H env op av) (hg : guardA ops env g = some (b, b)) (hdn : Nat.ble (d + 1) n = true)
    (k : opsX P C n G GL ops Q rest ((d, av) :: env) H) : Op1 P C n ops ({ dst := some d, op := op, type := t, pos := p, after := af, guard := g } :: rest) env H Q :=
  ⟨ao_of_run hg hdn hr (opsX_ok hC hGL _ _ _ k)⟩
end
end Go.Proofs.YtcoidjllehieeaaGreatDoor
namespace Go.Proofs
open Go.Shelf
def Tryz.lays159_ren : Go.Shelf.Ren := ⟨fun | 159 => 39 | 165 => 57 | 166 => 58 | 167 => 59 | 169 => 60 | 230 => 61 | 204 => 62 | 240 => 77 | 241 => 78 | 197 => 79 | 118 => 80 | 168 => 81 | 270 => 82 | 262 => 83 | 276 => 92 | 277 => 93 | 260 => 94 | 242 => 95 | 313 => 96 | 278 => 105 | 274 => 106 | 275 => 107 | n => n, fun | 9 => 9 | 4 => 4 | 3 => 3 | 5 => 5 | 72 => 85 | 0 => 0 | 76 => 61 | 75 => 60 | 107 => 90 | 70 => 83 | 20 => 20 | 37 => 67 | 127 => 107 | 21 => 21 | 105 => 108 | 164 => 120 | 162 => 126 | 203 => 124 | 119 => 134 | 46 => 102 | 139 => 137 | 138 => 136 | 51 => 138 | 160 => 139 | 208 => 152 | 206 => 150 | 80 => 88 | n => n, fun | 13 => 3 | 3 => 4 | 4 => 5 | n => n⟩
theorem Tryz.lays159 : Go.Proofs.Lays.n159 Tryz.prog Tryz.lays159_ren := {
  mixed := by kernel_rfl
  f118 := Tryz.func80.trans (congrArg some (by kernel_rfl))
  f159 := Tryz.func39.trans (congrArg some (by kernel_rfl))
  f165 := Tryz.func57.trans (congrArg some (by kernel_rfl))
  f166 := Tryz.func58.trans (congrArg some (by kernel_rfl))
  f167 := Tryz.func59.trans (congrArg some (by kernel_rfl))
  f168 := Tryz.func81.trans (congrArg some (by kernel_rfl))
  f169 := Tryz.func60.trans (congrArg some (by kernel_rfl))
  f197 := Tryz.func79.trans (congrArg some (by kernel_rfl))
  f204 := Tryz.func62.trans (congrArg some (by kernel_rfl))
  f230 := Tryz.func61.trans (congrArg some (by kernel_rfl))
  f240 := Tryz.func77.trans (congrArg some (by kernel_rfl))
  f241 := Tryz.func78.trans (congrArg some (by kernel_rfl))
  f242 := Tryz.func95.trans (congrArg some (by kernel_rfl))
  f260 := Tryz.func94.trans (congrArg some (by kernel_rfl))
  f262 := Tryz.func83.trans (congrArg some (by kernel_rfl))
  f270 := Tryz.func82.trans (congrArg some (by kernel_rfl))
  f274 := Tryz.func106.trans (congrArg some (by kernel_rfl))
  f275 := Tryz.func107.trans (congrArg some (by kernel_rfl))
  f276 := Tryz.func92.trans (congrArg some (by kernel_rfl))
  f277 := Tryz.func93.trans (congrArg some (by kernel_rfl))
  f278 := Tryz.func105.trans (congrArg some (by kernel_rfl))
  f313 := Tryz.func96.trans (congrArg some (by kernel_rfl))
  t0 := Tryz.underlying0
  a0 := Tryz.isAgg0
  z0 := Tryz.sizeOf0
  v0 := Tryz.zeroValue0
  t3 := Tryz.underlying3
  a3 := Tryz.isAgg3
  z3 := Tryz.sizeOf3
  v3 := Tryz.zeroValue3
  t4 := Tryz.underlying4
  a4 := Tryz.isAgg4
  z4 := Tryz.sizeOf4
  v4 := Tryz.zeroValue4
  t5 := Tryz.underlying5
  a5 := Tryz.isAgg5
  z5 := Tryz.sizeOf5
  v5 := Tryz.zeroValue5
  t9 := Tryz.underlying9
  a9 := Tryz.isAgg9
  z9 := Tryz.sizeOf9
  v9 := Tryz.zeroValue9
  t20 := Tryz.underlying20
  a20 := Tryz.isAgg20
  z20 := Tryz.sizeOf20
  v20 := Tryz.zeroValue20
  t21 := Tryz.underlying21
  a21 := Tryz.isAgg21
  z21 := Tryz.sizeOf21
  v21 := Tryz.zeroValue21
  t37 := Tryz.underlying67
  a37 := Tryz.isAgg67
  z37 := Tryz.sizeOf67
  v37 := Tryz.zeroValue67
  t46 := Tryz.underlying102
  a46 := Tryz.isAgg102
  z46 := Tryz.sizeOf102
  v46 := Tryz.zeroValue102
  t51 := Tryz.underlying138
  a51 := Tryz.isAgg138
  z51 := Tryz.sizeOf138
  v51 := Tryz.zeroValue138
  t70 := Tryz.underlying83
  a70 := Tryz.isAgg83
  z70 := Tryz.sizeOf83
  v70 := Tryz.zeroValue83
  t72 := Tryz.underlying85
  a72 := Tryz.isAgg85
  z72 := Tryz.sizeOf85
  v72 := Tryz.zeroValue85
  t75 := Tryz.underlying60
  a75 := Tryz.isAgg60
  z75 := Tryz.sizeOf60
  v75 := Tryz.zeroValue60
  t76 := Tryz.underlying61
  a76 := Tryz.isAgg61
  z76 := Tryz.sizeOf61
  v76 := Tryz.zeroValue61
  t105 := Tryz.underlying108
  a105 := Tryz.isAgg108
  z105 := Tryz.sizeOf108
  v105 := Tryz.zeroValue108
  t107 := Tryz.underlying90
  a107 := Tryz.isAgg90
  z107 := Tryz.sizeOf90
  v107 := Tryz.zeroValue90
  t119 := Tryz.underlying134
  a119 := Tryz.isAgg134
  z119 := Tryz.sizeOf134
  t127 := Tryz.underlying107
  a127 := Tryz.isAgg107
  z127 := Tryz.sizeOf107
  v127 := Tryz.zeroValue107
  t138 := Tryz.underlying136
  a138 := Tryz.isAgg136
  z138 := Tryz.sizeOf136
  v138 := Tryz.zeroValue136
  t139 := Tryz.underlying137
  a139 := Tryz.isAgg137
  z139 := Tryz.sizeOf137
  v139 := Tryz.zeroValue137
  t160 := Tryz.underlying139
  a160 := Tryz.isAgg139
  z160 := Tryz.sizeOf139
  v160 := Tryz.zeroValue139
  t162 := Tryz.underlying126
  a162 := Tryz.isAgg126
  z162 := Tryz.sizeOf126
  v162 := Tryz.zeroValue126
  t164 := Tryz.underlying120
  a164 := Tryz.isAgg120
  z164 := Tryz.sizeOf120
  v164 := Tryz.zeroValue120
  t203 := Tryz.underlying124
  a203 := Tryz.isAgg124
  z203 := Tryz.sizeOf124
  v203 := Tryz.zeroValue124
  t206 := Tryz.underlying150
  a206 := Tryz.isAgg150
  z206 := Tryz.sizeOf150
  v206 := Tryz.zeroValue150
  t208 := Tryz.underlying152
  a208 := Tryz.isAgg152
  z208 := Tryz.sizeOf152
  v208 := Tryz.zeroValue152
  g3 := by kernel_rfl
  g4 := by kernel_rfl
  g13 := by kernel_rfl }
theorem Tryz.Builder_Extra_159 : Builder.Extra Tryz.prog Tryz.lays159_ren := {
  sizeBuilder := by kernel_rfl
  liesBuilder := by kernel_rfl
  t5 := Tryz.underlying5
  a5 := Tryz.isAgg5
  z5 := Tryz.sizeOf5
  v5 := Tryz.zeroValue5
  infoByte := by kernel_rfl
  cellsByte := by kernel_rfl
  sizeByte := by kernel_rfl
  neB5 := by decide }
open Go.RowKit in
/-- strings.ToLower: "ToLower returns s with all Unicode letters mapped to their lower case.": ON ASCII TEXT OF AT MOST 2^47 BYTES. Below the heap's end the world is as it was: where a letter turns, the call makes a builder and its buffer. (LAID: no walk: one application.) -/
theorem Tryz.strings_ToLower_ascii (s : ByteArray) (w : World) (hs : s.size ≤ 140737488355328) (hascii : ∀ (j : Nat) (b : UInt8), s.data.toList[j]? = some b → b.toNat < 128) :
    Calls Tryz.prog 39 #[.string s] w fun e w' => e = .returned (.string ⟨(Lib.toLowerA s.data.toList).toArray⟩) ∧ Below w.heap.size w w' := Any.strings_ToLower_ascii Tryz.lays159 Tryz.Builder_Extra_159 s w hs hascii
def Tryz.laysM171_ren : Go.Shelf.Ren := ⟨fun | 171 => 66 | 243 => 85 | 246 => 100 | 283 => 109 | 284 => 110 | 285 => 111 | 286 => 112 | 129 => 114 | 317 => 113 | 318 => 115 | 319 => 116 | 320 => 117 | 337 => 118 | 338 => 119 | n => n, fun | 3 => 3 | 9 => 9 | 2 => 2 | 4 => 4 | 171 => 144 | 0 => 0 | 53 => 115 | 37 => 67 | 5 => 5 | 173 => 147 | 212 => 154 | 51 => 138 | 20 => 20 | 213 => 155 | 46 => 102 | 232 => 158 | 233 => 159 | n => n, fun | 17 => 6 | 18 => 7 | 19 => 8 | n => n⟩
theorem Tryz.laysM171 : Go.Proofs.LaysM.n171 Tryz.prog Tryz.laysM171_ren := {
  mixed := by kernel_rfl
  f129 := Tryz.func114.trans (congrArg some (by kernel_rfl))
  f171 := Tryz.func66.trans (congrArg some (by kernel_rfl))
  f243 := Tryz.func85.trans (congrArg some (by kernel_rfl))
  f246 := Tryz.func100.trans (congrArg some (by kernel_rfl))
  f283 := Tryz.func109.trans (congrArg some (by kernel_rfl))
  f284 := Tryz.func110.trans (congrArg some (by kernel_rfl))
  f285 := Tryz.func111.trans (congrArg some (by kernel_rfl))
  f286 := Tryz.func112.trans (congrArg some (by kernel_rfl))
  f317 := Tryz.func113.trans (congrArg some (by kernel_rfl))
  f318 := Tryz.func115.trans (congrArg some (by kernel_rfl))
  f319 := Tryz.func116.trans (congrArg some (by kernel_rfl))
  f320 := Tryz.func117.trans (congrArg some (by kernel_rfl))
  f337 := Tryz.func118.trans (congrArg some (by kernel_rfl))
  f338 := Tryz.func119.trans (congrArg some (by kernel_rfl))
  t0 := Tryz.underlying0
  a0 := Tryz.isAgg0
  z0 := Tryz.sizeOf0
  v0 := Tryz.zeroValue0
  t2 := Tryz.underlying2
  a2 := Tryz.isAgg2
  z2 := Tryz.sizeOf2
  v2 := Tryz.zeroValue2
  t3 := Tryz.underlying3
  a3 := Tryz.isAgg3
  z3 := Tryz.sizeOf3
  v3 := Tryz.zeroValue3
  t4 := Tryz.underlying4
  a4 := Tryz.isAgg4
  z4 := Tryz.sizeOf4
  v4 := Tryz.zeroValue4
  t5 := Tryz.underlying5
  a5 := Tryz.isAgg5
  z5 := Tryz.sizeOf5
  v5 := Tryz.zeroValue5
  t9 := Tryz.underlying9
  a9 := Tryz.isAgg9
  z9 := Tryz.sizeOf9
  v9 := Tryz.zeroValue9
  t20 := Tryz.underlying20
  a20 := Tryz.isAgg20
  z20 := Tryz.sizeOf20
  v20 := Tryz.zeroValue20
  t37 := Tryz.underlying67
  a37 := Tryz.isAgg67
  z37 := Tryz.sizeOf67
  v37 := Tryz.zeroValue67
  t46 := Tryz.underlying102
  a46 := Tryz.isAgg102
  z46 := Tryz.sizeOf102
  v46 := Tryz.zeroValue102
  t51 := Tryz.underlying138
  a51 := Tryz.isAgg138
  z51 := Tryz.sizeOf138
  v51 := Tryz.zeroValue138
  t53 := Tryz.underlying115
  a53 := Tryz.isAgg115
  z53 := Tryz.sizeOf115
  v53 := Tryz.zeroValue115
  t171 := Tryz.underlying144
  a171 := Tryz.isAgg144
  z171 := Tryz.sizeOf144
  v171 := Tryz.zeroValue144
  t173 := Tryz.underlying147
  a173 := Tryz.isAgg147
  z173 := Tryz.sizeOf147
  v173 := Tryz.zeroValue147
  t212 := Tryz.underlying154
  a212 := Tryz.isAgg154
  z212 := Tryz.sizeOf154
  v212 := Tryz.zeroValue154
  t213 := Tryz.underlying155
  a213 := Tryz.isAgg155
  z213 := Tryz.sizeOf155
  t232 := Tryz.underlying158
  a232 := Tryz.isAgg158
  z232 := Tryz.sizeOf158
  v232 := Tryz.zeroValue158
  t233 := Tryz.underlying159
  a233 := Tryz.isAgg159
  z233 := Tryz.sizeOf159
  v233 := Tryz.zeroValue159
  g17 := by kernel_rfl
  g18 := by kernel_rfl
  g19 := by kernel_rfl
  i0 := by kernel_rfl
  i2 := by kernel_rfl
  i3 := by kernel_rfl
  i4 := by kernel_rfl
  i5 := by kernel_rfl
  i9 := by kernel_rfl
  i20 := by kernel_rfl
  i37 := by kernel_rfl
  i46 := by kernel_rfl
  i51 := by kernel_rfl
  i53 := by kernel_rfl
  i171 := by kernel_rfl
  i173 := by kernel_rfl
  i212 := by kernel_rfl
  i232 := by kernel_rfl
  i233 := by kernel_rfl
  m17 := by kernel_rfl
  m18 := by kernel_rfl
  m19 := by kernel_rfl }
open Go.RowKit Go.Sort Go.Lib in
/-- strconv.Itoa: "Itoa is equivalent to FormatInt(int64(i), 10).": i's DECIMAL NUMERAL ('Lib.itoa': a '-' where i is negative, then the digits), FOR EVERY int. The world behind the call: the world before it, new blocks behind the heap (the library's 'var a [24]byte'), draws. (LAID: no walk: one application.) -/
theorem Tryz.strconv_Itoa (n : Int) (h0 : -9223372036854775808 ≤ n) (h1 : n ≤ 9223372036854775807) (w : World) (htab : Lib.TabIs Tryz.prog w "internal/strconv.uint64pow10" .u64 Lib.pow10Tab) :
    Calls Tryz.prog 66 #[.int .i64 n] w fun e w' => e = .returned (.string ⟨(Lib.itoa n).toArray⟩) ∧ ∃ k os, w' = grow (w.drewN k) os := Any.strconv_Itoa Tryz.laysM171 n h0 h1 w htab
def Tryz.laysC172_ren : Go.Shelf.Ren := ⟨fun | 172 => 30 | 244 => 47 | 245 => 48 | 247 => 68 | 279 => 69 | 280 => 70 | 281 => 71 | 282 => 72 | 287 => 88 | 316 => 89 | 171 => 66 | 205 => 90 | 321 => 103 | 322 => 104 | 243 => 85 | 246 => 100 | 283 => 109 | 284 => 110 | 285 => 111 | 286 => 112 | 129 => 114 | 317 => 113 | 318 => 115 | 319 => 116 | 320 => 117 | 337 => 118 | 338 => 119 | n => n, fun | 9 => 9 | 3 => 3 | 75 => 60 | 76 => 61 | 4 => 4 | 5 => 5 | 167 => 96 | 37 => 67 | 0 => 0 | 85 => 97 | 2 => 2 | 168 => 99 | 53 => 115 | 175 => 116 | 46 => 102 | 210 => 119 | 127 => 107 | 145 => 133 | 143 => 131 | 21 => 21 | 171 => 144 | 173 => 147 | 212 => 154 | 51 => 138 | 20 => 20 | 213 => 155 | 232 => 158 | 233 => 159 | 80 => 88 | n => n, fun | 15 => 0 | 16 => 1 | 17 => 6 | 18 => 7 | 19 => 8 | n => n⟩
theorem Tryz.laysC172 : Go.Proofs.LaysC.n172 Tryz.prog Tryz.laysC172_ren := {
  mixed := by kernel_rfl
  f129 := Tryz.func114.trans (congrArg some (by kernel_rfl))
  f171 := Tryz.func66.trans (congrArg some (by kernel_rfl))
  f172 := Tryz.func30.trans (congrArg some (by kernel_rfl))
  f205 := Tryz.func90.trans (congrArg some (by kernel_rfl))
  f243 := Tryz.func85.trans (congrArg some (by kernel_rfl))
  f244 := Tryz.func47.trans (congrArg some (by kernel_rfl))
  f245 := Tryz.func48.trans (congrArg some (by kernel_rfl))
  f246 := Tryz.func100.trans (congrArg some (by kernel_rfl))
  f247 := Tryz.func68.trans (congrArg some (by kernel_rfl))
  f279 := Tryz.func69.trans (congrArg some (by kernel_rfl))
  f280 := Tryz.func70.trans (congrArg some (by kernel_rfl))
  f281 := Tryz.func71.trans (congrArg some (by kernel_rfl))
  f282 := Tryz.func72.trans (congrArg some (by kernel_rfl))
  f283 := Tryz.func109.trans (congrArg some (by kernel_rfl))
  f284 := Tryz.func110.trans (congrArg some (by kernel_rfl))
  f285 := Tryz.func111.trans (congrArg some (by kernel_rfl))
  f286 := Tryz.func112.trans (congrArg some (by kernel_rfl))
  f287 := Tryz.func88.trans (congrArg some (by kernel_rfl))
  f316 := Tryz.func89.trans (congrArg some (by kernel_rfl))
  f317 := Tryz.func113.trans (congrArg some (by kernel_rfl))
  f318 := Tryz.func115.trans (congrArg some (by kernel_rfl))
  f319 := Tryz.func116.trans (congrArg some (by kernel_rfl))
  f320 := Tryz.func117.trans (congrArg some (by kernel_rfl))
  f321 := Tryz.func103.trans (congrArg some (by kernel_rfl))
  f322 := Tryz.func104.trans (congrArg some (by kernel_rfl))
  f337 := Tryz.func118.trans (congrArg some (by kernel_rfl))
  f338 := Tryz.func119.trans (congrArg some (by kernel_rfl))
  t0 := Tryz.underlying0
  a0 := Tryz.isAgg0
  z0 := Tryz.sizeOf0
  v0 := Tryz.zeroValue0
  t2 := Tryz.underlying2
  a2 := Tryz.isAgg2
  z2 := Tryz.sizeOf2
  v2 := Tryz.zeroValue2
  t3 := Tryz.underlying3
  a3 := Tryz.isAgg3
  z3 := Tryz.sizeOf3
  v3 := Tryz.zeroValue3
  t4 := Tryz.underlying4
  a4 := Tryz.isAgg4
  z4 := Tryz.sizeOf4
  v4 := Tryz.zeroValue4
  t5 := Tryz.underlying5
  a5 := Tryz.isAgg5
  z5 := Tryz.sizeOf5
  v5 := Tryz.zeroValue5
  t9 := Tryz.underlying9
  a9 := Tryz.isAgg9
  z9 := Tryz.sizeOf9
  v9 := Tryz.zeroValue9
  t20 := Tryz.underlying20
  a20 := Tryz.isAgg20
  z20 := Tryz.sizeOf20
  v20 := Tryz.zeroValue20
  t21 := Tryz.underlying21
  a21 := Tryz.isAgg21
  z21 := Tryz.sizeOf21
  v21 := Tryz.zeroValue21
  t37 := Tryz.underlying67
  a37 := Tryz.isAgg67
  z37 := Tryz.sizeOf67
  v37 := Tryz.zeroValue67
  t46 := Tryz.underlying102
  a46 := Tryz.isAgg102
  z46 := Tryz.sizeOf102
  v46 := Tryz.zeroValue102
  t51 := Tryz.underlying138
  a51 := Tryz.isAgg138
  z51 := Tryz.sizeOf138
  v51 := Tryz.zeroValue138
  t53 := Tryz.underlying115
  a53 := Tryz.isAgg115
  z53 := Tryz.sizeOf115
  v53 := Tryz.zeroValue115
  t75 := Tryz.underlying60
  a75 := Tryz.isAgg60
  z75 := Tryz.sizeOf60
  v75 := Tryz.zeroValue60
  t76 := Tryz.underlying61
  a76 := Tryz.isAgg61
  z76 := Tryz.sizeOf61
  v76 := Tryz.zeroValue61
  t85 := Tryz.underlying97
  a85 := Tryz.isAgg97
  z85 := Tryz.sizeOf97
  v85 := Tryz.zeroValue97
  t127 := Tryz.underlying107
  a127 := Tryz.isAgg107
  z127 := Tryz.sizeOf107
  v127 := Tryz.zeroValue107
  t143 := Tryz.underlying131
  a143 := Tryz.isAgg131
  z143 := Tryz.sizeOf131
  v143 := Tryz.zeroValue131
  t145 := Tryz.underlying133
  a145 := Tryz.isAgg133
  z145 := Tryz.sizeOf133
  v145 := Tryz.zeroValue133
  t167 := Tryz.underlying96
  a167 := Tryz.isAgg96
  z167 := Tryz.sizeOf96
  v167 := Tryz.zeroValue96
  t168 := Tryz.underlying99
  a168 := Tryz.isAgg99
  z168 := Tryz.sizeOf99
  v168 := Tryz.zeroValue99
  t171 := Tryz.underlying144
  a171 := Tryz.isAgg144
  z171 := Tryz.sizeOf144
  v171 := Tryz.zeroValue144
  t173 := Tryz.underlying147
  a173 := Tryz.isAgg147
  z173 := Tryz.sizeOf147
  v173 := Tryz.zeroValue147
  t175 := Tryz.underlying116
  a175 := Tryz.isAgg116
  z175 := Tryz.sizeOf116
  v175 := Tryz.zeroValue116
  t210 := Tryz.underlying119
  a210 := Tryz.isAgg119
  z210 := Tryz.sizeOf119
  v210 := Tryz.zeroValue119
  t212 := Tryz.underlying154
  a212 := Tryz.isAgg154
  z212 := Tryz.sizeOf154
  v212 := Tryz.zeroValue154
  t213 := Tryz.underlying155
  a213 := Tryz.isAgg155
  z213 := Tryz.sizeOf155
  t232 := Tryz.underlying158
  a232 := Tryz.isAgg158
  z232 := Tryz.sizeOf158
  v232 := Tryz.zeroValue158
  t233 := Tryz.underlying159
  a233 := Tryz.isAgg159
  z233 := Tryz.sizeOf159
  v233 := Tryz.zeroValue159
  g15 := by kernel_rfl
  g16 := by kernel_rfl
  g17 := by kernel_rfl
  g18 := by kernel_rfl
  g19 := by kernel_rfl
  t80 := Tryz.underlying88
  a80 := Tryz.isAgg88
  z80 := Tryz.sizeOf88
  v80 := Tryz.zeroValue88
  i0 := by kernel_rfl
  i2 := by kernel_rfl
  i3 := by kernel_rfl
  i4 := by kernel_rfl
  i5 := by kernel_rfl
  i9 := by kernel_rfl
  i20 := by kernel_rfl
  i21 := by kernel_rfl
  i37 := by kernel_rfl
  i46 := by kernel_rfl
  i51 := by kernel_rfl
  i53 := by kernel_rfl
  i75 := by kernel_rfl
  i76 := by kernel_rfl
  i80 := by kernel_rfl
  i85 := by kernel_rfl
  i127 := by kernel_rfl
  i143 := by kernel_rfl
  i145 := by kernel_rfl
  i167 := by kernel_rfl
  i168 := by kernel_rfl
  i171 := by kernel_rfl
  i173 := by kernel_rfl
  i175 := by kernel_rfl
  i210 := by kernel_rfl
  i212 := by kernel_rfl
  i232 := by kernel_rfl
  i233 := by kernel_rfl
  m15 := by kernel_rfl
  m16 := by kernel_rfl
  m17 := by kernel_rfl
  m18 := by kernel_rfl
  m19 := by kernel_rfl
  c0 := by kernel_rfl
  c2 := by kernel_rfl
  c3 := by kernel_rfl
  c4 := by kernel_rfl
  c5 := by kernel_rfl
  c9 := by kernel_rfl
  c20 := by kernel_rfl
  c21 := by kernel_rfl
  c37 := by kernel_rfl
  c46 := by kernel_rfl
  c51 := by kernel_rfl
  c53 := by kernel_rfl
  c75 := by kernel_rfl
  c76 := by kernel_rfl
  c80 := by kernel_rfl
  c85 := by kernel_rfl
  c127 := by kernel_rfl
  c143 := by kernel_rfl
  c145 := by kernel_rfl
  c167 := by kernel_rfl
  c168 := by kernel_rfl
  c171 := by kernel_rfl
  c173 := by kernel_rfl
  c175 := by kernel_rfl
  c210 := by kernel_rfl
  c212 := by kernel_rfl
  c213 := by kernel_rfl
  c232 := by kernel_rfl
  c233 := by kernel_rfl }
open Go.RowKit in
/-- strconv.Atoi, AT EVERY STRING THAT SPELLS AN int ('Lib.atoiAll .. = .ok v'; of whatever length: leading zeros count): v, AND NO ERROR. The world: as it was, or with the one new row that '[]byte(..)' lays. (LAID: no walk: one application.) -/
theorem Tryz.strconv_Atoi_ok (s : ByteArray) (hmax : s.size ≤ 9223372036854775806) (v : Int) (h : Lib.atoiAll s.data.toList = .ok v) (w : World) :
    Calls Tryz.prog 30 #[.string s] w fun e w' => e = .returned (.tuple #[.int .i64 v, .nilIface]) ∧ (w' = w ∨ ∃ t, w' = Lib.bytesWorld w 5 t) := Any.strconv_Atoi_ok Tryz.laysC172 s hmax v h w
open Go.RowKit in
/-- strconv.Atoi, AT EVERY STRING THAT IS NO DECIMAL NUMERAL ('.syntax'): 0, AND AN ERROR THAT IS NOT nil: a *NumError in a new block N: {Func: "Atoi", Num: s's bytes, Err: what the variable ErrSyntax holds}. Of what was there nothing has turned. (LAID: no walk: one application.) -/
theorem Tryz.strconv_Atoi_syntax (s : ByteArray) (hlim : s.size ≤ 281474976710656) (h : Lib.atoiAll s.data.toList = Lib.NumEnd.syntax) (ev : Value) (w : World) (hv : w.cell? ⟨0, 0, none⟩ = some ev) (hev : ev = .nilIface ∨ ∃ te pe, ev = .iface te pe) :
    Calls Tryz.prog 30 #[.string s] w fun e w' => ∃ N, e = .returned (.tuple #[.int .i64 (0), .iface 99 (.pointer (some ⟨N, 0, none⟩))]) ∧ w.heap.size ≤ N ∧ w'.heap[N]? = some (.cells #[.string ⟨#[65, 116, 111, 105]⟩, .string s, ev] 119 (0, 0)) ∧ Below w.heap.size w w' := Any.strconv_Atoi_syntax Tryz.laysC172 s hlim h ev w hv hev
open Go.RowKit in
/-- strconv.Atoi, AT EVERY NUMERAL THAT NO int HOLDS ('.range'): THE GREATEST OR THE LEAST int, BY THE SIGN ('Lib.atoiSat'), AND AN ERROR THAT IS NOT nil: a *NumError in a new block N: {Func: "Atoi", Num: s's bytes, Err: what the variable ErrRange holds}. Of what was there nothing has turned. (LAID: no walk: one application.) -/
theorem Tryz.strconv_Atoi_range (s : ByteArray) (hlim : s.size ≤ 281474976710656) (h : Lib.atoiAll s.data.toList = .range) (ev : Value) (w : World) (hv : w.cell? ⟨1, 0, none⟩ = some ev) (hev : ev = .nilIface ∨ ∃ te pe, ev = .iface te pe) :
    Calls Tryz.prog 30 #[.string s] w fun e w' => ∃ N, e = .returned (.tuple #[.int .i64 (Lib.atoiSat s.data.toList), .iface 99 (.pointer (some ⟨N, 0, none⟩))]) ∧ w.heap.size ≤ N ∧ w'.heap[N]? = some (.cells #[.string ⟨#[65, 116, 111, 105]⟩, .string s, ev] 119 (0, 0)) ∧ Below w.heap.size w w' := Any.strconv_Atoi_range Tryz.laysC172 s hlim h ev w hv hev
def Tryz.lays144_ren : Go.Shelf.Ren := ⟨fun | 144 => 41 | 143 => 63 | 219 => 84 | 217 => 56 | 225 => 97 | 224 => 98 | 267 => 99 | 266 => 76 | 314 => 108 | n => n, fun | 9 => 9 | 4 => 4 | 3 => 3 | 5 => 5 | 46 => 102 | 146 => 142 | 51 => 138 | n => n, fun | 1 => 2 | n => n⟩
theorem Tryz.lays144 : Go.Proofs.Lays.n144 Tryz.prog Tryz.lays144_ren := {
  mixed := by kernel_rfl
  f143 := Tryz.func63.trans (congrArg some (by kernel_rfl))
  f144 := Tryz.func41.trans (congrArg some (by kernel_rfl))
  f217 := Tryz.func56.trans (congrArg some (by kernel_rfl))
  f219 := Tryz.func84.trans (congrArg some (by kernel_rfl))
  f224 := Tryz.func98.trans (congrArg some (by kernel_rfl))
  f225 := Tryz.func97.trans (congrArg some (by kernel_rfl))
  f266 := Tryz.func76.trans (congrArg some (by kernel_rfl))
  f267 := Tryz.func99.trans (congrArg some (by kernel_rfl))
  f314 := Tryz.func108.trans (congrArg some (by kernel_rfl))
  t3 := Tryz.underlying3
  a3 := Tryz.isAgg3
  z3 := Tryz.sizeOf3
  v3 := Tryz.zeroValue3
  t4 := Tryz.underlying4
  a4 := Tryz.isAgg4
  z4 := Tryz.sizeOf4
  v4 := Tryz.zeroValue4
  t5 := Tryz.underlying5
  a5 := Tryz.isAgg5
  z5 := Tryz.sizeOf5
  v5 := Tryz.zeroValue5
  t9 := Tryz.underlying9
  a9 := Tryz.isAgg9
  z9 := Tryz.sizeOf9
  v9 := Tryz.zeroValue9
  t46 := Tryz.underlying102
  a46 := Tryz.isAgg102
  z46 := Tryz.sizeOf102
  v46 := Tryz.zeroValue102
  t51 := Tryz.underlying138
  a51 := Tryz.isAgg138
  z51 := Tryz.sizeOf138
  v51 := Tryz.zeroValue138
  t146 := Tryz.underlying142
  a146 := Tryz.isAgg142
  z146 := Tryz.sizeOf142
  v146 := Tryz.zeroValue142
  g1 := by kernel_rfl }
open Go.RowKit Go.Lib in
/-- strings.Contains: "Contains reports whether substr is within s.": IT RETURNS 'Lib.contains s substr'; the world is as it was. (LAID: no walk: one application.) -/
theorem Tryz.strings_Contains (s sub : ByteArray) (m : Int) (w : World) (hs : s.size < 4294967281) (hm : w.cell? ⟨2, 0, none⟩ = some (.int .i64 m)) :
    Calls Tryz.prog 41 #[.string s, .string sub] w fun e w' => e = .returned (.bool (Lib.contains s.data.toList sub.data.toList)) ∧ w' = w := Any.strings_Contains Tryz.lays144 s sub m w hs hm
def Tryz.lays145_ren : Go.Shelf.Ren := ⟨fun | 145 => 55 | 220 => 75 | 219 => 84 | 217 => 56 | 225 => 97 | 224 => 98 | 267 => 99 | 266 => 76 | 314 => 108 | n => n, fun | 9 => 9 | 4 => 4 | 59 => 81 | 3 => 3 | 5 => 5 | 46 => 102 | 146 => 142 | 51 => 138 | n => n, fun | 1 => 2 | n => n⟩
theorem Tryz.lays145 : Go.Proofs.Lays.n145 Tryz.prog Tryz.lays145_ren := {
  mixed := by kernel_rfl
  f145 := Tryz.func55.trans (congrArg some (by kernel_rfl))
  f217 := Tryz.func56.trans (congrArg some (by kernel_rfl))
  f219 := Tryz.func84.trans (congrArg some (by kernel_rfl))
  f220 := Tryz.func75.trans (congrArg some (by kernel_rfl))
  f224 := Tryz.func98.trans (congrArg some (by kernel_rfl))
  f225 := Tryz.func97.trans (congrArg some (by kernel_rfl))
  f266 := Tryz.func76.trans (congrArg some (by kernel_rfl))
  f267 := Tryz.func99.trans (congrArg some (by kernel_rfl))
  f314 := Tryz.func108.trans (congrArg some (by kernel_rfl))
  t3 := Tryz.underlying3
  a3 := Tryz.isAgg3
  z3 := Tryz.sizeOf3
  v3 := Tryz.zeroValue3
  t4 := Tryz.underlying4
  a4 := Tryz.isAgg4
  z4 := Tryz.sizeOf4
  v4 := Tryz.zeroValue4
  t5 := Tryz.underlying5
  a5 := Tryz.isAgg5
  z5 := Tryz.sizeOf5
  v5 := Tryz.zeroValue5
  t9 := Tryz.underlying9
  a9 := Tryz.isAgg9
  z9 := Tryz.sizeOf9
  v9 := Tryz.zeroValue9
  t46 := Tryz.underlying102
  a46 := Tryz.isAgg102
  z46 := Tryz.sizeOf102
  v46 := Tryz.zeroValue102
  t51 := Tryz.underlying138
  a51 := Tryz.isAgg138
  z51 := Tryz.sizeOf138
  v51 := Tryz.zeroValue138
  t59 := Tryz.underlying81
  a59 := Tryz.isAgg81
  z59 := Tryz.sizeOf81
  v59 := Tryz.zeroValue81
  t146 := Tryz.underlying142
  a146 := Tryz.isAgg142
  z146 := Tryz.sizeOf142
  v146 := Tryz.zeroValue142
  g1 := by kernel_rfl }
open Go.RowKit Go.Lib in
/-- strings.Cut: "Cut slices s around the first instance of sep, returning the text before and after sep. The found result reports whether sep appears in s. If sep does not appear in s, cut returns s, "", false.": IT RETURNS 'Lib.cut s sep'; the world is as it was but for the count of draws. (LAID: no walk: one application.) -/
theorem Tryz.strings_Cut (s sep : ByteArray) (m : Int) (w : World) (hs : s.size < 4294967281) (hm : w.cell? ⟨2, 0, none⟩ = some (.int .i64 m)) :
    Calls Tryz.prog 55 #[.string s, .string sep] w fun e w' => e = .returned (.tuple #[.string ⟨(Lib.cut s.data.toList sep.data.toList).1.toArray⟩, .string ⟨(Lib.cut s.data.toList sep.data.toList).2.1.toArray⟩, .bool (Lib.cut s.data.toList sep.data.toList).2.2]) ∧ ∃ n, w' = w.drewN n := Any.strings_Cut Tryz.lays145 s sep m w hs hm
def Tryz.lays146_ren : Go.Shelf.Ren := ⟨fun | 146 => 46 | 221 => 67 | 268 => 86 | 138 => 87 | 143 => 63 | 195 => 101 | 197 => 79 | 218 => 102 | 219 => 84 | 260 => 94 | 217 => 56 | 225 => 97 | 224 => 98 | 267 => 99 | 266 => 76 | 314 => 108 | n => n, fun | 9 => 9 | 31 => 50 | 3 => 3 | 4 => 4 | 0 => 0 | 105 => 108 | 21 => 21 | 5 => 5 | 46 => 102 | 119 => 134 | 139 => 137 | 138 => 136 | 146 => 142 | 51 => 138 | n => n, fun | 1 => 2 | 3 => 4 | 4 => 5 | n => n⟩
theorem Tryz.lays146 : Go.Proofs.Lays.n146 Tryz.prog Tryz.lays146_ren := {
  mixed := by kernel_rfl
  f138 := Tryz.func87.trans (congrArg some (by kernel_rfl))
  f143 := Tryz.func63.trans (congrArg some (by kernel_rfl))
  f146 := Tryz.func46.trans (congrArg some (by kernel_rfl))
  f195 := Tryz.func101.trans (congrArg some (by kernel_rfl))
  f197 := Tryz.func79.trans (congrArg some (by kernel_rfl))
  f217 := Tryz.func56.trans (congrArg some (by kernel_rfl))
  f218 := Tryz.func102.trans (congrArg some (by kernel_rfl))
  f219 := Tryz.func84.trans (congrArg some (by kernel_rfl))
  f221 := Tryz.func67.trans (congrArg some (by kernel_rfl))
  f224 := Tryz.func98.trans (congrArg some (by kernel_rfl))
  f225 := Tryz.func97.trans (congrArg some (by kernel_rfl))
  f260 := Tryz.func94.trans (congrArg some (by kernel_rfl))
  f266 := Tryz.func76.trans (congrArg some (by kernel_rfl))
  f267 := Tryz.func99.trans (congrArg some (by kernel_rfl))
  f268 := Tryz.func86.trans (congrArg some (by kernel_rfl))
  f314 := Tryz.func108.trans (congrArg some (by kernel_rfl))
  t0 := Tryz.underlying0
  a0 := Tryz.isAgg0
  z0 := Tryz.sizeOf0
  v0 := Tryz.zeroValue0
  t3 := Tryz.underlying3
  a3 := Tryz.isAgg3
  z3 := Tryz.sizeOf3
  v3 := Tryz.zeroValue3
  t4 := Tryz.underlying4
  a4 := Tryz.isAgg4
  z4 := Tryz.sizeOf4
  v4 := Tryz.zeroValue4
  t5 := Tryz.underlying5
  a5 := Tryz.isAgg5
  z5 := Tryz.sizeOf5
  v5 := Tryz.zeroValue5
  t9 := Tryz.underlying9
  a9 := Tryz.isAgg9
  z9 := Tryz.sizeOf9
  v9 := Tryz.zeroValue9
  t21 := Tryz.underlying21
  a21 := Tryz.isAgg21
  z21 := Tryz.sizeOf21
  v21 := Tryz.zeroValue21
  t31 := Tryz.underlying50
  a31 := Tryz.isAgg50
  z31 := Tryz.sizeOf50
  v31 := Tryz.zeroValue50
  t46 := Tryz.underlying102
  a46 := Tryz.isAgg102
  z46 := Tryz.sizeOf102
  v46 := Tryz.zeroValue102
  t51 := Tryz.underlying138
  a51 := Tryz.isAgg138
  z51 := Tryz.sizeOf138
  v51 := Tryz.zeroValue138
  t105 := Tryz.underlying108
  a105 := Tryz.isAgg108
  z105 := Tryz.sizeOf108
  v105 := Tryz.zeroValue108
  t119 := Tryz.underlying134
  a119 := Tryz.isAgg134
  z119 := Tryz.sizeOf134
  t138 := Tryz.underlying136
  a138 := Tryz.isAgg136
  z138 := Tryz.sizeOf136
  v138 := Tryz.zeroValue136
  t139 := Tryz.underlying137
  a139 := Tryz.isAgg137
  z139 := Tryz.sizeOf137
  v139 := Tryz.zeroValue137
  t146 := Tryz.underlying142
  a146 := Tryz.isAgg142
  z146 := Tryz.sizeOf142
  v146 := Tryz.zeroValue142
  g1 := by kernel_rfl
  g3 := by kernel_rfl
  g4 := by kernel_rfl }
open Go.RowKit Go.Lib in
/-- strings.Split. (LAID: no walk: one application.) -/
theorem Tryz.strings_Split (s sep : ByteArray) (m : Int) (w : World) (hs : s.size < 4294967281) (hm : w.cell? ⟨2, 0, none⟩ = some (.int .i64 m)) (h1 : 1 ≤ sep.size) :
    Calls Tryz.prog 46 #[.string s, .string sep] w fun e w' =>
      e = .returned (.slice (some ⟨w.heap.size, 0, none⟩) (Lib.countB s sep + 1) (Lib.countB s sep + 1)) ∧ w' = w.alloc (.cells ((Lib.splitB sep 0 (Lib.countB s sep) s).map Value.string).toArray 9) := Any.strings_Split Tryz.lays146 (by kernel_rfl) s sep m w hs hm h1
end Go.Proofs
namespace Go.Proofs.YtcoidjllehieeaaGreatDoor
open Go Go.RowKit
theorem MS.below {C : Ctx} {R : Seal} {H : Heap} {w w' : World} (h : MS C R H w) (hb : Below w.heap.size w w') : MS C R H w' := by
  have hlt : ∀ {b : Nat} {o : Obj}, w.heap[b]? = some o → b < w.heap.size := fun {b o} h1 => by
    rcases Nat.lt_or_ge b w.heap.size with h | h
    · exact h
    · rw [Array.getElem?_eq_none h] at h1; cases h1
  refine ⟨fun b o ho => ?_, h.ge, h.fresh, ⟨fun x hx => ?_, h.heap.nodup, h.heap.apart⟩, h.own, ?_⟩
  · have h1 := h.sealed b o ho
    rw [hb.block b (hlt h1), h1]
  · exact HEnt.holds_mono (h.heap.holds x hx) (Seal.le_refl R) (fun b hbk => hb.block b (HEnt.blk_lt (h.heap.holds x hx) hbk))
  · exact ⟨hb.os.trans h.ext.os, hb.tape.trans h.ext.tape, hb.output.trans h.ext.output, Nat.le_trans h.ext.size hb.size, fun b hlt hn => by
      rw [hb.block b (Nat.lt_of_lt_of_le hlt h.ext.size)]; exact h.ext.block b hlt hn⟩
/-- Texts in a row. -/
def strsC (l : List (List UInt8)) : List AVal := l.map .str
def strsF (l : List (List UInt8)) (i : Nat) : AVal := .str (l.getD i [])
theorem strsF_ok (l : List (List UInt8)) : ∀ i, i < l.length → (strsF l i).cells = ((strsC l).drop (i * 1)).take 1 ∧ (strsF l i).plain = true := by
  intro i hi
  refine ⟨?_, rfl⟩
  have : i < (strsC l).length := by simpa [strsC] using hi
  rw [Nat.mul_one, List.drop_eq_getElem_cons this]
  simp [strsF, AVal.cells, strsC, List.getD, hi]
theorem strsC_len (l : List (List UInt8)) : (strsC l).length = l.length := by simp [strsC]
end Go.Proofs.YtcoidjllehieeaaGreatDoor
namespace Go.Proofs.YtcoidjllehieeaaGreatDoor
open Go
theorem lens_at {l : List (List UInt8)} {k : Nat} : (l.getD k []).length ≤ Lib.lens l := by
  rw [List.getD_eq_getElem?_getD]
  cases h : l[k]? with
  | none => simp
  | some x =>
    have h1 := Lib.lens_take_succ l k x h
    have h2 := Lib.lens_take_le l (k + 1)
    simp only [Option.getD_some]
    omega
end Go.Proofs.YtcoidjllehieeaaGreatDoor
namespace Go.Proofs.YtcoidjllehieeaaGreatDoor
open Go Go.RowKit
/-- A parameter. -/
structure Pr where
  n : List UInt8
  vs : List (List UInt8)
def Pr.z : Pr := ⟨[], []⟩
instance : Inhabited Pr := ⟨Pr.z⟩
/-- A line as it stands. -/
structure Ln where
  g : List UInt8
  n : List UInt8
  ps : List Pr
  v : List UInt8
def prF (ps : List Pr) (i : Nat) : AVal := .agg [.str (ps.getD i Pr.z).n, .list 1 (ps.getD i Pr.z).vs.length (strsF (ps.getD i Pr.z).vs)]
def Ln.A (p : Ln) : AVal := .agg [.str p.g, .str p.n, .list 2 p.ps.length (prF p.ps), .str p.v]
/-- How much a line may hold. -/
structure Ln.OK (N : Nat) (p : Ln) : Prop where
  g : p.g.length ≤ N
  n : p.n.length ≤ N
  v : p.v.length ≤ N
  ps : p.ps.length ≤ N
  q : ∀ k, (p.ps.getD k Pr.z).n.length ≤ N ∧ (p.ps.getD k Pr.z).vs.length ≤ N ∧ Lib.lens (p.ps.getD k Pr.z).vs ≤ N
theorem below_next {p : Nat → Prop} {k : Nat} (h : ∀ j, j < k → p j) (hk : p k) : ∀ j, j < k + 1 → p j := fun j hj => by
  rcases Nat.lt_or_ge j k with g | g
  · exact h j g
  · rw [show j = k by omega]; exact hk
end Go.Proofs.YtcoidjllehieeaaGreatDoor
namespace Go.Proofs.YtcoidjllehieeaaGreatDoor
open Go
set_option maxRecDepth 20000
set_option maxHeartbeats 4000000
set_option linter.unusedSimpArgs false
set_option linter.unusedVariables false
attribute [local irreducible] AWp AOps byteAt SrcOK OrOk GloAll FnSpec
/-- Bytes given one by one. -/
def partB : Nat → List Int → List (Nat × AVal)
  | _, [] => []
  | k, v :: vs => (k, .int .u8 v) :: partB (k + 1) vs
theorem partB_at : ∀ (vs : List Int) (k i : Nat) (h : i < vs.length), (partB k vs)[i]? = some (k + i, .int .u8 vs[i])
  | [], _, _, h => absurd h (Nat.not_lt_zero _)
  | v :: vs, k, 0, _ => rfl
  | v :: vs, k, i + 1, h => by
    have := partB_at vs (k + 1) i (by simpa using h)
    simp only [partB, List.getElem?_cons_succ, List.getElem_cons_succ]
    rw [this, show k + 1 + i = k + (i + 1) by omega]
def bytesI (vs : List Int) : List UInt8 := vs.map fun v => UInt8.ofNat v.toNat
theorem rv_bytes {P : Program} [Tab P] {C : Ctx} {H : Heap} {env : Env} (vs : List Int) {S T e : TypeId} {xS xT xe : TI} {x : Operand} (hx : evalA env x = some (.list 1 vs.length (partElem (partB 0 vs)))) (hv : ∀ v, v ∈ vs → 0 ≤ v ∧ v < 256)
    (h1 : tab P S = some xS) (h2 : xS.desc = .slice e) (h5 : tab P e = some xe) (h6 : xe.desc = .int .u8) (h3 : tab P T = some xT) (h4 : xT.desc = .string) : RunV P C H env (.convert S T x) (.str (bytesI vs)) := by
  refine rv_str_list (bytesI vs) hx (by simp [bytesI]) (fun i hi => ?_) h1 h2 h5 h6 h3 h4
  have hi : i < vs.length := by simpa [bytesI] using hi
  have := hv _ (List.getElem_mem hi)
  unfold partElem
  rw [partB_at vs 0 i hi]
  simp only [byteA, bytesI, List.getD, List.getElem?_map, List.getElem?_eq_getElem hi, Option.map_some, Option.getD_some]
  generalize vs[i] = v at *
  congr 1
  have e : v.toNat < 256 := by omega
  rw [UInt8.toNat_ofNat_of_lt' (by simpa using e)]
  omega
end Go.Proofs.YtcoidjllehieeaaGreatDoor
