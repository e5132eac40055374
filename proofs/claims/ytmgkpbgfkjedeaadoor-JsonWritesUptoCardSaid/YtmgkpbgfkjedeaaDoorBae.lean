/- Parts of the proof of jsonWrites_card: Bu, Deg, Deh, Uf, Ug, Nm, Ext, Shelf, Tell, Telb, Plc, Uri, Byt, Slc, Jsd, Jsg. -/
import Derived.Lib.Builder
import Derived.Lib.UnsafeStr
import Derived.Defers
import Derived.Recover
import Derived.Shelf.Strings.Builder1
import Derived.Shelf.Strings.Builder2
import Derived.Shelf.Strings.OnBuilder
import Derived.Shelf.Small.Strs
import Derived.Shelf.Small.Wraps
import Derived.Shelf.Strconv.Itoa0
import Derived.Shelf.Strconv.Itoa1
import Derived.Shelf.LaysM
import Derived.Shelf.Strconv.Itoa2
import Derived.Shelf.Strconv.Itoa3
import Derived.Shelf.Strconv.Itoa4
import Derived.Shelf.Strings.Search1
import Derived.Shelf.Strings.Search2
import Derived.Shelf.Strings.Search3
import Derived.Shelf.Strings.Shaped
import Derived.Shelf.Unicode.Decode
import Derived.Shelf.Unicode.DecodeSlow
import Derived.Shelf.Unicode.DecodeAny
import Derived.Test.YtmgkpbgfkjedeaaDoorProg
import Derived.Stop.Asserts
import Derived.Test.YtmgkpbgfkjedeaaDoorBad
import Derived.Test.YtmgkpbgfkjedeaaDoorBaa
set_option linter.unusedVariables false
set_option linter.unusedSimpArgs false
namespace Go.Proofs.YtmgkpbgfkjedeaaDoor
open Go
set_option maxRecDepth 20000
set_option maxHeartbeats 4000000
set_option linter.unusedSimpArgs false
set_option linter.unusedVariables false
attribute [local irreducible] AWp AOps byteAt SrcOK OrOk GloAll FnSpec
abbrev ptrA (b : Nat) : Value := .pointer (some ⟨b, 0, none⟩)
/-- A builder's two entries. -/
abbrev bldC (b : Nat) (p : Value) (j : Nat) (v : Value) : HEnt := .cells b (some 47) [.raw p, .own j v]
abbrev bldR (v : Value) (s : List UInt8) : HEnt := .row v (some 5) 1 s.length (bytesC s)
theorem fn_xo {P : Program} [Tab P] {G : Glo} {GL : List (Nat × List AVal)} {n : Nat} {H : Heap} {v : Value} (i : Nat) {f : FuncId} {fn : Func} {c : Code} {avs : List AVal} {Qf : ARes → Heap → Prop} {rs : List ResultVar} (hf : P.funcs[f]? = some fn)
    (hc : ∀ args w, (callFunc f args).run P w = .ok (.enter f args) w) (hb : fn.body = some c) (hn : fn.ntmps = n) (hrs : fn.results = rs.toArray) (hlen : Nat.ble (AVal.raw v :: avs).length n = true) (hGL : GloAll G GL) (hv : vAgg v = false)
    (h : ∀ C : Ctx, C.G = G → codeX P C n G GL c ((0, .own i v) :: argEnv 0 (.raw v :: avs)) H (RetX P rs Qf)) : FnSpec P G f (.raw v :: avs) H Qf :=
  fn_spec hf hb hc hn hrs hlen fun w0 R0 hG => (own_slot (C := ⟨w0, R0, blks H, G, hG, []⟩) (k := 0) i rfl hGL hv rfl (h ⟨w0, R0, blks H, G, hG, []⟩ rfl)).mono fun _ _ _ q => RetX_ok q
theorem no_escape {G : Glo} (b : Nat) : FnIs Tryd.prog G 46 [.raw (ptrA b)] (.raw (ptrA b)) := by
  refine fnis_extern Tryd.func46 (by kernel_rfl) (by kernel_rfl) (by kernel_rfl) (e := Go.Extern.AbiNoEscape.same) (by kernel_rfl) ?_
  rintro R args ⟨x, t, e, h1, h2⟩ w
  obtain rfl : t = [] := h2
  obtain ⟨l⟩ := args
  obtain rfl : l = [x] := e
  exact ⟨x, rfl, h1⟩
theorem ms_shape {C : Ctx} {R : Seal} {H : Heap} {w : World} (hm : MS C R H w) {i b : Nat} {e : TypeId} {cs : List AVal} (hi : H[i]? = some (.cells b (some e) cs)) : w.shape? b = some (e, cs.length) := by
  obtain ⟨Cs, el, fz, hb, hl, _, ht⟩ := own_cells hm hi
  have := relL_length hl
  simp only [Array.length_toList] at this
  simp [World.shape?, hb, this, ht e rfl]
section
variable {C : Ctx} {H : Heap} {env : Env} {x y : Operand} {i j b : Nat} {c0 c1 : AVal}
theorem rv_uptr (hx : evalA env x = some (.own i (ptrA b))) (hi : H[j]? = some (.cells b (some 47) [c0, c1])) : RunV Tryd.prog C H env (.convert 44 80 x) (.own i (ptrA b)) := by
  intro R ρ w hm hf dst t p af g
  refine ⟨ptrA b, ?_, rel_own.2 ⟨rfl, rfl⟩⟩
  obtain ⟨ie, hie, hs1, _⟩ := tab_info (P := Tryd.prog) (t := 47) rfl
  have hr := Lib.run_to_unsafe (P := Tryd.prog) w (src := 44) (dst := 80) (t := 47) (j := ie) ⟨b, 0, none⟩ Tryd.underlying44 Tryd.underlying80 hie (by rw [hs1]; exact Nat.succ_ne_zero _) (ms_shape hm hi) (Nat.zero_lt_succ _)
  simp only [execOp, (rel_own.1 (hf _ _ hx)).1, Sem.run_bind, hr, Result.andThen_ok, Sem.run_pure]
theorem rv_ptru (hx : evalA env x = some (.raw (ptrA b))) (hi : H[j]? = some (.cells b (some 47) [c0, c1])) : RunV Tryd.prog C H env (.convert 80 44 x) (.raw (ptrA b)) := by
  intro R ρ w hm hf dst t p af g
  refine ⟨ptrA b, ?_, rel_raw.2 rfl⟩
  obtain ⟨ie, hie, hs1, _⟩ := tab_info (P := Tryd.prog) (t := 47) rfl
  have hr := Lib.run_from_unsafe (P := Tryd.prog) w (src := 80) (dst := 44) (u := 47) (j := ie) ⟨b, 0, none⟩ Tryd.underlying80 Tryd.underlying44 hie (ms_shape hm hi) (by kernel_rfl)
  simp only [execOp, rel_raw.1 (hf _ _ hx), Sem.run_bind, hr, Result.andThen_ok, Sem.run_pure]
theorem rv_neptr (hx : evalA env x = some (.raw (ptrA b))) (hy : evalA env y = some (.own i (ptrA b))) : RunV Tryd.prog C H env (.binOp .neq 44 x y 44) (.bool false) := by
  intro R ρ w hm hf dst t p af g
  refine ⟨.bool false, ?_, rel_bool.2 rfl⟩
  obtain ⟨ie, hie, hs1, _⟩ := tab_info (P := Tryd.prog) (t := 47) rfl
  have hr := Lib.run_neq_ptr_same (P := Tryd.prog) w (tp := 44) (te := 47) (j := ie) ⟨b, 0, none⟩ Tryd.underlying44 hie
  have hg : (eqGuard BinOp.neq 44 x y (ptrA b) (ptrA b)).run Tryd.prog w = .ok () w := rfl
  simp only [execOp, rel_raw.1 (hf _ _ hx), (rel_own.1 (hf _ _ hy)).1, Sem.run_bind, hg, hr, Result.andThen_ok, Sem.run_pure]
end
theorem copyCheck_new {G : Glo} (b : Nat) (j : Nat) (v : Value) : FnSpec Tryd.prog G 34 [.raw (ptrA b)] [bldC b (.pointer none) j v] (fun r H => r = .ret (.tuple []) ∧ H = [bldC b (ptrA b) j v]) := by
  have hGL : GloAll G [] := gloAll_nil
  refine fn_xo 0 Tryd.func34 Tryd.call34 rfl rfl rfl rfl hGL rfl ?_
  intro C hC
  refine xw1 ?_
  intros
  refine op1_run hC hGL (rv_uptr (j := 0) rfl rfl) rfl rfl ?_
  repeat' (first | (conv => whnf); first | refine .w ?_ | refine .v ?_ | refine sc_c ?_ ?_ <;> (intro hb; try exact dd hb) | apply sc_not | apply sc_or | (apply sc_i <;> intro hb) | (apply bx_i; intro hbd) | (apply cx_is; first | exact no_escape _) | (apply cx_do (i := 0) rfl; first | exact no_escape _) | (apply ab_i; intro bl) | (apply as_i; intro va vk vc hva) | (apply av_i; intro v) | (apply ac_i; intro bl cap hcap) | apply bo_l | (apply nx_i <;> intro hnx) | apply dw_q mixed hC hGL (by kernel_rfl) | (apply cq; assumption; (first | exact no_escape _); exact rfl) | (show Rt _ _ _; exact rt_w) | fail)
  all_goals try conv => whnf
  refine op1_run hC hGL (rv_ptru (j := 0) rfl rfl) rfl rfl ?_
  exact xw0
theorem copyCheck_old {G : Glo} (b : Nat) (j : Nat) (v : Value) : FnSpec Tryd.prog G 34 [.raw (ptrA b)] [bldC b (ptrA b) j v] (fun r H => r = .ret (.tuple []) ∧ H = [bldC b (ptrA b) j v]) := by
  have hGL : GloAll G [] := gloAll_nil
  refine fn_xo 0 Tryd.func34 Tryd.call34 rfl rfl rfl rfl hGL rfl ?_
  intro C hC
  refine xw1 ?_
  intros
  refine op1_run hC hGL (rv_neptr rfl rfl) rfl rfl ?_
  exact xw0
/-- What addr may hold. -/
def AddrOK (b : Nat) (p : Value) : Prop := p = .pointer none ∨ p = ptrA b
theorem copyCheck_any {G : Glo} {b : Nat} {p : Value} (hp : AddrOK b p) (j : Nat) (v : Value) : FnSpec Tryd.prog G 34 [.raw (ptrA b)] [bldC b p j v] (fun r H => r = .ret (.tuple []) ∧ H = [bldC b (ptrA b) j v]) := by
  rcases hp with rfl | rfl
  · exact copyCheck_new b j v
  · exact copyCheck_old b j v
theorem bldR_app (v : Value) (s t : List UInt8) : HEnt.row v (some 5) 1 (s.length + t.length) (bytesC s ++ bytesC t) = bldR v (s ++ t) := by
  simp only [bldR, bytesC, List.length_append, List.map_append]
/-- A builder's two entries, wherever they stand. -/
theorem two_perm {H : Heap} {i j : Nat} {x0 y0 : HEnt} (hne : i ≠ j) (hi : H[i]? = some x0) (hj : H[j]? = some y0) : ∃ rest : Heap, H.Perm ([x0, y0] ++ rest) ∧ ∀ x y, ((H.set i x).set j y).Perm ([x, y] ++ rest) := by
  have key : ∃ rest : Heap, ∀ x y, ((H.set i x).set j y).Perm ([x, y] ++ rest) := by
    rcases Nat.lt_or_gt_of_ne hne with h | h
    · refine ⟨(H.eraseIdx j).eraseIdx i, fun x y => ?_⟩
      have h1 := set_perm (H := H.set i x) (i := j) (x := y0) y (by rw [List.getElem?_set_ne (by omega)]; exact hj)
      rw [List.eraseIdx_set_gt h] at h1
      have h2 := set_perm (H := H.eraseIdx j) (i := i) (x := x0) x (by rw [List.getElem?_eraseIdx_of_lt h]; exact hi)
      refine h1.symm.trans ?_
      refine (List.Perm.append_left [y] h2.symm).trans ?_
      exact List.Perm.swap x y _
    · refine ⟨(H.eraseIdx j).eraseIdx (i - 1), fun x y => ?_⟩
      have h1 := set_perm (H := H.set i x) (i := j) (x := y0) y (by rw [List.getElem?_set_ne (by omega)]; exact hj)
      rw [List.eraseIdx_set_lt h] at h1
      have h2 := set_perm (H := H.eraseIdx j) (i := i - 1) (x := x0) x (by rw [List.getElem?_eraseIdx_of_ge (by omega), show i - 1 + 1 = i by omega]; exact hi)
      refine h1.symm.trans ?_
      refine (List.Perm.append_left [y] h2.symm).trans ?_
      exact List.Perm.swap x y _
  obtain ⟨rest, h⟩ := key
  refine ⟨rest, ?_, h⟩
  have := h x0 y0
  have e1 : H.set i x0 = H := by
    obtain ⟨hl, he⟩ := List.getElem?_eq_some_iff.1 hi
    rw [← he]; exact List.set_getElem_self hl
  have e2 : H.set j y0 = H := by
    obtain ⟨hl, he⟩ := List.getElem?_eq_some_iff.1 hj
    rw [← he]; exact List.set_getElem_self hl
  rw [e1, e2] at this
  exact this
/-- The hint within a builder's cell is of no account. -/
theorem ms_hint {C : Ctx} {R : Seal} {H : Heap} {w : World} {b j : Nat} {p v : Value} (k : Nat) (h : MS C R (bldC b p j v :: H) w) : MS C R (bldC b p k v :: H) w :=
  h.swap (i := 0) (x := bldC b p j v) (y := bldC b p k v) rfl rfl (h.heap.holds (bldC b p j v) List.mem_cons_self)
theorem fn_post {P : Program} {G : Glo} {f : FuncId} {avs : List AVal} {H H0 : Heap} {Qf Qf' : ARes → Heap → Prop} (hb : ∀ k, k ∈ blks H ↔ k ∈ blks H0) (hpre : ∀ C R w, MS C R H0 w → MS C R H w) (h : FnSpec P G f avs H Qf)
    (hq : ∀ r H', Qf r H' → ∃ H'', Qf' r H'' ∧ ∀ C R w, MS C R H' w → MS C R H'' w) : FnSpec P G f avs H0 Qf' := by
  unfold FnSpec at h ⊢
  intro R w args hG hm ha
  rcases h R w args hG ((hpre _ _ _ hm).blks_iff fun k => (hb k).symm) ha with ⟨h1, h2⟩ | ⟨v, w', h1, res, H', R', q, er, hm'⟩
  · exact .inl ⟨h1, h2.mono fun e w' ⟨res, H', R', q, er, hm'⟩ => let ⟨H'', q', hc⟩ := hq _ _ q; ⟨res, H'', R', q', er, hc _ _ _ (hm'.blks_iff hb)⟩⟩
  · obtain ⟨H'', q', hc⟩ := hq _ _ q
    exact .inr ⟨v, w', h1, res, H'', R', q', er, hc _ _ _ (hm'.blks_iff hb)⟩
theorem fn_hint {P : Program} {G : Glo} {f : FuncId} {avs : List AVal} {b j k : Nat} {p v : Value} {H : Heap} {Qf Qf' : ARes → Heap → Prop} (h : FnSpec P G f avs (bldC b p k v :: H) Qf)
    (hq : ∀ r H', Qf r H' → ∃ H'', Qf' r H'' ∧ ∀ C R w, MS C R H' w → MS C R H'' w) : FnSpec P G f avs (bldC b p j v :: H) Qf' :=
  fn_post (H := bldC b p k v :: H) (H0 := bldC b p j v :: H) (fun _ => Iff.rfl) (fun _ _ _ h => ms_hint k h) h hq
abbrev ghostR : HEnt := .row (.slice none 0 0) none 1 0 []
/-- An owned block written, and let go. -/
theorem MS.spoil {C : Ctx} {R : Seal} {H : Heap} {w w' : World} {i b : Nat} {x : HEnt} {o : Obj} (h : MS C R H w) (hi : H[i]? = some x) (hb : x.blk = some b) (hw : OneBlk w b o w') : MS C R (H.set i ghostR) w' := by
  obtain ⟨a, c, rfl, hset⟩ := set_split (y := ghostR) hi
  rw [hset]
  have hx : x ∈ a ++ x :: c := by simp
  have hRb := h.heap.apart x hx b hb
  have hnd := h.heap.nodup
  rw [List.filterMap_append, List.filterMap_cons, hb] at hnd
  have hd := List.nodup_append.1 hnd
  have hother : ∀ z, z ∈ a ∨ z ∈ c → ∀ k, z.blk = some k → k ≠ b := by
    rintro z hz k hk rfl
    rcases hz with hz | hz
    · exact hd.2.2 k (List.mem_filterMap.2 ⟨z, hz, hk⟩) k (by simp) rfl
    · exact (List.nodup_cons.1 hd.2.1).1 (List.mem_filterMap.2 ⟨z, hz, hk⟩)
  have hmem : ∀ z, z ∈ a ++ ghostR :: c → z = ghostR ∨ ((z ∈ a ∨ z ∈ c) ∧ z ∈ a ++ x :: c) := by
    intro z hz
    simp only [List.mem_append, List.mem_cons] at hz ⊢
    rcases hz with hz | hz | hz
    · exact .inr ⟨.inl hz, .inl hz⟩
    · exact .inl hz
    · exact .inr ⟨.inr hz, .inr (.inr hz)⟩
  refine ⟨?_, h.ge, h.fresh, ⟨?_, ?_, ?_⟩, ?_, ?_⟩
  · intro k o' hk
    rw [hw.other k (by rintro rfl; rw [hRb] at hk; cases hk)]
    exact h.sealed k o' hk
  · intro z hz
    rcases hmem z hz with rfl | ⟨hz', hz''⟩
    · exact ⟨rfl, .inl ⟨rfl, rfl⟩⟩
    · exact HEnt.holds_mono (h.heap.holds z hz'') (Seal.le_refl R) fun k hk => hw.other k (hother z hz' k hk)
  · rw [List.filterMap_append, List.filterMap_cons]
    refine List.nodup_append.2 ⟨hd.1, (List.nodup_cons.1 hd.2.1).2, fun k hk l hl => hd.2.2 k hk l (List.mem_cons_of_mem _ hl)⟩
  · intro z hz k hk
    rcases hmem z hz with rfl | ⟨_, hz''⟩
    · cases hk
    · exact h.heap.apart z hz'' k hk
  · intro z hz k hk
    rcases hmem z hz with rfl | ⟨_, hz''⟩
    · cases hk
    · exact h.own z hz'' k hk
  · have hob := h.own x hx b hb
    refine ⟨hw.os.trans h.ext.os, hw.tape.trans h.ext.tape, hw.output.trans h.ext.output, by rw [hw.size]; exact h.ext.size, fun k hk hB => ?_⟩
    rw [hw.other k (by rintro rfl; rcases hob with h1 | h1; omega; exact hB h1)]
    exact h.ext.block k hk hB
/-- A call that writes to a builder. -/
theorem cx_bld {P : Program} [Tab P] {G : Glo} {f : FuncId} {avs : List AVal} {H : Heap} {K Kp : AVal → Heap → Prop} {i j b : Nat} {p v : Value} {s s' : List UInt8} {r : AVal} (hi : H[i]? = some (bldC b p j v)) (hj : H[j]? = some (bldR v s)) (hne : i ≠ j)
    (hs : FnSpec P G f avs [bldC b p 1 v, bldR v s] (fun x H => ∃ va vk vc, x = .ret r ∧ H = [bldC b (ptrA b) 1 (.slice va vk vc), bldR (.slice va vk vc) s']))
    (k : ∀ va vk vc, forceH ((H.set i (bldC b (ptrA b) j (.slice va vk vc))).set j (bldR (.slice va vk vc) s')) (K r)) : Cx P G f avs H K Kp := by
  obtain ⟨rest, hp, hp2⟩ := two_perm hne hi hj
  have h1 : FnSpec P G f avs [bldC b p j v, bldR v s] (fun x H => ∃ va vk vc, x = .ret r ∧ H = [bldC b (ptrA b) j (.slice va vk vc), bldR (.slice va vk vc) s']) := by
    refine fn_hint hs ?_
    rintro x H' ⟨va, vk, vc, rfl, rfl⟩
    exact ⟨_, ⟨va, vk, vc, rfl, rfl⟩, fun C R w h => ms_hint j h⟩
  refine ⟨fun x H' => ∃ va vk vc, x = .ret r ∧ H' = (H.set i (bldC b (ptrA b) j (.slice va vk vc))).set j (bldR (.slice va vk vc) s'), fn_heap (fn_perm (H1 := [bldC b p j v, bldR v s] ++ rest) hp.symm (fn_frame rest h1)) ?_, ?_, ?_⟩
  · rintro x H' ⟨H1', ⟨va, vk, vc, rfl, rfl⟩, rfl⟩
    exact ⟨_, (hp2 _ _).symm, va, vk, vc, rfl, rfl⟩
  · rintro v' H' ⟨va, vk, vc, e, rfl⟩
    cases e
    have := k va vk vc
    rw [forceH_eq] at this
    exact this
  · rintro v' H' ⟨va, vk, vc, e, rfl⟩; cases e
/-- A call that ends a builder. -/
theorem cx_ble {P : Program} [Tab P] {G : Glo} {f : FuncId} {avs : List AVal} {H : Heap} {K Kp : AVal → Heap → Prop} {i j b : Nat} {p v : Value} {s : List UInt8} {r : AVal} (hi : H[i]? = some (bldC b p j v)) (hj : H[j]? = some (bldR v s)) (hne : i ≠ j)
    (hs : FnSpec P G f avs [bldC b p 1 v, bldR v s] (fun x H => x = .ret r ∧ H = []))
    (k : forceH ((H.set i ghostR).set j ghostR) (K r)) : Cx P G f avs H K Kp := by
  obtain ⟨rest, hp, hp2⟩ := two_perm hne hi hj
  have h1 : FnSpec P G f avs [bldC b p j v, bldR v s] (fun x H => x = .ret r ∧ H = [ghostR, ghostR]) := by
    refine fn_hint hs ?_
    rintro x H' ⟨rfl, rfl⟩
    exact ⟨_, ⟨rfl, rfl⟩, fun C R w h => (h.ghost 1).ghost 1⟩
  refine ⟨fun x H' => x = .ret r ∧ H' = (H.set i ghostR).set j ghostR, fn_heap (fn_perm (H1 := [bldC b p j v, bldR v s] ++ rest) hp.symm (fn_frame rest h1)) ?_, ?_, ?_⟩
  · rintro x H' ⟨H1', ⟨rfl, rfl⟩, rfl⟩
    exact ⟨_, (hp2 _ _).symm, rfl, rfl⟩
  · rintro v' H' ⟨e, rfl⟩
    cases e
    rw [forceH_eq] at k
    exact k
  · rintro v' H' ⟨e, rfl⟩; cases e
theorem write_string1 {G : Glo} {b : Nat} {p : Value} (hp : AddrOK b p) (v : Value) (s t : List UInt8) (hl : s.length + t.length ≤ 137438953472) : FnSpec Tryd.prog G 24 [.raw (ptrA b), .str t] [bldC b p 1 v, bldR v s]
    (fun r H => ∃ va vk vc, r = .ret (.tuple [.int .i64 t.length, .raw .nilIface]) ∧ H = [bldC b (ptrA b) 1 (.slice va vk vc), bldR (.slice va vk vc) (s ++ t)]) := by
  have hGL : GloAll G [] := gloAll_nil
  refine fn_xo 0 Tryd.func24 Tryd.call24 rfl rfl rfl rfl hGL rfl ?_
  intro C hC
  repeat' (first | (conv => whnf); first | refine .w ?_ | refine .v ?_ | refine sc_c ?_ ?_ <;> (intro hb; try exact dd hb) | apply sc_not | apply sc_or | (apply sc_i <;> intro hb) | (apply bx_i; intro hbd) | (apply cx_is; first | exact copyCheck_any hp _ _) | (apply cx_do (i := 0) rfl; first | exact copyCheck_any hp _ _) | (apply ab_i; intro bl) | (apply as_i; intro va vk vc hva) | (apply av_i; intro v) | (apply ac_i; intro bl cap hcap) | apply bo_l | (apply nx_i <;> intro hnx) | apply dw_q mixed hC hGL (by kernel_rfl) | (apply cq; assumption; (first | exact copyCheck_any hp _ _); exact rfl) | (show Rt _ _ _; exact rt_w) | fail)
  all_goals try conv => whnf
  refine op1_apps hC hGL rfl rfl rfl rfl rfl rfl rfl rfl rfl rfl rfl rfl rfl rfl hl rfl ?_
  intro va vk vc
  refine xw1 ?_
  intros
  exact ⟨_, List.Sublist.refl _, va, vk, vc, rfl, by rw [bldR_app]⟩
theorem write_byte1 {G : Glo} {b : Nat} {p : Value} (hp : AddrOK b p) (v : Value) (s : List UInt8) (c : Int) (h0 : 0 ≤ c) (h1 : c < 256) (hl : s.length + 1 ≤ 137438953472) : FnSpec Tryd.prog G 38 [.raw (ptrA b), .int .u8 c] [bldC b p 1 v, bldR v s]
    (fun r H => ∃ va vk vc, r = .ret (.raw .nilIface) ∧ H = [bldC b (ptrA b) 1 (.slice va vk vc), bldR (.slice va vk vc) (s ++ [UInt8.ofNat c.toNat])]) := by
  have hGL : GloAll G [] := gloAll_nil
  refine fn_xo 0 Tryd.func38 Tryd.call38 rfl rfl rfl rfl hGL rfl ?_
  intro C hC
  repeat' (first | (conv => whnf); first | refine .w ?_ | refine .v ?_ | refine sc_c ?_ ?_ <;> (intro hb; try exact dd hb) | apply sc_not | apply sc_or | (apply sc_i <;> intro hb) | (apply bx_i; intro hbd) | (apply cx_is; first | exact copyCheck_any hp _ _) | (apply cx_do (i := 0) rfl; first | exact copyCheck_any hp _ _) | (apply ab_i; intro bl) | (apply as_i; intro va vk vc hva) | (apply av_i; intro v) | (apply ac_i; intro bl cap hcap) | apply bo_l | (apply nx_i <;> intro hnx) | apply dw_q mixed hC hGL (by kernel_rfl) | (apply cq; assumption; (first | exact copyCheck_any hp _ _); exact rfl) | (show Rt _ _ _; exact rt_w) | fail)
  all_goals try conv => whnf
  refine ⟨_, List.Sublist.refl _, va, vk, vc, rfl, ?_⟩
  rw [← bldR_app]
  have e : c = ((UInt8.ofNat c.toNat).toNat : Int) := by
    rw [UInt8.toNat_ofNat_of_lt' (by have : c.toNat < 256 := by omega
                                     simpa using this)]
    omega
  show [_, HEnt.row _ _ 1 (s.length + 1) (bytesC s ++ [AVal.int .u8 c])] = [_, HEnt.row _ _ 1 (s.length + 1) (bytesC s ++ [AVal.int .u8 _])]
  rw [← e]
/-- A row's value at a call's beginning. -/
theorem fn_row {P : Program} {G : Glo} {f : FuncId} {avs : List AVal} {H : Heap} {Qf : ARes → Heap → Prop} {i sz m : Nat} {v : Value} {eT : Option TypeId} {cs : List AVal} (hi : H[i]? = some (.row v eT sz m cs))
    (h : ((v = .slice none 0 0 ∧ m = 0) ∨ ∃ g cap, v = .slice (some ⟨g, 0, none⟩) m cap ∧ m ≤ cap) → FnSpec P G f avs H Qf) : FnSpec P G f avs H Qf := by
  unfold FnSpec at h ⊢
  intro R w args hG hm ha
  obtain ⟨_, hh⟩ := hm.heap.holds _ (List.mem_of_getElem? hi)
  refine h ?_ R w args hG hm ha
  rcases hh with ⟨rfl, rfl⟩ | ⟨g, cap, _, _, _, rfl, _, _, hle, _⟩
  · exact .inl ⟨rfl, rfl⟩
  · exact .inr ⟨g, cap, rfl, hle⟩
section
variable {P : Program} [Tab P] {C : Ctx} {n : Nat} {env : Env} {H : Heap} {Q : AExit → Env → Heap → Prop} {ops : Array Oper} {rest : List Oper} {G : Glo} {GL : List (Nat × List AVal)}
variable {d : Nat} {t : TypeId} {p : String} {af : Array Edge} {g : Option (Nat × Bool)} {b : Bool} {x y : Operand}
omit [Tab P] in
theorem rv_usd {i k c : Nat} {a : Addr} {ts : Array TypeId} (hx : evalA env x = some (.own i (.slice (some a) k c))) (hc : c ≠ 0) : RunV P C H env (.call { callee := .builtin .unsafeSliceData, args := #[x], argTypes := ts }) (.raw (.pointer (some a))) := by
  intro R ρ w hm hf dst t p af g
  refine ⟨.pointer (some a), ?_, rel_raw.2 rfl⟩
  have hr := Lib.run_unsafeSliceData_row (P := P) w ts t a k c hc
  have e : (#[x].map ρ) = #[.slice (some a) k c] := by simp [(rel_own.1 (hf _ _ hx)).1]
  simp only [execOp, resolve, Sem.run_bind, Sem.run_pure, Result.andThen_ok, invoke, builtin, e, hr]
theorem op1_ustr {i0 gb cap : Nat} {s : List UInt8} {pt it : TypeId} {e : TypeId} (hC : C.G = G) (hGL : GloAll G GL) (hg : guardA ops env g = some (b, b)) (hdn : Nat.ble (d + 1) n = true)
    (hx : evalA env x = some (.raw (ptrA gb))) (hy : evalA env y = some (.int .i64 s.length)) (hi : H[i0]? = some (.row (.slice (some ⟨gb, 0, none⟩) s.length cap) (some e) 1 s.length (bytesC s))) (hs : s ≠ []) (hlen : s.length ≤ 137438953472)
    (hp : P.underlying pt = some (.pointer e)) (hce : P.cellsOf e = 1) (k : opsX P C n G GL ops Q rest ((d, .str s) :: env) (H.set i0 ghostR)) :
    Op1 P C n ops ({ dst := some d, op := .call { callee := .builtin .unsafeString, args := #[x, y], argTypes := #[pt, it] }, type := t, pos := p, after := af, guard := g } :: rest) env H Q := by
  refine ⟨ao_valX (X := Unit) (av := fun _ => .str s) (H' := fun _ => H.set i0 ghostR) hg rfl hdn (fun R ρ w hm hf => ?_) fun _ => opsX_ok hC hGL _ _ _ k⟩
  obtain ⟨_, hh⟩ := hm.heap.holds _ (List.mem_of_getElem? hi)
  rcases hh with ⟨h, _⟩ | ⟨g', cap', Cs, el, fz, h, hb, hcs, hle, hl, hfz, ht⟩
  · cases h
  · cases h
    obtain rfl := ht e rfl
    rw [Nat.mul_one] at hcs hl
    have hcell : ∀ j x, s[j]? = some x → w.cell? ((⟨gb, 0, none⟩ : Addr).add j) = some (.int .u8 x.toNat) := by
      intro j x hj
      obtain ⟨hj1, hj2⟩ := List.getElem?_eq_some_iff.1 hj
      have := bytes_cell (s := s) (o := 0) hb (by rw [List.drop_zero]; exact hl) j hj1
      rw [hj2] at this
      exact this
    have hsh : w.shape? gb = some (el, Cs.size) := by simp [World.shape?, hb]
    have hr := Lib.run_unsafeString_row (P := P) w pt it t el hp hce gb Cs.size hsh s hs (by omega) (by omega) hcell
    have e2 : (#[x, y].map ρ) = #[ptrA gb, .int .i64 s.length] := by simp [rel_raw.1 (hf _ _ hx), rel_int.1 (hf _ _ hy)]
    have hone : ∃ o, OneBlk w gb o (w.freeze ⟨gb, 0, none⟩ s.length) := by
      have h0 : s.length ≠ 0 := by simpa using hs
      unfold World.freeze
      rw [if_neg h0]
      obtain ⟨lo, hi⟩ := fz
      refine ⟨.cells Cs el (if lo == hi then (0, 0 + s.length) else (min lo 0, max hi (0 + s.length))), rfl, rfl, rfl, by simp, ?_, ?_⟩
      · simp [Array.getElem?_modify, hb]
      · intro k hk; simp [Array.getElem?_modify, Ne.symm hk]
    obtain ⟨o, hone⟩ := hone
    refine ⟨(), .string ⟨s.toArray⟩, w.freeze ⟨gb, 0, none⟩ s.length, R, ?_, Seal.le_refl R, rel_str.2 rfl, hm.spoil hi rfl hone⟩
    simp only [execOp, resolve, Sem.run_bind, Sem.run_pure, Result.andThen_ok, invoke, builtin, e2, hr]
omit [Tab P] in
theorem rv_usn {i k c : Nat} {ts : Array TypeId} (hx : evalA env x = some (.own i (.slice none k c))) : RunV P C H env (.call { callee := .builtin .unsafeSliceData, args := #[x], argTypes := ts }) (.raw (.pointer none)) := by
  intro R ρ w hm hf dst t p af g
  refine ⟨.pointer none, ?_, rel_raw.2 rfl⟩
  have hr := Lib.run_unsafeSliceData_nil (P := P) w ts t k c
  have e : (#[x].map ρ) = #[.slice none k c] := by simp [(rel_own.1 (hf _ _ hx)).1]
  simp only [execOp, resolve, Sem.run_bind, Sem.run_pure, Result.andThen_ok, invoke, builtin, e, hr]
omit [Tab P] in
theorem rv_ust0 {pt it : TypeId} {a : Option Addr} (hx : evalA env x = some (.raw (.pointer a))) (hy : evalA env y = some (.int .i64 0)) : RunV P C H env (.call { callee := .builtin .unsafeString, args := #[x, y], argTypes := #[pt, it] }) (.str []) := by
  intro R ρ w hm hf dst t p af g
  refine ⟨.string .empty, ?_, rel_str.2 rfl⟩
  have hr := Lib.run_unsafeString_none (P := P) w pt it t a
  have e : (#[x, y].map ρ) = #[.pointer a, .int .i64 0] := by simp [rel_raw.1 (hf _ _ hx), rel_int.1 (hf _ _ hy)]
  simp only [execOp, resolve, Sem.run_bind, Sem.run_pure, Result.andThen_ok, invoke, builtin, e, hr]
theorem op1_usz {i0 i k gb : Nat} {ts : Array TypeId} {e : TypeId} {eT : Option TypeId} {cs : List AVal} (hC : C.G = G) (hGL : GloAll G GL) (hg : guardA ops env g = some (b, b)) (hdn : Nat.ble (d + 1) n = true)
    (hx : evalA env x = some (.own i (.slice (some ⟨gb, 0, none⟩) k 0))) (hi : H[i0]? = some (.row (.slice (some ⟨gb, 0, none⟩) k 0) eT 1 k cs)) (hp : P.underlying t = some (.pointer e))
    (kk : ∀ bl, opsX P C n G GL ops Q rest ((d, .raw (ptrA bl)) :: env) H) :
    Op1 P C n ops ({ dst := some d, op := .call { callee := .builtin .unsafeSliceData, args := #[x], argTypes := ts }, type := t, pos := p, after := af, guard := g } :: rest) env H Q := by
  refine ⟨ao_valX (X := Nat) (av := fun bl => .raw (ptrA bl)) (H' := fun _ => H) hg rfl hdn (fun R ρ w hm hf => ?_) fun bl => opsX_ok hC hGL _ _ _ (kk bl)⟩
  obtain ⟨_, hh⟩ := hm.heap.holds _ (List.mem_of_getElem? hi)
  rcases hh with ⟨h, _⟩ | ⟨g', cap', Cs, el, fz, h, hb, hcs, hle, hl, hfz, ht⟩
  · cases h
  · cases h
    have hr := Lib.run_unsafeSliceData_zero (P := P) w ts t e hp ⟨gb, 0, none⟩ k (el, Cs.size) (by simp [World.shape?, hb])
    have e2 : (#[x].map ρ) = #[.slice (some ⟨gb, 0, none⟩) k 0] := by simp [(rel_own.1 (hf _ _ hx)).1]
    refine ⟨w.heap.size, ptrA w.heap.size, _, R.put w.heap.size (.view ⟨gb, 0, none⟩ e), ?_, Seal.put_le hm.seal_free, rel_raw.2 rfl, hm.alloc_sealed _⟩
    simp only [execOp, resolve, Sem.run_bind, Sem.run_pure, Result.andThen_ok, invoke, builtin, e2, hr]
    rfl
end
theorem builder_string1 {G : Glo} {b : Nat} {p : Value} (g cap : Nat) (s : List UInt8) (hs : s ≠ []) (hlen : s.length ≤ 137438953472) (hc0 : cap ≠ 0) : FnSpec Tryd.prog G 18 [.raw (ptrA b)] [bldC b p 1 (.slice (some ⟨g, 0, none⟩) s.length cap), bldR (.slice (some ⟨g, 0, none⟩) s.length cap) s] (fun r H => r = .ret (.str s) ∧ H = [bldC b p 1 (.slice (some ⟨g, 0, none⟩) s.length cap)]) := by
  have hGL : GloAll G [] := gloAll_nil
  refine fn_xo 0 Tryd.func18 Tryd.call18 rfl rfl rfl rfl hGL rfl ?_
  intro C hC
  refine xn1 ?_
  intros
  refine dw_p mixed hC hGL false (fun (_ : Unit) => [(2, .str s)]) (fun _ => [bldC b p 1 (.slice (some ⟨g, 0, none⟩) s.length cap), ghostR]) (.take 0 (.take 1 (.take 2 (.take 5 (.take 6 (.take 7 (.br 3 (.br 4 (.br 8 (.br 9 (.br 10 (.take 11 (.done)) (.nil)) (.nil)) (.nil)) (.br 8 (.br 4 (.br 9 (.br 10 (.take 11 (.done)) (.nil)) (.nil)) (.br 9 (.br 4 (.br 10 (.take 11 (.done)) (.nil)) (.nil)) (.nil))) (.nil))) (.br 8 (.br 3 (.br 4 (.br 9 (.br 10 (.take 11 (.done)) (.nil)) (.nil)) (.br 9 (.br 4 (.br 10 (.take 11 (.done)) (.nil)) (.nil)) (.nil))) (.br 9 (.br 3 (.br 4 (.br 10 (.take 11 (.done)) (.nil)) (.nil)) (.nil)) (.nil))) (.nil))))))))) (by kernel_rfl) ?_ ?_
  · repeat' (first | (conv => whnf); first | refine .w ?_ | refine Ix.v ?_ | refine Sd.v ?_ | refine Sl.v ?_ | apply sc_false | refine sc_d ?_ ?_ <;> (intro hb; try exact dd hb) | apply sc_not | (apply sc_i <;> intro hb) | (apply bx_i; intro hbd) | (apply cx_is; first | fail) | (apply ab_i; intro bl) | exact True.intro | (apply bc_i; intro C hC) | apply bt_i | apply og_n | (apply og_a; exact rfl) | (show Rt _ _ _; exact rt_w) | fail)
    all_goals try conv => whnf
    all_goals (apply op1_run hC hGL; exact rv_usd rfl hc0; exact rfl; exact rfl)
    all_goals (
      repeat' (first | (conv => whnf); first | refine .w ?_ | refine Ix.v ?_ | refine Sd.v ?_ | refine Sl.v ?_ | apply sc_false | refine sc_d ?_ ?_ <;> (intro hb; try exact dd hb) | apply sc_not | (apply sc_i <;> intro hb) | (apply bx_i; intro hbd) | (apply cx_is; first | fail) | (apply ab_i; intro bl) | exact True.intro | (apply bc_i; intro C hC) | apply bt_i | apply og_n | (apply og_a; exact rfl) | (show Rt _ _ _; exact rt_w) | fail)
      all_goals try conv => whnf
    )
    all_goals (apply op1_ustr (i0 := 1) (s := s) (cap := cap) (gb := g) hC hGL; exact rfl; exact rfl; exact rfl; exact rfl; exact rfl; exact hs; exact hlen; exact Tryd.underlying61; kernel_rfl)
    all_goals (
      repeat' (first | (conv => whnf); first | refine .w ?_ | refine Ix.v ?_ | refine Sd.v ?_ | refine Sl.v ?_ | apply sc_false | refine sc_d ?_ ?_ <;> (intro hb; try exact dd hb) | apply sc_not | (apply sc_i <;> intro hb) | (apply bx_i; intro hbd) | (apply cx_is; first | fail) | (apply ab_i; intro bl) | exact True.intro | (apply bc_i; intro C hC) | apply bt_i | apply og_n | (apply og_a; exact rfl) | (show Rt _ _ _; exact rt_w) | fail)
      all_goals try conv => whnf
    )
    all_goals (exact ⟨(), ⟨rfl, trivial⟩, rfl⟩)
  · intro _
    exact xn0
theorem builder_string2 {G : Glo} {b : Nat} {p : Value} (g cap : Nat) (hc0 : cap ≠ 0) : FnSpec Tryd.prog G 18 [.raw (ptrA b)] [bldC b p 1 (.slice (some ⟨g, 0, none⟩) 0 cap), bldR (.slice (some ⟨g, 0, none⟩) 0 cap) []] (fun r H => r = .ret (.str []) ∧ H = [bldC b p 1 (.slice (some ⟨g, 0, none⟩) 0 cap)]) := by
  have hGL : GloAll G [] := gloAll_nil
  refine fn_xo 0 Tryd.func18 Tryd.call18 rfl rfl rfl rfl hGL rfl ?_
  intro C hC
  refine xn1 ?_
  intros
  refine dw_p mixed hC hGL false (fun (_ : Unit) => [(2, .str [])]) (fun _ => [bldC b p 1 (.slice (some ⟨g, 0, none⟩) 0 cap), bldR (.slice (some ⟨g, 0, none⟩) 0 cap) []]) (.take 0 (.take 1 (.take 2 (.take 5 (.take 6 (.take 7 (.br 3 (.br 4 (.br 8 (.br 9 (.br 10 (.take 11 (.done)) (.nil)) (.nil)) (.nil)) (.br 8 (.br 4 (.br 9 (.br 10 (.take 11 (.done)) (.nil)) (.nil)) (.br 9 (.br 4 (.br 10 (.take 11 (.done)) (.nil)) (.nil)) (.nil))) (.nil))) (.br 8 (.br 3 (.br 4 (.br 9 (.br 10 (.take 11 (.done)) (.nil)) (.nil)) (.br 9 (.br 4 (.br 10 (.take 11 (.done)) (.nil)) (.nil)) (.nil))) (.br 9 (.br 3 (.br 4 (.br 10 (.take 11 (.done)) (.nil)) (.nil)) (.nil)) (.nil))) (.nil))))))))) (by kernel_rfl) ?_ ?_
  · repeat' (first | (conv => whnf); first | refine .w ?_ | refine Ix.v ?_ | refine Sd.v ?_ | refine Sl.v ?_ | apply sc_false | refine sc_d ?_ ?_ <;> (intro hb; try exact dd hb) | apply sc_not | (apply sc_i <;> intro hb) | (apply bx_i; intro hbd) | (apply cx_is; first | fail) | (apply ab_i; intro bl) | exact True.intro | (apply bc_i; intro C hC) | apply bt_i | apply og_n | (apply og_a; exact rfl) | (show Rt _ _ _; exact rt_w) | fail)
    all_goals try conv => whnf
    all_goals (apply op1_run hC hGL; exact rv_usd rfl hc0; exact rfl; exact rfl)
    all_goals (
      repeat' (first | (conv => whnf); first | refine .w ?_ | refine Ix.v ?_ | refine Sd.v ?_ | refine Sl.v ?_ | apply sc_false | refine sc_d ?_ ?_ <;> (intro hb; try exact dd hb) | apply sc_not | (apply sc_i <;> intro hb) | (apply bx_i; intro hbd) | (apply cx_is; first | fail) | (apply ab_i; intro bl) | exact True.intro | (apply bc_i; intro C hC) | apply bt_i | apply og_n | (apply og_a; exact rfl) | (show Rt _ _ _; exact rt_w) | fail)
      all_goals try conv => whnf
    )
    all_goals (apply op1_run hC hGL; exact rv_ust0 rfl rfl; exact rfl; exact rfl)
    all_goals (
      repeat' (first | (conv => whnf); first | refine .w ?_ | refine Ix.v ?_ | refine Sd.v ?_ | refine Sl.v ?_ | apply sc_false | refine sc_d ?_ ?_ <;> (intro hb; try exact dd hb) | apply sc_not | (apply sc_i <;> intro hb) | (apply bx_i; intro hbd) | (apply cx_is; first | fail) | (apply ab_i; intro bl) | exact True.intro | (apply bc_i; intro C hC) | apply bt_i | apply og_n | (apply og_a; exact rfl) | (show Rt _ _ _; exact rt_w) | fail)
      all_goals try conv => whnf
    )
    all_goals (exact ⟨(), ⟨rfl, trivial⟩, rfl⟩)
  · intro _
    exact xn0
theorem builder_string3 {G : Glo} {b : Nat} {p : Value}  : FnSpec Tryd.prog G 18 [.raw (ptrA b)] [bldC b p 1 (.slice none 0 0), bldR (.slice none 0 0) []] (fun r H => r = .ret (.str []) ∧ H = [bldC b p 1 (.slice none 0 0)]) := by
  have hGL : GloAll G [] := gloAll_nil
  refine fn_xo 0 Tryd.func18 Tryd.call18 rfl rfl rfl rfl hGL rfl ?_
  intro C hC
  refine xn1 ?_
  intros
  refine dw_p mixed hC hGL false (fun (_ : Unit) => [(2, .str [])]) (fun _ => [bldC b p 1 (.slice none 0 0), bldR (.slice none 0 0) []]) (.take 0 (.take 1 (.take 2 (.take 5 (.take 6 (.take 7 (.br 3 (.br 4 (.br 8 (.br 9 (.br 10 (.take 11 (.done)) (.nil)) (.nil)) (.nil)) (.br 8 (.br 4 (.br 9 (.br 10 (.take 11 (.done)) (.nil)) (.nil)) (.br 9 (.br 4 (.br 10 (.take 11 (.done)) (.nil)) (.nil)) (.nil))) (.nil))) (.br 8 (.br 3 (.br 4 (.br 9 (.br 10 (.take 11 (.done)) (.nil)) (.nil)) (.br 9 (.br 4 (.br 10 (.take 11 (.done)) (.nil)) (.nil)) (.nil))) (.br 9 (.br 3 (.br 4 (.br 10 (.take 11 (.done)) (.nil)) (.nil)) (.nil)) (.nil))) (.nil))))))))) (by kernel_rfl) ?_ ?_
  · repeat' (first | (conv => whnf); first | refine .w ?_ | refine Ix.v ?_ | refine Sd.v ?_ | refine Sl.v ?_ | apply sc_false | refine sc_d ?_ ?_ <;> (intro hb; try exact dd hb) | apply sc_not | (apply sc_i <;> intro hb) | (apply bx_i; intro hbd) | (apply cx_is; first | fail) | (apply ab_i; intro bl) | exact True.intro | (apply bc_i; intro C hC) | apply bt_i | apply og_n | (apply og_a; exact rfl) | (show Rt _ _ _; exact rt_w) | fail)
    all_goals try conv => whnf
    all_goals (apply op1_run hC hGL; exact rv_usn rfl; exact rfl; exact rfl)
    all_goals (
      repeat' (first | (conv => whnf); first | refine .w ?_ | refine Ix.v ?_ | refine Sd.v ?_ | refine Sl.v ?_ | apply sc_false | refine sc_d ?_ ?_ <;> (intro hb; try exact dd hb) | apply sc_not | (apply sc_i <;> intro hb) | (apply bx_i; intro hbd) | (apply cx_is; first | fail) | (apply ab_i; intro bl) | exact True.intro | (apply bc_i; intro C hC) | apply bt_i | apply og_n | (apply og_a; exact rfl) | (show Rt _ _ _; exact rt_w) | fail)
      all_goals try conv => whnf
    )
    all_goals (apply op1_run hC hGL; exact rv_ust0 rfl rfl; exact rfl; exact rfl)
    all_goals (
      repeat' (first | (conv => whnf); first | refine .w ?_ | refine Ix.v ?_ | refine Sd.v ?_ | refine Sl.v ?_ | apply sc_false | refine sc_d ?_ ?_ <;> (intro hb; try exact dd hb) | apply sc_not | (apply sc_i <;> intro hb) | (apply bx_i; intro hbd) | (apply cx_is; first | fail) | (apply ab_i; intro bl) | exact True.intro | (apply bc_i; intro C hC) | apply bt_i | apply og_n | (apply og_a; exact rfl) | (show Rt _ _ _; exact rt_w) | fail)
      all_goals try conv => whnf
    )
    all_goals (exact ⟨(), ⟨rfl, trivial⟩, rfl⟩)
  · intro _
    exact xn0
theorem builder_string4 {G : Glo} {b : Nat} {p : Value} (g : Nat) : FnSpec Tryd.prog G 18 [.raw (ptrA b)] [bldC b p 1 (.slice (some ⟨g, 0, none⟩) 0 0), bldR (.slice (some ⟨g, 0, none⟩) 0 0) []] (fun r H => r = .ret (.str []) ∧ H = [bldC b p 1 (.slice (some ⟨g, 0, none⟩) 0 0)]) := by
  have hGL : GloAll G [] := gloAll_nil
  refine fn_xo 0 Tryd.func18 Tryd.call18 rfl rfl rfl rfl hGL rfl ?_
  intro C hC
  refine xn1 ?_
  intros
  refine dw_p mixed hC hGL false (fun (_ : Unit) => [(2, .str [])]) (fun _ => [bldC b p 1 (.slice (some ⟨g, 0, none⟩) 0 0), bldR (.slice (some ⟨g, 0, none⟩) 0 0) []]) (.take 0 (.take 1 (.take 2 (.take 5 (.take 6 (.take 7 (.br 3 (.br 4 (.br 8 (.br 9 (.br 10 (.take 11 (.done)) (.nil)) (.nil)) (.nil)) (.br 8 (.br 4 (.br 9 (.br 10 (.take 11 (.done)) (.nil)) (.nil)) (.br 9 (.br 4 (.br 10 (.take 11 (.done)) (.nil)) (.nil)) (.nil))) (.nil))) (.br 8 (.br 3 (.br 4 (.br 9 (.br 10 (.take 11 (.done)) (.nil)) (.nil)) (.br 9 (.br 4 (.br 10 (.take 11 (.done)) (.nil)) (.nil)) (.nil))) (.br 9 (.br 3 (.br 4 (.br 10 (.take 11 (.done)) (.nil)) (.nil)) (.nil)) (.nil))) (.nil))))))))) (by kernel_rfl) ?_ ?_
  · repeat' (first | (conv => whnf); first | refine .w ?_ | refine Ix.v ?_ | refine Sd.v ?_ | refine Sl.v ?_ | apply sc_false | refine sc_d ?_ ?_ <;> (intro hb; try exact dd hb) | apply sc_not | (apply sc_i <;> intro hb) | (apply bx_i; intro hbd) | (apply cx_is; first | fail) | (apply ab_i; intro bl) | exact True.intro | (apply bc_i; intro C hC) | apply bt_i | apply og_n | (apply og_a; exact rfl) | (show Rt _ _ _; exact rt_w) | fail)
    all_goals try conv => whnf
    all_goals (apply op1_usz (i0 := 1) hC hGL; exact rfl; exact rfl; exact rfl; exact rfl; exact Tryd.underlying61; intro bl)
    all_goals (
      repeat' (first | (conv => whnf); first | refine .w ?_ | refine Ix.v ?_ | refine Sd.v ?_ | refine Sl.v ?_ | apply sc_false | refine sc_d ?_ ?_ <;> (intro hb; try exact dd hb) | apply sc_not | (apply sc_i <;> intro hb) | (apply bx_i; intro hbd) | (apply cx_is; first | fail) | (apply ab_i; intro bl) | exact True.intro | (apply bc_i; intro C hC) | apply bt_i | apply og_n | (apply og_a; exact rfl) | (show Rt _ _ _; exact rt_w) | fail)
      all_goals try conv => whnf
    )
    all_goals (apply op1_run hC hGL; exact rv_ust0 rfl rfl; exact rfl; exact rfl)
    all_goals (
      repeat' (first | (conv => whnf); first | refine .w ?_ | refine Ix.v ?_ | refine Sd.v ?_ | refine Sl.v ?_ | apply sc_false | refine sc_d ?_ ?_ <;> (intro hb; try exact dd hb) | apply sc_not | (apply sc_i <;> intro hb) | (apply bx_i; intro hbd) | (apply cx_is; first | fail) | (apply ab_i; intro bl) | exact True.intro | (apply bc_i; intro C hC) | apply bt_i | apply og_n | (apply og_a; exact rfl) | (show Rt _ _ _; exact rt_w) | fail)
      all_goals try conv => whnf
    )
    all_goals (exact ⟨(), ⟨rfl, trivial⟩, rfl⟩)
  · intro _
    exact xn0
/-- The text so far; the builder itself is left. -/
theorem builder_keep {G : Glo} {b : Nat} {p v : Value} (s : List UInt8) (hlen : s.length ≤ 137438953472) : FnSpec Tryd.prog G 18 [.raw (ptrA b)] [bldC b p 1 v, bldR v s] (fun r H => r = .ret (.str s) ∧ H = [bldC b p 1 v]) := by
  refine fn_row (i := 1) rfl ?_
  rintro (⟨rfl, h0⟩ | ⟨g, cap, rfl, hc⟩)
  · obtain rfl : s = [] := List.eq_nil_of_length_eq_zero h0
    exact builder_string3
  · by_cases hs : s = []
    · subst hs
      by_cases hc0 : cap = 0
      · subst hc0; exact builder_string4 g
      · exact builder_string2 g cap hc0
    · have h1 : s.length ≠ 0 := by simpa using hs
      exact builder_string1 g cap s hs hlen (by omega)
theorem builder_string {G : Glo} {b : Nat} {p v : Value} (s : List UInt8) (hlen : s.length ≤ 137438953472) : FnSpec Tryd.prog G 18 [.raw (ptrA b)] [bldC b p 1 v, bldR v s] (fun r H => r = .ret (.str s) ∧ H = []) :=
  fn_post (fun _ => Iff.rfl) (fun _ _ _ h => h) (builder_keep s hlen) fun r H' ⟨e, eH⟩ => ⟨[], ⟨e, rfl⟩, fun _ _ _ h => h.drop (List.nil_sublist _)⟩
end Go.Proofs.YtmgkpbgfkjedeaaDoor
namespace Go.Proofs.YtmgkpbgfkjedeaaDoor
open Go Go.RowKit
inductive AMode where
  | ret
  | pan (v : AVal)
  | rcv (v : AVal)
def ModeRel (R : Seal) : AMode → FrameMode → Prop
  | .ret, u => u = .returning
  | .pan v, u => ∃ x, u = .panicking [{ v := x, recovered := false }] ∧ Rel R v x
  | .rcv v, u => ∃ x, u = .panicking [{ v := x, recovered := true }] ∧ Rel R v x
theorem ModeRel.mono {R R' : Seal} (h : R.le R') : ∀ {m : AMode} {u : FrameMode}, ModeRel R m u → ModeRel R' m u
  | .ret, _, x => x
  | .pan _, _, ⟨y, e, r⟩ => ⟨y, e, rel_mono h r⟩
  | .rcv _, _, ⟨y, e, r⟩ => ⟨y, e, rel_mono h r⟩
section
variable {P : Program} [Tab P] {G : Glo} {GL : List (Nat × List AVal)} {n : Nat} {H : Heap} {m : AMode}
omit [Tab P] in
omit [Tab P] in
omit [Tab P] in
omit [Tab P] in
omit [Tab P] in
/-! ## As a function leaves -/
variable {rs : List ResultVar} {env : Env} {Qf : ARes → Heap → Prop} {D : List Deferred}
omit [Tab P] in
omit [Tab P] in
omit [Tab P] in
end
end Go.Proofs.YtmgkpbgfkjedeaaDoor
namespace Go.Proofs.YtmgkpbgfkjedeaaDoor
open Go Go.RowKit
theorem relL_set {R : Seal} {a a' : AVal} (ht : ∀ v, RelC R a [v] → RelC R a' [v]) : ∀ {cs : List AVal} {vs : List Value} {p : Nat}, RelL R cs vs → cs[p]? = some a → RelL R (cs.set p a') vs
  | [], _, _, _, e => by simp at e
  | c :: cs, _, 0, ⟨v, t, rfl, h1, h2⟩, e => by
    simp only [List.getElem?_cons_zero, Option.some.injEq] at e
    subst e
    exact ⟨v, t, rfl, ht v h1, h2⟩
  | c :: cs, _, p + 1, ⟨v, t, rfl, h1, h2⟩, e => by
    simp only [List.getElem?_cons_succ] at e
    exact ⟨v, t, rfl, h1, relL_set ht h2 e⟩
/-- An entry whose cell is told otherwise. -/
inductive CellTo (R : Seal) (p : Nat) (a' : AVal) : HEnt → HEnt → Prop
  | cells {b eT cs a} (hp : cs[p]? = some a) (ht : ∀ v, RelC R a [v] → RelC R a' [v]) : CellTo R p a' (.cells b eT cs) (.cells b eT (cs.set p a'))
  | row {v eT sz n cs a} (hp : cs[p]? = some a) (ht : ∀ v, RelC R a [v] → RelC R a' [v]) : CellTo R p a' (.row v eT sz n cs) (.row v eT sz n (cs.set p a'))
theorem CellTo.holds {R : Seal} {p : Nat} {a' : AVal} {x y : HEnt} {w : World} (h : CellTo R p a' x y) (hx : x.holds R w) : y.holds R w ∧ y.blk = x.blk := by
  cases h with
  | cells hp ht =>
    obtain ⟨C, e, fz, hb, hl, hf⟩ := hx
    exact ⟨⟨C, e, fz, hb, relL_set ht hl hp, hf⟩, rfl⟩
  | row hp ht =>
    rename_i v eT sz n cs a
    obtain ⟨hlen, y⟩ := hx
    refine ⟨⟨by rw [List.length_set]; exact hlen, ?_⟩, by cases v with | slice a l c => cases a <;> rfl | _ => rfl⟩
    rcases y with ⟨h1, h2⟩ | ⟨b, cap, C, e, fz, rfl, hb, hs, hn, hl, hf⟩
    · exact .inl ⟨h1, h2⟩
    · exact .inr ⟨b, cap, C, e, fz, rfl, hb, hs, hn, relL_set ht hl hp, hf⟩
def To (C : Ctx) (n : Nat) (e : Env) (h : Heap) (e' : Env) (h' : Heap) : Prop :=
  ∀ R a w, MS C R h w → FS C.D n R e a → ∃ R', R.le R' ∧ MS C R' h' w ∧ FS C.D n R' e' a
section
variable {C : Ctx} {n : Nat} {e e' e'' : Env} {h h' h'' : Heap}
end
section
variable {P : Program} [Tab P] {C : Ctx} {n : Nat} {env : Env} {H : Heap} {Q : AExit → Env → Heap → Prop} {G : Glo} {GL : List (Nat × List AVal)}
omit [Tab P] in
omit [Tab P] in
omit [Tab P] in
end
end Go.Proofs.YtmgkpbgfkjedeaaDoor
namespace Go.Proofs.YtmgkpbgfkjedeaaDoor
open Go
set_option maxRecDepth 20000
set_option maxHeartbeats 4000000
set_option linter.unusedSimpArgs false
set_option linter.unusedVariables false
attribute [local irreducible] AWp AOps byteAt SrcOK OrOk GloAll FnSpec
attribute [local irreducible] nextS badI badS stepS rngR ownB
def mayZ (r : Int) : Bool := decide (0 ≤ r ∧ r ≤ 1114111 ∧ (r < 55296 ∨ 57343 < r))
theorem mayZ_t {r : Int} : mayZ r = true ↔ (0 ≤ r ∧ r ≤ 1114111 ∧ (r < 55296 ∨ 57343 < r)) := by simp [mayZ]
theorem mayZ_f {r : Int} : mayZ r = false ↔ ¬ (0 ≤ r ∧ r ≤ 1114111 ∧ (r < 55296 ∨ 57343 < r)) := by simp [mayZ]
attribute [local irreducible] mayZ
theorem utf_May {G : Glo} (r : Int) : FnIs Tryd.prog G 54 [.int .i64 r] (.bool (mayZ r)) := by
  have hGL : GloAll G [] := gloAll_nil
  refine fn_x Tryd.func54 Tryd.call54 rfl rfl rfl rfl hGL ?_
  intro C hC
  repeat' (first | (conv => whnf); first | refine .w ?_ | refine .v ?_ | refine sc_c ?_ ?_ <;> (intro hb; try exact dd hb) | apply sc_not | apply sc_or | (apply sc_i <;> intro hb) | (apply bx_i; intro hbd) | (apply cx_is; first | fail) | (apply cx_do (i := 0) rfl; first | fail) | (apply ab_i; intro bl) | (apply as_i; intro va vk vc hva) | (apply av_i; intro v) | (apply ac_i; intro bl cap hcap) | apply bo_l | (apply nx_i <;> intro hnx) | apply dw_q mixed hC hGL (by kernel_rfl) | (apply cq; assumption; (first | fail); exact rfl) | (show Rt _ _ _; exact rt_w) | fail)
  all_goals try conv => whnf
  all_goals (apply rt_is)
  all_goals (refine congrArg AVal.bool ?_)
  all_goals (rw [Bool.eq_iff_iff]; simp [mayZ_t, ltB_t, ltB_f, Bool.not_eq_true'] <;> omega)
theorem tup2 {k j : IntKind} {a b c e : Int} {H' : Heap} (h : c = a ∧ e = b) : Rt (fun (x : ARes) (H : Heap) => x = .ret (.tuple [.int k c, .int j e]) ∧ H = []) (.tuple [.int k a, .int j b]) H' := by
  obtain ⟨rfl, rfl⟩ := h
  exact rt_is rfl
theorem utf_Next {G : Glo} (s : List UInt8) : FnIs Tryd.prog G 41 [.str s] (.tuple [.int .i64 ((nextS s).1 : Int), .int .i64 ((nextS s).2 : Int)]) := by
  have hGL : GloAll G [] := gloAll_nil
  refine fn_x Tryd.func41 Tryd.call41 rfl rfl rfl rfl hGL ?_
  intro C hC
  repeat' (first | (conv => whnf); first | refine .w ?_ | refine .v ?_ | refine sc_c ?_ ?_ <;> (intro hb; try exact dd hb) | apply sc_not | apply sc_or | (apply sc_i <;> intro hb) | (apply bx_i; intro hbd) | (apply cx_is; first | exact utf_May _) | (apply cx_do (i := 0) rfl; first | exact utf_May _) | (apply ab_i; intro bl) | (apply as_i; intro va vk vc hva) | (apply av_i; intro v) | (apply ac_i; intro bl cap hcap) | apply bo_l | (apply nx_i <;> intro hnx) | apply dw_q mixed hC hGL (by kernel_rfl) | (apply cq; assumption; (first | exact utf_May _); exact rfl) | (show Rt _ _ _; exact rt_w) | fail)
  all_goals try conv => whnf
  any_goals (refine rds hC hGL 4 ?_)
  repeat' (first | (conv => whnf); first | refine .w ?_ | refine .v ?_ | refine sc_c ?_ ?_ <;> (intro hb; try exact dd hb) | apply sc_not | apply sc_or | (apply sc_i <;> intro hb) | (apply bx_i; intro hbd) | (apply cx_is; first | exact utf_May _) | (apply cx_do (i := 0) rfl; first | exact utf_May _) | (apply ab_i; intro bl) | (apply as_i; intro va vk vc hva) | (apply av_i; intro v) | (apply ac_i; intro bl cap hcap) | apply bo_l | (apply nx_i <;> intro hnx) | apply dw_q mixed hC hGL (by kernel_rfl) | (apply cq; assumption; (first | exact utf_May _); exact rfl) | (show Rt _ _ _; exact rt_w) | fail)
  all_goals try conv => whnf
  all_goals (refine tup2 ?_)
  all_goals (
    try simp only [show Int.toNat 0 = 0 from rfl, show Int.toNat 1 = 1 from rfl, show Int.toNat (1 + 1) = 2 from rfl, show Int.toNat (1 + 1 + 1) = 3 from rfl, Int.ofNat_toNat, mayZ_t, mayZ_f, ltB_t, ltB_f] at *
    generalize hz : nextS s = z
    unfold nextS contAt mayN cp2 cp3 cp4 at hz
    generalize byteAt s 0 = b0 at *
    generalize byteAt s 1 = b1 at *
    generalize byteAt s 2 = b2 at *
    generalize byteAt s 3 = b3 at *
    generalize s.length = l at *)
  all_goals (
    repeat' (split at hz; try (exfalso; omega))
    all_goals (try subst z)
    all_goals (first
      | exact ⟨rfl, rfl⟩
      | (simp only [Bool.and_eq_true, Bool.or_eq_true, decide_eq_true_eq, beq_iff_eq] at *; first | (exfalso; omega) | omega)))
end Go.Proofs.YtmgkpbgfkjedeaaDoor
namespace Go.Proofs.YtmgkpbgfkjedeaaDoor
open Go
set_option maxRecDepth 20000
set_option maxHeartbeats 4000000
set_option linter.unusedSimpArgs false
set_option linter.unusedVariables false
attribute [local irreducible] AWp AOps byteAt SrcOK OrOk GloAll FnSpec
attribute [local irreducible] nextS badI badS stepS rngR ownB
theorem utf_Bad {G : Glo} (s : List UInt8) (hl : s.length ≤ 9223372036854775807) : FnIs Tryd.prog G 31 [.str s] (.int .i64 (badI s)) := by
  have hGL : GloAll G [] := gloAll_nil
  refine fn_x Tryd.func31 Tryd.call31 rfl rfl rfl rfl hGL ?_
  intro C hC
  have hle := fun k => nextS_le (s.drop k)
  have k1 := @utf_Next
  refine xw1 ?_
  intros
  refine lp hC hGL (fun (i : Nat) => [(0, .str s), (3, .int .i64 i)]) (fun _ => []) (fun i => i ≤ s.length ∧ badS s = (badS (s.drop i)).map (· + i)) (fun i => s.length - i) 0 ?_ env_w rfl ?_
  · exact ⟨Nat.zero_le _, by simp⟩
  rintro i ⟨hi, hb0⟩
  have hn := hle i
  rw [List.length_drop] at hn
  have k1 := @utf_Next
  refine xw ?_
  repeat' (first | exact Le.n | refine Lc.mk ?_ ?_)
  all_goals intros
  · apply rt_is
    refine congrArg (AVal.int .i64) ?_
    have h1 := badS_step (s.drop i) (by rw [List.length_drop]; omega)
    rw [if_pos (by omega)] at h1
    rw [h1] at hb0
    simp only [badI, hb0, Option.map_some, Nat.zero_add]
  · have h1 := badS_step (s.drop i) (by rw [List.length_drop]; omega)
    rw [if_neg (by omega)] at h1
    refine nxt (i + (nextS (s.drop i)).2) ?_ ?_ env_w rfl
    · refine ⟨by omega, ?_⟩
      rw [hb0, h1, List.drop_drop]
      cases badS (s.drop (i + (nextS (s.drop i)).2)) <;> simp <;> omega
    · omega
  · apply rt_is
    refine congrArg (AVal.int .i64) ?_
    rw [badS_nil (s.drop i) (by rw [List.length_drop]; omega)] at hb0
    simp only [badI, hb0, Option.map_none]
end Go.Proofs.YtmgkpbgfkjedeaaDoor
namespace Go.Proofs.YtmgkpbgfkjedeaaDoor
open Go
set_option maxRecDepth 20000
set_option maxHeartbeats 4000000
set_option linter.unusedSimpArgs false
set_option linter.unusedVariables false
attribute [local irreducible] AWp AOps byteAt SrcOK OrOk GloAll FnSpec
def letterB (c : Int) : Bool := decide ((97 ≤ c ∧ c ≤ 122) ∨ (65 ≤ c ∧ c ≤ 90) ∨ (48 ≤ c ∧ c ≤ 57) ∨ c = 45)
attribute [local irreducible] letterB
/-- All bytes are such. -/
def allB (f : Int → Bool) (s : List UInt8) : Bool := s.all fun c => f (c.toNat : Int)
theorem below_succ {p : Nat → Prop} {i : Nat} (h : ∀ j, j < i → p j) (k : p i) : ∀ j, j < i + 1 → p j := by
  intro j hj
  by_cases e : j = i
  · subst e; exact k
  · exact h j (by omega)
def isS (s : List UInt8) : Bool := allB letterB s && (decide (s.length ≠ 0) && decide (s.length ≤ 40))
end Go.Proofs.YtmgkpbgfkjedeaaDoor
namespace Go.Proofs.YtmgkpbgfkjedeaaDoor
open Go
set_option maxRecDepth 20000
set_option maxHeartbeats 4000000
set_option linter.unusedSimpArgs false
set_option linter.unusedVariables false
attribute [local irreducible] AWp AOps byteAt SrcOK OrOk GloAll FnSpec
/-- Where a byte stands first. -/
def idxF (c : Int) : List UInt8 → Nat → Int
  | [], _ => -1
  | x :: t, k => if (x.toNat : Int) = c then k else idxF c t (k + 1)
def idxB (s : List UInt8) (c : Int) : Int := idxF c s 0
theorem idxF_find {c : UInt8} (b : ByteArray) : ∀ (t : List UInt8) (k : Nat), (∀ j, j < t.length → b[k + j]! = t.getD j 0) →
    (match (List.range' k t.length).find? fun i => b[i]! == c with | some i => (i : Int) | none => -1) = idxF (c.toNat : Int) t k
  | [], _, _ => by simp [idxF]
  | x :: t, k, h => by
    have h0 := h 0 (by simp)
    simp only [Nat.add_zero, List.getD_cons_zero] at h0
    rw [List.length_cons, List.range'_succ, List.find?_cons, h0]
    by_cases e : x = c
    · subst e; simp [idxF]
    · have e1 : (x == c) = false := by simpa using e
      rw [e1]
      have e2 : ¬ ((x.toNat : Int) = (c.toNat : Int)) := by
        intro h; exact e (UInt8.toNat_inj.1 (by omega))
      simp only [idxF, if_neg e2]
      exact idxF_find b t (k + 1) (fun j hj => by
        have := h (j + 1) (by simpa using hj)
        rw [show k + 1 + j = k + (j + 1) by omega, this]; simp)
theorem bytealg_IndexByteString {G : Glo} (s : List UInt8) (c : Int) (h0 : 0 ≤ c) (h1 : c ≤ 255) : FnIs Tryd.prog G 48 [.str s, .int .u8 c] (.int .i64 (idxB s c)) := by
  refine fnis_extern Tryd.func48 (by kernel_rfl) (by kernel_rfl) (by kernel_rfl) (e := Go.Extern.BytealgIndexByte.indexByte) (by kernel_rfl) ?_
  intro R args ha w
  obtain ⟨x, t, e, hx, y, t', e', hy, rfl⟩ := ha
  have hx := rel_str.1 hx
  have hy := rel_int.1 hy
  subst hx hy
  obtain rfl : args = #[.string ⟨s.toArray⟩, .int .u8 c] := by cases args; simp_all
  refine ⟨.int .i64 (idxB s c), ?_, rel_int.2 rfl⟩
  have hc : (c.toNat.toUInt8).toNat = c.toNat := by
    show (UInt8.ofNat c.toNat).toNat = _
    rw [UInt8.toNat_ofNat']; omega
  have key := idxF_find (c := c.toNat.toUInt8) ⟨s.toArray⟩ s 0 (fun j hj => by
    rw [Nat.zero_add]
    rw [getElem!_pos (⟨s.toArray⟩ : ByteArray) j (by rw [str_size]; exact hj)]
    show s.toArray[j] = _
    simp [List.getD, hj])
  rw [hc, Int.toNat_of_nonneg h0] at key
  have e : Go.Extern.BytealgIndexByte.indexByte #[.string ⟨s.toArray⟩, .int .u8 c] = (match (List.range (⟨s.toArray⟩ : ByteArray).size).find? fun i => (⟨s.toArray⟩ : ByteArray)[i]! == c.toNat.toUInt8 with | some i => pure (goInt i) | none => pure (goInt (-1))) := rfl
  rw [e, str_size, List.range_eq_range']
  unfold idxB
  rw [← key]
  generalize List.find? _ _ = o
  cases o <;> rfl
theorem stringslite_IndexByte {G : Glo} (s : List UInt8) (c : Int) (h0 : 0 ≤ c) (h1 : c ≤ 255) : FnIs Tryd.prog G 36 [.str s, .int .u8 c] (.int .i64 (idxB s c)) := by
  have hb := bytealg_IndexByteString (G := G) s c h0 h1
  have hGL : GloAll G [] := gloAll_nil
  refine fn_x Tryd.func36 Tryd.call36 rfl rfl rfl rfl hGL ?_
  intro C hC
  repeat' (first | (conv => whnf); first | refine .w ?_ | refine .v ?_ | refine sc_c ?_ ?_ <;> (intro hb; try exact dd hb) | apply sc_not | apply sc_or | (apply sc_i <;> intro hb) | (apply bx_i; intro hbd) | (apply cx_is; first | exact hb) | (apply cx_do (i := 0) rfl; first | exact hb) | (apply ab_i; intro bl) | (apply as_i; intro va vk vc hva) | (apply av_i; intro v) | (apply ac_i; intro bl cap hcap) | apply bo_l | (apply nx_i <;> intro hnx) | apply dw_q mixed hC hGL (by kernel_rfl) | (apply cq; assumption; (first | exact hb); exact rfl) | (show Rt _ _ _; exact rt_w) | fail)
  all_goals try conv => whnf
theorem strings_IndexByte {G : Glo} (s : List UInt8) (c : Int) (h0 : 0 ≤ c) (h1 : c ≤ 255) : FnIs Tryd.prog G 26 [.str s, .int .u8 c] (.int .i64 (idxB s c)) := by
  have hb := stringslite_IndexByte (G := G) s c h0 h1
  have hGL : GloAll G [] := gloAll_nil
  refine fn_x Tryd.func26 Tryd.call26 rfl rfl rfl rfl hGL ?_
  intro C hC
  repeat' (first | (conv => whnf); first | refine .w ?_ | refine .v ?_ | refine sc_c ?_ ?_ <;> (intro hb; try exact dd hb) | apply sc_not | apply sc_or | (apply sc_i <;> intro hb) | (apply bx_i; intro hbd) | (apply cx_is; first | exact hb) | (apply cx_do (i := 0) rfl; first | exact hb) | (apply ab_i; intro bl) | (apply as_i; intro va vk vc hva) | (apply av_i; intro v) | (apply ac_i; intro bl cap hcap) | apply bo_l | (apply nx_i <;> intro hnx) | apply dw_q mixed hC hGL (by kernel_rfl) | (apply cq; assumption; (first | exact hb); exact rfl) | (show Rt _ _ _; exact rt_w) | fail)
  all_goals try conv => whnf
end Go.Proofs.YtmgkpbgfkjedeaaDoor
namespace Go.Proofs
open Go.Shelf
def Tryd.lays156_ren : Go.Shelf.Ren := ⟨fun | 156 => 14 | 165 => 23 | 166 => 24 | 169 => 18 | 240 => 34 | 241 => 35 | 276 => 46 | 277 => 47 | n => n, fun | 31 => 22 | 9 => 9 | 3 => 3 | 4 => 4 | 0 => 0 | 20 => 20 | 72 => 47 | 76 => 57 | 70 => 44 | 37 => 45 | 75 => 31 | 127 => 61 | 164 => 80 | 5 => 5 | 80 => 49 | n => n, fun | n => n⟩
theorem Tryd.lays156 : Go.Proofs.Lays.n156 Tryd.prog Tryd.lays156_ren := {
  mixed := by kernel_rfl
  f156 := Tryd.func14.trans (congrArg some (by kernel_rfl))
  f165 := Tryd.func23.trans (congrArg some (by kernel_rfl))
  f166 := Tryd.func24.trans (congrArg some (by kernel_rfl))
  f169 := Tryd.func18.trans (congrArg some (by kernel_rfl))
  f240 := Tryd.func34.trans (congrArg some (by kernel_rfl))
  f241 := Tryd.func35.trans (congrArg some (by kernel_rfl))
  f276 := Tryd.func46.trans (congrArg some (by kernel_rfl))
  f277 := Tryd.func47.trans (congrArg some (by kernel_rfl))
  t0 := Tryd.underlying0
  a0 := Tryd.isAgg0
  z0 := Tryd.sizeOf0
  v0 := Tryd.zeroValue0
  t3 := Tryd.underlying3
  a3 := Tryd.isAgg3
  z3 := Tryd.sizeOf3
  v3 := Tryd.zeroValue3
  t4 := Tryd.underlying4
  a4 := Tryd.isAgg4
  z4 := Tryd.sizeOf4
  v4 := Tryd.zeroValue4
  t9 := Tryd.underlying9
  a9 := Tryd.isAgg9
  z9 := Tryd.sizeOf9
  v9 := Tryd.zeroValue9
  t20 := Tryd.underlying20
  a20 := Tryd.isAgg20
  z20 := Tryd.sizeOf20
  v20 := Tryd.zeroValue20
  t31 := Tryd.underlying22
  a31 := Tryd.isAgg22
  z31 := Tryd.sizeOf22
  v31 := Tryd.zeroValue22
  t37 := Tryd.underlying45
  a37 := Tryd.isAgg45
  z37 := Tryd.sizeOf45
  v37 := Tryd.zeroValue45
  t70 := Tryd.underlying44
  a70 := Tryd.isAgg44
  z70 := Tryd.sizeOf44
  v70 := Tryd.zeroValue44
  t72 := Tryd.underlying47
  a72 := Tryd.isAgg47
  z72 := Tryd.sizeOf47
  v72 := Tryd.zeroValue47
  t75 := Tryd.underlying31
  a75 := Tryd.isAgg31
  z75 := Tryd.sizeOf31
  v75 := Tryd.zeroValue31
  t76 := Tryd.underlying57
  a76 := Tryd.isAgg57
  z76 := Tryd.sizeOf57
  v76 := Tryd.zeroValue57
  t127 := Tryd.underlying61
  a127 := Tryd.isAgg61
  z127 := Tryd.sizeOf61
  v127 := Tryd.zeroValue61
  t164 := Tryd.underlying80
  a164 := Tryd.isAgg80
  z164 := Tryd.sizeOf80
  v164 := Tryd.zeroValue80 }
theorem Tryd.Builder_Extra_156 : Builder.Extra Tryd.prog Tryd.lays156_ren := {
  sizeBuilder := by kernel_rfl
  liesBuilder := by kernel_rfl
  t5 := Tryd.underlying5
  a5 := Tryd.isAgg5
  z5 := Tryd.sizeOf5
  v5 := Tryd.zeroValue5
  infoByte := by kernel_rfl
  cellsByte := by kernel_rfl
  sizeByte := by kernel_rfl
  neB5 := by decide }
open Go.RowKit in
/-- No element: the empty string; the world is as it was. (Whatever the slice's address and capacity: a nil slice too.) (LAID: no walk: one application.) -/
theorem Tryd.strings_Join_none (a : Option Addr) (c : Nat) (sep : ByteArray) (w : World) :
    Calls Tryd.prog 14 #[.slice a 0 c, .string sep] w fun e w' => e = .returned (.string ⟨#[]⟩) ∧ w' = w := Any.strings_Join_none Tryd.lays156 Tryd.Builder_Extra_156 a c sep w
open Go.RowKit in
/-- strings.Join: "Join concatenates the elements of its first argument to create a single string. The separator string sep is placed between elements in the resulting string.": HOWEVER MANY ELEMENTS. Below the heap's end the world is as it was. (LAID: no walk: one application.) -/
theorem Tryd.strings_Join (bk o c : Nat) (xs : List ByteArray) (sep : ByteArray) (w : World) (hcells : ∀ (j : Nat) x, xs[j]? = some x → w.cell? ⟨bk, o + j, none⟩ = some (.string x)) (hbk : bk < w.heap.size) (hN : xs.length ≤ 140737488355328) (hcap : xs.length ≤ c) (hlen : (Lib.join (xs.map (·.data.toList)) sep.data.toList).length ≤ 140737488355328) :
    Calls Tryd.prog 14 #[.slice (some ⟨bk, o, none⟩) xs.length c, .string sep] w fun e w' => e = .returned (.string ⟨(Lib.join (xs.map (·.data.toList)) sep.data.toList).toArray⟩) ∧ Below w.heap.size w w' := Any.strings_Join Tryd.lays156 Tryd.Builder_Extra_156 bk o c xs sep w hcells hbk hN hcap hlen
def Tryd.lays144_ren : Go.Shelf.Ren := ⟨fun | 144 => 11 | 143 => 21 | 219 => 32 | 217 => 36 | 225 => 42 | 224 => 43 | 267 => 44 | 266 => 48 | 314 => 55 | n => n, fun | 9 => 9 | 4 => 4 | 3 => 3 | 5 => 5 | 46 => 75 | 146 => 96 | 51 => 95 | n => n, fun | 1 => 0 | n => n⟩
theorem Tryd.lays144 : Go.Proofs.Lays.n144 Tryd.prog Tryd.lays144_ren := {
  mixed := by kernel_rfl
  f143 := Tryd.func21.trans (congrArg some (by kernel_rfl))
  f144 := Tryd.func11.trans (congrArg some (by kernel_rfl))
  f217 := Tryd.func36.trans (congrArg some (by kernel_rfl))
  f219 := Tryd.func32.trans (congrArg some (by kernel_rfl))
  f224 := Tryd.func43.trans (congrArg some (by kernel_rfl))
  f225 := Tryd.func42.trans (congrArg some (by kernel_rfl))
  f266 := Tryd.func48.trans (congrArg some (by kernel_rfl))
  f267 := Tryd.func44.trans (congrArg some (by kernel_rfl))
  f314 := Tryd.func55.trans (congrArg some (by kernel_rfl))
  t3 := Tryd.underlying3
  a3 := Tryd.isAgg3
  z3 := Tryd.sizeOf3
  v3 := Tryd.zeroValue3
  t4 := Tryd.underlying4
  a4 := Tryd.isAgg4
  z4 := Tryd.sizeOf4
  v4 := Tryd.zeroValue4
  t5 := Tryd.underlying5
  a5 := Tryd.isAgg5
  z5 := Tryd.sizeOf5
  v5 := Tryd.zeroValue5
  t9 := Tryd.underlying9
  a9 := Tryd.isAgg9
  z9 := Tryd.sizeOf9
  v9 := Tryd.zeroValue9
  t46 := Tryd.underlying75
  a46 := Tryd.isAgg75
  z46 := Tryd.sizeOf75
  v46 := Tryd.zeroValue75
  t51 := Tryd.underlying95
  a51 := Tryd.isAgg95
  z51 := Tryd.sizeOf95
  v51 := Tryd.zeroValue95
  t146 := Tryd.underlying96
  a146 := Tryd.isAgg96
  z146 := Tryd.sizeOf96
  v146 := Tryd.zeroValue96
  g1 := by kernel_rfl }
open Go.RowKit Go.Lib in
/-- strings.Contains: "Contains reports whether substr is within s.": AT A substr OF ONE BYTE c: IT RETURNS 'decide (0 ≤ Lib.indexByte s c)'; the world is as it was. (LAID: no walk: one application.) -/
theorem Tryd.strings_Contains_one (s : ByteArray) (c : UInt8) (w : World) :
    Calls Tryd.prog 11 #[.string s, .string ⟨#[c]⟩] w fun e w' => e = .returned (.bool (decide (0 ≤ Lib.indexByte s.data.toList c))) ∧ w' = w := Any.strings_Contains_one Tryd.lays144 s c w
end Go.Proofs
namespace Go.Proofs.YtmgkpbgfkjedeaaDoor
open Go Go.Extern
set_option maxRecDepth 20000
set_option maxHeartbeats 4000000
set_option linter.unusedSimpArgs false
set_option linter.unusedVariables false
attribute [local irreducible] AWp AOps byteAt SrcOK OrOk GloAll FnSpec
/-! ### Types as the model's externs hand them about -/
noncomputable def hdl (t : TypeId) : Value := typeHandle Tryd.prog t
theorem run_valueOf_ptr (t : Addr) (w : World) : (ReflectliteValue.unpack (.iface 77 (.pointer (some t)))).run Tryd.prog w
    = .ok (.agg #[hdl 77, .pointer (some ⟨w.heap.size, 0, none⟩), .int .u64 150]) (w.alloc (.cells #[.pointer (some t)] 77)) := by kernel_rfl
theorem run_valueOf_errno (e : Int) (w : World) : (ReflectliteValue.unpack (.iface 27 (.int .i64 e))).run Tryd.prog w
    = .ok (.agg #[hdl 27, .pointer (some ⟨w.heap.size, 0, none⟩), .int .u64 130]) (w.alloc (.cells #[.int .i64 e] 27)) := by kernel_rfl
theorem one_arg {R : Seal} {a : AVal} {args : Array Value} (h : RelV R [a] args.toList) : ∃ v, args = #[v] ∧ Rel R a v := by
  obtain ⟨x, t, e, hx, rfl⟩ := h
  exact ⟨x, by cases args; simp_all, hx⟩
theorem two_args {R : Seal} {a b : AVal} {args : Array Value} (h : RelV R [a, b] args.toList) : ∃ v u, args = #[v, u] ∧ Rel R a v ∧ Rel R b u := by
  obtain ⟨x, t, e, hx, y, t', e', hy, rfl⟩ := h
  exact ⟨x, y, by cases args; simp_all, hx, hy⟩
theorem iface_val {R : Seal} {t : TypeId} {a : AVal} {v : Value} (h : Rel R (.iface t a) v) : ∃ u, v = .iface t u ∧ Rel R a u := by
  obtain ⟨u, e, h1, h2⟩ := rel_one h rfl
  simp only [List.cons.injEq, and_true] at e
  exact ⟨u, e, h1, h2⟩
theorem valueOf_ptr {G : Glo} (bl : Nat) : FnIs Tryd.prog G 50 [.iface 77 (.raw (.pointer (some ⟨bl, 0, none⟩)))]
    (.agg [.raw (hdl 77), .rop [.raw (.pointer (some ⟨bl, 0, none⟩))] 0, .int .u64 150]) := by
  refine fnis_extern_new Tryd.func50 (by kernel_rfl) (by kernel_rfl) (by kernel_rfl) (e := fun args => ReflectliteValue.unpack (args.getD 0 (.tuple #[]))) (by kernel_rfl) ?_
  intro R args w ha
  obtain ⟨v, rfl, hv⟩ := one_arg ha
  obtain ⟨u, rfl, hu⟩ := iface_val hv
  obtain rfl := rel_raw.1 hu
  refine ⟨_, _, _, run_valueOf_ptr _ w, fun R' _ hR => ⟨⟨_, _, rfl, rfl, _, _, rfl, ?_, _, _, rfl, rfl, rfl⟩, rfl⟩⟩
  exact (relC_rop (R := R') (cs := [.raw (.pointer (some ⟨bl, 0, none⟩))]) (off := 0) (Nat.le_refl _) ⟨_, _, _, hR, ⟨_, _, rfl, rfl, rfl⟩⟩).1
theorem valueOf_errno {G : Glo} (e : Int) : FnIs Tryd.prog G 50 [.iface 27 (.int .i64 e)]
    (.agg [.raw (hdl 27), .rop [.int .i64 e] 0, .int .u64 130]) := by
  refine fnis_extern_new Tryd.func50 (by kernel_rfl) (by kernel_rfl) (by kernel_rfl) (e := fun args => ReflectliteValue.unpack (args.getD 0 (.tuple #[]))) (by kernel_rfl) ?_
  intro R args w ha
  obtain ⟨v, rfl, hv⟩ := one_arg ha
  obtain ⟨u, rfl, hu⟩ := iface_val hv
  obtain rfl := rel_int.1 hu
  refine ⟨_, _, _, run_valueOf_errno _ w, fun R' _ hR => ⟨⟨_, _, rfl, rfl, _, _, rfl, ?_, _, _, rfl, rfl, rfl⟩, rfl⟩⟩
  exact (relC_rop (R := R') (cs := [.int .i64 e]) (off := 0) (Nat.le_refl _) ⟨_, _, _, hR, ⟨_, _, rfl, rfl, rfl⟩⟩).1
/-! ### Types -/
noncomputable abbrev rty (t : TypeId) : AVal := .iface 110 (.agg [.raw (hdl t)])
theorem rel_rty {R : Seal} (t : TypeId) : Rel R (rty t) (.iface 110 (.agg #[hdl t])) := ⟨⟨_, rfl, ⟨_, _, rfl, rfl, rfl⟩, rfl⟩, rfl⟩
theorem agg1_val {R : Seal} {x : Value} {v : Value} (hx : vAgg x = false) (h : Rel R (.agg [.raw x]) v) : v = .agg #[x] := by
  obtain ⟨h1, h2⟩ := h
  cases v <;> simp only [AVal.isAgg, vAgg, Bool.true_eq_false] at h2
  rename_i cs
  obtain ⟨a, t, e, ha, rfl⟩ := h1
  simp only [Value.cells] at e
  have ha : [a] = x.cells.toList := ha
  have : x.cells.toList = [x] := by cases x <;> first | rfl | (simp [vAgg] at hx)
  rw [this] at ha
  simp only [List.cons.injEq, and_true] at ha
  subst ha
  have : cs = #[a] := by cases cs; simp_all
  rw [this]
theorem rty_val {R : Seal} {t : TypeId} {v : Value} (h : Rel R (rty t) v) : v = .iface 110 (.agg #[hdl t]) := by
  obtain ⟨u, rfl, hu⟩ := iface_val h
  rw [agg1_val rfl hu]
theorem agg3_val {R : Seal} {x : Value} {k : IntKind} {n : Int} {c : AVal} {v : Value} (hx : vAgg x = false) (h : Rel R (.agg [.raw x, .rop [c] 0, .int k n]) v) :
    ∃ b o, v = .agg #[x, .pointer (some ⟨b, o, none⟩), .int k n] ∧ SealedAt R b o [c] := by
  obtain ⟨h1, h2⟩ := h
  cases v <;> simp only [AVal.isAgg, vAgg, Bool.true_eq_false] at h2
  rename_i cs
  obtain ⟨a, t, e, ha, a', t', e', ha', a'', t'', e'', ha'', rfl⟩ := h1
  simp only [Value.cells] at e
  have ha : [a] = x.cells.toList := ha
  have hxl : x.cells.toList = [x] := by cases x <;> first | rfl | (simp [vAgg] at hx)
  rw [hxl] at ha
  simp only [List.cons.injEq, and_true] at ha
  subst ha
  have ha'' : [a''] = [Value.int k n] := ha''
  simp only [List.cons.injEq, and_true] at ha''
  subst ha''
  obtain ⟨b, o, e2, ho, hs⟩ := rop_inv (relC_rel ha' rfl)
  subst e2
  refine ⟨b, o, ?_, by simpa using hs⟩
  have : cs = #[a, .pointer (some ⟨b, o, none⟩), .int k n] := by cases cs; simp_all
  rw [this]
theorem typeOf_errno {G : Glo} (e : Int) : FnIs Tryd.prog G 60 [.iface 27 (.int .i64 e)] (rty 27) := by
  refine fnis_extern Tryd.func60 (by kernel_rfl) (by kernel_rfl) (by kernel_rfl) (e := ReflectliteType.typeOf) (by kernel_rfl) ?_
  intro R args ha w
  obtain ⟨v, rfl, hv⟩ := one_arg ha
  obtain ⟨u, rfl, hu⟩ := iface_val hv
  exact ⟨.iface 110 (.agg #[hdl 27]), by kernel_rfl, rel_rty _⟩
theorem typeOf_at {G : Glo} (a : AVal) : FnIs Tryd.prog G 60 [.iface 63 a] (rty 63) := by
  refine fnis_extern Tryd.func60 (by kernel_rfl) (by kernel_rfl) (by kernel_rfl) (e := ReflectliteType.typeOf) (by kernel_rfl) ?_
  intro R args ha w
  obtain ⟨v, rfl, hv⟩ := one_arg ha
  obtain ⟨u, rfl, hu⟩ := iface_val hv
  exact ⟨.iface 110 (.agg #[hdl 63]), by kernel_rfl, rel_rty _⟩
theorem type_ptr {G : Glo} (c : AVal) : FnIs Tryd.prog G 51 [.agg [.raw (hdl 77), .rop [c] 0, .int .u64 150]] (rty 77) := by
  refine fnis_extern Tryd.func51 (by kernel_rfl) (by kernel_rfl) (by kernel_rfl)
    (e := ReflectliteValue.methodAny (ReflectliteValue.valueError "reflectlite.Value.Type" 0) fun t _ _ _ => ReflectliteType.toType t) (by kernel_rfl) ?_
  intro R args ha w
  obtain ⟨v, rfl, hv⟩ := one_arg ha
  obtain ⟨b, o, rfl, _⟩ := agg3_val rfl hv
  exact ⟨.iface 110 (.agg #[hdl 77]), by kernel_rfl, rel_rty _⟩
theorem abi_kind {G : Glo} (t : TypeId) (k : Int) (h : ∀ w, (((ReflectliteType.abiMethod fun t => do pure (.int .u8 (← Rtype.kind t))) #[hdl t]).run Tryd.prog w) = .ok (.int .u8 k) w) : FnIs Tryd.prog G 84 [.raw (hdl t)] (.int .u8 k) := by
  refine fnis_extern Tryd.func84 (by kernel_rfl) (by kernel_rfl) (by kernel_rfl)
    (e := ReflectliteType.abiMethod fun t => do pure (.int .u8 (← Rtype.kind t))) (by kernel_rfl) ?_
  intro R args ha w
  obtain ⟨v, rfl, hv⟩ := one_arg ha
  obtain rfl := rel_raw.1 hv
  exact ⟨.int .u8 k, h w, rel_int.2 rfl⟩
theorem kind_ptr {G : Glo} : FnIs Tryd.prog G 84 [.raw (hdl 77)] (.int .u8 22) := abi_kind _ _ (fun w => by kernel_rfl)
theorem kind_errno {G : Glo} : FnIs Tryd.prog G 84 [.raw (hdl 27)] (.int .u8 2) := abi_kind _ _ (fun w => by kernel_rfl)
theorem elem_ptr {G : Glo} : FnIs Tryd.prog G 97 [.agg [.raw (hdl 77)]] (rty 27) := by
  refine fnis_extern Tryd.func97 (by kernel_rfl) (by kernel_rfl) (by kernel_rfl) (e := ReflectliteType.method ReflectliteType.elem) (by kernel_rfl) ?_
  intro R args ha w
  obtain ⟨v, rfl, hv⟩ := one_arg ha
  obtain rfl := agg1_val rfl hv
  exact ⟨.iface 110 (.agg #[hdl 27]), by kernel_rfl, rel_rty _⟩
theorem implements_errno {G : Glo} : FnIs Tryd.prog G 98 [.agg [.raw (hdl 27)], rty 31] (.bool true) := by
  refine fnis_extern Tryd.func98 (by kernel_rfl) (by kernel_rfl) (by kernel_rfl) (e := ReflectliteType.relation "Implements" ReflectliteType.implements_) (by kernel_rfl) ?_
  intro R args ha w
  obtain ⟨v, u, rfl, hv, hu⟩ := two_args ha
  obtain rfl := agg1_val rfl hv
  obtain rfl := rty_val hu
  exact ⟨.bool true, by kernel_rfl, rel_bool.2 rfl⟩
theorem assignable_errno {G : Glo} : FnIs Tryd.prog G 95 [.agg [.raw (hdl 27)], rty 27] (.bool true) := by
  refine fnis_extern Tryd.func95 (by kernel_rfl) (by kernel_rfl) (by kernel_rfl) (e := ReflectliteType.relation "AssignableTo" ReflectliteType.assignableTo) (by kernel_rfl) ?_
  intro R args ha w
  obtain ⟨v, u, rfl, hv, hu⟩ := two_args ha
  obtain rfl := agg1_val rfl hv
  obtain rfl := rty_val hu
  exact ⟨.bool true, by kernel_rfl, rel_bool.2 rfl⟩
theorem assignable_at {G : Glo} : FnIs Tryd.prog G 95 [.agg [.raw (hdl 63)], rty 27] (.bool false) := by
  refine fnis_extern Tryd.func95 (by kernel_rfl) (by kernel_rfl) (by kernel_rfl) (e := ReflectliteType.relation "AssignableTo" ReflectliteType.assignableTo) (by kernel_rfl) ?_
  intro R args ha w
  obtain ⟨v, u, rfl, hv, hu⟩ := two_args ha
  obtain rfl := agg1_val rfl hv
  obtain rfl := rty_val hu
  exact ⟨.bool false, by kernel_rfl, rel_bool.2 rfl⟩
/-! ### What reads or writes memory -/
theorem rlm (z : Sem Value) (f : TypeId → Addr → Nat → Nat → Sem Value) (v : Value) :
    ReflectliteValue.method z f #[v] = (do match ← ReflectliteValue.parts v with | none => z | some (t, a, fl) => f t a fl (fl % 32)) := rfl
theorem parts_ptr (a : Addr) (w : World) : (ReflectliteValue.parts (.agg #[hdl 77, .pointer (some a), .int .u64 150])).run Tryd.prog w = .ok (some (77, a, 150)) w := by kernel_rfl
theorem parts_var (a : Addr) (w : World) : (ReflectliteValue.parts (.agg #[hdl 27, .pointer (some a), .int .u64 386])).run Tryd.prog w = .ok (some (27, a, 386)) w := by kernel_rfl
theorem parts_errno (a : Addr) (w : World) : (ReflectliteValue.parts (.agg #[hdl 27, .pointer (some a), .int .u64 130])).run Tryd.prog w = .ok (some (27, a, 130)) w := by kernel_rfl
theorem elemOf_ptr (w : World) : (Rtype.elem? 77).run Tryd.prog w = .ok (some 27) w := by kernel_rfl
theorem mk_var (p : Addr) (w : World) : (ReflectliteValue.mk 27 p ReflectliteValue.flagAddr).run Tryd.prog w = .ok (.agg #[hdl 27, .pointer (some p), .int .u64 386]) w := by kernel_rfl
theorem isNil_ptr {G : Glo} (bl : Nat) : FnIs Tryd.prog G 52 [.agg [.raw (hdl 77), .rop [.raw (.pointer (some ⟨bl, 0, none⟩))] 0, .int .u64 150]] (.bool false) := by
  refine fnspec_extern Tryd.func52 (by kernel_rfl) (by kernel_rfl) (by kernel_rfl) (e := ReflectliteValue.method (ReflectliteValue.valueError "reflectlite.Value.IsNil" 0) ReflectliteValue.isNil) (by kernel_rfl) ?_
  intro C R args w hm ha
  obtain ⟨v, rfl, hv⟩ := one_arg ha
  obtain ⟨b, o, rfl, hs⟩ := agg3_val rfl hv
  obtain ⟨u, hu, hr⟩ := hs.cell hm.sealed (i := 0) rfl
  rw [Nat.add_zero] at hu
  have hr : [u] = [Value.pointer (some ⟨bl, 0, none⟩)] := hr
  simp only [List.cons.injEq, and_true] at hr
  subst hr
  refine ⟨.bool false, w, R, ?_, Seal.le_refl R, rel_bool.2 rfl, hm⟩
  rw [rlm]
  simp only [Sem.run_bind, parts_ptr, Result.andThen]
  simp [ReflectliteValue.isNil, loadVar, isAgg, underlying, Tryd.underlying77, hu, Result.andThen]
theorem elemV_ptr {G : Glo} (bl : Nat) : FnIs Tryd.prog G 61 [.agg [.raw (hdl 77), .rop [.raw (.pointer (some ⟨bl, 0, none⟩))] 0, .int .u64 150]] (.agg [.raw (hdl 27), .raw (.pointer (some ⟨bl, 0, none⟩)), .int .u64 386]) := by
  refine fnspec_extern Tryd.func61 (by kernel_rfl) (by kernel_rfl) (by kernel_rfl) (e := ReflectliteValue.method (ReflectliteValue.valueError "reflectlite.Value.Elem" 0) ReflectliteValue.elem) (by kernel_rfl) ?_
  intro C R args w hm ha
  obtain ⟨v, rfl, hv⟩ := one_arg ha
  obtain ⟨b, o, rfl, hs⟩ := agg3_val rfl hv
  obtain ⟨u, hu, hr⟩ := hs.cell hm.sealed (i := 0) rfl
  rw [Nat.add_zero] at hu
  have hr : [u] = [Value.pointer (some ⟨bl, 0, none⟩)] := hr
  simp only [List.cons.injEq, and_true] at hr
  subst hr
  refine ⟨.agg #[hdl 27, .pointer (some ⟨bl, 0, none⟩), .int .u64 386], w, R, ?_, Seal.le_refl R, ⟨⟨_, _, rfl, rfl, _, _, rfl, rfl, _, _, rfl, rfl, rfl⟩, rfl⟩, hm⟩
  rw [rlm]
  simp only [Sem.run_bind, parts_ptr, Result.andThen]
  simp [ReflectliteValue.elem, loadVar, isAgg, underlying, Tryd.underlying77, hu, Result.andThen, elemOf_ptr, mk_var]
end Go.Proofs.YtmgkpbgfkjedeaaDoor
namespace Go.Proofs.YtmgkpbgfkjedeaaDoor
open Go Go.Extern
set_option maxRecDepth 20000
set_option maxHeartbeats 4000000
set_option linter.unusedSimpArgs false
set_option linter.unusedVariables false
attribute [local irreducible] AWp AOps byteAt SrcOK OrOk GloAll FnSpec
theorem rls (v x : Value) : ReflectliteValue.set #[v, x] = (do
    let (some (dst, a, fl), some (src, b, _)) := (← ReflectliteValue.parts v, ← ReflectliteValue.parts x)
      | unsupported (.noEntry "extern/(internal/reflectlite.Value).Set.zeroValue")
    if fl / ReflectliteValue.flagAddr % 2 == 0 then unsupported (.noEntry "extern/(internal/reflectlite.Value).Set.unaddressable")
    let val ← loadVar src b
    if ← Rtype.directlyAssignable dst src then storeVar dst a val
    else if ← Rtype.implements dst src then
      if (← Rtype.kind src) == 20 then
        match val with
        | .nilIface => unsupported (.noEntry "extern/reflectlite: a nil value of one interface type handed on as a value of another")
        | _ => storeVar dst a val
      else storeVar dst a (.iface src val)
    else panicString ("reflectlite.Set: value of type " ++ (← Rtype.spelt src) ++ " is not assignable to type " ++ (← Rtype.spelt dst))
    pure (.tuple #[])) := rfl
theorem direct_errno (w : World) : (Rtype.directlyAssignable 27 27).run Tryd.prog w = .ok true w := by kernel_rfl
theorem aggv_val {R : Seal} {x y : Value} {k : IntKind} {n : Int} {v : Value} (hx : vAgg x = false) (hy : vAgg y = false) (h : Rel R (.agg [.raw x, .raw y, .int k n]) v) : v = .agg #[x, y, .int k n] := by
  obtain ⟨h1, h2⟩ := h
  cases v <;> simp only [AVal.isAgg, vAgg, Bool.true_eq_false] at h2
  rename_i cs
  obtain ⟨a, t, e, ha, a', t', e', ha', a'', t'', e'', ha'', rfl⟩ := h1
  simp only [Value.cells] at e
  have key : ∀ {z : Value}, vAgg z = false → z.cells.toList = [z] := by intro z hz; cases z <;> first | rfl | (simp [vAgg] at hz)
  have ha : [a] = x.cells.toList := ha
  have ha' : [a'] = y.cells.toList := ha'
  rw [key hx] at ha
  rw [key hy] at ha'
  have ha'' : [a''] = [Value.int k n] := ha''
  simp only [List.cons.injEq, and_true] at ha ha' ha''
  subst ha ha' ha''
  have : cs = #[a, a', .int k n] := by cases cs; simp_all
  rw [this]
theorem set_errno {G : Glo} (bl : Nat) (e old : Int) : FnSpec Tryd.prog G 62 [.agg [.raw (hdl 27), .raw (.pointer (some ⟨bl, 0, none⟩)), .int .u64 386], .agg [.raw (hdl 27), .rop [.int .i64 e] 0, .int .u64 130]]
    [.cells bl (some 27) [.int .i64 old]] (fun r H => r = .ret (.tuple []) ∧ H = [.cells bl (some 27) [.int .i64 e]]) := by
  refine fnspec_extern Tryd.func62 (by kernel_rfl) (by kernel_rfl) (by kernel_rfl) (e := ReflectliteValue.set) (by kernel_rfl) ?_
  intro C R args w hm ha
  obtain ⟨v, u, rfl, hv, hu⟩ := two_args ha
  obtain rfl := aggv_val rfl rfl hv
  obtain ⟨b, o, rfl, hs⟩ := agg3_val rfl hu
  obtain ⟨u, hu, hr⟩ := hs.cell hm.sealed (i := 0) rfl
  rw [Nat.add_zero] at hu
  have hr : [u] = [Value.int .i64 e] := hr
  simp only [List.cons.injEq, and_true] at hr
  subst hr
  obtain ⟨Cs, el, fz, hb, hl, hfz⟩ := own_cells hm (i := 0) rfl
  have hlen := relL_length hl
  simp only [Array.length_toList, List.length_cons, List.length_nil] at hlen
  obtain ⟨w', hst, ho⟩ := storeCells_run (P := Tryd.prog) [Value.int .i64 e] 0 0 Cs w hb (by simp only [List.length_cons, List.length_nil]; omega) hfz.1 (by intro v hv; simp only [List.mem_singleton] at hv; subst hv; exact ⟨rfl, fun _ => by simp⟩)
  refine ⟨.tuple #[], w', R, ?_, Seal.le_refl R, ⟨⟨#[], rfl, rfl⟩, rfl⟩, ?_⟩
  · rw [rls]
    simp only [Sem.run_bind, parts_var, parts_errno, Result.andThen]
    simp [ReflectliteValue.flagAddr, loadVar, isAgg, underlying, Tryd.underlying27, hu, Result.andThen, direct_errno, storeVar, Value.cells]
    rw [hst]
  · have hd : Cs.toList.drop (0 + 0 + [Value.int .i64 e].length) = [] := List.drop_eq_nil_of_le (by simp; omega)
    refine hm.write (i := 0) rfl rfl ho rfl ⟨_, _, _, ho.at_, ?_, ?_⟩
    · rw [hd]; exact ⟨_, _, rfl, rfl, rfl⟩
    · rw [hd]
      have : Cs.size = 1 := by omega
      rw [this] at hfz
      exact hfz
/-! ### Methods -/
section
variable (t : TypeId)
theorem m_kind : ∀ R v, Rel R (.agg [.raw (hdl t)]) v → ∀ w, ∃ u, (Go.method (Tryd.prog.types.size + Made.depth) 110 v "Kind").run Tryd.prog w = .ok (84, u) w ∧ Rel R (.raw (hdl t)) u := by
  intro R v h w
  obtain rfl := agg1_val rfl h
  exact ⟨hdl t, by kernel_rfl, rel_raw.2 rfl⟩
theorem m_elem : ∀ R v, Rel R (.agg [.raw (hdl t)]) v → ∀ w, ∃ u, (Go.method (Tryd.prog.types.size + Made.depth) 110 v "Elem").run Tryd.prog w = .ok (97, u) w ∧ Rel R (.agg [.raw (hdl t)]) u := by
  intro R v h w
  obtain rfl := agg1_val rfl h
  exact ⟨.agg #[hdl t], by kernel_rfl, h⟩
theorem m_impl : ∀ R v, Rel R (.agg [.raw (hdl t)]) v → ∀ w, ∃ u, (Go.method (Tryd.prog.types.size + Made.depth) 110 v "Implements").run Tryd.prog w = .ok (98, u) w ∧ Rel R (.agg [.raw (hdl t)]) u := by
  intro R v h w
  obtain rfl := agg1_val rfl h
  exact ⟨.agg #[hdl t], by kernel_rfl, h⟩
theorem m_asgn : ∀ R v, Rel R (.agg [.raw (hdl t)]) v → ∀ w, ∃ u, (Go.method (Tryd.prog.types.size + Made.depth) 110 v "AssignableTo").run Tryd.prog w = .ok (95, u) w ∧ Rel R (.agg [.raw (hdl t)]) u := by
  intro R v h w
  obtain rfl := agg1_val rfl h
  exact ⟨.agg #[hdl t], by kernel_rfl, h⟩
end
theorem m_unwrap (a : AVal) : ∀ R v, Rel R a v → ∀ w, ∃ u, (Go.method (Tryd.prog.types.size + Made.depth) 63 v "Unwrap").run Tryd.prog w = .ok (90, u) w ∧ Rel R a u := by
  intro R v h w
  exact ⟨v, by kernel_rfl, h⟩
theorem i_at_As : ∀ v w, (Instr.typeAssert (.iface 63 v) 31 115 true).run Tryd.prog w = .ok (.tuple #[.nilIface, .bool false]) w := fun v w => run_typeAssert_lacksB (z := .nilIface) Tryd.underlying115 (by kernel_rfl) (by kernel_rfl) v _ w
theorem i_at_Unwrap : ∀ v w, (Instr.typeAssert (.iface 63 v) 31 67 true).run Tryd.prog w = .ok (.tuple #[.iface 63 v, .bool true]) w := by intro v w; kernel_rfl
theorem i_errno_Unwrap : ∀ v w, (Instr.typeAssert (.iface 27 v) 31 67 true).run Tryd.prog w = .ok (.tuple #[.nilIface, .bool false]) w := fun v w => run_typeAssert_lacksB (z := .nilIface) Tryd.underlying67 (by kernel_rfl) (by kernel_rfl) v _ w
/-! ### The walks -/
abbrev errA (e : Int) : AVal := .iface 27 (.int .i64 e)
abbrev atA (e p : Int) : AVal := .iface 63 (.rop [.int .i64 e, .int .i64 p] 0)
noncomputable abbrev tgtV (bl : Nat) : AVal := .agg [.raw (hdl 77), .rop [.raw (.pointer (some ⟨bl, 0, none⟩))] 0, .int .u64 150]
abbrev tgtA (bl : Nat) : AVal := .iface 77 (.raw (.pointer (some ⟨bl, 0, none⟩)))
theorem At_Unwrap {G : Glo} (e p : Int) : FnIs Tryd.prog G 90 [.rop [.int .i64 e, .int .i64 p] 0] (errA e) := by
  have hGL : GloAll G [] := gloAll_nil
  refine fn_x Tryd.func90 Tryd.call90 rfl rfl rfl rfl hGL ?_
  intro C hC
  exact xw0
theorem errors_as_errno {G : Glo} (bl : Nat) (e old : Int) : FnSpec Tryd.prog G 53 [errA e, tgtA bl, tgtV bl, rty 27] [.cells bl (some 27) [.int .i64 old]] (fun r H => r = .ret (.bool true) ∧ H = [.cells bl (some 27) [.int .i64 e]]) := by
  have hGL : GloAll G [] := gloAll_nil
  refine fn_x Tryd.func53 Tryd.call53 rfl rfl rfl rfl hGL ?_
  intro C hC
  have h1 := typeOf_errno (G := G) e
  have h2 := elemV_ptr (G := G) bl
  have h3 := valueOf_errno (G := G) e
  have h4 := set_errno (G := G) bl e old
  have h5 := assignable_errno (G := G)
  have m1 := m_asgn 27
  refine xw1 ?_
  intros
  refine rds hC hGL 1 ?_
  exact xw0
theorem errors_as_at {G : Glo} (bl : Nat) (e p old : Int) : FnSpec Tryd.prog G 53 [atA e p, tgtA bl, tgtV bl, rty 27] [.cells bl (some 27) [.int .i64 old]] (fun r H => r = .ret (.bool true) ∧ H = [.cells bl (some 27) [.int .i64 e]]) := by
  have hGL : GloAll G [] := gloAll_nil
  refine fn_x Tryd.func53 Tryd.call53 rfl rfl rfl rfl hGL ?_
  intro C hC
  have h1 := typeOf_errno (G := G) e
  have h2 := elemV_ptr (G := G) bl
  have h3 := valueOf_errno (G := G) e
  have h4 := set_errno (G := G) bl e old
  have h5 := assignable_errno (G := G)
  have h6 := assignable_at (G := G)
  have h7 := typeOf_at (G := G) (.rop [.int .i64 e, .int .i64 p] 0)
  have h8 := At_Unwrap (G := G) e p
  have m1 := m_asgn 27
  have m2 := m_asgn 63
  have m3 := m_unwrap (.rop [.int .i64 e, .int .i64 p] 0)
  have i1 := i_at_As
  have i2 := i_at_Unwrap
  refine xw1 ?_
  intros
  refine rds hC hGL 2 ?_
  exact xw0
/-- What stands in errors.errorType. -/
noncomputable abbrev errTy : List (Nat × List AVal) := [(1, [rty 31])]
theorem errors_As {G : Glo} (hGL : GloAll G errTy) (bl : Nat) (e : Int) {ty : TypeId} {a : AVal} (hs : FnSpec Tryd.prog G 53 [.iface ty (unown a), tgtA bl, tgtV bl, rty 27] [.cells bl (some 27) [.int .i64 0]] (fun r H => r = .ret (.bool true) ∧ H = [.cells bl (some 27) [.int .i64 e]])) :
    FnSpec Tryd.prog G 39 [.iface ty a, tgtA bl] [.cells bl (some 27) [.int .i64 0]] (fun r H => r = .ret (.bool true) ∧ H = [.cells bl (some 27) [.int .i64 e]]) := by
  refine fn_x Tryd.func39 Tryd.call39 rfl rfl rfl rfl hGL ?_
  intro C hC
  have h1 := valueOf_ptr (G := G) bl
  have h2 := type_ptr (G := G) (.raw (.pointer (some ⟨bl, 0, none⟩)))
  have h3 := isNil_ptr (G := G) bl
  have h4 := kind_ptr (G := G)
  have h5 := elem_ptr (G := G)
  have h6 := kind_errno (G := G)
  have h7 := implements_errno (G := G)
  have m1 := m_kind 77
  have m2 := m_elem 77
  have m3 := m_kind 27
  have m4 := m_impl 27
  exact xw0
theorem api_Tell_nil {G : Glo} : FnIs Tryd.prog G 29 [.raw .nilIface] (.int .i64 0) := by
  have hGL : GloAll G [] := gloAll_nil
  refine fn_x Tryd.func29 Tryd.call29 rfl rfl rfl rfl hGL ?_
  intro C hC
  exact xw0
theorem api_Tell_errno {G : Glo} (hGL : GloAll G errTy) (e : Int) : FnIs Tryd.prog G 29 [errA e] (.int .i64 e) := by
  refine fn_x Tryd.func29 Tryd.call29 rfl rfl rfl rfl hGL ?_
  intro C hC
  repeat' (first | (conv => whnf); first | refine .w ?_ | refine .v ?_ | refine sc_c ?_ ?_ <;> (intro hb; try exact dd hb) | apply sc_not | apply sc_or | (apply sc_i <;> intro hb) | (apply bx_i; intro hbd) | (apply cx_is; first | exact errors_As hGL _ e (errors_as_errno _ e 0)) | (apply cx_do (i := 0) rfl; first | exact errors_As hGL _ e (errors_as_errno _ e 0)) | (apply ab_i; intro bl) | (apply as_i; intro va vk vc hva) | (apply av_i; intro v) | (apply ac_i; intro bl cap hcap) | apply bo_l | (apply nx_i <;> intro hnx) | apply dw_q mixed hC hGL (by kernel_rfl) | (apply cq; assumption; (first | exact errors_As hGL _ e (errors_as_errno _ e 0)); exact rfl) | (show Rt _ _ _; exact rt_w) | fail)
  all_goals try conv => whnf
theorem api_Tell_at {G : Glo} (hGL : GloAll G errTy) (e p : Int) : FnIs Tryd.prog G 29 [atA e p] (.int .i64 e) := by
  refine fn_x Tryd.func29 Tryd.call29 rfl rfl rfl rfl hGL ?_
  intro C hC
  repeat' (first | (conv => whnf); first | refine .w ?_ | refine .v ?_ | refine sc_c ?_ ?_ <;> (intro hb; try exact dd hb) | apply sc_not | apply sc_or | (apply sc_i <;> intro hb) | (apply bx_i; intro hbd) | (apply cx_is; first | exact errors_As hGL _ e (errors_as_at _ e p 0)) | (apply cx_do (i := 0) rfl; first | exact errors_As hGL _ e (errors_as_at _ e p 0)) | (apply ab_i; intro bl) | (apply as_i; intro va vk vc hva) | (apply av_i; intro v) | (apply ac_i; intro bl cap hcap) | apply bo_l | (apply nx_i <;> intro hnx) | apply dw_q mixed hC hGL (by kernel_rfl) | (apply cq; assumption; (first | exact errors_As hGL _ e (errors_as_at _ e p 0)); exact rfl) | (show Rt _ _ _; exact rt_w) | fail)
  all_goals try conv => whnf
/-- An error, and what it is taken for. -/
inductive Err
  | none
  | errno (e : Int)
  | at (e p : Int)
def Err.A : Err → AVal
  | .none => .raw .nilIface
  | .errno e => errA e
  | .at e p => atA e p
def Err.e : Err → Int
  | .none => 0
  | .errno e => e
  | .at e _ => e
def Err.p : Err → Int
  | .none => -1
  | .errno _ => -1
  | .at _ p => p
theorem plain_Place_nil {G : Glo} : FnIs Tryd.prog G 19 [.raw .nilIface] (.tuple [.int .i64 0, .int .i64 (-1)]) := by
  have hGL : GloAll G [] := gloAll_nil
  refine fn_x Tryd.func19 Tryd.call19 rfl rfl rfl rfl hGL ?_
  intro C hC
  repeat' (first | (conv => whnf); first | refine .w ?_ | refine .v ?_ | refine sc_c ?_ ?_ <;> (intro hb; try exact dd hb) | apply sc_not | apply sc_or | (apply sc_i <;> intro hb) | (apply bx_i; intro hbd) | (apply cx_is; first | exact api_Tell_nil) | (apply cx_do (i := 0) rfl; first | exact api_Tell_nil) | (apply ab_i; intro bl) | (apply as_i; intro va vk vc hva) | (apply av_i; intro v) | (apply ac_i; intro bl cap hcap) | apply bo_l | (apply nx_i <;> intro hnx) | apply dw_q mixed hC hGL (by kernel_rfl) | (apply cq; assumption; (first | exact api_Tell_nil); exact rfl) | (show Rt _ _ _; exact rt_w) | fail)
  all_goals try conv => whnf
  refine rds hC hGL 1 ?_
  exact xw0
theorem plain_Place_errno {G : Glo} (hGL : GloAll G errTy) (e : Int) : FnIs Tryd.prog G 19 [errA e] (.tuple [.int .i64 e, .int .i64 (-1)]) := by
  refine fn_x Tryd.func19 Tryd.call19 rfl rfl rfl rfl hGL ?_
  intro C hC
  have i1 := i_errno_Unwrap
  repeat' (first | (conv => whnf); first | refine .w ?_ | refine .v ?_ | refine sc_c ?_ ?_ <;> (intro hb; try exact dd hb) | apply sc_not | apply sc_or | (apply sc_i <;> intro hb) | (apply bx_i; intro hbd) | (apply cx_is; first | exact api_Tell_errno hGL e) | (apply cx_do (i := 0) rfl; first | exact api_Tell_errno hGL e) | (apply ab_i; intro bl) | (apply as_i; intro va vk vc hva) | (apply av_i; intro v) | (apply ac_i; intro bl cap hcap) | apply bo_l | (apply nx_i <;> intro hnx) | apply dw_q mixed hC hGL (by kernel_rfl) | (apply cq; assumption; (first | exact api_Tell_errno hGL e); exact rfl) | (show Rt _ _ _; exact rt_w) | fail)
  all_goals try conv => whnf
  refine rds hC hGL 1 ?_
  exact xw0
theorem plain_Place_at {G : Glo} (hGL : GloAll G errTy) (e p : Int) : FnIs Tryd.prog G 19 [atA e p] (.tuple [.int .i64 e, .int .i64 p]) := by
  refine fn_x Tryd.func19 Tryd.call19 rfl rfl rfl rfl hGL ?_
  intro C hC
  repeat' (first | (conv => whnf); first | refine .w ?_ | refine .v ?_ | refine sc_c ?_ ?_ <;> (intro hb; try exact dd hb) | apply sc_not | apply sc_or | (apply sc_i <;> intro hb) | (apply bx_i; intro hbd) | (apply cx_is; first | exact api_Tell_at hGL e p) | (apply cx_do (i := 0) rfl; first | exact api_Tell_at hGL e p) | (apply ab_i; intro bl) | (apply as_i; intro va vk vc hva) | (apply av_i; intro v) | (apply ac_i; intro bl cap hcap) | apply bo_l | (apply nx_i <;> intro hnx) | apply dw_q mixed hC hGL (by kernel_rfl) | (apply cq; assumption; (first | exact api_Tell_at hGL e p); exact rfl) | (show Rt _ _ _; exact rt_w) | fail)
  all_goals try conv => whnf
  refine rds hC hGL 1 ?_
  exact xw0
theorem plain_Place {G : Glo} (hGL : GloAll G errTy) (x : Err) : FnIs Tryd.prog G 19 [x.A] (.tuple [.int .i64 x.e, .int .i64 x.p]) := by
  cases x with
  | none => exact plain_Place_nil
  | errno e => exact plain_Place_errno hGL e
  | «at» e p => exact plain_Place_at hGL e p
theorem law_bare {G : Glo} (hGL : GloAll G errTy) (x : Err) (e : Int) : FnIs Tryd.prog G 8 [x.A, .int .i64 e] (.bool (eqB x.e e && eqB x.p (-1))) := by
  have hP := plain_Place hGL x
  cases x
  all_goals (
    refine fn_x Tryd.func8 Tryd.call8 rfl rfl rfl rfl hGL ?_
    intro C hC
    refine xw ?_
    repeat' (first | exact Le.n | refine Lc.mk ?_ ?_)
    all_goals intros
    all_goals (rename_i hb; apply rt_is; refine congrArg AVal.bool ?_; first | (rw [eqB_t.2 hb, Bool.true_and]; done) | (rw [eqB_f.2 hb]; rfl) | (rw [eqB_t.2 hb, Bool.true_and]; rfl)))
end Go.Proofs.YtmgkpbgfkjedeaaDoor
namespace Go.Proofs.YtmgkpbgfkjedeaaDoor
open Go
set_option maxRecDepth 20000
set_option maxHeartbeats 4000000
set_option linter.unusedSimpArgs false
set_option linter.unusedVariables false
attribute [local irreducible] AWp AOps byteAt SrcOK OrOk GloAll FnSpec
theorem bare_ok {G : Glo} (hU2 : GloAll G errTy) (x : Err) (h : x.p = -1) : FnIs Tryd.prog G 8 [x.A, .int .i64 x.e] (.bool true) := by
  have := law_bare hU2 x x.e
  rwa [h, eqB_t.2 rfl, eqB_t.2 rfl] at this
end Go.Proofs.YtmgkpbgfkjedeaaDoor
namespace Go.Proofs.YtmgkpbgfkjedeaaDoor
open Go
theorem idxF_spec {c : Int} : ∀ (t : List UInt8) (k : Nat), (idxF c t k = -1 ∧ ∀ j, j < t.length → (byteAt t j : Int) ≠ c) ∨ ∃ m, m < t.length ∧ idxF c t k = ((k + m : Nat) : Int) ∧ (byteAt t m : Int) = c ∧ ∀ j, j < m → (byteAt t j : Int) ≠ c
  | [], _ => .inl ⟨rfl, fun j h => absurd h (Nat.not_lt_zero _)⟩
  | x :: t, k => by
    by_cases e : (x.toNat : Int) = c
    · refine .inr ⟨0, by simp, by simp [idxF, e], by simpa [byteAt] using e, fun j h => absurd h (Nat.not_lt_zero _)⟩
    · have e1 : idxF c (x :: t) k = idxF c t (k + 1) := by simp [idxF, e]
      have h0 : ∀ {p : Prop}, (∀ j, j < t.length → (byteAt t j : Int) ≠ c) → ∀ j, j < (x :: t).length → (byteAt (x :: t) j : Int) ≠ c := by
        intro _ h j hj
        cases j with
        | zero => simpa [byteAt] using e
        | succ j => simpa [byteAt] using h j (by simpa using hj)
      rcases idxF_spec (c := c) t (k + 1) with ⟨h1, h2⟩ | ⟨m, h1, h2, h3, h4⟩
      · exact .inl ⟨by rw [e1, h1], h0 (p := True) h2⟩
      · refine .inr ⟨m + 1, by simpa using h1, by rw [e1, h2]; omega, by simpa [byteAt] using h3, fun j hj => ?_⟩
        cases j with
        | zero => simpa [byteAt] using e
        | succ j => simpa [byteAt] using h4 j (by omega)
set_option maxRecDepth 20000
set_option maxHeartbeats 4000000
set_option linter.unusedSimpArgs false
set_option linter.unusedVariables false
attribute [local irreducible] AWp AOps byteAt SrcOK OrOk GloAll FnSpec
attribute [local irreducible] idxB
end Go.Proofs.YtmgkpbgfkjedeaaDoor
namespace Go.Proofs.YtmgkpbgfkjedeaaDoor
open Go
set_option maxRecDepth 20000
set_option maxHeartbeats 4000000
set_option linter.unusedSimpArgs false
set_option linter.unusedVariables false
attribute [local irreducible] AWp AOps byteAt SrcOK OrOk GloAll FnSpec
/-- Bytes given one by one. -/
def partB : Nat → List Int → List (Nat × AVal)
  | _, [] => []
  | k, v :: vs => (k, .int .u8 v) :: partB (k + 1) vs
theorem partB_at : ∀ (vs : List Int) (k i : Nat) (h : i < vs.length), (partB k vs)[i]? = some (k + i, .int .u8 vs[i])
  | [], _, _, h => absurd h (Nat.not_lt_zero _)
  | v :: vs, k, 0, _ => rfl
  | v :: vs, k, i + 1, h => by
    have := partB_at vs (k + 1) i (by simpa using h)
    simp only [partB, List.getElem?_cons_succ, List.getElem_cons_succ]
    rw [this, show k + 1 + i = k + (i + 1) by omega]
def bytesI (vs : List Int) : List UInt8 := vs.map fun v => UInt8.ofNat v.toNat
theorem rv_bytes {P : Program} [Tab P] {C : Ctx} {H : Heap} {env : Env} (vs : List Int) {S T e : TypeId} {xS xT xe : TI} {x : Operand} (hx : evalA env x = some (.list 1 vs.length (partElem (partB 0 vs)))) (hv : ∀ v, v ∈ vs → 0 ≤ v ∧ v < 256)
    (h1 : tab P S = some xS) (h2 : xS.desc = .slice e) (h5 : tab P e = some xe) (h6 : xe.desc = .int .u8) (h3 : tab P T = some xT) (h4 : xT.desc = .string) : RunV P C H env (.convert S T x) (.str (bytesI vs)) := by
  refine rv_str_list (bytesI vs) hx (by simp [bytesI]) (fun i hi => ?_) h1 h2 h5 h6 h3 h4
  have hi : i < vs.length := by simpa [bytesI] using hi
  have := hv _ (List.getElem_mem hi)
  unfold partElem
  rw [partB_at vs 0 i hi]
  simp only [byteA, bytesI, List.getD, List.getElem?_map, List.getElem?_eq_getElem hi, Option.map_some, Option.getD_some]
  generalize vs[i] = v at *
  congr 1
  have e : v.toNat < 256 := by omega
  rw [UInt8.toNat_ofNat_of_lt' (by simpa using e)]
  omega
theorem bytesI_cons (v : Int) (vs : List Int) : bytesI (v :: vs) = UInt8.ofNat v.toNat :: bytesI vs := rfl
theorem bytesI_nil : bytesI [] = [] := rfl
end Go.Proofs.YtmgkpbgfkjedeaaDoor
namespace Go.Proofs.YtmgkpbgfkjedeaaDoor
open Go Go.RowKit
theorem MS.seal_cells {C : Ctx} {R : Seal} {w : World} {H : Heap} {b : Nat} {eT : Option TypeId} {cs : List AVal} (h : MS C R (.cells b eT cs :: H) w) :
    ∃ R', R.le R' ∧ MS C R' H w ∧ Rel R' (.rop cs 0) (.pointer (some ⟨b, 0, none⟩)) := by
  obtain ⟨Cs, el, fz, hb, hl, hfz⟩ := h.heap.holds _ (List.mem_cons_self ..)
  obtain ⟨h1, h2⟩ := h.fixed (b := b) rfl hb
  refine ⟨_, h2, h1, ⟨b, 0, Cs, el, fz, rfl, Nat.le_refl _, Seal.put_at _ _ _, ?_⟩, rfl⟩
  have hlen := relL_length hl
  rw [Nat.sub_self, List.drop_zero, List.take_of_length_le (by omega)]
  exact relL_mono h2 _ _ hl
abbrev ghostE : HEnt := .row (.slice none 0 0) none 1 0 []
section
variable {P : Program} [Tab P] {C : Ctx} {n : Nat} {G : Glo} {GL : List (Nat × List AVal)} {e : Env} {h : Heap} {env : Env} {H : Heap} {Q : AExit → Env → Heap → Prop}
/-- The cells at a place are sealed; the slot that points to them is told so; nothing is left at the place. -/
theorem to_sealc {i k j b : Nat} {eT : Option TypeId} {cs : List AVal} (hi : h[i]? = some (.cells b eT cs)) (hk : Env.get e k = some (.own j (.pointer (some ⟨b, 0, none⟩)))) :
    To C n e h ((k, .rop cs 0) :: e) (h.set i ghostE) := fun R a w hm hf => by
  obtain ⟨R', hle, hm', hr⟩ := MS.seal_cells (hm.perm (perm_front hi))
  refine ⟨R', hle, (hm'.ghost 1).perm (set_perm ghostE hi), ?_⟩
  have hf' := hf.mono hle
  refine ⟨fun t x ht => ?_, hf'.size, hf'.defers⟩
  simp only [Env.get] at ht
  split at ht
  · rename_i hb
    have := Nat.eq_of_beq_eq_true hb
    subst this
    simp only [Option.some.injEq] at ht
    subst ht
    obtain ⟨y, hy, hr'⟩ := hf'.fr k _ hk
    refine ⟨y, hy, ?_⟩
    rw [(rel_own.1 hr').1]
    exact hr
  · exact hf'.fr t x ht
omit [Tab P] in
theorem aw_to {c : Code} {e' : Env} {h' : Heap} (hto : To C n env H e' h') (k : AWp P C n c e' h' Q) : AWp P C n c env H Q := fun R a w hm hf => by
  obtain ⟨R0, _, hm, hf⟩ := hto R a w hm hf
  exact k R0 a w hm hf
/-- Slots told as the call's own. -/
def owns : List (Nat × Nat × Value) → Env → Env
  | [], e => e
  | (s, i, v) :: t, e => (s, .own i v) :: owns t e
def OwnsOK : List (Nat × Nat × Value) → Env → Prop
  | [], _ => True
  | (s, _, v) :: t, e => (Env.get (owns t e) s = some (.raw v) ∧ vAgg v = false) ∧ OwnsOK t e
theorem fs_owns {D : List Deferred} {R : Seal} {a : Act} : ∀ {os : List (Nat × Nat × Value)} {e : Env}, OwnsOK os e → FS D n R e a → FS D n R (owns os e) a
  | [], _, _, h => h
  | (_, _, _) :: _, _, ⟨⟨h1, h2⟩, h3⟩, h => fs_own h2 h1 (fs_owns h3 h)
/-- Into a function with such slots. -/
theorem fn_own (os : List (Nat × Nat × Value)) {f : FuncId} {fn : Func} {c : Code} {avs : List AVal} {Qf : ARes → Heap → Prop} {rs : List ResultVar} (hf : P.funcs[f]? = some fn)
    (hc : ∀ args w, (callFunc f args).run P w = .ok (.enter f args) w) (hb : fn.body = some c) (hn : fn.ntmps = n) (hrs : fn.results = rs.toArray) (hlen : Nat.ble avs.length n = true) (ho : OwnsOK os (argEnv 0 avs))
    (h : ∀ C : Ctx, C.G = G → AWp P C n c (owns os (argEnv 0 avs)) H (RetX P rs Qf)) : FnSpec P G f avs H Qf :=
  fn_spec hf hb hc hn hrs hlen fun w0 R0 hG => AWp.mono (aw_env (fun _ _ hf => fs_owns ho hf) (h ⟨w0, R0, blks H, G, hG, []⟩ rfl)) fun _ _ _ q => RetX_ok q
end
end Go.Proofs.YtmgkpbgfkjedeaaDoor
namespace Go.Proofs.YtmgkpbgfkjedeaaDoor
open Go Go.RowKit
theorem aw_bld {P : Program} [Tab P] {C : Ctx} {n : Nat} {env : Env} {H : Heap} {Q : AExit → Env → Heap → Prop} {c : Code} (i : Nat) {b : Nat} (hi : H[i]? = some (.cells b (some 47) [.raw (.pointer none), .raw (.slice none 0 0)]))
    (h : AWp P C n c env (H.set i (bldC b (.pointer none) H.length (.slice none 0 0)) ++ [bldR (.slice none 0 0) []]) Q) : AWp P C n c env H Q := by
  refine aw_ghost_row (eT := some 5) 1 ?_
  unfold AWp at h ⊢
  intro R a w hm hf
  obtain ⟨Cs, e, fz, hb, hl, hr⟩ := hm.heap.holds (.cells b (some 47) [.raw (.pointer none), .raw (.slice none 0 0)]) (List.mem_cons_of_mem _ (List.mem_of_getElem? hi))
  obtain ⟨v1, t1, e1, r1, v2, t2, e2, r2, e3⟩ := hl
  have r2' : RelC R (.own H.length (.slice none 0 0)) [v2] := by
    have : v2 = .slice none 0 0 := by simpa [RelC, Value.cells] using r2
    subst this
    simp [RelC, vAgg]
  have h1 := hm.swap (i := i + 1) (x := .cells b (some 47) [.raw (.pointer none), .raw (.slice none 0 0)]) (y := bldC b (.pointer none) H.length (.slice none 0 0)) (by rw [List.getElem?_cons_succ]; exact hi) rfl
    ⟨Cs, e, fz, hb, ⟨v1, t1, e1, r1, v2, t2, e2, r2', e3⟩, hr⟩
  rw [List.set_cons_succ] at h1
  exact h R a w (h1.perm (List.perm_append_singleton _ _).symm) hf
/-! ## A line in pieces -/
abbrev shortS : List UInt8 := [34, 34, 92, 92, 8, 98, 12, 102, 10, 110, 13, 114, 9, 116]
abbrev hexS : List UInt8 := [48, 49, 50, 51, 52, 53, 54, 55, 56, 57, 97, 98, 99, 100, 101, 102]
theorem idx_no {l : List UInt8} {c : Nat} (h : ∀ j, j < l.length → byteAt l j ≠ c) : idxB l (c : Int) = -1 := by
  unfold idxB
  rcases idxF_spec (c := (c : Int)) l 0 with ⟨h1, _⟩ | ⟨m, h1, _, h2, _⟩
  · exact h1
  · exact absurd (by omega) (h m h1)
theorem hex_at {n : Nat} (h : n < 16) : byteAt hexS n = hexB n := by
  have : ∀ n, n < 16 → byteAt hexS n = hexB n := by decide
  exact this n h
theorem short_at : ∀ j, j < shortS.length → byteAt shortS j = 34 ∨ byteAt shortS j = 92 ∨ byteAt shortS j = 8 ∨ byteAt shortS j = 98 ∨ byteAt shortS j = 12 ∨ byteAt shortS j = 102 ∨ byteAt shortS j = 10 ∨ byteAt shortS j = 110 ∨ byteAt shortS j = 13 ∨ byteAt shortS j = 114 ∨ byteAt shortS j = 9 ∨ byteAt shortS j = 116 := by decide
/-- The kinds of bytes: those with a letter, those that are one, those below the blank, others. -/
theorem qt_esc {c : Nat} (h : c = 34 ∨ c = 92 ∨ c = 8 ∨ c = 12 ∨ c = 10 ∨ c = 13 ∨ c = 9) : (c = 34 ∧ idxB shortS (c : Int) = 0 ∧ qtB c = [92, 34]) ∨ (c = 92 ∧ idxB shortS (c : Int) = 2 ∧ qtB c = [92, 92]) ∨ (c = 8 ∧ idxB shortS (c : Int) = 4 ∧ qtB c = [92, 98]) ∨ (c = 12 ∧ idxB shortS (c : Int) = 6 ∧ qtB c = [92, 102]) ∨ (c = 10 ∧ idxB shortS (c : Int) = 8 ∧ qtB c = [92, 110]) ∨ (c = 13 ∧ idxB shortS (c : Int) = 10 ∧ qtB c = [92, 114]) ∨ (c = 9 ∧ idxB shortS (c : Int) = 12 ∧ qtB c = [92, 116]) := by
  rcases h with rfl | rfl | rfl | rfl | rfl | rfl | rfl <;> decide
theorem qt_let {c : Nat} (h : c = 98 ∨ c = 102 ∨ c = 110 ∨ c = 114 ∨ c = 116) : ((c = 98 ∧ idxB shortS (c : Int) = 5) ∨ (c = 102 ∧ idxB shortS (c : Int) = 7) ∨ (c = 110 ∧ idxB shortS (c : Int) = 9) ∨ (c = 114 ∧ idxB shortS (c : Int) = 11) ∨ (c = 116 ∧ idxB shortS (c : Int) = 13)) ∧ qtB c = [UInt8.ofNat c] := by
  rcases h with rfl | rfl | rfl | rfl | rfl <;> decide
theorem qt_cls (c : Nat) : (c = 34 ∨ c = 92 ∨ c = 8 ∨ c = 12 ∨ c = 10 ∨ c = 13 ∨ c = 9) ∨ (c = 98 ∨ c = 102 ∨ c = 110 ∨ c = 114 ∨ c = 116) ∨ (c < 32 ∧ idxB shortS (c : Int) = -1 ∧ qtB c = [92, 117, 48, 48, UInt8.ofNat (48 + c / 16), UInt8.ofNat (hexB (c % 16))]) ∨ (32 ≤ c ∧ idxB shortS (c : Int) = -1 ∧ qtB c = [UInt8.ofNat c]) := by
  by_cases h : c = 34 ∨ c = 92 ∨ c = 8 ∨ c = 12 ∨ c = 10 ∨ c = 13 ∨ c = 9
  · exact .inl h
  · by_cases h1 : c = 98 ∨ c = 102 ∨ c = 110 ∨ c = 114 ∨ c = 116
    · exact .inr (.inl h1)
    · have h2 := idx_no (l := shortS) (c := c) (fun j hj e => by have := short_at j hj; omega)
      have h3 : escB c = 0 := by unfold escB; (repeat' split) <;> omega
      by_cases h4 : c < 32
      · exact .inr (.inr (.inl ⟨h4, h2, by unfold qtB; rw [h3, if_neg (by decide), if_pos h4]⟩))
      · exact .inr (.inr (.inr ⟨by omega, h2, by unfold qtB; rw [h3, if_neg (by decide), if_neg h4]⟩))
theorem len2 {a n : Nat} (h : a ≤ 51539607553) (k : n ≤ 6 := by exact Nat.le_of_ble_eq_true rfl) : a + n ≤ 137438953472 := by omega
set_option maxRecDepth 20000
set_option maxHeartbeats 4000000
set_option linter.unusedSimpArgs false
set_option linter.unusedVariables false
attribute [local irreducible] AWp AOps byteAt SrcOK OrOk GloAll FnSpec
attribute [local irreducible] qtT
theorem json_quoted {G : Glo} (s : List UInt8) (hl : s.length ≤ 8589934592) : FnIs Tryd.prog G 28 [.str s] (.str (qtS s)) := by
  have hX := fun c h0 h1 => strings_IndexByte (G := G) shortS c h0 h1
  have hGL : GloAll G [] := gloAll_nil
  refine fn_a Tryd.func28 Tryd.call28 rfl rfl rfl rfl ?_
  intro C hC
  refine cut hC hGL [(0, .str s)] [] True xn0 fun _ => ?_
  refine cuty hC hGL (fun b : Nat => [(0, .str s), (3, .own 0 (ptrA b))]) (fun b => [.cells b (some 47) [.raw (.pointer none), .raw (.slice none 0 0)]]) (fun _ => True) ?_ ?_
  · refine xn1 ?_
    intro b
    exact cy b trivial
  intro b _
  refine aw_bld 0 rfl ?_
  refine aw_code hC hGL (xn1 ?_)
  apply cx_bld (i := 0) (j := 1) rfl rfl (by decide) (write_byte1 (.inl rfl) (.slice none 0 0) [] 34 (by decide) (by decide) (by decide))
  intro va vk vc
  refine xn1 ?_
  refine lp hC hGL (fun x : Nat × Value => [(0, .str s), (3, .own 0 (ptrA b)), (9, .int .i64 (s.length : Nat)), (10, .int .i64 (x.1 : Nat))]) (fun x => [bldC b (ptrA b) 1 x.2, bldR x.2 (34 :: qtT (s.take x.1))]) (fun x => x.1 ≤ s.length ∧ ∃ va vk vc, x.2 = .slice va vk vc) (fun x => s.length - x.1) (0, .slice va vk vc) ⟨Nat.zero_le _, _, _, _, rfl⟩ env_w (by unfold qtT; rfl) ?_
  rintro ⟨k, _⟩ ⟨hk, ua, uk, uc, rfl⟩
  dsimp only at hk ⊢
  have hql := qtT_len (s.take k)
  rw [List.length_take] at hql
  have hll : (34 :: qtT (s.take k)).length ≤ 51539607553 := by rw [List.length_cons]; omega
  by_cases h : k < s.length
  · have hs := qtT_snoc s k h
    have hb := byteAt_lt s k
    have hX := hX (byteAt s k) (by omega) (by omega)
    rcases qt_cls (byteAt s k) with hc | hc | ⟨hc, hi, hq⟩ | ⟨hc, hi, hq⟩
    · rcases qt_esc hc with ⟨hc, hi, hq⟩ | ⟨hc, hi, hq⟩ | ⟨hc, hi, hq⟩ | ⟨hc, hi, hq⟩ | ⟨hc, hi, hq⟩ | ⟨hc, hi, hq⟩ | ⟨hc, hi, hq⟩
      all_goals
        rw [hi] at hX
        rw [hq] at hs
        refine xn1 ?_
        intros
        apply cx_bld (i := 0) (j := 1) rfl rfl (by decide) (write_string1 (.inr rfl) (.slice ua uk uc) (34 :: qtT (s.take k)) _ (len2 hll))
        intro xa xk xc
        refine xn1 ?_
        refine nxs (k + 1, .slice xa xk xc) ⟨h, _, _, _, rfl⟩ (by dsimp only; omega) env_w ?_
        dsimp only
        rw [← hs]
        exact sub_w
    · obtain ⟨hc, hq⟩ := qt_let hc
      rw [hq] at hs
      rcases hc with ⟨hc, hi⟩ | ⟨hc, hi⟩ | ⟨hc, hi⟩ | ⟨hc, hi⟩ | ⟨hc, hi⟩
      all_goals
        rw [hi] at hX
        refine xn1 ?_
        intros
        apply cx_bld (i := 0) (j := 1) rfl rfl (by decide) (write_byte1 (.inr rfl) (.slice ua uk uc) (34 :: qtT (s.take k)) (byteAt s k : Nat) (by omega) (by omega) (by omega))
        intro xa xk xc
        refine xn1 ?_
        refine nxs (k + 1, .slice xa xk xc) ⟨h, _, _, _, rfl⟩ (by dsimp only; omega) env_w ?_
        dsimp only
        rw [← hs]
        exact sub_w
    · rw [hi] at hX
      rw [hq] at hs
      have h4 := hex_at (n := byteAt s k % 16) (by omega)
      have h5 : bytesI [48 + (byteAt s k : Int) / 16, ((byteAt hexS ((byteAt s k : Int) % 16).toNat : Nat) : Int)] = [UInt8.ofNat (48 + byteAt s k / 16), UInt8.ofNat (hexB (byteAt s k % 16))] := by
        rw [show ((byteAt s k : Int) % 16).toNat = byteAt s k % 16 by omega, h4, bytesI_cons, bytesI_cons, bytesI_nil, show (48 + (byteAt s k : Int) / 16).toNat = 48 + byteAt s k / 16 by omega]
        rfl
      refine xn1 ?_
      intros
      refine op1_run hC hGL (rv_bytes [48 + (byteAt s k : Int) / 16, ((byteAt hexS ((byteAt s k : Int) % 16).toNat : Nat) : Int)] rfl (by have := byteAt_lt hexS ((byteAt s k : Int) % 16).toNat; intro v hv; simp only [List.mem_cons, List.not_mem_nil, or_false] at hv; omega) rfl rfl rfl rfl rfl rfl) rfl rfl ?_
      rw [h5]
      refine xn1 ?_
      apply cx_bld (i := 0) (j := 1) rfl rfl (by decide) (write_string1 (.inr rfl) (.slice ua uk uc) (34 :: qtT (s.take k)) _ (len2 hll))
      intro xa xk xc
      refine xn1 ?_
      refine nxs (k + 1, .slice xa xk xc) ⟨h, _, _, _, rfl⟩ (by dsimp only; omega) env_w ?_
      dsimp only
      rw [← hs]
      exact sub_w
    · rw [hi] at hX
      rw [hq] at hs
      refine xn1 ?_
      intros
      apply cx_bld (i := 0) (j := 1) rfl rfl (by decide) (write_byte1 (.inr rfl) (.slice ua uk uc) (34 :: qtT (s.take k)) (byteAt s k : Nat) (by omega) (by omega) (by omega))
      intro xa xk xc
      refine xn1 ?_
      refine nxs (k + 1, .slice xa xk xc) ⟨h, _, _, _, rfl⟩ (by dsimp only; omega) env_w ?_
      dsimp only
      rw [← hs]
      exact sub_w
  · obtain rfl : k = s.length := by omega
    refine xn1 ?_
    intros
    apply cx_bld (i := 0) (j := 1) rfl rfl (by decide) (write_byte1 (.inr rfl) (.slice ua uk uc) (34 :: qtT (s.take s.length)) 34 (by decide) (by decide) (by omega))
    intro xa xk xc
    refine xn1 ?_
    rw [List.take_length] at *
    apply cx_ble (i := 0) (j := 1) rfl rfl (by decide) (builder_string (34 :: qtT s ++ [34]) (by rw [List.length_append]; show _ + 1 ≤ _; omega))
    exact xn0
end Go.Proofs.YtmgkpbgfkjedeaaDoor
namespace Go.Proofs.YtmgkpbgfkjedeaaDoor
open Go Go.RowKit
def bruL : List Int := [0, 1, 56, 2, 57, 49, 28, 3, 61, 58, 42, 50, 38, 29, 17, 4, 62, 47, 59, 36, 45, 43, 51, 22, 53, 39, 33, 30, 24, 18, 12, 5, 63, 55, 48, 27, 60, 41, 37, 16, 46, 35, 44, 21, 52, 32, 23, 11, 54, 26, 40, 15, 34, 20, 31, 10, 25, 14, 19, 9, 13, 8, 7, 6]
abbrev bruTy : List (Nat × List AVal) := [(6, bruL.map fun z => .int .u8 z)]
abbrev dig36 : List UInt8 := [48, 49, 50, 51, 52, 53, 54, 55, 56, 57, 97, 98, 99, 100, 101, 102, 103, 104, 105, 106, 107, 108, 109, 110, 111, 112, 113, 114, 115, 116, 117, 118, 119, 120, 121, 122]
theorem dig_at {n : Nat} (h : n < 16) : byteAt dig36 n = hexB n := by
  have : ∀ n, n < 16 → byteAt dig36 n = hexB n := by decide
  exact this n h
set_option maxRecDepth 20000
set_option maxHeartbeats 4000000
set_option linter.unusedSimpArgs false
set_option linter.unusedVariables false
attribute [local irreducible] AWp AOps byteAt SrcOK OrOk GloAll FnSpec
theorem rv_negW {P : Program} [Tab P] {C : Ctx} {H : Heap} {env : Env} {x : Operand} {tx : TypeId} {k : IntKind} {m : Int} (hx : evalA env x = some (.int k m)) : RunV P C H env (.unOp .neg tx x) (.int k (k.wrap (0 - m))) := by
  intro R ρ w hm hf dst t p af g
  refine ⟨_, ?_, rel_int.2 rfl⟩
  simp only [execOp, rel_int.1 (hf _ _ hx), Op.unary, Op.intArith]
  rfl
theorem rv_shrC {P : Program} [Tab P] {C : Ctx} {H : Heap} {env : Env} {x y : Operand} {tx ty : TypeId} {k j : IntKind} {m : Int} (s : Nat) (hx : evalA env x = some (.int k m)) (hy : evalA env y = some (.int j (s : Int))) (hs : Nat.ble s k.bits = true) : RunV P C H env (.binOp .shr tx x y ty) (.int k (m / 2 ^ s)) := by
  intro R ρ w hm hf dst t p af g
  refine ⟨_, ?_, rel_int.2 rfl⟩
  have hs := Nat.le_of_ble_eq_true hs
  simp only [execOp, rel_int.1 (hf _ _ hx), rel_int.1 (hf _ _ hy), Go.binOp, eqGuard, Op.shift]
  rw [if_neg (show ¬ ((s : Int) < 0) by omega)]
  simp only [Int.toNat_natCast, Nat.min_eq_left hs]
  have : (m.fdiv (2 ^ s) : Int) = m / 2 ^ s := by rw [Int.fdiv_eq_ediv_of_nonneg _ (by exact_mod_cast Nat.zero_le _)]
  rw [this]
  rfl
theorem bits_16 {G : Glo} (hGL : GloAll G bruTy) : FnIs Tryd.prog G 69 [.int .u64 16] (.int .i64 4) := by
  refine fn_a Tryd.func69 Tryd.call69 rfl rfl rfl rfl ?_
  intro C hC
  refine cut hC hGL [(0, .int .u64 16)] [] True xn0 fun _ => ?_
  refine cut hC hGL [(0, .int .u64 16)] [] True xn0 fun _ => ?_
  refine aw_seq (aw_region ?_)
  refine ao_of_run rfl rfl (rv_move rfl) ?_
  refine ao_of_run rfl rfl (rv_move rfl) ?_
  refine ao_of_run rfl rfl (rv_negW rfl) ?_
  refine opsX_ok hC hGL _ _ _ ?_
  refine xn1 ?_
  refine op1_run hC hGL (rv_shrC (m := 4573923408821661840) 58 rfl rfl rfl) rfl rfl ?_
  refine xn1 ?_
  exact aw_code hC hGL xn0
theorem bits_16' {G : Glo} (hGL : GloAll G bruTy) : FnIs Tryd.prog G 67 [.int .u64 16] (.int .i64 4) := by
  have h := bits_16 hGL
  have hGL : GloAll G [] := gloAll_nil
  refine fn_x Tryd.func67 Tryd.call67 rfl rfl rfl rfl hGL ?_
  intro C hC
  exact xw0
theorem pow2_16 {G : Glo} : FnIs Tryd.prog G 66 [.int .i64 16] (.bool true) := by
  have hGL : GloAll G [] := gloAll_nil
  refine fn_x Tryd.func66 Tryd.call66 rfl rfl rfl rfl hGL ?_
  intro C hC
  refine xw1 ?_
  apply rt_is
  exact congrArg AVal.bool (eqB_t.2 rfl)
theorem rv_sliceRop {P : Program} [Tab P] {C : Ctx} {H : Heap} {env : Env} {x y : Operand} {cs : List AVal} {l n : Nat} {k0 : IntKind} {f : Nat → AVal} {T e : TypeId} {xT xe : TI} (hx : evalA env x = some (.rop cs 0)) (hy : evalA env y = some (.int k0 (l : Int))) (hn : cs.length = n) (hl : l < n) (hf : ∀ i, i < n - l → cs[l + i]? = some (f i)) (hT : tab P T = some xT) (hd : xT.desc = .array n e) (he : tab P e = some xe) (hs : xe.size = 1) : RunV P C H env (.slice T x (some y) none none) (.list 1 (n - l) f) := by
  intro R ρ w hm hf' dst t p af g
  obtain ⟨b, o, Cs, el, fz, e1, ho, hR, hr⟩ := rel_one (hf' _ _ hx) rfl
  simp only [List.cons.injEq, and_true] at e1
  have hu : P.underlying T = some (.array (P.arrayLen T) (P.elem T)) := by
    rw [tab_und hT, hd]
    simp [Program.arrayLen, Program.elem, tab_und hT, hd]
  have hal : P.arrayLen T = n := by simp [Program.arrayLen, tab_und hT, hd]
  have hel : P.elem T = e := by simp [Program.elem, tab_und hT, hd]
  refine ⟨.slice (some ⟨b, o + l, none⟩) (n - l) (n - l), ?_, ?_⟩
  · have hsz := tab_run_size he w
    simp only [execOp, e1, Option.map_some, Option.map_none, rel_int.1 (hf' _ _ hy), Sem.run_bind, run_sliceAt_array_l w T ⟨b, o, none⟩ hu k0 (l : Int) (by omega) (by omega), hel, hsz, hs, hal, Result.andThen_ok, Sem.run_pure]
    simp only [slicedAt, Int.toNat_natCast]
    rw [if_neg (by omega)]
    simp [Addr.add]
  · refine ⟨⟨_, _, rfl, Nat.le_refl _, .inr ⟨b, o + l, Cs, el, fz, rfl, hR, fun i hi => ?_⟩⟩, rfl⟩
    obtain ⟨v, hv, hrv⟩ := relL_get hr (hf i hi)
    have hlt : l + i < cs.length := by omega
    rw [List.getElem?_take_of_lt hlt, List.getElem?_drop] at hv
    have e2 : (Cs.toList.drop (o + l + i * 1)).take 1 = [v] := by
      rw [show o + l + i * 1 = o - 0 + (l + i) by omega]
      obtain ⟨hb, hg⟩ := List.getElem?_eq_some_iff.1 hv
      rw [List.drop_eq_getElem_cons hb, List.take_succ_cons, List.take_zero, hg]
    rw [e2]
    exact hrv
abbrev zs65 : List AVal := List.replicate 65 (.int .u8 0)
/-- The bytes of a number below 32 at base 16. -/
def hxS (c : Nat) : List UInt8 := if c < 16 then [UInt8.ofNat (hexB c)] else [49, UInt8.ofNat (hexB (c % 16))]
abbrev hxC (c : Nat) : List AVal := if c < 16 then zs65.set 64 (.int .u8 (byteAt dig36 c : Nat)) else (zs65.set 64 (.int .u8 (byteAt dig36 (c % 16) : Nat))).set 63 (.int .u8 (byteAt dig36 (c / 2 ^ 4) : Nat))
theorem format_bits {G : Glo} (hB : GloAll G bruTy) (c : Nat) (hc : c < 32) : FnIs Tryd.prog G 59 [.raw (.slice none 0 0), .int .u64 (c : Nat), .int .i64 16, .bool false, .bool false] (.tuple [.raw (.slice none 0 0), .str (hxS c)]) := by
  have h := bits_16' hB
  have h2 := pow2_16 (G := G)
  have hGL : GloAll G [] := gloAll_nil
  refine fn_a Tryd.func59 Tryd.call59 rfl rfl rfl rfl ?_
  intro C hC
  refine cut hC hGL [(1, .int .u64 (c : Nat)), (2, .int .i64 16), (3, .bool false), (4, .bool false), (10, .raw (.slice none 0 0))] [] True xn0 fun _ => ?_
  refine cut hC hGL [(1, .int .u64 (c : Nat)), (2, .int .i64 16), (3, .bool false), (4, .bool false), (10, .raw (.slice none 0 0))] [] True xn0 fun _ => ?_
  refine cuty hC hGL (fun b : Nat => [(1, .int .u64 (c : Nat)), (2, .int .i64 16), (3, .bool false), (4, .bool false), (10, .raw (.slice none 0 0)), (12, .own 0 (.pointer (some ⟨b, 0, none⟩)))]) (fun b => [.cells b (some 123) zs65]) (fun _ => True) ?_ ?_
  · refine xn1 ?_
    intro b
    exact cy b trivial
  intro b _
  refine cut hC hGL [(1, .int .u64 (c : Nat)), (2, .int .i64 16), (3, .bool false), (4, .bool false), (10, .raw (.slice none 0 0)), (12, .own 0 (.pointer (some ⟨b, 0, none⟩))), (13, .int .i64 65)] [.cells b (some 123) zs65] True xn0 fun _ => ?_
  refine cut hC hGL [(1, .int .u64 (c : Nat)), (2, .int .i64 16), (3, .bool false), (4, .bool false), (10, .raw (.slice none 0 0)), (12, .own 0 (.pointer (some ⟨b, 0, none⟩))), (13, .int .i64 65)] [.cells b (some 123) zs65] True xn0 fun _ => ?_
  refine cut hC hGL [(3, .bool false), (4, .bool false), (10, .raw (.slice none 0 0)), (12, .own 0 (.pointer (some ⟨b, 0, none⟩))), (13, .int .i64 (if c < 16 then 64 else 63))] [.cells b (some 123) (hxC c)] True ?_ fun _ => ?_
  · refine xn1 ?_
    by_cases h16 : c < 16
    · unfold hxC
      rw [if_pos h16, if_pos h16]
      refine rds hC hGL 1 ?_
      exact xn0
    · have e : ((c : Int).toNat &&& ((16 : Int) - 1).toNat) = c % 16 := Nat.and_two_pow_sub_one_eq_mod c 4
      unfold hxC
      rw [if_neg h16, if_neg h16]
      refine rds hC hGL 2 ?_
      refine xn1 ?_
      intros
      rw [e]
      refine op1_run hC hGL (rv_shrC 4 rfl rfl rfl) rfl rfl ?_
      exact xn0
  refine cut hC hGL [(3, .bool false), (4, .bool false), (10, .raw (.slice none 0 0)), (12, .own 0 (.pointer (some ⟨b, 0, none⟩))), (13, .int .i64 (if c < 16 then 64 else 63))] [.cells b (some 123) (hxC c)] True xn0 fun _ => ?_
  refine cut hC hGL [(10, .raw (.slice none 0 0)), (12, .own 0 (.pointer (some ⟨b, 0, none⟩))), (13, .int .i64 (if c < 16 then 64 else 63))] [.cells b (some 123) (hxC c)] True xn0 fun _ => ?_
  refine aw_to (to_sealc (i := 0) (k := 12) rfl rfl) ?_
  unfold hxC hxS
  by_cases h16 : c < 16
  · rw [if_pos h16, if_pos h16, if_pos h16]
    have hf : ∀ i, i < 65 - 64 → (zs65.set 64 (.int .u8 (byteAt dig36 c : Nat)))[64 + i]? = some (partElem (partB 0 [(byteAt dig36 c : Nat)]) i) := fun i hi => by
      obtain rfl : i = 0 := by omega
      rfl
    have he : bytesI [(byteAt dig36 c : Nat)] = [UInt8.ofNat (hexB c)] := by rw [dig_at h16]; rfl
    refine aw_code hC hGL (xn1 ?_)
    refine op1_run hC hGL (rv_sliceRop (l := 64) (n := 65) rfl rfl rfl (by decide) hf rfl rfl rfl rfl) rfl rfl ?_
    refine xn1 ?_
    refine op1_run hC hGL (rv_bytes [(byteAt dig36 c : Nat)] rfl (by have := byteAt_lt dig36 c; intro v hv; simp only [List.mem_cons, List.not_mem_nil, or_false] at hv; omega) rfl rfl rfl rfl rfl rfl) rfl rfl ?_
    rw [he]
    exact xn0
  · rw [if_neg h16, if_neg h16, if_neg h16]
    have h1 : c / 2 ^ 4 = 1 := by omega
    rw [h1]
    have hf : ∀ i, i < 65 - 63 → ((zs65.set 64 (.int .u8 (byteAt dig36 (c % 16) : Nat))).set 63 (.int .u8 (byteAt dig36 1 : Nat)))[63 + i]? = some (partElem (partB 0 [(byteAt dig36 1 : Nat), (byteAt dig36 (c % 16) : Nat)]) i) := fun i hi => by
      rcases (show i = 0 ∨ i = 1 by omega) with rfl | rfl <;> rfl
    have he : bytesI [(byteAt dig36 1 : Nat), (byteAt dig36 (c % 16) : Nat)] = [49, UInt8.ofNat (hexB (c % 16))] := by rw [dig_at (n := c % 16) (by omega), dig_at (n := 1) (by omega)]; rfl
    refine aw_code hC hGL (xn1 ?_)
    refine op1_run hC hGL (rv_sliceRop (l := 63) (n := 65) rfl rfl rfl (by decide) hf rfl rfl rfl rfl) rfl rfl ?_
    refine xn1 ?_
    refine op1_run hC hGL (rv_bytes [(byteAt dig36 1 : Nat), (byteAt dig36 (c % 16) : Nat)] rfl (by have := byteAt_lt dig36 (c % 16); have := byteAt_lt dig36 1; intro v hv; simp only [List.mem_cons, List.not_mem_nil, or_false] at hv; omega) rfl rfl rfl rfl rfl rfl) rfl rfl ?_
    rw [he]
    exact xn0
theorem format_int {G : Glo} (hB : GloAll G bruTy) (c : Nat) (hc : c < 32) : FnIs Tryd.prog G 49 [.int .i64 (c : Nat), .int .i64 16] (.str (hxS c)) := by
  have h : FnIs Tryd.prog G 59 [.raw (.slice none 0 0), .int .u64 (c : Nat), .int .i64 16, .bool (ltB (c : Int) 0), .bool false] (.tuple [.raw (.slice none 0 0), .str (hxS c)]) := by
    rw [show ltB (c : Int) 0 = false from ltB_f.2 (by omega)]
    exact format_bits hB c hc
  have hGL : GloAll G [] := gloAll_nil
  refine fn_x Tryd.func49 Tryd.call49 rfl rfl rfl rfl hGL ?_
  intro C hC
  exact xw0
theorem strconv_format {G : Glo} (hB : GloAll G bruTy) (c : Nat) (hc : c < 32) : FnIs Tryd.prog G 37 [.int .i64 (c : Nat), .int .i64 16] (.str (hxS c)) := by
  have h := format_int hB c hc
  have hGL : GloAll G [] := gloAll_nil
  refine fn_x Tryd.func37 Tryd.call37 rfl rfl rfl rfl hGL ?_
  intro C hC
  exact xw0
theorem hex_digits {G : Glo} (hB : GloAll G bruTy) (c : Nat) (hc : c < 32) : FnIs Tryd.prog G 27 [.int .i64 (c : Nat), .int .i64 16, .int .i64 4] (.str [48, 48, UInt8.ofNat (48 + c / 16), UInt8.ofNat (hexB (c % 16))]) := by
  have h := strconv_format hB c hc
  by_cases h16 : c < 16
  · have e : hxS c = [UInt8.ofNat (hexB c)] := if_pos h16
    rw [e] at h
    rw [show c / 16 = 0 by omega, show c % 16 = c by omega]
    have hGL : GloAll G [] := gloAll_nil
    refine fn_x Tryd.func27 Tryd.call27 rfl rfl rfl rfl hGL ?_
    intro C hC
    refine xw1 ?_
    intros
    refine rds hC hGL 4 ?_
    exact xw0
  · have e : hxS c = [49, UInt8.ofNat (hexB (c % 16))] := if_neg h16
    rw [e] at h
    rw [show c / 16 = 1 by omega]
    have hGL : GloAll G [] := gloAll_nil
    refine fn_x Tryd.func27 Tryd.call27 rfl rfl rfl rfl hGL ?_
    intro C hC
    refine xw1 ?_
    intros
    refine rds hC hGL 3 ?_
    exact xw0
end Go.Proofs.YtmgkpbgfkjedeaaDoor
