/- Parts of the proof of jsonReads_card: Bu, Ug, Bw, Dc, Rf, Tell, Telb, Up, Byt, Nm, Uq, Thr, Jrb. -/
import Derived.Lib.Builder
import Derived.Lib.UnsafeStr
import Derived.Scope
import GoSem.PinnedTables
import Derived.Stop.Asserts
import Derived.Lib.IndexAny
import Derived.Test.YtmgkpbgfkjedeaaGreatDoorBae
import Derived.Test.YtmgkpbgfkjedeaaGreatDoorBad
set_option linter.unusedVariables false
set_option linter.unusedSimpArgs false
namespace Go.Proofs.YtmgkpbgfkjedeaaGreatDoor
open Go
set_option maxRecDepth 20000
set_option maxHeartbeats 4000000
set_option linter.unusedSimpArgs false
set_option linter.unusedVariables false
attribute [local irreducible] AWp AOps byteAt SrcOK OrOk GloAll FnSpec
abbrev ptrA (b : Nat) : Value := .pointer (some ⟨b, 0, none⟩)
/-- A builder's two entries. -/
abbrev bldC (b : Nat) (p : Value) (j : Nat) (v : Value) : HEnt := .cells b (some 92) [.raw p, .own j v]
abbrev bldR (v : Value) (s : List UInt8) : HEnt := .row v (some 5) 1 s.length (bytesC s)
theorem fn_xo {P : Program} [Tab P] {G : Glo} {GL : List (Nat × List AVal)} {n : Nat} {H : Heap} {v : Value} (i : Nat) {f : FuncId} {fn : Func} {c : Code} {avs : List AVal} {Qf : ARes → Heap → Prop} {rs : List ResultVar} (hf : P.funcs[f]? = some fn)
    (hc : ∀ args w, (callFunc f args).run P w = .ok (.enter f args) w) (hb : fn.body = some c) (hn : fn.ntmps = n) (hrs : fn.results = rs.toArray) (hlen : Nat.ble (AVal.raw v :: avs).length n = true) (hGL : GloAll G GL) (hv : vAgg v = false)
    (h : ∀ C : Ctx, C.G = G → codeX P C n G GL c ((0, .own i v) :: argEnv 0 (.raw v :: avs)) H (RetX P rs Qf)) : FnSpec P G f (.raw v :: avs) H Qf :=
  fn_spec hf hb hc hn hrs hlen fun w0 R0 hG => (own_slot (C := ⟨w0, R0, blks H, G, hG, []⟩) (k := 0) i rfl hGL hv rfl (h ⟨w0, R0, blks H, G, hG, []⟩ rfl)).mono fun _ _ _ q => RetX_ok q
theorem no_escape {G : Glo} (b : Nat) : FnIs Tryz.prog G 68 [.raw (ptrA b)] (.raw (ptrA b)) := by
  refine fnis_extern Tryz.func68 (by kernel_rfl) (by kernel_rfl) (by kernel_rfl) (e := Go.Extern.AbiNoEscape.same) (by kernel_rfl) ?_
  rintro R args ⟨x, t, e, h1, h2⟩ w
  obtain rfl : t = [] := h2
  obtain ⟨l⟩ := args
  obtain rfl : l = [x] := e
  exact ⟨x, rfl, h1⟩
theorem ms_shape {C : Ctx} {R : Seal} {H : Heap} {w : World} (hm : MS C R H w) {i b : Nat} {e : TypeId} {cs : List AVal} (hi : H[i]? = some (.cells b (some e) cs)) : w.shape? b = some (e, cs.length) := by
  obtain ⟨Cs, el, fz, hb, hl, _, ht⟩ := own_cells hm hi
  have := relL_length hl
  simp only [Array.length_toList] at this
  simp [World.shape?, hb, this, ht e rfl]
section
variable {C : Ctx} {H : Heap} {env : Env} {x y : Operand} {i j b : Nat} {c0 c1 : AVal}
theorem rv_uptr (hx : evalA env x = some (.own i (ptrA b))) (hi : H[j]? = some (.cells b (some 92) [c0, c1])) : RunV Tryz.prog C H env (.convert 90 109 x) (.own i (ptrA b)) := by
  intro R ρ w hm hf dst t p af g
  refine ⟨ptrA b, ?_, rel_own.2 ⟨rfl, rfl⟩⟩
  obtain ⟨ie, hie, hs1, _⟩ := tab_info (P := Tryz.prog) (t := 92) rfl
  have hr := Lib.run_to_unsafe (P := Tryz.prog) w (src := 90) (dst := 109) (t := 92) (j := ie) ⟨b, 0, none⟩ Tryz.underlying90 Tryz.underlying109 hie (by rw [hs1]; exact Nat.succ_ne_zero _) (ms_shape hm hi) (Nat.zero_lt_succ _)
  simp only [execOp, (rel_own.1 (hf _ _ hx)).1, Sem.run_bind, hr, Result.andThen_ok, Sem.run_pure]
theorem rv_ptru (hx : evalA env x = some (.raw (ptrA b))) (hi : H[j]? = some (.cells b (some 92) [c0, c1])) : RunV Tryz.prog C H env (.convert 109 90 x) (.raw (ptrA b)) := by
  intro R ρ w hm hf dst t p af g
  refine ⟨ptrA b, ?_, rel_raw.2 rfl⟩
  obtain ⟨ie, hie, hs1, _⟩ := tab_info (P := Tryz.prog) (t := 92) rfl
  have hr := Lib.run_from_unsafe (P := Tryz.prog) w (src := 109) (dst := 90) (u := 92) (j := ie) ⟨b, 0, none⟩ Tryz.underlying109 Tryz.underlying90 hie (ms_shape hm hi) (by kernel_rfl)
  simp only [execOp, rel_raw.1 (hf _ _ hx), Sem.run_bind, hr, Result.andThen_ok, Sem.run_pure]
theorem rv_neptr (hx : evalA env x = some (.raw (ptrA b))) (hy : evalA env y = some (.own i (ptrA b))) : RunV Tryz.prog C H env (.binOp .neq 90 x y 90) (.bool false) := by
  intro R ρ w hm hf dst t p af g
  refine ⟨.bool false, ?_, rel_bool.2 rfl⟩
  obtain ⟨ie, hie, hs1, _⟩ := tab_info (P := Tryz.prog) (t := 92) rfl
  have hr := Lib.run_neq_ptr_same (P := Tryz.prog) w (tp := 90) (te := 92) (j := ie) ⟨b, 0, none⟩ Tryz.underlying90 hie
  have hg : (eqGuard BinOp.neq 90 x y (ptrA b) (ptrA b)).run Tryz.prog w = .ok () w := rfl
  simp only [execOp, rel_raw.1 (hf _ _ hx), (rel_own.1 (hf _ _ hy)).1, Sem.run_bind, hg, hr, Result.andThen_ok, Sem.run_pure]
end
theorem copyCheck_new {G : Glo} (b : Nat) (j : Nat) (v : Value) : FnSpec Tryz.prog G 58 [.raw (ptrA b)] [bldC b (.pointer none) j v] (fun r H => r = .ret (.tuple []) ∧ H = [bldC b (ptrA b) j v]) := by
  have hGL : GloAll G [] := gloAll_nil
  refine fn_xo 0 Tryz.func58 Tryz.call58 rfl rfl rfl rfl hGL rfl ?_
  intro C hC
  refine xw1 ?_
  intros
  refine op1_run hC hGL (rv_uptr (j := 0) rfl rfl) rfl rfl ?_
  repeat' (first | (conv => whnf); first | refine .w ?_ | refine .v ?_ | refine sc_c ?_ ?_ <;> (intro hb; try exact dd hb) | apply sc_not | apply sc_or | (apply sc_i <;> intro hb) | (apply bx_i; intro hbd) | (apply cx_is; first | exact no_escape _) | (apply cx_do (i := 0) rfl; first | exact no_escape _) | (apply ab_i; intro bl) | (apply as_i; intro va vk vc hva) | (apply av_i; intro v) | (apply ac_i; intro bl cap hcap) | apply bo_l | (apply nx_i <;> intro hnx) | apply dw_q mixed hC hGL (by kernel_rfl) | (apply cq; assumption; (first | exact no_escape _); exact rfl) | (show Rt _ _ _; exact rt_w) | fail)
  all_goals try conv => whnf
  refine op1_run hC hGL (rv_ptru (j := 0) rfl rfl) rfl rfl ?_
  exact xw0
theorem copyCheck_old {G : Glo} (b : Nat) (j : Nat) (v : Value) : FnSpec Tryz.prog G 58 [.raw (ptrA b)] [bldC b (ptrA b) j v] (fun r H => r = .ret (.tuple []) ∧ H = [bldC b (ptrA b) j v]) := by
  have hGL : GloAll G [] := gloAll_nil
  refine fn_xo 0 Tryz.func58 Tryz.call58 rfl rfl rfl rfl hGL rfl ?_
  intro C hC
  refine xw1 ?_
  intros
  refine op1_run hC hGL (rv_neptr rfl rfl) rfl rfl ?_
  exact xw0
/-- What addr may hold. -/
def AddrOK (b : Nat) (p : Value) : Prop := p = .pointer none ∨ p = ptrA b
theorem copyCheck_any {G : Glo} {b : Nat} {p : Value} (hp : AddrOK b p) (j : Nat) (v : Value) : FnSpec Tryz.prog G 58 [.raw (ptrA b)] [bldC b p j v] (fun r H => r = .ret (.tuple []) ∧ H = [bldC b (ptrA b) j v]) := by
  rcases hp with rfl | rfl
  · exact copyCheck_new b j v
  · exact copyCheck_old b j v
theorem bldR_app (v : Value) (s t : List UInt8) : HEnt.row v (some 5) 1 (s.length + t.length) (bytesC s ++ bytesC t) = bldR v (s ++ t) := by
  simp only [bldR, bytesC, List.length_append, List.map_append]
/-- A builder's two entries, wherever they stand. -/
theorem two_perm {H : Heap} {i j : Nat} {x0 y0 : HEnt} (hne : i ≠ j) (hi : H[i]? = some x0) (hj : H[j]? = some y0) : ∃ rest : Heap, H.Perm ([x0, y0] ++ rest) ∧ ∀ x y, ((H.set i x).set j y).Perm ([x, y] ++ rest) := by
  have key : ∃ rest : Heap, ∀ x y, ((H.set i x).set j y).Perm ([x, y] ++ rest) := by
    rcases Nat.lt_or_gt_of_ne hne with h | h
    · refine ⟨(H.eraseIdx j).eraseIdx i, fun x y => ?_⟩
      have h1 := set_perm (H := H.set i x) (i := j) (x := y0) y (by rw [List.getElem?_set_ne (by omega)]; exact hj)
      rw [List.eraseIdx_set_gt h] at h1
      have h2 := set_perm (H := H.eraseIdx j) (i := i) (x := x0) x (by rw [List.getElem?_eraseIdx_of_lt h]; exact hi)
      refine h1.symm.trans ?_
      refine (List.Perm.append_left [y] h2.symm).trans ?_
      exact List.Perm.swap x y _
    · refine ⟨(H.eraseIdx j).eraseIdx (i - 1), fun x y => ?_⟩
      have h1 := set_perm (H := H.set i x) (i := j) (x := y0) y (by rw [List.getElem?_set_ne (by omega)]; exact hj)
      rw [List.eraseIdx_set_lt h] at h1
      have h2 := set_perm (H := H.eraseIdx j) (i := i - 1) (x := x0) x (by rw [List.getElem?_eraseIdx_of_ge (by omega), show i - 1 + 1 = i by omega]; exact hi)
      refine h1.symm.trans ?_
      refine (List.Perm.append_left [y] h2.symm).trans ?_
      exact List.Perm.swap x y _
  obtain ⟨rest, h⟩ := key
  refine ⟨rest, ?_, h⟩
  have := h x0 y0
  have e1 : H.set i x0 = H := by
    obtain ⟨hl, he⟩ := List.getElem?_eq_some_iff.1 hi
    rw [← he]; exact List.set_getElem_self hl
  have e2 : H.set j y0 = H := by
    obtain ⟨hl, he⟩ := List.getElem?_eq_some_iff.1 hj
    rw [← he]; exact List.set_getElem_self hl
  rw [e1, e2] at this
  exact this
/-- The hint within a builder's cell is of no account. -/
theorem ms_hint {C : Ctx} {R : Seal} {H : Heap} {w : World} {b j : Nat} {p v : Value} (k : Nat) (h : MS C R (bldC b p j v :: H) w) : MS C R (bldC b p k v :: H) w :=
  h.swap (i := 0) (x := bldC b p j v) (y := bldC b p k v) rfl rfl (h.heap.holds (bldC b p j v) List.mem_cons_self)
theorem fn_post {P : Program} {G : Glo} {f : FuncId} {avs : List AVal} {H H0 : Heap} {Qf Qf' : ARes → Heap → Prop} (hb : ∀ k, k ∈ blks H ↔ k ∈ blks H0) (hpre : ∀ C R w, MS C R H0 w → MS C R H w) (h : FnSpec P G f avs H Qf)
    (hq : ∀ r H', Qf r H' → ∃ H'', Qf' r H'' ∧ ∀ C R w, MS C R H' w → MS C R H'' w) : FnSpec P G f avs H0 Qf' := by
  unfold FnSpec at h ⊢
  intro R w args hG hm ha
  rcases h R w args hG ((hpre _ _ _ hm).blks_iff fun k => (hb k).symm) ha with ⟨h1, h2⟩ | ⟨v, w', h1, res, H', R', q, er, hm'⟩
  · exact .inl ⟨h1, h2.mono fun e w' ⟨res, H', R', q, er, hm'⟩ => let ⟨H'', q', hc⟩ := hq _ _ q; ⟨res, H'', R', q', er, hc _ _ _ (hm'.blks_iff hb)⟩⟩
  · obtain ⟨H'', q', hc⟩ := hq _ _ q
    exact .inr ⟨v, w', h1, res, H'', R', q', er, hc _ _ _ (hm'.blks_iff hb)⟩
theorem fn_hint {P : Program} {G : Glo} {f : FuncId} {avs : List AVal} {b j k : Nat} {p v : Value} {H : Heap} {Qf Qf' : ARes → Heap → Prop} (h : FnSpec P G f avs (bldC b p k v :: H) Qf)
    (hq : ∀ r H', Qf r H' → ∃ H'', Qf' r H'' ∧ ∀ C R w, MS C R H' w → MS C R H'' w) : FnSpec P G f avs (bldC b p j v :: H) Qf' :=
  fn_post (H := bldC b p k v :: H) (H0 := bldC b p j v :: H) (fun _ => Iff.rfl) (fun _ _ _ h => ms_hint k h) h hq
abbrev ghostR : HEnt := .row (.slice none 0 0) none 1 0 []
/-- An owned block written, and let go. -/
theorem MS.spoil {C : Ctx} {R : Seal} {H : Heap} {w w' : World} {i b : Nat} {x : HEnt} {o : Obj} (h : MS C R H w) (hi : H[i]? = some x) (hb : x.blk = some b) (hw : OneBlk w b o w') : MS C R (H.set i ghostR) w' := by
  obtain ⟨a, c, rfl, hset⟩ := set_split (y := ghostR) hi
  rw [hset]
  have hx : x ∈ a ++ x :: c := by simp
  have hRb := h.heap.apart x hx b hb
  have hnd := h.heap.nodup
  rw [List.filterMap_append, List.filterMap_cons, hb] at hnd
  have hd := List.nodup_append.1 hnd
  have hother : ∀ z, z ∈ a ∨ z ∈ c → ∀ k, z.blk = some k → k ≠ b := by
    rintro z hz k hk rfl
    rcases hz with hz | hz
    · exact hd.2.2 k (List.mem_filterMap.2 ⟨z, hz, hk⟩) k (by simp) rfl
    · exact (List.nodup_cons.1 hd.2.1).1 (List.mem_filterMap.2 ⟨z, hz, hk⟩)
  have hmem : ∀ z, z ∈ a ++ ghostR :: c → z = ghostR ∨ ((z ∈ a ∨ z ∈ c) ∧ z ∈ a ++ x :: c) := by
    intro z hz
    simp only [List.mem_append, List.mem_cons] at hz ⊢
    rcases hz with hz | hz | hz
    · exact .inr ⟨.inl hz, .inl hz⟩
    · exact .inl hz
    · exact .inr ⟨.inr hz, .inr (.inr hz)⟩
  refine ⟨?_, h.ge, h.fresh, ⟨?_, ?_, ?_⟩, ?_, ?_⟩
  · intro k o' hk
    rw [hw.other k (by rintro rfl; rw [hRb] at hk; cases hk)]
    exact h.sealed k o' hk
  · intro z hz
    rcases hmem z hz with rfl | ⟨hz', hz''⟩
    · exact ⟨rfl, .inl ⟨rfl, rfl⟩⟩
    · exact HEnt.holds_mono (h.heap.holds z hz'') (Seal.le_refl R) fun k hk => hw.other k (hother z hz' k hk)
  · rw [List.filterMap_append, List.filterMap_cons]
    refine List.nodup_append.2 ⟨hd.1, (List.nodup_cons.1 hd.2.1).2, fun k hk l hl => hd.2.2 k hk l (List.mem_cons_of_mem _ hl)⟩
  · intro z hz k hk
    rcases hmem z hz with rfl | ⟨_, hz''⟩
    · cases hk
    · exact h.heap.apart z hz'' k hk
  · intro z hz k hk
    rcases hmem z hz with rfl | ⟨_, hz''⟩
    · cases hk
    · exact h.own z hz'' k hk
  · have hob := h.own x hx b hb
    refine ⟨hw.os.trans h.ext.os, hw.tape.trans h.ext.tape, hw.output.trans h.ext.output, by rw [hw.size]; exact h.ext.size, fun k hk hB => ?_⟩
    rw [hw.other k (by rintro rfl; rcases hob with h1 | h1; omega; exact hB h1)]
    exact h.ext.block k hk hB
/-- A call that writes to a builder. -/
theorem cx_bld {P : Program} [Tab P] {G : Glo} {f : FuncId} {avs : List AVal} {H : Heap} {K Kp : AVal → Heap → Prop} {i j b : Nat} {p v : Value} {s s' : List UInt8} {r : AVal} (hi : H[i]? = some (bldC b p j v)) (hj : H[j]? = some (bldR v s)) (hne : i ≠ j)
    (hs : FnSpec P G f avs [bldC b p 1 v, bldR v s] (fun x H => ∃ va vk vc, x = .ret r ∧ H = [bldC b (ptrA b) 1 (.slice va vk vc), bldR (.slice va vk vc) s']))
    (k : ∀ va vk vc, forceH ((H.set i (bldC b (ptrA b) j (.slice va vk vc))).set j (bldR (.slice va vk vc) s')) (K r)) : Cx P G f avs H K Kp := by
  obtain ⟨rest, hp, hp2⟩ := two_perm hne hi hj
  have h1 : FnSpec P G f avs [bldC b p j v, bldR v s] (fun x H => ∃ va vk vc, x = .ret r ∧ H = [bldC b (ptrA b) j (.slice va vk vc), bldR (.slice va vk vc) s']) := by
    refine fn_hint hs ?_
    rintro x H' ⟨va, vk, vc, rfl, rfl⟩
    exact ⟨_, ⟨va, vk, vc, rfl, rfl⟩, fun C R w h => ms_hint j h⟩
  refine ⟨fun x H' => ∃ va vk vc, x = .ret r ∧ H' = (H.set i (bldC b (ptrA b) j (.slice va vk vc))).set j (bldR (.slice va vk vc) s'), fn_heap (fn_perm (H1 := [bldC b p j v, bldR v s] ++ rest) hp.symm (fn_frame rest h1)) ?_, ?_, ?_⟩
  · rintro x H' ⟨H1', ⟨va, vk, vc, rfl, rfl⟩, rfl⟩
    exact ⟨_, (hp2 _ _).symm, va, vk, vc, rfl, rfl⟩
  · rintro v' H' ⟨va, vk, vc, e, rfl⟩
    cases e
    have := k va vk vc
    rw [forceH_eq] at this
    exact this
  · rintro v' H' ⟨va, vk, vc, e, rfl⟩; cases e
/-- A call that ends a builder. -/
theorem cx_ble {P : Program} [Tab P] {G : Glo} {f : FuncId} {avs : List AVal} {H : Heap} {K Kp : AVal → Heap → Prop} {i j b : Nat} {p v : Value} {s : List UInt8} {r : AVal} (hi : H[i]? = some (bldC b p j v)) (hj : H[j]? = some (bldR v s)) (hne : i ≠ j)
    (hs : FnSpec P G f avs [bldC b p 1 v, bldR v s] (fun x H => x = .ret r ∧ H = []))
    (k : forceH ((H.set i ghostR).set j ghostR) (K r)) : Cx P G f avs H K Kp := by
  obtain ⟨rest, hp, hp2⟩ := two_perm hne hi hj
  have h1 : FnSpec P G f avs [bldC b p j v, bldR v s] (fun x H => x = .ret r ∧ H = [ghostR, ghostR]) := by
    refine fn_hint hs ?_
    rintro x H' ⟨rfl, rfl⟩
    exact ⟨_, ⟨rfl, rfl⟩, fun C R w h => (h.ghost 1).ghost 1⟩
  refine ⟨fun x H' => x = .ret r ∧ H' = (H.set i ghostR).set j ghostR, fn_heap (fn_perm (H1 := [bldC b p j v, bldR v s] ++ rest) hp.symm (fn_frame rest h1)) ?_, ?_, ?_⟩
  · rintro x H' ⟨H1', ⟨rfl, rfl⟩, rfl⟩
    exact ⟨_, (hp2 _ _).symm, rfl, rfl⟩
  · rintro v' H' ⟨e, rfl⟩
    cases e
    rw [forceH_eq] at k
    exact k
  · rintro v' H' ⟨e, rfl⟩; cases e
theorem write_string1 {G : Glo} {b : Nat} {p : Value} (hp : AddrOK b p) (v : Value) (s t : List UInt8) (hl : s.length + t.length ≤ 137438953472) : FnSpec Tryz.prog G 47 [.raw (ptrA b), .str t] [bldC b p 1 v, bldR v s]
    (fun r H => ∃ va vk vc, r = .ret (.tuple [.int .i64 t.length, .raw .nilIface]) ∧ H = [bldC b (ptrA b) 1 (.slice va vk vc), bldR (.slice va vk vc) (s ++ t)]) := by
  have hGL : GloAll G [] := gloAll_nil
  refine fn_xo 0 Tryz.func47 Tryz.call47 rfl rfl rfl rfl hGL rfl ?_
  intro C hC
  repeat' (first | (conv => whnf); first | refine .w ?_ | refine .v ?_ | refine sc_c ?_ ?_ <;> (intro hb; try exact dd hb) | apply sc_not | apply sc_or | (apply sc_i <;> intro hb) | (apply bx_i; intro hbd) | (apply cx_is; first | exact copyCheck_any hp _ _) | (apply cx_do (i := 0) rfl; first | exact copyCheck_any hp _ _) | (apply ab_i; intro bl) | (apply as_i; intro va vk vc hva) | (apply av_i; intro v) | (apply ac_i; intro bl cap hcap) | apply bo_l | (apply nx_i <;> intro hnx) | apply dw_q mixed hC hGL (by kernel_rfl) | (apply cq; assumption; (first | exact copyCheck_any hp _ _); exact rfl) | (show Rt _ _ _; exact rt_w) | fail)
  all_goals try conv => whnf
  refine op1_apps hC hGL rfl rfl rfl rfl rfl rfl rfl rfl rfl rfl rfl rfl rfl rfl hl rfl ?_
  intro va vk vc
  refine xw1 ?_
  intros
  exact ⟨_, List.Sublist.refl _, va, vk, vc, rfl, by rw [bldR_app]⟩
theorem write_byte1 {G : Glo} {b : Nat} {p : Value} (hp : AddrOK b p) (v : Value) (s : List UInt8) (c : Int) (h0 : 0 ≤ c) (h1 : c < 256) (hl : s.length + 1 ≤ 137438953472) : FnSpec Tryz.prog G 49 [.raw (ptrA b), .int .u8 c] [bldC b p 1 v, bldR v s]
    (fun r H => ∃ va vk vc, r = .ret (.raw .nilIface) ∧ H = [bldC b (ptrA b) 1 (.slice va vk vc), bldR (.slice va vk vc) (s ++ [UInt8.ofNat c.toNat])]) := by
  have hGL : GloAll G [] := gloAll_nil
  refine fn_xo 0 Tryz.func49 Tryz.call49 rfl rfl rfl rfl hGL rfl ?_
  intro C hC
  repeat' (first | (conv => whnf); first | refine .w ?_ | refine .v ?_ | refine sc_c ?_ ?_ <;> (intro hb; try exact dd hb) | apply sc_not | apply sc_or | (apply sc_i <;> intro hb) | (apply bx_i; intro hbd) | (apply cx_is; first | exact copyCheck_any hp _ _) | (apply cx_do (i := 0) rfl; first | exact copyCheck_any hp _ _) | (apply ab_i; intro bl) | (apply as_i; intro va vk vc hva) | (apply av_i; intro v) | (apply ac_i; intro bl cap hcap) | apply bo_l | (apply nx_i <;> intro hnx) | apply dw_q mixed hC hGL (by kernel_rfl) | (apply cq; assumption; (first | exact copyCheck_any hp _ _); exact rfl) | (show Rt _ _ _; exact rt_w) | fail)
  all_goals try conv => whnf
  refine ⟨_, List.Sublist.refl _, va, vk, vc, rfl, ?_⟩
  rw [← bldR_app]
  have e : c = ((UInt8.ofNat c.toNat).toNat : Int) := by
    rw [UInt8.toNat_ofNat_of_lt' (by have : c.toNat < 256 := by omega
                                     simpa using this)]
    omega
  show [_, HEnt.row _ _ 1 (s.length + 1) (bytesC s ++ [AVal.int .u8 c])] = [_, HEnt.row _ _ 1 (s.length + 1) (bytesC s ++ [AVal.int .u8 _])]
  rw [← e]
/-- A row's value at a call's beginning. -/
theorem fn_row {P : Program} {G : Glo} {f : FuncId} {avs : List AVal} {H : Heap} {Qf : ARes → Heap → Prop} {i sz m : Nat} {v : Value} {eT : Option TypeId} {cs : List AVal} (hi : H[i]? = some (.row v eT sz m cs))
    (h : ((v = .slice none 0 0 ∧ m = 0) ∨ ∃ g cap, v = .slice (some ⟨g, 0, none⟩) m cap ∧ m ≤ cap) → FnSpec P G f avs H Qf) : FnSpec P G f avs H Qf := by
  unfold FnSpec at h ⊢
  intro R w args hG hm ha
  obtain ⟨_, hh⟩ := hm.heap.holds _ (List.mem_of_getElem? hi)
  refine h ?_ R w args hG hm ha
  rcases hh with ⟨rfl, rfl⟩ | ⟨g, cap, _, _, _, rfl, _, _, hle, _⟩
  · exact .inl ⟨rfl, rfl⟩
  · exact .inr ⟨g, cap, rfl, hle⟩
section
variable {P : Program} [Tab P] {C : Ctx} {n : Nat} {env : Env} {H : Heap} {Q : AExit → Env → Heap → Prop} {ops : Array Oper} {rest : List Oper} {G : Glo} {GL : List (Nat × List AVal)}
variable {d : Nat} {t : TypeId} {p : String} {af : Array Edge} {g : Option (Nat × Bool)} {b : Bool} {x y : Operand}
omit [Tab P] in
theorem rv_usd {i k c : Nat} {a : Addr} {ts : Array TypeId} (hx : evalA env x = some (.own i (.slice (some a) k c))) (hc : c ≠ 0) : RunV P C H env (.call { callee := .builtin .unsafeSliceData, args := #[x], argTypes := ts }) (.raw (.pointer (some a))) := by
  intro R ρ w hm hf dst t p af g
  refine ⟨.pointer (some a), ?_, rel_raw.2 rfl⟩
  have hr := Lib.run_unsafeSliceData_row (P := P) w ts t a k c hc
  have e : (#[x].map ρ) = #[.slice (some a) k c] := by simp [(rel_own.1 (hf _ _ hx)).1]
  simp only [execOp, resolve, Sem.run_bind, Sem.run_pure, Result.andThen_ok, invoke, builtin, e, hr]
theorem op1_ustr {i0 gb cap : Nat} {s : List UInt8} {pt it : TypeId} {e : TypeId} (hC : C.G = G) (hGL : GloAll G GL) (hg : guardA ops env g = some (b, b)) (hdn : Nat.ble (d + 1) n = true)
    (hx : evalA env x = some (.raw (ptrA gb))) (hy : evalA env y = some (.int .i64 s.length)) (hi : H[i0]? = some (.row (.slice (some ⟨gb, 0, none⟩) s.length cap) (some e) 1 s.length (bytesC s))) (hs : s ≠ []) (hlen : s.length ≤ 137438953472)
    (hp : P.underlying pt = some (.pointer e)) (hce : P.cellsOf e = 1) (k : opsX P C n G GL ops Q rest ((d, .str s) :: env) (H.set i0 ghostR)) :
    Op1 P C n ops ({ dst := some d, op := .call { callee := .builtin .unsafeString, args := #[x, y], argTypes := #[pt, it] }, type := t, pos := p, after := af, guard := g } :: rest) env H Q := by
  refine ⟨ao_valX (X := Unit) (av := fun _ => .str s) (H' := fun _ => H.set i0 ghostR) hg rfl hdn (fun R ρ w hm hf => ?_) fun _ => opsX_ok hC hGL _ _ _ k⟩
  obtain ⟨_, hh⟩ := hm.heap.holds _ (List.mem_of_getElem? hi)
  rcases hh with ⟨h, _⟩ | ⟨g', cap', Cs, el, fz, h, hb, hcs, hle, hl, hfz, ht⟩
  · cases h
  · cases h
    obtain rfl := ht e rfl
    rw [Nat.mul_one] at hcs hl
    have hcell : ∀ j x, s[j]? = some x → w.cell? ((⟨gb, 0, none⟩ : Addr).add j) = some (.int .u8 x.toNat) := by
      intro j x hj
      obtain ⟨hj1, hj2⟩ := List.getElem?_eq_some_iff.1 hj
      have := bytes_cell (s := s) (o := 0) hb (by rw [List.drop_zero]; exact hl) j hj1
      rw [hj2] at this
      exact this
    have hsh : w.shape? gb = some (el, Cs.size) := by simp [World.shape?, hb]
    have hr := Lib.run_unsafeString_row (P := P) w pt it t el hp hce gb Cs.size hsh s hs (by omega) (by omega) hcell
    have e2 : (#[x, y].map ρ) = #[ptrA gb, .int .i64 s.length] := by simp [rel_raw.1 (hf _ _ hx), rel_int.1 (hf _ _ hy)]
    have hone : ∃ o, OneBlk w gb o (w.freeze ⟨gb, 0, none⟩ s.length) := by
      have h0 : s.length ≠ 0 := by simpa using hs
      unfold World.freeze
      rw [if_neg h0]
      obtain ⟨lo, hi⟩ := fz
      refine ⟨.cells Cs el (if lo == hi then (0, 0 + s.length) else (min lo 0, max hi (0 + s.length))), rfl, rfl, rfl, by simp, ?_, ?_⟩
      · simp [Array.getElem?_modify, hb]
      · intro k hk; simp [Array.getElem?_modify, Ne.symm hk]
    obtain ⟨o, hone⟩ := hone
    refine ⟨(), .string ⟨s.toArray⟩, w.freeze ⟨gb, 0, none⟩ s.length, R, ?_, Seal.le_refl R, rel_str.2 rfl, hm.spoil hi rfl hone⟩
    simp only [execOp, resolve, Sem.run_bind, Sem.run_pure, Result.andThen_ok, invoke, builtin, e2, hr]
omit [Tab P] in
theorem rv_usn {i k c : Nat} {ts : Array TypeId} (hx : evalA env x = some (.own i (.slice none k c))) : RunV P C H env (.call { callee := .builtin .unsafeSliceData, args := #[x], argTypes := ts }) (.raw (.pointer none)) := by
  intro R ρ w hm hf dst t p af g
  refine ⟨.pointer none, ?_, rel_raw.2 rfl⟩
  have hr := Lib.run_unsafeSliceData_nil (P := P) w ts t k c
  have e : (#[x].map ρ) = #[.slice none k c] := by simp [(rel_own.1 (hf _ _ hx)).1]
  simp only [execOp, resolve, Sem.run_bind, Sem.run_pure, Result.andThen_ok, invoke, builtin, e, hr]
omit [Tab P] in
theorem rv_ust0 {pt it : TypeId} {a : Option Addr} (hx : evalA env x = some (.raw (.pointer a))) (hy : evalA env y = some (.int .i64 0)) : RunV P C H env (.call { callee := .builtin .unsafeString, args := #[x, y], argTypes := #[pt, it] }) (.str []) := by
  intro R ρ w hm hf dst t p af g
  refine ⟨.string .empty, ?_, rel_str.2 rfl⟩
  have hr := Lib.run_unsafeString_none (P := P) w pt it t a
  have e : (#[x, y].map ρ) = #[.pointer a, .int .i64 0] := by simp [rel_raw.1 (hf _ _ hx), rel_int.1 (hf _ _ hy)]
  simp only [execOp, resolve, Sem.run_bind, Sem.run_pure, Result.andThen_ok, invoke, builtin, e, hr]
theorem op1_usz {i0 i k gb : Nat} {ts : Array TypeId} {e : TypeId} {eT : Option TypeId} {cs : List AVal} (hC : C.G = G) (hGL : GloAll G GL) (hg : guardA ops env g = some (b, b)) (hdn : Nat.ble (d + 1) n = true)
    (hx : evalA env x = some (.own i (.slice (some ⟨gb, 0, none⟩) k 0))) (hi : H[i0]? = some (.row (.slice (some ⟨gb, 0, none⟩) k 0) eT 1 k cs)) (hp : P.underlying t = some (.pointer e))
    (kk : ∀ bl, opsX P C n G GL ops Q rest ((d, .raw (ptrA bl)) :: env) H) :
    Op1 P C n ops ({ dst := some d, op := .call { callee := .builtin .unsafeSliceData, args := #[x], argTypes := ts }, type := t, pos := p, after := af, guard := g } :: rest) env H Q := by
  refine ⟨ao_valX (X := Nat) (av := fun bl => .raw (ptrA bl)) (H' := fun _ => H) hg rfl hdn (fun R ρ w hm hf => ?_) fun bl => opsX_ok hC hGL _ _ _ (kk bl)⟩
  obtain ⟨_, hh⟩ := hm.heap.holds _ (List.mem_of_getElem? hi)
  rcases hh with ⟨h, _⟩ | ⟨g', cap', Cs, el, fz, h, hb, hcs, hle, hl, hfz, ht⟩
  · cases h
  · cases h
    have hr := Lib.run_unsafeSliceData_zero (P := P) w ts t e hp ⟨gb, 0, none⟩ k (el, Cs.size) (by simp [World.shape?, hb])
    have e2 : (#[x].map ρ) = #[.slice (some ⟨gb, 0, none⟩) k 0] := by simp [(rel_own.1 (hf _ _ hx)).1]
    refine ⟨w.heap.size, ptrA w.heap.size, _, R.put w.heap.size (.view ⟨gb, 0, none⟩ e), ?_, Seal.put_le hm.seal_free, rel_raw.2 rfl, hm.alloc_sealed _⟩
    simp only [execOp, resolve, Sem.run_bind, Sem.run_pure, Result.andThen_ok, invoke, builtin, e2, hr]
    rfl
end
theorem builder_string1 {G : Glo} {b : Nat} {p : Value} (g cap : Nat) (s : List UInt8) (hs : s ≠ []) (hlen : s.length ≤ 137438953472) (hc0 : cap ≠ 0) : FnSpec Tryz.prog G 46 [.raw (ptrA b)] [bldC b p 1 (.slice (some ⟨g, 0, none⟩) s.length cap), bldR (.slice (some ⟨g, 0, none⟩) s.length cap) s] (fun r H => r = .ret (.str s) ∧ H = [bldC b p 1 (.slice (some ⟨g, 0, none⟩) s.length cap)]) := by
  have hGL : GloAll G [] := gloAll_nil
  refine fn_xo 0 Tryz.func46 Tryz.call46 rfl rfl rfl rfl hGL rfl ?_
  intro C hC
  refine xn1 ?_
  intros
  refine dw_p mixed hC hGL false (fun (_ : Unit) => [(2, .str s)]) (fun _ => [bldC b p 1 (.slice (some ⟨g, 0, none⟩) s.length cap), ghostR]) (.take 0 (.take 1 (.take 2 (.take 5 (.take 6 (.take 7 (.br 3 (.br 4 (.br 8 (.br 9 (.br 10 (.take 11 (.done)) (.nil)) (.nil)) (.nil)) (.br 8 (.br 4 (.br 9 (.br 10 (.take 11 (.done)) (.nil)) (.nil)) (.br 9 (.br 4 (.br 10 (.take 11 (.done)) (.nil)) (.nil)) (.nil))) (.nil))) (.br 8 (.br 3 (.br 4 (.br 9 (.br 10 (.take 11 (.done)) (.nil)) (.nil)) (.br 9 (.br 4 (.br 10 (.take 11 (.done)) (.nil)) (.nil)) (.nil))) (.br 9 (.br 3 (.br 4 (.br 10 (.take 11 (.done)) (.nil)) (.nil)) (.nil)) (.nil))) (.nil))))))))) (by kernel_rfl) ?_ ?_
  · repeat' (first | (conv => whnf); first | refine .w ?_ | refine Ix.v ?_ | refine Sd.v ?_ | refine Sl.v ?_ | apply sc_false | refine sc_d ?_ ?_ <;> (intro hb; try exact dd hb) | apply sc_not | (apply sc_i <;> intro hb) | (apply bx_i; intro hbd) | (apply cx_is; first | fail) | (apply ab_i; intro bl) | exact True.intro | (apply bc_i; intro C hC) | apply bt_i | apply og_n | (apply og_a; exact rfl) | (show Rt _ _ _; exact rt_w) | fail)
    all_goals try conv => whnf
    all_goals (apply op1_run hC hGL; exact rv_usd rfl hc0; exact rfl; exact rfl)
    all_goals (
      repeat' (first | (conv => whnf); first | refine .w ?_ | refine Ix.v ?_ | refine Sd.v ?_ | refine Sl.v ?_ | apply sc_false | refine sc_d ?_ ?_ <;> (intro hb; try exact dd hb) | apply sc_not | (apply sc_i <;> intro hb) | (apply bx_i; intro hbd) | (apply cx_is; first | fail) | (apply ab_i; intro bl) | exact True.intro | (apply bc_i; intro C hC) | apply bt_i | apply og_n | (apply og_a; exact rfl) | (show Rt _ _ _; exact rt_w) | fail)
      all_goals try conv => whnf
    )
    all_goals (apply op1_ustr (i0 := 1) (s := s) (cap := cap) (gb := g) hC hGL; exact rfl; exact rfl; exact rfl; exact rfl; exact rfl; exact hs; exact hlen; exact Tryz.underlying105; kernel_rfl)
    all_goals (
      repeat' (first | (conv => whnf); first | refine .w ?_ | refine Ix.v ?_ | refine Sd.v ?_ | refine Sl.v ?_ | apply sc_false | refine sc_d ?_ ?_ <;> (intro hb; try exact dd hb) | apply sc_not | (apply sc_i <;> intro hb) | (apply bx_i; intro hbd) | (apply cx_is; first | fail) | (apply ab_i; intro bl) | exact True.intro | (apply bc_i; intro C hC) | apply bt_i | apply og_n | (apply og_a; exact rfl) | (show Rt _ _ _; exact rt_w) | fail)
      all_goals try conv => whnf
    )
    all_goals (exact ⟨(), ⟨rfl, trivial⟩, rfl⟩)
  · intro _
    exact xn0
theorem builder_string2 {G : Glo} {b : Nat} {p : Value} (g cap : Nat) (hc0 : cap ≠ 0) : FnSpec Tryz.prog G 46 [.raw (ptrA b)] [bldC b p 1 (.slice (some ⟨g, 0, none⟩) 0 cap), bldR (.slice (some ⟨g, 0, none⟩) 0 cap) []] (fun r H => r = .ret (.str []) ∧ H = [bldC b p 1 (.slice (some ⟨g, 0, none⟩) 0 cap)]) := by
  have hGL : GloAll G [] := gloAll_nil
  refine fn_xo 0 Tryz.func46 Tryz.call46 rfl rfl rfl rfl hGL rfl ?_
  intro C hC
  refine xn1 ?_
  intros
  refine dw_p mixed hC hGL false (fun (_ : Unit) => [(2, .str [])]) (fun _ => [bldC b p 1 (.slice (some ⟨g, 0, none⟩) 0 cap), bldR (.slice (some ⟨g, 0, none⟩) 0 cap) []]) (.take 0 (.take 1 (.take 2 (.take 5 (.take 6 (.take 7 (.br 3 (.br 4 (.br 8 (.br 9 (.br 10 (.take 11 (.done)) (.nil)) (.nil)) (.nil)) (.br 8 (.br 4 (.br 9 (.br 10 (.take 11 (.done)) (.nil)) (.nil)) (.br 9 (.br 4 (.br 10 (.take 11 (.done)) (.nil)) (.nil)) (.nil))) (.nil))) (.br 8 (.br 3 (.br 4 (.br 9 (.br 10 (.take 11 (.done)) (.nil)) (.nil)) (.br 9 (.br 4 (.br 10 (.take 11 (.done)) (.nil)) (.nil)) (.nil))) (.br 9 (.br 3 (.br 4 (.br 10 (.take 11 (.done)) (.nil)) (.nil)) (.nil)) (.nil))) (.nil))))))))) (by kernel_rfl) ?_ ?_
  · repeat' (first | (conv => whnf); first | refine .w ?_ | refine Ix.v ?_ | refine Sd.v ?_ | refine Sl.v ?_ | apply sc_false | refine sc_d ?_ ?_ <;> (intro hb; try exact dd hb) | apply sc_not | (apply sc_i <;> intro hb) | (apply bx_i; intro hbd) | (apply cx_is; first | fail) | (apply ab_i; intro bl) | exact True.intro | (apply bc_i; intro C hC) | apply bt_i | apply og_n | (apply og_a; exact rfl) | (show Rt _ _ _; exact rt_w) | fail)
    all_goals try conv => whnf
    all_goals (apply op1_run hC hGL; exact rv_usd rfl hc0; exact rfl; exact rfl)
    all_goals (
      repeat' (first | (conv => whnf); first | refine .w ?_ | refine Ix.v ?_ | refine Sd.v ?_ | refine Sl.v ?_ | apply sc_false | refine sc_d ?_ ?_ <;> (intro hb; try exact dd hb) | apply sc_not | (apply sc_i <;> intro hb) | (apply bx_i; intro hbd) | (apply cx_is; first | fail) | (apply ab_i; intro bl) | exact True.intro | (apply bc_i; intro C hC) | apply bt_i | apply og_n | (apply og_a; exact rfl) | (show Rt _ _ _; exact rt_w) | fail)
      all_goals try conv => whnf
    )
    all_goals (apply op1_run hC hGL; exact rv_ust0 rfl rfl; exact rfl; exact rfl)
    all_goals (
      repeat' (first | (conv => whnf); first | refine .w ?_ | refine Ix.v ?_ | refine Sd.v ?_ | refine Sl.v ?_ | apply sc_false | refine sc_d ?_ ?_ <;> (intro hb; try exact dd hb) | apply sc_not | (apply sc_i <;> intro hb) | (apply bx_i; intro hbd) | (apply cx_is; first | fail) | (apply ab_i; intro bl) | exact True.intro | (apply bc_i; intro C hC) | apply bt_i | apply og_n | (apply og_a; exact rfl) | (show Rt _ _ _; exact rt_w) | fail)
      all_goals try conv => whnf
    )
    all_goals (exact ⟨(), ⟨rfl, trivial⟩, rfl⟩)
  · intro _
    exact xn0
theorem builder_string3 {G : Glo} {b : Nat} {p : Value}  : FnSpec Tryz.prog G 46 [.raw (ptrA b)] [bldC b p 1 (.slice none 0 0), bldR (.slice none 0 0) []] (fun r H => r = .ret (.str []) ∧ H = [bldC b p 1 (.slice none 0 0)]) := by
  have hGL : GloAll G [] := gloAll_nil
  refine fn_xo 0 Tryz.func46 Tryz.call46 rfl rfl rfl rfl hGL rfl ?_
  intro C hC
  refine xn1 ?_
  intros
  refine dw_p mixed hC hGL false (fun (_ : Unit) => [(2, .str [])]) (fun _ => [bldC b p 1 (.slice none 0 0), bldR (.slice none 0 0) []]) (.take 0 (.take 1 (.take 2 (.take 5 (.take 6 (.take 7 (.br 3 (.br 4 (.br 8 (.br 9 (.br 10 (.take 11 (.done)) (.nil)) (.nil)) (.nil)) (.br 8 (.br 4 (.br 9 (.br 10 (.take 11 (.done)) (.nil)) (.nil)) (.br 9 (.br 4 (.br 10 (.take 11 (.done)) (.nil)) (.nil)) (.nil))) (.nil))) (.br 8 (.br 3 (.br 4 (.br 9 (.br 10 (.take 11 (.done)) (.nil)) (.nil)) (.br 9 (.br 4 (.br 10 (.take 11 (.done)) (.nil)) (.nil)) (.nil))) (.br 9 (.br 3 (.br 4 (.br 10 (.take 11 (.done)) (.nil)) (.nil)) (.nil)) (.nil))) (.nil))))))))) (by kernel_rfl) ?_ ?_
  · repeat' (first | (conv => whnf); first | refine .w ?_ | refine Ix.v ?_ | refine Sd.v ?_ | refine Sl.v ?_ | apply sc_false | refine sc_d ?_ ?_ <;> (intro hb; try exact dd hb) | apply sc_not | (apply sc_i <;> intro hb) | (apply bx_i; intro hbd) | (apply cx_is; first | fail) | (apply ab_i; intro bl) | exact True.intro | (apply bc_i; intro C hC) | apply bt_i | apply og_n | (apply og_a; exact rfl) | (show Rt _ _ _; exact rt_w) | fail)
    all_goals try conv => whnf
    all_goals (apply op1_run hC hGL; exact rv_usn rfl; exact rfl; exact rfl)
    all_goals (
      repeat' (first | (conv => whnf); first | refine .w ?_ | refine Ix.v ?_ | refine Sd.v ?_ | refine Sl.v ?_ | apply sc_false | refine sc_d ?_ ?_ <;> (intro hb; try exact dd hb) | apply sc_not | (apply sc_i <;> intro hb) | (apply bx_i; intro hbd) | (apply cx_is; first | fail) | (apply ab_i; intro bl) | exact True.intro | (apply bc_i; intro C hC) | apply bt_i | apply og_n | (apply og_a; exact rfl) | (show Rt _ _ _; exact rt_w) | fail)
      all_goals try conv => whnf
    )
    all_goals (apply op1_run hC hGL; exact rv_ust0 rfl rfl; exact rfl; exact rfl)
    all_goals (
      repeat' (first | (conv => whnf); first | refine .w ?_ | refine Ix.v ?_ | refine Sd.v ?_ | refine Sl.v ?_ | apply sc_false | refine sc_d ?_ ?_ <;> (intro hb; try exact dd hb) | apply sc_not | (apply sc_i <;> intro hb) | (apply bx_i; intro hbd) | (apply cx_is; first | fail) | (apply ab_i; intro bl) | exact True.intro | (apply bc_i; intro C hC) | apply bt_i | apply og_n | (apply og_a; exact rfl) | (show Rt _ _ _; exact rt_w) | fail)
      all_goals try conv => whnf
    )
    all_goals (exact ⟨(), ⟨rfl, trivial⟩, rfl⟩)
  · intro _
    exact xn0
theorem builder_string4 {G : Glo} {b : Nat} {p : Value} (g : Nat) : FnSpec Tryz.prog G 46 [.raw (ptrA b)] [bldC b p 1 (.slice (some ⟨g, 0, none⟩) 0 0), bldR (.slice (some ⟨g, 0, none⟩) 0 0) []] (fun r H => r = .ret (.str []) ∧ H = [bldC b p 1 (.slice (some ⟨g, 0, none⟩) 0 0)]) := by
  have hGL : GloAll G [] := gloAll_nil
  refine fn_xo 0 Tryz.func46 Tryz.call46 rfl rfl rfl rfl hGL rfl ?_
  intro C hC
  refine xn1 ?_
  intros
  refine dw_p mixed hC hGL false (fun (_ : Unit) => [(2, .str [])]) (fun _ => [bldC b p 1 (.slice (some ⟨g, 0, none⟩) 0 0), bldR (.slice (some ⟨g, 0, none⟩) 0 0) []]) (.take 0 (.take 1 (.take 2 (.take 5 (.take 6 (.take 7 (.br 3 (.br 4 (.br 8 (.br 9 (.br 10 (.take 11 (.done)) (.nil)) (.nil)) (.nil)) (.br 8 (.br 4 (.br 9 (.br 10 (.take 11 (.done)) (.nil)) (.nil)) (.br 9 (.br 4 (.br 10 (.take 11 (.done)) (.nil)) (.nil)) (.nil))) (.nil))) (.br 8 (.br 3 (.br 4 (.br 9 (.br 10 (.take 11 (.done)) (.nil)) (.nil)) (.br 9 (.br 4 (.br 10 (.take 11 (.done)) (.nil)) (.nil)) (.nil))) (.br 9 (.br 3 (.br 4 (.br 10 (.take 11 (.done)) (.nil)) (.nil)) (.nil)) (.nil))) (.nil))))))))) (by kernel_rfl) ?_ ?_
  · repeat' (first | (conv => whnf); first | refine .w ?_ | refine Ix.v ?_ | refine Sd.v ?_ | refine Sl.v ?_ | apply sc_false | refine sc_d ?_ ?_ <;> (intro hb; try exact dd hb) | apply sc_not | (apply sc_i <;> intro hb) | (apply bx_i; intro hbd) | (apply cx_is; first | fail) | (apply ab_i; intro bl) | exact True.intro | (apply bc_i; intro C hC) | apply bt_i | apply og_n | (apply og_a; exact rfl) | (show Rt _ _ _; exact rt_w) | fail)
    all_goals try conv => whnf
    all_goals (apply op1_usz (i0 := 1) hC hGL; exact rfl; exact rfl; exact rfl; exact rfl; exact Tryz.underlying105; intro bl)
    all_goals (
      repeat' (first | (conv => whnf); first | refine .w ?_ | refine Ix.v ?_ | refine Sd.v ?_ | refine Sl.v ?_ | apply sc_false | refine sc_d ?_ ?_ <;> (intro hb; try exact dd hb) | apply sc_not | (apply sc_i <;> intro hb) | (apply bx_i; intro hbd) | (apply cx_is; first | fail) | (apply ab_i; intro bl) | exact True.intro | (apply bc_i; intro C hC) | apply bt_i | apply og_n | (apply og_a; exact rfl) | (show Rt _ _ _; exact rt_w) | fail)
      all_goals try conv => whnf
    )
    all_goals (apply op1_run hC hGL; exact rv_ust0 rfl rfl; exact rfl; exact rfl)
    all_goals (
      repeat' (first | (conv => whnf); first | refine .w ?_ | refine Ix.v ?_ | refine Sd.v ?_ | refine Sl.v ?_ | apply sc_false | refine sc_d ?_ ?_ <;> (intro hb; try exact dd hb) | apply sc_not | (apply sc_i <;> intro hb) | (apply bx_i; intro hbd) | (apply cx_is; first | fail) | (apply ab_i; intro bl) | exact True.intro | (apply bc_i; intro C hC) | apply bt_i | apply og_n | (apply og_a; exact rfl) | (show Rt _ _ _; exact rt_w) | fail)
      all_goals try conv => whnf
    )
    all_goals (exact ⟨(), ⟨rfl, trivial⟩, rfl⟩)
  · intro _
    exact xn0
/-- The text so far; the builder itself is left. -/
theorem builder_keep {G : Glo} {b : Nat} {p v : Value} (s : List UInt8) (hlen : s.length ≤ 137438953472) : FnSpec Tryz.prog G 46 [.raw (ptrA b)] [bldC b p 1 v, bldR v s] (fun r H => r = .ret (.str s) ∧ H = [bldC b p 1 v]) := by
  refine fn_row (i := 1) rfl ?_
  rintro (⟨rfl, h0⟩ | ⟨g, cap, rfl, hc⟩)
  · obtain rfl : s = [] := List.eq_nil_of_length_eq_zero h0
    exact builder_string3
  · by_cases hs : s = []
    · subst hs
      by_cases hc0 : cap = 0
      · subst hc0; exact builder_string4 g
      · exact builder_string2 g cap hc0
    · have h1 : s.length ≠ 0 := by simpa using hs
      exact builder_string1 g cap s hs hlen (by omega)
theorem builder_string {G : Glo} {b : Nat} {p v : Value} (s : List UInt8) (hlen : s.length ≤ 137438953472) : FnSpec Tryz.prog G 46 [.raw (ptrA b)] [bldC b p 1 v, bldR v s] (fun r H => r = .ret (.str s) ∧ H = []) :=
  fn_post (fun _ => Iff.rfl) (fun _ _ _ h => h) (builder_keep s hlen) fun r H' ⟨e, eH⟩ => ⟨[], ⟨e, rfl⟩, fun _ _ _ h => h.drop (List.nil_sublist _)⟩
end Go.Proofs.YtmgkpbgfkjedeaaGreatDoor
namespace Go.Proofs.YtmgkpbgfkjedeaaGreatDoor
open Go
set_option maxRecDepth 20000
set_option maxHeartbeats 4000000
set_option linter.unusedSimpArgs false
set_option linter.unusedVariables false
attribute [local irreducible] AWp AOps byteAt SrcOK OrOk GloAll FnSpec
attribute [local irreducible] nextS badI badS stepS rngR ownB
theorem utf_Bad {G : Glo} (s : List UInt8) (hl : s.length ≤ 9223372036854775807) : FnIs Tryz.prog G 17 [.str s] (.int .i64 (badI s)) := by
  have hGL : GloAll G [] := gloAll_nil
  refine fn_x Tryz.func17 Tryz.call17 rfl rfl rfl rfl hGL ?_
  intro C hC
  have hle := fun k => nextS_le (s.drop k)
  have k1 := @utf_Next
  refine xw1 ?_
  intros
  refine lp hC hGL (fun (i : Nat) => [(0, .str s), (3, .int .i64 i)]) (fun _ => []) (fun i => i ≤ s.length ∧ badS s = (badS (s.drop i)).map (· + i)) (fun i => s.length - i) 0 ?_ env_w rfl ?_
  · exact ⟨Nat.zero_le _, by simp⟩
  rintro i ⟨hi, hb0⟩
  have hn := hle i
  rw [List.length_drop] at hn
  have k1 := @utf_Next
  refine xw ?_
  repeat' (first | exact Le.n | refine Lc.mk ?_ ?_)
  all_goals intros
  · apply rt_is
    refine congrArg (AVal.int .i64) ?_
    have h1 := badS_step (s.drop i) (by rw [List.length_drop]; omega)
    rw [if_pos (by omega)] at h1
    rw [h1] at hb0
    simp only [badI, hb0, Option.map_some, Nat.zero_add]
  · have h1 := badS_step (s.drop i) (by rw [List.length_drop]; omega)
    rw [if_neg (by omega)] at h1
    refine nxt (i + (nextS (s.drop i)).2) ?_ ?_ env_w rfl
    · refine ⟨by omega, ?_⟩
      rw [hb0, h1, List.drop_drop]
      cases badS (s.drop (i + (nextS (s.drop i)).2)) <;> simp <;> omega
    · omega
  · apply rt_is
    refine congrArg (AVal.int .i64) ?_
    rw [badS_nil (s.drop i) (by rw [List.length_drop]; omega)] at hb0
    simp only [badI, hb0, Option.map_none]
end Go.Proofs.YtmgkpbgfkjedeaaGreatDoor
namespace Go.Proofs.YtmgkpbgfkjedeaaGreatDoor
open Go
theorem two1 {a b : UInt8} : byteAt [a, b] 1 = b.toNat := rfl
/-- A scope through which nothing jumps. -/
def noGo (Q : AExit → Env → Heap → Prop) : AExit → Env → Heap → Prop
  | .goto _, _, _ => False
  | x, e, h => Q x e h
theorem cd_scope {P : Program} [Tab P] {C : Ctx} {n : Nat} {env : Env} {H : Heap} {Q : AExit → Env → Heap → Prop} {c : Code} {G : Glo} {GL : List (Nat × List AVal)} (hC : C.G = G) (hGL : GloAll G GL) (h : codeX P C n G GL c env H (noGo Q)) : Cd P C n (.scope c) env H Q := by
  refine ⟨fun R a w hm hf => wp_scope_straight (wp_mono (codeX_ok hC hGL c _ _ _ h R a w hm hf) ?_)⟩
  rintro ex a w ⟨x, e, h, R, hq, hr, hm, hf⟩
  cases x with
  | goto l => exact hq.elim
  | normal => simp only [ExitRel] at hr; subst hr; exact ⟨.normal, e, h, R, hq, rfl, hm, hf⟩
  | exit i => simp only [ExitRel] at hr; subst hr; exact ⟨.exit i, e, h, R, hq, rfl, hm, hf⟩
  | ret => simp only [ExitRel] at hr; subst hr; exact ⟨.ret, e, h, R, hq, rfl, hm, hf⟩
  | panic v =>
    obtain ⟨x, rfl, hx⟩ := hr
    exact ⟨.panic v, e, h, R, hq, ⟨x, rfl, hx⟩, hm, hf⟩
set_option maxRecDepth 20000
set_option maxHeartbeats 4000000
set_option linter.unusedSimpArgs false
set_option linter.unusedVariables false
attribute [local irreducible] AWp AOps byteAt SrcOK OrOk GloAll FnSpec
attribute [local irreducible] nextS badI badS stepS rngR ownB mayZ
end Go.Proofs.YtmgkpbgfkjedeaaGreatDoor
namespace Go.Proofs.YtmgkpbgfkjedeaaGreatDoor
open Go
set_option maxRecDepth 20000
set_option maxHeartbeats 4000000
set_option linter.unusedSimpArgs false
set_option linter.unusedVariables false
attribute [local irreducible] AWp AOps byteAt SrcOK OrOk GloAll FnSpec
attribute [local irreducible] nextS badI badS stepS rngR ownB
def firstTab : List AVal := Go.Pinned.utf8FirstZ.map (fun x : Nat => AVal.int .u8 (x : Int))
def acceptTab : List AVal := [.int .u8 128, .int .u8 191, .int .u8 160, .int .u8 191, .int .u8 128, .int .u8 159, .int .u8 144, .int .u8 191, .int .u8 128, .int .u8 143, .int .u8 0, .int .u8 0, .int .u8 0, .int .u8 0, .int .u8 0, .int .u8 0, .int .u8 0, .int .u8 0, .int .u8 0, .int .u8 0, .int .u8 0, .int .u8 0, .int .u8 0, .int .u8 0, .int .u8 0, .int .u8 0, .int .u8 0, .int .u8 0, .int .u8 0, .int .u8 0, .int .u8 0, .int .u8 0]
def firstN (b : Nat) : Nat :=
  if b < 128 then 240 else if b < 194 then 241 else if b < 224 then 2 else if b = 224 then 19 else if b < 237 then 3 else if b = 237 then 35 else if b < 240 then 3 else if b = 240 then 52
  else if b < 244 then 4 else if b = 244 then 68 else 241
theorem firstN_ok : ∀ b : Fin 256, Go.Pinned.utf8FirstZ[b.1]? = some (firstN b.1) := by decide +kernel
theorem firstTab_at (b : Nat) (h : b < 256) : firstTab[b * 1]? = some (.int .u8 (firstN b : Int)) := by
  rw [Nat.mul_one]
  simp only [firstTab, List.getElem?_map, firstN_ok ⟨b, h⟩, Option.map_some]
/-- What it answers. -/
def runeS (s : List UInt8) : Nat × Nat := if s.length = 0 then (65533, 0) else if (nextS s).2 = 0 then (65533, 1) else nextS s
theorem xx_mask (b : Int) : IntKind.wrap .i32 (BitVec.ofInt 32 (IntKind.wrap .i32 (BitVec.ofInt 32 b &&& ~~~ BitVec.ofInt 32 (IntKind.wrap .i32 (241 * 2147483648) / 2147483648)).toNat) ||| BitVec.ofInt 32 (IntKind.wrap .i32 (BitVec.ofInt 32 65533 &&& BitVec.ofInt 32 (IntKind.wrap .i32 (241 * 2147483648) / 2147483648)).toNat)).toNat = 65533 := by
  have e : (~~~ BitVec.ofInt 32 (IntKind.wrap .i32 (241 * 2147483648) / 2147483648)) = 0#32 := by decide +kernel
  rw [e, BitVec.and_zero]
  decide +kernel
attribute [local irreducible] firstTab
/-- The two tables of package utf8. -/
abbrev utfTy : List (Nat × List AVal) := [(1, firstTab), (2, acceptTab)]
theorem dec_cases (b : Nat) (h : b < 256) (h1 : 128 ≤ b) :
    (firstTab[b * 1]? = some (.int .u8 241) ∧ (b < 194 ∨ 245 ≤ b)) ∨ (firstTab[b * 1]? = some (.int .u8 2) ∧ 194 ≤ b ∧ b < 224) ∨ (firstTab[b * 1]? = some (.int .u8 19) ∧ b = 224)
    ∨ (firstTab[b * 1]? = some (.int .u8 3) ∧ 225 ≤ b ∧ b < 240 ∧ b ≠ 237) ∨ (firstTab[b * 1]? = some (.int .u8 35) ∧ b = 237) ∨ (firstTab[b * 1]? = some (.int .u8 52) ∧ b = 240)
    ∨ (firstTab[b * 1]? = some (.int .u8 4) ∧ 241 ≤ b ∧ b < 244) ∨ (firstTab[b * 1]? = some (.int .u8 68) ∧ b = 244) := by
  have e := firstTab_at b h
  have key : ∀ c : Nat, firstN b = c → firstTab[b * 1]? = some (.int .u8 (c : Int)) := fun c hc => by rw [e, hc]
  by_cases c1 : b < 194 ∨ 245 ≤ b
  · refine .inl ⟨key 241 (by unfold firstN; (repeat' split) <;> omega), c1⟩
  by_cases c2 : b < 224
  · refine .inr (.inl ⟨key 2 (by unfold firstN; (repeat' split) <;> omega), by omega, c2⟩)
  by_cases c3 : b = 224
  · subst c3; exact .inr (.inr (.inl ⟨key 19 rfl, rfl⟩))
  by_cases c5 : b = 237
  · subst c5; exact .inr (.inr (.inr (.inr (.inl ⟨key 35 rfl, rfl⟩))))
  by_cases c4 : b < 240
  · refine .inr (.inr (.inr (.inl ⟨key 3 (by unfold firstN; (repeat' split) <;> omega), by omega, c4, c5⟩)))
  by_cases c6 : b = 240
  · subst c6; exact .inr (.inr (.inr (.inr (.inr (.inl ⟨key 52 rfl, rfl⟩)))))
  by_cases c7 : b < 244
  · refine .inr (.inr (.inr (.inr (.inr (.inr (.inl ⟨key 4 (by unfold firstN; (repeat' split) <;> omega), by omega, c7⟩))))))
  have c8 : b = 244 := by omega
  subst c8
  exact .inr (.inr (.inr (.inr (.inr (.inr (.inr ⟨key 68 rfl, rfl⟩))))))
theorem rune_bad {s : List UInt8} {a b : Int} (h0 : ¬ s.length = 0) (h : ((nextS s).1 : Int) = 0 ∧ ((nextS s).2 : Int) = 0) (ha : a = 65533) (hb : b = 1) : ((runeS s).1 : Int) = a ∧ ((runeS s).2 : Int) = b := by
  have : (nextS s).2 = 0 := by omega
  subst ha hb
  simp [runeS, h0, this]
theorem rune_ok {s : List UInt8} {a b : Int} (h0 : ¬ s.length = 0) (h : ((nextS s).1 : Int) = a ∧ ((nextS s).2 : Int) = b) (hb : 0 < b) : ((runeS s).1 : Int) = a ∧ ((runeS s).2 : Int) = b := by
  have : ¬ (nextS s).2 = 0 := by omega
  simpa [runeS, h0, this] using h
theorem dec_slow {G : Glo} (hGL : GloAll G utfTy) (s : List UInt8) (hs : s.length = 0 ∨ 128 ≤ byteAt s 0) :
    FnIs Tryz.prog G 52 [.str s] (.tuple [.int .i32 ((runeS s).1 : Int), .int .i64 ((runeS s).2 : Int)]) := by
  refine fn_x Tryz.func52 Tryz.call52 rfl rfl rfl rfl hGL ?_
  intro C hC
  by_cases h0 : s.length = 0
  · refine xw1 ?_
    intros
    refine tup2 ?_
    simp only [runeS, if_pos h0]
    exact ⟨rfl, rfl⟩
  replace hs : 128 ≤ byteAt s 0 := by omega
  have hdc := dec_cases (byteAt s 0) (byteAt_lt s 0) hs
  refine xw1 ?_
  intros
  rcases hdc with ⟨hx, hb⟩ | ⟨hx, hb⟩ | ⟨hx, hb⟩ | ⟨hx, hb⟩ | ⟨hx, hb⟩ | ⟨hx, hb⟩ | ⟨hx, hb⟩ | ⟨hx, hb⟩
  all_goals (erw [hx])
  · refine xw1 ?_
    intros
    apply ch_r
    refine xw1 ?_
    intros
    apply ch_r
    refine xw1 ?_
    intros
    apply ch_r
    refine xw1 ?_
    intros
    clear hx
    refine tup2 ?_
    refine rune_bad h0 ?_ (xx_mask _) rfl
    generalize hz : nextS s = z
    unfold nextS contAt mayN cp2 cp3 cp4 at hz
    try simp only [show Int.toNat 0 = 0 from rfl, show Int.toNat 1 = 1 from rfl, show Int.toNat (1 + 1) = 2 from rfl, show Int.toNat (1 + 1 + 1) = 3 from rfl] at *
    generalize byteAt s 0 = b0 at *
    generalize byteAt s 1 = b1 at *
    generalize byteAt s 2 = b2 at *
    generalize byteAt s 3 = b3 at *
    generalize s.length = l at *
    repeat' (split at hz; try (exfalso; omega))
    all_goals (try subst z)
    all_goals (first
      | exact ⟨rfl, rfl⟩
      | (simp only [Bool.and_eq_true, Bool.or_eq_true, decide_eq_true_eq, beq_iff_eq] at *; first | (exfalso; omega) | omega))
  all_goals (repeat' (first | (conv => whnf); first | refine .w ?_ | refine .v ?_ | refine sc_c ?_ ?_ <;> (intro hb; try exact dd hb) | apply sc_not | apply sc_or | (apply sc_i <;> intro hb) | (apply bx_i; intro hbd) | (apply cx_is; first | fail) | (apply cx_do (i := 0) rfl; first | fail) | (apply ab_i; intro bl) | (apply as_i; intro va vk vc hva) | (apply av_i; intro v) | (apply ac_i; intro bl cap hcap) | apply bo_l | (apply nx_i <;> intro hnx) | apply dw_q mixed hC hGL (by kernel_rfl) | (apply cq; assumption; (first | fail); exact rfl) | (show Rt _ _ _; exact rt_w) | fail)
             all_goals try conv => whnf)
  all_goals (clear hx; refine tup2 ?_)
  all_goals (first
    | (refine rune_bad h0 ?_ rfl rfl
       generalize hz : nextS s = z
       unfold nextS contAt mayN cp2 cp3 cp4 at hz
       try simp only [show Int.toNat 0 = 0 from rfl, show Int.toNat 1 = 1 from rfl, show Int.toNat (1 + 1) = 2 from rfl, show Int.toNat (1 + 1 + 1) = 3 from rfl] at *
       generalize byteAt s 0 = b0 at *
       generalize byteAt s 1 = b1 at *
       generalize byteAt s 2 = b2 at *
       generalize byteAt s 3 = b3 at *
       generalize s.length = l at *
       repeat' (split at hz; try (exfalso; omega))
       all_goals (try subst z)
       all_goals (first
         | exact ⟨rfl, rfl⟩
         | (simp only [Bool.and_eq_true, Bool.or_eq_true, decide_eq_true_eq, beq_iff_eq] at *; first | (exfalso; omega) | omega))
       done)
    | (refine rune_ok h0 ?_ (by decide)
       generalize hz : nextS s = z
       unfold nextS contAt mayN cp2 cp3 cp4 at hz
       try simp only [show Int.toNat 0 = 0 from rfl, show Int.toNat 1 = 1 from rfl, show Int.toNat (1 + 1) = 2 from rfl, show Int.toNat (1 + 1 + 1) = 3 from rfl] at *
       generalize byteAt s 0 = b0 at *
       generalize byteAt s 1 = b1 at *
       generalize byteAt s 2 = b2 at *
       generalize byteAt s 3 = b3 at *
       generalize s.length = l at *
       repeat' (split at hz; try (exfalso; omega))
       all_goals (try subst z)
       all_goals (first
         | exact ⟨rfl, rfl⟩
         | (simp only [Bool.and_eq_true, Bool.or_eq_true, decide_eq_true_eq, beq_iff_eq] at *; first | (exfalso; omega) | omega))))
theorem dec_rune {G : Glo} (hGL : GloAll G utfTy) (s : List UInt8) :
    FnIs Tryz.prog G 38 [.str s] (.tuple [.int .i32 ((runeS s).1 : Int), .int .i64 ((runeS s).2 : Int)]) := by
  refine fn_x Tryz.func38 Tryz.call38 rfl rfl rfl rfl hGL ?_
  intro C hC
  by_cases h0 : s.length = 0 ∨ 128 ≤ byteAt s 0
  · have hd := dec_slow (G := G) hGL s h0
    by_cases h1 : s.length = 0
    all_goals (repeat' (first | (conv => whnf); first | refine .w ?_ | refine .v ?_ | refine sc_c ?_ ?_ <;> (intro hb; try exact dd hb) | apply sc_not | apply sc_or | (apply sc_i <;> intro hb) | (apply bx_i; intro hbd) | (apply cx_is; first | exact hd) | (apply cx_do (i := 0) rfl; first | exact hd) | (apply ab_i; intro bl) | (apply as_i; intro va vk vc hva) | (apply av_i; intro v) | (apply ac_i; intro bl cap hcap) | apply bo_l | (apply nx_i <;> intro hnx) | apply dw_q mixed hC hGL (by kernel_rfl) | (apply cq; assumption; (first | exact hd); exact rfl) | (show Rt _ _ _; exact rt_w) | fail)
               all_goals try conv => whnf)
    all_goals (exfalso; simp only [Int.toNat_zero] at *; omega)
  · refine xw1 ?_
    intros
    refine tup2 ?_
    refine rune_ok (by omega) ?_ (by decide)
    generalize hz : nextS s = z
    unfold nextS contAt mayN cp2 cp3 cp4 at hz
    try simp only [show Int.toNat 0 = 0 from rfl, show Int.toNat 1 = 1 from rfl, show Int.toNat (1 + 1) = 2 from rfl, show Int.toNat (1 + 1 + 1) = 3 from rfl] at *
    generalize byteAt s 0 = b0 at *
    generalize byteAt s 1 = b1 at *
    generalize byteAt s 2 = b2 at *
    generalize byteAt s 3 = b3 at *
    generalize s.length = l at *
    repeat' (split at hz; try (exfalso; omega))
    all_goals (try subst z)
    all_goals (first
      | exact ⟨rfl, rfl⟩
      | (simp only [Bool.and_eq_true, Bool.or_eq_true, decide_eq_true_eq, beq_iff_eq] at *; first | (exfalso; omega) | omega))
end Go.Proofs.YtmgkpbgfkjedeaaGreatDoor
namespace Go.Proofs.YtmgkpbgfkjedeaaGreatDoor
open Go
set_option maxRecDepth 20000
set_option maxHeartbeats 4000000
set_option linter.unusedSimpArgs false
set_option linter.unusedVariables false
attribute [local irreducible] AWp AOps byteAt SrcOK OrOk GloAll FnSpec
attribute [local irreducible] nextS badI badS stepS rngR ownB
attribute [local irreducible] firstTab runeS
theorem nextS_facts (s : List UInt8) : ((nextS s).2 = 0 → (nextS s).1 = 0) ∧ ((nextS s).2 = 1 → (nextS s).1 < 128) ∧ (s.length = 0 → (nextS s).2 = 0) := by
  refine ⟨?_, ?_, ?_⟩
  · unfold nextS; (repeat' split) <;> simp
  · unfold nextS; (repeat' split) <;> simp; omega
  · intro h; unfold nextS; simp [h]
theorem rune_next (s : List UInt8) : (((nextS s).2 : Int) = 0 → ((runeS s).2 : Int) = 0 ∧ s.length = 0 ∨ ((runeS s).1 : Int) = 65533 ∧ ((runeS s).2 : Int) = 1) ∧ (((nextS s).2 : Int) ≠ 0 → ((runeS s).1 : Int) = (nextS s).1 ∧ ((runeS s).2 : Int) = (nextS s).2) := by
  have hf := nextS_facts s
  unfold runeS
  by_cases h0 : s.length = 0
  · rw [if_pos h0]
    refine ⟨fun _ => .inl ⟨rfl, h0⟩, fun h => absurd (hf.2.2 h0) (by omega)⟩
  · rw [if_neg h0]
    by_cases h1 : (nextS s).2 = 0
    · rw [if_pos h1]
      exact ⟨fun _ => .inr ⟨rfl, rfl⟩, fun h => absurd h1 (by omega)⟩
    · rw [if_neg h1]
      exact ⟨fun h => absurd h (by omega), fun _ => ⟨rfl, rfl⟩⟩
theorem ref_Next {G : Glo} (hU : GloAll G utfTy) (s : List UInt8) :
    FnIs Tryz.prog G 23 [.str s] (.tuple [.int .i64 ((nextS s).1 : Int), .int .i64 ((nextS s).2 : Int)]) := by
  have hGL : GloAll G [] := gloAll_nil
  refine fn_x Tryz.func23 Tryz.call23 rfl rfl rfl rfl hGL ?_
  intro C hC
  have hd := dec_rune (G := G) hU s
  have hn := nextS_le s
  have hf := nextS_facts s
  have hr := rune_next s
  have hk : ((runeS s).1 : Int) ≤ 1114111 := by
    by_cases h : (nextS s).2 = 0
    · unfold runeS; rw [if_pos h]; split <;> decide
    · omega
  repeat' (first | (conv => whnf); first | refine .w ?_ | refine .v ?_ | refine sc_c ?_ ?_ <;> (intro hb; try exact dd hb) | apply sc_not | apply sc_or | (apply sc_i <;> intro hb) | (apply bx_i; intro hbd) | (apply cx_is; first | exact hd) | (apply cx_do (i := 0) rfl; first | exact hd) | (apply ab_i; intro bl) | (apply as_i; intro va vk vc hva) | (apply av_i; intro v) | (apply ac_i; intro bl cap hcap) | apply bo_l | (apply nx_i <;> intro hnx) | apply dw_q mixed hC hGL (by kernel_rfl) | (apply cq; assumption; (first | exact hd); exact rfl) | (show Rt _ _ _; exact rt_w) | fail)
  all_goals try conv => whnf
  all_goals (refine tup2 ?_; omega)
theorem ref_Bad {G : Glo} (hU : GloAll G utfTy) (s : List UInt8) (hl : s.length ≤ 9223372036854775807) : FnIs Tryz.prog G 13 [.str s] (.int .i64 (badI s)) := by
  have hGL : GloAll G [] := gloAll_nil
  refine fn_x Tryz.func13 Tryz.call13 rfl rfl rfl rfl hGL ?_
  intro C hC
  have hle := fun k => nextS_le (s.drop k)
  have hN := fun t => ref_Next (G := G) hU t
  repeat' (first | (conv => whnf); first | refine .w ?_ | refine .v ?_ | refine sc_c ?_ ?_ <;> (intro hb; try exact dd hb) | apply sc_not | apply sc_or | (apply sc_i <;> intro hb) | (apply bx_i; intro hbd) | (apply cx_is; first | exact hN _) | (apply cx_do (i := 0) rfl; first | exact hN _) | (apply ab_i; intro bl) | (apply as_i; intro va vk vc hva) | (apply av_i; intro v) | (apply ac_i; intro bl cap hcap) | apply bo_l | (apply nx_i <;> intro hnx) | apply dw_q mixed hC hGL (by kernel_rfl) | (apply cq; assumption; (first | exact hN _); exact rfl) | (show Rt _ _ _; exact rt_w) | fail)
  all_goals try conv => whnf
  refine lp hC hGL (fun (i : Nat) => [(0, .str s), (7, .own 0 (.pointer (some ⟨bl, 0, none⟩)))]) (fun i => [.iter bl s i]) (fun i => i ≤ s.length ∧ badS s = (badS (s.drop i)).map (· + i)) (fun i => s.length - i) 0 ?_ env_w rfl ?_
  · exact ⟨Nat.zero_le _, by simp⟩
  rintro i ⟨hi, hb0⟩
  have hn := hle i
  rw [List.length_drop] at hn
  repeat' (first | (conv => whnf); first | refine .w ?_ | refine .v ?_ | refine sc_c ?_ ?_ <;> (intro hb; try exact dd hb) | apply sc_not | apply sc_or | (apply sc_i <;> intro hb) | (apply bx_i; intro hbd) | (apply cx_is; first | exact hN _) | (apply cx_do (i := 0) rfl; first | exact hN _) | (apply ab_i; intro bl) | (apply as_i; intro va vk vc hva) | (apply av_i; intro v) | (apply ac_i; intro bl cap hcap) | apply bo_l | (apply nx_i <;> intro hnx) | apply dw_q mixed hC hGL (by kernel_rfl) | (apply cq; assumption; (first | exact hN _); exact rfl) | (show Rt _ _ _; exact rt_w) | fail)
  all_goals try conv => whnf
  · apply rt_is
    refine congrArg (AVal.int .i64) ?_
    have h1 := badS_step (s.drop i) (by rw [List.length_drop]; omega)
    rw [if_pos (by omega)] at h1
    rw [h1] at hb0
    simp only [badI, hb0, Option.map_some, Nat.zero_add]
  · have h1 := badS_step (s.drop i) (by rw [List.length_drop]; omega)
    rw [if_neg (by omega)] at h1
    have h2 : stepS (s.drop i) = (nextS (s.drop i)).2 := by unfold stepS; rw [if_neg (by omega)]
    refine nxt (i + stepS (s.drop i)) ⟨by omega, ?_⟩ (by omega) ⟨rfl, rfl, trivial⟩ rfl
    rw [hb0, h1, List.drop_drop, h2]
    cases badS (s.drop (i + (nextS (s.drop i)).2)) <;> simp <;> omega
  · apply rt_is
    refine congrArg (AVal.int .i64) ?_
    rw [badS_nil (s.drop i) (by rw [List.length_drop]; omega)] at hb0
    simp only [badI, hb0, Option.map_none]
end Go.Proofs.YtmgkpbgfkjedeaaGreatDoor
namespace Go.Proofs.YtmgkpbgfkjedeaaGreatDoor
open Go Go.Extern
set_option maxRecDepth 20000
set_option maxHeartbeats 4000000
set_option linter.unusedSimpArgs false
set_option linter.unusedVariables false
attribute [local irreducible] AWp AOps byteAt SrcOK OrOk GloAll FnSpec
/-! ### Types as the model's externs hand them about -/
noncomputable def hdl (t : TypeId) : Value := typeHandle Tryz.prog t
theorem run_valueOf_ptr (t : Addr) (w : World) : (ReflectliteValue.unpack (.iface 99 (.pointer (some t)))).run Tryz.prog w
    = .ok (.agg #[hdl 99, .pointer (some ⟨w.heap.size, 0, none⟩), .int .u64 150]) (w.alloc (.cells #[.pointer (some t)] 99)) := by kernel_rfl
theorem run_valueOf_errno (e : Int) (w : World) : (ReflectliteValue.unpack (.iface 26 (.int .i64 e))).run Tryz.prog w
    = .ok (.agg #[hdl 26, .pointer (some ⟨w.heap.size, 0, none⟩), .int .u64 130]) (w.alloc (.cells #[.int .i64 e] 26)) := by kernel_rfl
theorem one_arg {R : Seal} {a : AVal} {args : Array Value} (h : RelV R [a] args.toList) : ∃ v, args = #[v] ∧ Rel R a v := by
  obtain ⟨x, t, e, hx, rfl⟩ := h
  exact ⟨x, by cases args; simp_all, hx⟩
theorem two_args {R : Seal} {a b : AVal} {args : Array Value} (h : RelV R [a, b] args.toList) : ∃ v u, args = #[v, u] ∧ Rel R a v ∧ Rel R b u := by
  obtain ⟨x, t, e, hx, y, t', e', hy, rfl⟩ := h
  exact ⟨x, y, by cases args; simp_all, hx, hy⟩
theorem iface_val {R : Seal} {t : TypeId} {a : AVal} {v : Value} (h : Rel R (.iface t a) v) : ∃ u, v = .iface t u ∧ Rel R a u := by
  obtain ⟨u, e, h1, h2⟩ := rel_one h rfl
  simp only [List.cons.injEq, and_true] at e
  exact ⟨u, e, h1, h2⟩
theorem valueOf_ptr {G : Glo} (bl : Nat) : FnIs Tryz.prog G 62 [.iface 99 (.raw (.pointer (some ⟨bl, 0, none⟩)))]
    (.agg [.raw (hdl 99), .rop [.raw (.pointer (some ⟨bl, 0, none⟩))] 0, .int .u64 150]) := by
  refine fnis_extern_new Tryz.func62 (by kernel_rfl) (by kernel_rfl) (by kernel_rfl) (e := fun args => ReflectliteValue.unpack (args.getD 0 (.tuple #[]))) (by kernel_rfl) ?_
  intro R args w ha
  obtain ⟨v, rfl, hv⟩ := one_arg ha
  obtain ⟨u, rfl, hu⟩ := iface_val hv
  obtain rfl := rel_raw.1 hu
  refine ⟨_, _, _, run_valueOf_ptr _ w, fun R' _ hR => ⟨⟨_, _, rfl, rfl, _, _, rfl, ?_, _, _, rfl, rfl, rfl⟩, rfl⟩⟩
  exact (relC_rop (R := R') (cs := [.raw (.pointer (some ⟨bl, 0, none⟩))]) (off := 0) (Nat.le_refl _) ⟨_, _, _, hR, ⟨_, _, rfl, rfl, rfl⟩⟩).1
theorem valueOf_errno {G : Glo} (e : Int) : FnIs Tryz.prog G 62 [.iface 26 (.int .i64 e)]
    (.agg [.raw (hdl 26), .rop [.int .i64 e] 0, .int .u64 130]) := by
  refine fnis_extern_new Tryz.func62 (by kernel_rfl) (by kernel_rfl) (by kernel_rfl) (e := fun args => ReflectliteValue.unpack (args.getD 0 (.tuple #[]))) (by kernel_rfl) ?_
  intro R args w ha
  obtain ⟨v, rfl, hv⟩ := one_arg ha
  obtain ⟨u, rfl, hu⟩ := iface_val hv
  obtain rfl := rel_int.1 hu
  refine ⟨_, _, _, run_valueOf_errno _ w, fun R' _ hR => ⟨⟨_, _, rfl, rfl, _, _, rfl, ?_, _, _, rfl, rfl, rfl⟩, rfl⟩⟩
  exact (relC_rop (R := R') (cs := [.int .i64 e]) (off := 0) (Nat.le_refl _) ⟨_, _, _, hR, ⟨_, _, rfl, rfl, rfl⟩⟩).1
/-! ### Types -/
noncomputable abbrev rty (t : TypeId) : AVal := .iface 128 (.agg [.raw (hdl t)])
theorem rel_rty {R : Seal} (t : TypeId) : Rel R (rty t) (.iface 128 (.agg #[hdl t])) := ⟨⟨_, rfl, ⟨_, _, rfl, rfl, rfl⟩, rfl⟩, rfl⟩
theorem agg1_val {R : Seal} {x : Value} {v : Value} (hx : vAgg x = false) (h : Rel R (.agg [.raw x]) v) : v = .agg #[x] := by
  obtain ⟨h1, h2⟩ := h
  cases v <;> simp only [AVal.isAgg, vAgg, Bool.true_eq_false] at h2
  rename_i cs
  obtain ⟨a, t, e, ha, rfl⟩ := h1
  simp only [Value.cells] at e
  have ha : [a] = x.cells.toList := ha
  have : x.cells.toList = [x] := by cases x <;> first | rfl | (simp [vAgg] at hx)
  rw [this] at ha
  simp only [List.cons.injEq, and_true] at ha
  subst ha
  have : cs = #[a] := by cases cs; simp_all
  rw [this]
theorem rty_val {R : Seal} {t : TypeId} {v : Value} (h : Rel R (rty t) v) : v = .iface 128 (.agg #[hdl t]) := by
  obtain ⟨u, rfl, hu⟩ := iface_val h
  rw [agg1_val rfl hu]
theorem agg3_val {R : Seal} {x : Value} {k : IntKind} {n : Int} {c : AVal} {v : Value} (hx : vAgg x = false) (h : Rel R (.agg [.raw x, .rop [c] 0, .int k n]) v) :
    ∃ b o, v = .agg #[x, .pointer (some ⟨b, o, none⟩), .int k n] ∧ SealedAt R b o [c] := by
  obtain ⟨h1, h2⟩ := h
  cases v <;> simp only [AVal.isAgg, vAgg, Bool.true_eq_false] at h2
  rename_i cs
  obtain ⟨a, t, e, ha, a', t', e', ha', a'', t'', e'', ha'', rfl⟩ := h1
  simp only [Value.cells] at e
  have ha : [a] = x.cells.toList := ha
  have hxl : x.cells.toList = [x] := by cases x <;> first | rfl | (simp [vAgg] at hx)
  rw [hxl] at ha
  simp only [List.cons.injEq, and_true] at ha
  subst ha
  have ha'' : [a''] = [Value.int k n] := ha''
  simp only [List.cons.injEq, and_true] at ha''
  subst ha''
  obtain ⟨b, o, e2, ho, hs⟩ := rop_inv (relC_rel ha' rfl)
  subst e2
  refine ⟨b, o, ?_, by simpa using hs⟩
  have : cs = #[a, .pointer (some ⟨b, o, none⟩), .int k n] := by cases cs; simp_all
  rw [this]
theorem typeOf_errno {G : Glo} (e : Int) : FnIs Tryz.prog G 69 [.iface 26 (.int .i64 e)] (rty 26) := by
  refine fnis_extern Tryz.func69 (by kernel_rfl) (by kernel_rfl) (by kernel_rfl) (e := ReflectliteType.typeOf) (by kernel_rfl) ?_
  intro R args ha w
  obtain ⟨v, rfl, hv⟩ := one_arg ha
  obtain ⟨u, rfl, hu⟩ := iface_val hv
  exact ⟨.iface 128 (.agg #[hdl 26]), by kernel_rfl, rel_rty _⟩
theorem typeOf_at {G : Glo} (a : AVal) : FnIs Tryz.prog G 69 [.iface 48 a] (rty 48) := by
  refine fnis_extern Tryz.func69 (by kernel_rfl) (by kernel_rfl) (by kernel_rfl) (e := ReflectliteType.typeOf) (by kernel_rfl) ?_
  intro R args ha w
  obtain ⟨v, rfl, hv⟩ := one_arg ha
  obtain ⟨u, rfl, hu⟩ := iface_val hv
  exact ⟨.iface 128 (.agg #[hdl 48]), by kernel_rfl, rel_rty _⟩
theorem type_ptr {G : Glo} (c : AVal) : FnIs Tryz.prog G 63 [.agg [.raw (hdl 99), .rop [c] 0, .int .u64 150]] (rty 99) := by
  refine fnis_extern Tryz.func63 (by kernel_rfl) (by kernel_rfl) (by kernel_rfl)
    (e := ReflectliteValue.methodAny (ReflectliteValue.valueError "reflectlite.Value.Type" 0) fun t _ _ _ => ReflectliteType.toType t) (by kernel_rfl) ?_
  intro R args ha w
  obtain ⟨v, rfl, hv⟩ := one_arg ha
  obtain ⟨b, o, rfl, _⟩ := agg3_val rfl hv
  exact ⟨.iface 128 (.agg #[hdl 99]), by kernel_rfl, rel_rty _⟩
theorem abi_kind {G : Glo} (t : TypeId) (k : Int) (h : ∀ w, (((ReflectliteType.abiMethod fun t => do pure (.int .u8 (← Rtype.kind t))) #[hdl t]).run Tryz.prog w) = .ok (.int .u8 k) w) : FnIs Tryz.prog G 109 [.raw (hdl t)] (.int .u8 k) := by
  refine fnis_extern Tryz.func109 (by kernel_rfl) (by kernel_rfl) (by kernel_rfl)
    (e := ReflectliteType.abiMethod fun t => do pure (.int .u8 (← Rtype.kind t))) (by kernel_rfl) ?_
  intro R args ha w
  obtain ⟨v, rfl, hv⟩ := one_arg ha
  obtain rfl := rel_raw.1 hv
  exact ⟨.int .u8 k, h w, rel_int.2 rfl⟩
theorem kind_ptr {G : Glo} : FnIs Tryz.prog G 109 [.raw (hdl 99)] (.int .u8 22) := abi_kind _ _ (fun w => by kernel_rfl)
theorem kind_errno {G : Glo} : FnIs Tryz.prog G 109 [.raw (hdl 26)] (.int .u8 2) := abi_kind _ _ (fun w => by kernel_rfl)
theorem elem_ptr {G : Glo} : FnIs Tryz.prog G 122 [.agg [.raw (hdl 99)]] (rty 26) := by
  refine fnis_extern Tryz.func122 (by kernel_rfl) (by kernel_rfl) (by kernel_rfl) (e := ReflectliteType.method ReflectliteType.elem) (by kernel_rfl) ?_
  intro R args ha w
  obtain ⟨v, rfl, hv⟩ := one_arg ha
  obtain rfl := agg1_val rfl hv
  exact ⟨.iface 128 (.agg #[hdl 26]), by kernel_rfl, rel_rty _⟩
theorem implements_errno {G : Glo} : FnIs Tryz.prog G 123 [.agg [.raw (hdl 26)], rty 32] (.bool true) := by
  refine fnis_extern Tryz.func123 (by kernel_rfl) (by kernel_rfl) (by kernel_rfl) (e := ReflectliteType.relation "Implements" ReflectliteType.implements_) (by kernel_rfl) ?_
  intro R args ha w
  obtain ⟨v, u, rfl, hv, hu⟩ := two_args ha
  obtain rfl := agg1_val rfl hv
  obtain rfl := rty_val hu
  exact ⟨.bool true, by kernel_rfl, rel_bool.2 rfl⟩
theorem assignable_errno {G : Glo} : FnIs Tryz.prog G 120 [.agg [.raw (hdl 26)], rty 26] (.bool true) := by
  refine fnis_extern Tryz.func120 (by kernel_rfl) (by kernel_rfl) (by kernel_rfl) (e := ReflectliteType.relation "AssignableTo" ReflectliteType.assignableTo) (by kernel_rfl) ?_
  intro R args ha w
  obtain ⟨v, u, rfl, hv, hu⟩ := two_args ha
  obtain rfl := agg1_val rfl hv
  obtain rfl := rty_val hu
  exact ⟨.bool true, by kernel_rfl, rel_bool.2 rfl⟩
theorem assignable_at {G : Glo} : FnIs Tryz.prog G 120 [.agg [.raw (hdl 48)], rty 26] (.bool false) := by
  refine fnis_extern Tryz.func120 (by kernel_rfl) (by kernel_rfl) (by kernel_rfl) (e := ReflectliteType.relation "AssignableTo" ReflectliteType.assignableTo) (by kernel_rfl) ?_
  intro R args ha w
  obtain ⟨v, u, rfl, hv, hu⟩ := two_args ha
  obtain rfl := agg1_val rfl hv
  obtain rfl := rty_val hu
  exact ⟨.bool false, by kernel_rfl, rel_bool.2 rfl⟩
/-! ### What reads or writes memory -/
theorem rlm (z : Sem Value) (f : TypeId → Addr → Nat → Nat → Sem Value) (v : Value) :
    ReflectliteValue.method z f #[v] = (do match ← ReflectliteValue.parts v with | none => z | some (t, a, fl) => f t a fl (fl % 32)) := rfl
theorem parts_ptr (a : Addr) (w : World) : (ReflectliteValue.parts (.agg #[hdl 99, .pointer (some a), .int .u64 150])).run Tryz.prog w = .ok (some (99, a, 150)) w := by kernel_rfl
theorem parts_var (a : Addr) (w : World) : (ReflectliteValue.parts (.agg #[hdl 26, .pointer (some a), .int .u64 386])).run Tryz.prog w = .ok (some (26, a, 386)) w := by kernel_rfl
theorem parts_errno (a : Addr) (w : World) : (ReflectliteValue.parts (.agg #[hdl 26, .pointer (some a), .int .u64 130])).run Tryz.prog w = .ok (some (26, a, 130)) w := by kernel_rfl
theorem elemOf_ptr (w : World) : (Rtype.elem? 99).run Tryz.prog w = .ok (some 26) w := by kernel_rfl
theorem mk_var (p : Addr) (w : World) : (ReflectliteValue.mk 26 p ReflectliteValue.flagAddr).run Tryz.prog w = .ok (.agg #[hdl 26, .pointer (some p), .int .u64 386]) w := by kernel_rfl
theorem isNil_ptr {G : Glo} (bl : Nat) : FnIs Tryz.prog G 64 [.agg [.raw (hdl 99), .rop [.raw (.pointer (some ⟨bl, 0, none⟩))] 0, .int .u64 150]] (.bool false) := by
  refine fnspec_extern Tryz.func64 (by kernel_rfl) (by kernel_rfl) (by kernel_rfl) (e := ReflectliteValue.method (ReflectliteValue.valueError "reflectlite.Value.IsNil" 0) ReflectliteValue.isNil) (by kernel_rfl) ?_
  intro C R args w hm ha
  obtain ⟨v, rfl, hv⟩ := one_arg ha
  obtain ⟨b, o, rfl, hs⟩ := agg3_val rfl hv
  obtain ⟨u, hu, hr⟩ := hs.cell hm.sealed (i := 0) rfl
  rw [Nat.add_zero] at hu
  have hr : [u] = [Value.pointer (some ⟨bl, 0, none⟩)] := hr
  simp only [List.cons.injEq, and_true] at hr
  subst hr
  refine ⟨.bool false, w, R, ?_, Seal.le_refl R, rel_bool.2 rfl, hm⟩
  rw [rlm]
  simp only [Sem.run_bind, parts_ptr, Result.andThen]
  simp [ReflectliteValue.isNil, loadVar, isAgg, underlying, Tryz.underlying99, hu, Result.andThen]
theorem elemV_ptr {G : Glo} (bl : Nat) : FnIs Tryz.prog G 70 [.agg [.raw (hdl 99), .rop [.raw (.pointer (some ⟨bl, 0, none⟩))] 0, .int .u64 150]] (.agg [.raw (hdl 26), .raw (.pointer (some ⟨bl, 0, none⟩)), .int .u64 386]) := by
  refine fnspec_extern Tryz.func70 (by kernel_rfl) (by kernel_rfl) (by kernel_rfl) (e := ReflectliteValue.method (ReflectliteValue.valueError "reflectlite.Value.Elem" 0) ReflectliteValue.elem) (by kernel_rfl) ?_
  intro C R args w hm ha
  obtain ⟨v, rfl, hv⟩ := one_arg ha
  obtain ⟨b, o, rfl, hs⟩ := agg3_val rfl hv
  obtain ⟨u, hu, hr⟩ := hs.cell hm.sealed (i := 0) rfl
  rw [Nat.add_zero] at hu
  have hr : [u] = [Value.pointer (some ⟨bl, 0, none⟩)] := hr
  simp only [List.cons.injEq, and_true] at hr
  subst hr
  refine ⟨.agg #[hdl 26, .pointer (some ⟨bl, 0, none⟩), .int .u64 386], w, R, ?_, Seal.le_refl R, ⟨⟨_, _, rfl, rfl, _, _, rfl, rfl, _, _, rfl, rfl, rfl⟩, rfl⟩, hm⟩
  rw [rlm]
  simp only [Sem.run_bind, parts_ptr, Result.andThen]
  simp [ReflectliteValue.elem, loadVar, isAgg, underlying, Tryz.underlying99, hu, Result.andThen, elemOf_ptr, mk_var]
end Go.Proofs.YtmgkpbgfkjedeaaGreatDoor
namespace Go.Proofs.YtmgkpbgfkjedeaaGreatDoor
open Go Go.Extern
set_option maxRecDepth 20000
set_option maxHeartbeats 4000000
set_option linter.unusedSimpArgs false
set_option linter.unusedVariables false
attribute [local irreducible] AWp AOps byteAt SrcOK OrOk GloAll FnSpec
theorem rls (v x : Value) : ReflectliteValue.set #[v, x] = (do
    let (some (dst, a, fl), some (src, b, _)) := (← ReflectliteValue.parts v, ← ReflectliteValue.parts x)
      | unsupported (.noEntry "extern/(internal/reflectlite.Value).Set.zeroValue")
    if fl / ReflectliteValue.flagAddr % 2 == 0 then unsupported (.noEntry "extern/(internal/reflectlite.Value).Set.unaddressable")
    let val ← loadVar src b
    if ← Rtype.directlyAssignable dst src then storeVar dst a val
    else if ← Rtype.implements dst src then
      if (← Rtype.kind src) == 20 then
        match val with
        | .nilIface => unsupported (.noEntry "extern/reflectlite: a nil value of one interface type handed on as a value of another")
        | _ => storeVar dst a val
      else storeVar dst a (.iface src val)
    else panicString ("reflectlite.Set: value of type " ++ (← Rtype.spelt src) ++ " is not assignable to type " ++ (← Rtype.spelt dst))
    pure (.tuple #[])) := rfl
theorem direct_errno (w : World) : (Rtype.directlyAssignable 26 26).run Tryz.prog w = .ok true w := by kernel_rfl
theorem aggv_val {R : Seal} {x y : Value} {k : IntKind} {n : Int} {v : Value} (hx : vAgg x = false) (hy : vAgg y = false) (h : Rel R (.agg [.raw x, .raw y, .int k n]) v) : v = .agg #[x, y, .int k n] := by
  obtain ⟨h1, h2⟩ := h
  cases v <;> simp only [AVal.isAgg, vAgg, Bool.true_eq_false] at h2
  rename_i cs
  obtain ⟨a, t, e, ha, a', t', e', ha', a'', t'', e'', ha'', rfl⟩ := h1
  simp only [Value.cells] at e
  have key : ∀ {z : Value}, vAgg z = false → z.cells.toList = [z] := by intro z hz; cases z <;> first | rfl | (simp [vAgg] at hz)
  have ha : [a] = x.cells.toList := ha
  have ha' : [a'] = y.cells.toList := ha'
  rw [key hx] at ha
  rw [key hy] at ha'
  have ha'' : [a''] = [Value.int k n] := ha''
  simp only [List.cons.injEq, and_true] at ha ha' ha''
  subst ha ha' ha''
  have : cs = #[a, a', .int k n] := by cases cs; simp_all
  rw [this]
theorem set_errno {G : Glo} (bl : Nat) (e old : Int) : FnSpec Tryz.prog G 71 [.agg [.raw (hdl 26), .raw (.pointer (some ⟨bl, 0, none⟩)), .int .u64 386], .agg [.raw (hdl 26), .rop [.int .i64 e] 0, .int .u64 130]]
    [.cells bl (some 26) [.int .i64 old]] (fun r H => r = .ret (.tuple []) ∧ H = [.cells bl (some 26) [.int .i64 e]]) := by
  refine fnspec_extern Tryz.func71 (by kernel_rfl) (by kernel_rfl) (by kernel_rfl) (e := ReflectliteValue.set) (by kernel_rfl) ?_
  intro C R args w hm ha
  obtain ⟨v, u, rfl, hv, hu⟩ := two_args ha
  obtain rfl := aggv_val rfl rfl hv
  obtain ⟨b, o, rfl, hs⟩ := agg3_val rfl hu
  obtain ⟨u, hu, hr⟩ := hs.cell hm.sealed (i := 0) rfl
  rw [Nat.add_zero] at hu
  have hr : [u] = [Value.int .i64 e] := hr
  simp only [List.cons.injEq, and_true] at hr
  subst hr
  obtain ⟨Cs, el, fz, hb, hl, hfz⟩ := own_cells hm (i := 0) rfl
  have hlen := relL_length hl
  simp only [Array.length_toList, List.length_cons, List.length_nil] at hlen
  obtain ⟨w', hst, ho⟩ := storeCells_run (P := Tryz.prog) [Value.int .i64 e] 0 0 Cs w hb (by simp only [List.length_cons, List.length_nil]; omega) hfz.1 (by intro v hv; simp only [List.mem_singleton] at hv; subst hv; exact ⟨rfl, fun _ => by simp⟩)
  refine ⟨.tuple #[], w', R, ?_, Seal.le_refl R, ⟨⟨#[], rfl, rfl⟩, rfl⟩, ?_⟩
  · rw [rls]
    simp only [Sem.run_bind, parts_var, parts_errno, Result.andThen]
    simp [ReflectliteValue.flagAddr, loadVar, isAgg, underlying, Tryz.underlying26, hu, Result.andThen, direct_errno, storeVar, Value.cells]
    rw [hst]
  · have hd : Cs.toList.drop (0 + 0 + [Value.int .i64 e].length) = [] := List.drop_eq_nil_of_le (by simp; omega)
    refine hm.write (i := 0) rfl rfl ho rfl ⟨_, _, _, ho.at_, ?_, ?_⟩
    · rw [hd]; exact ⟨_, _, rfl, rfl, rfl⟩
    · rw [hd]
      have : Cs.size = 1 := by omega
      rw [this] at hfz
      exact hfz
/-! ### Methods -/
section
variable (t : TypeId)
theorem m_kind : ∀ R v, Rel R (.agg [.raw (hdl t)]) v → ∀ w, ∃ u, (Go.method (Tryz.prog.types.size + Made.depth) 128 v "Kind").run Tryz.prog w = .ok (109, u) w ∧ Rel R (.raw (hdl t)) u := by
  intro R v h w
  obtain rfl := agg1_val rfl h
  exact ⟨hdl t, by kernel_rfl, rel_raw.2 rfl⟩
theorem m_elem : ∀ R v, Rel R (.agg [.raw (hdl t)]) v → ∀ w, ∃ u, (Go.method (Tryz.prog.types.size + Made.depth) 128 v "Elem").run Tryz.prog w = .ok (122, u) w ∧ Rel R (.agg [.raw (hdl t)]) u := by
  intro R v h w
  obtain rfl := agg1_val rfl h
  exact ⟨.agg #[hdl t], by kernel_rfl, h⟩
theorem m_impl : ∀ R v, Rel R (.agg [.raw (hdl t)]) v → ∀ w, ∃ u, (Go.method (Tryz.prog.types.size + Made.depth) 128 v "Implements").run Tryz.prog w = .ok (123, u) w ∧ Rel R (.agg [.raw (hdl t)]) u := by
  intro R v h w
  obtain rfl := agg1_val rfl h
  exact ⟨.agg #[hdl t], by kernel_rfl, h⟩
theorem m_asgn : ∀ R v, Rel R (.agg [.raw (hdl t)]) v → ∀ w, ∃ u, (Go.method (Tryz.prog.types.size + Made.depth) 128 v "AssignableTo").run Tryz.prog w = .ok (120, u) w ∧ Rel R (.agg [.raw (hdl t)]) u := by
  intro R v h w
  obtain rfl := agg1_val rfl h
  exact ⟨.agg #[hdl t], by kernel_rfl, h⟩
end
theorem m_unwrap (a : AVal) : ∀ R v, Rel R a v → ∀ w, ∃ u, (Go.method (Tryz.prog.types.size + Made.depth) 48 v "Unwrap").run Tryz.prog w = .ok (114, u) w ∧ Rel R a u := by
  intro R v h w
  exact ⟨v, by kernel_rfl, h⟩
theorem i_at_As : ∀ v w, (Instr.typeAssert (.iface 48 v) 32 133 true).run Tryz.prog w = .ok (.tuple #[.nilIface, .bool false]) w := fun v w => run_typeAssert_lacksB (z := .nilIface) Tryz.underlying133 (by kernel_rfl) (by kernel_rfl) v _ w
theorem i_at_Unwrap : ∀ v w, (Instr.typeAssert (.iface 48 v) 32 78 true).run Tryz.prog w = .ok (.tuple #[.iface 48 v, .bool true]) w := by intro v w; kernel_rfl
theorem i_errno_Unwrap : ∀ v w, (Instr.typeAssert (.iface 26 v) 32 78 true).run Tryz.prog w = .ok (.tuple #[.nilIface, .bool false]) w := fun v w => run_typeAssert_lacksB (z := .nilIface) Tryz.underlying78 (by kernel_rfl) (by kernel_rfl) v _ w
/-! ### The walks -/
abbrev errA (e : Int) : AVal := .iface 26 (.int .i64 e)
abbrev atA (e p : Int) : AVal := .iface 48 (.rop [.int .i64 e, .int .i64 p] 0)
noncomputable abbrev tgtV (bl : Nat) : AVal := .agg [.raw (hdl 99), .rop [.raw (.pointer (some ⟨bl, 0, none⟩))] 0, .int .u64 150]
abbrev tgtA (bl : Nat) : AVal := .iface 99 (.raw (.pointer (some ⟨bl, 0, none⟩)))
theorem At_Unwrap {G : Glo} (e p : Int) : FnIs Tryz.prog G 114 [.rop [.int .i64 e, .int .i64 p] 0] (errA e) := by
  have hGL : GloAll G [] := gloAll_nil
  refine fn_x Tryz.func114 Tryz.call114 rfl rfl rfl rfl hGL ?_
  intro C hC
  exact xw0
theorem errors_as_errno {G : Glo} (bl : Nat) (e old : Int) : FnSpec Tryz.prog G 65 [errA e, tgtA bl, tgtV bl, rty 26] [.cells bl (some 26) [.int .i64 old]] (fun r H => r = .ret (.bool true) ∧ H = [.cells bl (some 26) [.int .i64 e]]) := by
  have hGL : GloAll G [] := gloAll_nil
  refine fn_x Tryz.func65 Tryz.call65 rfl rfl rfl rfl hGL ?_
  intro C hC
  have h1 := typeOf_errno (G := G) e
  have h2 := elemV_ptr (G := G) bl
  have h3 := valueOf_errno (G := G) e
  have h4 := set_errno (G := G) bl e old
  have h5 := assignable_errno (G := G)
  have m1 := m_asgn 26
  refine xw1 ?_
  intros
  refine rds hC hGL 1 ?_
  exact xw0
theorem errors_as_at {G : Glo} (bl : Nat) (e p old : Int) : FnSpec Tryz.prog G 65 [atA e p, tgtA bl, tgtV bl, rty 26] [.cells bl (some 26) [.int .i64 old]] (fun r H => r = .ret (.bool true) ∧ H = [.cells bl (some 26) [.int .i64 e]]) := by
  have hGL : GloAll G [] := gloAll_nil
  refine fn_x Tryz.func65 Tryz.call65 rfl rfl rfl rfl hGL ?_
  intro C hC
  have h1 := typeOf_errno (G := G) e
  have h2 := elemV_ptr (G := G) bl
  have h3 := valueOf_errno (G := G) e
  have h4 := set_errno (G := G) bl e old
  have h5 := assignable_errno (G := G)
  have h6 := assignable_at (G := G)
  have h7 := typeOf_at (G := G) (.rop [.int .i64 e, .int .i64 p] 0)
  have h8 := At_Unwrap (G := G) e p
  have m1 := m_asgn 26
  have m2 := m_asgn 48
  have m3 := m_unwrap (.rop [.int .i64 e, .int .i64 p] 0)
  have i1 := i_at_As
  have i2 := i_at_Unwrap
  refine xw1 ?_
  intros
  refine rds hC hGL 2 ?_
  exact xw0
/-- What stands in errors.errorType. -/
noncomputable abbrev errTy : List (Nat × List AVal) := [(0, [rty 32])]
theorem errors_As {G : Glo} (hGL : GloAll G errTy) (bl : Nat) (e : Int) {ty : TypeId} {a : AVal} (hs : FnSpec Tryz.prog G 65 [.iface ty (unown a), tgtA bl, tgtV bl, rty 26] [.cells bl (some 26) [.int .i64 0]] (fun r H => r = .ret (.bool true) ∧ H = [.cells bl (some 26) [.int .i64 e]])) :
    FnSpec Tryz.prog G 51 [.iface ty a, tgtA bl] [.cells bl (some 26) [.int .i64 0]] (fun r H => r = .ret (.bool true) ∧ H = [.cells bl (some 26) [.int .i64 e]]) := by
  refine fn_x Tryz.func51 Tryz.call51 rfl rfl rfl rfl hGL ?_
  intro C hC
  have h1 := valueOf_ptr (G := G) bl
  have h2 := type_ptr (G := G) (.raw (.pointer (some ⟨bl, 0, none⟩)))
  have h3 := isNil_ptr (G := G) bl
  have h4 := kind_ptr (G := G)
  have h5 := elem_ptr (G := G)
  have h6 := kind_errno (G := G)
  have h7 := implements_errno (G := G)
  have m1 := m_kind 99
  have m2 := m_elem 99
  have m3 := m_kind 26
  have m4 := m_impl 26
  exact xw0
theorem api_Tell_nil {G : Glo} : FnIs Tryz.prog G 37 [.raw .nilIface] (.int .i64 0) := by
  have hGL : GloAll G [] := gloAll_nil
  refine fn_x Tryz.func37 Tryz.call37 rfl rfl rfl rfl hGL ?_
  intro C hC
  exact xw0
theorem api_Tell_errno {G : Glo} (hGL : GloAll G errTy) (e : Int) : FnIs Tryz.prog G 37 [errA e] (.int .i64 e) := by
  refine fn_x Tryz.func37 Tryz.call37 rfl rfl rfl rfl hGL ?_
  intro C hC
  repeat' (first | (conv => whnf); first | refine .w ?_ | refine .v ?_ | refine sc_c ?_ ?_ <;> (intro hb; try exact dd hb) | apply sc_not | apply sc_or | (apply sc_i <;> intro hb) | (apply bx_i; intro hbd) | (apply cx_is; first | exact errors_As hGL _ e (errors_as_errno _ e 0)) | (apply cx_do (i := 0) rfl; first | exact errors_As hGL _ e (errors_as_errno _ e 0)) | (apply ab_i; intro bl) | (apply as_i; intro va vk vc hva) | (apply av_i; intro v) | (apply ac_i; intro bl cap hcap) | apply bo_l | (apply nx_i <;> intro hnx) | apply dw_q mixed hC hGL (by kernel_rfl) | (apply cq; assumption; (first | exact errors_As hGL _ e (errors_as_errno _ e 0)); exact rfl) | (show Rt _ _ _; exact rt_w) | fail)
  all_goals try conv => whnf
theorem api_Tell_at {G : Glo} (hGL : GloAll G errTy) (e p : Int) : FnIs Tryz.prog G 37 [atA e p] (.int .i64 e) := by
  refine fn_x Tryz.func37 Tryz.call37 rfl rfl rfl rfl hGL ?_
  intro C hC
  repeat' (first | (conv => whnf); first | refine .w ?_ | refine .v ?_ | refine sc_c ?_ ?_ <;> (intro hb; try exact dd hb) | apply sc_not | apply sc_or | (apply sc_i <;> intro hb) | (apply bx_i; intro hbd) | (apply cx_is; first | exact errors_As hGL _ e (errors_as_at _ e p 0)) | (apply cx_do (i := 0) rfl; first | exact errors_As hGL _ e (errors_as_at _ e p 0)) | (apply ab_i; intro bl) | (apply as_i; intro va vk vc hva) | (apply av_i; intro v) | (apply ac_i; intro bl cap hcap) | apply bo_l | (apply nx_i <;> intro hnx) | apply dw_q mixed hC hGL (by kernel_rfl) | (apply cq; assumption; (first | exact errors_As hGL _ e (errors_as_at _ e p 0)); exact rfl) | (show Rt _ _ _; exact rt_w) | fail)
  all_goals try conv => whnf
/-- An error, and what it is taken for. -/
inductive Err
  | none
  | errno (e : Int)
  | atp (e p : Int)
def Err.A : Err → AVal
  | .none => .raw .nilIface
  | .errno e => errA e
  | .atp e p => atA e p
def Err.e : Err → Int
  | .none => 0
  | .errno e => e
  | .atp e _ => e
def Err.p : Err → Int
  | .none => -1
  | .errno _ => -1
  | .atp _ p => p
theorem plain_Place_nil {G : Glo} : FnIs Tryz.prog G 22 [.raw .nilIface] (.tuple [.int .i64 0, .int .i64 (-1)]) := by
  have hGL : GloAll G [] := gloAll_nil
  refine fn_x Tryz.func22 Tryz.call22 rfl rfl rfl rfl hGL ?_
  intro C hC
  repeat' (first | (conv => whnf); first | refine .w ?_ | refine .v ?_ | refine sc_c ?_ ?_ <;> (intro hb; try exact dd hb) | apply sc_not | apply sc_or | (apply sc_i <;> intro hb) | (apply bx_i; intro hbd) | (apply cx_is; first | exact api_Tell_nil) | (apply cx_do (i := 0) rfl; first | exact api_Tell_nil) | (apply ab_i; intro bl) | (apply as_i; intro va vk vc hva) | (apply av_i; intro v) | (apply ac_i; intro bl cap hcap) | apply bo_l | (apply nx_i <;> intro hnx) | apply dw_q mixed hC hGL (by kernel_rfl) | (apply cq; assumption; (first | exact api_Tell_nil); exact rfl) | (show Rt _ _ _; exact rt_w) | fail)
  all_goals try conv => whnf
  refine rds hC hGL 1 ?_
  exact xw0
theorem plain_Place_errno {G : Glo} (hGL : GloAll G errTy) (e : Int) : FnIs Tryz.prog G 22 [errA e] (.tuple [.int .i64 e, .int .i64 (-1)]) := by
  refine fn_x Tryz.func22 Tryz.call22 rfl rfl rfl rfl hGL ?_
  intro C hC
  have i1 := i_errno_Unwrap
  repeat' (first | (conv => whnf); first | refine .w ?_ | refine .v ?_ | refine sc_c ?_ ?_ <;> (intro hb; try exact dd hb) | apply sc_not | apply sc_or | (apply sc_i <;> intro hb) | (apply bx_i; intro hbd) | (apply cx_is; first | exact api_Tell_errno hGL e) | (apply cx_do (i := 0) rfl; first | exact api_Tell_errno hGL e) | (apply ab_i; intro bl) | (apply as_i; intro va vk vc hva) | (apply av_i; intro v) | (apply ac_i; intro bl cap hcap) | apply bo_l | (apply nx_i <;> intro hnx) | apply dw_q mixed hC hGL (by kernel_rfl) | (apply cq; assumption; (first | exact api_Tell_errno hGL e); exact rfl) | (show Rt _ _ _; exact rt_w) | fail)
  all_goals try conv => whnf
  refine rds hC hGL 1 ?_
  exact xw0
theorem plain_Place_at {G : Glo} (hGL : GloAll G errTy) (e p : Int) : FnIs Tryz.prog G 22 [atA e p] (.tuple [.int .i64 e, .int .i64 p]) := by
  refine fn_x Tryz.func22 Tryz.call22 rfl rfl rfl rfl hGL ?_
  intro C hC
  repeat' (first | (conv => whnf); first | refine .w ?_ | refine .v ?_ | refine sc_c ?_ ?_ <;> (intro hb; try exact dd hb) | apply sc_not | apply sc_or | (apply sc_i <;> intro hb) | (apply bx_i; intro hbd) | (apply cx_is; first | exact api_Tell_at hGL e p) | (apply cx_do (i := 0) rfl; first | exact api_Tell_at hGL e p) | (apply ab_i; intro bl) | (apply as_i; intro va vk vc hva) | (apply av_i; intro v) | (apply ac_i; intro bl cap hcap) | apply bo_l | (apply nx_i <;> intro hnx) | apply dw_q mixed hC hGL (by kernel_rfl) | (apply cq; assumption; (first | exact api_Tell_at hGL e p); exact rfl) | (show Rt _ _ _; exact rt_w) | fail)
  all_goals try conv => whnf
  refine rds hC hGL 1 ?_
  exact xw0
theorem plain_Place {G : Glo} (hGL : GloAll G errTy) (x : Err) : FnIs Tryz.prog G 22 [x.A] (.tuple [.int .i64 x.e, .int .i64 x.p]) := by
  cases x with
  | none => exact plain_Place_nil
  | errno e => exact plain_Place_errno hGL e
  | atp e p => exact plain_Place_at hGL e p
theorem law_placed {G : Glo} (hGL : GloAll G errTy) (x : Err) (e p : Int) : FnIs Tryz.prog G 6 [x.A, .agg [.int .i64 e, .int .i64 p]] (.bool (eqB x.e e && eqB x.p p)) := by
  have hP := plain_Place hGL x
  cases x
  all_goals (
    refine fn_x Tryz.func6 Tryz.call6 rfl rfl rfl rfl hGL ?_
    intro C hC
    repeat' (first | (conv => whnf); first | refine .w ?_ | refine .v ?_ | refine sc_c ?_ ?_ <;> (intro hb; try exact dd hb) | apply sc_not | apply sc_or | (apply sc_i <;> intro hb) | (apply bx_i; intro hbd) | (apply cx_is; first | exact hP) | (apply cx_do (i := 0) rfl; first | exact hP) | (apply ab_i; intro bl) | (apply as_i; intro va vk vc hva) | (apply av_i; intro v) | (apply ac_i; intro bl cap hcap) | apply bo_l | (apply nx_i <;> intro hnx) | apply dw_q mixed hC hGL (by kernel_rfl) | (apply cq; assumption; (first | exact hP); exact rfl) | (show Rt _ _ _; exact rt_w) | fail)
    all_goals try conv => whnf
    all_goals (apply rt_is; refine congrArg AVal.bool ?_; first | (rw [eqB_t.2 hb, Bool.true_and]; done) | (rw [eqB_f.2 hb]; rfl) | (rw [eqB_t.2 hb, Bool.true_and]; rfl)))
end Go.Proofs.YtmgkpbgfkjedeaaGreatDoor
namespace Go.Proofs.YtmgkpbgfkjedeaaGreatDoor
open Go
set_option maxRecDepth 20000
set_option maxHeartbeats 4000000
set_option linter.unusedSimpArgs false
set_option linter.unusedVariables false
attribute [local irreducible] AWp AOps byteAt SrcOK OrOk GloAll FnSpec
attribute [local irreducible] nextS badI badS stepS rngR ownB mayZ
theorem ref_Good {G : Glo} : FnIs Tryz.prog G 9 [] (.agg [.int .i64 0, .int .i64 (-1)]) := by
  have hGL : GloAll G [] := gloAll_nil
  refine fn_x Tryz.func9 Tryz.call9 rfl rfl rfl rfl hGL ?_
  intro C hC
  repeat' (first | (conv => whnf); first | refine .w ?_ | refine .v ?_ | refine sc_c ?_ ?_ <;> (intro hb; try exact dd hb) | apply sc_not | apply sc_or | (apply sc_i <;> intro hb) | (apply bx_i; intro hbd) | (apply cx_is; first | fail) | (apply cx_do (i := 0) rfl; first | fail) | (apply ab_i; intro bl) | (apply as_i; intro va vk vc hva) | (apply av_i; intro v) | (apply ac_i; intro bl cap hcap) | apply bo_l | (apply nx_i <;> intro hnx) | apply dw_q mixed hC hGL (by kernel_rfl) | (apply cq; assumption; (first | fail); exact rfl) | (show Rt _ _ _; exact rt_w) | fail)
  all_goals try conv => whnf
end Go.Proofs.YtmgkpbgfkjedeaaGreatDoor
namespace Go.Proofs.YtmgkpbgfkjedeaaGreatDoor
open Go
set_option maxRecDepth 20000
set_option maxHeartbeats 4000000
set_option linter.unusedSimpArgs false
set_option linter.unusedVariables false
attribute [local irreducible] AWp AOps byteAt SrcOK OrOk GloAll FnSpec
/-- Bytes given one by one. -/
def partB : Nat → List Int → List (Nat × AVal)
  | _, [] => []
  | k, v :: vs => (k, .int .u8 v) :: partB (k + 1) vs
theorem partB_at : ∀ (vs : List Int) (k i : Nat) (h : i < vs.length), (partB k vs)[i]? = some (k + i, .int .u8 vs[i])
  | [], _, _, h => absurd h (Nat.not_lt_zero _)
  | v :: vs, k, 0, _ => rfl
  | v :: vs, k, i + 1, h => by
    have := partB_at vs (k + 1) i (by simpa using h)
    simp only [partB, List.getElem?_cons_succ, List.getElem_cons_succ]
    rw [this, show k + 1 + i = k + (i + 1) by omega]
def bytesI (vs : List Int) : List UInt8 := vs.map fun v => UInt8.ofNat v.toNat
theorem rv_bytes {P : Program} [Tab P] {C : Ctx} {H : Heap} {env : Env} (vs : List Int) {S T e : TypeId} {xS xT xe : TI} {x : Operand} (hx : evalA env x = some (.list 1 vs.length (partElem (partB 0 vs)))) (hv : ∀ v, v ∈ vs → 0 ≤ v ∧ v < 256)
    (h1 : tab P S = some xS) (h2 : xS.desc = .slice e) (h5 : tab P e = some xe) (h6 : xe.desc = .int .u8) (h3 : tab P T = some xT) (h4 : xT.desc = .string) : RunV P C H env (.convert S T x) (.str (bytesI vs)) := by
  refine rv_str_list (bytesI vs) hx (by simp [bytesI]) (fun i hi => ?_) h1 h2 h5 h6 h3 h4
  have hi : i < vs.length := by simpa [bytesI] using hi
  have := hv _ (List.getElem_mem hi)
  unfold partElem
  rw [partB_at vs 0 i hi]
  simp only [byteA, bytesI, List.getD, List.getElem?_map, List.getElem?_eq_getElem hi, Option.map_some, Option.getD_some]
  generalize vs[i] = v at *
  congr 1
  have e : v.toNat < 256 := by omega
  rw [UInt8.toNat_ofNat_of_lt' (by simpa using e)]
  omega
end Go.Proofs.YtmgkpbgfkjedeaaGreatDoor
namespace Go.Proofs.YtmgkpbgfkjedeaaGreatDoor
open Go
set_option maxRecDepth 20000
set_option maxHeartbeats 4000000
set_option linter.unusedSimpArgs false
set_option linter.unusedVariables false
attribute [local irreducible] AWp AOps byteAt SrcOK OrOk GloAll FnSpec
def letterB (c : Int) : Bool := decide ((97 ≤ c ∧ c ≤ 122) ∨ (65 ≤ c ∧ c ≤ 90) ∨ (48 ≤ c ∧ c ≤ 57) ∨ c = 45)
attribute [local irreducible] letterB
/-- All bytes are such. -/
def allB (f : Int → Bool) (s : List UInt8) : Bool := s.all fun c => f (c.toNat : Int)
def isS (s : List UInt8) : Bool := allB letterB s && (decide (s.length ≠ 0) && decide (s.length ≤ 40))
theorem ref_within {G : Glo} (m low high : Int) : FnIs Tryz.prog G 41 [.int .i64 m, .int .i64 low, .int .i64 high] (.bool (decide (low ≤ m) && decide (m ≤ high))) := by
  have hGL : GloAll G [] := gloAll_nil
  refine fn_x Tryz.func41 Tryz.call41 rfl rfl rfl rfl hGL ?_
  intro C hC
  refine xw ?_
  repeat' (first | exact Le.n | refine Lc.mk ?_ ?_)
  all_goals intros
  all_goals (apply rt_is; refine congrArg AVal.bool ?_; rw [Bool.eq_iff_iff]; simp [ltB_f, Bool.not_eq_true'] <;> omega)
end Go.Proofs.YtmgkpbgfkjedeaaGreatDoor
namespace Go.Proofs.YtmgkpbgfkjedeaaGreatDoor
open Go
set_option maxRecDepth 20000
set_option maxHeartbeats 4000000
set_option linter.unusedSimpArgs false
set_option linter.unusedVariables false
attribute [local irreducible] AWp AOps byteAt SrcOK OrOk GloAll FnSpec
attribute [local irreducible] nextS badI badS stepS rngR ownB mayZ
theorem within_max {G : Glo} (r : Int) : FnIs Tryz.prog G 41 [.int .i64 r, .int .i64 0, .int .i64 1114111] (.bool (decide (0 ≤ r) && decide (r ≤ 1114111))) := ref_within r 0 1114111
theorem ref_May {G : Glo} (r : Int) : FnIs Tryz.prog G 54 [.int .i64 r] (.bool (mayZ r)) := by
  have hGL : GloAll G [] := gloAll_nil
  refine fn_x Tryz.func54 Tryz.call54 rfl rfl rfl rfl hGL ?_
  intro C hC
  have hw := within_max (G := G) r
  cases hz : (decide (0 ≤ r) && decide (r ≤ 1114111)) with
  | true =>
    rw [hz] at hw
    rw [Bool.and_eq_true, decide_eq_true_eq, decide_eq_true_eq] at hz
    repeat' (first | (conv => whnf); first | refine .w ?_ | refine .v ?_ | refine sc_c ?_ ?_ <;> (intro hb; try exact dd hb) | apply sc_not | apply sc_or | (apply sc_i <;> intro hb) | (apply bx_i; intro hbd) | (apply cx_is; first | exact hw | exact valid_rune _) | (apply cx_do (i := 0) rfl; first | exact hw | exact valid_rune _) | (apply ab_i; intro bl) | (apply as_i; intro va vk vc hva) | (apply av_i; intro v) | (apply ac_i; intro bl cap hcap) | apply bo_l | (apply nx_i <;> intro hnx) | apply dw_q mixed hC hGL (by kernel_rfl) | (apply cq; assumption; (first | exact hw | exact valid_rune _); exact rfl) | (show Rt _ _ _; exact rt_w) | fail)
    all_goals try conv => whnf
  | false =>
    rw [hz] at hw
    repeat' (first | (conv => whnf); first | refine .w ?_ | refine .v ?_ | refine sc_c ?_ ?_ <;> (intro hb; try exact dd hb) | apply sc_not | apply sc_or | (apply sc_i <;> intro hb) | (apply bx_i; intro hbd) | (apply cx_is; first | exact hw | exact valid_rune _) | (apply cx_do (i := 0) rfl; first | exact hw | exact valid_rune _) | (apply ab_i; intro bl) | (apply as_i; intro va vk vc hva) | (apply av_i; intro v) | (apply ac_i; intro bl cap hcap) | apply bo_l | (apply nx_i <;> intro hnx) | apply dw_q mixed hC hGL (by kernel_rfl) | (apply cq; assumption; (first | exact hw | exact valid_rune _); exact rfl) | (show Rt _ _ _; exact rt_w) | fail)
    all_goals try conv => whnf
    apply rt_is
    rw [mayZ_f.2 (by simp only [Bool.and_eq_false_iff, decide_eq_false_iff_not] at hz; omega)]
    rfl
attribute [local irreducible] encU
theorem point_end {r : Int} {vs : List Int} {H' : Heap} (h : bytesI vs = encU r) : Rt (fun (x : ARes) (H : Heap) => x = .ret (.tuple [.str (encU r), .raw .nilIface]) ∧ H = []) (.tuple [.str (bytesI vs), .raw .nilIface]) H' := rt_is (by rw [h])
theorem utf_Point {G : Glo} (r : Int) : FnIs Tryz.prog G 60 [.int .i64 r] (.tuple [.str (encU r), if mayZ r then .raw .nilIface else errA 2]) := by
  have hGL : GloAll G [] := gloAll_nil
  refine fn_x Tryz.func60 Tryz.call60 rfl rfl rfl rfl hGL ?_
  intro C hC
  have hm := utf_May (G := G) r
  cases hz : mayZ r with
  | true =>
    have he := encU_t hz
    rw [hz] at hm
    rw [mayZ_t] at hz
    repeat' (first | (conv => whnf); first | refine .w ?_ | refine .v ?_ | refine sc_c ?_ ?_ <;> (intro hb; try exact dd hb) | apply sc_not | apply sc_or | (apply sc_i <;> intro hb) | (apply bx_i; intro hbd) | (apply cx_is; first | exact hm) | (apply cx_do (i := 0) rfl; first | exact hm) | (apply ab_i; intro bl) | (apply as_i; intro va vk vc hva) | (apply av_i; intro v) | (apply ac_i; intro bl cap hcap) | apply bo_l | (apply nx_i <;> intro hnx) | apply dw_q mixed hC hGL (by kernel_rfl) | (apply cq; assumption; (first | exact hm); exact rfl) | (show Rt _ _ _; exact rt_w) | fail)
    all_goals try conv => whnf
    · refine op1_run hC hGL (rv_bytes [_] rfl (by intro v hv; simp only [List.mem_cons, List.not_mem_nil, or_false] at hv; omega) rfl rfl rfl rfl rfl rfl) rfl rfl ?_
      repeat' (first | (conv => whnf); first | refine .w ?_ | refine .v ?_ | refine sc_c ?_ ?_ <;> (intro hb; try exact dd hb) | apply sc_not | apply sc_or | (apply sc_i <;> intro hb) | (apply bx_i; intro hbd) | (apply cx_is; first | exact hm) | (apply cx_do (i := 0) rfl; first | exact hm) | (apply ab_i; intro bl) | (apply as_i; intro va vk vc hva) | (apply av_i; intro v) | (apply ac_i; intro bl cap hcap) | apply bo_l | (apply nx_i <;> intro hnx) | apply dw_q mixed hC hGL (by kernel_rfl) | (apply cq; assumption; (first | exact hm); exact rfl) | (show Rt _ _ _; exact rt_w) | fail)
      all_goals try conv => whnf
      refine point_end ?_
      rw [he, enc_all hz]
      simp only [bytesI, List.map]
      (repeat' split) <;> first | (exfalso; omega) | skip
      all_goals (repeat (first | exact rfl | refine congr (congrArg List.cons (congrArg UInt8.ofNat (by omega))) ?_))
    · refine op1_run hC hGL (rv_bytes [_, _] rfl (by intro v hv; simp only [List.mem_cons, List.not_mem_nil, or_false] at hv; omega) rfl rfl rfl rfl rfl rfl) rfl rfl ?_
      repeat' (first | (conv => whnf); first | refine .w ?_ | refine .v ?_ | refine sc_c ?_ ?_ <;> (intro hb; try exact dd hb) | apply sc_not | apply sc_or | (apply sc_i <;> intro hb) | (apply bx_i; intro hbd) | (apply cx_is; first | exact hm) | (apply cx_do (i := 0) rfl; first | exact hm) | (apply ab_i; intro bl) | (apply as_i; intro va vk vc hva) | (apply av_i; intro v) | (apply ac_i; intro bl cap hcap) | apply bo_l | (apply nx_i <;> intro hnx) | apply dw_q mixed hC hGL (by kernel_rfl) | (apply cq; assumption; (first | exact hm); exact rfl) | (show Rt _ _ _; exact rt_w) | fail)
      all_goals try conv => whnf
      refine point_end ?_
      rw [he, enc_all hz]
      simp only [bytesI, List.map]
      (repeat' split) <;> first | (exfalso; omega) | skip
      all_goals (repeat (first | exact rfl | refine congr (congrArg List.cons (congrArg UInt8.ofNat (by omega))) ?_))
    · refine op1_run hC hGL (rv_bytes [_, _, _] rfl (by intro v hv; simp only [List.mem_cons, List.not_mem_nil, or_false] at hv; omega) rfl rfl rfl rfl rfl rfl) rfl rfl ?_
      repeat' (first | (conv => whnf); first | refine .w ?_ | refine .v ?_ | refine sc_c ?_ ?_ <;> (intro hb; try exact dd hb) | apply sc_not | apply sc_or | (apply sc_i <;> intro hb) | (apply bx_i; intro hbd) | (apply cx_is; first | exact hm) | (apply cx_do (i := 0) rfl; first | exact hm) | (apply ab_i; intro bl) | (apply as_i; intro va vk vc hva) | (apply av_i; intro v) | (apply ac_i; intro bl cap hcap) | apply bo_l | (apply nx_i <;> intro hnx) | apply dw_q mixed hC hGL (by kernel_rfl) | (apply cq; assumption; (first | exact hm); exact rfl) | (show Rt _ _ _; exact rt_w) | fail)
      all_goals try conv => whnf
      refine point_end ?_
      rw [he, enc_all hz]
      simp only [bytesI, List.map]
      (repeat' split) <;> first | (exfalso; omega) | skip
      all_goals (repeat (first | exact rfl | refine congr (congrArg List.cons (congrArg UInt8.ofNat (by omega))) ?_))
    · refine op1_run hC hGL (rv_bytes [_, _, _, _] rfl (by intro v hv; simp only [List.mem_cons, List.not_mem_nil, or_false] at hv; omega) rfl rfl rfl rfl rfl rfl) rfl rfl ?_
      repeat' (first | (conv => whnf); first | refine .w ?_ | refine .v ?_ | refine sc_c ?_ ?_ <;> (intro hb; try exact dd hb) | apply sc_not | apply sc_or | (apply sc_i <;> intro hb) | (apply bx_i; intro hbd) | (apply cx_is; first | exact hm) | (apply cx_do (i := 0) rfl; first | exact hm) | (apply ab_i; intro bl) | (apply as_i; intro va vk vc hva) | (apply av_i; intro v) | (apply ac_i; intro bl cap hcap) | apply bo_l | (apply nx_i <;> intro hnx) | apply dw_q mixed hC hGL (by kernel_rfl) | (apply cq; assumption; (first | exact hm); exact rfl) | (show Rt _ _ _; exact rt_w) | fail)
      all_goals try conv => whnf
      refine point_end ?_
      rw [he, enc_all hz]
      simp only [bytesI, List.map]
      (repeat' split) <;> first | (exfalso; omega) | skip
      all_goals (repeat (first | exact rfl | refine congr (congrArg List.cons (congrArg UInt8.ofNat (by omega))) ?_))
  | false =>
    rw [hz] at hm
    repeat' (first | (conv => whnf); first | refine .w ?_ | refine .v ?_ | refine sc_c ?_ ?_ <;> (intro hb; try exact dd hb) | apply sc_not | apply sc_or | (apply sc_i <;> intro hb) | (apply bx_i; intro hbd) | (apply cx_is; first | exact hm) | (apply cx_do (i := 0) rfl; first | exact hm) | (apply ab_i; intro bl) | (apply as_i; intro va vk vc hva) | (apply av_i; intro v) | (apply ac_i; intro bl cap hcap) | apply bo_l | (apply nx_i <;> intro hnx) | apply dw_q mixed hC hGL (by kernel_rfl) | (apply cq; assumption; (first | exact hm); exact rfl) | (show Rt _ _ _; exact rt_w) | fail)
    all_goals try conv => whnf
    apply rt_is
    rw [encU_f hz]
    rfl
theorem ref_Point {G : Glo} (r : Int) : FnIs Tryz.prog G 42 [.int .i64 r] (.tuple [.str (encU r), .int .i64 (if mayZ r then 0 else 2)]) := by
  have hGL : GloAll G [] := gloAll_nil
  refine fn_x Tryz.func42 Tryz.call42 rfl rfl rfl rfl hGL ?_
  intro C hC
  have hm := ref_May (G := G) r
  cases hz : mayZ r with
  | true =>
    have he := encU_t hz
    rw [hz] at hm
    rw [mayZ_t] at hz
    repeat' (first | (conv => whnf); first | refine .w ?_ | refine .v ?_ | refine sc_c ?_ ?_ <;> (intro hb; try exact dd hb) | apply sc_not | apply sc_or | (apply sc_i <;> intro hb) | (apply bx_i; intro hbd) | (apply cx_is; first | exact hm) | (apply cx_do (i := 0) rfl; first | exact hm) | (apply ab_i; intro bl) | (apply as_i; intro va vk vc hva) | (apply av_i; intro v) | (apply ac_i; intro bl cap hcap) | apply bo_l | (apply nx_i <;> intro hnx) | apply dw_q mixed hC hGL (by kernel_rfl) | (apply cq; assumption; (first | exact hm); exact rfl) | (show Rt _ _ _; exact rt_w) | fail)
    all_goals try conv => whnf
    refine op1_run hC hGL (rv_istr rfl rfl rfl rfl) rfl rfl ?_
    repeat' (first | (conv => whnf); first | refine .w ?_ | refine .v ?_ | refine sc_c ?_ ?_ <;> (intro hb; try exact dd hb) | apply sc_not | apply sc_or | (apply sc_i <;> intro hb) | (apply bx_i; intro hbd) | (apply cx_is; first | exact hm) | (apply cx_do (i := 0) rfl; first | exact hm) | (apply ab_i; intro bl) | (apply as_i; intro va vk vc hva) | (apply av_i; intro v) | (apply ac_i; intro bl cap hcap) | apply bo_l | (apply nx_i <;> intro hnx) | apply dw_q mixed hC hGL (by kernel_rfl) | (apply cq; assumption; (first | exact hm); exact rfl) | (show Rt _ _ _; exact rt_w) | fail)
    all_goals try conv => whnf
    apply rt_is
    rw [he]
    rfl
  | false =>
    rw [hz] at hm
    repeat' (first | (conv => whnf); first | refine .w ?_ | refine .v ?_ | refine sc_c ?_ ?_ <;> (intro hb; try exact dd hb) | apply sc_not | apply sc_or | (apply sc_i <;> intro hb) | (apply bx_i; intro hbd) | (apply cx_is; first | exact hm) | (apply cx_do (i := 0) rfl; first | exact hm) | (apply ab_i; intro bl) | (apply as_i; intro va vk vc hva) | (apply av_i; intro v) | (apply ac_i; intro bl cap hcap) | apply bo_l | (apply nx_i <;> intro hnx) | apply dw_q mixed hC hGL (by kernel_rfl) | (apply cq; assumption; (first | exact hm); exact rfl) | (show Rt _ _ _; exact rt_w) | fail)
    all_goals try conv => whnf
    apply rt_is
    rw [encU_f hz]
    rfl
end Go.Proofs.YtmgkpbgfkjedeaaGreatDoor
namespace Go.Proofs.YtmgkpbgfkjedeaaGreatDoor
open Go Go.RowKit
set_option maxRecDepth 20000
set_option maxHeartbeats 4000000
set_option linter.unusedSimpArgs false
set_option linter.unusedVariables false
attribute [local irreducible] AWp AOps byteAt SrcOK OrOk GloAll FnSpec
attribute [local irreducible] DSpec Lv AWpD To
abbrev thrA (e p : Int) : AVal := .iface 61 (.agg [.int .i64 e, .int .i64 p])
theorem ref_throw {G : Glo} (e p : Int) : FnSpec Tryz.prog G 14 [.int .i64 e, .int .i64 p] [] (fun r H => r = .panic (thrA e p) ∧ H = []) := by
  have hGL : GloAll G [] := gloAll_nil
  refine fn_x Tryz.func14 Tryz.call14 rfl rfl rfl rfl hGL ?_
  intro C hC
  repeat' (first | (conv => whnf); first | refine .w ?_ | refine .v ?_ | refine sc_c ?_ ?_ <;> (intro hb; try exact dd hb) | apply sc_not | apply sc_or | (apply sc_i <;> intro hb) | (apply bx_i; intro hbd) | (apply cx_is; first | fail) | (apply cx_do (i := 0) rfl; first | fail) | (apply ab_i; intro bl) | (apply as_i; intro va vk vc hva) | (apply av_i; intro v) | (apply ac_i; intro bl cap hcap) | apply bo_l | (apply nx_i <;> intro hnx) | apply dw_q mixed hC hGL (by kernel_rfl) | (apply cq; assumption; (first | fail); exact rfl) | (show Rt _ _ _; exact rt_w) | fail)
  all_goals try conv => whnf
  exact pn_is rfl
theorem ref_caught {G : Glo} (b : Nat) (e p : Int) (x y : AVal) : DSpec Tryz.prog G 12 [.own 0 (.pointer (some ⟨b, 0, none⟩))] (.pan (thrA e p)) [.cells b (some 28) [x, y]]
    (fun r m H => m = .rcv (thrA e p) ∧ r = .ret (.tuple []) ∧ H = [.cells b (some 28) [.int .i64 e, .int .i64 p]]) := by
  have hGL : GloAll G [] := gloAll_nil
  refine ds_rec (rs := []) (GL := []) Tryz.func12 rfl rfl rfl rfl rfl rfl hGL ?_
  intro C hC
  repeat' (first | (conv => whnf); first | refine .w ?_ | refine .v ?_ | refine sc_c ?_ ?_ <;> (intro hb; try exact dd hb) | apply sc_not | apply sc_or | (apply sc_i <;> intro hb) | (apply bx_i; intro hbd) | (apply cx_is; first | fail) | (apply cx_do (i := 0) rfl; first | fail) | (apply ab_i; intro bl) | (apply as_i; intro va vk vc hva) | (apply av_i; intro v) | (apply ac_i; intro bl cap hcap) | apply bo_l | (apply nx_i <;> intro hnx) | apply dw_q mixed hC hGL (by kernel_rfl) | (apply cq; assumption; (first | fail); exact rfl) | (show Rt _ _ _; exact rt_w) | fail)
  all_goals try conv => whnf
  all_goals skip
theorem ref_uncaught {G : Glo} (b : Nat) (x : HEnt) : DSpec Tryz.prog G 12 [.own 0 (.pointer (some ⟨b, 0, none⟩))] .ret [x]
    (fun r m H => m = .ret ∧ r = .ret (.tuple []) ∧ H = [x]) := by
  have hGL : GloAll G [] := gloAll_nil
  refine ds_rec (rs := []) (GL := []) Tryz.func12 rfl rfl rfl rfl rfl rfl hGL ?_
  intro C hC
  repeat' (first | (conv => whnf); first | refine .w ?_ | refine .v ?_ | refine sc_c ?_ ?_ <;> (intro hb; try exact dd hb) | apply sc_not | apply sc_or | (apply sc_i <;> intro hb) | (apply bx_i; intro hbd) | (apply cx_is; first | fail) | (apply cx_do (i := 0) rfl; first | fail) | (apply ab_i; intro bl) | (apply as_i; intro va vk vc hva) | (apply av_i; intro v) | (apply ac_i; intro bl cap hcap) | apply bo_l | (apply nx_i <;> intro hnx) | apply dw_q mixed hC hGL (by kernel_rfl) | (apply cq; assumption; (first | fail); exact rfl) | (show Rt _ _ _; exact rt_w) | fail)
  all_goals try conv => whnf
  all_goals skip
theorem ref_Fault_Is {G : Glo} (e p : Int) : FnIs Tryz.prog G 11 [.agg [.int .i64 e, .int .i64 p]] (.bool (eqB e 0)) := by
  have hGL : GloAll G [] := gloAll_nil
  refine fn_x Tryz.func11 Tryz.call11 rfl rfl rfl rfl hGL ?_
  intro C hC
  repeat' (first | (conv => whnf); first | refine .w ?_ | refine .v ?_ | refine sc_c ?_ ?_ <;> (intro hb; try exact dd hb) | apply sc_not | apply sc_or | (apply sc_i <;> intro hb) | (apply bx_i; intro hbd) | (apply cx_is; first | fail) | (apply cx_do (i := 0) rfl; first | fail) | (apply ab_i; intro bl) | (apply as_i; intro va vk vc hva) | (apply av_i; intro v) | (apply ac_i; intro bl cap hcap) | apply bo_l | (apply nx_i <;> intro hnx) | apply dw_q mixed hC hGL (by kernel_rfl) | (apply cq; assumption; (first | fail); exact rfl) | (show Rt _ _ _; exact rt_w) | fail)
  all_goals try conv => whnf
  all_goals skip
end Go.Proofs.YtmgkpbgfkjedeaaGreatDoor
namespace Go.Proofs.YtmgkpbgfkjedeaaGreatDoor
open Go Go.RowKit
abbrev blS : List UInt8 := [32, 9, 10, 13]
theorem bl_has {c : Nat} (h : c < 128) : decide (0 ≤ idxB blS (c : Int)) = decide (blB c) := by
  have : ∀ c : Nat, c < 128 → decide (0 ≤ idxB blS (c : Int)) = decide (blB c) := by decide +kernel
  exact this c h
/-- What a reader that throws answers. -/
def RjQ {α : Type} (x : Rj α) (A : α → Nat → AVal) (r : ARes) (H : Heap) : Prop :=
  (match x with | .ok t b => r = .ret (A t b) | .bad e p => r = .panic (thrA e (p : Nat))) ∧ H = []
theorem rj_ok {α : Type} {x : Rj α} {A : α → Nat → AVal} {t : α} {b : Nat} {v : AVal} {H : Heap} (h : x = .ok t b) (e : v = A t b) : Rt (RjQ x A) v H := ⟨[], List.nil_sublist _, by subst h e; exact ⟨rfl, rfl⟩⟩
theorem rj_bad {α : Type} {x : Rj α} {A : α → Nat → AVal} {e : Int} {p : Nat} {v : AVal} {H : Heap} (h : x = .bad e p) (e : v = thrA e (p : Nat)) : Pn (RjQ x A) v H := ⟨[], List.nil_sublist _, by subst h e; exact ⟨rfl, rfl⟩⟩
theorem cx_rj {α : Type} {P : Program} [Tab P] {G : Glo} {f : FuncId} {avs : List AVal} {H : Heap} {K Kp : AVal → Heap → Prop} {x : Rj α} {A : α → Nat → AVal} (hs : FnSpec P G f avs [] (RjQ x A))
    (k1 : ∀ t b, x = .ok t b → K (A t b) H) (k2 : ∀ e p, x = .bad e p → Kp (thrA e (p : Nat)) H) : Cx P G f avs H K Kp := by
  refine cx_pick [] hs rfl ?_ ?_
  · rintro v H1 ⟨h, rfl⟩
    refine ⟨H, rfl, rfl, ?_⟩
    cases x with
    | ok t b => cases h; exact k1 t b rfl
    | bad e p => cases h
  · rintro v H1 ⟨h, rfl⟩
    refine ⟨H, rfl, rfl, ?_⟩
    cases x with
    | ok t b => cases h
    | bad e p => cases h; exact k2 e p rfl
theorem bl1 : byteAt blS 1 = 9 := by decide
set_option maxRecDepth 20000
set_option maxHeartbeats 4000000
set_option linter.unusedSimpArgs false
set_option linter.unusedVariables false
attribute [local irreducible] AWp AOps byteAt SrcOK OrOk GloAll FnSpec
attribute [local irreducible] nextS badI badS stepS rngR ownB mayZ
theorem indexRune_bl {G : Glo} (r : Int) (h1 : 128 ≤ r) (h2 : r ≤ 255) : FnIs Tryz.prog G 43 [.str blS, .int .i32 r] (.int .i64 (-1)) := by
  have hm : mayZ r = true := mayZ_t.2 (by omega)
  have hV := valid_rune (G := G) r
  rw [hm] at hV
  have hix : ∀ q : Int, 128 ≤ q → q ≤ 255 → FnIs Tryz.prog G 36 [.str [10, 13], .int .u8 q] (.int .i64 (-1)) := fun q h0 h1 => by
    have := strings_IndexByte (G := G) [10, 13] q (by omega) h1
    rwa [show idxB [10, 13] q = -1 by unfold idxB; simp only [idxF]; (repeat' split) <;> simp at * <;> omega] at this
  have hcall := Tryz.call36
  obtain ⟨x, y, he, hy⟩ : ∃ x y : UInt8, (Utf8.encode r).data.toList = [x, y] ∧ 128 ≤ y.toNat := by
    have hv := hm
    rw [mayZ_t] at hv
    rw [enc_all hv]
    have hb : ∀ k : Nat, 128 ≤ ((UInt8.ofNat (128 + k % 64)).toNat) := by
      intro k
      have e : 128 + k % 64 < 256 := by omega
      rw [UInt8.toNat_ofNat_of_lt' (by simpa using e)]
      omega
    split
    · omega
    · split
      · exact ⟨_, _, rfl, hb _⟩
      · omega
  have f1 : byteAt [x, y] 1 = y.toNat := two1
  have e2 : byteAt [x, y] ([x, y].length - Nat.succ 0) = y.toNat := two1
  have f2 := hix (byteAt [x, y] 1) (by omega) (by have := byteAt_lt [x, y] 1; omega)
  have hGL : GloAll G [] := gloAll_nil
  refine fn_x Tryz.func43 Tryz.call43 rfl rfl rfl rfl hGL ?_
  intro C hC
  refine xw1 ?_
  intros
  apply cd_scope hC hGL
  refine xw1 ?_
  intros
  refine op1_run hC hGL (rv_istr rfl rfl rfl rfl) rfl rfl ?_
  rw [he]
  refine xw1 ?_
  intros
  refine rds hC hGL 1 ?_
  have g1 : byteAt blS ([x, y].length - Nat.succ 0) = 9 := bl1
  repeat' (first | (conv => whnf); first | refine .w ?_ | refine .v ?_ | refine sc_c ?_ ?_ <;> (intro hb; try exact dd hb) | apply sc_not | apply sc_or | (apply sc_i <;> intro hb) | (apply bx_i; intro hbd) | (apply cx_is; first | exact hV | exact f2) | (apply cx_do (i := 0) rfl; first | exact hV | exact f2) | (apply ab_i; intro bl) | (apply as_i; intro va vk vc hva) | (apply av_i; intro v) | (apply ac_i; intro bl cap hcap) | apply bo_l | (apply nx_i <;> intro hnx) | apply dw_q mixed hC hGL (by kernel_rfl) | (apply cq; assumption; (first | exact hV | exact f2); exact rfl) | (show Rt _ _ _; exact rt_w) | fail)
  all_goals try conv => whnf
  apply cd_scope hC hGL
  repeat' (first | (conv => whnf); first | refine .w ?_ | refine .v ?_ | refine sc_c ?_ ?_ <;> (intro hb; try exact dd hb) | apply sc_not | apply sc_or | (apply sc_i <;> intro hb) | (apply bx_i; intro hbd) | (apply cx_is; first | exact hV | exact f2) | (apply cx_do (i := 0) rfl; first | exact hV | exact f2) | (apply ab_i; intro bl) | (apply as_i; intro va vk vc hva) | (apply av_i; intro v) | (apply ac_i; intro bl cap hcap) | apply bo_l | (apply nx_i <;> intro hnx) | apply dw_q mixed hC hGL (by kernel_rfl) | (apply cq; assumption; (first | exact hV | exact f2); exact rfl) | (show Rt _ _ _; exact rt_w) | fail)
  all_goals try conv => whnf
  · rename_i hb
    change ((byteAt blS 1 : Nat) : Int) = (byteAt [x, y] 1 : Nat) at hb
    rw [bl1, f1] at hb
    omega
theorem indexRune_bl0 {G : Glo} (r : Int) (h0 : 0 ≤ r) (h1 : r < 128) : FnIs Tryz.prog G 43 [.str blS, .int .i32 r] (.int .i64 (idxB blS r)) := by
  have h := strings_IndexByte (G := G) blS r h0 (by omega)
  have hGL : GloAll G [] := gloAll_nil
  refine fn_x Tryz.func43 Tryz.call43 rfl rfl rfl rfl hGL ?_
  intro C hC
  exact xw0
theorem contains_bl {G : Glo} (c : Nat) (hc : c < 256) : FnIs Tryz.prog G 28 [.str blS, .int .i32 (c : Nat)] (.bool (decide (blB c))) := by
  by_cases h : c < 128
  · have h1 := indexRune_bl0 (G := G) (c : Nat) (by omega) (by omega)
    rw [← bl_has h]
    have hGL : GloAll G [] := gloAll_nil
    refine fn_x Tryz.func28 Tryz.call28 rfl rfl rfl rfl hGL ?_
    intro C hC
    repeat' (first | (conv => whnf); first | refine .w ?_ | refine .v ?_ | refine sc_c ?_ ?_ <;> (intro hb; try exact dd hb) | apply sc_not | apply sc_or | (apply sc_i <;> intro hb) | (apply bx_i; intro hbd) | (apply cx_is; first | exact h1) | (apply cx_do (i := 0) rfl; first | exact h1) | (apply ab_i; intro bl) | (apply as_i; intro va vk vc hva) | (apply av_i; intro v) | (apply ac_i; intro bl cap hcap) | apply bo_l | (apply nx_i <;> intro hnx) | apply dw_q mixed hC hGL (by kernel_rfl) | (apply cq; assumption; (first | exact h1); exact rfl) | (show Rt _ _ _; exact rt_w) | fail)
    all_goals try conv => whnf
    refine rt_is ?_
    by_cases h2 : 0 ≤ idxB blS (c : Nat)
    · rw [decide_eq_true h2, ltB_f.2 (by omega)]; rfl
    · rw [decide_eq_false h2, ltB_t.2 (by omega)]; rfl
  · have h1 := indexRune_bl (G := G) (c : Nat) (by omega) (by omega)
    rw [decide_eq_false (by unfold blB; omega)]
    have hGL : GloAll G [] := gloAll_nil
    refine fn_x Tryz.func28 Tryz.call28 rfl rfl rfl rfl hGL ?_
    intro C hC
    repeat' (first | (conv => whnf); first | refine .w ?_ | refine .v ?_ | refine sc_c ?_ ?_ <;> (intro hb; try exact dd hb) | apply sc_not | apply sc_or | (apply sc_i <;> intro hb) | (apply bx_i; intro hbd) | (apply cx_is; first | exact h1) | (apply cx_do (i := 0) rfl; first | exact h1) | (apply ab_i; intro bl) | (apply as_i; intro va vk vc hva) | (apply av_i; intro v) | (apply ac_i; intro bl cap hcap) | apply bo_l | (apply nx_i <;> intro hnx) | apply dw_q mixed hC hGL (by kernel_rfl) | (apply cq; assumption; (first | exact h1); exact rfl) | (show Rt _ _ _; exact rt_w) | fail)
    all_goals try conv => whnf
    exact rt_is (by rw [ltB_t.2 (by omega)]; rfl)
theorem ref_skip {G : Glo} (s : List UInt8) (a : Nat) (hl : s.length ≤ 4611686018427387904) (ha : a ≤ s.length + 1) : FnIs Tryz.prog G 16 [.str s, .int .i64 (a : Nat)] (.int .i64 (skE s a : Nat)) := by
  have hGL : GloAll G [] := gloAll_nil
  refine fn_x Tryz.func16 Tryz.call16 rfl rfl rfl rfl hGL ?_
  intro C hC
  refine xw1 ?_
  refine lp hC hGL (fun k : Nat => [(0, .str s), (1, .int .i64 (k : Nat))]) (fun _ => []) (fun k => k ≤ s.length + 1 ∧ skE s k = skE s a) (fun k => s.length + 1 - k) a ⟨ha, rfl⟩ env_w rfl ?_
  rintro k ⟨k1, k2⟩
  by_cases h : k < s.length
  · have h1 := contains_bl (G := G) (byteAt s k) (byteAt_lt s k)
    by_cases hb : blB (byteAt s k)
    · rw [decide_eq_true hb] at h1
      have e := skE_go h hb
      refine xw1 ?_
      intros
      exact nxs (k + 1) ⟨by omega, by rw [← e]; exact k2⟩ (by omega) env_w sub_w
    · rw [decide_eq_false hb] at h1
      rw [← k2, skE_no fun h2 => hb h2.2]
      exact xw0
  · rw [← k2, skE_no fun h2 => h h2.1]
    exact xw0
/-- What is missing, or may not stand there. -/
def lkE (s : List UInt8) (a : Nat) : Int := if s.length ≤ a then 7 else 3
theorem ref_lacks {G : Glo} (s : List UInt8) (a : Nat) (hl : s.length ≤ 4611686018427387904) : FnSpec Tryz.prog G 27 [.str s, .int .i64 (a : Nat)] [] (fun r H => r = .panic (thrA (lkE s a) (a : Nat)) ∧ H = []) := by
  have hT := fun e p => ref_throw (G := G) e p
  unfold lkE
  by_cases h : s.length ≤ a
  · rw [if_pos h]
    have hGL : GloAll G [] := gloAll_nil
    refine fn_x Tryz.func27 Tryz.call27 rfl rfl rfl rfl hGL ?_
    intro C hC
    refine xw1 ?_
    intro _
    refine cx_panic (hT _ _) ?_
    exact pn_is rfl
  · rw [if_neg h]
    have hGL : GloAll G [] := gloAll_nil
    refine fn_x Tryz.func27 Tryz.call27 rfl rfl rfl rfl hGL ?_
    intro C hC
    refine xw1 ?_
    intros
    refine cx_panic (hT _ _) ?_
    exact pn_is rfl
end Go.Proofs.YtmgkpbgfkjedeaaGreatDoor
