/- Walks and plain laws of this claim, merged: R05j, R05k, R05l, L05, K05s, K05t, K05u. -/
import Derived.Test.YtdknolnoimpgeaaGA
import Derived.Test.YtdknolnoimpgeaaKDev10
import Derived.Test.YtdknolnoimpgeaaKS05
import Derived.Test.YtdknolnoimpgeaaKOpen
namespace Go.Proofs.Ytdknolnoimpgeaa.K
open Go.RowKit Go.Proofs.YtdknolnoimpgeaaW.PrintWords Go.Proofs.YtdknolnoimpgeaaW.PrintLast Go.Proofs.YtdknolnoimpgeaaW.PrintMore
set_option linter.unusedVariables false
set_option linter.unusedSimpArgs false
theorem store_all {W : World} {g : Nat} {cs : Array Value} {t : TypeId} (bk : W.heap[g]? = some (.cells cs t (0, 0))) (vs : List Value) (h : vs.length = cs.size) : (W.setCells g 0 vs).heap[g]? = some (.cells vs.toArray t (0, 0)) := by
  obtain ⟨cur', h1, h2, h3⟩ := setCells_row vs 0 W cs bk (by omega)
  rw [h1]
  congr 2
  apply Array.ext'
  rw [h3, List.take_zero, List.nil_append, Nat.zero_add, List.drop_eq_nil_of_le (by rw [Array.length_toList]; omega), List.append_nil]
set_option maxHeartbeats 8000000 in
set_option maxRecDepth 100000 in
theorem refGoRead (base : Nat) (r : RefS) (vs vw : Value) (dd at_ : Int) (Ab : Option Addr) (nb cb : Nat) (Ak : Option Addr) (nk ck : Nat) (w : World) (h : RefD base w r vs vw) (hbase : base ≤ w.heap.size) {k : Nat} (hwf : RefWf r k) (hk : k ≤ 1000000) (hs : r.safe.length ≤ 1000000)
    (c1 : dd ≠ 1) (c2 : dd ≠ 2) (c3 : dd ≠ 3) (c4 : dd ≠ 4) (ho : r.off = false) (h0 : 0 ≤ at_) (h1 : at_ < r.safe.length) :
    Calls Try.prog 85 #[.agg (refA r vs vw), .agg #[.int .i64 dd, .int .i64 at_, .slice Ab nb cb, .slice Ak nk ck]] w fun e w' => ∃ v : Value, e = .returned (.tuple #[.agg (refA r vs vw), v, .int .i64 0]) ∧ Kd.R (Kd.int .u8) 5 w' w.heap.size (fun _ => True) v (lastR r at_.toNat r.wait.length).l ∧ Below w.heap.size w w' := by
  obtain ⟨As, cs, Aw, cw, rfl, rfl⟩ := h.form
  obtain ⟨ns, hns⟩ : ∃ n, n = r.safe.length := ⟨_, rfl⟩
  obtain ⟨nw, hnw⟩ : ∃ n, n = r.wait.length := ⟨_, rfl⟩
  obtain ⟨X, hX⟩ : ∃ X, X = (lastR r at_.toNat r.wait.length).l := ⟨_, rfl⟩
  rw [← hX]
  have WL0 := fun W (hb : Below w.heap.size w W) => refLast_walk base r (.slice As r.safe.length cs) (.slice Aw r.wait.length cw) at_ W (h.below hbase hb) hwf hk h0 h1 hs
  rw [← hX, ← hns, ← hnw] at WL0
  rw [← hns] at h1
  rw [← hns, ← hnw]
  obtain ⟨safe, wait, left, wq, fl, off⟩ := r
  simp only at ho
  subst ho
  obtain ⟨w3, hw3⟩ : ∃ w3, w3 = ((w.alloc (.cells #[.slice As ns cs, .slice Aw nw cw, .int .i64 left, .int .i64 wq, .int .i64 fl, .bool false] TRD)).alloc (.cells #[.int .i64 dd, .int .i64 at_, .slice Ab nb cb, .slice Ak nk ck] 103)).alloc (.cells #[.slice none 0 0, .slice none 0 0, .int .i64 0, .int .i64 0, .int .i64 0, .bool false] TRD) := ⟨_, rfl⟩
  have hb3 : Below w.heap.size w w3 := by rw [hw3]; exact below_alloc (below_alloc (below_alloc (Below.refl _ _) _) _) _
  have HB3 := Aside0.mk hb3
  have HSZ : Aside0 (w3.heap.size = w.heap.size + 1 + 1 + 1) := ⟨by rw [hw3]; simp⟩
  have BD : Aside0 (w3.heap[w.heap.size]? = some (.cells #[.slice As ns cs, .slice Aw nw cw, .int .i64 left, .int .i64 wq, .int .i64 fl, .bool false] TRD (0, 0))) := ⟨by rw [hw3]; exact blk_alloc (blk_alloc (heap_alloc_new _ _) _) _⟩
  have BS : Aside0 (w3.heap[w.heap.size + 1]? = some (.cells #[.int .i64 dd, .int .i64 at_, .slice Ab nb cb, .slice Ak nk ck] 103 (0, 0))) := ⟨by rw [hw3]; exact blk_alloc (heap_at2 (by simp)) _⟩
  have BZ : Aside0 (w3.heap[w.heap.size + 1 + 1]? = some (.cells #[.slice none 0 0, .slice none 0 0, .int .i64 0, .int .i64 0, .int .i64 0, .bool false] TRD (0, 0))) := ⟨by rw [hw3]; exact heap_at2 (by simp)⟩
  have HW3 := Aside0.mk hw3
  clear hb3 hw3
  have WL := Aside0.mk (WL0 w3.drew (below_drew1 HB3.out))
  have d1 : (dd == 1) = false := by simpa using c1
  have d1' : (dd != 1) = true := by simpa using c1
  have d2' : (dd != 2) = true := by simpa using c2
  have d3 : (dd == 3) = false := by simpa using c3
  have d4 : (dd == 4) = false := by simpa using c4
  have h0' : ¬ at_ < 0 := by omega
  have h1' : ¬ (ns : Int) ≤ at_ := by omega
  clear h hbase hwf hk hs c1 c2 c3 c4 h0 h1 WL0 hns hnw hX
  go_enter Try.func85, Try.ntmps85
  go_wp2
  rw [← HW3.out]
  refine start_ (n := 8) (S := fun w' => w'.cell? ⟨w.heap.size, 0, none⟩ = some (.slice As ns cs) ∧ w'.cell? ⟨w.heap.size, 1, none⟩ = some (.slice Aw nw cw) ∧ w'.cell? ⟨w.heap.size, 2, none⟩ = some (.int .i64 left) ∧ w'.cell? ⟨w.heap.size, 3, none⟩ = some (.int .i64 wq) ∧ w'.cell? ⟨w.heap.size, 4, none⟩ = some (.int .i64 fl) ∧ w'.cell? ⟨w.heap.size, 5, none⟩ = some (.bool false) ∧ w'.cell? ⟨w.heap.size + 1, 1, none⟩ = some (.int .i64 at_)) (ds := [5]) #[false, false, false, false, false, false, false, false] (by kernel_rfl) rfl rfl ⟨((blk_cell (blk_drew BD.out) 0).trans rfl), ((blk_cell (blk_drew BD.out) 1).trans rfl), ((blk_cell (blk_drew BD.out) 2).trans rfl), ((blk_cell (blk_drew BD.out) 3).trans rfl), ((blk_cell (blk_drew BD.out) 4).trans rfl), ((blk_cell (blk_drew BD.out) 5).trans rfl), ((blk_cell (blk_drew BS.out) 1).trans rfl)⟩ (fun hHeld => ?_)
  refine pure_ (i := 2) (N := some 64) (v := ?_) (a' := ?_) #[false, false, true, false, false, false, false, false] rfl rfl (by kernel_rfl) (fun _ _ _ h => h) (Or.inl ⟨by rfl, ?_⟩) ?_ ?_
  rotate_left
  · intro w'
    go_simp
    with_reducible rfl
  rotate_left
  · simp only [Act.put, List.setIfInBounds_toArray, List.set_cons_zero, List.set_cons_succ, i64_w, i32_w]
    rfl
  refine take_ (i := 0) (N := some 62) (v := ?_) (a' := ?_) #[true, false, true, false, false, false, false, false] rfl rfl (by kernel_rfl) (fun _ _ _ h => h) (Or.inl ⟨by rfl, ?_⟩) hHeld ?_ ?_
  rotate_left
  · rintro w' ⟨s0, s1, s2, s3, s4, s5, s6⟩
    go_simp
    with_reducible rfl
  rotate_left
  · simp only [Act.put, List.setIfInBounds_toArray, List.set_cons_zero, List.set_cons_succ, i64_w, i32_w]
    rfl
  refine take_ (i := 1) (N := some 63) (v := ?_) (a' := ?_) #[true, true, true, false, false, false, false, false] rfl rfl (by kernel_rfl) (fun _ _ _ h => h) (Or.inl ⟨by rfl, ?_⟩) hHeld ?_ ?_
  rotate_left
  · rintro w' ⟨s0, s1, s2, s3, s4, s5, s6⟩
    go_simp
    with_reducible rfl
  rotate_left
  · simp only [Act.put, List.setIfInBounds_toArray, List.set_cons_zero, List.set_cons_succ, i64_w, i32_w]
    rfl
  refine take_ (i := 3) (N := some 65) (v := ?_) (a' := ?_) #[true, true, true, true, false, false, false, false] rfl rfl (by kernel_rfl) (fun _ _ _ h => h) (Or.inl ⟨by rfl, ?_⟩) hHeld ?_ ?_
  rotate_left
  · rintro w' ⟨s0, s1, s2, s3, s4, s5, s6⟩
    go_simp
    with_reducible rfl
  rotate_left
  · simp only [Act.put, List.setIfInBounds_toArray, List.set_cons_zero, List.set_cons_succ, i64_w, i32_w]
    rfl
  refine one_ (i := 4) (N := some 66) #[true, true, true, true, true, false, false, false] rfl rfl (by kernel_rfl) (by decide) (fun K hK => ?_)
  clear hHeld
  refine goes_ Try.func129 (by kernel_rfl) rfl #[.agg #[.slice As ns cs, .slice Aw nw cw, .int .i64 left, .int .i64 wq, .int .i64 fl, .bool false], .int .i64 at_] (by rfl) rfl rfl (by simp only [List.map_toArray, List.map_cons, List.map_nil]; rfl) ?_
  with_reducible refine (WL.out).mono ?_
  rintro e w5 ⟨v5, rfl, ho, hb⟩
  refine ⟨_, rfl, ?_⟩
  have HO5 := Aside0.mk (Kd.R_lower ho (show w.heap.size ≤ w3.drew.heap.size by have h_ := HSZ.out; show w.heap.size ≤ w3.heap.size; omega))
  have BD5 := Aside0.mk (blk_below (blk_drew BD.out) hb)
  have BS5 := Aside0.mk (blk_below (blk_drew BS.out) hb)
  have BZ5 := Aside0.mk (blk_below (blk_drew BZ.out) hb)
  have HB5 := Aside0.mk (below_step (below_drew1 HB3.out) hb)
  clear ho hb BD BS BZ
  refine hK.out _ _ ⟨((blk_cell BD5.out 0).trans rfl), ((blk_cell BD5.out 1).trans rfl), ((blk_cell BD5.out 2).trans rfl), ((blk_cell BD5.out 3).trans rfl), ((blk_cell BD5.out 4).trans rfl), ((blk_cell BD5.out 5).trans rfl), ((blk_cell BS5.out 1).trans rfl)⟩ (fun hHeld => ?_)
  clear hK K
  refine norm_ (a' := ?_) ?_ ?_
  rotate_left
  · show Act.put _ (some 66) _ = _
    simp only [Act.put, List.setIfInBounds_toArray, List.set_cons_zero, List.set_cons_succ, i64_w, i32_w]
    rfl
  refine last_ (i := 5) (N := none) #[true, true, true, true, true, true, false, false] rfl rfl (by kernel_rfl) (by decide) (fun K hK => ?_)
  clear hHeld
  refine skip_ (w1 := w5.setCells (w.heap.size + 1 + 1) 0 [.slice As ns cs, .slice Aw nw cw, .int .i64 left, .int .i64 wq, .int .i64 fl, .bool false]) (by rfl) rfl ?_ ?_
  · exact exec_store (x := .tmp 4) (y := .tmp 62) rfl rfl rfl (run_storeAt_mid w5 (w.heap.size + 1 + 1) 0 TRD #[.slice As ns cs, .slice Aw nw cw, .int .i64 left, .int .i64 wq, .int .i64 fl, .bool false] (there_of_blk BZ5.out (by simp)) (by kernel_rfl) (by simp [Value.oneCell']))
  refine hK.out _ _ ?_
  clear hK K
  refine pure_ (i := 6) (N := some 5) (v := ?_) (a' := ?_) #[true, true, true, true, true, true, true, false] rfl rfl (by kernel_rfl) (fun _ _ _ h => h) (Or.inl ⟨by rfl, ?_⟩) ?_ ?_
  rotate_left
  · intro w'
    go_simp
    with_reducible rfl
  rotate_left
  · simp only [Act.put, List.setIfInBounds_toArray, List.set_cons_zero, List.set_cons_succ, i64_w, i32_w]
    rfl
  refine pure_ (i := 7) (N := some 6) (v := ?_) (a' := ?_) #[true, true, true, true, true, true, true, true] rfl rfl (by kernel_rfl) (fun _ _ _ h => h) (Or.inl ⟨by rfl, ?_⟩) ?_ ?_
  rotate_left
  · intro w'
    go_simp
    with_reducible rfl
  rotate_left
  · simp only [Act.put, List.setIfInBounds_toArray, List.set_cons_zero, List.set_cons_succ, i64_w, i32_w]
    rfl
  refine done_ (by kernel_rfl) ?_
  have bk9 := store_all BZ5.out [.slice As ns cs, .slice Aw nw cw, .int .i64 left, .int .i64 wq, .int .i64 fl, .bool false] rfl
  have hg9 := grown_setCells w5 (w.heap.size + 1 + 1) 0 [.slice As ns cs, .slice Aw nw cw, .int .i64 left, .int .i64 wq, .int .i64 fl, .bool false]
  obtain ⟨w9, hw9⟩ : ∃ w9, w9 = w5.setCells (w.heap.size + 1 + 1) 0 [.slice As ns cs, .slice Aw nw cw, .int .i64 left, .int .i64 wq, .int .i64 fl, .bool false] := ⟨_, rfl⟩
  rw [← hw9] at bk9 hg9 ⊢
  have BK9 := Aside0.mk bk9
  have HG9 := Aside0.mk hg9
  clear bk9 hg9 hw9
  go_wp2
  refine bodyPost_ret (resRow3 rfl _ _ (w.heap.size + 1 + 1) TRD #[.slice As ns cs, .slice Aw nw cw, .int .i64 left, .int .i64 wq, .int .i64 fl, .bool false] (0, 0) _ v5 (.int .i64 0) rfl rfl rfl BK9.out Try.underlying99 rfl (by kernel_rfl)) rfl ?_
  exact ⟨v5, rfl, Kd.R_grown1 HO5.out rfl HG9.out (Kd.R_ne HO5.out BZ5.out (by decide)), pw_below_grown HB5.out _ HB5.out.size HG9.out (fun k hk => by cases hk; omega)⟩
end Go.Proofs.Ytdknolnoimpgeaa.K
namespace Go.Proofs.Ytdknolnoimpgeaa.K
open Go.RowKit Go.Proofs.YtdknolnoimpgeaaW.PrintWords Go.Proofs.YtdknolnoimpgeaaW.PrintLast Go.Proofs.YtdknolnoimpgeaaW.PrintMore
set_option linter.unusedVariables false
set_option linter.unusedSimpArgs false
/-- The sectors behind the first m waiting writes. -/
def layR (r : RefS) : Nat → List Sl
  | 0 => r.safe
  | m + 1 => match r.wait[m]? with
    | some q => (layR r m).set q.at_.toNat q.s
    | none => layR r m
theorem layR_length (r : RefS) : ∀ m, (layR r m).length = r.safe.length
  | 0 => rfl
  | m + 1 => by
    unfold layR
    split
    · rw [List.length_set]; exact layR_length r m
    · exact layR_length r m
theorem layR_mem {r : RefS} {x : Sl} : ∀ m, x ∈ layR r m → x ∈ r.safe ∨ ∃ q ∈ r.wait, x = q.s
  | 0, h => .inl h
  | m + 1, h => by
    unfold layR at h
    split at h
    · rename_i q hq
      rcases List.mem_or_eq_of_mem_set h with h | h
      · exact layR_mem m h
      · exact .inr ⟨q, List.mem_of_getElem? hq, h⟩
    · exact layR_mem m h
def flushR (r : RefS) : RefS := { r with safe := layR r r.wait.length, wait := [], left := left2 r.left, fl := r.fl + 1 }
set_option maxHeartbeats 8000000 in
set_option maxRecDepth 100000 in
theorem refGoFlush (base : Nat) (r : RefS) (vs vw : Value) (at_ : Int) (Ab : Option Addr) (nb cb : Nat) (Ak : Option Addr) (nk ck : Nat) (w : World) (h : RefD base w r vs vw) (hbase : base ≤ w.heap.size) {k : Nat} (hwf : RefWf r k) (hk : k ≤ 1000000) (hs : r.safe.length ≤ 1000000)
    (ho : r.off = false) (hl : r.left ≠ 0) :
    Calls Try.prog 85 #[.agg (refA r vs vw), .agg #[.int .i64 2, .int .i64 at_, .slice Ab nb cb, .slice Ak nk ck]] w fun e w' => ∃ vs' vw', e = .returned (.tuple #[.agg (refA (flushR r) vs' vw'), .slice none 0 0, .int .i64 0]) ∧ RefD base w' (flushR r) vs' vw' ∧ Below w.heap.size w w' := by
  obtain ⟨As, cs, rfl, hfs⟩ := h.fs
  obtain ⟨Aw, cw, rfl, hfw⟩ := h.fw
  have HES := Aside0.mk h.es
  have HEW := Aside0.mk h.ew
  have HFS := Aside0.mk hfs
  have HFW := Aside0.mk hfw
  have HWF := Aside0.mk hwf
  have HSS := Aside0.mk hs
  have HBS := Aside0.mk hbase
  have hwl := hwf.wl
  have hfl0 := hwf.f0
  have hfl1 := hwf.f1
  have hll0 := hwf.l0
  have hll1 := hwf.l1
  obtain ⟨safe, wait, left, wq, fl, off⟩ := r
  simp only at ho hl hwl hfl0 hfl1 hll0 hll1
  subst ho
  obtain ⟨ns, hns⟩ : ∃ n, n = safe.length := ⟨_, rfl⟩
  obtain ⟨nw, hnw⟩ : ∃ n, n = wait.length := ⟨_, rfl⟩
  have HNS := Aside0.mk hns
  have HNW := Aside0.mk hnw
  simp only [← hns, ← hnw]
  obtain ⟨r, hr⟩ : ∃ r : RefS, r = ⟨safe, wait, left, wq, fl, false⟩ := ⟨_, rfl⟩
  have HRR := Aside0.mk hr
  rw [← hr]
  rw [show refA r (.slice As ns cs) (.slice Aw nw cw) = #[.slice As ns cs, .slice Aw nw cw, .int .i64 left, .int .i64 wq, .int .i64 fl, .bool false] by rw [hr]]
  obtain ⟨w3, hw3⟩ : ∃ w3, w3 = ((w.alloc (.cells #[.slice As ns cs, .slice Aw nw cw, .int .i64 left, .int .i64 wq, .int .i64 fl, .bool false] TRD)).alloc (.cells #[.int .i64 2, .int .i64 at_, .slice Ab nb cb, .slice Ak nk ck] 103)).alloc (.cells #[.slice none 0 0, .slice none 0 0, .int .i64 0, .int .i64 0, .int .i64 0, .bool false] TRD) := ⟨_, rfl⟩
  have hb3 : Below w.heap.size w w3 := by rw [hw3]; exact below_alloc (below_alloc (below_alloc (Below.refl _ _) _) _) _
  have HB3 := Aside0.mk hb3
  have HSZ : Aside0 (w3.heap.size = w.heap.size + 1 + 1 + 1) := ⟨by rw [hw3]; simp⟩
  have BD : Aside0 (w3.heap[w.heap.size]? = some (.cells #[.slice As ns cs, .slice Aw nw cw, .int .i64 left, .int .i64 wq, .int .i64 fl, .bool false] TRD (0, 0))) := ⟨by rw [hw3]; exact blk_alloc (blk_alloc (heap_alloc_new _ _) _) _⟩
  have BS : Aside0 (w3.heap[w.heap.size + 1]? = some (.cells #[.int .i64 2, .int .i64 at_, .slice Ab nb cb, .slice Ak nk ck] 103 (0, 0))) := ⟨by rw [hw3]; exact blk_alloc (heap_at2 (by simp)) _⟩
  have BZ : Aside0 (w3.heap[w.heap.size + 1 + 1]? = some (.cells #[.slice none 0 0, .slice none 0 0, .int .i64 0, .int .i64 0, .int .i64 0, .bool false] TRD (0, 0))) := ⟨by rw [hw3]; exact heap_at2 (by simp)⟩
  have HW3 := Aside0.mk hw3
  clear hb3 hw3
  have WB := Aside0.mk (refBurn_yes As ns cs Aw nw cw left wq fl w3 (by omega) hll1 hl)
  rw [HW3.out] at WB
  have hnw6 : nw ≤ 1000000 := by omega
  have hfl9 : RowKit.wrap64 (fl + 1) = fl + 1 := by unfold RowKit.wrap64; omega
  clear h hfs hfw hwf hs hbase hwl hfl0 hfl1 hll0 hll1 hns hnw hr hl hk
  go_enter Try.func85, Try.ntmps85
  go_wp2_with (first | fail | (go_at_call 130; go_loud (with_reducible refine WB.out.mono ?_); go_loud (rintro e w5 ⟨rfl, hb⟩; rw [← HW3.out] at hb; have HL5 := Aside0.mk hb; have BD5 := Aside0.mk (blk_below BD.out hb); have BS5 := Aside0.mk (blk_below BS.out hb); have BZ5 := Aside0.mk (blk_below BZ.out hb); have HB5 := Aside0.mk (below_step HB3.out hb); have s0 := (blk_cell BS5.out 0).trans rfl; have s1 := (blk_cell BS5.out 1).trans rfl; have s2 := (blk_cell BS5.out 2).trans rfl; clear hb)) | ((with_reducible refine gate_store (p := 2) rfl ?_); go_loud (refine wpList_store_rowL rfl rfl TRD (.tmp 2) (.tmp 70) rfl (w.heap.size) #[.slice As ns cs, .slice Aw nw cw, .int .i64 (left2 left), .int .i64 wq, .int .i64 fl, .bool false] rfl rfl TRD #[.slice As ns cs, .slice Aw nw cw, .int .i64 left, .int .i64 wq, .int .i64 fl, .bool false] (BD5.out) (by kernel_rfl) rfl (by simp [Value.oneCell']) ?_; intro w6 bk_ hg_; have BD6 := Aside0.mk bk_; have BS6 : Aside0 (w6.heap[w.heap.size + 1]? = some (.cells #[.int .i64 2, .int .i64 at_, .slice Ab nb cb, .slice Ak nk ck] 103 (0, 0))) := ⟨(hg_.block (w.heap.size + 1) (Nat.lt_of_lt_of_le (by rw [HSZ.out]; omega) HL5.out.size) (by simp)).trans BS5.out⟩; have BZ6 : Aside0 (w6.heap[w.heap.size + 1 + 1]? = some (.cells #[.slice none 0 0, .slice none 0 0, .int .i64 0, .int .i64 0, .int .i64 0, .bool false] TRD (0, 0))) := ⟨(hg_.block (w.heap.size + 1 + 1) (Nat.lt_of_lt_of_le (by rw [HSZ.out]; omega) HL5.out.size) (by simp; omega)).trans BZ5.out⟩; have HG6 := Aside0.mk hg_; have HB6 := Aside0.mk (pw_below_grown HB5.out _ HB5.out.size hg_ (fun k hk => by cases hk; exact Nat.le_refl _)); clear hg_; have y0 := (blk_cell BD6.out 0).trans rfl; have y1 := (blk_cell BD6.out 1).trans rfl; have y2 := (blk_cell BD6.out 2).trans rfl; have y3 := (blk_cell BD6.out 3).trans rfl; have y4 := (blk_cell BD6.out 4).trans rfl; have y5 := (blk_cell BD6.out 5).trans rfl; have t0 := (blk_cell BS6.out 0).trans rfl; have t1 := (blk_cell BS6.out 1).trans rfl; have t2 := (blk_cell BS6.out 2).trans rfl; clear BD5 BS5 BZ5)))
  clear y0 y1 y2 y3 y4 y5 t0 t1 t2 s0 s1 s2
  go_loopw [8] (fun v8 w' => ∃ (m : Nat) (A' : Option Addr) (c' : Nat), v8 = .int .i64 m ∧ Aside0 (m ≤ nw) ∧ Aside0 (Keeps kSl base w' A' (layR r m)) ∧ Aside0 (w'.heap[w.heap.size]? = some (.cells #[.slice A' ns c', .slice Aw nw cw, .int .i64 (left2 left), .int .i64 wq, .int .i64 fl, .bool false] TRD (0, 0))) ∧ Aside0 (w'.heap[w.heap.size + 1]? = some (.cells #[.int .i64 2, .int .i64 at_, .slice Ab nb cb, .slice Ak nk ck] 103 (0, 0))) ∧ Aside0 (w'.heap[w.heap.size + 1 + 1]? = some (.cells #[.slice none 0 0, .slice none 0 0, .int .i64 0, .int .i64 0, .int .i64 0, .bool false] TRD (0, 0))) ∧ Aside0 (Below w.heap.size w w')) (fun i _ => nw - (intOf i).toNat)
  case atStart =>
    refine ⟨0, As, cs, rfl, ⟨Nat.zero_le _⟩, ⟨?_⟩, BD6, BS6, BZ6, HB6⟩
    have h := HFS.out.below HBS.out HB6.out
    rw [HRR.out]
    exact h
  case round =>
    clear HB6 BD6 BS6 BZ6
    obtain ⟨m, A', c', rfl, hm, HS, BD, BS, BZ, HB⟩ := hrel
    have hm' := hm.out
    have y0 := (blk_cell BD.out 0).trans rfl
    have y1 := (blk_cell BD.out 1).trans rfl
    by_cases hlt : m < nw
    · have hml : m < wait.length := by rw [← HNW.out]; exact hlt
      have HSN : Aside0 (layR r (m + 1) = (layR r m).set wait[m].at_.toNat wait[m].s) := ⟨by rw [layR, HRR.out]; simp only; rw [List.getElem?_eq_getElem hml]⟩
      have hxat := by have h_ := HWF.out.at_; exact h_ wait[m] (List.getElem_mem hml)
      obtain ⟨ad, rfl, hx, hxs⟩ := Kd.at_flatA (Kd.C_below HFW.out.now HB.out) hml
      obtain ⟨x, hxx⟩ : ∃ x, x = wait[m] := ⟨_, rfl⟩
      rw [← hxx] at hx hxs hxat HSN
      simp only at hxat
      have hrl : (layR r m).length = ns := by rw [layR_length, HRR.out]; exact HNS.out.symm
      have WL : Aside0 (∀ W, Keeps kSl base W A' (layR r m) → _) := ⟨fun W hK => refLay_walk base A' c' (layR r m) x.at_ x.s.A x.s.c x.s.l W hK hxat.1 (by rw [hrl, HNS.out]; exact hxat.2) (by rw [hrl, HNS.out]; exact HSS.out)⟩
      rw [hrl] at WL
      obtain ⟨xa, hxa⟩ : ∃ xa, xa = x.at_ := ⟨_, rfl⟩
      obtain ⟨xn, hxn⟩ : ∃ xn, xn = x.s.l.length := ⟨_, rfl⟩
      rw [← hxa, ← hxn] at WL
      rw [← hxa] at HSN
      have HX0 : Aside0 (wr.cell? (ad.add (m * 2)) = some (.int .i64 xa)) := ⟨by rw [hxa]; exact hx _ rfl⟩
      have HX1 : Aside0 (wr.cell? ⟨(ad.add (m * 2)).block, (ad.add (m * 2)).off + (0 + 1), none⟩ = some (.slice x.s.A xn x.s.c)) := ⟨by rw [hxn]; exact hxs 0 _ rfl⟩
      have HWB : Aside0 (base ≤ wr.heap.size) := ⟨Nat.le_trans HBS.out HB.out.size⟩
      clear hx hxs hxx hml hxat hrl hxa hxn
      go_wp2
      refine start_ (n := 10) (S := fun w' => w'.cell? ⟨w.heap.size, 0, none⟩ = some (.slice A' ns c') ∧ w'.cell? ⟨w.heap.size, 1, none⟩ = some (.slice (some ad) nw cw) ∧ w'.cell? (ad.add (m * 2)) = some (.int .i64 xa) ∧ w'.cell? ⟨(ad.add (m * 2)).block, (ad.add (m * 2)).off + (0 + 1), none⟩ = some (.slice x.s.A xn x.s.c)) (ds := [9]) #[false, false, false, false, false, false, false, false, false, false] (by kernel_rfl) rfl rfl ⟨((blk_cell (blk_drew BD.out) 0).trans rfl), ((blk_cell (blk_drew BD.out) 1).trans rfl), HX0.out, HX1.out⟩ (fun hHeld => ?_)
      refine pure_ (i := 0) (N := some 104) (v := ?_) (a' := ?_) #[true, false, false, false, false, false, false, false, false, false] rfl rfl (by kernel_rfl) (fun _ _ _ h => h) (Or.inl ⟨by rfl, ?_⟩) ?_ ?_
      rotate_left
      · intro w'
        go_simp
        with_reducible rfl
      rotate_left
      · simp only [Act.put, List.setIfInBounds_toArray, List.set_cons_zero, List.set_cons_succ, i64_w, i32_w]
        rfl
      refine pure_ (i := 2) (N := some 106) (v := ?_) (a' := ?_) #[true, false, true, false, false, false, false, false, false, false] rfl rfl (by kernel_rfl) (fun _ _ _ h => h) (Or.inl ⟨by rfl, ?_⟩) ?_ ?_
      rotate_left
      · intro w'
        go_simp
        with_reducible rfl
      rotate_left
      · simp only [Act.put, List.setIfInBounds_toArray, List.set_cons_zero, List.set_cons_succ, i64_w, i32_w]
        rfl
      refine pure_ (i := 4) (N := some 108) (v := ?_) (a' := ?_) #[true, false, true, false, true, false, false, false, false, false] rfl rfl (by kernel_rfl) (fun _ _ _ h => h) (Or.inl ⟨by rfl, ?_⟩) ?_ ?_
      rotate_left
      · intro w'
        go_simp
        with_reducible rfl
      rotate_left
      · simp only [Act.put, List.setIfInBounds_toArray, List.set_cons_zero, List.set_cons_succ, i64_w, i32_w]
        rfl
      refine take_ (i := 1) (N := some 105) (v := ?_) (a' := ?_) #[true, true, true, false, true, false, false, false, false, false] rfl rfl (by kernel_rfl) (fun _ _ _ h => h) (Or.inl ⟨by rfl, ?_⟩) hHeld ?_ ?_
      rotate_left
      · rintro w' ⟨s0, s1, s2, s3⟩
        go_simp
        with_reducible rfl
      rotate_left
      · simp only [Act.put, List.setIfInBounds_toArray, List.set_cons_zero, List.set_cons_succ, i64_w, i32_w]
        rfl
      refine take_ (i := 3) (N := some 107) (v := ?_) (a' := ?_) #[true, true, true, true, true, false, false, false, false, false] rfl rfl (by kernel_rfl) (fun _ _ _ h => h) (Or.inl ⟨by rfl, ?_⟩) hHeld ?_ ?_
      rotate_left
      · rintro w' ⟨s0, s1, s2, s3⟩
        go_simp
        with_reducible rfl
      rotate_left
      · simp only [Act.put, List.setIfInBounds_toArray, List.set_cons_zero, List.set_cons_succ, i64_w, i32_w]
        rfl
      refine pure_ (i := 5) (N := some 109) (v := ?_) (a' := ?_) #[true, true, true, true, true, true, false, false, false, false] rfl rfl (by kernel_rfl) (fun _ _ _ h => h) (Or.inl ⟨by rfl, ?_⟩) ?_ ?_
      rotate_left
      · intro w'
        go_simp
        with_reducible rfl
      rotate_left
      · simp only [Act.put, List.setIfInBounds_toArray, List.set_cons_zero, List.set_cons_succ, i64_w, i32_w]
        rfl
      refine take_ (i := 6) (N := some 110) (v := ?_) (a' := ?_) #[true, true, true, true, true, true, true, false, false, false] rfl rfl (by kernel_rfl) (fun _ _ _ h => h) (Or.inl ⟨by rfl, ?_⟩) hHeld ?_ ?_
      rotate_left
      · rintro w' ⟨s0, s1, s2, s3⟩
        go_simp
        with_reducible rfl
      rotate_left
      · simp only [Act.put, List.setIfInBounds_toArray, List.set_cons_zero, List.set_cons_succ, i64_w, i32_w]
        rfl
      refine one_ (i := 7) (N := some 111) #[true, true, true, true, true, true, true, true, false, false] rfl rfl (by kernel_rfl) (by decide) (fun K hK => ?_)
      clear hHeld
      refine goes_ Try.func131 (by kernel_rfl) rfl #[.slice A' ns c', .agg #[.int .i64 xa, .slice x.s.A xn x.s.c]] (by rfl) rfl rfl (by simp only [List.map_toArray, List.map_cons, List.map_nil]; rfl) ?_
      with_reducible refine ((WL.out wr.drew (HS.out.below HWB.out (below_drew1 (Below.refl _ _))))).mono ?_
      rintro e w5 ⟨A5, c5, rfl, hK, hb⟩
      refine ⟨_, rfl, ?_⟩
      have K5 := Aside0.mk hK
      have BD5 := Aside0.mk (blk_below (blk_drew BD.out) hb)
      have BS5 := Aside0.mk (blk_below (blk_drew BS.out) hb)
      have BZ5 := Aside0.mk (blk_below (blk_drew BZ.out) hb)
      have HB5 := Aside0.mk (below_step (below_drew1 HB.out) hb)
      have q0 := pw_cell_below hb (show wr.drew.cell? _ = _ from HX0.out)
      have q1 := pw_cell_below hb (show wr.drew.cell? _ = _ from HX1.out)
      clear hK hb BD BS BZ HB HS HX0 HX1
      have c9 : w5.cell? ⟨w.heap.size, 0, none⟩ = some (.slice A' ns c') := (blk_cell BD5.out 0).trans rfl
      have f9 := blk_frozen BD5.out 0
      refine hK.out _ _ ⟨((blk_cell BD5.out 0).trans rfl), ((blk_cell BD5.out 1).trans rfl), q0, q1⟩ (fun hHeld => ?_)
      clear hK K
      refine norm_ (a' := ?_) ?_ ?_
      rotate_left
      · show Act.put _ (some 111) _ = _
        simp only [Act.put, List.setIfInBounds_toArray, List.set_cons_zero, List.set_cons_succ, i64_w, i32_w]
        rfl
      refine pure_ (i := 8) (N := some 112) (v := ?_) (a' := ?_) #[true, true, true, true, true, true, true, true, true, false] rfl rfl (by kernel_rfl) (fun _ _ _ h => h) (Or.inl ⟨by rfl, ?_⟩) ?_ ?_
      rotate_left
      · intro w'
        go_simp
        with_reducible rfl
      rotate_left
      · simp only [Act.put, List.setIfInBounds_toArray, List.set_cons_zero, List.set_cons_succ, i64_w, i32_w]
        rfl
      refine last_ (i := 9) (N := none) #[true, true, true, true, true, true, true, true, true, true] rfl rfl (by kernel_rfl) (by decide) (fun K hK => ?_)
      clear q0 q1
      refine skip_ (w1 := ?_) (by rfl) rfl ?_ ?_
      rotate_left
      · go_simp
        rfl
      refine hK.out _ _ ?_
      clear hK K
      refine done_ (by kernel_rfl) ?_
      go_wp2
      have hF5 : DFr2 base w5 (w5.setCell ⟨w.heap.size, 0, none⟩ (.slice A5 ns c5)) := DFr2.set HBS.out BD5.out (by decide) _
      exact ⟨⟨m + 1, A5, c5, rfl, ⟨by omega⟩, ⟨by rw [HSN.out]; exact K5.out.step hF5⟩, ⟨blk_set BD5.out 0 _⟩, ⟨(Below.heap_setCell w5 ⟨w.heap.size, 0, none⟩ _ (w.heap.size + 1) (by show w.heap.size + 1 ≠ w.heap.size; omega)).trans BS5.out⟩, ⟨(Below.heap_setCell w5 ⟨w.heap.size, 0, none⟩ _ (w.heap.size + 1 + 1) (by show w.heap.size + 1 + 1 ≠ w.heap.size; omega)).trans BZ5.out⟩, ⟨below_set HB5.out (Nat.le_refl _)⟩⟩, by simp [intOf]; omega⟩
    · have hmn : m = nw := by omega
      subst hmn
      have y2 := (blk_cell BD.out 2).trans rfl
      have y3 := (blk_cell BD.out 3).trans rfl
      have y4 := (blk_cell BD.out 4).trans rfl
      have y5 := (blk_cell BD.out 5).trans rfl
      have f1 := blk_frozen BD.out 1
      have f4 := blk_frozen BD.out 4
      have hF1 : Aside0 (DFr2 base wr ((wr.setCell ⟨w.heap.size, 1, none⟩ (.slice none 0 0)).setCell ⟨w.heap.size, 4, none⟩ (.int .i64 (fl + 1)))) := ⟨(DFr2.set HBS.out BD.out (by decide) _).trans (DFr2.set HBS.out (blk_set BD.out 1 _) (by decide) _)⟩
      clear hlt
      go_wp2_with ((with_reducible refine gate_store (p := 4) rfl ?_); go_loud (refine wpList_store_rowL rfl rfl TRD (.tmp 4) (.tmp 118) rfl (w.heap.size + 1 + 1) #[.slice A' ns c', .slice none 0 0, .int .i64 (left2 left), .int .i64 wq, .int .i64 (fl + 1), .bool false] rfl rfl TRD #[.slice none 0 0, .slice none 0 0, .int .i64 0, .int .i64 0, .int .i64 0, .bool false] ((by rw [Below.heap_setCell _ _ _ _ (by show w.heap.size + 1 + 1 ≠ w.heap.size; omega), Below.heap_setCell _ _ _ _ (by show w.heap.size + 1 + 1 ≠ w.heap.size; omega)]; exact BZ.out)) (by kernel_rfl) rfl (by simp [Value.oneCell']) ?_; intro w9 bk_ hg_))
      have hW : base ≤ wr.heap.size := Nat.le_trans HBS.out HB.out.size
      have hB2 : Below w.heap.size w ((wr.setCell ⟨w.heap.size, 1, none⟩ (.slice none 0 0)).setCell ⟨w.heap.size, 4, none⟩ (.int .i64 (fl + 1))) := below_set (below_set HB.out (Nat.le_refl _)) (Nat.le_refl _)
      have HBf := pw_below_grown hB2 _ hB2.size hg_ (fun k hk => by cases hk; omega)
      have hF2 : DFr2 base ((wr.setCell ⟨w.heap.size, 1, none⟩ (.slice none 0 0)).setCell ⟨w.heap.size, 4, none⟩ (.int .i64 (fl + 1))) w9 := DFr2.grown (Nat.le_trans HBS.out hB2.size) hg_ (fun k hk => by cases hk; exact ⟨by have := HBS.out; omega, _, _, by rw [Below.heap_setCell _ _ _ _ (by show w.heap.size + 1 + 1 ≠ w.heap.size; omega), Below.heap_setCell _ _ _ _ (by show w.heap.size + 1 + 1 ≠ w.heap.size; omega)]; exact BZ.out, by decide⟩)
      have hF := hF1.out.trans hF2
      have hF0 : DFr2 base w w9 := (DFr2.of_below HBS.out HB.out).trans hF
      refine bodyPost_ret (resRow3 rfl _ _ (w.heap.size + 1 + 1) TRD #[.slice A' ns c', .slice none 0 0, .int .i64 (left2 left), .int .i64 wq, .int .i64 (fl + 1), .bool false] (0, 0) _ (.slice none 0 0) (.int .i64 0) rfl rfl rfl bk_ Try.underlying99 rfl (by kernel_rfl)) rfl ?_
      have hl : (flushR r).safe = layR r m := by rw [HRR.out]; simp only [flushR]; rw [← HNW.out]
      refine ⟨.slice A' ns c', .slice none 0 0, by rw [HRR.out]; rfl, ⟨⟨A', c', ?_, ?_⟩, ⟨none, 0, rfl, fun W' _ => Kd.C_nil _ _⟩, ?_, fun q hq => by cases hq⟩, HBf⟩
      · rw [hl, layR_length, HRR.out]; simp only; rw [← HNS.out]
      · rw [hl]; exact HS.out.step hF
      · intro x hx
        rw [hl] at hx
        rcases layR_mem _ hx with hx | ⟨q, hq, rfl⟩
        · exact (HES.out x (by rw [HRR.out] at hx; exact hx)).step hF0
        · exact (HEW.out q (by rw [HRR.out] at hq; exact hq)).step hF0
end Go.Proofs.Ytdknolnoimpgeaa.K
namespace Go.Proofs.Ytdknolnoimpgeaa.K
open Go.RowKit Go.Proofs.YtdknolnoimpgeaaW.PrintWords Go.Proofs.YtdknolnoimpgeaaW.PrintLast Go.Proofs.YtdknolnoimpgeaaW.PrintMore
set_option linter.unusedVariables false
set_option linter.unusedSimpArgs false
theorem R_emptyF (W : World) : Kd.R kRP TRP (W.alloc (.cells #[] TRP)) W.heap.size (fun _ => True) (.slice (some ⟨W.heap.size, 0, none⟩) 0 0) [] :=
  ⟨fun _ _ => trivial, [], ⟨rfl, .inr ⟨W.heap.size, 0, #[], rfl, Nat.le_refl _, heap_alloc_new _ _, Nat.zero_le _, by decide, rfl, rfl⟩⟩, rfl, fun j p hp => by simp at hp⟩
theorem exec_empty {P : Program} {o : Oper} {a : Act} {t e : TypeId} (ho : o.op = .buildSlice t 0 #[]) (hu : P.underlying t = some (.slice e)) (hi : (P.info? e).isSome = true) (W : World) :
    (execOp a.eval o).run P W = .ok (.value (.slice (some ⟨W.heap.size, 0, none⟩) 0 0)) (W.alloc (.cells #[] e)) := by
  obtain ⟨i, hi⟩ := Option.isSome_iff_exists.1 hi
  simp [execOp, ho, Instr.buildSlice, run_underlying hu, sizeOf, typeInfo, hi, Instr.fill, newRow, Result.andThen, show Array.range 0 = #[] from rfl]
/-- Rows of elements of two types are apart. -/
theorem R_typed_ne {α β : Type} {d : Kd α} {d' : Kd β} {e e' b b' : Nat} {W : World} {ok ok' : Nat → Prop} {v u : Value} {xs : List α} {ys : List β} (h : d.R e W b ok v xs) (h' : d'.R e' W b' ok' u ys) (_hE : d.E = []) (ht : e' ≠ e) : ∀ k, v.ownBlock = some k → some k ≠ u.ownBlock := fun k hk => by
  obtain ⟨inner, ho⟩ := Kd.R_own h
  obtain ⟨cells, hc⟩ := own_typed ho k hk
  exact Kd.R_ne h' hc ht
set_option maxHeartbeats 8000000 in
set_option maxRecDepth 100000 in
theorem refGoWrite (base : Nat) (r : RefS) (vs vw : Value) (at_ : Int) (Ab : Option Addr) (lb : List Int) (cb : Nat) (Ak : Option Addr) (nk ck : Nat) (w : World) (h : RefD base w r vs vw) (hbase : base ≤ w.heap.size) {k : Nat} (hwf : RefWf r k) (hk : k ≤ 1000000) (hb : Kd.C (Kd.int .u8) w Ab lb.length lb)
    (ho : r.off = false) (hl : r.left ≠ 0) (h0 : 0 ≤ at_) (h1 : at_ < r.safe.length) (h64 : lb.length = 64) :
    Calls Try.prog 85 #[.agg (refA r vs vw), .agg #[.int .i64 1, .int .i64 at_, .slice Ab lb.length cb, .slice Ak nk ck]] w fun e w' => ∃ (A8 : Option Addr) (c8 : Nat) (vw' : Value), e = .returned (.tuple #[.agg (refA { r with wait := r.wait ++ [⟨at_, ⟨A8, c8, lb⟩⟩], left := left2 r.left, wr := r.wr + 1 } vs vw'), .slice none 0 0, .int .i64 0]) ∧ RefD base w' { r with wait := r.wait ++ [⟨at_, ⟨A8, c8, lb⟩⟩], left := left2 r.left, wr := r.wr + 1 } vs vw' ∧ Below w.heap.size w w' := by
  obtain ⟨As, cs, rfl, hfs⟩ := h.fs
  obtain ⟨Aw, cw, rfl, hfw⟩ := h.fw
  have HES := Aside0.mk h.es
  have HEW := Aside0.mk h.ew
  have HFS := Aside0.mk hfs
  have HWF := Aside0.mk hwf
  have HBS := Aside0.mk hbase
  have hwl := hwf.wl
  have hw0 := hwf.w0
  have hw1 := hwf.w1
  have hll0 := hwf.l0
  have hll1 := hwf.l1
  obtain ⟨safe, wait, left, wq, fl, off⟩ := r
  simp only at ho hl hwl hw0 hw1 hll0 hll1 h1 hfw
  subst ho
  obtain ⟨ns, hns⟩ : ∃ n, n = safe.length := ⟨_, rfl⟩
  obtain ⟨nw, hnw⟩ : ∃ n, n = wait.length := ⟨_, rfl⟩
  obtain ⟨nb, hnb⟩ : ∃ n, n = lb.length := ⟨_, rfl⟩
  have HNS := Aside0.mk hns
  have HNW := Aside0.mk hnw
  have HNB := Aside0.mk hnb
  have HLB : Aside0 (Kd.C (Kd.int .u8) w Ab nb lb) := ⟨by rw [hnb]; exact hb⟩
  have HFWn : Aside0 (Kd.C kRP w Aw nw wait) := ⟨by rw [hnw]; exact hfw.now⟩
  have HLIMw : Aside0 ((([] : List RP).length + nw) * 32 ≤ 140737488355328) := ⟨by simp; omega⟩
  have HLIMb : Aside0 ((([] : List Int).length + nb) * 1 ≤ 140737488355328) := ⟨by simp; omega⟩
  have HLIMp : Aside0 ((wait.length + 1) * 32 ≤ 140737488355328) := ⟨by omega⟩
  simp only [← hns, ← hnw, ← hnb]
  obtain ⟨w3, hw3⟩ : ∃ w3, w3 = ((w.alloc (.cells #[.slice As ns cs, .slice Aw nw cw, .int .i64 left, .int .i64 wq, .int .i64 fl, .bool false] TRD)).alloc (.cells #[.int .i64 1, .int .i64 at_, .slice Ab nb cb, .slice Ak nk ck] 103)).alloc (.cells #[.slice none 0 0, .slice none 0 0, .int .i64 0, .int .i64 0, .int .i64 0, .bool false] TRD) := ⟨_, rfl⟩
  have hb3 : Below w.heap.size w w3 := by rw [hw3]; exact below_alloc (below_alloc (below_alloc (Below.refl _ _) _) _) _
  have HB3 := Aside0.mk hb3
  have HSZ : Aside0 (w3.heap.size = w.heap.size + 1 + 1 + 1) := ⟨by rw [hw3]; simp⟩
  have BD : Aside0 (w3.heap[w.heap.size]? = some (.cells #[.slice As ns cs, .slice Aw nw cw, .int .i64 left, .int .i64 wq, .int .i64 fl, .bool false] TRD (0, 0))) := ⟨by rw [hw3]; exact blk_alloc (blk_alloc (heap_alloc_new _ _) _) _⟩
  have BS : Aside0 (w3.heap[w.heap.size + 1]? = some (.cells #[.int .i64 1, .int .i64 at_, .slice Ab nb cb, .slice Ak nk ck] 103 (0, 0))) := ⟨by rw [hw3]; exact blk_alloc (heap_at2 (by simp)) _⟩
  have BZ : Aside0 (w3.heap[w.heap.size + 1 + 1]? = some (.cells #[.slice none 0 0, .slice none 0 0, .int .i64 0, .int .i64 0, .int .i64 0, .bool false] TRD (0, 0))) := ⟨by rw [hw3]; exact heap_at2 (by simp)⟩
  have HW3 := Aside0.mk hw3
  clear hb3 hw3
  have WB := Aside0.mk (refBurn_yes As ns cs Aw nw cw left wq fl w3 (by omega) hll1 hl)
  rw [HW3.out] at WB
  have hwq9 : RowKit.wrap64 (wq + 1) = wq + 1 := by unfold RowKit.wrap64; omega
  have n0 : ¬ at_ < 0 := by omega
  have n1 : ¬ (ns : Int) ≤ at_ := by omega
  have n2 : ((nb : Int) != 64) = false := by simp; omega
  clear h hfs hfw hwf hbase hwl hw0 hw1 hll0 hll1 hns hnw hl hk hb h64 h0 h1 hnb
  go_enter Try.func85, Try.ntmps85
  go_wp2_with (first | fail | (go_at_call 130; go_loud (with_reducible refine WB.out.mono ?_); go_loud (rintro e w5 ⟨rfl, hb⟩; rw [← HW3.out] at hb; have HL5 := Aside0.mk hb; have BD5 := Aside0.mk (blk_below BD.out hb); have BS5 := Aside0.mk (blk_below BS.out hb); have BZ5 := Aside0.mk (blk_below BZ.out hb); have HB5 := Aside0.mk (below_step HB3.out hb); have s0 := (blk_cell BS5.out 0).trans rfl; have s1 := (blk_cell BS5.out 1).trans rfl; have s2 := (blk_cell BS5.out 2).trans rfl; clear hb)) | ((with_reducible refine gate_store (p := 2) rfl ?_); go_loud (refine wpList_store_rowL rfl rfl TRD (.tmp 2) (.tmp 70) rfl (w.heap.size) #[.slice As ns cs, .slice Aw nw cw, .int .i64 (left2 left), .int .i64 wq, .int .i64 fl, .bool false] rfl rfl TRD #[.slice As ns cs, .slice Aw nw cw, .int .i64 left, .int .i64 wq, .int .i64 fl, .bool false] (BD5.out) (by kernel_rfl) rfl (by simp [Value.oneCell']) ?_; intro w6 bk_ hg_; have BD6 := Aside0.mk bk_; have BS6 : Aside0 (w6.heap[w.heap.size + 1]? = some (.cells #[.int .i64 1, .int .i64 at_, .slice Ab nb cb, .slice Ak nk ck] 103 (0, 0))) := ⟨(hg_.block (w.heap.size + 1) (Nat.lt_of_lt_of_le (by rw [HSZ.out]; omega) HL5.out.size) (by simp)).trans BS5.out⟩; have BZ6 : Aside0 (w6.heap[w.heap.size + 1 + 1]? = some (.cells #[.slice none 0 0, .slice none 0 0, .int .i64 0, .int .i64 0, .int .i64 0, .bool false] TRD (0, 0))) := ⟨(hg_.block (w.heap.size + 1 + 1) (Nat.lt_of_lt_of_le (by rw [HSZ.out]; omega) HL5.out.size) (by simp; omega)).trans BZ5.out⟩; have HG6 := Aside0.mk hg_; have HB6 := Aside0.mk (pw_below_grown HB5.out _ HB5.out.size hg_ (fun k hk => by cases hk; exact Nat.le_refl _)); clear hg_; have y0 := (blk_cell BD6.out 0).trans rfl; have y1 := (blk_cell BD6.out 1).trans rfl; have y2 := (blk_cell BD6.out 2).trans rfl; have y3 := (blk_cell BD6.out 3).trans rfl; have y4 := (blk_cell BD6.out 4).trans rfl; have y5 := (blk_cell BD6.out 5).trans rfl; have t0 := (blk_cell BS6.out 0).trans rfl; have t1 := (blk_cell BS6.out 1).trans rfl; have t2 := (blk_cell BS6.out 2).trans rfl; clear BD5 BS5 BZ5)))
  clear y0 y1 y2 y3 y4 y5 t0 t1 t2 s0 s1 s2
  refine start_ (n := 15) (S := fun w' => w'.cell? ⟨w.heap.size, 1, none⟩ = some (.slice Aw nw cw) ∧ w'.cell? ⟨w.heap.size + 1, 1, none⟩ = some (.int .i64 at_) ∧ w'.cell? ⟨w.heap.size + 1, 2, none⟩ = some (.slice Ab nb cb)) (ds := [12, 14]) #[false, false, false, false, false, false, false, false, false, false, false, false, false, false, false] (by kernel_rfl) rfl rfl ⟨((blk_cell (blk_below BD6.out (below_drew1 (Below.refl _ _))) 1).trans rfl), ((blk_cell (blk_below BS6.out (below_drew1 (Below.refl _ _))) 1).trans rfl), ((blk_cell (blk_below BS6.out (below_drew1 (Below.refl _ _))) 2).trans rfl)⟩ (fun hHeld => ?_)
  refine pure_ (i := 1) (N := some 79) (v := ?_) (a' := ?_) #[false, true, false, false, false, false, false, false, false, false, false, false, false, false, false] rfl rfl (by kernel_rfl) (fun _ _ _ h => h) (Or.inl ⟨by rfl, ?_⟩) ?_ ?_
  rotate_left
  · intro w'
    go_simp
    with_reducible rfl
  rotate_left
  · simp only [Act.put, List.setIfInBounds_toArray, List.set_cons_zero, List.set_cons_succ, i64_w, i32_w]
    rfl
  refine pure_ (i := 4) (N := some 82) (v := ?_) (a' := ?_) #[false, true, false, false, true, false, false, false, false, false, false, false, false, false, false] rfl rfl (by kernel_rfl) (fun _ _ _ h => h) (Or.inl ⟨by rfl, ?_⟩) ?_ ?_
  rotate_left
  · intro w'
    go_simp
    with_reducible rfl
  rotate_left
  · simp only [Act.put, List.setIfInBounds_toArray, List.set_cons_zero, List.set_cons_succ, i64_w, i32_w]
    rfl
  refine pure_ (i := 7) (N := some 85) (v := ?_) (a' := ?_) #[false, true, false, false, true, false, false, true, false, false, false, false, false, false, false] rfl rfl (by kernel_rfl) (fun _ _ _ h => h) (Or.inl ⟨by rfl, ?_⟩) ?_ ?_
  rotate_left
  · intro w'
    go_simp
    with_reducible rfl
  rotate_left
  · simp only [Act.put, List.setIfInBounds_toArray, List.set_cons_zero, List.set_cons_succ, i64_w, i32_w]
    rfl
  refine take_ (i := 2) (N := some 80) (v := ?_) (a' := ?_) #[false, true, true, false, true, false, false, true, false, false, false, false, false, false, false] rfl rfl (by kernel_rfl) (fun _ _ _ h => h) (Or.inl ⟨by rfl, ?_⟩) hHeld ?_ ?_
  rotate_left
  · rintro w' ⟨s0, s1, s2⟩
    go_simp
    with_reducible rfl
  rotate_left
  · simp only [Act.put, List.setIfInBounds_toArray, List.set_cons_zero, List.set_cons_succ, i64_w, i32_w]
    rfl
  refine take_ (i := 5) (N := some 83) (v := ?_) (a' := ?_) #[false, true, true, false, true, true, false, true, false, false, false, false, false, false, false] rfl rfl (by kernel_rfl) (fun _ _ _ h => h) (Or.inl ⟨by rfl, ?_⟩) hHeld ?_ ?_
  rotate_left
  · rintro w' ⟨s0, s1, s2⟩
    go_simp
    with_reducible rfl
  rotate_left
  · simp only [Act.put, List.setIfInBounds_toArray, List.set_cons_zero, List.set_cons_succ, i64_w, i32_w]
    rfl
  refine take_ (i := 8) (N := some 86) (v := ?_) (a' := ?_) #[false, true, true, false, true, true, false, true, true, false, false, false, false, false, false] rfl rfl (by kernel_rfl) (fun _ _ _ h => h) (Or.inl ⟨by rfl, ?_⟩) hHeld ?_ ?_
  rotate_left
  · rintro w' ⟨s0, s1, s2⟩
    go_simp
    with_reducible rfl
  rotate_left
  · simp only [Act.put, List.setIfInBounds_toArray, List.set_cons_zero, List.set_cons_succ, i64_w, i32_w]
    rfl
  refine join_ (σ := Nat × Nat × Option Addr × Nat) 6 #[true, true, true, true, true, true, true, true, true, false, false, false, false, false, false] (fun s => [(78, .slice (some ⟨s.1, 0, none⟩) 0 0), (84, .slice (some ⟨s.2.1, 0, none⟩) 0 0), (81, .slice s.2.2.1 nw s.2.2.2)]) (fun s w' => Below w6.heap.size w6 w' ∧ Kd.R (Kd.int .u8) 5 w' w6.heap.size (fun _ => True) (.slice (some ⟨s.2.1, 0, none⟩) 0 0) [] ∧ Kd.R kRP TRP w' w6.heap.size (fun _ => True) (.slice s.2.2.1 nw s.2.2.2) wait) ?_ ?_
  rotate_left
  · intro hCont
    refine two_ (i := 0) (j := 6) (Ni := some 78) (Nj := some 84) #[true, true, true, false, true, true, false, true, true, false, false, false, false, false, false] #[false, true, true, false, true, true, true, true, true, false, false, false, false, false, false] rfl rfl rfl rfl (by kernel_rfl) (by decide) (by decide) (fun K hK => ?_) (fun K hK => ?_)
    · skip
      clear hHeld
      obtain ⟨wx0, hwx⟩ : ∃ x, x = w6.drew.alloc (.cells #[] TRP) := ⟨_, rfl⟩
      obtain ⟨g78, hg78⟩ : ∃ x, x = w6.drew.heap.size := ⟨_, rfl⟩
      have HBwx0 : Aside0 (Below w6.heap.size w6 wx0) := ⟨by rw [hwx]; exact below_alloc (below_drew1 (Below.refl w6.heap.size w6)) _⟩
      have Hg78 : Aside0 (Kd.R kRP TRP wx0 w6.heap.size (fun _ => True) (.slice (some ⟨g78, 0, none⟩) 0 0) []) := ⟨by rw [hwx, hg78]; exact Kd.R_lower (R_emptyF _) ((below_drew1 (Below.refl w6.heap.size w6))).size⟩
      refine value_ (w1 := wx0) (v := .slice (some ⟨g78, 0, none⟩) 0 0) (by rfl) rfl ?_ ?_
      · rw [hwx, hg78]; exact exec_empty rfl Try.underlying97 (by kernel_rfl) w6.drew
      clear hwx hg78
      refine hK.out _ _ ⟨((blk_cell (blk_below BD6.out HBwx0.out) 1).trans rfl), ((blk_cell (blk_below BS6.out HBwx0.out) 1).trans rfl), ((blk_cell (blk_below BS6.out HBwx0.out) 2).trans rfl)⟩ (fun hHeld => ?_)
      clear hK K
      refine norm_ (a' := ?_) ?_ ?_
      rotate_left
      · show Act.put _ (some 78) _ = _
        simp only [Act.put, List.setIfInBounds_toArray, List.set_cons_zero, List.set_cons_succ, i64_w, i32_w]
        rfl
      refine two_ (i := 3) (j := 6) (Ni := some 81) (Nj := some 84) #[true, true, true, true, true, true, false, true, true, false, false, false, false, false, false] #[true, true, true, false, true, true, true, true, true, false, false, false, false, false, false] rfl rfl rfl rfl (by kernel_rfl) (by decide) (by decide) (fun K hK => ?_) (fun K hK => ?_)
      · skip
        clear hHeld
        refine Kd.R_append_rows_step kRP (w0 := w6) w6.heap.size (by rfl) (.tmp 78) (.tmp 80) 97 TRP (.agg #[.int .i64 0, .slice none 0 0]) 32 (by rfl) Try.underlying97 rpinfo rfl (by decide) (by omega) (.slice (some ⟨g78, 0, none⟩) 0 0) [] wait Aw nw cw (fun _ => True) (fun _ => False) (by rfl) (by rfl) Hg78.out (Kd.C_below HFWn.out (HB6.out.trans (HBwx0.out.mono HB6.out.size))) (fun _ _ h => h) (fun _ h => h.elim) (fun _ _ => trivial) HBwx0.out HBwx0.out.size HLIMw.out ?_
        intro v81 wx03 ho hb hg hat
        rw [List.nil_append] at ho
        obtain ⟨A81, c81, hv81⟩ := Kd.R_slice ho
        rw [← HNW.out] at hv81
        subst hv81
        have H81 := Aside0.mk ho
        have HBwx03 := Aside0.mk hb
        clear ho hb hg hat Hg78
        refine hK.out _ _ ⟨((blk_cell (blk_below BD6.out HBwx03.out) 1).trans rfl), ((blk_cell (blk_below BS6.out HBwx03.out) 1).trans rfl), ((blk_cell (blk_below BS6.out HBwx03.out) 2).trans rfl)⟩ (fun hHeld => ?_)
        clear hK K
        refine norm_ (a' := ?_) ?_ ?_
        rotate_left
        · show Act.put _ (some 81) _ = _
          simp only [Act.put, List.setIfInBounds_toArray, List.set_cons_zero, List.set_cons_succ, i64_w, i32_w]
          rfl
        refine one_ (i := 6) (N := some 84) #[true, true, true, true, true, true, true, true, true, false, false, false, false, false, false] rfl rfl (by kernel_rfl) (by decide) (fun K hK => ?_)
        clear hHeld
        obtain ⟨wx036, hwx⟩ : ∃ x, x = wx03.alloc (.cells #[] 5) := ⟨_, rfl⟩
        obtain ⟨g84, hg84⟩ : ∃ x, x = wx03.heap.size := ⟨_, rfl⟩
        have HBwx036 : Aside0 (Below w6.heap.size w6 wx036) := ⟨by rw [hwx]; exact below_alloc HBwx03.out _⟩
        have Hg84 : Aside0 (Kd.R (Kd.int .u8) 5 wx036 w6.heap.size (fun _ => True) (.slice (some ⟨g84, 0, none⟩) 0 0) []) := ⟨by rw [hwx, hg84]; exact Kd.R_lower (R_empty _ 5) (HBwx03.out).size⟩
        have n_ : Aside0 (Kd.R kRP TRP wx036 w6.heap.size (fun _ => True) (.slice A81 nw c81) wait) := ⟨by rw [hwx]; exact Kd.R_alloc H81.out _⟩
        clear H81
        have H81 := n_
        clear n_
        refine value_ (w1 := wx036) (v := .slice (some ⟨g84, 0, none⟩) 0 0) (by rfl) rfl ?_ ?_
        · rw [hwx, hg84]; exact exec_empty rfl Try.underlying24 (by kernel_rfl) wx03
        clear hwx hg84
        refine hK.out _ _ ⟨((blk_cell (blk_below BD6.out HBwx036.out) 1).trans rfl), ((blk_cell (blk_below BS6.out HBwx036.out) 1).trans rfl), ((blk_cell (blk_below BS6.out HBwx036.out) 2).trans rfl)⟩ (fun hHeld => ?_)
        clear hK K
        refine norm_ (a' := ?_) ?_ ?_
        rotate_left
        · show Act.put _ (some 84) _ = _
          simp only [Act.put, List.setIfInBounds_toArray, List.set_cons_zero, List.set_cons_succ, i64_w, i32_w]
          rfl
        exact norm_ (by simp only [putAll, Act.put, List.setIfInBounds_toArray, List.set_cons_zero, List.set_cons_succ]) (hCont (g78, g84, A81, c81) _ ⟨HBwx036.out, Hg84.out, H81.out⟩)
      · skip
        clear hHeld
        obtain ⟨wx06, hwx⟩ : ∃ x, x = wx0.alloc (.cells #[] 5) := ⟨_, rfl⟩
        obtain ⟨g84, hg84⟩ : ∃ x, x = wx0.heap.size := ⟨_, rfl⟩
        have HBwx06 : Aside0 (Below w6.heap.size w6 wx06) := ⟨by rw [hwx]; exact below_alloc HBwx0.out _⟩
        have Hg84 : Aside0 (Kd.R (Kd.int .u8) 5 wx06 w6.heap.size (fun _ => True) (.slice (some ⟨g84, 0, none⟩) 0 0) []) := ⟨by rw [hwx, hg84]; exact Kd.R_lower (R_empty _ 5) (HBwx0.out).size⟩
        have n_ : Aside0 (Kd.R kRP TRP wx06 w6.heap.size (fun _ => True) (.slice (some ⟨g78, 0, none⟩) 0 0) []) := ⟨by rw [hwx]; exact Kd.R_alloc Hg78.out _⟩
        clear Hg78
        have Hg78 := n_
        clear n_
        refine value_ (w1 := wx06) (v := .slice (some ⟨g84, 0, none⟩) 0 0) (by rfl) rfl ?_ ?_
        · rw [hwx, hg84]; exact exec_empty rfl Try.underlying24 (by kernel_rfl) wx0
        clear hwx hg84
        refine hK.out _ _ ⟨((blk_cell (blk_below BD6.out HBwx06.out) 1).trans rfl), ((blk_cell (blk_below BS6.out HBwx06.out) 1).trans rfl), ((blk_cell (blk_below BS6.out HBwx06.out) 2).trans rfl)⟩ (fun hHeld => ?_)
        clear hK K
        refine norm_ (a' := ?_) ?_ ?_
        rotate_left
        · show Act.put _ (some 84) _ = _
          simp only [Act.put, List.setIfInBounds_toArray, List.set_cons_zero, List.set_cons_succ, i64_w, i32_w]
          rfl
        refine one_ (i := 3) (N := some 81) #[true, true, true, true, true, true, true, true, true, false, false, false, false, false, false] rfl rfl (by kernel_rfl) (by decide) (fun K hK => ?_)
        clear hHeld
        refine Kd.R_append_rows_step kRP (w0 := w6) w6.heap.size (by rfl) (.tmp 78) (.tmp 80) 97 TRP (.agg #[.int .i64 0, .slice none 0 0]) 32 (by rfl) Try.underlying97 rpinfo rfl (by decide) (by omega) (.slice (some ⟨g78, 0, none⟩) 0 0) [] wait Aw nw cw (fun _ => True) (fun _ => False) (by rfl) (by rfl) Hg78.out (Kd.C_below HFWn.out (HB6.out.trans (HBwx06.out.mono HB6.out.size))) (fun _ _ h => h) (fun _ h => h.elim) (fun _ _ => trivial) HBwx06.out HBwx06.out.size HLIMw.out ?_
        intro v81 wx063 ho hb hg hat
        rw [List.nil_append] at ho
        obtain ⟨A81, c81, hv81⟩ := Kd.R_slice ho
        rw [← HNW.out] at hv81
        subst hv81
        have n_ : Aside0 (Kd.R (Kd.int .u8) 5 wx063 w6.heap.size (fun _ => True) (.slice (some ⟨g84, 0, none⟩) 0 0) []) := ⟨Kd.R_grown2 Hg84.out rfl hg (fun k e => R_typed_ne Hg78.out Hg84.out (by decide) (by decide) k e)⟩
        clear Hg84
        have Hg84 := n_
        clear n_
        have H81 := Aside0.mk ho
        have HBwx063 := Aside0.mk hb
        clear ho hb hg hat Hg78
        refine hK.out _ _ ⟨((blk_cell (blk_below BD6.out HBwx063.out) 1).trans rfl), ((blk_cell (blk_below BS6.out HBwx063.out) 1).trans rfl), ((blk_cell (blk_below BS6.out HBwx063.out) 2).trans rfl)⟩ (fun hHeld => ?_)
        clear hK K
        refine norm_ (a' := ?_) ?_ ?_
        rotate_left
        · show Act.put _ (some 81) _ = _
          simp only [Act.put, List.setIfInBounds_toArray, List.set_cons_zero, List.set_cons_succ, i64_w, i32_w]
          rfl
        exact norm_ (by simp only [putAll, Act.put, List.setIfInBounds_toArray, List.set_cons_zero, List.set_cons_succ]) (hCont (g78, g84, A81, c81) _ ⟨HBwx063.out, Hg84.out, H81.out⟩)
    · skip
      clear hHeld
      obtain ⟨wx6, hwx⟩ : ∃ x, x = w6.drew.alloc (.cells #[] 5) := ⟨_, rfl⟩
      obtain ⟨g84, hg84⟩ : ∃ x, x = w6.drew.heap.size := ⟨_, rfl⟩
      have HBwx6 : Aside0 (Below w6.heap.size w6 wx6) := ⟨by rw [hwx]; exact below_alloc (below_drew1 (Below.refl w6.heap.size w6)) _⟩
      have Hg84 : Aside0 (Kd.R (Kd.int .u8) 5 wx6 w6.heap.size (fun _ => True) (.slice (some ⟨g84, 0, none⟩) 0 0) []) := ⟨by rw [hwx, hg84]; exact Kd.R_lower (R_empty _ 5) ((below_drew1 (Below.refl w6.heap.size w6))).size⟩
      refine value_ (w1 := wx6) (v := .slice (some ⟨g84, 0, none⟩) 0 0) (by rfl) rfl ?_ ?_
      · rw [hwx, hg84]; exact exec_empty rfl Try.underlying24 (by kernel_rfl) w6.drew
      clear hwx hg84
      refine hK.out _ _ ⟨((blk_cell (blk_below BD6.out HBwx6.out) 1).trans rfl), ((blk_cell (blk_below BS6.out HBwx6.out) 1).trans rfl), ((blk_cell (blk_below BS6.out HBwx6.out) 2).trans rfl)⟩ (fun hHeld => ?_)
      clear hK K
      refine norm_ (a' := ?_) ?_ ?_
      rotate_left
      · show Act.put _ (some 84) _ = _
        simp only [Act.put, List.setIfInBounds_toArray, List.set_cons_zero, List.set_cons_succ, i64_w, i32_w]
        rfl
      refine one_ (i := 0) (N := some 78) #[true, true, true, false, true, true, true, true, true, false, false, false, false, false, false] rfl rfl (by kernel_rfl) (by decide) (fun K hK => ?_)
      clear hHeld
      obtain ⟨wx60, hwx⟩ : ∃ x, x = wx6.alloc (.cells #[] TRP) := ⟨_, rfl⟩
      obtain ⟨g78, hg78⟩ : ∃ x, x = wx6.heap.size := ⟨_, rfl⟩
      have HBwx60 : Aside0 (Below w6.heap.size w6 wx60) := ⟨by rw [hwx]; exact below_alloc HBwx6.out _⟩
      have Hg78 : Aside0 (Kd.R kRP TRP wx60 w6.heap.size (fun _ => True) (.slice (some ⟨g78, 0, none⟩) 0 0) []) := ⟨by rw [hwx, hg78]; exact Kd.R_lower (R_emptyF _) (HBwx6.out).size⟩
      have n_ : Aside0 (Kd.R (Kd.int .u8) 5 wx60 w6.heap.size (fun _ => True) (.slice (some ⟨g84, 0, none⟩) 0 0) []) := ⟨by rw [hwx]; exact Kd.R_alloc Hg84.out _⟩
      clear Hg84
      have Hg84 := n_
      clear n_
      refine value_ (w1 := wx60) (v := .slice (some ⟨g78, 0, none⟩) 0 0) (by rfl) rfl ?_ ?_
      · rw [hwx, hg78]; exact exec_empty rfl Try.underlying97 (by kernel_rfl) wx6
      clear hwx hg78
      refine hK.out _ _ ⟨((blk_cell (blk_below BD6.out HBwx60.out) 1).trans rfl), ((blk_cell (blk_below BS6.out HBwx60.out) 1).trans rfl), ((blk_cell (blk_below BS6.out HBwx60.out) 2).trans rfl)⟩ (fun hHeld => ?_)
      clear hK K
      refine norm_ (a' := ?_) ?_ ?_
      rotate_left
      · show Act.put _ (some 78) _ = _
        simp only [Act.put, List.setIfInBounds_toArray, List.set_cons_zero, List.set_cons_succ, i64_w, i32_w]
        rfl
      refine one_ (i := 3) (N := some 81) #[true, true, true, true, true, true, true, true, true, false, false, false, false, false, false] rfl rfl (by kernel_rfl) (by decide) (fun K hK => ?_)
      clear hHeld
      refine Kd.R_append_rows_step kRP (w0 := w6) w6.heap.size (by rfl) (.tmp 78) (.tmp 80) 97 TRP (.agg #[.int .i64 0, .slice none 0 0]) 32 (by rfl) Try.underlying97 rpinfo rfl (by decide) (by omega) (.slice (some ⟨g78, 0, none⟩) 0 0) [] wait Aw nw cw (fun _ => True) (fun _ => False) (by rfl) (by rfl) Hg78.out (Kd.C_below HFWn.out (HB6.out.trans (HBwx60.out.mono HB6.out.size))) (fun _ _ h => h) (fun _ h => h.elim) (fun _ _ => trivial) HBwx60.out HBwx60.out.size HLIMw.out ?_
      intro v81 wx603 ho hb hg hat
      rw [List.nil_append] at ho
      obtain ⟨A81, c81, hv81⟩ := Kd.R_slice ho
      rw [← HNW.out] at hv81
      subst hv81
      have n_ : Aside0 (Kd.R (Kd.int .u8) 5 wx603 w6.heap.size (fun _ => True) (.slice (some ⟨g84, 0, none⟩) 0 0) []) := ⟨Kd.R_grown2 Hg84.out rfl hg (fun k e => R_typed_ne Hg78.out Hg84.out (by decide) (by decide) k e)⟩
      clear Hg84
      have Hg84 := n_
      clear n_
      have H81 := Aside0.mk ho
      have HBwx603 := Aside0.mk hb
      clear ho hb hg hat Hg78
      refine hK.out _ _ ⟨((blk_cell (blk_below BD6.out HBwx603.out) 1).trans rfl), ((blk_cell (blk_below BS6.out HBwx603.out) 1).trans rfl), ((blk_cell (blk_below BS6.out HBwx603.out) 2).trans rfl)⟩ (fun hHeld => ?_)
      clear hK K
      refine norm_ (a' := ?_) ?_ ?_
      rotate_left
      · show Act.put _ (some 81) _ = _
        simp only [Act.put, List.setIfInBounds_toArray, List.set_cons_zero, List.set_cons_succ, i64_w, i32_w]
        rfl
      exact norm_ (by simp only [putAll, Act.put, List.setIfInBounds_toArray, List.set_cons_zero, List.set_cons_succ]) (hCont (g78, g84, A81, c81) _ ⟨HBwx603.out, Hg84.out, H81.out⟩)
  rintro ⟨g78, g84, A81, c81⟩ w7 ⟨hb7, h84, h81⟩
  simp only at h84 h81
  have HB7 := Aside0.mk hb7
  have H84 := Aside0.mk h84
  have H81 := Aside0.mk h81
  clear hb7 h84 h81
  have hHeld : w7.cell? ⟨w.heap.size, 1, none⟩ = some (.slice Aw nw cw) ∧ w7.cell? ⟨w.heap.size + 1, 1, none⟩ = some (.int .i64 at_) ∧ w7.cell? ⟨w.heap.size + 1, 2, none⟩ = some (.slice Ab nb cb) := ⟨((blk_cell (blk_below BD6.out HB7.out) 1).trans rfl), ((blk_cell (blk_below BS6.out HB7.out) 1).trans rfl), ((blk_cell (blk_below BS6.out HB7.out) 2).trans rfl)⟩
  refine norm_ (a' := ?_) ?_ ?_
  rotate_left
  · simp only [putAll, Act.put, List.setIfInBounds_toArray, List.set_cons_zero, List.set_cons_succ]
    rfl
  refine one_ (i := 9) (N := some 87) #[true, true, true, true, true, true, true, true, true, true, false, false, false, false, false] rfl rfl (by kernel_rfl) (by decide) (fun K hK => ?_)
  clear hHeld
  refine Kd.R_append_rows_step (Kd.int .u8) (w0 := w6) w6.heap.size (by rfl) (.tmp 84) (.tmp 86) 24 5 (.int .u8 0) 1 (by rfl) Try.underlying24 u8info rfl (by decide) (by omega) (.slice (some ⟨g84, 0, none⟩) 0 0) [] lb Ab nb cb (fun _ => True) (fun _ => False) (by rfl) (by rfl) H84.out (Kd.C_below HLB.out (HB6.out.trans (HB7.out.mono HB6.out.size))) (fun _ _ h => h) (fun _ h => h.elim) (fun _ _ => trivial) HB7.out HB7.out.size HLIMb.out ?_
  intro v8 w8 ho hb hg hat
  rw [List.nil_append] at ho
  obtain ⟨A8, c8, hv8⟩ := Kd.R_slice ho
  rw [← HNB.out] at hv8
  subst hv8
  have H81' : Aside0 (Kd.R kRP TRP w8 w6.heap.size (fun _ => True) (.slice A81 nw c81) wait) := ⟨Kd.R_grown2 H81.out rfl hg (fun k e => R_typed_ne H84.out H81.out (by decide) (by decide) k e)⟩
  have H87 := Aside0.mk ho
  have HB8 := Aside0.mk hb
  clear ho hb hg hat H84 H81 HB7
  refine hK.out _ _ ⟨((blk_cell (blk_below BD6.out HB8.out) 1).trans rfl), ((blk_cell (blk_below BS6.out HB8.out) 1).trans rfl), ((blk_cell (blk_below BS6.out HB8.out) 2).trans rfl)⟩ (fun hHeld => ?_)
  clear hK K
  refine norm_ (a' := ?_) ?_ ?_
  rotate_left
  · show Act.put _ (some 87) _ = _
    simp only [Act.put, List.setIfInBounds_toArray, List.set_cons_zero, List.set_cons_succ, i64_w, i32_w]
    rfl
  refine pure_ (i := 10) (N := some 88) (v := ?_) (a' := ?_) #[true, true, true, true, true, true, true, true, true, true, true, false, false, false, false] rfl rfl (by kernel_rfl) (fun _ _ _ h => h) (Or.inl ⟨by rfl, ?_⟩) ?_ ?_
  rotate_left
  · intro w'
    go_simp
    with_reducible rfl
  rotate_left
  · simp only [Act.put, List.setIfInBounds_toArray, List.set_cons_zero, List.set_cons_succ, i64_w, i32_w]
    rfl
  refine one_ (i := 11) (N := some 89) #[true, true, true, true, true, true, true, true, true, true, true, true, false, false, false] rfl rfl (by kernel_rfl) (by decide) (fun K hK => ?_)
  clear hHeld
  refine value_ (w1 := ?_) (v := ?_) (by rfl) rfl ?_ ?_
  rotate_left 2
  · go_simp
    constructor
    · rfl
    · rfl
  refine hK.out _ _ ⟨((blk_cell (blk_below BD6.out (below_alloc HB8.out _)) 1).trans rfl), ((blk_cell (blk_below BS6.out (below_alloc HB8.out _)) 1).trans rfl), ((blk_cell (blk_below BS6.out (below_alloc HB8.out _)) 2).trans rfl)⟩ (fun hHeld => ?_)
  clear hK K
  refine norm_ (a' := ?_) ?_ ?_
  rotate_left
  · show Act.put _ (some 89) _ = _
    simp only [Act.put, List.setIfInBounds_toArray, List.set_cons_zero, List.set_cons_succ, i64_w, i32_w]
    rfl
  refine last_ (i := 12) (N := some 90) #[true, true, true, true, true, true, true, true, true, true, true, true, true, false, false] rfl rfl (by kernel_rfl) (by decide) (fun K hK => ?_)
  clear hHeld
  refine Kd.R_append_step kRP (w0 := w6) w6.heap.size (by rfl) (.tmp 81) (.tmp 89) 97 TRP (.agg #[.int .i64 0, .slice none 0 0]) 32 (by rfl) Try.underlying97 rpinfo rfl (by decide) (by omega) (.slice A81 nw c81) wait ⟨at_, ⟨A8, c8, lb⟩⟩ [.int .i64 at_, .slice A8 nb c8] (fun _ => True) (fun _ => False) (by rfl) (by rfl) (by show _ = RP.enc _; rw [RP.enc, Sl.enc, HNB.out]) (fun _ hk => hk.elim) (fun _ _ => trivial) H81'.out HB8.out HB8.out.size HLIMp.out ?_
  intro v9 w9 ho hb hg hat
  have H90 := Aside0.mk ho
  have H87' : Aside0 (Kd.R (Kd.int .u8) 5 w9 w6.heap.size (fun _ => True) (.slice A8 nb c8) lb) := ⟨Kd.R_grown2 H87.out rfl hg (fun k e => R_typed_ne H81'.out H87.out (by decide) (by decide) k e)⟩
  have HB9 := Aside0.mk hb
  clear ho hb hg hat H81' H87 HB8
  have c9 : w9.cell? ⟨w.heap.size, 1, none⟩ = some (.slice Aw nw cw) := (blk_cell (blk_below BD6.out HB9.out) 1).trans rfl
  have f9 := blk_frozen (blk_below BD6.out HB9.out) 1
  obtain ⟨A9, n9, q9, hv9⟩ : ∃ A n c, v9 = .slice A n c := by obtain ⟨A, c, h⟩ := Kd.R_slice H90.out; exact ⟨_, _, _, h⟩
  subst hv9
  refine hK.out _ _ ?_
  clear hK K
  refine norm_ (a' := ?_) ?_ ?_
  rotate_left
  · show Act.put _ (some 90) _ = _
    simp only [Act.put, List.setIfInBounds_toArray, List.set_cons_zero, List.set_cons_succ, i64_w, i32_w]
    rfl
  refine pure_ (i := 13) (N := some 91) (v := ?_) (a' := ?_) #[true, true, true, true, true, true, true, true, true, true, true, true, true, true, false] rfl rfl (by kernel_rfl) (fun _ _ _ h => h) (Or.inl ⟨by rfl, ?_⟩) ?_ ?_
  rotate_left
  · intro w'
    go_simp
    with_reducible rfl
  rotate_left
  · simp only [Act.put, List.setIfInBounds_toArray, List.set_cons_zero, List.set_cons_succ, i64_w, i32_w]
    rfl
  refine last_ (i := 14) (N := none) #[true, true, true, true, true, true, true, true, true, true, true, true, true, true, true] rfl rfl (by kernel_rfl) (by decide) (fun K hK => ?_)
  refine skip_ (w1 := ?_) (by rfl) rfl ?_ ?_
  rotate_left
  · go_simp
    rfl
  refine hK.out _ _ ?_
  clear hK K
  refine done_ (by kernel_rfl) ?_
  obtain ⟨w10, hw10⟩ : ∃ w10, w10 = w9.setCell ⟨w.heap.size, 1, none⟩ (.slice A9 n9 q9) := ⟨_, rfl⟩
  rw [← hw10]
  have BD9 := blk_below BD6.out HB9.out
  have BS9 := blk_below BS6.out HB9.out
  have BZ9 := blk_below BZ6.out HB9.out
  have BD : Aside0 (w10.heap[w.heap.size]? = some (.cells #[.slice As ns cs, .slice A9 n9 q9, .int .i64 (left2 left), .int .i64 wq, .int .i64 fl, .bool false] TRD (0, 0))) := ⟨by rw [hw10]; exact blk_set BD9 1 _⟩
  have BZ : Aside0 (w10.heap[w.heap.size + 1 + 1]? = some (.cells #[.slice none 0 0, .slice none 0 0, .int .i64 0, .int .i64 0, .int .i64 0, .bool false] TRD (0, 0))) := ⟨by rw [hw10]; exact (Below.heap_setCell w9 ⟨w.heap.size, 1, none⟩ _ (w.heap.size + 1 + 1) (by show w.heap.size + 1 + 1 ≠ w.heap.size; omega)).trans BZ9⟩
  have HB : Aside0 (Below w.heap.size w w10) := ⟨by rw [hw10]; exact below_set (HB6.out.trans (HB9.out.mono HB6.out.size)) (Nat.le_refl _)⟩
  have hF : DFr2 base w9 w10 := by rw [hw10]; exact DFr2.set HBS.out BD9 (by decide) _
  have H90' := Aside0.mk (R_keeps H90.out (by decide) hF)
  have H87k := Aside0.mk ((Keeps.ofR (base := base) (by have h_ := H87'.out; rw [HNB.out] at h_; exact h_) (by decide) : Keeps (Kd.int .u8) base w9 A8 lb).step hF)
  clear hw10 BD9 BS9 BZ9 hF c9 f9 HB9 H90 H87' BD6 BS6 BZ6 HB6
  have y0 := (blk_cell BD.out 0).trans rfl
  have y1 := (blk_cell BD.out 1).trans rfl
  have y2 := (blk_cell BD.out 2).trans rfl
  have y3 := (blk_cell BD.out 3).trans rfl
  have y4 := (blk_cell BD.out 4).trans rfl
  have y5 := (blk_cell BD.out 5).trans rfl
  have f3 := blk_frozen BD.out 3
  go_wp2_with ((with_reducible refine gate_store (p := 4) rfl ?_); go_loud (refine wpList_store_rowL rfl rfl TRD (.tmp 4) (.tmp 96) rfl (w.heap.size + 1 + 1) #[.slice As ns cs, .slice A9 n9 q9, .int .i64 (left2 left), .int .i64 (wq + 1), .int .i64 fl, .bool false] rfl rfl TRD #[.slice none 0 0, .slice none 0 0, .int .i64 0, .int .i64 0, .int .i64 0, .bool false] ((by rw [Below.heap_setCell _ _ _ _ (by show w.heap.size + 1 + 1 ≠ w.heap.size; omega)]; exact BZ.out)) (by kernel_rfl) rfl (by simp [Value.oneCell']) ?_; intro w11 bk_ hg_))
  have hF1 : DFr2 base w10 (w10.setCell ⟨w.heap.size, 3, none⟩ (.int .i64 (wq + 1))) := DFr2.set HBS.out BD.out (by decide) _
  have hB2 : Below w.heap.size w (w10.setCell ⟨w.heap.size, 3, none⟩ (.int .i64 (wq + 1))) := below_set HB.out (Nat.le_refl _)
  have HBf := pw_below_grown hB2 _ hB2.size hg_ (fun k hk => by cases hk; omega)
  have hF2 : DFr2 base (w10.setCell ⟨w.heap.size, 3, none⟩ (.int .i64 (wq + 1))) w11 := DFr2.grown (Nat.le_trans HBS.out hB2.size) hg_ (fun k hk => by cases hk; exact ⟨by have := HBS.out; omega, _, _, by rw [Below.heap_setCell _ _ _ _ (by show w.heap.size + 1 + 1 ≠ w.heap.size; omega)]; exact BZ.out, by decide⟩)
  have hF := hF1.trans hF2
  have hF0 : DFr2 base w w11 := (DFr2.of_below HBS.out HB.out).trans hF
  refine bodyPost_ret (resRow3 rfl _ _ (w.heap.size + 1 + 1) TRD #[.slice As ns cs, .slice A9 n9 q9, .int .i64 (left2 left), .int .i64 (wq + 1), .int .i64 fl, .bool false] (0, 0) _ (.slice none 0 0) (.int .i64 0) rfl rfl rfl bk_ Try.underlying99 rfl (by kernel_rfl)) rfl ?_
  obtain ⟨hn9, _, _⟩ := Kd.R_reads' H90'.out
  subst hn9
  refine ⟨A8, c8, .slice A9 (wait ++ [(⟨at_, ⟨A8, c8, lb⟩⟩ : RP)]).length q9, rfl, ⟨⟨As, cs, by show _ = Value.slice As safe.length cs; rw [← HNS.out], HFS.out.step hF0⟩, ⟨A9, q9, rfl, (Keeps.ofR H90'.out (by decide)).step hF⟩, fun x hx => (HES.out x hx).step hF0, fun q hq => ?_⟩, HBf⟩
  rcases List.mem_append.1 hq with hq | hq
  · exact (HEW.out q hq).step hF0
  · rw [List.mem_singleton.1 hq]; exact H87k.out.step hF
end Go.Proofs.Ytdknolnoimpgeaa.K
namespace Go.Proofs.Ytdknolnoimpgeaa.K
open Go.RowKit Go.Proofs.YtdknolnoimpgeaaW.PrintWords Go.Proofs.YtdknolnoimpgeaaW.PrintLast Go.Proofs.YtdknolnoimpgeaaW.PrintMore
set_option linter.unusedVariables false
set_option linter.unusedSimpArgs false
def aZ : Sec := toSec (List.replicate 64 0)
def aO : Sec := toSec (List.replicate 64 1)
abbrev aD0 : DiskS := ⟨[aZ, aZ], [aZ, aZ], [], -1, false, 0, 0⟩
abbrev aD1 : DiskS := ⟨[aZ, aZ], [aO, aZ], [⟨0, aO⟩], -1, false, 1, 0⟩
abbrev aD2 : DiskS := ⟨[aZ, aZ], [aO, aO], [⟨0, aO⟩, ⟨1, aO⟩], -1, false, 2, 0⟩
abbrev aD3 : DiskS := ⟨[aZ, aO], [aZ, aO], [], -1, false, 2, 0⟩
theorem aw0 : (⟨secs (List.replicate 130 0), secs (List.replicate 130 0), [], -1, false, 0, 0⟩ : DiskS) = aD0 := by kernel_rfl
theorem aw1 : writeS aD0 0 (List.replicate 64 1) = aD1 := by kernel_rfl
theorem aw2 : writeS aD1 1 (List.replicate 64 1) = aD2 := by kernel_rfl
theorem aw3 : crashS aD2 [false, true] = aD3 := by kernel_rfl
theorem awE1 : writeE aD0 0 (List.replicate 64 1) = 0 := by kernel_rfl
theorem awE2 : writeE aD1 1 (List.replicate 64 1) = 0 := by kernel_rfl
theorem awR : readV aD3 1 = List.replicate 64 1 := by kernel_rfl
theorem awRE : readE aD3 1 = 0 := by kernel_rfl
theorem awF : flatN [aZ, aO] = List.replicate 64 0 ++ List.replicate 64 1 := by kernel_rfl
/-- A row's block of another type than the disk's: its data stay. -/
theorem KeepsC.of_blk {base g : Nat} {W : World} {cs : Array Value} {t : TypeId} {l : List Int} (bk : W.heap[g]? = some (.cells cs t (0, 0))) (ht : ¬ DT t) (hl : cs.toList.take l.length = l.map (fun v => Value.int .u8 v)) (hm : l.length ≤ 9223372036854775807) : KeepsC base W (some ⟨g, 0, none⟩) l :=
  fun W' hf => Kd.C_blkI (hf.keep g cs t (0, 0) bk ht) hl hm
theorem KeepsB.of_blk {base g : Nat} {W : World} {t : TypeId} {l : List Bool} (bk : W.heap[g]? = some (.cells (l.map Value.bool).toArray t (0, 0))) (ht : ¬ DT t) (hm : l.length ≤ 9223372036854775807) : KeepsB base W (some ⟨g, 0, none⟩) l := fun W' hf => by
  have b := hf.keep g _ t (0, 0) bk ht
  refine ⟨rfl, hm, fun _ => ⟨⟨g, 0, none⟩, rfl, fun j p hp => ⟨[.bool p], rfl, rfl, fun i u hu => ?_⟩⟩⟩
  obtain ⟨hj, rfl⟩ := List.getElem?_eq_some_iff.1 hp
  have hi : i = 0 := by have := (List.getElem?_eq_some_iff.1 hu).1; simp at this; exact this
  subst hi
  simp at hu
  subst hu
  rw [Addr.add_mid, blk_cell b]
  show (List.map Value.bool l).toArray[0 + (j * 1 + 0)]? = _
  simp [hj]
/-- An own row of other types than the disk's, across a disk's call. -/
theorem DFrame.blk {base g : Nat} {W W' : World} {cs : Array Value} {t : TypeId} (h : DFrame base W W') (bk : W.heap[g]? = some (.cells cs t (0, 0))) (ht : ¬ DT t) : W'.heap[g]? = some (.cells cs t (0, 0)) := h.keep g cs t (0, 0) bk ht
set_option maxHeartbeats 8000000 in
set_option maxRecDepth 100000 in
theorem l05_awake (w : World) : Calls Try.prog 80 #[] w fun e w' => e = .returned (.bool true) ∧ Below w.heap.size w w' := by
  have HB := Aside0.mk (Below.refl w.heap.size w)
  have WN : Aside0 (∀ A c W, Kd.C (Kd.int .u8) W A 130 (List.replicate 130 0) → 130 ≤ c → Calls Try.prog 82 #[.slice A 130 c] W fun e w' => e = .returned (.pointer (some ⟨W.heap.size, 0, none⟩)) ∧ DiskOk w' W.heap.size W.heap.size aD0 ∧ Below W.heap.size W w') := ⟨fun A c W h1 h2 => by
    have h := new_walk A c (List.replicate 130 0) W (by rw [List.length_replicate]; exact h1) (by rw [List.length_replicate]; exact h2) (by rw [List.length_replicate]; decide)
    rw [List.length_replicate, aw0] at h
    exact h⟩
  have W1 : Aside0 (∀ base p vs vn vw A c W, DiskR W base p aD0 vs vn vw → KeepsC base W A (List.replicate 64 1) → Calls Try.prog 71 #[.pointer (some ⟨p, 0, none⟩), .int .i64 0, .slice A 64 c] W fun e w' => e = .returned (.int .i64 0) ∧ (∃ vw', DiskR w' base p aD1 vs vn vw') ∧ DFrame base W w') := ⟨fun base p vs vn vw A c W h1 h2 => by
    have h := devWrite_walk base p aD0 vs vn vw 0 A c (List.replicate 64 1) W h1 rfl h2 (by decide) (by decide) (by decide) (by decide) (by decide)
    rw [List.length_replicate, aw1, awE1] at h
    exact h⟩
  have W2 : Aside0 (∀ base p vs vn vw A c W, DiskR W base p aD1 vs vn vw → KeepsC base W A (List.replicate 64 1) → Calls Try.prog 71 #[.pointer (some ⟨p, 0, none⟩), .int .i64 1, .slice A 64 c] W fun e w' => e = .returned (.int .i64 0) ∧ (∃ vw', DiskR w' base p aD2 vs vn vw') ∧ DFrame base W w') := ⟨fun base p vs vn vw A c W h1 h2 => by
    have h := devWrite_walk base p aD1 vs vn vw 1 A c (List.replicate 64 1) W h1 rfl h2 (by decide) (by decide) (by decide) (by decide) (by decide)
    rw [List.length_replicate, aw2, awE2] at h
    exact h⟩
  have W3 : Aside0 (∀ base p vs vn vw A c W, DiskR W base p aD2 vs vn vw → KeepsB base W A [false, true] → Calls Try.prog 70 #[.pointer (some ⟨p, 0, none⟩), .slice A 2 c] W fun e w' => (∃ v, e = .returned v) ∧ DiskOk w' base p aD3 ∧ DFrame base W w') := ⟨fun base p vs vn vw A c W h1 h2 => by
    have h := devCrash_walk base p aD2 vs vn vw A c [false, true] W h1 rfl h2 (by decide) (by decide) (by intro q hq; simp at hq; rcases hq with rfl | rfl <;> decide)
    rw [aw3] at h
    exact h⟩
  have W4 : Aside0 (∀ base p vs vn vw W, DiskR W base p aD3 vs vn vw → Calls Try.prog 68 #[.pointer (some ⟨p, 0, none⟩), .int .i64 1] W fun e w' => ∃ v : Value, e = .returned (.tuple #[v, .int .i64 0]) ∧ Kd.R (Kd.int .u8) 5 w' W.heap.size (fun _ => True) v (List.replicate 64 1) ∧ Below W.heap.size W w') := ⟨fun base p vs vn vw W h1 => by
    have h := devRead_walk base p aD3 vs vn vw 1 W h1 rfl
    rw [awR, awRE] at h
    exact h⟩
  have W5 : Aside0 (∀ base p vs vn vw W, DiskR W base p aD3 vs vn vw → Calls Try.prog 77 #[.pointer (some ⟨p, 0, none⟩)] W fun e w' => ∃ v : Value, e = .returned v ∧ Kd.R (Kd.int .u8) 5 w' W.heap.size (fun _ => True) v (List.replicate 64 0 ++ List.replicate 64 1) ∧ Below W.heap.size W w') := ⟨fun base p vs vn vw W h1 => by
    have h := devSafe_walk base p aD3 vs vn vw W h1 (by decide)
    rw [show flatN aD3.safe = List.replicate 64 0 ++ List.replicate 64 1 from awF] at h
    exact h⟩
  go_enter Try.func80, Try.ntmps80
  go_wp2_with (first | ((with_reducible refine gate_dst (N := 7) rfl ?_); refine Kd.R_make (Kd.int .u8) _ 5 rfl (N := 7) rfl 24 _ _ rfl (130) rfl rfl Try.underlying24 (.int .u8 0) 1 u8info rfl (by decide) (by omega) 0 (ok := fun _ => True) (okp := fun _ => True) rfl (fun _ hk => hk) trivial (by omega) (by omega) (Below.refl _ _) (Nat.le_refl _) ?_; intro v1 w1 ho hb hg_ hnew_; clear hg_ hnew_; obtain ⟨g1, c1, rfl, hg1, hl1, _, _⟩ := Kd.R_form ho (by simp); have HG1 := Aside0.mk (Nat.le_trans (below_size (by repeat (first | (with_reducible first | exact HB.out | apply below_alloc | apply pw_below_drewN | apply below_drew1) | exact HB.out))) hg1); clear hg1 hl1; have HO1 := Aside0.mk (Kd.R_lower ho (below_size (by repeat (first | (with_reducible first | exact HB.out | apply below_alloc | apply pw_below_drewN | apply below_drew1) | exact HB.out)))); have n1_ : Aside0 (Below w.heap.size w w1) := ⟨below_step (by repeat (first | (with_reducible first | exact HB.out | apply below_alloc | apply pw_below_drewN | apply below_drew1) | exact HB.out)) hb⟩; clear HB; have HB := n1_; clear n1_; clear ho hb) | (go_at_call 82; (with_reducible refine (WN.out _ _ _ (Kd.R_reads' HO1.out).2.2 (Kd.R_reads' HO1.out).2.1).mono ?_); rintro e w2 ⟨rfl, ⟨vs, vn, vw, hD⟩, hb⟩; have D := Aside0.mk hD; have HP := Aside0.mk (below_size HB.out); have PP := Aside0.mk hD.hp; have n1_ : Aside0 (Below w.heap.size w w2) := ⟨below_step (by repeat (first | (with_reducible first | exact HB.out | apply below_alloc | apply pw_below_drewN | apply below_drew1) | exact HB.out)) hb⟩; clear HB; have HB := n1_; clear n1_; clear hD hb HO1) | ((with_reducible refine gate_dst (N := 9) rfl ?_); refine Kd.R_lit (Kd.int .u8) _ 5 ?hg (N := 9) ?hd (xs := ([(1 : Int)] : List (Int))) (inner := [.int .u8 1]) (ok := fun _ => True) (okp := fun _ => True) ?hr ?hp (fun _ hk => hk) trivial (Below.refl _ _) (Nat.le_refl _) (by simp) ?_; (case hd => rfl); (case hg => rfl); (case hr => first | (go_simp; done) | (go_simp; rfl)); (case hp => exact (Reps.one (show Kd.M (Kd.int .u8) _ _ _ (1 : Int) [.int .u8 1] from rfl) (Reps.none _ _))); intro v3 w3 ho hb hg_ hnew_; clear hg_ hnew_; obtain ⟨g3, c3, rfl, hg3, hl3, _, _⟩ := Kd.R_form ho (by simp); have HG3 := Aside0.mk hg3; have HGL3 := Aside0.mk hl3; clear hg3 hl3; have HR3 := Aside0.mk (Kd.R_reads' ho).2.2; have HC3 := Aside0.mk (Kd.R_reads' ho).2.1; have n1_ : Aside0 (Below w.heap.size w w3) := ⟨below_step (by repeat (first | (with_reducible first | exact HB.out | apply below_alloc | apply pw_below_drewN | apply below_drew1) | exact HB.out)) hb⟩; clear HB; have HB := n1_; clear n1_; have n_ := Aside0.mk (D.out.below hb); clear D; have D := n_; clear n_; clear ho hb) | (go_at_call 124; go_loud (with_reducible refine (repeat_walk _ _ 1 _ (show Kd.C (Kd.int .u8) _ (some ⟨g3, 0, none⟩) 1 [1] from HR3.out)).mono ?_); go_loud (rintro e w4 ⟨g4, cs4, rfl, hg4, bk4, hc4, hb⟩; have BK4 := Aside0.mk bk4; have HC4 := Aside0.mk hc4; have n1_ : Aside0 (Below w.heap.size w w4) := ⟨below_step (by repeat (first | (with_reducible first | exact HB.out | apply below_alloc | apply pw_below_drewN | apply below_drew1) | exact HB.out)) hb⟩; clear HB; have HB := n1_; clear n1_; have n_ := Aside0.mk (D.out.below hb); clear D; have D := n_; clear n_; clear hb hg4 bk4 hc4 HR3 HC3)) | (go_at_call 71; (with_reducible refine (W1.out w1.heap.size w1.heap.size vs vn _ (some ⟨g4, 0, none⟩) 64 _ D.out (KeepsC.of_blk BK4.out (by decide) (by simpa using HC4.out) (by simp))).mono ?_); rintro e w5 ⟨rfl, ⟨vw5, hD⟩, hF⟩; clear D; have D := Aside0.mk hD; have n_ := Aside0.mk (hF.blk BK4.out (by decide)); clear BK4; have BK4 := n_; clear n_; have n_ : Aside0 (Below w.heap.size w w5) := ⟨HB.out.trans (hF.below.mono HP.out)⟩; clear HB; have HB := n_; clear n_ hD hF) | (go_at_call 71; (with_reducible refine (W2.out w1.heap.size w1.heap.size vs vn _ (some ⟨g4, 0, none⟩) 64 _ D.out (KeepsC.of_blk BK4.out (by decide) (by simpa using HC4.out) (by simp))).mono ?_); rintro e w6 ⟨rfl, ⟨vw6, hD⟩, hF⟩; clear D; have D := Aside0.mk hD; have n_ := Aside0.mk (hF.blk BK4.out (by decide)); clear BK4; have BK4 := n_; clear n_; have n_ : Aside0 (Below w.heap.size w w6) := ⟨HB.out.trans (hF.below.mono HP.out)⟩; clear HB; have HB := n_; clear n_ hD hF) | ((with_reducible refine gate_dst (N := 18) rfl ?_); refine Kd.R_lit Kd.bool _ 4 ?hg (N := 18) ?hd (xs := ([false, true] : List (Bool))) (inner := [.bool false, .bool true]) (ok := fun _ => True) (okp := fun _ => True) ?hr ?hp (fun _ hk => hk) trivial (Below.refl _ _) (Nat.le_refl _) (by simp) ?_; (case hd => rfl); (case hg => rfl); (case hr => first | (go_simp; done) | (go_simp; rfl)); (case hp => exact (Reps.one (show Kd.M Kd.bool _ _ _ false [.bool false] from rfl) (Reps.one (show Kd.M Kd.bool _ _ _ true [.bool true] from rfl) (Reps.none _ _)))); intro v7 w7 ho hb hg_ hnew_; clear hg_ hnew_; obtain ⟨g7, c7, rfl, hg7, hl7, _, _⟩ := Kd.R_form ho (by simp); have HG7 := Aside0.mk hg7; have HGL7 := Aside0.mk hl7; clear hg7 hl7; have HR7 := Aside0.mk (Kd.R_reads' ho).2.2; have HC7 := Aside0.mk (Kd.R_reads' ho).2.1; have n1_ : Aside0 (Below w.heap.size w w7) := ⟨below_step (by repeat (first | (with_reducible first | exact HB.out | apply below_alloc | apply pw_below_drewN | apply below_drew1) | exact HB.out)) hb⟩; clear HB; have HB := n1_; clear n1_; have n_ := Aside0.mk (D.out.below hb); clear D; have D := n_; clear n_; have n_ := Aside0.mk (blk_below BK4.out hb); clear BK4; have BK4 := n_; clear n_; have HK7 : Aside0 (KeepsB w1.heap.size w7 (some ⟨g7, 0, none⟩) [false, true]) := ⟨fun W' hf => Keeps.ofR ho (by decide) W' hf.to2⟩; clear ho hb) | (go_at_call 70; go_loud (with_reducible refine (W3.out w1.heap.size w1.heap.size vs vn _ (some ⟨g7, 0, none⟩) _ _ D.out HK7.out).mono ?_); go_loud (rintro e w8 ⟨⟨v8, rfl⟩, ⟨vs8, vn8, vw8, hD⟩, hF⟩; clear D; have D := Aside0.mk hD; have n_ := Aside0.mk (hF.blk BK4.out (by decide)); clear BK4; have BK4 := n_; clear n_; have n_ : Aside0 (Below w.heap.size w w8) := ⟨HB.out.trans (hF.below.mono HP.out)⟩; clear HB; have HB := n_; clear n_ hF; clear hD HK7)) | (go_at_call 68; go_loud (with_reducible refine (W4.out w1.heap.size w1.heap.size vs8 vn8 _ _ D.out).mono ?_); go_loud (rintro e w9 ⟨v9, rfl, ho, hb⟩; obtain ⟨g9, c9, rfl, hg9, hl9, _, _⟩ := Kd.R_form ho (by simp); have HG9 := Aside0.mk hg9; have HGL9 := Aside0.mk hl9; clear hg9 hl9; have HR9 := Aside0.mk (Kd.R_reads' ho).2.2; have HC9 := Aside0.mk (Kd.R_reads' ho).2.1; have n1_ : Aside0 (Below w.heap.size w w9) := ⟨below_step (by repeat (first | (with_reducible first | exact HB.out | apply below_alloc | apply pw_below_drewN | apply below_drew1) | exact HB.out)) hb⟩; clear HB; have HB := n1_; clear n1_; have n_ := Aside0.mk (D.out.below hb); clear D; have D := n_; clear n_; have n_ := Aside0.mk (blk_below BK4.out hb); clear BK4; have BK4 := n_; clear n_; clear ho hb)) | (go_at_call 73; go_loud (with_reducible refine (devSize_walk w1.heap.size w1.heap.size _ vs8 vn8 _ _ D.out).mono ?_); go_loud (rintro e w' ⟨rfl, h_⟩; have h_ := h_.symm; subst h_)) | (go_at_call 74; go_loud (with_reducible refine (devWrites_walk w1.heap.size w1.heap.size _ vs8 vn8 _ _ D.out).mono ?_); go_loud (rintro e w' ⟨rfl, h_⟩; have h_ := h_.symm; subst h_)) | (go_at_call 24; go_loud (refine (bEq_true _ 64 _ (List.replicate 64 1) _ 64 _ (List.replicate 64 1) _ (show Kd.C (Kd.int .u8) _ _ 64 (List.replicate 64 1) from HR9.out) (Kd.C_blkI BK4.out (by simpa using HC4.out) (by simp)) (by decide) rfl).mono ?_); go_loud (rintro e w' ⟨rfl, h_⟩; have h_ := h_.symm; subst h_)) | (go_at_call 77; go_loud (with_reducible refine (W5.out w1.heap.size w1.heap.size vs8 vn8 _ _ D.out).mono ?_); go_loud (rintro e w10 ⟨v10, rfl, ho, hb⟩; obtain ⟨g10, c10, rfl, hg10, hl10, _, _⟩ := Kd.R_form ho (by simp); have HG10 := Aside0.mk hg10; have HGL10 := Aside0.mk hl10; clear hg10 hl10; have HR10 := Aside0.mk (Kd.R_reads' ho).2.2; have HC10 := Aside0.mk (Kd.R_reads' ho).2.1; have n1_ : Aside0 (Below w.heap.size w w10) := ⟨below_step (by repeat (first | (with_reducible first | exact HB.out | apply below_alloc | apply pw_below_drewN | apply below_drew1) | exact HB.out)) hb⟩; clear HB; have HB := n1_; clear n1_; have n_ := Aside0.mk (D.out.below hb); clear D; have D := n_; clear n_; have c10 : w10.cell? ⟨g10, 0, none⟩ = some (.int .u8 0) := C_cell (xs := List.replicate 64 0 ++ List.replicate 64 1) (n := 128) (Kd.R_reads' ho).2.2 (by decide); clear ho hb)))
  go_ret
  exact ⟨by rfl, HB.out⟩
end Go.Proofs.Ytdknolnoimpgeaa.K
namespace Go.Proofs.YtdknolnoimpgeaaW.PrintWords
open Go.RowKit Go.Proofs.Ytdknolnoimpgeaa.K
namespace Kd
/-- A kind that is only read. -/
def ofK {α : Type} (sz : Nat) (K : World → α → List Value → Prop) (hl : ∀ {w x cs}, K w x cs → cs.length = sz) (ho : ∀ {w x cs}, K w x cs → ∀ u ∈ cs, u.oneCell' = true) (hb : ∀ {w w1 : World} {x cs}, Below w.heap.size w w1 → K w x cs → K w1 x cs) : Kd α where
  sz := sz
  E := []
  K := K
  M := fun _ _ _ _ _ => False
  K_len := hl
  K_one := ho
  K_below := hb
  K_of_M := fun h => h.elim
  M_mono := fun _ h => h.elim
  M_bound := fun h => h.elim
  M_move := fun _ h => h.elim
  M_lower := fun _ h => h.elim
end Kd
end Go.Proofs.YtdknolnoimpgeaaW.PrintWords
namespace Go.Proofs.Ytdknolnoimpgeaa.K
open Go.RowKit Go.Deep Go.Proofs.YtdknolnoimpgeaaW.PrintWords Go.Proofs.YtdknolnoimpgeaaW.PrintLast Go.Proofs.YtdknolnoimpgeaaW.PrintMore
set_option linter.unusedVariables false
set_option linter.unusedSimpArgs false
structure Slb where
  A : Option Addr
  c : Nat
  l : List Bool
structure Stp where
  do_ : Int
  at_ : Int
  b : Sl
  k : Slb
def Stp.enc (x : Stp) : List Value := [.int .i64 x.do_, .int .i64 x.at_, .slice x.b.A x.b.l.length x.b.c, .slice x.k.A x.k.l.length x.k.c]
structure StpK (w : World) (x : Stp) (cs : List Value) : Prop where
  e : cs = x.enc
  b : Kd.C (Kd.int .u8) w x.b.A x.b.l.length x.b.l
  k : Kd.C Kd.bool w x.k.A x.k.l.length x.k.l
def kStp : Kd Stp := Kd.ofK 4 StpK (fun h => by rw [h.e]; rfl) (fun h u hu => by
    rw [h.e] at hu
    simp [Stp.enc] at hu
    rcases hu with rfl | rfl | rfl | rfl <;> rfl) (fun hb h => ⟨h.e, Kd.C_below h.b hb, Kd.C_below h.k hb⟩)
/-- A call of a list: its cells, and its data. -/
theorem at_stp {W : World} {A : Option Addr} {m : Nat} {xs : List Stp} (h : Kd.C kStp W A m xs) {j : Nat} (hj : j < xs.length) : ∃ ad, A = some ad ∧ (∀ i u, (Stp.enc xs[j])[i]? = some u → W.cell? (ad.add (j * 4 + i)) = some u) ∧ Kd.C (Kd.int .u8) W xs[j].b.A xs[j].b.l.length xs[j].b.l ∧ Kd.C Kd.bool W xs[j].k.A xs[j].k.l.length xs[j].k.l := by
  have hm := h.1
  obtain ⟨ad, he, hx⟩ := h.2.2 (by omega)
  obtain ⟨cs, hl, hk, hc⟩ := hx j xs[j] (List.getElem?_eq_getElem hj)
  have hk : StpK W xs[j] cs := hk
  refine ⟨ad, he, fun i u hu => hc i u (by rw [hk.e]; exact hu), hk.b, hk.k⟩
theorem at_stpA {W : World} {A : Option Addr} {m : Nat} {xs : List Stp} (h : Kd.C kStp W A m xs) {j : Nat} (hj : j < xs.length) : ∃ ad, A = some ad ∧ (∀ u, (Stp.enc xs[j])[0]? = some u → W.cell? (ad.add (j * 4)) = some u) ∧
      ∀ i u, (Stp.enc xs[j])[i + 1]? = some u → W.cell? ⟨(ad.add (j * 4)).block, (ad.add (j * 4)).off + (i + 1), none⟩ = some u := by
  obtain ⟨ad, he, hx, _⟩ := at_stp h hj
  refine ⟨ad, he, fun u hu => hx 0 u hu, fun i u hu => ?_⟩
  have h2 := hx (i + 1) u hu
  rw [← addr_add_add, Addr.add_succ'] at h2
  exact h2
theorem opens_convS {α β : Type} {P : Program} {d : Kd α} {d' : Kd β} {t : TypeId} {good : α → Prop} {good' : β → Prop} (h : Opens P d t good) (hc : ∀ w a cs, d.K w a cs → good a → ∃ b, d'.K w b cs ∧ good' b) : Opens P d' t good' := by
  intro H enc w base spare held fuel cs x hx
  obtain ⟨a, hk, hg⟩ := h H enc w base spare held fuel cs x hx
  exact hc w a cs hk hg
theorem opens_stp : Opens Try.prog kStp 93 (fun x => (Lit.int .i64 x.at_).wf = true ∧ x.b.l.length ≤ 9223372036854775807 ∧ x.k.l.length ≤ 9223372036854775807) :=
  opens_convS (opens_struct Try.underlying93 (by kernel_rfl) (opensFs_cons rfl (opens_int Try.underlying3) (opensFs_cons rfl (opens_int Try.underlying3) (opensFs_cons rfl (opens_slice Try.underlying24 (by kernel_rfl) (opens_int Try.underlying5)) (opensFs_one rfl (opens_slice Try.underlying89 (by kernel_rfl) (opens_bool Try.underlying4))))))) (by
    rintro w ⟨a, b, c, d⟩ cs ⟨c0, d0, e0, u0, c1, d1, e1, u1, c2, d2, e2, ⟨A2, n2, u2, _, C2⟩, ⟨A3, n3, u3, _, C3⟩⟩ ⟨_, g1, g2, g3⟩
    refine ⟨⟨a, b, ⟨A2, n2, c⟩, ⟨A3, n3, d⟩⟩, ⟨?_, C2, C3⟩, g1, g2.1, g3.1⟩
    show cs = _
    rw [e0, u0, e1, u1, e2, u2, u3]; rfl)
end Go.Proofs.Ytdknolnoimpgeaa.K
namespace Go.Proofs.Ytdknolnoimpgeaa.K
open Go.RowKit Go.Proofs.YtdknolnoimpgeaaW.PrintWords Go.Proofs.YtdknolnoimpgeaaW.PrintLast Go.Proofs.YtdknolnoimpgeaaW.PrintMore
set_option linter.unusedVariables false
set_option linter.unusedSimpArgs false
def bigS (x : Stp) : Bool := decide (200 < x.b.l.length) || decide (100 < x.k.l.length)
def fewS (n : Nat) (l : List Stp) : Bool := decide (n ≤ 2000) && (decide (l.length ≤ 60) && !l.any bigS)
set_option maxRecDepth 100000 in
theorem bigS_walk (x : Stp) (W : World) : Calls Try.prog 126 #[.agg #[.int .i64 x.do_, .int .i64 x.at_, .slice x.b.A x.b.l.length x.b.c, .slice x.k.A x.k.l.length x.k.c]] W fun e w' => e = .returned (.bool (bigS x)) ∧ Below W.heap.size W w' := by
  have EB : Aside0 (bigS x = (decide (200 < x.b.l.length) || decide (100 < x.k.l.length))) := ⟨rfl⟩
  obtain ⟨n, hn⟩ : ∃ n, n = x.b.l.length := ⟨_, rfl⟩
  obtain ⟨m, hm⟩ : ∃ n, n = x.k.l.length := ⟨_, rfl⟩
  rw [← hn, ← hm] at EB
  rw [← hn, ← hm]
  clear hn hm
  by_cases h1 : 200 < n
  · have E0 : Aside0 (bigS x = true) := ⟨by rw [EB.out]; simp [h1]⟩
    have hi : (200 : Int) < n := by omega
    go_enter Try.func126, Try.ntmps126
    go_wp2
    go_ret
    exact ⟨by rw [E0.out]; rfl, below_alloc (Below.refl _ _) _⟩
  · have hi : ¬ (200 : Int) < n := by omega
    by_cases h2 : 100 < m
    · have E0 : Aside0 (bigS x = true) := ⟨by rw [EB.out]; simp [h2]⟩
      have hi2 : (100 : Int) < m := by omega
      go_enter Try.func126, Try.ntmps126
      go_wp2
      go_ret
      exact ⟨by rw [E0.out]; rfl, below_alloc (Below.refl _ _) _⟩
    · have E0 : Aside0 (bigS x = false) := ⟨by rw [EB.out]; simp [h1, h2]⟩
      have hi2 : ¬ (100 : Int) < m := by omega
      go_enter Try.func126, Try.ntmps126
      go_wp2
      go_ret
      exact ⟨by rw [E0.out]; rfl, below_alloc (Below.refl _ _) _⟩
set_option maxRecDepth 100000 in
theorem idxStp_walk (A : Option Addr) (c : Nat) (l : List Stp) (p : Stp → Bool) (g : Nat) (lb : Array Value) (w : World) (hr : Kd.C kStp w A l.length l) (hl : l.length ≤ 9223372036854775807)
    (eg : ∀ args w, (callFunc g args).run Try.prog w = .ok (.enter g args) w) (hp : ∀ W x, x ∈ l → Below w.heap.size w W → Calls Try.prog g (#[.agg #[.int .i64 x.do_, .int .i64 x.at_, .slice x.b.A x.b.l.length x.b.c, .slice x.k.A x.k.l.length x.k.c]] ++ lb) W fun e w' => e = .returned (.bool (p x)) ∧ Below W.heap.size W w') :
    Calls Try.prog 148 #[.slice A l.length c, .func (.func g) #[] lb] w fun e w' => e = .returned (.int .i64 (idxP p l)) ∧ Below w.heap.size w w' := by
  have HR := Aside0.mk hr
  have HP := Aside0.mk hp
  have HB := Aside0.mk (Below.refl w.heap.size w)
  clear hr hp
  go_enter Try.func148, Try.ntmps148
  go_wp2
  go_loopw [5, 8] (fun v5 v8 w' => ∃ m : Nat, v8 = .int .i64 m ∧ Aside0 (m ≤ l.length) ∧ Aside0 (∀ j (hj : j < l.length), j < m → p l[j] = false) ∧ Aside0 (Below w.heap.size w w')) (fun _ i _ => l.length - (intOf i).toNat)
  case atStart => exact ⟨0, rfl, ⟨Nat.zero_le _⟩, ⟨fun j hj h => absurd h (by omega)⟩, HB⟩
  case round =>
    clear HB
    obtain ⟨m, rfl, hm, hall, HB⟩ := hrel
    have hm' := hm.out
    by_cases hlt : m < l.length
    · obtain ⟨ad, rfl, hx, hxs⟩ := at_stpA (Kd.C_below HR.out HB.out) hlt
      obtain ⟨x, hxx⟩ : ∃ x, x = l[m] := ⟨_, rfl⟩
      have hxm : x ∈ l := by rw [hxx]; exact List.getElem_mem hlt
      rw [← hxx] at hx hxs
      have x0 := hx _ rfl
      have x1 := hxs 0 _ rfl
      have x2 := hxs 1 _ rfl
      have x3 := hxs 2 _ rfl
      simp only [Nat.reduceAdd] at x1 x2 x3
      have HC := Aside0.mk (HP.out wr x hxm HB.out)
      have HXX := Aside0.mk hxx
      clear hx hxs hxx hxm
      cases hq : p x with
      | true =>
        have E0 : Aside0 (idxP p l = m) := ⟨idxP_hit hlt (by rw [← HXX.out]; exact hq) fun j hj => hall.out j (by omega) hj⟩
        rw [hq] at HC
        clear hq
        go_wp2_with (go_at_fn g; (with_reducible refine HC.out.mono ?_); rintro e w5 ⟨rfl, hb⟩; have n1_ : Aside0 (Below w.heap.size w w5) := ⟨below_step (by repeat (first | (with_reducible first | exact HB.out | apply below_alloc | apply pw_below_drewN | apply below_drew1) | exact HB.out)) hb⟩; clear HB; have HB := n1_; clear n1_; clear hb)
        go_ret
        exact ⟨by rw [E0.out]; rfl, (by repeat (first | (with_reducible first | exact HB.out | apply below_alloc | apply pw_below_drewN | apply below_drew1) | exact HB.out))⟩
      | false =>
        have HA : Aside0 (∀ j (hj : j < l.length), j < m + 1 → p l[j] = false) := ⟨fun j hj h => by
          by_cases hjm : j = m
          · subst hjm; rw [← HXX.out]; exact hq
          · exact hall.out j hj (by omega)⟩
        rw [hq] at HC
        clear hq
        go_wp2_with (go_at_fn g; (with_reducible refine HC.out.mono ?_); rintro e w5 ⟨rfl, hb⟩; have n1_ : Aside0 (Below w.heap.size w w5) := ⟨below_step (by repeat (first | (with_reducible first | exact HB.out | apply below_alloc | apply pw_below_drewN | apply below_drew1) | exact HB.out)) hb⟩; clear HB; have HB := n1_; clear n1_; clear hb)
        exact ⟨⟨m + 1, rfl, ⟨by omega⟩, HA, ⟨(by repeat (first | (with_reducible first | exact HB.out | apply below_alloc | apply pw_below_drewN | apply below_drew1) | exact HB.out))⟩⟩, by simp [intOf]; omega⟩
    · have E0 : Aside0 (idxP p l = -1) := ⟨idxP_miss fun j hj => hall.out j hj (by omega)⟩
      have hge : l.length ≤ m := by omega
      clear hlt
      go_wp2
      go_ret
      exact ⟨by rw [E0.out]; rfl, (by repeat (first | (with_reducible first | exact HB.out | apply below_alloc | apply pw_below_drewN | apply below_drew1) | exact HB.out))⟩
theorem idxP_any {α : Type} {p : α → Bool} {l : List α} : (l.any p = true → 0 ≤ idxP p l) ∧ (l.any p = false → idxP p l = -1) := by
  refine ⟨fun h => ?_, fun h => idxP_miss fun j hj => ?_⟩
  · obtain ⟨x, hx, hp⟩ := List.any_eq_true.1 h
    unfold idxP
    cases hf : l.findIdx? p with
    | some i => exact Int.natCast_nonneg i
    | none => rw [List.findIdx?_eq_none_iff] at hf; rw [hf x hx] at hp; cases hp
  · have := List.any_eq_false.1 h _ (List.getElem_mem hj)
    simpa using this
set_option maxRecDepth 100000 in
theorem conStp_walk (A : Option Addr) (c : Nat) (l : List Stp) (w : World) (hr : Kd.C kStp w A l.length l) (hl : l.length ≤ 9223372036854775807) :
    Calls Try.prog 125 #[.slice A l.length c, .func (.func 126) #[] #[]] w fun e w' => e = .returned (.bool (l.any bigS)) ∧ Below w.heap.size w w' := by
  have WI := Aside0.mk (idxStp_walk A c l bigS 126 #[] w hr hl (enters_of Try.func126 (by kernel_rfl) rfl : ∀ args w, (callFunc 126 args).run Try.prog w = .ok (.enter 126 args) w) (fun W x _ _ => bigS_walk x W))
  obtain ⟨n, hn⟩ : ∃ n, n = l.length := ⟨_, rfl⟩
  cases hb : l.any bigS with
  | true =>
    obtain ⟨i, hi⟩ : ∃ i, i = idxP bigS l := ⟨_, rfl⟩
    have h0 : 0 ≤ i := by rw [hi]; exact idxP_any.1 hb
    rw [← hi, ← hn] at WI
    rw [← hn]
    clear hb hr hl hi hn
    go_enter Try.func125, Try.ntmps125
    go_wp2_with (go_at_call 148; (with_reducible refine WI.out.mono ?_); rintro e w1 ⟨rfl, hb⟩; have HB := Aside0.mk hb; clear hb)
    go_ret
    exact ⟨by first | rfl | simp, HB.out⟩
  | false =>
    have hi : idxP bigS l = -1 := idxP_any.2 hb
    rw [hi, ← hn] at WI
    rw [← hn]
    clear hb hr hl hi hn
    go_enter Try.func125, Try.ntmps125
    go_wp2_with (go_at_call 148; (with_reducible refine WI.out.mono ?_); rintro e w1 ⟨rfl, hb⟩; have HB := Aside0.mk hb; clear hb)
    go_ret
    exact ⟨by first | rfl | simp, HB.out⟩
set_option maxRecDepth 100000 in
theorem few_walk (Ab : Option Addr) (n cb : Nat) (A : Option Addr) (c : Nat) (l : List Stp) (w : World) (hr : Kd.C kStp w A l.length l) (hl : l.length ≤ 9223372036854775807) :
    Calls Try.prog 81 #[.slice Ab n cb, .slice A l.length c] w fun e w' => e = .returned (.bool (fewS n l)) ∧ Below w.heap.size w w' := by
  have EF : Aside0 (fewS n l = (decide (n ≤ 2000) && (decide (l.length ≤ 60) && !l.any bigS))) := ⟨rfl⟩
  have WC := Aside0.mk (conStp_walk A c l w hr hl)
  obtain ⟨m, hm⟩ : ∃ n, n = l.length := ⟨_, rfl⟩
  rw [← hm] at WC EF
  rw [← hm]
  clear hr hl hm
  by_cases h1 : n ≤ 2000
  case neg =>
    have E0 : Aside0 (fewS n l = false) := ⟨by rw [EF.out]; simp [h1]⟩
    have hi : ¬ (n : Int) ≤ 2000 := by omega
    go_enter Try.func81, Try.ntmps81
    go_wp2
    go_ret
    exact ⟨by rw [E0.out]; rfl, Below.refl _ _⟩
  have hi : (n : Int) ≤ 2000 := by omega
  by_cases h2 : m ≤ 60
  case neg =>
    have E0 : Aside0 (fewS n l = false) := ⟨by rw [EF.out]; simp [h2]⟩
    have hi2 : ¬ (m : Int) ≤ 60 := by omega
    go_enter Try.func81, Try.ntmps81
    go_wp2
    go_ret
    exact ⟨by rw [E0.out]; rfl, Below.refl _ _⟩
  have hi2 : (m : Int) ≤ 60 := by omega
  have E0 : Aside0 (fewS n l = !l.any bigS) := ⟨by rw [EF.out]; simp [h1, h2]⟩
  obtain ⟨q, hq⟩ : ∃ q, q = l.any bigS := ⟨_, rfl⟩
  rw [← hq] at WC E0
  clear hq
  go_enter Try.func81, Try.ntmps81
  go_wp2_with (go_at_call 125; (with_reducible refine WC.out.mono ?_); rintro e w1 ⟨rfl, hb⟩; have HB := Aside0.mk hb; clear hb)
  go_ret
  exact ⟨by rw [E0.out]; rfl, HB.out⟩
end Go.Proofs.Ytdknolnoimpgeaa.K
namespace Go.Proofs.Ytdknolnoimpgeaa.K
open Go.RowKit Go.Proofs.YtdknolnoimpgeaaW.PrintWords Go.Proofs.YtdknolnoimpgeaaW.PrintLast Go.Proofs.YtdknolnoimpgeaaW.PrintMore
set_option linter.unusedVariables false
set_option linter.unusedSimpArgs false
/-- A disk as it may be behind k calls. -/
structure DiskWf (s : DiskS) (k : Nat) : Prop where
  len : s.now.length = s.safe.length
  l0 : -1 ≤ s.left
  l1 : s.left ≤ 9223372036854775807
  w0 : 0 ≤ s.wr
  w1 : s.wr ≤ k
  f0 : 0 ≤ s.fl
  f1 : s.fl ≤ k
  wl : s.wait.length ≤ k
  at_ : ∀ q ∈ s.wait, 0 ≤ q.at_ ∧ q.at_ < s.safe.length
theorem DiskWf.mono {s : DiskS} {k k' : Nat} (h : DiskWf s k) (hk : k ≤ k') : DiskWf s k' := ⟨h.len, h.l0, h.l1, h.w0, by have := h.w1; omega, h.f0, by have := h.f1; omega, by have := h.wl; omega, h.at_⟩
theorem DiskWf.burn {s : DiskS} {k : Nat} (h : DiskWf s k) : DiskWf (burnS s) k := by
  have h0 := h.l0
  have h1 := h.l1
  unfold burnS
  split
  · exact ⟨h.len, h.l0, h.l1, h.w0, h.w1, h.f0, h.f1, h.wl, h.at_⟩
  · split
    · exact h
    · exact ⟨h.len, by show -1 ≤ max (s.left - 1) (-1); omega, by show max (s.left - 1) (-1) ≤ _; omega, h.w0, h.w1, h.f0, h.f1, h.wl, h.at_⟩
theorem atE_ok {s : DiskS} {i : Int} (h : atE s i = 0) : 0 ≤ i ∧ i < s.safe.length := by
  unfold atE at h
  by_cases hh : 0 ≤ i ∧ i < s.safe.length
  · exact hh
  · rw [if_neg hh] at h; cases h
theorem DiskWf.write {s : DiskS} {k : Nat} (h : DiskWf s k) (i : Int) (b : List Int) : DiskWf (writeS s i b) (k + 1) := by
  unfold writeS
  split
  · exact h.mono (by omega)
  · rename_i hat
    have hi := atE_ok (by simpa using hat)
    split
    · exact h.mono (by omega)
    · split
      · exact h.burn.mono (by omega)
      · have hb := h.burn
        refine ⟨?_, hb.l0, hb.l1, ?_, ?_, hb.f0, by have := hb.f1; show (burnS s).fl ≤ _; omega, ?_, ?_⟩
        · show (s.now.set i.toNat (toSec b)).length = (burnS s).safe.length
          rw [List.length_set, burnS_safe]; exact h.len
        · show 0 ≤ s.wr + 1; have := h.w0; omega
        · show s.wr + 1 ≤ _; have := h.w1; omega
        · show (s.wait ++ [_]).length ≤ _; have := h.wl; simp; omega
        · intro q hq
          show 0 ≤ q.at_ ∧ q.at_ < (burnS s).safe.length
          rw [burnS_safe]
          rcases List.mem_append.1 hq with hq | hq
          · exact h.at_ q hq
          · rw [List.mem_singleton.1 hq]; exact hi
theorem DiskWf.flush {s : DiskS} {k : Nat} (h : DiskWf s k) : DiskWf (flushS s) (k + 1) := by
  unfold flushS
  split
  · exact h.burn.mono (by omega)
  · have hb := h.burn
    refine ⟨?_, hb.l0, hb.l1, hb.w0, by have := hb.w1; show (burnS s).wr ≤ _; omega, ?_, ?_, Nat.zero_le _, fun q hq => by cases hq⟩
    · show (burnS s).now.length = s.now.length
      rw [burnS_now]
    · show 0 ≤ s.fl + 1; have := h.f0; omega
    · show s.fl + 1 ≤ _; have := h.f1; omega
theorem DiskWf.arm {s : DiskS} {k : Nat} (h : DiskWf s k) {n : Int} (hn : n ≤ 9223372036854775807) : DiskWf (armS s n) k :=
  ⟨h.len, by show -1 ≤ max n (-1); omega, by show max n (-1) ≤ _; omega, h.w0, h.w1, h.f0, h.f1, h.wl, h.at_⟩
theorem DiskWf.crash {s : DiskS} {k : Nat} (h : DiskWf s k) (kept : List Bool) : DiskWf (crashS s kept) k :=
  ⟨rfl, by show (-1 : Int) ≤ -1; decide, by show (-1 : Int) ≤ _; decide, h.w0, h.w1, h.f0, h.f1, Nat.zero_le _, fun q hq => by cases hq⟩
/-- A call done. -/
def doS (s : DiskS) (x : Stp) : DiskS := if x.do_ = 1 then writeS s x.at_ x.b.l else if x.do_ = 2 then flushS s else if x.do_ = 3 then armS s x.at_ else if x.do_ = 4 then crashS s x.k.l else s
def doV (s : DiskS) (x : Stp) : List Int := if x.do_ = 1 ∨ x.do_ = 2 ∨ x.do_ = 3 ∨ x.do_ = 4 then [] else readV s x.at_
def doE (s : DiskS) (x : Stp) : Int := if x.do_ = 1 then writeE s x.at_ x.b.l else if x.do_ = 2 then burnE s else if x.do_ = 3 then 0 else if x.do_ = 4 then 0 else readE s x.at_
theorem DiskWf.do_ {s : DiskS} {k : Nat} (h : DiskWf s k) {x : Stp} (hx : x.at_ ≤ 9223372036854775807) : DiskWf (doS s x) (k + 1) := by
  unfold doS
  split
  · exact h.write _ _
  · split
    · exact h.flush
    · split
      · exact (h.arm hx).mono (by omega)
      · split
        · exact (h.crash _).mono (by omega)
        · exact h.mono (by omega)
set_option maxHeartbeats 4000000 in
set_option maxRecDepth 100000 in
theorem do_walk (base p : Nat) (s : DiskS) (vs vn vw : Value) (x : Stp) (w : World) (h : DiskR w base p s vs vn vw) {k : Nat} (hwf : DiskWf s k) (hk : k ≤ 1000000) (hb : Keeps (Kd.int .u8) base w x.b.A x.b.l) (hkb : Keeps Kd.bool base w x.k.A x.k.l) (hkl : x.k.l.length ≤ 9223372036854775807) :
    Calls Try.prog 83 #[.pointer (some ⟨p, 0, none⟩), .agg #[.int .i64 x.do_, .int .i64 x.at_, .slice x.b.A x.b.l.length x.b.c, .slice x.k.A x.k.l.length x.k.c]] w fun e w' => ∃ v : Value, e = .returned (.tuple #[v, .int .i64 (doE s x)]) ∧ Kd.R (Kd.int .u8) 5 w' w.heap.size (fun _ => True) v (doV s x) ∧ DiskOk w' base p (doS s x) ∧ DFrame base w w' := by
  obtain ⟨dd, at_, ⟨Ab, cb, bl⟩, ⟨Ak, ck, kl⟩⟩ := x
  simp only at hb hkb hkl
  have hF0 : DFrame base w (w.alloc (.cells #[.int .i64 dd, .int .i64 at_, .slice Ab bl.length cb, .slice Ak kl.length ck] 93)) := DFrame.of_below h.size (below_alloc (Below.refl _ _) _)
  have hD0 : DiskR (w.alloc (.cells #[.int .i64 dd, .int .i64 at_, .slice Ab bl.length cb, .slice Ak kl.length ck] 93)) base p s vs vn vw := h.below (below_alloc (Below.refl w.heap.size w) _)
  have hl0 := hwf.l0
  have hl1 := hwf.l1
  have F0 := Aside0.mk hF0
  have D0 := Aside0.mk hD0
  have HSZ : Aside0 (w.heap.size ≤ (w.alloc (.cells #[.int .i64 dd, .int .i64 at_, .slice Ab bl.length cb, .slice Ak kl.length ck] 93)).heap.size) := ⟨by simp⟩
  by_cases c1 : dd = 1
  · subst c1
    have EV : Aside0 (doV s ⟨1, at_, ⟨Ab, cb, bl⟩, ⟨Ak, ck, kl⟩⟩ = []) := ⟨by simp [doV]⟩
    have EE : Aside0 (doE s ⟨1, at_, ⟨Ab, cb, bl⟩, ⟨Ak, ck, kl⟩⟩ = writeE s at_ bl) := ⟨by simp [doE]⟩
    have ES : Aside0 (doS s ⟨1, at_, ⟨Ab, cb, bl⟩, ⟨Ak, ck, kl⟩⟩ = writeS s at_ bl) := ⟨by simp [doS]⟩
    have WW := Aside0.mk (devWrite_walk base p s vs vn vw at_ Ab cb bl _ hD0 hwf.len (hb.stepD hF0).toD hwf.l0 hwf.l1 (by have := hwf.wl; omega) hwf.w0 (by have := hwf.w1; omega))
    clear h hwf hb hkb hkl hF0 hD0 hl0 hl1
    go_enter Try.func83, Try.ntmps83
    go_wp2_with (go_at_call 71; (with_reducible refine WW.out.mono ?_); rintro e w1 ⟨rfl, hD, hF⟩; have D1 := Aside0.mk hD; have F1 := Aside0.mk hF; clear hD hF)
    go_ret2
    rw [EE.out, EV.out, ES.out]
    obtain ⟨vw', hD⟩ := D1.out
    exact ⟨_, rfl, Kd.R_nil _ _ _ _ _, ⟨_, _, _, hD⟩, F0.out.trans F1.out⟩
  by_cases c2 : dd = 2
  · subst c2
    have EV : Aside0 (doV s ⟨2, at_, ⟨Ab, cb, bl⟩, ⟨Ak, ck, kl⟩⟩ = []) := ⟨by simp [doV]⟩
    have EE : Aside0 (doE s ⟨2, at_, ⟨Ab, cb, bl⟩, ⟨Ak, ck, kl⟩⟩ = burnE s) := ⟨by simp [doE]⟩
    have ES : Aside0 (doS s ⟨2, at_, ⟨Ab, cb, bl⟩, ⟨Ak, ck, kl⟩⟩ = flushS s) := ⟨by simp [doS]⟩
    have WW := Aside0.mk (devFlush_walk base p s vs vn vw _ hD0 hwf.len hwf.l0 hwf.l1 hwf.f0 (by have := hwf.f1; omega))
    clear h hwf hb hkb hkl hF0 hD0 hl0 hl1
    go_enter Try.func83, Try.ntmps83
    go_wp2_with (go_at_call 72; (with_reducible refine WW.out.mono ?_); rintro e w1 ⟨rfl, hD, hF⟩; have D1 := Aside0.mk hD; have F1 := Aside0.mk hF; clear hD hF)
    go_ret2
    rw [EE.out, EV.out, ES.out]
    obtain ⟨vw', hD⟩ := D1.out
    exact ⟨_, rfl, Kd.R_nil _ _ _ _ _, ⟨_, _, _, hD⟩, F0.out.trans F1.out⟩
  by_cases c3 : dd = 3
  · subst c3
    have EV : Aside0 (doV s ⟨3, at_, ⟨Ab, cb, bl⟩, ⟨Ak, ck, kl⟩⟩ = []) := ⟨by simp [doV]⟩
    have EE : Aside0 (doE s ⟨3, at_, ⟨Ab, cb, bl⟩, ⟨Ak, ck, kl⟩⟩ = 0) := ⟨by simp [doE]⟩
    have ES : Aside0 (doS s ⟨3, at_, ⟨Ab, cb, bl⟩, ⟨Ak, ck, kl⟩⟩ = armS s at_) := ⟨by simp [doS]⟩
    have WW := Aside0.mk (devArm_walk base p s vs vn vw at_ _ hD0)
    clear h hwf hb hkb hkl hF0 hD0 hl0 hl1
    go_enter Try.func83, Try.ntmps83
    go_wp2_with (go_at_call 69; (with_reducible refine WW.out.mono ?_); rintro e w1 ⟨⟨v_, rfl⟩, hD, hF⟩; have D1 := Aside0.mk hD; have F1 := Aside0.mk hF; clear hD hF)
    go_ret2
    rw [EE.out, EV.out, ES.out]
    exact ⟨_, rfl, Kd.R_nil _ _ _ _ _, ⟨_, _, _, D1.out⟩, F0.out.trans F1.out⟩
  by_cases c4 : dd = 4
  · subst c4
    have EV : Aside0 (doV s ⟨4, at_, ⟨Ab, cb, bl⟩, ⟨Ak, ck, kl⟩⟩ = []) := ⟨by simp [doV]⟩
    have EE : Aside0 (doE s ⟨4, at_, ⟨Ab, cb, bl⟩, ⟨Ak, ck, kl⟩⟩ = 0) := ⟨by simp [doE]⟩
    have ES : Aside0 (doS s ⟨4, at_, ⟨Ab, cb, bl⟩, ⟨Ak, ck, kl⟩⟩ = crashS s kl) := ⟨by simp [doS]⟩
    have WW := Aside0.mk (devCrash_walk base p s vs vn vw Ak ck kl _ hD0 hwf.len (hkb.stepD hF0).toD (by have := hwf.wl; omega) hkl hwf.at_)
    clear h hwf hb hkb hkl hF0 hD0 hl0 hl1
    go_enter Try.func83, Try.ntmps83
    go_wp2_with (go_at_call 70; (with_reducible refine WW.out.mono ?_); rintro e w1 ⟨⟨v_, rfl⟩, hD, hF⟩; have D1 := Aside0.mk hD; have F1 := Aside0.mk hF; clear hD hF)
    go_ret2
    rw [EE.out, EV.out, ES.out]
    exact ⟨_, rfl, Kd.R_nil _ _ _ _ _, D1.out, F0.out.trans F1.out⟩
  have EV : Aside0 (doV s ⟨dd, at_, ⟨Ab, cb, bl⟩, ⟨Ak, ck, kl⟩⟩ = readV s at_) := ⟨by simp [doV, c1, c2, c3, c4]⟩
  have EE : Aside0 (doE s ⟨dd, at_, ⟨Ab, cb, bl⟩, ⟨Ak, ck, kl⟩⟩ = readE s at_) := ⟨by simp [doE, c1, c2, c3, c4]⟩
  have ES : Aside0 (doS s ⟨dd, at_, ⟨Ab, cb, bl⟩, ⟨Ak, ck, kl⟩⟩ = s) := ⟨by simp [doS, c1, c2, c3, c4]⟩
  have WW := Aside0.mk (devRead_walk base p s vs vn vw at_ _ hD0 hwf.len)
  have d1 : (dd == 1) = false := by simpa using c1
  have d2 : (dd == 2) = false := by simpa using c2
  have d3 : (dd == 3) = false := by simpa using c3
  have d4 : (dd == 4) = false := by simpa using c4
  clear h hwf hb hkb hkl hF0 hD0 hl0 hl1 c1 c2 c3 c4
  go_enter Try.func83, Try.ntmps83
  go_wp2_with (go_at_call 68; (with_reducible refine WW.out.mono ?_); rintro e w1 ⟨v1, rfl, ho, hb⟩; have D1 := Aside0.mk (D0.out.below hb); have F1 := Aside0.mk (DFrame.of_below D0.out.size hb); have HO := Aside0.mk (Kd.R_lower ho HSZ.out); clear ho hb)
  go_ret2
  rw [EE.out, EV.out, ES.out]
  exact ⟨_, rfl, HO.out, ⟨_, _, _, D1.out⟩, F0.out.trans F1.out⟩
end Go.Proofs.Ytdknolnoimpgeaa.K
