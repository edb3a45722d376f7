/- A disk's methods: Crash. -/
import Derived.Test.YtdknolnoimpgeaaKDev9
namespace Go.Proofs.Ytdknolnoimpgeaa.K
open Go.RowKit Go.Proofs.YtdknolnoimpgeaaW.PrintWords Go.Proofs.YtdknolnoimpgeaaW.PrintLast Go.Proofs.YtdknolnoimpgeaaW.PrintMore
set_option linter.unusedVariables false
set_option linter.unusedSimpArgs false
theorem DiskR.putSafe {W : World} {base p : Nat} {s : DiskS} {vs vn vw : Value} (h : DiskR W base p s vs vn vw) {m : Nat} (hm : m < s.safe.length) (x : Sec) :
    ∃ g c, vs = .slice (some ⟨g, 0, none⟩) s.safe.length c ∧ W.there g (m * 64) 64 ∧ DiskR (W.setCells g (m * 64) x.enc) base p { s with safe := s.safe.set m x } vs vn vw ∧ DFrame base W (W.setCells g (m * 64) x.enc) := by
  obtain ⟨g, c, cs, hv, hb, bk, ht, hR, hg⟩ := Kd.R_putF h.safe hm x
  have hgp : g ≠ p := fun e => by
    subst e
    rw [h.blk] at bk
    simp only [Option.some.injEq, Obj.cells.injEq] at bk
    exact absurd bk.2.1 (by decide)
  have hown : vs.ownBlock = some g := by rw [hv]; rfl
  have hns : some g ≠ vn.ownBlock := fun e => h.apart g hown e.symm
  have hnw := Kd.R_ne h.wait bk (by decide)
  refine ⟨g, c, hv, ht, ⟨blk_grown h.blk hg (fun e => hgp (Option.some.inj e).symm), h.hp, hR, Kd.R_grown1 h.now rfl hg hns, Kd.R_grown1 h.wait rfl hg hnw, h.apart⟩, DFrame.grown h.size hg fun k e => ?_⟩
  cases e
  exact ⟨hb, cs, TSec, bk, by decide⟩
/-- The sectors that are safe behind the first m waiting writes. -/
def safeN (s : DiskS) (kept : List Bool) : Nat → List Sec
  | 0 => s.safe
  | m + 1 => match s.wait[m]? with
    | some p => if kept.getD m false = true then (safeN s kept m).set p.at_.toNat p.b else safeN s kept m
    | none => safeN s kept m
theorem safeN_length (s : DiskS) (kept : List Bool) : ∀ m, (safeN s kept m).length = s.safe.length
  | 0 => rfl
  | m + 1 => by
    unfold safeN
    split
    · split
      · rw [List.length_set]; exact safeN_length s kept m
      · exact safeN_length s kept m
    · exact safeN_length s kept m
def crashS (s : DiskS) (kept : List Bool) : DiskS := { s with safe := safeN s kept s.wait.length, now := safeN s kept s.wait.length, wait := [], left := -1, off := false }
def KeepsB (base : Nat) (W : World) (A : Option Addr) (l : List Bool) : Prop := ∀ W', DFrame base W W' → Kd.C Kd.bool W' A l.length l
/-- A pen's bytes, out of a variable of its own. -/
theorem load_penb {W : World} {q : Nat} {x : Pen} (h : W.heap[q]? = some (.cells x.enc.toArray TPen (0, 0))) : (Instr.loadAt TSec (.pointer (some ⟨q, 1, none⟩))).run Try.prog W = .ok (.agg x.b.enc.toArray) W := by
  refine run_loadAt_mid W q 1 TSec x.b.enc (.array 64 5) ?_ Try.underlying141 rfl (by rw [Sec.len]; exact secsize)
  intro j v hv
  rw [blk_cell h, List.getElem?_toArray]
  unfold Pen.enc
  rw [Nat.add_comm, List.getElem?_cons_succ]
  exact hv
set_option maxRecDepth 100000 in
theorem devCrash_nil (v : Value) (W : World) : Calls Try.prog 70 #[.pointer none, v] W fun e w' => (∃ v, e = .returned v) ∧ w' = W := by
  go_enter Try.func70, Try.ntmps70
  go_wp2
  refine ⟨rfl, _, results_none rfl _ _ _, ⟨_, rfl⟩, rfl⟩
set_option maxHeartbeats 8000000 in
set_option maxRecDepth 100000 in
theorem devCrash_walk (base p : Nat) (s : DiskS) (vs vn vw : Value) (A : Option Addr) (c : Nat) (kept : List Bool) (w : World) (h : DiskR w base p s vs vn vw) (hn : s.now.length = s.safe.length) (hk : KeepsB base w A kept)
    (hwl : s.wait.length ≤ 1000000) (hkl : kept.length ≤ 9223372036854775807) (hat : ∀ q ∈ s.wait, 0 ≤ q.at_ ∧ q.at_ < s.safe.length) :
    Calls Try.prog 70 #[.pointer (some ⟨p, 0, none⟩), .slice A kept.length c] w fun e w' => (∃ v, e = .returned v) ∧ DiskOk w' base p (crashS s kept) ∧ DFrame base w w' := by
  obtain ⟨Aw, cw, hvw⟩ := Kd.R_slice h.wait
  obtain ⟨As, cs, hvs⟩ := Kd.R_slice h.safe
  obtain ⟨An, cn, hvn⟩ := Kd.R_slice h.now
  subst hvw hvs hvn
  have b2 : w.cell? ⟨p, 2, none⟩ = some (.slice Aw s.wait.length cw) := (blk_cell h.blk 2).trans rfl
  have HD := Aside0.mk h
  have HF := Aside0.mk (DFrame.refl base w)
  have HK := Aside0.mk hk
  have HAT := Aside0.mk hat
  have HNS := Aside0.mk hn
  have HWL := Aside0.mk hwl
  obtain ⟨n, hnw⟩ : ∃ n, n = s.wait.length := ⟨_, rfl⟩
  obtain ⟨ns, hns⟩ : ∃ n, n = s.safe.length := ⟨_, rfl⟩
  obtain ⟨nn, hnn⟩ : ∃ n, n = s.now.length := ⟨_, rfl⟩
  obtain ⟨nk, hnk⟩ : ∃ n, n = kept.length := ⟨_, rfl⟩
  rw [← hnw, ← hns, ← hnn] at HD
  rw [← hnw] at b2 hwl
  rw [← hnk] at hkl ⊢
  have HNW := Aside0.mk hnw
  have HNs := Aside0.mk hns
  have HNK := Aside0.mk hnk
  clear h hk hat hn hnw hns hnn hnk
  go_enter Try.func70, Try.ntmps70
  go_wp2
  go_loopw [13] (fun v13 w' => ∃ m : Nat, v13 = .int .i64 m ∧ Aside0 (m ≤ n) ∧ Aside0 (DiskR w' base p { s with safe := safeN s kept m } (.slice As ns cs) (.slice An nn cn) (.slice Aw n cw)) ∧ Aside0 (DFrame base w w')) (fun i _ => n - (intOf i).toNat)
  case atStart => exact ⟨0, rfl, ⟨Nat.zero_le _⟩, HD, HF⟩
  case round =>
    clear HD HF b2
    obtain ⟨m, rfl, hm, HD, HF⟩ := hrel
    have hm' := hm.out
    by_cases hlt : m < n
    · have hml : m < s.wait.length := by rw [← HNW.out]; exact hlt
      have hCw := (Kd.R_reads' HD.out.wait).2.2
      obtain ⟨ad, rfl, hld⟩ := load_pen (xs := s.wait) (n := n) (by have h_ := hCw; simp only at h_; rw [← HNW.out] at h_; exact h_) hml
      have hxat := HAT.out _ (List.getElem_mem hml)
      have HSN : Aside0 (safeN s kept (m + 1) = if kept.getD m false = true then (safeN s kept m).set s.wait[m].at_.toNat s.wait[m].b else safeN s kept m) := ⟨by rw [safeN, List.getElem?_eq_getElem hml]⟩
      obtain ⟨x, hxx⟩ : ∃ x, x = s.wait[m] := ⟨_, rfl⟩
      rw [← hxx] at hld hxat HSN
      obtain ⟨k, hk0⟩ : ∃ k : Nat, x.at_ = k := ⟨x.at_.toNat, by omega⟩
      have HKL : Aside0 (k < (safeN s kept m).length) := ⟨by rw [safeN_length]; omega⟩
      have hkns : k < ns := by rw [HNs.out]; omega
      have HK0 := Aside0.mk hk0
      have HX1 : Aside0 (x.enc.toArray.all (·.oneCell') = true) := ⟨all_oneCell_toArray (Pen.one x)⟩
      have HX2 : Aside0 (x.enc.toArray.size = 65) := ⟨by simp [Pen.len]⟩
      clear hxx hml hCw hxat hk0
      by_cases hmk : m < nk
      case neg =>
        have hge : nk ≤ m := by omega
        have E0 : Aside0 (safeN s kept (m + 1) = safeN s kept m) := ⟨by rw [HSN.out, if_neg]; rw [List.getD_eq_getElem?_getD, List.getElem?_eq_none (by rw [← HNK.out]; exact hge)]; simp⟩
        clear hmk
        go_wp2_with (first | ((with_reducible refine gate_dst (N := 17) rfl ?_); refine wpList_load_run rfl TPen (.tmp 16) rfl rfl hld ?_) | ((with_reducible refine gate_store (p := 5) rfl ?_); go_loud (refine wpList_store_newL (w0 := wr) rfl rfl TPen (.tmp 5) (.tmp 17) rfl x.enc.toArray TPen _ rfl (by rfl) (by rfl) (by rw [HX2.out]; exact pensize) (by rw [HX2.out]; rfl) HX1.out ?_; intro w6 bk_ hb_; have D6 := Aside0.mk (HD.out.below hb_); have F6 := Aside0.mk (HF.out.trans (DFrame.of_below HD.out.size hb_)); have BK6 := Aside0.mk bk_; clear HD HF bk_ hb_ hld)))
        exact ⟨⟨m + 1, rfl, ⟨by omega⟩, ⟨by rw [E0.out]; exact D6.out⟩, F6⟩, by simp [intOf]; omega⟩
      obtain ⟨ak, rfl, hkc⟩ := Kd.at_bool (HK.out wr HF.out) (m : Int) (by omega) (by rw [← HNK.out]; omega)
      rw [Int.toNat_natCast, show rdOf false kept (m : Int) = kept.getD m false by unfold rdOf; rw [Int.toNat_natCast]] at hkc
      cases hkv : kept.getD m false with
      | false =>
        have E0 : Aside0 (safeN s kept (m + 1) = safeN s kept m) := ⟨by rw [HSN.out, hkv]; simp⟩
        rw [hkv] at hkc
        clear hkv
        go_wp2_with (first | ((with_reducible refine gate_dst (N := 17) rfl ?_); refine wpList_load_run rfl TPen (.tmp 16) rfl rfl hld ?_) | ((with_reducible refine gate_store (p := 5) rfl ?_); go_loud (refine wpList_store_newL (w0 := wr) rfl rfl TPen (.tmp 5) (.tmp 17) rfl x.enc.toArray TPen _ rfl (by rfl) (by rfl) (by rw [HX2.out]; exact pensize) (by rw [HX2.out]; rfl) HX1.out ?_; intro w6 bk_ hb_; have D6 := Aside0.mk (HD.out.below hb_); have F6 := Aside0.mk (HF.out.trans (DFrame.of_below HD.out.size hb_)); have BK6 := Aside0.mk bk_; have kc := pw_cell_below hb_ hkc; clear HD HF bk_ hb_ hld)))
        exact ⟨⟨m + 1, rfl, ⟨by omega⟩, ⟨by rw [E0.out]; exact D6.out⟩, F6⟩, by simp [intOf]; omega⟩
      | true =>
        have E0 : Aside0 (safeN s kept (m + 1) = (safeN s kept m).set k x.b) := ⟨by rw [HSN.out, hkv, HK0.out]; simp⟩
        rw [hkv] at hkc
        obtain ⟨g, c_, hvs, _⟩ := HD.out.putSafe HKL.out x.b
        have hAs : As = some ⟨g, 0, none⟩ := by cases hvs; rfl
        subst hAs
        clear hkv hvs
        go_wp2_with (first | ((with_reducible refine gate_dst (N := 17) rfl ?_); refine wpList_load_run rfl TPen (.tmp 16) rfl rfl hld ?_) | ((with_reducible refine gate_store (p := 5) rfl ?_); go_loud (refine wpList_store_newL (w0 := wr) rfl rfl TPen (.tmp 5) (.tmp 17) rfl x.enc.toArray TPen _ rfl (by rfl) (by rfl) (by rw [HX2.out]; exact pensize) (by rw [HX2.out]; rfl) HX1.out ?_; intro w6 bk_ hb_; have D6 := Aside0.mk (HD.out.below hb_); have F6 := Aside0.mk (HF.out.trans (DFrame.of_below HD.out.size hb_)); have BK6 := Aside0.mk bk_; have kc := pw_cell_below hb_ hkc; clear HD HF bk_ hb_ hld)))
        refine start_ (n := 10) (S := fun w' => w'.cell? ⟨p, 0, none⟩ = some (.slice (some ⟨g, 0, none⟩) ns cs) ∧ w'.cell? ⟨wr.heap.size, 0, none⟩ = some (.int .i64 k) ∧ w'.heap[wr.heap.size]? = some (.cells x.enc.toArray TPen (0, 0))) (ds := [9]) #[false, false, false, false, false, false, false, false, false, false] (by kernel_rfl) rfl rfl ⟨((blk_cell (blk_drew D6.out.blk) 0).trans rfl), ((blk_cell (blk_drew BK6.out) 0).trans (by show some (Value.int .i64 x.at_) = _; rw [HK0.out])), (blk_drew BK6.out)⟩ (fun hHeld => ?_)
        refine pure_ (i := 0) (N := some 28) (v := ?_) (a' := ?_) #[true, false, false, false, false, false, false, false, false, false] rfl rfl (by kernel_rfl) (fun _ _ _ h => h) (Or.inl ⟨by rfl, ?_⟩) ?_ ?_
        rotate_left
        · intro w'
          go_simp
          with_reducible rfl
        rotate_left
        · simp only [Act.put, List.setIfInBounds_toArray, List.set_cons_zero, List.set_cons_succ, i64_w, i32_w]
          rfl
        refine pure_ (i := 1) (N := some 29) (v := ?_) (a' := ?_) #[true, true, false, false, false, false, false, false, false, false] rfl rfl (by kernel_rfl) (fun _ _ _ h => h) (Or.inl ⟨by rfl, ?_⟩) ?_ ?_
        rotate_left
        · intro w'
          go_simp
          with_reducible rfl
        rotate_left
        · simp only [Act.put, List.setIfInBounds_toArray, List.set_cons_zero, List.set_cons_succ, i64_w, i32_w]
          rfl
        refine pure_ (i := 2) (N := some 30) (v := ?_) (a' := ?_) #[true, true, true, false, false, false, false, false, false, false] rfl rfl (by kernel_rfl) (fun _ _ _ h => h) (Or.inl ⟨by rfl, ?_⟩) ?_ ?_
        rotate_left
        · intro w'
          go_simp
          with_reducible rfl
        rotate_left
        · simp only [Act.put, List.setIfInBounds_toArray, List.set_cons_zero, List.set_cons_succ, i64_w, i32_w]
          rfl
        refine pure_ (i := 4) (N := some 32) (v := ?_) (a' := ?_) #[true, true, true, false, true, false, false, false, false, false] rfl rfl (by kernel_rfl) (fun _ _ _ h => h) (Or.inl ⟨by rfl, ?_⟩) ?_ ?_
        rotate_left
        · intro w'
          go_simp
          with_reducible rfl
        rotate_left
        · simp only [Act.put, List.setIfInBounds_toArray, List.set_cons_zero, List.set_cons_succ, i64_w, i32_w]
          rfl
        refine pure_ (i := 6) (N := some 34) (v := ?_) (a' := ?_) #[true, true, true, false, true, false, true, false, false, false] rfl rfl (by kernel_rfl) (fun _ _ _ h => h) (Or.inl ⟨by rfl, ?_⟩) ?_ ?_
        rotate_left
        · intro w'
          go_simp
          with_reducible rfl
        rotate_left
        · simp only [Act.put, List.setIfInBounds_toArray, List.set_cons_zero, List.set_cons_succ, i64_w, i32_w]
          rfl
        refine take_ (i := 3) (N := some 31) (v := ?_) (a' := ?_) #[true, true, true, true, true, false, true, false, false, false] rfl rfl (by kernel_rfl) (fun _ _ _ h => h) (Or.inl ⟨by rfl, ?_⟩) hHeld ?_ ?_
        rotate_left
        · rintro w' ⟨s0, s1, s2⟩
          go_simp
          with_reducible rfl
        rotate_left
        · simp only [Act.put, List.setIfInBounds_toArray, List.set_cons_zero, List.set_cons_succ, i64_w, i32_w]
          rfl
        refine take_ (i := 5) (N := some 33) (v := ?_) (a' := ?_) #[true, true, true, true, true, true, true, false, false, false] rfl rfl (by kernel_rfl) (fun _ _ _ h => h) (Or.inl ⟨by rfl, ?_⟩) hHeld ?_ ?_
        rotate_left
        · rintro w' ⟨s0, s1, s2⟩
          go_simp
          with_reducible rfl
        rotate_left
        · simp only [Act.put, List.setIfInBounds_toArray, List.set_cons_zero, List.set_cons_succ, i64_w, i32_w]
          rfl
        refine take_ (i := 7) (N := some 35) (v := ?_) (a' := ?_) #[true, true, true, true, true, true, true, true, false, false] rfl rfl (by kernel_rfl) (fun _ _ _ h => h) (Or.inl ⟨by rfl, ?_⟩) hHeld ?_ ?_
        rotate_left
        · rintro w' ⟨s0, s1, s2⟩
          rw [exec_load rfl (show _ = Value.pointer (some ⟨wr.heap.size, 1, none⟩) from rfl) (load_penb s2)]
        rotate_left
        · simp only [Act.put, List.setIfInBounds_toArray, List.set_cons_zero, List.set_cons_succ, i64_w, i32_w]
          rfl
        refine pure_ (i := 8) (N := some 36) (v := ?_) (a' := ?_) #[true, true, true, true, true, true, true, true, true, false] rfl rfl (by kernel_rfl) (fun _ _ _ h => h) (Or.inl ⟨by rfl, ?_⟩) ?_ ?_
        rotate_left
        · intro w'
          go_simp
          with_reducible rfl
        rotate_left
        · simp only [Act.put, List.setIfInBounds_toArray, List.set_cons_zero, List.set_cons_succ, i64_w, i32_w]
          rfl
        refine last_ (i := 9) (N := none) #[true, true, true, true, true, true, true, true, true, true] rfl rfl (by kernel_rfl) (by decide) (fun K hK => ?_)
        obtain ⟨w8, hw8⟩ : ∃ w8, w8 = w6.drew := ⟨_, rfl⟩
        rw [← hw8] at hHeld ⊢
        have D8 : Aside0 (DiskR w8 base p { s with safe := safeN s kept m } (.slice (some ⟨g, 0, none⟩) ns cs) (.slice An nn cn) (.slice (some ad) n cw)) := ⟨by rw [hw8]; exact D6.out.drew⟩
        have F8 : Aside0 (DFrame base w w8) := ⟨by rw [hw8]; exact F6.out.drew⟩
        clear hw8 D6 F6 hHeld
        obtain ⟨g_, c_, hv_, ht8, hD8, hF8⟩ := D8.out.putSafe HKL.out x.b
        obtain rfl : g = g_ := by cases hv_; rfl
        have D7 := Aside0.mk hD8
        have F7 := Aside0.mk (F8.out.trans hF8)
        clear hv_ hD8 hF8 D8 F8
        refine skip_ (w1 := w8.setCells g (k * 64) x.b.enc) (by rfl) rfl ?_ ?_
        · exact exec_store (x := .tmp 36) (y := .tmp 35) rfl rfl rfl (run_storeAt_mid w8 g (k * 64) TSec x.b.enc.toArray (by simpa [Sec.len] using ht8) (by rw [show x.b.enc.toArray.size = 64 by simp [Sec.len]]; exact secsize) (all_oneCell_toArray (Sec.one x.b)))
        refine hK.out _ _ ?_
        clear hK K
        refine done_ (by kernel_rfl) ?_
        go_wp2
        exact ⟨⟨m + 1, rfl, ⟨by omega⟩, ⟨by rw [E0.out]; exact D7.out⟩, F7⟩, by simp [intOf]; omega⟩
    · have hmn : m = n := by omega
      subst hmn
      have HN : Aside0 ((({ s with safe := safeN s kept m } : DiskS)).now.length = (({ s with safe := safeN s kept m } : DiskS)).safe.length) := ⟨by show s.now.length = (safeN s kept m).length; rw [safeN_length]; exact HNS.out⟩
      have EV : Aside0 (crashS s kept = { s with safe := safeN s kept m, now := safeN s kept m, wait := [], left := -1, off := false }) := ⟨by unfold crashS; rw [← HNW.out]⟩
      clear hlt
      go_wp2
      refine start_ (n := 9) (S := fun w' => w'.cell? ⟨p, 0, none⟩ = some (.slice As ns cs) ∧ w'.cell? ⟨p, 1, none⟩ = some (.slice An nn cn)) (ds := [8]) #[false, false, false, false, false, false, false, false, false] (by kernel_rfl) rfl rfl ⟨((blk_cell (blk_drew HD.out.blk) 0).trans rfl), ((blk_cell (blk_drew HD.out.blk) 1).trans rfl)⟩ (fun hHeld => ?_)
      refine pure_ (i := 0) (N := some 38) (v := ?_) (a' := ?_) #[true, false, false, false, false, false, false, false, false] rfl rfl (by kernel_rfl) (fun _ _ _ h => h) (Or.inl ⟨by rfl, ?_⟩) ?_ ?_
      rotate_left
      · intro w'
        go_simp
        with_reducible rfl
      rotate_left
      · simp only [Act.put, List.setIfInBounds_toArray, List.set_cons_zero, List.set_cons_succ, i64_w, i32_w]
        rfl
      refine pure_ (i := 1) (N := some 39) (v := ?_) (a' := ?_) #[true, true, false, false, false, false, false, false, false] rfl rfl (by kernel_rfl) (fun _ _ _ h => h) (Or.inl ⟨by rfl, ?_⟩) ?_ ?_
      rotate_left
      · intro w'
        go_simp
        with_reducible rfl
      rotate_left
      · simp only [Act.put, List.setIfInBounds_toArray, List.set_cons_zero, List.set_cons_succ, i64_w, i32_w]
        rfl
      refine pure_ (i := 2) (N := some 40) (v := ?_) (a' := ?_) #[true, true, true, false, false, false, false, false, false] rfl rfl (by kernel_rfl) (fun _ _ _ h => h) (Or.inl ⟨by rfl, ?_⟩) ?_ ?_
      rotate_left
      · intro w'
        go_simp
        with_reducible rfl
      rotate_left
      · simp only [Act.put, List.setIfInBounds_toArray, List.set_cons_zero, List.set_cons_succ, i64_w, i32_w]
        rfl
      refine pure_ (i := 4) (N := some 42) (v := ?_) (a' := ?_) #[true, true, true, false, true, false, false, false, false] rfl rfl (by kernel_rfl) (fun _ _ _ h => h) (Or.inl ⟨by rfl, ?_⟩) ?_ ?_
      rotate_left
      · intro w'
        go_simp
        with_reducible rfl
      rotate_left
      · simp only [Act.put, List.setIfInBounds_toArray, List.set_cons_zero, List.set_cons_succ, i64_w, i32_w]
        rfl
      refine pure_ (i := 5) (N := some 43) (v := ?_) (a' := ?_) #[true, true, true, false, true, true, false, false, false] rfl rfl (by kernel_rfl) (fun _ _ _ h => h) (Or.inl ⟨by rfl, ?_⟩) ?_ ?_
      rotate_left
      · intro w'
        go_simp
        with_reducible rfl
      rotate_left
      · simp only [Act.put, List.setIfInBounds_toArray, List.set_cons_zero, List.set_cons_succ, i64_w, i32_w]
        rfl
      refine pure_ (i := 6) (N := some 44) (v := ?_) (a' := ?_) #[true, true, true, false, true, true, true, false, false] rfl rfl (by kernel_rfl) (fun _ _ _ h => h) (Or.inl ⟨by rfl, ?_⟩) ?_ ?_
      rotate_left
      · intro w'
        go_simp
        with_reducible rfl
      rotate_left
      · simp only [Act.put, List.setIfInBounds_toArray, List.set_cons_zero, List.set_cons_succ, i64_w, i32_w]
        rfl
      refine take_ (i := 3) (N := some 41) (v := ?_) (a' := ?_) #[true, true, true, true, true, true, true, false, false] rfl rfl (by kernel_rfl) (fun _ _ _ h => h) (Or.inl ⟨by rfl, ?_⟩) hHeld ?_ ?_
      rotate_left
      · rintro w' ⟨s0, s1⟩
        go_simp
        with_reducible rfl
      rotate_left
      · simp only [Act.put, List.setIfInBounds_toArray, List.set_cons_zero, List.set_cons_succ, i64_w, i32_w]
        rfl
      refine take_ (i := 7) (N := some 45) (v := ?_) (a' := ?_) #[true, true, true, true, true, true, true, true, false] rfl rfl (by kernel_rfl) (fun _ _ _ h => h) (Or.inl ⟨by rfl, ?_⟩) hHeld ?_ ?_
      rotate_left
      · rintro w' ⟨s0, s1⟩
        go_simp
        with_reducible rfl
      rotate_left
      · simp only [Act.put, List.setIfInBounds_toArray, List.set_cons_zero, List.set_cons_succ, i64_w, i32_w]
        rfl
      refine last_ (i := 8) (N := some 46) #[true, true, true, true, true, true, true, true, true] rfl rfl (by kernel_rfl) (by decide) (fun K hK => ?_)
      obtain ⟨w6, hw6⟩ : ∃ w6, w6 = wr.drew := ⟨_, rfl⟩
      rw [← hw6] at hHeld ⊢
      have D6 : Aside0 (DiskR w6 base p { s with safe := safeN s kept m } (.slice As ns cs) (.slice An nn cn) (.slice Aw m cw)) := ⟨by rw [hw6]; exact HD.out.drew⟩
      have F6 : Aside0 (DFrame base w w6) := ⟨by rw [hw6]; exact HF.out.drew⟩
      clear hw6 HD HF hHeld
      obtain ⟨w7, hrun, hD7, hF7⟩ := D6.out.copyNow HN.out 3
      have D7 := Aside0.mk hD7
      have F7 := Aside0.mk (F6.out.trans hF7)
      have HRUN := Aside0.mk hrun
      clear hD7 hF7 hrun D6 F6
      refine value_ (w1 := w7) (v := _) (by rfl) rfl (exec_copy (d := .tmp 41) (x := .tmp 45) rfl rfl rfl HRUN.out) ?_
      clear HRUN
      refine hK.out _ _ ?_
      clear hK K
      refine norm_ (a' := ?_) ?_ ?_
      rotate_left
      · show Act.put _ (some 46) _ = _
        simp only [Act.put, List.setIfInBounds_toArray, List.set_cons_zero, List.set_cons_succ, i64_w, i32_w]
        rfl
      refine done_ (by kernel_rfl) ?_
      have c2 : w7.cell? ⟨p, 2, none⟩ = some (.slice Aw m cw) := (blk_cell D7.out.blk 2).trans rfl
      have c3 : w7.cell? ⟨p, 3, none⟩ = some (.int .i64 s.left) := (blk_cell D7.out.blk 3).trans rfl
      have c4 : w7.cell? ⟨p, 4, none⟩ = some (.bool s.off) := (blk_cell D7.out.blk 4).trans rfl
      have f2 := blk_frozen D7.out.blk 2
      have f3 := blk_frozen D7.out.blk 3
      have f4 := blk_frozen D7.out.blk 4
      have D8 := D7.out.noWait
      have D9 := D8.set 3 (.int .i64 (-1)) (s' := { s with safe := safeN s kept m, now := safeN s kept m, wait := [], left := -1 }) (by simp) (by simp) (by simp) (by simp)
      have DZ : Aside0 (DiskR (((w7.setCell ⟨p, 2, none⟩ (.slice none 0 0)).setCell ⟨p, 3, none⟩ (.int .i64 (-1))).setCell ⟨p, 4, none⟩ (.bool false)) base p { s with safe := safeN s kept m, now := safeN s kept m, wait := [], left := -1, off := false } (.slice As ns cs) (.slice An nn cn) (.slice none 0 0)) := ⟨D9.set 4 _ (by simp) (by simp) (by simp) (by simp)⟩
      have FZ : Aside0 (DFrame base w (((w7.setCell ⟨p, 2, none⟩ (.slice none 0 0)).setCell ⟨p, 3, none⟩ (.int .i64 (-1))).setCell ⟨p, 4, none⟩ (.bool false))) := ⟨F7.out.trans ((DFrame.set D7.out.hp D7.out.blk (by decide) _).trans ((DFrame.set D7.out.hp D8.blk (by decide) _).trans (DFrame.set D7.out.hp D9.blk (by decide) _)))⟩
      clear D8 D9
      go_wp2
      refine ⟨rfl, _, results_none rfl _ _ _, ⟨_, rfl⟩, ?_, FZ.out⟩
      rw [EV.out]
      exact ⟨_, _, _, DZ.out⟩
end Go.Proofs.Ytdknolnoimpgeaa.K
