/- The walks of the package answer: Split. -/
import Derived.Test.YtfbcnmjahpbbeaaR31
namespace Go.Proofs.Ytfbcnmjahpbbeaa.K
open Go.RowKit Go.Proofs.YtfbcnmjahpbbeaaW.PrintWords Go.Proofs.YtfbcnmjahpbbeaaW.PrintLast Go.Proofs.YtfbcnmjahpbbeaaW.PrintMore
set_option linter.unusedVariables false
set_option linter.unusedSimpArgs false
theorem fndinfo : (Try.prog.info? 68).map (fun i => (i.zero, i.size, i.bytes)) = some (some (.agg #[.int .i64 0, .int .i64 0, .int .i64 0, .int .i64 0]), 4, 32) := by kernel_rfl
theorem flat_ne : ∀ q, q ∈ 68 :: kFnd.E → q ≠ 69 := by
  intro q hq
  have h_ : q = 68 := by
    have h2 : kFnd.E = [] := rfl
    rw [h2] at hq
    simpa using hq
  rw [h_]; decide
theorem filter_take {α : Type} {P : α → Bool} {L : List α} {m : Nat} (h : m < L.length) : (L.take (m + 1)).filter P = if P L[m] = true then (L.take m).filter P ++ [L[m]] else (L.take m).filter P := by
  rw [List.take_succ_eq_append_getElem h, List.filter_append]
  cases hb : P L[m] <;> simp [hb]
set_option maxHeartbeats 2000000 in
set_option maxRecDepth 100000 in
theorem split_walk (mode : Int) (A : Option Addr) (c : Nat) (l : List Ans) (d : Bool) (A2 : Option Addr) (c2 : Nat) (L : List Fnd) (w : World) (hr : Kd.C kAns w A l.length l) (hl : l.length ≤ 9223372036854775807) (hr2 : Kd.C kFnd w A2 L.length L) (hL : L.length ≤ 1000000) :
    Calls Try.prog 55 #[.agg #[.int .i64 mode, .slice A l.length c, .bool d], .slice A2 L.length c2] w fun e w' => ∃ vy vn : Value, e = .returned (.tuple #[vy, vn]) ∧ Kd.R kFnd 68 w' w.heap.size (fun _ => True) vy (L.filter (yesP mode l d)) ∧ Kd.R kFnd 68 w' w.heap.size (fun _ => True) vn (L.filter (fun f => !yesP mode l d f)) ∧ Below w.heap.size w w' := by
  have HR := Aside0.mk hr
  have HR2 := Aside0.mk hr2
  have WY := Aside0.mk (fun (f : Fnd) W (h : Kd.C kAns W A l.length l) => yes_walk mode A c l d f W h hl)
  obtain ⟨P, hP⟩ : ∃ P, P = yesP mode l d := ⟨_, rfl⟩
  have hP2 : (fun f => !yesP mode l d f) = fun f => !P f := by rw [hP]
  rw [← hP]
  have WY2 : Aside0 (∀ (x : Fnd) W, Kd.C kAns W A l.length l → Calls Try.prog 57 #[.agg #[.int .i64 mode, .slice A l.length c, .bool d], .agg #[.int .i64 x.cl, .int .i64 x.la, .int .i64 x.ino, .int .i64 x.sl]] W fun e w' => e = .returned (.bool (P x)) ∧ Below W.heap.size W w') := ⟨by rw [hP]; exact WY.out⟩
  clear hr hr2 WY hP hP2
  go_enter Try.func55, Try.ntmps55
  go_wp2
  go_loopw [13] (fun v13 w' => ∃ m : Nat, ∃ vy vn : Value, v13 = .int .i64 m ∧ Aside0 (m ≤ L.length) ∧ Aside0 (w'.heap[w.heap.size]? = some (.cells #[.int .i64 mode, .slice A l.length c, .bool d] 66 (0, 0))) ∧ Aside0 (w'.heap[(w.heap.size + 1)]? = some (.cells #[vy] 69 (0, 0))) ∧ Aside0 (w'.heap[(w.heap.size + 1 + 1)]? = some (.cells #[vn] 69 (0, 0))) ∧
    Aside0 (Kd.R kFnd 68 w' w.heap.size (fun _ => True) vy (List.filter P (List.take m L))) ∧ Aside0 (Kd.R kFnd 68 w' w.heap.size (fun _ => True) vn (List.filter (fun f => !P f) (List.take m L))) ∧ Aside0 (∀ b, vy.ownBlock = some b → vn.ownBlock ≠ some b) ∧ Aside0 (Below w.heap.size w w')) (fun i _ => L.length - (intOf i).toNat)
  case atStart =>
    refine ⟨0, _, _, rfl, ⟨Nat.zero_le _⟩, ⟨?_⟩, ⟨?_⟩, ⟨?_⟩, ⟨Kd.R_nil _ _ _ _ _⟩, ⟨Kd.R_nil _ _ _ _ _⟩, ⟨fun b h => by cases h⟩, ⟨?_⟩⟩
    · exact blk_alloc (blk_alloc (heap_alloc_new w _) _) _
    · exact blk_alloc (heap_at2 (by simp)) _
    · exact heap_at2 (by simp)
    · exact below_alloc (below_alloc (below_alloc (Below.refl _ _) _) _) _
  case round =>
    obtain ⟨m, vy, vn, rfl, hm, BS, BY, BN, RY, RN, NE, HB⟩ := hrel
    have hm' := hm.out
    by_cases hlt : m < L.length
    · obtain ⟨ad, rfl, hx, hxs⟩ := Kd.at_flatA (Kd.C_below HR2.out HB.out) hlt
      have FY := filter_take (P := P) hlt
      have FN := filter_take (P := fun f => !P f) hlt
      obtain ⟨x, hxx⟩ : ∃ x, x = L[m] := ⟨_, rfl⟩
      rw [← hxx] at hx hxs FY FN
      obtain ⟨xc, xl, xi, xs_⟩ := x
      have x0 := hx _ rfl
      have x1 := hxs 0 _ rfl
      have x2 := hxs 1 _ rfl
      have x3 := hxs 2 _ rfl
      simp only [Nat.reduceAdd] at x1 x2 x3
      have s0 : wr.cell? ⟨w.heap.size, 0, none⟩ = some (.int .i64 mode) := (blk_cell BS.out 0).trans rfl
      have s1 : wr.cell? ⟨w.heap.size, 1, none⟩ = some (.slice A l.length c) := (blk_cell BS.out 1).trans rfl
      have s2 : wr.cell? ⟨w.heap.size, 2, none⟩ = some (.bool d) := (blk_cell BS.out 2).trans rfl
      have sz : w.heap.size < wr.heap.size := World.block_lt_of_cell? _ _ s0
      have hlim : Aside0 (((List.filter P (List.take m L)).length + 1) * 32 ≤ 140737488355328 ∧ ((List.filter (fun f => !P f) (List.take m L)).length + 1) * 32 ≤ 140737488355328) := ⟨by
        have h1 := List.length_filter_le P (List.take m L)
        have h2 := List.length_filter_le (fun f => !P f) (List.take m L)
        have h3 := List.length_take_le m L
        omega⟩
      have WX := Aside0.mk (WY2.out ⟨xc, xl, xi, xs_⟩)
      clear hx hxs hxx
      cases hy : P ⟨xc, xl, xi, xs_⟩ with
      | true =>
        rw [hy] at WX FY FN
        have FYA := Aside0.mk FY
        have FNA := Aside0.mk FN
        have hlim := Aside0.mk hlim.out.1
        clear FY FN hy
        go_wp2_with (first | (go_at_call 57; (with_reducible refine (WX.out _ (Kd.C_below HR.out (by repeat (first | (with_reducible first | exact HB.out | apply below_alloc | apply pw_below_drewN | apply below_drew1) | exact HB.out)))).mono ?_); rintro e w5 ⟨rfl, hb⟩; have BT : Aside0 (w5.heap[wr.heap.size]? = some (.cells #[.int .i64 xc, .int .i64 xl, .int .i64 xi, .int .i64 xs_] 68 (0, 0))) := ⟨blk_below (heap_alloc_new wr _) hb⟩; have n_ := Aside0.mk (blk_below (by first | exact BS.out | exact blk_drewN BS.out _ | exact blk_alloc BS.out _) hb); clear BS; have BS := n_; clear n_; have n_ := Aside0.mk (blk_below (by first | exact BY.out | exact blk_drewN BY.out _ | exact blk_alloc BY.out _) hb); clear BY; have BY := n_; clear n_; have n_ := Aside0.mk (blk_below (by first | exact BN.out | exact blk_drewN BN.out _ | exact blk_alloc BN.out _) hb); clear BN; have BN := n_; clear n_; have n_ : Aside0 (Kd.R kFnd 68 w5 w.heap.size (fun _ => True) vy (List.filter P (List.take m L))) := ⟨Kd.R_below (Kd.R_alloc RY.out _) hb⟩; clear RY; have RY := n_; clear n_; have n_ : Aside0 (Kd.R kFnd 68 w5 w.heap.size (fun _ => True) vn (List.filter (fun f => !P f) (List.take m L))) := ⟨Kd.R_below (Kd.R_alloc RN.out _) hb⟩; clear RN; have RN := n_; clear n_; have n1_ : Aside0 (Below w.heap.size w w5) := ⟨below_step (by repeat (first | (with_reducible first | exact HB.out | apply below_alloc | apply pw_below_drewN | apply below_drew1) | exact HB.out)) hb⟩; clear HB; have HB := n1_; clear n1_; clear hb x0 x1 x2 x3 s0 s1 s2))
        refine start_ (n := 9) (S := fun w' => w'.cell? ⟨(w.heap.size + 1), 0, none⟩ = some vy ∧ w'.cell? ⟨wr.heap.size, 0, none⟩ = some (.int .i64 xc) ∧ w'.cell? ⟨wr.heap.size, 1, none⟩ = some (.int .i64 xl) ∧ w'.cell? ⟨wr.heap.size, 2, none⟩ = some (.int .i64 xi) ∧ w'.cell? ⟨wr.heap.size, 3, none⟩ = some (.int .i64 xs_)) (ds := [6, 8]) #[false, false, false, false, false, false, false, false, false] (by kernel_rfl) rfl rfl ⟨(blk_cell (blk_drew BY.out) 0).trans rfl, (blk_cell (blk_drew BT.out) 0).trans rfl, (blk_cell (blk_drew BT.out) 1).trans rfl, (blk_cell (blk_drew BT.out) 2).trans rfl, (blk_cell (blk_drew BT.out) 3).trans rfl⟩ (fun hHeld => ?_)
        refine pure_ (i := 0) (N := some 20) (v := ?_) (a' := ?_) #[true, false, false, false, false, false, false, false, false] rfl rfl (by kernel_rfl) (fun _ _ _ h => h) (Or.inl ⟨by rfl, ?_⟩) ?_ ?_
        rotate_left
        · intro w'
          go_simp
          with_reducible rfl
        rotate_left
        · simp only [Act.put, List.setIfInBounds_toArray, List.set_cons_zero, List.set_cons_succ, i64_w, i32_w]
          rfl
        refine pure_ (i := 1) (N := some 21) (v := ?_) (a' := ?_) #[true, true, false, false, false, false, false, false, false] rfl rfl (by kernel_rfl) (fun _ _ _ h => h) (Or.inl ⟨by rfl, ?_⟩) ?_ ?_
        rotate_left
        · intro w'
          go_simp
          with_reducible rfl
        rotate_left
        · simp only [Act.put, List.setIfInBounds_toArray, List.set_cons_zero, List.set_cons_succ, i64_w, i32_w]
          rfl
        refine pure_ (i := 2) (N := some 22) (v := ?_) (a' := ?_) #[true, true, true, false, false, false, false, false, false] rfl rfl (by kernel_rfl) (fun _ _ _ h => h) (Or.inl ⟨by rfl, ?_⟩) ?_ ?_
        rotate_left
        · intro w'
          go_simp
          with_reducible rfl
        rotate_left
        · simp only [Act.put, List.setIfInBounds_toArray, List.set_cons_zero, List.set_cons_succ, i64_w, i32_w]
          rfl
        refine take_ (i := 3) (N := some 23) (v := ?_) (a' := ?_) #[true, true, true, true, false, false, false, false, false] rfl rfl (by kernel_rfl) (fun _ _ _ h => h) (Or.inl ⟨by rfl, ?_⟩) hHeld ?_ ?_
        rotate_left
        · rintro w' ⟨s0, s1, s2, s3, s4⟩
          go_simp
          with_reducible rfl
        rotate_left
        · simp only [Act.put, List.setIfInBounds_toArray, List.set_cons_zero, List.set_cons_succ, i64_w, i32_w]
          rfl
        refine take_ (i := 4) (N := some 24) (v := ?_) (a' := ?_) #[true, true, true, true, true, false, false, false, false] rfl rfl (by kernel_rfl) (fun _ _ _ h => h) (Or.inl ⟨by rfl, ?_⟩) hHeld ?_ ?_
        rotate_left
        · rintro w' ⟨s0, s1, s2, s3, s4⟩
          go_simp
          with_reducible rfl
        rotate_left
        · simp only [Act.put, List.setIfInBounds_toArray, List.set_cons_zero, List.set_cons_succ, i64_w, i32_w]
          rfl
        refine one_ (i := 5) (N := some 25) #[true, true, true, true, true, true, false, false, false] rfl rfl (by kernel_rfl) (by decide) (fun K hK => ?_)
        obtain ⟨w6, hw6⟩ : ∃ w6, w6 = w5.drew := ⟨_, rfl⟩
        rw [← hw6] at hHeld ⊢
        have BY6 := Aside0.mk (show w6.heap[(w.heap.size + 1)]? = some (.cells #[vy] 69 (0, 0)) from by rw [hw6]; exact BY.out)
        have BN6 := Aside0.mk (show w6.heap[(w.heap.size + 1 + 1)]? = some (.cells #[vn] 69 (0, 0)) from by rw [hw6]; exact BN.out)
        have BS6 := Aside0.mk (show w6.heap[w.heap.size]? = some (.cells #[.int .i64 mode, .slice A l.length c, .bool d] 66 (0, 0)) from by rw [hw6]; exact BS.out)
        have BT6 := Aside0.mk (show w6.heap[wr.heap.size]? = some (.cells #[.int .i64 xc, .int .i64 xl, .int .i64 xi, .int .i64 xs_] 68 (0, 0)) from by rw [hw6]; exact BT.out)
        have RY6 := Aside0.mk (show Kd.R kFnd 68 w6 w.heap.size (fun _ => True) vy (List.filter P (List.take m L)) from by rw [hw6]; exact Kd.R_drew RY.out)
        have RN6 := Aside0.mk (show Kd.R kFnd 68 w6 w.heap.size (fun _ => True) vn (List.filter (fun f => !P f) (List.take m L)) from by rw [hw6]; exact Kd.R_drew RN.out)
        have HB6 : Aside0 (Below w.heap.size w w6) := ⟨by rw [hw6]; exact below_drew1 HB.out⟩
        clear hw6 BY BN BS BT RY RN HB hHeld
        refine value_ (w1 := ?_) (v := ?_) (by rfl) rfl ?_ ?_
        rotate_left 2
        · go_simp
          constructor
          · rfl
          · rfl
        refine hK.out _ _ ⟨(blk_cell (blk_alloc BY6.out _) 0).trans rfl, (blk_cell (blk_alloc BT6.out _) 0).trans rfl, (blk_cell (blk_alloc BT6.out _) 1).trans rfl, (blk_cell (blk_alloc BT6.out _) 2).trans rfl, (blk_cell (blk_alloc BT6.out _) 3).trans rfl⟩ (fun hHeld => ?_)
        clear hK K
        refine norm_ (a' := ?_) ?_ ?_
        rotate_left
        · show Act.put _ (some 25) _ = _
          simp only [Act.put, List.setIfInBounds_toArray, List.set_cons_zero, List.set_cons_succ, i64_w, i32_w]
          rfl
        refine last_ (i := 6) (N := some 26) #[true, true, true, true, true, true, true, false, false] rfl rfl (by kernel_rfl) (by decide) (fun K hK => ?_)
        refine Kd.R_append_step kFnd (w0 := w) w.heap.size (by rfl) (.tmp 23) (.tmp 25) 69 68 (.agg #[.int .i64 0, .int .i64 0, .int .i64 0, .int .i64 0]) 32 (by rfl) Try.underlying69 fndinfo rfl (by decide) (by omega) vy (List.filter P (List.take m L)) ⟨xc, xl, xi, xs_⟩ [.int .i64 xc, .int .i64 xl, .int .i64 xi, .int .i64 xs_] (fun _ => True) (fun _ => False) (by rfl) (by rfl) rfl (fun _ hk => hk.elim) (fun _ _ => trivial) RY6.out HB6.out HB6.out.size hlim.out ?_
        intro v9 w9 ho9 hb9 hg9 hat9
        have BY9 := Aside0.mk (blk_grown BY6.out hg9 (Kd.R_ne RY6.out BY6.out (by decide)))
        have BN9 := Aside0.mk (blk_grown BN6.out hg9 (Kd.R_ne RY6.out BN6.out (by decide)))
        have BS9 := Aside0.mk (blk_grown BS6.out hg9 (Kd.R_ne RY6.out BS6.out (by decide)))
        obtain ⟨ho9', hne9⟩ := Kd.R_apart RY6.out RN6.out (by first | exact NE.out | exact fun b h1 h2 => NE.out b h2 h1) hg9 hat9
        have RY9 := Aside0.mk ho9
        have RN9 := Aside0.mk ho9'
        have NE9 : Aside0 (∀ b, v9.ownBlock = some b → vn.ownBlock ≠ some b) := ⟨hne9⟩
        have HB9 := Aside0.mk hb9
        clear BY6 BN6 BS6 BT6 RY6 RN6 HB6 NE ho9 ho9' hb9 hg9 hat9 hne9
        have c9 := (blk_cell BY9.out 0).trans (show (#[vy] : Array Value)[0]? = some vy from rfl)
        have f9 := blk_frozen BY9.out 0
        obtain ⟨A9, n9, q9, hv9⟩ : ∃ A n c, v9 = .slice A n c := by obtain ⟨A, c, h⟩ := Kd.R_slice RY9.out; exact ⟨_, _, _, h⟩
        subst hv9
        refine hK.out _ _ ?_
        clear hK K
        refine norm_ (a' := ?_) ?_ ?_
        rotate_left
        · show Act.put _ (some 26) _ = _
          simp only [Act.put, List.setIfInBounds_toArray, List.set_cons_zero, List.set_cons_succ, i64_w, i32_w]
          rfl
        refine pure_ (i := 7) (N := some 27) (v := ?_) (a' := ?_) #[true, true, true, true, true, true, true, true, false] rfl rfl (by kernel_rfl) (fun _ _ _ h => h) (Or.inl ⟨by rfl, ?_⟩) ?_ ?_
        rotate_left
        · intro w'
          go_simp
          with_reducible rfl
        rotate_left
        · simp only [Act.put, List.setIfInBounds_toArray, List.set_cons_zero, List.set_cons_succ, i64_w, i32_w]
          rfl
        refine last_ (i := 8) (N := none) #[true, true, true, true, true, true, true, true, true] rfl rfl (by kernel_rfl) (by decide) (fun K hK => ?_)
        refine skip_ (w1 := ?_) (by rfl) rfl ?_ ?_
        rotate_left
        · go_simp
          rfl
        refine hK.out _ _ ?_
        clear hK K
        refine done_ (by kernel_rfl) ?_
        go_wp2
        refine ⟨⟨m + 1, .slice A9 n9 q9, vn, rfl, ⟨by omega⟩, ⟨?_⟩, ⟨?_⟩, ⟨?_⟩, ⟨?_⟩, ⟨?_⟩, NE9, ⟨below_set HB9.out (by omega)⟩⟩, by simp [intOf]; omega⟩
        · exact blk_far BS9.out (by first | (simp; done) | (simp; omega)) _
        · exact blk_set BY9.out 0 _
        · exact blk_far BN9.out (by first | (simp; done) | (simp; omega)) _
        · rw [FYA.out, if_pos (by simp)]; exact Kd.R_set RY9.out BY9.out flat_ne 0 _
        · rw [FNA.out, if_neg (by simp)]; exact Kd.R_set RN9.out BY9.out flat_ne 0 _
      | false =>
        rw [hy] at WX FY FN
        have FYA := Aside0.mk FY
        have FNA := Aside0.mk FN
        have hlim := Aside0.mk hlim.out.2
        clear FY FN hy
        go_wp2_with (first | (go_at_call 57; (with_reducible refine (WX.out _ (Kd.C_below HR.out (by repeat (first | (with_reducible first | exact HB.out | apply below_alloc | apply pw_below_drewN | apply below_drew1) | exact HB.out)))).mono ?_); rintro e w5 ⟨rfl, hb⟩; have BT : Aside0 (w5.heap[wr.heap.size]? = some (.cells #[.int .i64 xc, .int .i64 xl, .int .i64 xi, .int .i64 xs_] 68 (0, 0))) := ⟨blk_below (heap_alloc_new wr _) hb⟩; have n_ := Aside0.mk (blk_below (by first | exact BS.out | exact blk_drewN BS.out _ | exact blk_alloc BS.out _) hb); clear BS; have BS := n_; clear n_; have n_ := Aside0.mk (blk_below (by first | exact BY.out | exact blk_drewN BY.out _ | exact blk_alloc BY.out _) hb); clear BY; have BY := n_; clear n_; have n_ := Aside0.mk (blk_below (by first | exact BN.out | exact blk_drewN BN.out _ | exact blk_alloc BN.out _) hb); clear BN; have BN := n_; clear n_; have n_ : Aside0 (Kd.R kFnd 68 w5 w.heap.size (fun _ => True) vy (List.filter P (List.take m L))) := ⟨Kd.R_below (Kd.R_alloc RY.out _) hb⟩; clear RY; have RY := n_; clear n_; have n_ : Aside0 (Kd.R kFnd 68 w5 w.heap.size (fun _ => True) vn (List.filter (fun f => !P f) (List.take m L))) := ⟨Kd.R_below (Kd.R_alloc RN.out _) hb⟩; clear RN; have RN := n_; clear n_; have n1_ : Aside0 (Below w.heap.size w w5) := ⟨below_step (by repeat (first | (with_reducible first | exact HB.out | apply below_alloc | apply pw_below_drewN | apply below_drew1) | exact HB.out)) hb⟩; clear HB; have HB := n1_; clear n1_; clear hb x0 x1 x2 x3 s0 s1 s2))
        refine start_ (n := 9) (S := fun w' => w'.cell? ⟨(w.heap.size + 1 + 1), 0, none⟩ = some vn ∧ w'.cell? ⟨wr.heap.size, 0, none⟩ = some (.int .i64 xc) ∧ w'.cell? ⟨wr.heap.size, 1, none⟩ = some (.int .i64 xl) ∧ w'.cell? ⟨wr.heap.size, 2, none⟩ = some (.int .i64 xi) ∧ w'.cell? ⟨wr.heap.size, 3, none⟩ = some (.int .i64 xs_)) (ds := [6, 8]) #[false, false, false, false, false, false, false, false, false] (by kernel_rfl) rfl rfl ⟨(blk_cell (blk_drew BN.out) 0).trans rfl, (blk_cell (blk_drew BT.out) 0).trans rfl, (blk_cell (blk_drew BT.out) 1).trans rfl, (blk_cell (blk_drew BT.out) 2).trans rfl, (blk_cell (blk_drew BT.out) 3).trans rfl⟩ (fun hHeld => ?_)
        refine pure_ (i := 0) (N := some 20) (v := ?_) (a' := ?_) #[true, false, false, false, false, false, false, false, false] rfl rfl (by kernel_rfl) (fun _ _ _ h => h) (Or.inl ⟨by rfl, ?_⟩) ?_ ?_
        rotate_left
        · intro w'
          go_simp
          with_reducible rfl
        rotate_left
        · simp only [Act.put, List.setIfInBounds_toArray, List.set_cons_zero, List.set_cons_succ, i64_w, i32_w]
          rfl
        refine pure_ (i := 1) (N := some 21) (v := ?_) (a' := ?_) #[true, true, false, false, false, false, false, false, false] rfl rfl (by kernel_rfl) (fun _ _ _ h => h) (Or.inl ⟨by rfl, ?_⟩) ?_ ?_
        rotate_left
        · intro w'
          go_simp
          with_reducible rfl
        rotate_left
        · simp only [Act.put, List.setIfInBounds_toArray, List.set_cons_zero, List.set_cons_succ, i64_w, i32_w]
          rfl
        refine pure_ (i := 2) (N := some 22) (v := ?_) (a' := ?_) #[true, true, true, false, false, false, false, false, false] rfl rfl (by kernel_rfl) (fun _ _ _ h => h) (Or.inl ⟨by rfl, ?_⟩) ?_ ?_
        rotate_left
        · intro w'
          go_simp
          with_reducible rfl
        rotate_left
        · simp only [Act.put, List.setIfInBounds_toArray, List.set_cons_zero, List.set_cons_succ, i64_w, i32_w]
          rfl
        refine take_ (i := 3) (N := some 23) (v := ?_) (a' := ?_) #[true, true, true, true, false, false, false, false, false] rfl rfl (by kernel_rfl) (fun _ _ _ h => h) (Or.inl ⟨by rfl, ?_⟩) hHeld ?_ ?_
        rotate_left
        · rintro w' ⟨s0, s1, s2, s3, s4⟩
          go_simp
          with_reducible rfl
        rotate_left
        · simp only [Act.put, List.setIfInBounds_toArray, List.set_cons_zero, List.set_cons_succ, i64_w, i32_w]
          rfl
        refine take_ (i := 4) (N := some 24) (v := ?_) (a' := ?_) #[true, true, true, true, true, false, false, false, false] rfl rfl (by kernel_rfl) (fun _ _ _ h => h) (Or.inl ⟨by rfl, ?_⟩) hHeld ?_ ?_
        rotate_left
        · rintro w' ⟨s0, s1, s2, s3, s4⟩
          go_simp
          with_reducible rfl
        rotate_left
        · simp only [Act.put, List.setIfInBounds_toArray, List.set_cons_zero, List.set_cons_succ, i64_w, i32_w]
          rfl
        refine one_ (i := 5) (N := some 25) #[true, true, true, true, true, true, false, false, false] rfl rfl (by kernel_rfl) (by decide) (fun K hK => ?_)
        obtain ⟨w6, hw6⟩ : ∃ w6, w6 = w5.drew := ⟨_, rfl⟩
        rw [← hw6] at hHeld ⊢
        have BY6 := Aside0.mk (show w6.heap[(w.heap.size + 1)]? = some (.cells #[vy] 69 (0, 0)) from by rw [hw6]; exact BY.out)
        have BN6 := Aside0.mk (show w6.heap[(w.heap.size + 1 + 1)]? = some (.cells #[vn] 69 (0, 0)) from by rw [hw6]; exact BN.out)
        have BS6 := Aside0.mk (show w6.heap[w.heap.size]? = some (.cells #[.int .i64 mode, .slice A l.length c, .bool d] 66 (0, 0)) from by rw [hw6]; exact BS.out)
        have BT6 := Aside0.mk (show w6.heap[wr.heap.size]? = some (.cells #[.int .i64 xc, .int .i64 xl, .int .i64 xi, .int .i64 xs_] 68 (0, 0)) from by rw [hw6]; exact BT.out)
        have RY6 := Aside0.mk (show Kd.R kFnd 68 w6 w.heap.size (fun _ => True) vy (List.filter P (List.take m L)) from by rw [hw6]; exact Kd.R_drew RY.out)
        have RN6 := Aside0.mk (show Kd.R kFnd 68 w6 w.heap.size (fun _ => True) vn (List.filter (fun f => !P f) (List.take m L)) from by rw [hw6]; exact Kd.R_drew RN.out)
        have HB6 : Aside0 (Below w.heap.size w w6) := ⟨by rw [hw6]; exact below_drew1 HB.out⟩
        clear hw6 BY BN BS BT RY RN HB hHeld
        refine value_ (w1 := ?_) (v := ?_) (by rfl) rfl ?_ ?_
        rotate_left 2
        · go_simp
          constructor
          · rfl
          · rfl
        refine hK.out _ _ ⟨(blk_cell (blk_alloc BN6.out _) 0).trans rfl, (blk_cell (blk_alloc BT6.out _) 0).trans rfl, (blk_cell (blk_alloc BT6.out _) 1).trans rfl, (blk_cell (blk_alloc BT6.out _) 2).trans rfl, (blk_cell (blk_alloc BT6.out _) 3).trans rfl⟩ (fun hHeld => ?_)
        clear hK K
        refine norm_ (a' := ?_) ?_ ?_
        rotate_left
        · show Act.put _ (some 25) _ = _
          simp only [Act.put, List.setIfInBounds_toArray, List.set_cons_zero, List.set_cons_succ, i64_w, i32_w]
          rfl
        refine last_ (i := 6) (N := some 26) #[true, true, true, true, true, true, true, false, false] rfl rfl (by kernel_rfl) (by decide) (fun K hK => ?_)
        refine Kd.R_append_step kFnd (w0 := w) w.heap.size (by rfl) (.tmp 23) (.tmp 25) 69 68 (.agg #[.int .i64 0, .int .i64 0, .int .i64 0, .int .i64 0]) 32 (by rfl) Try.underlying69 fndinfo rfl (by decide) (by omega) vn (List.filter (fun f => !P f) (List.take m L)) ⟨xc, xl, xi, xs_⟩ [.int .i64 xc, .int .i64 xl, .int .i64 xi, .int .i64 xs_] (fun _ => True) (fun _ => False) (by rfl) (by rfl) rfl (fun _ hk => hk.elim) (fun _ _ => trivial) RN6.out HB6.out HB6.out.size hlim.out ?_
        intro v9 w9 ho9 hb9 hg9 hat9
        have BY9 := Aside0.mk (blk_grown BY6.out hg9 (Kd.R_ne RN6.out BY6.out (by decide)))
        have BN9 := Aside0.mk (blk_grown BN6.out hg9 (Kd.R_ne RN6.out BN6.out (by decide)))
        have BS9 := Aside0.mk (blk_grown BS6.out hg9 (Kd.R_ne RN6.out BS6.out (by decide)))
        obtain ⟨ho9', hne9⟩ := Kd.R_apart RN6.out RY6.out (by first | exact NE.out | exact fun b h1 h2 => NE.out b h2 h1) hg9 hat9
        have RN9 := Aside0.mk ho9
        have RY9 := Aside0.mk ho9'
        have NE9 : Aside0 (∀ b, vy.ownBlock = some b → v9.ownBlock ≠ some b) := ⟨fun b h1 h2 => hne9 b h2 h1⟩
        have HB9 := Aside0.mk hb9
        clear BY6 BN6 BS6 BT6 RY6 RN6 HB6 NE ho9 ho9' hb9 hg9 hat9 hne9
        have c9 := (blk_cell BN9.out 0).trans (show (#[vn] : Array Value)[0]? = some vn from rfl)
        have f9 := blk_frozen BN9.out 0
        obtain ⟨A9, n9, q9, hv9⟩ : ∃ A n c, v9 = .slice A n c := by obtain ⟨A, c, h⟩ := Kd.R_slice RN9.out; exact ⟨_, _, _, h⟩
        subst hv9
        refine hK.out _ _ ?_
        clear hK K
        refine norm_ (a' := ?_) ?_ ?_
        rotate_left
        · show Act.put _ (some 26) _ = _
          simp only [Act.put, List.setIfInBounds_toArray, List.set_cons_zero, List.set_cons_succ, i64_w, i32_w]
          rfl
        refine pure_ (i := 7) (N := some 27) (v := ?_) (a' := ?_) #[true, true, true, true, true, true, true, true, false] rfl rfl (by kernel_rfl) (fun _ _ _ h => h) (Or.inl ⟨by rfl, ?_⟩) ?_ ?_
        rotate_left
        · intro w'
          go_simp
          with_reducible rfl
        rotate_left
        · simp only [Act.put, List.setIfInBounds_toArray, List.set_cons_zero, List.set_cons_succ, i64_w, i32_w]
          rfl
        refine last_ (i := 8) (N := none) #[true, true, true, true, true, true, true, true, true] rfl rfl (by kernel_rfl) (by decide) (fun K hK => ?_)
        refine skip_ (w1 := ?_) (by rfl) rfl ?_ ?_
        rotate_left
        · go_simp
          rfl
        refine hK.out _ _ ?_
        clear hK K
        refine done_ (by kernel_rfl) ?_
        go_wp2
        refine ⟨⟨m + 1, vy, .slice A9 n9 q9, rfl, ⟨by omega⟩, ⟨?_⟩, ⟨?_⟩, ⟨?_⟩, ⟨?_⟩, ⟨?_⟩, NE9, ⟨below_set HB9.out (by omega)⟩⟩, by simp [intOf]; omega⟩
        · exact blk_far BS9.out (by first | (simp; done) | (simp; omega)) _
        · exact blk_far BY9.out (by first | (simp; done) | (simp; omega)) _
        · exact blk_set BN9.out 0 _
        · rw [FYA.out, if_neg (by simp)]; exact Kd.R_set RY9.out BN9.out flat_ne 0 _
        · rw [FNA.out, if_pos (by simp)]; exact Kd.R_set RN9.out BN9.out flat_ne 0 _
    · have hge : L.length ≤ m := by omega
      have e0 : L.take m = L := List.take_of_length_le hge
      rw [e0] at RY RN
      have y0 : wr.cell? ⟨(w.heap.size + 1), 0, none⟩ = some vy := (blk_cell BY.out 0).trans rfl
      have n0 : wr.cell? ⟨(w.heap.size + 1 + 1), 0, none⟩ = some vn := (blk_cell BN.out 0).trans rfl
      obtain ⟨Ay, qy, hvy⟩ := Kd.R_slice RY.out
      obtain ⟨An, qn, hvn⟩ := Kd.R_slice RN.out
      have HVY := Aside0.mk hvy
      have HVN := Aside0.mk hvn
      clear hlt e0 hvy hvn
      go_wp2
      go_quiet (fail)
      go_wp2
      go_ret2
      exact ⟨vy, vn, rfl, Kd.R_drewN RY.out _, Kd.R_drewN RN.out _, pw_below_drewN HB.out _⟩
end Go.Proofs.Ytfbcnmjahpbbeaa.K
