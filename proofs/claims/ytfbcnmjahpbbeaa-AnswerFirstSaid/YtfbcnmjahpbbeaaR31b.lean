/- The reference of chapter 31: Split. -/
import Derived.Test.YtfbcnmjahpbbeaaK31b
namespace Go.Proofs.Ytfbcnmjahpbbeaa.K
open Go.RowKit Go.Proofs.YtfbcnmjahpbbeaaW.PrintWords Go.Proofs.YtfbcnmjahpbbeaaW.PrintLast Go.Proofs.YtfbcnmjahpbbeaaW.PrintMore
set_option linter.unusedVariables false
set_option linter.unusedSimpArgs false
theorem go_on2 {p : Prop} (h : p) : p := h
set_option maxHeartbeats 2000000 in
set_option maxRecDepth 100000 in
theorem rSplit_walk (mode : Int) (A : Option Addr) (c : Nat) (l : List Ans) (d : Bool) (A2 : Option Addr) (c2 : Nat) (L : List Fnd) (w : World) (hr : Kd.C kAns w A l.length l) (hl : l.length ≤ 9223372036854775807) (hr2 : Kd.C kFnd w A2 L.length L) (hL : L.length ≤ 1000000) :
    Calls Try.prog 56 #[.agg #[.int .i64 mode, .slice A l.length c, .bool d], .slice A2 L.length c2] w fun e w' => ∃ vy vn : Value, e = .returned (.tuple #[vy, vn]) ∧ Kd.R kFnd 68 w' w.heap.size (fun _ => True) vy (L.filter (yesP mode l d)) ∧ Kd.R kFnd 68 w' w.heap.size (fun _ => True) vn (L.filter (fun f => !yesP mode l d f)) ∧ Below w.heap.size w w' := by
  have HR := Aside0.mk hr
  have HR2 := Aside0.mk hr2
  have WY := Aside0.mk (fun (f : Fnd) W (h : Kd.C kAns W A l.length l) => rYes_walk mode A c l d f W h hl)
  obtain ⟨P, hP⟩ : ∃ P, P = yesP mode l d := ⟨_, rfl⟩
  rw [← hP]
  have WY2 : Aside0 (∀ (x : Fnd) W, Kd.C kAns W A l.length l → Calls Try.prog 58 #[.agg #[.int .i64 mode, .slice A l.length c, .bool d], .agg #[.int .i64 x.cl, .int .i64 x.la, .int .i64 x.ino, .int .i64 x.sl]] W fun e w' => e = .returned (.bool (P x)) ∧ Below W.heap.size W w') := ⟨by rw [hP]; exact WY.out⟩
  clear hr hr2 WY hP
  go_enter Try.func56, Try.ntmps56
  go_wp2
  go_loopw [6, 7, 8] (fun v6 v7 v8 w' => ∃ m : Nat, ∃ vy vn : Value, (v6 = vy ∧ v7 = vn ∧ v8 = .int .i64 m) ∧ Aside0 (m ≤ L.length) ∧ Aside0 (w'.heap[w.heap.size]? = some (.cells #[.int .i64 mode, .slice A l.length c, .bool d] 66 (0, 0))) ∧
    Aside0 (Kd.R kFnd 68 w' w.heap.size (fun _ => True) vy (List.filter P (List.take m L))) ∧ Aside0 (Kd.R kFnd 68 w' w.heap.size (fun _ => True) vn (List.filter (fun f => !P f) (List.take m L))) ∧ Aside0 (∀ b, vy.ownBlock = some b → vn.ownBlock ≠ some b) ∧ Aside0 (Below w.heap.size w w')) (fun _ _ i _ => L.length - (intOf i).toNat)
  case atStart => 
    refine ⟨0, _, _, ⟨rfl, rfl, rfl⟩, ⟨Nat.zero_le _⟩, ⟨?_⟩, ⟨?_⟩, ⟨?_⟩, ⟨?_⟩, ⟨?_⟩⟩
    · exact blk_alloc (blk_alloc (heap_alloc_new w _) _) _
    · exact Kd.R_alloc (Kd.R_lay0 kFnd _ (by simp) (by omega)) _
    · exact Kd.R_lay0 kFnd _ (by simp) (by omega)
    · intro b h1 h2
      simp [Value.ownBlock] at h1 h2
      omega
    · exact below_alloc (below_alloc (below_alloc (Below.refl _ _) _) _) _
  case round =>
    obtain ⟨m, vy, vn, ⟨rfl, rfl, rfl⟩, hm, BS, RY, RN, NE, HB⟩ := hrel
    have hm' := hm.out
    by_cases hlt : m < L.length
    · obtain ⟨ad, rfl, hx, hxs⟩ := Kd.at_flatA (Kd.C_below HR2.out HB.out) hlt
      have FY := filter_take (P := P) hlt
      have FN := filter_take (P := fun f => !P f) hlt
      obtain ⟨x, hxx⟩ : ∃ x, x = L[m] := ⟨_, rfl⟩
      rw [← hxx] at hx hxs FY FN
      obtain ⟨xc, xl, xi, xs_⟩ := x
      have x0 := hx _ rfl
      have x1 := hxs 0 _ rfl
      have x2 := hxs 1 _ rfl
      have x3 := hxs 2 _ rfl
      simp only [Nat.reduceAdd] at x1 x2 x3
      have s0 : wr.cell? ⟨w.heap.size, 0, none⟩ = some (.int .i64 mode) := (blk_cell BS.out 0).trans rfl
      have s1 : wr.cell? ⟨w.heap.size, 1, none⟩ = some (.slice A l.length c) := (blk_cell BS.out 1).trans rfl
      have s2 : wr.cell? ⟨w.heap.size, 2, none⟩ = some (.bool d) := (blk_cell BS.out 2).trans rfl
      have hlim : Aside0 (((List.filter P (List.take m L)).length + 1) * 32 ≤ 140737488355328 ∧ ((List.filter (fun f => !P f) (List.take m L)).length + 1) * 32 ≤ 140737488355328) := ⟨by
        have h1 := List.length_filter_le P (List.take m L)
        have h2 := List.length_filter_le (fun f => !P f) (List.take m L)
        have h3 := List.length_take_le m L
        omega⟩
      have i0 : (0 : Int) ≤ (m : Int) := by omega
      have i1 : (m : Int) < (L.length : Int) := by omega
      have WX := Aside0.mk (WY2.out ⟨xc, xl, xi, xs_⟩)
      clear hx hxs hxx
      cases hy : P ⟨xc, xl, xi, xs_⟩ with
      | true =>
        rw [hy] at WX FY FN
        have FYA := Aside0.mk FY
        have FNA := Aside0.mk FN
        have hlim := Aside0.mk hlim.out.1
        clear FY FN hy
        go_wp2
        go_region_held3 (fun W => (W.cell? ⟨w.heap.size, 0, none⟩ = some (.int .i64 mode) ∧ W.cell? ⟨w.heap.size, 1, none⟩ = some (.slice A l.length c) ∧ W.cell? ⟨w.heap.size, 2, none⟩ = some (.bool d)) ∧ W.cell? (ad.add (m * 4)) = some (.int .i64 xc) ∧ W.cell? ⟨(ad.add (m * 4)).block, (ad.add (m * 4)).off + 1, none⟩ = some (.int .i64 xl) ∧ W.cell? ⟨(ad.add (m * 4)).block, (ad.add (m * 4)).off + 2, none⟩ = some (.int .i64 xi) ∧ W.cell? ⟨(ad.add (m * 4)).block, (ad.add (m * 4)).off + 3, none⟩ = some (.int .i64 xs_)) (first | go_keep | (refine ⟨⟨pw_cell_below hb5 ?_, pw_cell_below hb5 ?_, pw_cell_below hb5 ?_⟩, pw_cell_below hb5 ?_, pw_cell_below hb5 ?_, pw_cell_below hb5 ?_, pw_cell_below hb5 ?_⟩ <;> go_keep)) (first | (go_at_call 58; (with_reducible refine (WX.out _ (Kd.C_below HR.out (by repeat (first | (with_reducible first | exact HB.out | apply below_alloc | apply pw_below_drewN | apply below_drew1) | exact HB.out)))).mono ?_); rintro e w5 ⟨rfl, hb5⟩) | fail)
        have n0_ : Aside0 (w5.heap[w.heap.size]? = some (.cells #[.int .i64 mode, .slice A l.length c, .bool d] 66 (0, 0))) := ⟨blk_below (blk_drew BS.out) hb5⟩
        have n1_ := Aside0.mk (Kd.R_below (Kd.R_drew RY.out) hb5)
        have n2_ := Aside0.mk (Kd.R_below (Kd.R_drew RN.out) hb5)
        have n3_ : Aside0 (Below w.heap.size w w5) := ⟨below_step (below_drew1 HB.out) hb5⟩
        have y0 := pw_cell_below hb5 (show wr.drew.cell? _ = _ from x0)
        have y1 := pw_cell_below hb5 (show wr.drew.cell? _ = _ from x1)
        have y2 := pw_cell_below hb5 (show wr.drew.cell? _ = _ from x2)
        have y3 := pw_cell_below hb5 (show wr.drew.cell? _ = _ from x3)
        clear BS RY RN HB hb5 x0 x1 x2 x3 s0 s1 s2
        have BS := n0_
        have RY := n1_
        have RN := n2_
        have HB := n3_
        clear n0_ n1_ n2_ n3_
        refine go_on2 ?_
        go_wp2_with (first | ((with_reducible refine gate_builtin (b := .append) (xs := #[.tmp 23, .tmp 28]) rfl ?_); at_builtin; refine Kd.R_append kFnd (w0 := w) w.heap.size rfl (.tmp 23) (.tmp 28) 69 68 (.agg #[.int .i64 0, .int .i64 0, .int .i64 0, .int .i64 0]) 32 rfl Try.underlying69 fndinfo rfl (by decide) (by omega) _ (List.filter P (List.take m L)) ⟨xc, xl, xi, xs_⟩ [.int .i64 xc, .int .i64 xl, .int .i64 xi, .int .i64 xs_] (fun _ => True) (fun _ => False) rfl rfl ?aP (fun _ hk => hk.elim) ?aF ?aO ?aB ?aS ?aL ?_; (case aP => rfl); (case aB => exact (by repeat (first | (with_reducible first | exact HB.out | apply below_alloc | apply pw_below_drewN | apply below_drew1) | exact HB.out))); (case aF => exact (fun _ _ => trivial)); (case aO => exact RY.out); (case aS => exact (below_size (by repeat (first | (with_reducible first | exact HB.out | apply below_alloc | apply pw_below_drewN | apply below_drew1) | exact HB.out)))); (case aL => exact hlim.out); intro v9 w9 ho9 hb9 hg9 hat9; obtain ⟨ho9', hne9⟩ := Kd.R_apart RY.out RN.out (by exact NE.out) hg9 hat9; have BS9 := Aside0.mk (blk_grown BS.out hg9 (Kd.R_ne RY.out BS.out (by decide))); have RY9 := Aside0.mk ho9; have RN9 := Aside0.mk ho9'; have NE9 := Aside0.mk hne9; have HB9 := Aside0.mk hb9; clear ho9 ho9' hb9 hg9 hat9 hne9 BS RY RN NE HB))
        refine ⟨⟨m + 1, v9, _, ⟨rfl, rfl, rfl⟩, ⟨by omega⟩, BS9, ⟨?_⟩, ⟨?_⟩, NE9, HB9⟩, by simp [intOf]; omega⟩
        · rw [FYA.out, if_pos (by simp)]; exact RY9.out
        · rw [FNA.out, if_neg (by simp)]; exact RN9.out
      | false =>
        rw [hy] at WX FY FN
        have FYA := Aside0.mk FY
        have FNA := Aside0.mk FN
        have hlim := Aside0.mk hlim.out.2
        clear FY FN hy
        go_wp2
        go_region_held3 (fun W => (W.cell? ⟨w.heap.size, 0, none⟩ = some (.int .i64 mode) ∧ W.cell? ⟨w.heap.size, 1, none⟩ = some (.slice A l.length c) ∧ W.cell? ⟨w.heap.size, 2, none⟩ = some (.bool d)) ∧ W.cell? (ad.add (m * 4)) = some (.int .i64 xc) ∧ W.cell? ⟨(ad.add (m * 4)).block, (ad.add (m * 4)).off + 1, none⟩ = some (.int .i64 xl) ∧ W.cell? ⟨(ad.add (m * 4)).block, (ad.add (m * 4)).off + 2, none⟩ = some (.int .i64 xi) ∧ W.cell? ⟨(ad.add (m * 4)).block, (ad.add (m * 4)).off + 3, none⟩ = some (.int .i64 xs_)) (first | go_keep | (refine ⟨⟨pw_cell_below hb5 ?_, pw_cell_below hb5 ?_, pw_cell_below hb5 ?_⟩, pw_cell_below hb5 ?_, pw_cell_below hb5 ?_, pw_cell_below hb5 ?_, pw_cell_below hb5 ?_⟩ <;> go_keep)) (first | (go_at_call 58; (with_reducible refine (WX.out _ (Kd.C_below HR.out (by repeat (first | (with_reducible first | exact HB.out | apply below_alloc | apply pw_below_drewN | apply below_drew1) | exact HB.out)))).mono ?_); rintro e w5 ⟨rfl, hb5⟩) | fail)
        have n0_ : Aside0 (w5.heap[w.heap.size]? = some (.cells #[.int .i64 mode, .slice A l.length c, .bool d] 66 (0, 0))) := ⟨blk_below (blk_drew BS.out) hb5⟩
        have n1_ := Aside0.mk (Kd.R_below (Kd.R_drew RY.out) hb5)
        have n2_ := Aside0.mk (Kd.R_below (Kd.R_drew RN.out) hb5)
        have n3_ : Aside0 (Below w.heap.size w w5) := ⟨below_step (below_drew1 HB.out) hb5⟩
        have y0 := pw_cell_below hb5 (show wr.drew.cell? _ = _ from x0)
        have y1 := pw_cell_below hb5 (show wr.drew.cell? _ = _ from x1)
        have y2 := pw_cell_below hb5 (show wr.drew.cell? _ = _ from x2)
        have y3 := pw_cell_below hb5 (show wr.drew.cell? _ = _ from x3)
        clear BS RY RN HB hb5 x0 x1 x2 x3 s0 s1 s2
        have BS := n0_
        have RY := n1_
        have RN := n2_
        have HB := n3_
        clear n0_ n1_ n2_ n3_
        refine go_on2 ?_
        go_wp2_with (first | ((with_reducible refine gate_builtin (b := .append) (xs := #[.tmp 30, .tmp 35]) rfl ?_); at_builtin; refine Kd.R_append kFnd (w0 := w) w.heap.size rfl (.tmp 30) (.tmp 35) 69 68 (.agg #[.int .i64 0, .int .i64 0, .int .i64 0, .int .i64 0]) 32 rfl Try.underlying69 fndinfo rfl (by decide) (by omega) _ (List.filter (fun f => !P f) (List.take m L)) ⟨xc, xl, xi, xs_⟩ [.int .i64 xc, .int .i64 xl, .int .i64 xi, .int .i64 xs_] (fun _ => True) (fun _ => False) rfl rfl ?aP (fun _ hk => hk.elim) ?aF ?aO ?aB ?aS ?aL ?_; (case aP => rfl); (case aB => exact (by repeat (first | (with_reducible first | exact HB.out | apply below_alloc | apply pw_below_drewN | apply below_drew1) | exact HB.out))); (case aF => exact (fun _ _ => trivial)); (case aO => exact RN.out); (case aS => exact (below_size (by repeat (first | (with_reducible first | exact HB.out | apply below_alloc | apply pw_below_drewN | apply below_drew1) | exact HB.out)))); (case aL => exact hlim.out); intro v9 w9 ho9 hb9 hg9 hat9; obtain ⟨ho9', hne9⟩ := Kd.R_apart RN.out RY.out (by exact fun b h1 h2 => NE.out b h2 h1) hg9 hat9; have BS9 := Aside0.mk (blk_grown BS.out hg9 (Kd.R_ne RN.out BS.out (by decide))); have RN9 := Aside0.mk ho9; have RY9 := Aside0.mk ho9'; have NE9 := Aside0.mk hne9; have HB9 := Aside0.mk hb9; clear ho9 ho9' hb9 hg9 hat9 hne9 BS RY RN NE HB))
        refine ⟨⟨m + 1, _, v9, ⟨rfl, rfl, rfl⟩, ⟨by omega⟩, BS9, ⟨?_⟩, ⟨?_⟩, ⟨fun b h1 h2 => NE9.out b h2 h1⟩, HB9⟩, by simp [intOf]; omega⟩
        · rw [FYA.out, if_neg (by simp)]; exact RY9.out
        · rw [FNA.out, if_pos (by simp)]; exact RN9.out
    · have hge : L.length ≤ m := by omega
      have e0 : L.take m = L := List.take_of_length_le hge
      rw [e0] at RY RN
      clear hlt e0
      go_wp2
      go_ret2
      exact ⟨_, _, rfl, RY.out, RN.out, HB.out⟩
end Go.Proofs.Ytfbcnmjahpbbeaa.K
