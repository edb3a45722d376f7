/- The reference of chapter 31: First. -/
import Derived.Test.YtfbcnmjahpbbeaaK31f
namespace Go.Proofs.Ytfbcnmjahpbbeaa.K
open Go.RowKit Go.Proofs.YtfbcnmjahpbbeaaW.PrintWords Go.Proofs.YtfbcnmjahpbbeaaW.PrintLast Go.Proofs.YtfbcnmjahpbbeaaW.PrintMore
set_option linter.unusedVariables false
set_option linter.unusedSimpArgs false
theorem all_take {α : Type} {P : α → Bool} {L : List α} {m : Nat} (h : m < L.length) : (L.take (m + 1)).all P = ((L.take m).all P && P L[m]) := by
  rw [List.take_succ_eq_append_getElem h, List.all_append]; simp
set_option maxHeartbeats 4000000 in
set_option maxRecDepth 100000 in
theorem rFirst_walk (mode : Int) (A : Option Addr) (c : Nat) (l : List Ans) (d : Bool) (A2 : Option Addr) (c2 : Nat) (L : List Fnd) (w : World) (hr : Kd.C kAns w A l.length l) (hl : l.length ≤ 9223372036854775807) (hr2 : Kd.C kFnd w A2 L.length L) (hL : L.length ≤ 1000000) :
    Calls Try.prog 61 #[.agg #[.int .i64 mode, .slice A l.length c, .bool d], .slice A2 L.length c2] w fun e w' => ∃ A' c', e = .returned (.slice A' (leastF (L.filter (yesP mode l d))).length c') ∧ Kd.C kFnd w' A' (leastF (L.filter (yesP mode l d))).length (leastF (L.filter (yesP mode l d))) ∧ Below w.heap.size w w' := by
  have HR := Aside0.mk hr
  have HR2 := Aside0.mk hr2
  have HB := Aside0.mk (Below.refl w.heap.size w)
  have WS := Aside0.mk (fun W h1 h2 => rSplit_walk mode A c l d A2 c2 L W h1 hl h2 hL)
  have hyl : (L.filter (yesP mode l d)).length ≤ 1000000 := Nat.le_trans (List.length_filter_le _ _) hL
  obtain ⟨P, hP⟩ : ∃ P, P = yesP mode l d := ⟨_, rfl⟩
  rw [← hP] at WS hyl ⊢
  obtain ⟨ys, hys⟩ : ∃ ys, ys = L.filter P := ⟨_, rfl⟩
  rw [← hys] at WS hyl ⊢
  obtain ⟨Q, hQ⟩ : ∃ Q : Fnd → Bool, Q = fun f => ys.all (fun g => decide (f.cl ≤ g.cl)) := ⟨_, rfl⟩
  have EQ : Aside0 (leastF ys = ys.filter Q) := ⟨by rw [hQ]; rfl⟩
  have EQ2 : Aside0 (∀ f, Q f = ys.all (fun g => decide (f.cl ≤ g.cl))) := ⟨fun f => by rw [hQ]⟩
  clear hr hr2 hP hys hQ
  go_enter Try.func61, Try.ntmps61
  go_wp2_with (go_at_call 56; (with_reducible refine (WS.out _ (Kd.C_below HR.out (by repeat (first | (with_reducible first | exact HB.out | apply below_alloc | apply pw_below_drewN | apply below_drew1) | exact HB.out))) (Kd.C_below HR2.out (by repeat (first | (with_reducible first | exact HB.out | apply below_alloc | apply pw_below_drewN | apply below_drew1) | exact HB.out)))).mono ?_); rintro e w1 ⟨vy, vn, rfl, ho, _, hb⟩; obtain ⟨Ay, cy, rfl⟩ := Kd.R_slice ho; have RY := Aside0.mk (Kd.R_lower ho (below_size (by repeat (first | (with_reducible first | exact HB.out | apply below_alloc | apply pw_below_drewN | apply below_drew1) | exact HB.out)))); have n1_ : Aside0 (Below w.heap.size w w1) := ⟨below_step (by repeat (first | (with_reducible first | exact HB.out | apply below_alloc | apply pw_below_drewN | apply below_drew1) | exact HB.out)) hb⟩; clear HB; have HB := n1_; clear n1_; clear hb ho)
  go_loopw [7, 8, 9, 10] (fun v7 v8 v9 v10 w' => ∃ m : Nat, v8 = .int .i64 m ∧ Aside0 (m ≤ ys.length) ∧ Aside0 (Kd.R kFnd 68 w' w.heap.size (fun _ => True) (.slice Ay ys.length cy) ys) ∧ Aside0 (∀ b, v7.ownBlock = some b → (Value.slice Ay ys.length cy).ownBlock ≠ some b) ∧ Aside0 (Kd.R kFnd 68 w' w.heap.size (fun _ => True) v7 (List.filter Q (List.take m ys))) ∧ Aside0 (Below w.heap.size w w')) (fun _ i _ _ _ => ys.length - (intOf i).toNat)
  case atStart => exact ⟨0, rfl, ⟨Nat.zero_le _⟩, ⟨Kd.R_alloc RY.out _⟩, ⟨fun b h1 h2 => by have h3 := ((Kd.R_bound RY.out).1 b h2).2.2.1; simp [Value.ownBlock] at h1; omega⟩, ⟨Kd.R_lay0 kFnd _ rfl HB.out.size⟩, ⟨below_alloc HB.out _⟩⟩
  case round =>
    clear RY HB
    obtain ⟨m, rfl, hm, RY, NE, RO, HB⟩ := hrel
    have HY := Aside0.mk (Kd.R_reads' RY.out).2.2
    have hm' := hm.out
    obtain ⟨wo, rfl⟩ : ∃ wo : World, wo = wr := ⟨_, rfl⟩
    by_cases hlt : m < ys.length
    · obtain ⟨ad, rfl, hx, hxs⟩ := Kd.at_flatA HY.out hlt
      have FQ := filter_take (P := Q) hlt
      obtain ⟨x, hxx⟩ : ∃ x, x = ys[m] := ⟨_, rfl⟩
      rw [← hxx] at hx hxs FQ
      obtain ⟨xc, xl, xi, xs_⟩ := x
      have x0 := hx _ rfl
      have x1 := hxs 0 _ rfl
      have x2 := hxs 1 _ rfl
      have x3 := hxs 2 _ rfl
      simp only [Nat.reduceAdd] at x1 x2 x3
      have hlim : Aside0 (((List.filter Q (List.take m ys)).length + 1) * 32 ≤ 140737488355328) := ⟨by
        have h1 := List.length_filter_le Q (List.take m ys)
        have h3 := List.length_take_le m ys
        omega⟩
      have EX := EQ2.out ⟨xc, xl, xi, xs_⟩
      obtain ⟨qx, hqx⟩ : ∃ q, q = Q ⟨xc, xl, xi, xs_⟩ := ⟨_, rfl⟩
      rw [← hqx] at FQ EX
      have FQA := Aside0.mk FQ
      have EXA := Aside0.mk EX
      have i0 : (0 : Int) ≤ (m : Int) := by omega
      have i1 : (m : Int) < (ys.length : Int) := by omega
      clear hx hxs hxx FQ EX hqx
      go_wp2
      go_loopw [9, 10] (fun v9 v10 w' => ∃ k : Nat, ∃ b : Bool, v9 = .bool b ∧ v10 = .int .i64 k ∧ Aside0 (k ≤ ys.length) ∧ Aside0 (b = (ys.take k).all (fun g => decide (xc ≤ g.cl))) ∧ Aside0 (∃ n, w' = wo.drewN n)) (fun _ i _ => ys.length - (intOf i).toNat)
      case atStart => exact ⟨0, true, rfl, rfl, ⟨Nat.zero_le _⟩, ⟨rfl⟩, ⟨0, rfl⟩⟩
      case round =>
        obtain ⟨k, b, rfl, rfl, hk, hb, ⟨n, rfl⟩⟩ := hrel
        have hk' := hk.out
        by_cases hkl : k < ys.length
        · obtain ⟨ad', he, hy, _⟩ := Kd.at_flatA HY.out hkl
          obtain rfl := Option.some.inj he
          have AT := all_take (P := fun g : Fnd => decide (xc ≤ g.cl)) hkl
          rw [← hb.out] at AT
          obtain ⟨y, hyy⟩ : ∃ y, y = ys[k].cl := ⟨_, rfl⟩
          have y0 : wo.cell? (ad.add (k * 4)) = some (.int .i64 y) := by rw [hyy]; exact hy _ rfl
          simp only [← hyy] at AT
          have j0 : (0 : Int) ≤ (k : Int) := by omega
          have j1 : (k : Int) < (ys.length : Int) := by omega
          clear hy hyy he
          cases b with
          | false =>
            have ATA : Aside0 (false = (ys.take (k + 1)).all (fun g => decide (xc ≤ g.cl))) := ⟨by rw [AT]; rfl⟩
            clear AT
            go_wp2
            go_quiet (fail)
            go_wp2
            exact ⟨⟨k + 1, false, rfl, rfl, ⟨by omega⟩, ATA, ⟨_, rfl⟩⟩, by simp [intOf]; omega⟩
          | true =>
            by_cases hle : xc ≤ y
            · have ATA : Aside0 (true = (ys.take (k + 1)).all (fun g => decide (xc ≤ g.cl))) := ⟨by rw [AT]; simp [hle]⟩
              have hd : decide (xc ≤ y) = true := by simp [hle]
              clear AT hle
              go_wp2
              go_quiet (fail)
              go_wp2
              exact ⟨⟨k + 1, true, rfl, rfl, ⟨by omega⟩, ATA, ⟨_, rfl⟩⟩, by simp [intOf]; omega⟩
            · have ATA : Aside0 (false = (ys.take (k + 1)).all (fun g => decide (xc ≤ g.cl))) := ⟨by rw [AT]; simp [hle]⟩
              have hd : decide (xc ≤ y) = false := by simp [hle]
              clear AT hle
              go_wp2
              go_quiet (fail)
              go_wp2
              exact ⟨⟨k + 1, false, rfl, rfl, ⟨by omega⟩, ATA, ⟨_, rfl⟩⟩, by simp [intOf]; omega⟩
        · have hge : ys.length ≤ k := by omega
          have hbq : b = qx := by rw [hb.out, List.take_of_length_le hge, EXA.out]
          subst hbq
          clear hkl
          cases b with
          | true =>
            go_wp2_with (first | ((with_reducible refine gate_builtin (b := .append) (xs := #[.tmp 45, .tmp 50]) rfl ?_); at_builtin; refine Kd.R_append kFnd (w0 := w) w.heap.size rfl (.tmp 45) (.tmp 50) 69 68 (.agg #[.int .i64 0, .int .i64 0, .int .i64 0, .int .i64 0]) 32 rfl Try.underlying69 fndinfo rfl (by decide) (by omega) _ (List.filter Q (List.take m ys)) ⟨xc, xl, xi, xs_⟩ [.int .i64 xc, .int .i64 xl, .int .i64 xi, .int .i64 xs_] (fun _ => True) (fun _ => False) rfl rfl ?aP (fun _ hk => hk.elim) ?aF ?aO ?aB ?aS ?aL ?_; (case aP => rfl); (case aB => exact (by repeat (first | (with_reducible first | exact HB.out | apply below_alloc | apply pw_below_drewN | apply below_drew1) | exact HB.out))); (case aF => exact (fun _ _ => trivial)); (case aO => exact (by (with_reducible repeat (first | apply Kd.R_alloc | apply Kd.R_drewN | apply Kd.R_drew)); exact RO.out)); (case aS => exact (below_size (by repeat (first | (with_reducible first | exact HB.out | apply below_alloc | apply pw_below_drewN | apply below_drew1) | exact HB.out)))); (case aL => exact hlim.out); intro v9 w9 ho9 hb9 hg9 hat9; obtain ⟨ho9', hne9⟩ := Kd.R_apart (Kd.R_drewN RO.out _) (Kd.R_drewN RY.out _) NE.out hg9 hat9; have RO9 := Aside0.mk ho9; have RY9 := Aside0.mk ho9'; have NE9 := Aside0.mk hne9; have HB9 := Aside0.mk hb9; clear ho9 ho9' hb9 hg9 hat9 hne9 RO RY NE HB HY))
            exact ⟨⟨m + 1, rfl, ⟨by omega⟩, RY9, NE9, ⟨by rw [FQA.out, if_pos (by simp)]; exact RO9.out⟩, HB9⟩, by simp [intOf]; omega⟩
          | false =>
            go_wp2
            exact ⟨⟨m + 1, rfl, ⟨by omega⟩, ⟨Kd.R_drewN RY.out _⟩, NE, ⟨by rw [FQA.out, if_neg (by simp)]; exact Kd.R_drewN RO.out _⟩, ⟨pw_below_drewN HB.out _⟩⟩, by simp [intOf]; omega⟩
    · have hge : ys.length ≤ m := by omega
      have EF : Aside0 (List.filter Q (List.take m ys) = leastF ys) := ⟨by rw [EQ.out, List.take_of_length_le hge]⟩
      rw [EF.out] at RO
      obtain ⟨Ao, co, rfl⟩ := Kd.R_slice RO.out
      have HRO := Aside0.mk (Kd.R_reads' RO.out).2.2
      clear hlt
      go_wp2
      go_ret
      exact ⟨_, _, rfl, HRO.out, HB.out⟩
end Go.Proofs.Ytfbcnmjahpbbeaa.K
