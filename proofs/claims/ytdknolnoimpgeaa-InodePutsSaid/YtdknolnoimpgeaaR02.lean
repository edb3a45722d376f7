/- The walks of the reference of chapter 2. -/
import Derived.Test.YtdknolnoimpgeaaR01
import Derived.Test.YtdknolnoimpgeaaKS02
namespace Go.Proofs.Ytdknolnoimpgeaa.K
open Go.RowKit Go.Proofs.YtdknolnoimpgeaaW.PrintWords Go.Proofs.YtdknolnoimpgeaaW.PrintLast Go.Proofs.YtdknolnoimpgeaaW.PrintMore
set_option linter.unusedVariables false
set_option linter.unusedSimpArgs false
set_option maxRecDepth 100000 in
theorem rSums_walk (A : Option Addr) (c : Nat) (l : List Int) (w : World) (hr : Kd.C (Kd.int .u8) w A l.length l) (hb : Byts l) (hl : l.length < 140737488355328) :
    Calls Try.prog 158 #[.slice A l.length c] w fun e w' => e = .returned (.tuple #[.int .i64 (s02 l).1, .int .i64 (s02 l).2]) ∧ w' = w := by
  have HR := Aside0.mk hr
  have HY := Aside0.mk hb
  have HL := Aside0.mk hl
  clear hr hb
  go_enter Try.func158, Try.ntmps158
  go_wp2
  go_loop [4, 5, 6] (fun v4 v5 v6 => ∃ m x y : Nat, v4 = .int .i64 x ∧ v5 = .int .i64 y ∧ v6 = .int .i64 m ∧ Aside0 (m ≤ l.length) ∧ Aside0 (x = (s02 (l.take m)).1) ∧ Aside0 (y = (s02 (l.take m)).2)) (fun _ _ i => l.length - (intOf i).toNat)
  case atStart => exact ⟨0, 1, 0, rfl, rfl, rfl, ⟨Nat.zero_le _⟩, ⟨rfl⟩, ⟨rfl⟩⟩
  case round =>
    obtain ⟨m, x, y, rfl, rfl, rfl, hm, hf1, hf2⟩ := hrel
    have hm' := hm.out
    by_cases hlt : m < l.length
    · obtain ⟨ad, rfl, hx⟩ := Kd.at_int HR.out (m : Int) (by omega) (by omega)
      rw [rd_get hlt, Int.toNat_natCast] at hx
      have hbm := HY.out _ (List.getElem_mem hlt)
      have hst := s02_take l hlt
      have hlt1 := s02_lt (l.take m)
      have hlt2 := s02_lt (l.take (m + 1))
      obtain ⟨q, hq⟩ : ∃ q, q = s02 (l.take (m + 1)) := ⟨_, rfl⟩
      have Q1 : Aside0 (s02 (l.take (m + 1)) = q) := ⟨hq.symm⟩
      obtain ⟨k, hk⟩ : ∃ k : Nat, l[m] = (k : Int) := ⟨l[m].toNat, by omega⟩
      rw [hk] at hx hst hbm
      have h1 := hf1.out
      have h2 := hf2.out
      rw [← hq] at hst hlt2
      have hs1 : ((x : Int) + (k : Int)).tmod 65521 = (q.1 : Int) := by rw [Int.tmod_eq_emod_of_nonneg (by omega), hst, h1]; simp [s02step]
      have hs2 : ((y : Int) + (q.1 : Int)).tmod 65521 = (q.2 : Int) := by
        rw [Int.tmod_eq_emod_of_nonneg (by omega), ← hs1, Int.tmod_eq_emod_of_nonneg (by omega), hst, h1, h2]; simp [s02step]
      have hx6 : x < 65521 := by rw [h1]; exact hlt1.1
      have hy6 : y < 65521 := by rw [h2]; exact hlt1.2
      obtain ⟨a, ha⟩ : ∃ a, a = q.1 := ⟨_, rfl⟩
      obtain ⟨b, hb⟩ : ∃ b, b = q.2 := ⟨_, rfl⟩
      rw [← ha, ← hb] at hs2
      rw [← ha] at hs1
      rw [← ha, ← hb] at hlt2
      have G1 := Aside0.mk ha
      have G2 := Aside0.mk hb
      clear h1 h2 hst hlt1 hq hk hf1 hf2 ha hb
      go_wp2
      exact ⟨⟨m + 1, a, b, rfl, rfl, rfl, ⟨by omega⟩, ⟨by rw [Q1.out]; exact G1.out⟩, ⟨by rw [Q1.out]; exact G2.out⟩⟩, by simp [intOf]; omega⟩
    · have hmn : m = l.length := by omega
      have E1 : x = (s02 l).1 := by rw [hf1.out, hmn, List.take_length]
      have E2 : y = (s02 l).2 := by rw [hf2.out, hmn, List.take_length]
      subst E1 E2 hmn
      clear hf1 hf2
      go_wp2
      go_ret2
      exact ⟨rfl, rfl⟩
theorem rOf_walk (A : Option Addr) (c : Nat) (l : List Int) (w : World) (hr : Kd.C (Kd.int .u8) w A l.length l) (hb : Byts l) (hl : l.length < 140737488355328) :
    Calls Try.prog 151 #[.slice A l.length c] w fun e w' => e = .returned (.int .i64 (of02 l)) ∧ w' = w := by
  have W1 := Aside0.mk (rSums_walk A c l w hr hb hl)
  have hlt := s02_lt l
  obtain ⟨x, hx⟩ : ∃ x, x = (s02 l).1 := ⟨_, rfl⟩
  obtain ⟨y, hy⟩ : ∃ y, y = (s02 l).2 := ⟨_, rfl⟩
  have hof : of02 l = x + 65536 * y := by rw [hx, hy]; rfl
  rw [hof]
  rw [← hx, ← hy] at hlt W1
  clear hx hy hof hr hb
  go_enter Try.func151, Try.ntmps151
  go_wp2_with (go_at_call 158; (with_reducible refine W1.out.mono ?_); rintro e w' ⟨rfl, rfl⟩)
  go_ret
  exact ⟨by simp, rfl⟩
theorem seal60_end (l : List Int) : (l ++ List.replicate (60 - l.length) 0).take 60 = seal60 l := by
  unfold seal60
  rw [List.take_append, List.take_replicate]
  congr 1
  congr 1; omega
theorem pad_lt (l : List Int) {m : Nat} (h : m < l.length) : (l ++ List.replicate (60 - l.length) 0).take (m + 1) = (l ++ List.replicate (60 - l.length) 0).take m ++ [l[m]] := by
  rw [List.take_succ_eq_append_getElem (by simp; omega), List.getElem_append_left h]
theorem pad_ge (l : List Int) {m : Nat} (h : l.length ≤ m) (h6 : m < 60) : (l ++ List.replicate (60 - l.length) 0).take (m + 1) = (l ++ List.replicate (60 - l.length) 0).take m ++ [0] := by
  rw [List.take_succ_eq_append_getElem (by simp; omega), List.getElem_append_right h]; simp
set_option maxRecDepth 100000 in
theorem rSeal_walk (A : Option Addr) (c : Nat) (l : List Int) (w : World) (hr : Kd.C (Kd.int .u8) w A l.length l) (hb : Byts l) (hl : l.length < 140737488355328) :
    Calls Try.prog 133 #[.slice A l.length c] w fun e w' => ∃ v : Value, e = .returned v ∧ Kd.R (Kd.int .u8) 5 w' w.heap.size (fun _ => True) v (sealS l) ∧ Below w.heap.size w w' := by
  have HR := Aside0.mk hr
  have HB := Aside0.mk (Below.refl w.heap.size w)
  have HY := Aside0.mk hb
  clear hr hb
  go_enter Try.func133, Try.ntmps133
  go_wp2_with (first | ((with_reducible refine gate_dst (N := 5) rfl ?_); refine Kd.R_lit (Kd.int .u8) _ 5 ?hg (N := 5) ?hd (xs := ([] : List Int)) (inner := []) (ok := fun _ => True) (okp := fun _ => True) ?hr ?hp (fun _ hk => hk) trivial (Below.refl _ _) (Nat.le_refl _) (by simp) ?_; (case hd => rfl); (case hg => rfl); (case hr => first | (go_simp; done) | (go_simp; rfl)); (case hp => exact (Reps.none _ _)); intro v114 w3 ho4 hb hg_ hnew_; clear hg_ hnew_; have n0_ := Aside0.mk (Kd.R_lower ho4 (below_size (by repeat (first | (with_reducible first | exact HB.out | apply below_alloc | apply pw_below_drewN | apply below_drew1) | exact HB.out)))); have n1_ := Aside0.mk (below_step (by repeat (first | (with_reducible first | exact HB.out | apply below_alloc | apply pw_below_drewN | apply below_drew1) | exact HB.out)) hb); clear HB; have HO1 := n0_; have HB := n1_; clear n0_ n1_; clear hb ho4))
  go_loopw [3, 4] (fun v3 v4 w' => ∃ m : Nat, ∃ s : List Int, v4 = .int .i64 m ∧ Aside0 (m ≤ 60) ∧ Aside0 (s = (l ++ List.replicate (60 - l.length) 0).take m) ∧ Aside0 (Kd.R (Kd.int .u8) 5 w' w.heap.size (fun _ => True) v3 s) ∧ Aside0 (Below w.heap.size w w')) (fun _ i _ => 60 - (intOf i).toNat)
  case atStart => exact ⟨0, [], rfl, ⟨Nat.zero_le _⟩, ⟨rfl⟩, HO1, HB⟩
  case round =>
    clear HO1 HB
    obtain ⟨m, s, rfl, hm, hs, HO1, HB⟩ := hrel
    have hm' := hm.out
    have hsl : s.length ≤ 60 := by rw [hs.out, List.length_take]; omega
    by_cases h60 : m < 60
    · by_cases hlt : m < l.length
      · obtain ⟨ad, rfl, hx⟩ := Kd.at_int (Kd.C_below HR.out HB.out) (m : Int) (by omega) (by omega)
        rw [rd_get hlt, Int.toNat_natCast] at hx
        have hpd := pad_lt l hlt
        rw [← hs.out] at hpd
        obtain ⟨x, hxx⟩ : ∃ x, x = l[m] := ⟨_, rfl⟩
        rw [← hxx] at hx hpd
        have HP := Aside0.mk hpd
        clear hpd hxx hs
        go_wp2_with (first | ((with_reducible refine gate_builtin (b := .append) (xs := #[.tmp 14, .tmp 19]) rfl ?_); at_builtin; refine Kd.R_append (Kd.int .u8) (w0 := w) w.heap.size rfl (.tmp 14) (.tmp 19) 24 5 (.int .u8 0) 1 rfl Try.underlying24 u8info rfl (by decide) (by omega) _ s x [.int .u8 x] (fun _ => True) (fun _ => False) rfl rfl ?aP (fun _ hk => hk.elim) ?aF ?aO ?aB ?aS ?aL ?_; (case aP => exact rfl); (case aB => exact (by repeat (first | (with_reducible first | exact HB.out | apply below_alloc | apply pw_below_drewN | apply below_drew1) | exact HB.out))); (case aF => exact (fun _ _ => trivial)); (case aO => exact (by (with_reducible repeat (first | apply Kd.R_alloc | apply Kd.R_drewN | apply Kd.R_drew)); exact HO1.out)); (case aS => exact (below_size (by repeat (first | (with_reducible first | exact HB.out | apply below_alloc | apply pw_below_drewN | apply below_drew1) | exact HB.out)))); (case aL => simp; omega); intro v9 w11 ho hb hg hat; have n0_ := Aside0.mk (hb); have n1_ := Aside0.mk (ho); clear HB; clear HO1; have HB := n0_; have HO2 := n1_; clear n0_ n1_; clear ho hb hg hat))
        exact ⟨⟨m + 1, _, rfl, ⟨by omega⟩, ⟨HP.out.symm⟩, HO2, HB⟩, by simp [intOf]; omega⟩
      · have hpd := pad_ge l (show l.length ≤ m by omega) h60
        rw [← hs.out] at hpd
        have HP := Aside0.mk hpd
        clear hpd hs
        go_wp2_with (first | ((with_reducible refine gate_builtin (b := .append) (xs := #[.tmp 21, .tmp 22]) rfl ?_); at_builtin; refine Kd.R_append (Kd.int .u8) (w0 := w) w.heap.size rfl (.tmp 21) (.tmp 22) 24 5 (.int .u8 0) 1 rfl Try.underlying24 u8info rfl (by decide) (by omega) _ s 0 [.int .u8 0] (fun _ => True) (fun _ => False) rfl rfl ?aP (fun _ hk => hk.elim) ?aF ?aO ?aB ?aS ?aL ?_; (case aP => exact rfl); (case aB => exact (by repeat (first | (with_reducible first | exact HB.out | apply below_alloc | apply pw_below_drewN | apply below_drew1) | exact HB.out))); (case aF => exact (fun _ _ => trivial)); (case aO => exact (by (with_reducible repeat (first | apply Kd.R_alloc | apply Kd.R_drewN | apply Kd.R_drew)); exact HO1.out)); (case aS => exact (below_size (by repeat (first | (with_reducible first | exact HB.out | apply below_alloc | apply pw_below_drewN | apply below_drew1) | exact HB.out)))); (case aL => simp; omega); intro v9 w11 ho hb hg hat; have n0_ := Aside0.mk (hb); have n1_ := Aside0.mk (ho); clear HB; clear HO1; have HB := n0_; have HO2 := n1_; clear n0_ n1_; clear ho hb hg hat))
        exact ⟨⟨m + 1, _, rfl, ⟨by omega⟩, ⟨HP.out.symm⟩, HO2, HB⟩, by simp [intOf]; omega⟩
    · have hm60 : m = 60 := by omega
      subst hm60
      have hse := hs.out
      rw [seal60_end] at hse
      have EP : Aside0 (numP s (of02 s) 4 = sealS l) := ⟨by rw [hse]; exact numP_seal l⟩
      have hs60 : s.length = 60 := by rw [hse]; exact seal60_length l
      have SB : Aside0 (Byts s) := ⟨by rw [hse]; exact seal60_byts HY.out⟩
      obtain ⟨A3, c3, rfl⟩ := Kd.R_slice HO1.out
      have HR3 := Aside0.mk (Kd.R_reads' HO1.out).2.2
      have HC3 := Aside0.mk (Kd.R_reads' HO1.out).2.1
      clear hs hse hs60
      go_wp2_with (first | (go_at_call 151; go_loud ((with_reducible refine (rOf_walk A3 c3 s _ (by first | exact HR3.out | (refine Kd.C_drewN ?_ _; exact HR3.out) | (refine Kd.C_alloc ?_ _; exact HR3.out)) SB.out (by omega)).mono ?_); rintro e w' ⟨rfl, rfl⟩)) | (go_at_call 150; (with_reducible refine (rP_walk A3 c3 s (of02 s) 4 _ (by first | exact HR3.out | (refine Kd.C_drewN ?_ _; exact HR3.out) | (refine Kd.C_alloc ?_ _; exact HR3.out)) HC3.out (by omega)).mono ?_); rintro e w5 ⟨v5, rfl, ho, hb⟩; rw [EP.out] at ho; replace ho := Kd.R_lower ho HB.out.size; obtain ⟨A5, c5, rfl⟩ := Kd.R_slice ho; have HR5 := Aside0.mk (Kd.R_reads' ho).2.2; have HC5 := Aside0.mk (Kd.R_reads' ho).2.1; have n1_ : Aside0 (Below w.heap.size w w5) := ⟨below_step (by repeat (first | (with_reducible first | exact HB.out | apply below_alloc | apply pw_below_drewN | apply below_drew1) | exact HB.out)) hb⟩; clear HB; have HB := n1_; clear n1_; have HO5 := Aside0.mk ho; clear ho hb))
      go_ret
      exact ⟨_, rfl, HO5.out, HB.out⟩
end Go.Proofs.Ytdknolnoimpgeaa.K
