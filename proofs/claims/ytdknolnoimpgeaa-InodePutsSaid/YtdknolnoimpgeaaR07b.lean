/- The reference of chapter 7: Bytes, Put. -/
import Derived.Test.YtdknolnoimpgeaaR07
import Derived.Test.YtdknolnoimpgeaaR02
import Derived.Test.YtdknolnoimpgeaaK07d
namespace Go.Proofs.Ytdknolnoimpgeaa.K
open Go.RowKit Go.Proofs.YtdknolnoimpgeaaW.PrintWords Go.Proofs.YtdknolnoimpgeaaW.PrintLast Go.Proofs.YtdknolnoimpgeaaW.PrintMore
set_option linter.unusedVariables false
set_option linter.unusedSimpArgs false
theorem go_on {p : Prop} (h : p) : p := h
theorem R_new {α : Type} (d : Kd α) (W : World) (base : Nat) (e : TypeId) (hbase : base ≤ W.heap.size) {xs : List α} {inner : List Value} {ok okp : Nat → Prop} (hrep : Reps (d.M W base okp) d.sz xs inner) (hok : ∀ k, okp k → ok k) (hfresh : ok W.heap.size) (hm : xs.length ≤ 9223372036854775807) :
    d.R e (W.alloc (.cells inner.toArray e)) base ok (.slice (some ⟨W.heap.size, 0, none⟩) xs.length xs.length) xs := by
  refine ⟨fun k hk => ?_, inner, ?_, ?_⟩
  · have : W.heap.size = k := by simpa [Value.ownBlock] using hk
    subst this
    exact hfresh
  · have h2 := World.ownsRow_lit (base := base) (e := e) (size := d.sz) W inner.toArray xs.length hbase (by simpa [maxLen] using hm) (by simpa using hrep.1)
    simpa using h2
  · refine hrep.imp_ (fun p c hp => d.M_mono (fun k hk => ⟨hok k hk.1, fun he => ?_⟩) (Kd.M_below (d.M_bound hp) (below_alloc (Below.refl _ _) _)))
    have h3 : k = W.heap.size := by simpa [Value.ownBlock] using he
    have := hk.2.2.1
    omega
theorem R_two (a b : Int) (W : World) (base : Nat) (hbase : base ≤ W.heap.size) : (Kd.int .u8).R 5 (W.alloc (.cells #[.int .u8 a, .int .u8 b] 5)) base (fun _ => True) (.slice (some ⟨W.heap.size, 0, none⟩) 2 2) [a, b] :=
  R_new (Kd.int .u8) W base 5 hbase (xs := [a, b]) (inner := [.int .u8 a, .int .u8 b]) (ok := fun _ => True) (okp := fun _ => True) (Reps.one (show Kd.M (Kd.int .u8) _ _ _ a [.int .u8 a] from rfl) (Reps.one (show Kd.M (Kd.int .u8) _ _ _ b [.int .u8 b] from rfl) (Reps.none _ _))) (fun _ h => h) trivial (by simp)
set_option maxHeartbeats 4000000 in
set_option maxRecDepth 100000 in
theorem rBytes07_walk (k im nl ge sz p0 p1 p2 p3 at_ : Int) (w0 : World) (hok : inoOk k im nl ge sz p0 p1 p2 p3 at_ = true) : Calls Try.prog 106 #[inoV k im nl ge sz p0 p1 p2 p3 at_] w0 fun e w' => ∃ v : Value, e = .returned v ∧ Kd.R (Kd.int .u8) 5 w' w0.heap.size (fun _ => True) v (inoP k im nl ge sz p0 p1 p2 p3 at_) ∧ Below w0.heap.size w0 w' := by
  unfold inoV
  by_cases hz : inoZ k im nl ge sz p0 p1 p2 p3 at_ = true
  · have E1 : Aside0 (inoP k im nl ge sz p0 p1 p2 p3 at_ = List.replicate (64 : Int).toNat 0) := ⟨by unfold inoP; rw [if_pos hok, if_pos hz]; rfl⟩
    have q : ∀ w, (Op.equalIn 10000 54 (.agg #[.int .i64 k, .int .i64 im, .int .i64 nl, .int .i64 ge, .int .i64 sz, .int .i64 p0, .int .i64 p1, .int .i64 p2, .int .i64 p3, .int .i64 at_]) (.agg #[.int .i64 0, .int .i64 0, .int .i64 0, .int .i64 0, .int .i64 0, .int .i64 0, .int .i64 0, .int .i64 0, .int .i64 0, .int .i64 0])).run Try.prog w = .ok true w := fun w => by
      rw [eqIno 9997 w]; unfold inoZ at hz; rw [hz]
    clear hok hz
    obtain ⟨w, rfl⟩ : ∃ w, w = w0 := ⟨_, rfl⟩
    have HB := Aside0.mk (Below.refl w.heap.size w)
    go_enter Try.func106, Try.ntmps106
    go_wp2_with (first | ((with_reducible refine gate_dst (N := 8) rfl ?_); refine Kd.R_make (Kd.int .u8) _ 5 rfl (N := 8) rfl 24 _ _ rfl (64) rfl rfl Try.underlying24 (.int .u8 0) 1 u8info rfl (by decide) (by omega) 0 (ok := fun _ => True) (okp := fun _ => True) rfl (fun _ hk => hk) trivial (by omega) (by omega) (Below.refl _ _) (Nat.le_refl _) ?_; intro v1 w1 ho hb hg_ hnew_; clear hg_ hnew_; obtain ⟨g1, c1, rfl, hg1, hl1, _, _⟩ := Kd.R_form ho (by simp); have HG1 := Aside0.mk (Nat.le_trans (below_size (by repeat (first | (with_reducible first | exact HB.out | apply below_alloc | apply pw_below_drewN | apply below_drew1) | exact HB.out))) hg1); clear hg1 hl1; have HO1 := Aside0.mk (Kd.R_lower ho (below_size (by repeat (first | (with_reducible first | exact HB.out | apply below_alloc | apply pw_below_drewN | apply below_drew1) | exact HB.out)))); have n1_ : Aside0 (Below w.heap.size w w1) := ⟨below_step (by repeat (first | (with_reducible first | exact HB.out | apply below_alloc | apply pw_below_drewN | apply below_drew1) | exact HB.out)) hb⟩; clear HB; have HB := n1_; clear n1_; clear ho hb))
    go_ret
    exact ⟨_, by rfl, by rw [E1.out]; exact HO1.out, (by repeat (first | (with_reducible first | exact HB.out | apply below_alloc | apply pw_below_drewN | apply below_drew1) | exact HB.out))⟩
  have hzf : inoZ k im nl ge sz p0 p1 p2 p3 at_ = false := by simpa using hz
  have q : ∀ w, (Op.equalIn 10000 54 (.agg #[.int .i64 k, .int .i64 im, .int .i64 nl, .int .i64 ge, .int .i64 sz, .int .i64 p0, .int .i64 p1, .int .i64 p2, .int .i64 p3, .int .i64 at_]) (.agg #[.int .i64 0, .int .i64 0, .int .i64 0, .int .i64 0, .int .i64 0, .int .i64 0, .int .i64 0, .int .i64 0, .int .i64 0, .int .i64 0])).run Try.prog w = .ok false w := fun w => by
    rw [eqIno 9997 w]; unfold inoZ at hzf; rw [hzf]
  have E1 : Aside0 (inoP k im nl ge sz p0 p1 p2 p3 at_ = sealS (inoB k im nl ge sz p0 p1 p2 p3 at_)) := ⟨by unfold inoP; rw [if_pos hok, if_neg hz]⟩
  have hR : inoR k im nl ge sz p0 p1 p2 p3 at_ = true := by
    unfold inoOk at hok
    simp only [Bool.or_eq_true, Bool.and_eq_true] at hok
    exact (hok.resolve_left hz).1
  obtain ⟨⟨a0, b0⟩, ⟨a1, b1⟩, ⟨a2, b2⟩, ⟨a3, b3⟩, ⟨a4, b4⟩, ⟨a5, b5⟩, ⟨a6, b6⟩, ⟨a7, b7⟩, ⟨a8, b8⟩, a9, b9⟩ := inoR_parts hR
  have m0 : k % 256 = k := by omega
  have m1 : im % 256 = im := by omega
  clear hok hz hzf hR
  have WB2 : Aside0 (∀ (a : Int) (W : World), 0 ≤ a → a < 4294967296 → Calls Try.prog 137 #[.int .i64 a, .int .i64 2] W fun e w' => ∃ v : Value, e = .returned v ∧ Kd.R (Kd.int .u8) 5 w' W.heap.size (fun _ => True) v (leB a 2) ∧ Below W.heap.size W w') := ⟨fun a W h0 h1 => rB_walk a 2 W h0 h1 (by omega)⟩
  have WB4 : Aside0 (∀ (a : Int) (W : World), 0 ≤ a → a < 4294967296 → Calls Try.prog 137 #[.int .i64 a, .int .i64 4] W fun e w' => ∃ v : Value, e = .returned v ∧ Kd.R (Kd.int .u8) 5 w' W.heap.size (fun _ => True) v (leB a 4) ∧ Below W.heap.size W w') := ⟨fun a W h0 h1 => rB_walk a 4 W h0 h1 (by omega)⟩
  have E2 : Aside0 ([k, im] ++ leB nl 2 = inoPre k im nl ge sz p0 p1 p2 p3 at_ 3) := ⟨by simp [inoPre, inoRow, leB, m0, m1]⟩
  have hw8 : IntKind.u8.wrap k = k := by rw [IntKind.wrap_u8]; omega
  have hw9 : IntKind.u8.wrap im = im := by rw [IntKind.wrap_u8]; omega
  clear m0 m1
  go_enter Try.func106, Try.ntmps106
  go_wp2
  obtain ⟨w, hw⟩ : ∃ w, w = w0.alloc (.cells #[.int .i64 k, .int .i64 im, .int .i64 nl, .int .i64 ge, .int .i64 sz, .int .i64 p0, .int .i64 p1, .int .i64 p2, .int .i64 p3, .int .i64 at_] 54) := ⟨_, rfl⟩
  rw [← hw]
  have HW := Aside0.mk hw
  have HB := Aside0.mk (Below.refl w.heap.size w)
  have k0 : w.cell? ⟨w0.heap.size, 0, none⟩ = some (.int .i64 k) := by rw [hw]; go_simp
  have k1 : w.cell? ⟨w0.heap.size, 1, none⟩ = some (.int .i64 im) := by rw [hw]; go_simp
  have k2 : w.cell? ⟨w0.heap.size, 2, none⟩ = some (.int .i64 nl) := by rw [hw]; go_simp
  have k3 : w.cell? ⟨w0.heap.size, 3, none⟩ = some (.int .i64 ge) := by rw [hw]; go_simp
  have k4 : w.cell? ⟨w0.heap.size, 4, none⟩ = some (.int .i64 sz) := by rw [hw]; go_simp
  have k5 : w.cell? ⟨w0.heap.size, 5, none⟩ = some (.int .i64 p0) := by rw [hw]; go_simp
  have k6 : w.cell? ⟨w0.heap.size, 6, none⟩ = some (.int .i64 p1) := by rw [hw]; go_simp
  have k7 : w.cell? ⟨w0.heap.size, 7, none⟩ = some (.int .i64 p2) := by rw [hw]; go_simp
  have k8 : w.cell? ⟨w0.heap.size, 8, none⟩ = some (.int .i64 p3) := by rw [hw]; go_simp
  have k9 : w.cell? ⟨w0.heap.size, 9, none⟩ = some (.int .i64 at_) := by rw [hw]; go_simp
  have hlt : w0.heap.size < w.heap.size := by rw [hw]; simp
  clear hw
  go_region_held3 (fun W => W.cell? ⟨w0.heap.size, 0, none⟩ = some (.int .i64 k) ∧ W.cell? ⟨w0.heap.size, 1, none⟩ = some (.int .i64 im) ∧ W.cell? ⟨w0.heap.size, 2, none⟩ = some (.int .i64 nl)) (first | go_keep | (refine ⟨pw_cell_below hb5 ?_, pw_cell_below hb5 ?_, pw_cell_below hb5 ?_⟩ <;> go_keep) | (refine ⟨pw_cell_below hb19 ?_, pw_cell_below hb19 ?_, pw_cell_below hb19 ?_⟩ <;> go_keep)) (first | (go_at_call 137; (with_reducible refine (WB2.out nl _ a2 (by omega)).mono ?_); rintro e w5 ⟨v5, rfl, ho5, hb5⟩; obtain ⟨A5, c5, rfl⟩ := Kd.R_slice ho5) | ((refine Kd.R_append_rows_step (Kd.int .u8) (w0 := w) w.heap.size (by rfl) (.tmp 15) (.tmp 18) 24 5 (.int .u8 0) 1 (by rfl) Try.underlying24 u8info rfl (by decide) (by omega) _ [k, im] (leB nl 2) A5 (leB nl 2).length c5 (fun _ => True) (fun _ => False) (by rfl) (by rfl) (by first | exact Kd.R_below (Kd.R_drew (R_two k im w w.heap.size (Nat.le_refl _))) hb5 | exact R_two k im w5 w.heap.size hb5.size) (by first | exact (Kd.R_reads' ho5).2.2 | exact Kd.C_alloc (Kd.R_reads' ho5).2.2 _) (fun _ _ h => h) (fun _ h => h.elim) (fun _ _ => trivial) (by first | exact below_step (by repeat (first | exact HB.out | apply below_alloc | apply below_drew1)) hb5 | exact below_alloc (below_step (by repeat (first | exact HB.out | apply below_alloc | apply below_drew1)) hb5) _) (below_size (by first | exact below_step (by repeat (first | exact HB.out | apply below_alloc | apply below_drew1)) hb5 | exact below_alloc (below_step (by repeat (first | exact HB.out | apply below_alloc | apply below_drew1)) hb5) _)) (by simp [leB_length]) ?_; intro v19 w19 ho19 hb19 hg_ hat_)) | fail)
  all_goals
    have HX2 := Aside0.mk hb5
    clear hb5 ho5 hg_ hat_
    obtain ⟨L3, hL3⟩ : ∃ L, L = inoPre k im nl ge sz p0 p1 p2 p3 at_ 3 := ⟨_, rfl⟩
    rw [E2.out, ← hL3] at ho19
    have hl3 : L3.length ≤ 12 := by rw [hL3]; exact inoPre_len k im nl ge sz p0 p1 p2 p3 at_ 3 (by omega)
    have E3 : Aside0 (L3 ++ leB ge 4 ++ leB sz 2 = inoPre k im nl ge sz p0 p1 p2 p3 at_ 5) := ⟨by rw [hL3]; simp [inoPre, inoRow]⟩
    have HO := Aside0.mk ho19
    clear HB hL3 ho19
    have HB := Aside0.mk hb19
    clear hb19
    have HK : Aside0 (∀ m, m < 4 → w.cell? ⟨w0.heap.size, 5 + m, none⟩ = some (.int .i64 (pN p0 p1 p2 p3 m))) := ⟨fun m hm => by rcases lt4 hm with rfl | rfl | rfl | rfl <;> simp only [pN] <;> assumption⟩
    have HM : Aside0 (∀ m, m < 4 → 0 ≤ pN p0 p1 p2 p3 m ∧ pN p0 p1 p2 p3 m ≤ 65535) := ⟨fun m hm => by rcases lt4 hm with rfl | rfl | rfl | rfl <;> simp only [pN] <;> omega⟩
    have c3 := pw_cell_below HB.out k3
    have K4 := Aside0.mk k4
    have K9 := Aside0.mk k9
    clear k0 k1 k2 k3 k4 k5 k6 k7 k8 k9
    refine go_on ?_
    go_wp2_with (first | (go_at_call 137; (with_reducible refine (WB4.out ge _ a3 (by omega)).mono ?_); rintro e w6 ⟨v6, rfl, ho, hb⟩; have n0_ : Aside0 (Kd.R (Kd.int .u8) 5 w6 w.heap.size (fun _ => True) v19 L3) := ⟨Kd.R_below (by (with_reducible repeat (first | apply Kd.R_alloc | apply Kd.R_drewN | apply Kd.R_drew)); exact HO.out) hb⟩; clear HO; have HO := n0_; clear n0_; obtain ⟨A6, c6, rfl⟩ := Kd.R_slice ho; have HR6 := Aside0.mk (Kd.R_reads' ho).2.2; have HC6 := Aside0.mk (Kd.R_reads' ho).2.1; have n1_ : Aside0 (Below w.heap.size w w6) := ⟨below_step (by repeat (first | (with_reducible first | exact HB.out | apply below_alloc | apply pw_below_drewN | apply below_drew1) | exact HB.out)) hb⟩; clear HB; have HB := n1_; clear n1_; clear ho hb) | ((with_reducible refine gate_builtin (b := .append) (xs := #[.tmp 20, .tmp 23]) rfl ?_); at_builtin; refine Kd.R_append_rows (Kd.int .u8) (w0 := w) w.heap.size rfl (.tmp 20) (.tmp 23) 24 5 (.int .u8 0) 1 rfl Try.underlying24 u8info rfl (by decide) (by omega) v19 L3 (leB ge 4) _ _ _ (fun _ => True) (fun _ => False) rfl rfl ?aO ?aR (fun _ _ h => h) (fun _ h => h.elim) ?aF ?aB ?aS ?aL ?_; (case aR => exact (by first | exact HR6.out | (refine Kd.C_drewN ?_ _; exact HR6.out) | (refine Kd.C_alloc ?_ _; exact HR6.out))); (case aB => exact (by repeat (first | (with_reducible first | exact HB.out | apply below_alloc | apply pw_below_drewN | apply below_drew1) | exact HB.out))); (case aF => exact (fun _ _ => trivial)); (case aO => exact (by (with_reducible repeat (first | apply Kd.R_alloc | apply Kd.R_drewN | apply Kd.R_drew)); exact HO.out)); (case aS => exact (below_size (by repeat (first | (with_reducible first | exact HB.out | apply below_alloc | apply pw_below_drewN | apply below_drew1) | exact HB.out)))); (case aL => simp only [leB_length, List.length_append]; omega); intro v7 w7 ho hb hg hat; have n0_ := Aside0.mk (hb); have n1_ := Aside0.mk (ho); clear HB; clear HO; have HB := n0_; have HO := n1_; clear n0_ n1_; clear ho hb hg hat; have c4 := pw_cell_below HB.out K4.out) | (go_at_call 137; (with_reducible refine (WB2.out sz _ a4 (by omega)).mono ?_); rintro e w8 ⟨v8, rfl, ho, hb⟩; have n0_ : Aside0 (Kd.R (Kd.int .u8) 5 w8 w.heap.size (fun _ => True) v7 (L3 ++ leB ge 4)) := ⟨Kd.R_below (by (with_reducible repeat (first | apply Kd.R_alloc | apply Kd.R_drewN | apply Kd.R_drew)); exact HO.out) hb⟩; clear HO; have HO := n0_; clear n0_; obtain ⟨A8, c8, rfl⟩ := Kd.R_slice ho; have HR8 := Aside0.mk (Kd.R_reads' ho).2.2; have HC8 := Aside0.mk (Kd.R_reads' ho).2.1; have n1_ : Aside0 (Below w.heap.size w w8) := ⟨below_step (by repeat (first | (with_reducible first | exact HB.out | apply below_alloc | apply pw_below_drewN | apply below_drew1) | exact HB.out)) hb⟩; clear HB; have HB := n1_; clear n1_; clear ho hb) | ((with_reducible refine gate_builtin (b := .append) (xs := #[.tmp 25, .tmp 28]) rfl ?_); at_builtin; refine Kd.R_append_rows (Kd.int .u8) (w0 := w) w.heap.size rfl (.tmp 25) (.tmp 28) 24 5 (.int .u8 0) 1 rfl Try.underlying24 u8info rfl (by decide) (by omega) v7 (L3 ++ leB ge 4) (leB sz 2) _ _ _ (fun _ => True) (fun _ => False) rfl rfl ?aO ?aR (fun _ _ h => h) (fun _ h => h.elim) ?aF ?aB ?aS ?aL ?_; (case aR => exact (by first | exact HR8.out | (refine Kd.C_drewN ?_ _; exact HR8.out) | (refine Kd.C_alloc ?_ _; exact HR8.out))); (case aB => exact (by repeat (first | (with_reducible first | exact HB.out | apply below_alloc | apply pw_below_drewN | apply below_drew1) | exact HB.out))); (case aF => exact (fun _ _ => trivial)); (case aO => exact (by (with_reducible repeat (first | apply Kd.R_alloc | apply Kd.R_drewN | apply Kd.R_drew)); exact HO.out)); (case aS => exact (below_size (by repeat (first | (with_reducible first | exact HB.out | apply below_alloc | apply pw_below_drewN | apply below_drew1) | exact HB.out)))); (case aL => simp only [leB_length, List.length_append]; omega); intro v9 w9 ho hb hg hat; have n0_ := Aside0.mk (hb); have n1_ := Aside0.mk (ho); clear HB; clear HO; have HB := n0_; have HO := n1_; clear n0_ n1_; clear ho hb hg hat))
    clear c3 c4
    go_loopw [3, 4] (fun v3 v4 w' => ∃ m : Nat, ∃ L : List Int, v4 = .int .i64 m ∧ Aside0 (m ≤ 4) ∧ Aside0 (L = inoPre k im nl ge sz p0 p1 p2 p3 at_ (5 + m)) ∧ Aside0 (Kd.R (Kd.int .u8) 5 w' w.heap.size (fun _ => True) v3 L) ∧ Aside0 (Below w.heap.size w w')) (fun _ i _ => 4 - (intOf i).toNat)
    case atStart => exact ⟨0, _, rfl, ⟨by omega⟩, E3, HO, HB⟩
    case round =>
      clear HO HB
      obtain ⟨m, L, rfl, hm, hL, HO, HB⟩ := hrel
      have hm' := hm.out
      have hlL : L.length ≤ 40 := by rw [hL.out]; have := inoPre_len k im nl ge sz p0 p1 p2 p3 at_ (5 + m) (by omega); omega
      by_cases hlt4 : m < 4
      · have hc := pw_cell_below HB.out (HK.out m hlt4)
        obtain ⟨x0, x1⟩ := HM.out m hlt4
        have HS : Aside0 (L ++ leB (pN p0 p1 p2 p3 m) 2 = inoPre k im nl ge sz p0 p1 p2 p3 at_ (5 + (m + 1))) := ⟨by rw [hL.out]; rcases lt4 hlt4 with rfl | rfl | rfl | rfl <;> simp [inoPre, inoRow, pN]⟩
        obtain ⟨x, hx⟩ : ∃ x, x = pN p0 p1 p2 p3 m := ⟨_, rfl⟩
        rw [← hx] at hc x0 x1 HS
        clear hx hL
        go_wp2_with (first | (go_at_call 137; (with_reducible refine (WB2.out x _ x0 (by omega)).mono ?_); rintro e w10 ⟨v10, rfl, ho, hb⟩; have n0_ : Aside0 (Kd.R (Kd.int .u8) 5 w10 w.heap.size (fun _ => True) _ L) := ⟨Kd.R_below (by (with_reducible repeat (first | apply Kd.R_alloc | apply Kd.R_drewN | apply Kd.R_drew)); exact HO.out) hb⟩; clear HO; have HO := n0_; clear n0_; obtain ⟨A10, c10, rfl⟩ := Kd.R_slice ho; have HR10 := Aside0.mk (Kd.R_reads' ho).2.2; have HC10 := Aside0.mk (Kd.R_reads' ho).2.1; have n1_ : Aside0 (Below w.heap.size w w10) := ⟨below_step (by repeat (first | (with_reducible first | exact HB.out | apply below_alloc | apply pw_below_drewN | apply below_drew1) | exact HB.out)) hb⟩; clear HB; have HB := n1_; clear n1_; clear ho hb) | ((with_reducible refine gate_builtin (b := .append) (xs := #[.tmp 34, .tmp 39]) rfl ?_); at_builtin; refine Kd.R_append_rows (Kd.int .u8) (w0 := w) w.heap.size rfl (.tmp 34) (.tmp 39) 24 5 (.int .u8 0) 1 rfl Try.underlying24 u8info rfl (by decide) (by omega) _ L (leB x 2) _ _ _ (fun _ => True) (fun _ => False) rfl rfl ?aO ?aR (fun _ _ h => h) (fun _ h => h.elim) ?aF ?aB ?aS ?aL ?_; (case aR => exact (by first | exact HR10.out | (refine Kd.C_drewN ?_ _; exact HR10.out) | (refine Kd.C_alloc ?_ _; exact HR10.out))); (case aB => exact (by repeat (first | (with_reducible first | exact HB.out | apply below_alloc | apply pw_below_drewN | apply below_drew1) | exact HB.out))); (case aF => exact (fun _ _ => trivial)); (case aO => exact (by (with_reducible repeat (first | apply Kd.R_alloc | apply Kd.R_drewN | apply Kd.R_drew)); exact HO.out)); (case aS => exact (below_size (by repeat (first | (with_reducible first | exact HB.out | apply below_alloc | apply pw_below_drewN | apply below_drew1) | exact HB.out)))); (case aL => simp only [leB_length]; omega); intro v11 w11_ ho hb hg hat; have n0_ := Aside0.mk (hb); have n1_ := Aside0.mk (ho); clear HB; clear HO; have HB := n0_; have HO := n1_; clear n0_ n1_; clear ho hb hg hat))
        exact ⟨⟨m + 1, _, rfl, ⟨by omega⟩, HS, HO, HB⟩, by simp [intOf]; omega⟩
      · have hm4 : m = 4 := by omega
        subst hm4
        have hc := pw_cell_below HB.out K9.out
        have HS : Aside0 (L ++ leB at_ 2 = inoB k im nl ge sz p0 p1 p2 p3 at_) := ⟨by rw [hL.out, ← inoPre_all]; simp [inoPre, inoRow]⟩
        obtain ⟨LL, hLL⟩ : ∃ q, q = L ++ leB at_ 2 := ⟨_, rfl⟩
        have HLL := Aside0.mk hLL
        rw [← hLL] at HS
        have HYB : Aside0 (Byts LL) := ⟨by rw [HS.out]; exact inoB_byts _ _ _ _ _ _ _ _ _ _⟩
        have hlLL : LL.length ≤ 64 := by rw [hLL, List.length_append, leB_length]; omega
        clear hLL
        clear hL
        go_wp2_with (first | (go_at_call 137; (with_reducible refine (WB2.out at_ _ a9 (by omega)).mono ?_); rintro e w12 ⟨v12, rfl, ho, hb⟩; have n0_ : Aside0 (Kd.R (Kd.int .u8) 5 w12 w.heap.size (fun _ => True) _ L) := ⟨Kd.R_below (by (with_reducible repeat (first | apply Kd.R_alloc | apply Kd.R_drewN | apply Kd.R_drew)); exact HO.out) hb⟩; clear HO; have HO := n0_; clear n0_; obtain ⟨A12, c12, rfl⟩ := Kd.R_slice ho; have HR12 := Aside0.mk (Kd.R_reads' ho).2.2; have HC12 := Aside0.mk (Kd.R_reads' ho).2.1; have n1_ : Aside0 (Below w.heap.size w w12) := ⟨below_step (by repeat (first | (with_reducible first | exact HB.out | apply below_alloc | apply pw_below_drewN | apply below_drew1) | exact HB.out)) hb⟩; clear HB; have HB := n1_; clear n1_; clear ho hb) | ((with_reducible refine gate_builtin (b := .append) (xs := #[.tmp 41, .tmp 44]) rfl ?_); at_builtin; refine Kd.R_append_rows (Kd.int .u8) (w0 := w) w.heap.size rfl (.tmp 41) (.tmp 44) 24 5 (.int .u8 0) 1 rfl Try.underlying24 u8info rfl (by decide) (by omega) _ L (leB at_ 2) _ _ _ (fun _ => True) (fun _ => False) rfl rfl ?aO ?aR (fun _ _ h => h) (fun _ h => h.elim) ?aF ?aB ?aS ?aL ?_; (case aR => exact (by first | exact HR12.out | (refine Kd.C_drewN ?_ _; exact HR12.out) | (refine Kd.C_alloc ?_ _; exact HR12.out))); (case aB => exact (by repeat (first | (with_reducible first | exact HB.out | apply below_alloc | apply pw_below_drewN | apply below_drew1) | exact HB.out))); (case aF => exact (fun _ _ => trivial)); (case aO => exact (by (with_reducible repeat (first | apply Kd.R_alloc | apply Kd.R_drewN | apply Kd.R_drew)); exact HO.out)); (case aS => exact (below_size (by repeat (first | (with_reducible first | exact HB.out | apply below_alloc | apply pw_below_drewN | apply below_drew1) | exact HB.out)))); (case aL => simp only [leB_length]; omega); intro v13 w13 ho hb hg hat; have n0_ := Aside0.mk (hb); have n1_ := Aside0.mk (ho); clear HB; clear HO; have HB := n0_; have HO := n1_; clear n0_ n1_; clear ho hb hg hat; rw [← HLL.out] at HO; obtain ⟨A13, c13, rfl⟩ := Kd.R_slice HO.out; have HR13 := Aside0.mk (Kd.R_reads' HO.out).2.2) | (go_at_call 133; (with_reducible refine (rSeal_walk A13 c13 LL _ (by first | exact HR13.out | (refine Kd.C_drewN ?_ _; exact HR13.out) | (refine Kd.C_alloc ?_ _; exact HR13.out)) HYB.out (by omega)).mono ?_); rintro e w14 ⟨v14, rfl, ho, hb⟩; replace ho := Kd.R_lower ho (below_size (by repeat (first | (with_reducible first | exact HB.out | apply below_alloc | apply pw_below_drewN | apply below_drew1) | exact HB.out))); obtain ⟨A14, c14, rfl⟩ := Kd.R_slice ho; have HR14 := Aside0.mk (Kd.R_reads' ho).2.2; have HC14 := Aside0.mk (Kd.R_reads' ho).2.1; have n1_ : Aside0 (Below w.heap.size w w14) := ⟨below_step (by repeat (first | (with_reducible first | exact HB.out | apply below_alloc | apply pw_below_drewN | apply below_drew1) | exact HB.out)) hb⟩; clear HB; have HB := n1_; clear n1_; have HO14 := Aside0.mk ho; clear ho hb))
        go_ret
        refine ⟨_, rfl, ?_, ?_⟩
        · rw [E1.out, ← HS.out]; exact Kd.R_lower HO14.out (by omega)
        · exact below_step (by rw [HW.out]; exact below_alloc (Below.refl _ _) _) HB.out
end Go.Proofs.Ytdknolnoimpgeaa.K
