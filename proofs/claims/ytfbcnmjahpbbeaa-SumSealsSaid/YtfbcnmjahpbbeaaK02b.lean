/- The walks of the package sum: Seal, Sealed. -/
import Derived.Test.YtfbcnmjahpbbeaaK02
import Derived.Test.YtfbcnmjahpbbeaaK01
import Derived.StillTailTactics
namespace Go.Proofs.Ytfbcnmjahpbbeaa.K
open Go.RowKit Go.Proofs.YtfbcnmjahpbbeaaW.PrintWords Go.Proofs.YtfbcnmjahpbbeaaW.PrintLast Go.Proofs.YtfbcnmjahpbbeaaW.PrintMore
set_option linter.unusedVariables false
set_option linter.unusedSimpArgs false
theorem arr60 : (Try.prog.info? 88).map (·.zero) = some (some (.agg (Array.replicate 60 (.int .u8 0)))) := by kernel_rfl
theorem rep0 : ∀ (n : Nat) (w : World) (base : Nat) (ok : Nat → Prop), Reps ((Kd.int .u8).M w base ok) 1 (List.replicate n 0) (List.replicate n (.int .u8 0))
  | 0, w, base, ok => Reps.none _ _
  | n + 1, w, base, ok => Reps.one (show Kd.M (Kd.int .u8) _ _ _ 0 [.int .u8 0] from rfl) (rep0 n w base ok)
set_option maxRecDepth 100000 in
theorem seal_walk (A : Option Addr) (c : Nat) (l : List Int) (w : World) (hr : Kd.C (Kd.int .u8) w A l.length l) (hb : Byts l) :
    Calls Try.prog 38 #[.slice A l.length c] w fun e w' => ∃ v : Value, e = .returned v ∧ Kd.R (Kd.int .u8) 5 w' w.heap.size (fun _ => True) v (sealS l) ∧ Below w.heap.size w w' := by
  have HR := Aside0.mk hr
  have HB := Aside0.mk (Below.refl w.heap.size w)
  obtain ⟨s, hs⟩ : ∃ s, s = seal60 l := ⟨_, rfl⟩
  have E0 : Aside0 (l.take (min l.length (List.replicate 60 (0 : Int)).length) ++ (List.replicate 60 (0 : Int)).drop (min l.length (List.replicate 60 (0 : Int)).length) = s) := ⟨by
    rw [hs, List.length_replicate, List.drop_replicate]; unfold seal60
    congr 1
    · rw [Nat.min_comm, ← List.take_take, List.take_length]
    · congr 1; omega⟩
  have hsl : s.length = 60 := by rw [hs]; exact seal60_length l
  have hsb : Byts s := by rw [hs]; exact seal60_byts hb
  have EP : Aside0 (numP s (of02 s) 4 = sealS l) := ⟨by rw [hs]; exact numP_seal l⟩
  have SL := Aside0.mk hsl
  have SB := Aside0.mk hsb
  have hal : Try.prog.arrayLen 88 = 60 := by kernel_rfl
  have hel : Try.prog.elem 88 = 5 := by kernel_rfl
  clear hr hb hs hsl hsb
  go_enter Try.func38, Try.ntmps38
  go_wp2_with (first | ((with_reducible refine gate_dst (N := 3) rfl ?_); refine Kd.R_allocArr (Kd.int .u8) (w0 := w) w.heap.size rfl (N := 3) rfl 88 rfl arr60 (inner := List.replicate 60 (.int .u8 0)) (by kernel_rfl) (xs := List.replicate 60 0) (ok := fun _ => True) (okp := fun _ => True) (rep0 60 _ _ _) (fun _ h => h) trivial (Below.refl _ _) (Nat.le_refl _) (by simp) ?_; intro g1 w1 hg1 ho hb hg_; clear HB hg_; have HB := Aside0.mk hb; have HO1 := Aside0.mk ho; have HG1 := Aside0.mk hg1; clear ho hb hg1; simp only [List.length_replicate] at HO1) | ((with_reducible refine gate_builtin (b := .copy) (xs := #[.tmp 4, .tmp 5]) rfl ?_); refine Kd.R_copyArr (0 : Int) (w0 := w) w.heap.size rfl (.tmp 4) (.tmp 5) 22 22 5 88 rfl Try.underlying22 (by kernel_rfl) _ _ l _ _ _ _ rfl rfl HO1.out (Kd.C_below HR.out HB.out) HB.out HB.out.size ?_; intro w2 ho hb hg_; clear HB hg_; have HB := Aside0.mk hb; rw [E0.out] at ho; have HO2 := Aside0.mk ho; clear ho hb))
  have HR2 : Aside0 (Kd.C (Kd.int .u8) w2 (some ⟨g1, 0, none⟩) s.length s) := ⟨(Kd.R_reads' HO2.out).2.2⟩
  have W1 := Aside0.mk (fun W h => of_walk (some ⟨g1, 0, none⟩) 60 s W h SB.out (by have := SL.out; omega) : ∀ W, Kd.C (Kd.int .u8) W (some ⟨g1, 0, none⟩) s.length s → _)
  have W2 := Aside0.mk (fun W h => numP_walk (some ⟨g1, 0, none⟩) 60 s (of02 s) 4 W h (by have := SL.out; omega) (by have := SL.out; omega) : ∀ W, Kd.C (Kd.int .u8) W (some ⟨g1, 0, none⟩) s.length s → _)
  rw [SL.out] at HR2 W1 W2
  rw [EP.out] at W2
  clear HO2 HO1 HR E0
  refine wp_region_still_tail 3 (by kernel_rfl) (by kernel_rfl) ?_
  simp only [List.take_succ_cons, List.take_zero, List.drop_succ_cons, List.drop_zero]
  repeat still_step
  still_call (W1.out _ HR2.out)
  repeat still_step
  refine wpStill_nil ?_
  change wpList _ _ _ _ _ w2.drew
  clear W1
  go_wp2_with (go_at_call 19; (with_reducible refine (W2.out _ (by first | exact HR2.out | exact Kd.C_drew HR2.out | exact Kd.C_drewN HR2.out _)).mono ?_); rintro e w3 ⟨v3, rfl, ho, hb⟩; have HO3 := Aside0.mk (Kd.R_lower ho (show w.heap.size ≤ w2.heap.size from HB.out.size)); have n1_ : Aside0 (Below w.heap.size w w3) := ⟨below_step (by exact HB.out.drew) hb⟩; clear HB; have HB := n1_; clear n1_ ho hb)
  go_ret
  exact ⟨_, rfl, HO3.out, HB.out⟩
set_option maxRecDepth 100000 in
theorem sealed_walk (A : Option Addr) (c : Nat) (l : List Int) (w : World) (hr : Kd.C (Kd.int .u8) w A l.length l) (hc : l.length ≤ c) (hb : Byts l) :
    Calls Try.prog 40 #[.slice A l.length c] w fun e w' => e = .returned (.bool (sealedS l)) ∧ Below w.heap.size w w' := by
  have HR := Aside0.mk hr
  have HB := Aside0.mk (Below.refl w.heap.size w)
  by_cases h64 : l.length = 64
  case neg =>
    have E0 : Aside0 (sealedS l = false) := ⟨by unfold sealedS; rw [decide_eq_false h64]; rfl⟩
    have hb : ((l.length : Int) == 64) = false := by simp; omega
    clear h64 hr
    go_enter Try.func40, Try.ntmps40
    go_wp2
    go_ret
    exact ⟨ret_b (by rw [E0.out]), HB.out⟩
  have HY := Aside0.mk hb
  obtain ⟨i5, hi5, hz5⟩ := Option.map_eq_some_iff.1 u8info
  obtain ⟨r1, C1, _⟩ := cutTo (P := Try.prog) (Kd.int .u8) 22 5 Try.underlying22 hi5 A c l 60 (by omega) hc
  have C1' := Aside0.mk (show Kd.C (Kd.int .u8) w A (l.take 60).length (l.take 60) from by rw [List.length_take, h64]; exact C1 w hr)
  have hb8 : ((l.length : Int) == 64) = true := by rw [h64]; rfl
  have E0 : Aside0 (sealedS l = decide (l = sealS (l.take 60))) := ⟨by unfold sealedS; rw [decide_eq_true h64]; rfl⟩
  have W1 := Aside0.mk (fun W h => seal_walk A c (l.take 60) W h (hb.take 60))
  rw [show (l.take 60).length = 60 by rw [List.length_take, h64]; rfl] at C1' W1
  clear hr hb hi5 hz5 C1 h64
  go_enter Try.func40, Try.ntmps40
  go_wp2_with (first | (go_at_call 38; (with_reducible refine (W1.out _ (Kd.C_below C1'.out (by repeat (first | (with_reducible first | exact HB.out | apply below_alloc | apply pw_below_drewN | apply below_drew1) | exact HB.out)))).mono ?_); rintro e w2 ⟨v2, rfl, ho, hb⟩; obtain ⟨A2, c2, rfl⟩ := Kd.R_slice ho; have HR2 := Aside0.mk (Kd.R_reads' ho).2.2; have HC2 := Aside0.mk (Kd.R_reads' ho).2.1; have n1_ : Aside0 (Below w.heap.size w w2) := ⟨below_step (by repeat (first | (with_reducible first | exact HB.out | apply below_alloc | apply pw_below_drewN | apply below_drew1) | exact HB.out)) hb⟩; clear HB; have HB := n1_; clear n1_; clear ho hb) | (go_at_call 18; refine (bEq_walk A c l A2 c2 (sealS (l.take 60)) _ (Kd.C_below HR.out (by repeat (first | (with_reducible first | exact HB.out | apply below_alloc | apply pw_below_drewN | apply below_drew1) | exact HB.out))) (by first | exact HR2.out | (refine Kd.C_drewN ?_ _; exact HR2.out) | (refine Kd.C_alloc ?_ _; exact HR2.out)) HY.out (sealS_byts (HY.out.take 60))).mono ?_; rintro e w' ⟨rfl, ⟨nd, rfl⟩⟩))
  go_ret
  exact ⟨ret_b (by rw [E0.out]), (by repeat (first | (with_reducible first | exact HB.out | apply below_alloc | apply pw_below_drewN | apply below_drew1) | exact HB.out))⟩
end Go.Proofs.Ytfbcnmjahpbbeaa.K
