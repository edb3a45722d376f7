/- The walks of the package sum: Seal, Sealed. -/
import Derived.Test.YtdknolnoimpgeaaK02
import Derived.Test.YtdknolnoimpgeaaK01
import Derived.StillTailTactics
namespace Go.Proofs.Ytdknolnoimpgeaa.K
open Go.RowKit Go.Proofs.YtdknolnoimpgeaaW.PrintWords Go.Proofs.YtdknolnoimpgeaaW.PrintLast Go.Proofs.YtdknolnoimpgeaaW.PrintMore
set_option linter.unusedVariables false
set_option linter.unusedSimpArgs false
theorem arr60 : (Try.prog.info? 155).map (·.zero) = some (some (.agg (Array.replicate 60 (.int .u8 0)))) := by kernel_rfl
theorem rep0 : ∀ (n : Nat) (w : World) (base : Nat) (ok : Nat → Prop), Reps ((Kd.int .u8).M w base ok) 1 (List.replicate n 0) (List.replicate n (.int .u8 0))
  | 0, w, base, ok => Reps.none _ _
  | n + 1, w, base, ok => Reps.one (show Kd.M (Kd.int .u8) _ _ _ 0 [.int .u8 0] from rfl) (rep0 n w base ok)
set_option maxRecDepth 100000 in
theorem seal_walk (A : Option Addr) (c : Nat) (l : List Int) (w : World) (hr : Kd.C (Kd.int .u8) w A l.length l) (hb : Byts l) :
    Calls Try.prog 90 #[.slice A l.length c] w fun e w' => ∃ v : Value, e = .returned v ∧ Kd.R (Kd.int .u8) 5 w' w.heap.size (fun _ => True) v (sealS l) ∧ Below w.heap.size w w' := by
  have HR := Aside0.mk hr
  have HB := Aside0.mk (Below.refl w.heap.size w)
  obtain ⟨s, hs⟩ : ∃ s, s = seal60 l := ⟨_, rfl⟩
  have E0 : Aside0 (l.take (min l.length (List.replicate 60 (0 : Int)).length) ++ (List.replicate 60 (0 : Int)).drop (min l.length (List.replicate 60 (0 : Int)).length) = s) := ⟨by
    rw [hs, List.length_replicate, List.drop_replicate]; unfold seal60
    congr 1
    · rw [Nat.min_comm, ← List.take_take, List.take_length]
    · congr 1; omega⟩
  have hsl : s.length = 60 := by rw [hs]; exact seal60_length l
  have hsb : Byts s := by rw [hs]; exact seal60_byts hb
  have EP : Aside0 (numP s (of02 s) 4 = sealS l) := ⟨by rw [hs]; exact numP_seal l⟩
  have SL := Aside0.mk hsl
  have SB := Aside0.mk hsb
  have hal : Try.prog.arrayLen 155 = 60 := by kernel_rfl
  have hel : Try.prog.elem 155 = 5 := by kernel_rfl
  clear hr hb hs hsl hsb
  go_enter Try.func90, Try.ntmps90
  go_wp2_with (first | ((with_reducible refine gate_dst (N := 3) rfl ?_); refine Kd.R_allocArr (Kd.int .u8) (w0 := w) w.heap.size rfl (N := 3) rfl 155 rfl arr60 (inner := List.replicate 60 (.int .u8 0)) (by kernel_rfl) (xs := List.replicate 60 0) (ok := fun _ => True) (okp := fun _ => True) (rep0 60 _ _ _) (fun _ h => h) trivial (Below.refl _ _) (Nat.le_refl _) (by simp) ?_; intro g1 w1 hg1 ho hb hg_; clear HB hg_; have HB := Aside0.mk hb; have HO1 := Aside0.mk ho; have HG1 := Aside0.mk hg1; clear ho hb hg1; simp only [List.length_replicate] at HO1) | ((with_reducible refine gate_builtin (b := .copy) (xs := #[.tmp 4, .tmp 5]) rfl ?_); refine Kd.R_copyArr (0 : Int) (w0 := w) w.heap.size rfl (.tmp 4) (.tmp 5) 24 24 5 155 rfl Try.underlying24 (by kernel_rfl) _ _ l _ _ _ _ rfl rfl HO1.out (Kd.C_below HR.out HB.out) HB.out HB.out.size ?_; intro w2 ho hb hg_; clear HB hg_; have HB := Aside0.mk hb; rw [E0.out] at ho; have HO2 := Aside0.mk ho; clear ho hb))
  have HR2 : Aside0 (Kd.C (Kd.int .u8) w2 (some ⟨g1, 0, none⟩) s.length s) := ⟨(Kd.R_reads' HO2.out).2.2⟩
  have W1 := Aside0.mk (fun W h => of_walk (some ⟨g1, 0, none⟩) 60 s W h SB.out (by have := SL.out; omega) : ∀ W, Kd.C (Kd.int .u8) W (some ⟨g1, 0, none⟩) s.length s → _)
  have W2 := Aside0.mk (fun W h => numP_walk (some ⟨g1, 0, none⟩) 60 s (of02 s) 4 W h (by have := SL.out; omega) (by have := SL.out; omega) : ∀ W, Kd.C (Kd.int .u8) W (some ⟨g1, 0, none⟩) s.length s → _)
  rw [SL.out] at HR2 W1 W2
  rw [EP.out] at W2
  clear HO2 HO1 HR E0
  refine wp_region_still_tail 3 (by kernel_rfl) (by kernel_rfl) ?_
  simp only [List.take_succ_cons, List.take_zero, List.drop_succ_cons, List.drop_zero]
  repeat still_step
  still_call (W1.out _ HR2.out)
  repeat still_step
  refine wpStill_nil ?_
  change wpList _ _ _ _ _ w2.drew
  clear W1
  go_wp2_with (go_at_call 96; (with_reducible refine (W2.out _ (by first | exact HR2.out | exact Kd.C_drew HR2.out | exact Kd.C_drewN HR2.out _)).mono ?_); rintro e w3 ⟨v3, rfl, ho, hb⟩; have HO3 := Aside0.mk (Kd.R_lower ho (show w.heap.size ≤ w2.heap.size from HB.out.size)); have n1_ : Aside0 (Below w.heap.size w w3) := ⟨below_step (by exact HB.out.drew) hb⟩; clear HB; have HB := n1_; clear n1_ ho hb)
  go_ret
  exact ⟨_, rfl, HO3.out, HB.out⟩
end Go.Proofs.Ytdknolnoimpgeaa.K
