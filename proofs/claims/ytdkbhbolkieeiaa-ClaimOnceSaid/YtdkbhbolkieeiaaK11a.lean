/- Inodes as they come in (chapter 11); slices.Clone of whole numbers. -/
import Derived.Test.YtdkbhbolkieeiaaKOpenA
import Derived.Test.YtdkbhbolkieeiaaKFlat
import Derived.Test.YtdkbhbolkieeiaaKCopyB
import Derived.Test.YtdkbhbolkieeiaaKSl
namespace Go.Proofs.Ytdkbhbolkieeiaa.K
open Go.RowKit Go.Deep Go.Proofs.YtdkbhbolkieeiaaW.PrintWords Go.Proofs.YtdkbhbolkieeiaaW.PrintLast Go.Proofs.YtdkbhbolkieeiaaW.PrintMore
set_option linter.unusedVariables false
set_option linter.unusedSimpArgs false
structure InoC where
  k : Int
  im : Int
  nl : Int
  ge : Int
  sz : Int
  p0 : Int
  p1 : Int
  p2 : Int
  p3 : Int
  at_ : Int
def InoC.enc (x : InoC) : List Value := [.int .i64 x.k, .int .i64 x.im, .int .i64 x.nl, .int .i64 x.ge, .int .i64 x.sz, .int .i64 x.p0, .int .i64 x.p1, .int .i64 x.p2, .int .i64 x.p3, .int .i64 x.at_]
theorem InoC.one (x : InoC) : ∀ u ∈ x.enc, u.oneCell' = true := by
  intro u hu
  simp only [InoC.enc, List.mem_cons, List.not_mem_nil, or_false] at hu
  rcases hu with rfl | rfl | rfl | rfl | rfl | rfl | rfl | rfl | rfl | rfl <;> rfl
abbrev kInoC : Kd InoC := Kd.flat 10 InoC.enc (fun _ => rfl) InoC.one
def InoC.pt (x : InoC) (k : Nat) : Int := match k with | 0 => x.p0 | 1 => x.p1 | 2 => x.p2 | 3 => x.p3 | _ => x.at_
def InoC.zero : InoC := ⟨0, 0, 0, 0, 0, 0, 0, 0, 0, 0⟩
def ptL (l : List InoC) (i k : Nat) : Int := (l.getD i InoC.zero).pt k
theorem ptL_get {l : List InoC} {i : Nat} (h : i < l.length) (k : Nat) : ptL l i k = (l[i]).pt k := by
  unfold ptL
  rw [List.getD_eq_getElem?_getD, List.getElem?_eq_getElem h]
  rfl
def InoC.ok (x : InoC) : Prop := ∀ k, -9223372036854775808 ≤ x.pt k ∧ x.pt k ≤ 9223372036854775807
theorem ptL_ok {l : List InoC} (h : ∀ x ∈ l, InoC.ok x) (i k : Nat) : -9223372036854775808 ≤ ptL l i k ∧ ptL l i k ≤ 9223372036854775807 := by
  by_cases hi : i < l.length
  · rw [ptL_get hi]; exact h _ (List.getElem_mem hi) k
  · unfold ptL
    rw [List.getD_eq_getElem?_getD, List.getElem?_eq_none (by omega)]
    show -9223372036854775808 ≤ InoC.zero.pt k ∧ InoC.zero.pt k ≤ 9223372036854775807
    unfold InoC.zero InoC.pt
    split <;> decide
theorem iinfo : (Try.prog.info? 3).map (fun i => (i.zero, i.size, i.bytes)) = some (some (.int .i64 0), 1, 8) := by kernel_rfl
set_option maxRecDepth 100000 in
theorem cloneI_walk (a0 : Addr) (c : Nat) (l : List Int) (w : World) (hr : Kd.C (Kd.int .i64) w (some a0) l.length l) (hc : l.length ≤ c) (hl : l.length ≤ 1000000) :
    Calls Try.prog 92 #[.slice (some a0) l.length c] w fun e w' => ∃ v : Value, e = .returned v ∧ Kd.R (Kd.int .i64) 3 w' w.heap.size (fun _ => True) v l ∧ Below w.heap.size w w' := by
  have HR := Aside0.mk hr
  have HL := Aside0.mk hl
  clear hr hc hl
  have HB := Aside0.mk (Below.refl w.heap.size w)
  have heq := fun W => Lib.run_eql_slice_nil (P := Try.prog) W 119 3 (some a0) l.length c 0 0 Try.underlying119
  go_enter Try.func92, Try.ntmps92
  go_wp2_with (first | ((with_reducible refine gate_dst (N := 5) rfl ?_); refine Kd.R_lit (Kd.int .i64) _ 3 ?hg (N := 5) ?hd (xs := ([] : List Int)) (inner := []) (ok := fun _ => True) (okp := fun _ => True) ?hr ?hp (fun _ hk => hk) trivial (Below.refl _ _) (Nat.le_refl _) (by simp) ?_; (case hd => rfl); (case hg => rfl); (case hr => first | (go_simp; done) | (go_simp; rfl)); (case hp => exact (Reps.none _ _)); intro v114 w3 ho4 hb hg_ hnew_; clear hg_ hnew_; have n0_ := Aside0.mk (Kd.R_lower ho4 (below_size (by repeat (first | (with_reducible first | exact HB.out | apply below_alloc | apply pw_below_drewN | apply below_drew1) | exact HB.out)))); have n1_ := Aside0.mk (below_step (by repeat (first | (with_reducible first | exact HB.out | apply below_alloc | apply pw_below_drewN | apply below_drew1) | exact HB.out)) hb); clear HB; have HO1 := n0_; have HB := n1_; clear n0_ n1_; clear hb ho4) | ((with_reducible refine gate_builtin (b := .append) (xs := #[.tmp 5, .tmp 6]) rfl ?_); at_builtin; refine Kd.R_append_rows (Kd.int .i64) (w0 := w) w.heap.size rfl (.tmp 5) (.tmp 6) 119 3 (.int .i64 0) 8 rfl Try.underlying119 iinfo rfl (by decide) (by omega) v114 [] l _ _ _ (fun _ => True) (fun _ => False) rfl rfl ?aO ?aR (fun _ _ h => h) (fun _ h => h.elim) ?aF ?aB ?aS ?aL ?_; (case aR => exact (Kd.C_below HR.out (by repeat (first | (with_reducible first | exact HB.out | apply below_alloc | apply pw_below_drewN | apply below_drew1) | exact HB.out)))); (case aB => exact (by repeat (first | (with_reducible first | exact HB.out | apply below_alloc | apply pw_below_drewN | apply below_drew1) | exact HB.out))); (case aF => exact (fun _ _ => trivial)); (case aO => exact (by (with_reducible repeat (first | apply Kd.R_alloc | apply Kd.R_drewN | apply Kd.R_drew)); exact HO1.out)); (case aS => exact (below_size (by repeat (first | (with_reducible first | exact HB.out | apply below_alloc | apply pw_below_drewN | apply below_drew1) | exact HB.out)))); (case aL => have := HL.out; simp; omega); intro v123 w11 ho hb hg hat; have n0_ := Aside0.mk (hb); have n1_ := Aside0.mk (ho); clear HB; clear HO1; have HB := n0_; have HO2 := n1_; clear n0_ n1_; clear ho hb hg hat))
  go_ret
  exact ⟨_, rfl, HO2.out, HB.out⟩
end Go.Proofs.Ytdkbhbolkieeiaa.K
