/- inode.read. -/
import Derived.Test.YtdknolnoimpgeaaK07d
namespace Go.Proofs.Ytdknolnoimpgeaa.K
open Go.RowKit Go.Proofs.YtdknolnoimpgeaaW.PrintWords Go.Proofs.YtdknolnoimpgeaaW.PrintLast Go.Proofs.YtdknolnoimpgeaaW.PrintMore
set_option linter.unusedVariables false
set_option linter.unusedSimpArgs false
def offs : Nat → Int
  | 0 => 0 | 1 => 1 | 2 => 2 | 3 => 4 | 4 => 8 | 5 => 10 | 6 => 12 | 7 => 14 | 8 => 16 | 9 => 18 | _ => 20
def siz (m : Nat) : Int := (inoRow 0 0 0 0 0 0 0 0 0 0 m).2.1
theorem offs_siz {m : Nat} (h : m < 10) : 0 ≤ offs m ∧ offs m ≤ 18 ∧ 1 ≤ siz m ∧ siz m ≤ 4 ∧ offs m + siz m = offs (m + 1) := by
  rcases lt10 h with rfl | rfl | rfl | rfl | rfl | rfl | rfl | rfl | rfl | rfl <;> decide
def inoA (l : List Int) (m : Nat) : List Int := (List.range m).map (fun j => gN l (offs j) (siz j)) ++ List.replicate (10 - m) 0
theorem inoA_len (l : List Int) {m : Nat} (h : m ≤ 10) : (inoA l m).length = 10 := by simp [inoA]; omega
theorem inoA_set (l : List Int) {m : Nat} (h : m < 10) : (inoA l m).set m (gN l (offs m) (siz m)) = inoA l (m + 1) := by
  unfold inoA
  have e : 10 - m = (10 - (m + 1)) + 1 := by omega
  rw [List.set_append_right _ _ (by simp), e, List.replicate_succ, List.range_succ]
  simp
theorem inoA_all (l : List Int) : inoA l 10 = [gN l 0 1, gN l 1 1, gN l 2 2, gN l 4 4, gN l 8 2, gN l 10 2, gN l 12 2, gN l 14 2, gN l 16 2, gN l 18 2] := by
  simp [inoA, List.range_succ, offs, siz, inoRow]
theorem arr10 : (Try.prog.info? 161).map (·.zero) = some (some (.agg (Array.replicate 10 (.int .i64 0)))) := by kernel_rfl
theorem rep10 : ∀ (n : Nat) (w : World) (base : Nat) (ok : Nat → Prop), Reps ((Kd.int .i64).M w base ok) 1 (List.replicate n 0) (List.replicate n (.int .i64 0))
  | 0, w, base, ok => Reps.none _ _
  | n + 1, w, base, ok => Reps.one (show Kd.M (Kd.int .i64) _ _ _ 0 [.int .i64 0] from rfl) (rep10 n w base ok)
theorem run_arrayAt {P : Program} (W : World) (t e : TypeId) (n : Nat) (ht : P.underlying t = some (.array n e)) (a : Option Addr) (m c : Nat) (h : n ≤ m) : (Instr.arrayAt t (.slice a m c)).run P W = .ok (.pointer a) W := by
  simp [Instr.arrayAt, run_underlying ht, show ¬ m < n by omega]
set_option maxRecDepth 100000 in
theorem inoRead_walk (A : Option Addr) (c : Nat) (l : List Int) (w : World) (hr : Kd.C (Kd.int .u8) w A l.length l) (hc : l.length ≤ c) (hl : l.length < 140737488355320) (hb : Byts l) :
    Calls Try.prog 109 #[.slice A l.length c] w fun e w' => e = .returned (inoV (gN l 0 1) (gN l 1 1) (gN l 2 2) (gN l 4 4) (gN l 8 2) (gN l 10 2) (gN l 12 2) (gN l 14 2) (gN l 16 2) (gN l 18 2)) ∧ Below w.heap.size w w' := by
  have HR := Aside0.mk hr
  have HC := Aside0.mk hc
  have HY := Aside0.mk hb
  have WN := Aside0.mk (fun W => inoNumbers_walk 0 0 0 0 0 0 0 0 0 0 W)
  have IX := Aside0.mk (fun m (h : m < 10) W => inoN_at 0 0 0 0 0 0 0 0 0 0 h W)
  obtain ⟨nv, hnv⟩ : ∃ nv, nv = inoN 0 0 0 0 0 0 0 0 0 0 := ⟨_, rfl⟩
  rw [← hnv] at WN IX
  clear hr hc hb hnv
  unfold inoV at WN ⊢
  go_enter Try.func109, Try.ntmps109
  go_wp2_with (first | ((with_reducible refine gate_dst (N := 3) rfl ?_); go_loud (refine Kd.R_allocArr (Kd.int .i64) (w0 := w.alloc (.cells #[.int .i64 0, .int .i64 0, .int .i64 0, .int .i64 0, .int .i64 0, .int .i64 0, .int .i64 0, .int .i64 0, .int .i64 0, .int .i64 0] 54)) (w.alloc (.cells #[.int .i64 0, .int .i64 0, .int .i64 0, .int .i64 0, .int .i64 0, .int .i64 0, .int .i64 0, .int .i64 0, .int .i64 0, .int .i64 0] 54)).heap.size rfl (N := 3) rfl 161 rfl arr10 (inner := List.replicate 10 (.int .i64 0)) (by kernel_rfl) (xs := List.replicate 10 0) (ok := fun _ => True) (okp := fun _ => True) (rep10 10 _ _ _) (fun _ h => h) trivial (Below.refl _ _) (Nat.le_refl _) (by simp) ?_; intro g1 w1 hg1 ho hb hg_; have HX := Aside0.mk hb; have HO1 := Aside0.mk ho; have HG1 := Aside0.mk hg1; clear ho hb hg1 hg_; simp only [List.length_replicate] at HO1)) | (go_at_call 105; (with_reducible refine (WN.out _).mono ?_); rintro e w2 ⟨rfl, hb⟩; have n2_ := Aside0.mk (below_step (by repeat (first | (with_reducible first | exact HX.out | apply below_alloc | apply pw_below_drewN | apply below_drew1) | exact HX.out)) hb); clear HX; have HX := n2_; clear n2_; have n0_ := Aside0.mk (Kd.R_below HO1.out hb); clear HO1; have HO1 := n0_; clear n0_ hb))
  go_loopw [4, 9] (fun v4 v9 w' => ∃ m : Nat, v4 = .int .i64 (offs m) ∧ v9 = .int .i64 m ∧ Aside0 (m ≤ 10) ∧ Aside0 (Kd.R (Kd.int .i64) 161 w' (w.alloc (.cells #[.int .i64 0, .int .i64 0, .int .i64 0, .int .i64 0, .int .i64 0, .int .i64 0, .int .i64 0, .int .i64 0, .int .i64 0, .int .i64 0] 54)).heap.size (fun _ => True) (.slice (some ⟨g1, 0, none⟩) 10 10) (inoA l m)) ∧ Aside0 (Below (w.alloc (.cells #[.int .i64 0, .int .i64 0, .int .i64 0, .int .i64 0, .int .i64 0, .int .i64 0, .int .i64 0, .int .i64 0, .int .i64 0, .int .i64 0] 54)).heap.size (w.alloc (.cells #[.int .i64 0, .int .i64 0, .int .i64 0, .int .i64 0, .int .i64 0, .int .i64 0, .int .i64 0, .int .i64 0, .int .i64 0, .int .i64 0] 54)) w')) (fun _ i _ => 10 - (intOf i).toNat)
  case atStart => exact ⟨0, rfl, rfl, ⟨by omega⟩, HO1, HX⟩
  case round =>
    clear HX HO1
    obtain ⟨m, rfl, rfl, hm, HO1, HX⟩ := hrel
    have hm' := hm.out
    by_cases hlt : m < 10
    · have hx := IX.out m hlt
      have HS := Aside0.mk (inoA_set l hlt)
      obtain ⟨o0, o1, s0, s1, oe⟩ := offs_siz hlt
      have hsz : (inoRow 0 0 0 0 0 0 0 0 0 0 m).2.1 = siz m := rfl
      obtain ⟨⟨v, s, t⟩, hr⟩ : ∃ r, r = inoRow 0 0 0 0 0 0 0 0 0 0 m := ⟨_, rfl⟩
      rw [← hr] at hx hsz
      simp only at hx hsz
      rw [← hsz] at HS s0 s1 oe
      obtain ⟨o, ho⟩ : ∃ o, o = offs m := ⟨_, rfl⟩
      rw [← ho] at HS o0 o1 oe ⊢
      obtain ⟨hcell, hfz⟩ := Kd.R_celln 0 HO1.out (m : Int) (by omega) (by omega)
      rw [Int.toNat_natCast] at hcell hfz
      obtain ⟨xo, hxo⟩ : ∃ xo, xo = rdOf 0 (inoA l m) (m : Int) := ⟨_, rfl⟩
      rw [← hxo] at hcell
      have hgl : g1 < wr.heap.size := World.block_lt_of_cell? _ _ hcell
      have HE := Aside0.mk oe
      have HN : Aside0 ((numG l o s).1 = gN l o s) := ⟨rfl⟩
      clear hr hsz ho hxo oe
      go_wp2_with (first | (go_at_call 98; (with_reducible refine (numG_walk A c l o s _ (Kd.C_below HR.out (below_step (W := w.alloc (.cells #[.int .i64 0, .int .i64 0, .int .i64 0, .int .i64 0, .int .i64 0, .int .i64 0, .int .i64 0, .int .i64 0, .int .i64 0, .int .i64 0] 54)) (by repeat (first | exact Below.refl _ _ | apply Below.drew | apply below_alloc)) (by repeat (first | (with_reducible first | exact HX.out | apply below_alloc | apply pw_below_drewN | apply below_drew1) | exact HX.out)))) HC.out hl HY.out).mono ?_); rintro e w' ⟨rfl, ⟨nd, rfl⟩⟩; rw [HN.out]))
      refine ⟨⟨m + 1, ?_, rfl, ⟨by omega⟩, ⟨?_⟩, ⟨?_⟩⟩, by simp [intOf]; omega⟩
      · rw [HE.out]
      · rw [← HS.out]
        have := (Kd.R_putg (Kd.R_drewN (Kd.R_alloc HO1.out (.cells #[.int .i64 v, .int .i64 s, .int .i64 t] 120)) nd) (m : Int) (gN l o s)).1
        rw [Int.toNat_natCast] at this
        exact this
      · exact below_set (by repeat (first | (with_reducible first | exact HX.out | apply below_alloc | apply pw_below_drewN | apply below_drew1) | exact HX.out)) HG1.out
    · have hmn : 10 ≤ m := by omega
      have h10 : m = 10 := by omega
      rw [h10, inoA_all] at HO1
      have HK := (Kd.R_reads' HO1.out).2.2
      have c0 : wr.cell? ⟨g1, 0, none⟩ = some (.int .i64 (gN l 0 1)) := C_cell HK (m := 0) (by simp)
      have c1 : wr.cell? ⟨g1, 1, none⟩ = some (.int .i64 (gN l 1 1)) := C_cell HK (m := 1) (by simp)
      have c2 : wr.cell? ⟨g1, 2, none⟩ = some (.int .i64 (gN l 2 2)) := C_cell HK (m := 2) (by simp)
      have c3 : wr.cell? ⟨g1, 3, none⟩ = some (.int .i64 (gN l 4 4)) := C_cell HK (m := 3) (by simp)
      have c4 : wr.cell? ⟨g1, 4, none⟩ = some (.int .i64 (gN l 8 2)) := C_cell HK (m := 4) (by simp)
      have c5 : wr.cell? ⟨g1, 5, none⟩ = some (.int .i64 (gN l 10 2)) := C_cell HK (m := 5) (by simp)
      have c6 : wr.cell? ⟨g1, 6, none⟩ = some (.int .i64 (gN l 12 2)) := C_cell HK (m := 6) (by simp)
      have c7 : wr.cell? ⟨g1, 7, none⟩ = some (.int .i64 (gN l 14 2)) := C_cell HK (m := 7) (by simp)
      have c8 : wr.cell? ⟨g1, 8, none⟩ = some (.int .i64 (gN l 16 2)) := C_cell HK (m := 8) (by simp)
      have c9 : wr.cell? ⟨g1, 9, none⟩ = some (.int .i64 (gN l 18 2)) := C_cell HK (m := 9) (by simp)
      have hres : wr.heap[w.heap.size]? = some (.cells #[.int .i64 0, .int .i64 0, .int .i64 0, .int .i64 0, .int .i64 0, .int .i64 0, .int .i64 0, .int .i64 0, .int .i64 0, .int .i64 0] 54 (0, 0)) := (HX.out.block _ (by simp)).trans (heap_alloc_new _ _)
      have HRES := Aside0.mk hres
      have hap := fun W => run_arrayAt (P := Try.prog) W 52 3 4 Try.underlying52 (some ⟨g1, 5, none⟩) 4 5 (by omega)
      clear HK h10 hlt hres
      go_wp2
      refine wp_region_still_tail 16 (by kernel_rfl) (by kernel_rfl) ?_
      simp only [List.take_succ_cons, List.take_zero, List.drop_succ_cons, List.drop_zero]
      change wpStill _ _ wr.drew _ _ _
      repeat still_step
      refine wpStill_nil ?_
      go_wp2_with ((with_reducible refine gate_store (p := 2) rfl ?_); go_loud (refine wpList_store_rowTo rfl 54 (.tmp 2) (.tmp 43) rfl rfl w.heap.size #[.int .i64 (gN l 0 1), .int .i64 (gN l 1 1), .int .i64 (gN l 2 2), .int .i64 (gN l 4 4), .int .i64 (gN l 8 2), .int .i64 (gN l 10 2), .int .i64 (gN l 12 2), .int .i64 (gN l 14 2), .int .i64 (gN l 16 2), .int .i64 (gN l 18 2)] rfl rfl 54 #[.int .i64 0, .int .i64 0, .int .i64 0, .int .i64 0, .int .i64 0, .int .i64 0, .int .i64 0, .int .i64 0, .int .i64 0, .int .i64 0] HRES.out (by kernel_rfl) rfl (by simp [Value.oneCell']) ?_))
      refine bodyPost_ret (results_cell_row rfl _ _ w.heap.size 54 #[.int .i64 (gN l 0 1), .int .i64 (gN l 1 1), .int .i64 (gN l 2 2), .int .i64 (gN l 4 4), .int .i64 (gN l 8 2), .int .i64 (gN l 10 2), .int .i64 (gN l 12 2), .int .i64 (gN l 14 2), .int .i64 (gN l 16 2), .int .i64 (gN l 18 2)] (0, 0) _ rfl (setRow_heap _ _ _ _ _ _ HRES.out) Try.underlying54 rfl (by kernel_rfl)) rfl ?_
      exact ⟨rfl, below_setRow (below_drew1 (below_step (W := w.alloc (.cells #[.int .i64 0, .int .i64 0, .int .i64 0, .int .i64 0, .int .i64 0, .int .i64 0, .int .i64 0, .int .i64 0, .int .i64 0, .int .i64 0] 54)) (by repeat (first | exact Below.refl _ _ | apply Below.drew | apply below_alloc)) HX.out)) (Nat.le_refl _) _⟩
end Go.Proofs.Ytdknolnoimpgeaa.K
