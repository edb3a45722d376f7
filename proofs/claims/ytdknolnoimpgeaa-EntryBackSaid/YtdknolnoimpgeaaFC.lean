/- Walks and plain laws of this claim, merged: K07e, K08c, KFlat, KFlat2, KCopyB, KEnt, K08g, KEnt2, KEnt3, K08d. -/
import Derived.Test.YtdknolnoimpgeaaFB
import Derived.Test.YtdknolnoimpgeaaFA
import Derived.Shelf.Abstract
import Derived.Test.YtdknolnoimpgeaaK08f
namespace Go.Proofs.Ytdknolnoimpgeaa.K
open Go.RowKit Go.Proofs.YtdknolnoimpgeaaW.PrintWords Go.Proofs.YtdknolnoimpgeaaW.PrintLast Go.Proofs.YtdknolnoimpgeaaW.PrintMore
set_option linter.unusedVariables false
set_option linter.unusedSimpArgs false
def offs : Nat → Int
  | 0 => 0 | 1 => 1 | 2 => 2 | 3 => 4 | 4 => 8 | 5 => 10 | 6 => 12 | 7 => 14 | 8 => 16 | 9 => 18 | _ => 20
def siz (m : Nat) : Int := (inoRow 0 0 0 0 0 0 0 0 0 0 m).2.1
theorem offs_siz {m : Nat} (h : m < 10) : 0 ≤ offs m ∧ offs m ≤ 18 ∧ 1 ≤ siz m ∧ siz m ≤ 4 ∧ offs m + siz m = offs (m + 1) := by
  rcases lt10 h with rfl | rfl | rfl | rfl | rfl | rfl | rfl | rfl | rfl | rfl <;> decide
def inoA (l : List Int) (m : Nat) : List Int := (List.range m).map (fun j => gN l (offs j) (siz j)) ++ List.replicate (10 - m) 0
theorem inoA_len (l : List Int) {m : Nat} (h : m ≤ 10) : (inoA l m).length = 10 := by simp [inoA]; omega
theorem inoA_set (l : List Int) {m : Nat} (h : m < 10) : (inoA l m).set m (gN l (offs m) (siz m)) = inoA l (m + 1) := by
  unfold inoA
  have e : 10 - m = (10 - (m + 1)) + 1 := by omega
  rw [List.set_append_right _ _ (by simp), e, List.replicate_succ, List.range_succ]
  simp
theorem inoA_all (l : List Int) : inoA l 10 = [gN l 0 1, gN l 1 1, gN l 2 2, gN l 4 4, gN l 8 2, gN l 10 2, gN l 12 2, gN l 14 2, gN l 16 2, gN l 18 2] := by
  simp [inoA, List.range_succ, offs, siz, inoRow]
theorem arr10 : (Try.prog.info? 161).map (·.zero) = some (some (.agg (Array.replicate 10 (.int .i64 0)))) := by kernel_rfl
theorem rep10 : ∀ (n : Nat) (w : World) (base : Nat) (ok : Nat → Prop), Reps ((Kd.int .i64).M w base ok) 1 (List.replicate n 0) (List.replicate n (.int .i64 0))
  | 0, w, base, ok => Reps.none _ _
  | n + 1, w, base, ok => Reps.one (show Kd.M (Kd.int .i64) _ _ _ 0 [.int .i64 0] from rfl) (rep10 n w base ok)
theorem run_arrayAt {P : Program} (W : World) (t e : TypeId) (n : Nat) (ht : P.underlying t = some (.array n e)) (a : Option Addr) (m c : Nat) (h : n ≤ m) : (Instr.arrayAt t (.slice a m c)).run P W = .ok (.pointer a) W := by
  simp [Instr.arrayAt, run_underlying ht, show ¬ m < n by omega]
set_option maxRecDepth 100000 in
theorem inoRead_walk (A : Option Addr) (c : Nat) (l : List Int) (w : World) (hr : Kd.C (Kd.int .u8) w A l.length l) (hc : l.length ≤ c) (hl : l.length < 140737488355320) (hb : Byts l) :
    Calls Try.prog 109 #[.slice A l.length c] w fun e w' => e = .returned (inoV (gN l 0 1) (gN l 1 1) (gN l 2 2) (gN l 4 4) (gN l 8 2) (gN l 10 2) (gN l 12 2) (gN l 14 2) (gN l 16 2) (gN l 18 2)) ∧ Below w.heap.size w w' := by
  have HR := Aside0.mk hr
  have HC := Aside0.mk hc
  have HY := Aside0.mk hb
  have WN := Aside0.mk (fun W => inoNumbers_walk 0 0 0 0 0 0 0 0 0 0 W)
  have IX := Aside0.mk (fun m (h : m < 10) W => inoN_at 0 0 0 0 0 0 0 0 0 0 h W)
  obtain ⟨nv, hnv⟩ : ∃ nv, nv = inoN 0 0 0 0 0 0 0 0 0 0 := ⟨_, rfl⟩
  rw [← hnv] at WN IX
  clear hr hc hb hnv
  unfold inoV at WN ⊢
  go_enter Try.func109, Try.ntmps109
  go_wp2_with (first | ((with_reducible refine gate_dst (N := 3) rfl ?_); go_loud (refine Kd.R_allocArr (Kd.int .i64) (w0 := w.alloc (.cells #[.int .i64 0, .int .i64 0, .int .i64 0, .int .i64 0, .int .i64 0, .int .i64 0, .int .i64 0, .int .i64 0, .int .i64 0, .int .i64 0] 54)) (w.alloc (.cells #[.int .i64 0, .int .i64 0, .int .i64 0, .int .i64 0, .int .i64 0, .int .i64 0, .int .i64 0, .int .i64 0, .int .i64 0, .int .i64 0] 54)).heap.size rfl (N := 3) rfl 161 rfl arr10 (inner := List.replicate 10 (.int .i64 0)) (by kernel_rfl) (xs := List.replicate 10 0) (ok := fun _ => True) (okp := fun _ => True) (rep10 10 _ _ _) (fun _ h => h) trivial (Below.refl _ _) (Nat.le_refl _) (by simp) ?_; intro g1 w1 hg1 ho hb hg_; have HX := Aside0.mk hb; have HO1 := Aside0.mk ho; have HG1 := Aside0.mk hg1; clear ho hb hg1 hg_; simp only [List.length_replicate] at HO1)) | (go_at_call 105; (with_reducible refine (WN.out _).mono ?_); rintro e w2 ⟨rfl, hb⟩; have n2_ := Aside0.mk (below_step (by repeat (first | (with_reducible first | exact HX.out | apply below_alloc | apply pw_below_drewN | apply below_drew1) | exact HX.out)) hb); clear HX; have HX := n2_; clear n2_; have n0_ := Aside0.mk (Kd.R_below HO1.out hb); clear HO1; have HO1 := n0_; clear n0_ hb))
  go_loopw [4, 9] (fun v4 v9 w' => ∃ m : Nat, v4 = .int .i64 (offs m) ∧ v9 = .int .i64 m ∧ Aside0 (m ≤ 10) ∧ Aside0 (Kd.R (Kd.int .i64) 161 w' (w.alloc (.cells #[.int .i64 0, .int .i64 0, .int .i64 0, .int .i64 0, .int .i64 0, .int .i64 0, .int .i64 0, .int .i64 0, .int .i64 0, .int .i64 0] 54)).heap.size (fun _ => True) (.slice (some ⟨g1, 0, none⟩) 10 10) (inoA l m)) ∧ Aside0 (Below (w.alloc (.cells #[.int .i64 0, .int .i64 0, .int .i64 0, .int .i64 0, .int .i64 0, .int .i64 0, .int .i64 0, .int .i64 0, .int .i64 0, .int .i64 0] 54)).heap.size (w.alloc (.cells #[.int .i64 0, .int .i64 0, .int .i64 0, .int .i64 0, .int .i64 0, .int .i64 0, .int .i64 0, .int .i64 0, .int .i64 0, .int .i64 0] 54)) w')) (fun _ i _ => 10 - (intOf i).toNat)
  case atStart => exact ⟨0, rfl, rfl, ⟨by omega⟩, HO1, HX⟩
  case round =>
    clear HX HO1
    obtain ⟨m, rfl, rfl, hm, HO1, HX⟩ := hrel
    have hm' := hm.out
    by_cases hlt : m < 10
    · have hx := IX.out m hlt
      have HS := Aside0.mk (inoA_set l hlt)
      obtain ⟨o0, o1, s0, s1, oe⟩ := offs_siz hlt
      have hsz : (inoRow 0 0 0 0 0 0 0 0 0 0 m).2.1 = siz m := rfl
      obtain ⟨⟨v, s, t⟩, hr⟩ : ∃ r, r = inoRow 0 0 0 0 0 0 0 0 0 0 m := ⟨_, rfl⟩
      rw [← hr] at hx hsz
      simp only at hx hsz
      rw [← hsz] at HS s0 s1 oe
      obtain ⟨o, ho⟩ : ∃ o, o = offs m := ⟨_, rfl⟩
      rw [← ho] at HS o0 o1 oe ⊢
      obtain ⟨hcell, hfz⟩ := Kd.R_celln 0 HO1.out (m : Int) (by omega) (by omega)
      rw [Int.toNat_natCast] at hcell hfz
      obtain ⟨xo, hxo⟩ : ∃ xo, xo = rdOf 0 (inoA l m) (m : Int) := ⟨_, rfl⟩
      rw [← hxo] at hcell
      have hgl : g1 < wr.heap.size := World.block_lt_of_cell? _ _ hcell
      have HE := Aside0.mk oe
      have HN : Aside0 ((numG l o s).1 = gN l o s) := ⟨rfl⟩
      clear hr hsz ho hxo oe
      go_wp2_with (first | (go_at_call 98; (with_reducible refine (numG_walk A c l o s _ (Kd.C_below HR.out (below_step (W := w.alloc (.cells #[.int .i64 0, .int .i64 0, .int .i64 0, .int .i64 0, .int .i64 0, .int .i64 0, .int .i64 0, .int .i64 0, .int .i64 0, .int .i64 0] 54)) (by repeat (first | exact Below.refl _ _ | apply Below.drew | apply below_alloc)) (by repeat (first | (with_reducible first | exact HX.out | apply below_alloc | apply pw_below_drewN | apply below_drew1) | exact HX.out)))) HC.out hl HY.out).mono ?_); rintro e w' ⟨rfl, ⟨nd, rfl⟩⟩; rw [HN.out]))
      refine ⟨⟨m + 1, ?_, rfl, ⟨by omega⟩, ⟨?_⟩, ⟨?_⟩⟩, by simp [intOf]; omega⟩
      · rw [HE.out]
      · rw [← HS.out]
        have := (Kd.R_putg (Kd.R_drewN (Kd.R_alloc HO1.out (.cells #[.int .i64 v, .int .i64 s, .int .i64 t] 120)) nd) (m : Int) (gN l o s)).1
        rw [Int.toNat_natCast] at this
        exact this
      · exact below_set (by repeat (first | (with_reducible first | exact HX.out | apply below_alloc | apply pw_below_drewN | apply below_drew1) | exact HX.out)) HG1.out
    · have hmn : 10 ≤ m := by omega
      have h10 : m = 10 := by omega
      rw [h10, inoA_all] at HO1
      have HK := (Kd.R_reads' HO1.out).2.2
      have c0 : wr.cell? ⟨g1, 0, none⟩ = some (.int .i64 (gN l 0 1)) := C_cell HK (m := 0) (by simp)
      have c1 : wr.cell? ⟨g1, 1, none⟩ = some (.int .i64 (gN l 1 1)) := C_cell HK (m := 1) (by simp)
      have c2 : wr.cell? ⟨g1, 2, none⟩ = some (.int .i64 (gN l 2 2)) := C_cell HK (m := 2) (by simp)
      have c3 : wr.cell? ⟨g1, 3, none⟩ = some (.int .i64 (gN l 4 4)) := C_cell HK (m := 3) (by simp)
      have c4 : wr.cell? ⟨g1, 4, none⟩ = some (.int .i64 (gN l 8 2)) := C_cell HK (m := 4) (by simp)
      have c5 : wr.cell? ⟨g1, 5, none⟩ = some (.int .i64 (gN l 10 2)) := C_cell HK (m := 5) (by simp)
      have c6 : wr.cell? ⟨g1, 6, none⟩ = some (.int .i64 (gN l 12 2)) := C_cell HK (m := 6) (by simp)
      have c7 : wr.cell? ⟨g1, 7, none⟩ = some (.int .i64 (gN l 14 2)) := C_cell HK (m := 7) (by simp)
      have c8 : wr.cell? ⟨g1, 8, none⟩ = some (.int .i64 (gN l 16 2)) := C_cell HK (m := 8) (by simp)
      have c9 : wr.cell? ⟨g1, 9, none⟩ = some (.int .i64 (gN l 18 2)) := C_cell HK (m := 9) (by simp)
      have hres : wr.heap[w.heap.size]? = some (.cells #[.int .i64 0, .int .i64 0, .int .i64 0, .int .i64 0, .int .i64 0, .int .i64 0, .int .i64 0, .int .i64 0, .int .i64 0, .int .i64 0] 54 (0, 0)) := (HX.out.block _ (by simp)).trans (heap_alloc_new _ _)
      have HRES := Aside0.mk hres
      have hap := fun W => run_arrayAt (P := Try.prog) W 52 3 4 Try.underlying52 (some ⟨g1, 5, none⟩) 4 5 (by omega)
      clear HK h10 hlt hres
      go_wp2
      refine wp_region_still_tail 16 (by kernel_rfl) (by kernel_rfl) ?_
      simp only [List.take_succ_cons, List.take_zero, List.drop_succ_cons, List.drop_zero]
      change wpStill _ _ wr.drew _ _ _
      repeat still_step
      refine wpStill_nil ?_
      go_wp2_with ((with_reducible refine gate_store (p := 2) rfl ?_); go_loud (refine wpList_store_rowTo rfl 54 (.tmp 2) (.tmp 43) rfl rfl w.heap.size #[.int .i64 (gN l 0 1), .int .i64 (gN l 1 1), .int .i64 (gN l 2 2), .int .i64 (gN l 4 4), .int .i64 (gN l 8 2), .int .i64 (gN l 10 2), .int .i64 (gN l 12 2), .int .i64 (gN l 14 2), .int .i64 (gN l 16 2), .int .i64 (gN l 18 2)] rfl rfl 54 #[.int .i64 0, .int .i64 0, .int .i64 0, .int .i64 0, .int .i64 0, .int .i64 0, .int .i64 0, .int .i64 0, .int .i64 0, .int .i64 0] HRES.out (by kernel_rfl) rfl (by simp [Value.oneCell']) ?_))
      refine bodyPost_ret (results_cell_row rfl _ _ w.heap.size 54 #[.int .i64 (gN l 0 1), .int .i64 (gN l 1 1), .int .i64 (gN l 2 2), .int .i64 (gN l 4 4), .int .i64 (gN l 8 2), .int .i64 (gN l 10 2), .int .i64 (gN l 12 2), .int .i64 (gN l 14 2), .int .i64 (gN l 16 2), .int .i64 (gN l 18 2)] (0, 0) _ rfl (setRow_heap _ _ _ _ _ _ HRES.out) Try.underlying54 rfl (by kernel_rfl)) rfl ?_
      exact ⟨rfl, below_setRow (below_drew1 (below_step (W := w.alloc (.cells #[.int .i64 0, .int .i64 0, .int .i64 0, .int .i64 0, .int .i64 0, .int .i64 0, .int .i64 0, .int .i64 0, .int .i64 0, .int .i64 0] 54)) (by repeat (first | exact Below.refl _ _ | apply Below.drew | apply below_alloc)) HX.out)) (Nat.le_refl _) _⟩
end Go.Proofs.Ytdknolnoimpgeaa.K
namespace Go.Proofs.Ytdknolnoimpgeaa.K
open Go.RowKit Go.Shelf Go.Lib Go.Proofs.YtdknolnoimpgeaaW.PrintWords Go.Proofs.YtdknolnoimpgeaaW.PrintLast Go.Proofs.YtdknolnoimpgeaaW.PrintMore
set_option linter.unusedVariables false
set_option linter.unusedSimpArgs false
theorem go_on8 {p : Prop} (h : p) : p := h
theorem heap_at8 {W : World} {o : Obj} {g : Nat} (hg : W.heap.size = g) : (W.alloc o).heap[g]? = some o := by
  subst hg
  exact heap_alloc_new _ _
theorem u8_size (w : World) : (sizeOf 5).run Try.prog w = .ok 1 w := by
  have h : (Try.prog.info? 5).map (·.size) = some 1 := by kernel_rfl
  obtain ⟨i, hi, hz⟩ := Option.map_eq_some_iff.1 h
  simp [sizeOf, typeInfo, hi, hz]
theorem eq16 (w : World) (xs ys : List Int) (hx : xs.length = 16) (hy : ys.length = 16) : (Op.equalIn 10000 127 (.agg (xs.map (Value.int .u8)).toArray) (.agg (ys.map (Value.int .u8)).toArray)).run Try.prog w = .ok (xs == ys) w :=
  run_equalIn_ints (P := Try.prog) w .u8 9998 127 5 16 Try.underlying127 Try.underlying5 u8_size xs ys hx hy
theorem results_row3 {P : Program} {fn : Func} {p u u2 : Tmp} {ty : TypeId} (h : fn.results = #[.cell p ty, .tmp u, .tmp u2]) (tmps : Array Value) (w : World) (g : Nat) (t : TypeId) (cs : Array Value) (fr : Nat × Nat) (d : TypeDesc) (v v2 : Value)
    (hp : tmps.getD p undef = .pointer (some ⟨g, 0, none⟩)) (hv : tmps.getD u undef = v) (hv2 : tmps.getD u2 undef = v2) (hg : w.heap[g]? = some (.cells cs t fr))
    (hu : P.underlying ty = some d) (hd : (match d with | .struct _ | .array _ _ => true | _ => false) = true) (hi : (P.info? ty).map (·.size) = some cs.size) :
    (results fn tmps).run P w = .ok (.tuple #[.agg cs, v, v2]) w := by
  have hp' : tmps[p]?.getD undef = .pointer (some ⟨g, 0, none⟩) := by simpa using hp
  have hv' : tmps[u]?.getD undef = v := by simpa using hv
  have hv2' : tmps[u2]?.getD undef = v2 := by simpa using hv2
  simp [results, h, hp', hv', hv2', Sem.run_bind, Result.andThen, asAddr, run_loadVar_row w g t ty cs fr d hg hu hd hi]
set_option maxHeartbeats 2000000 in
set_option maxRecDepth 100000 in
theorem eGet_walk (A : Option Addr) (c : Nat) (l : List Int) (slot : Int) (w : World) (hr : Kd.C (Kd.int .u8) w A l.length l) (hb : Byts l) (hcap : l.length ≤ c) :
    Calls Try.prog 56 #[.slice A l.length c, .int .i64 slot] w fun e w' => e = .returned (.tuple #[.agg #[.int .i64 (getE l slot).1.sl, .int .i64 (getE l slot).1.ino, .string (getE l slot).1.nm], .bool (getE l slot).2.1, .bool (getE l slot).2.2]) ∧ Below w.heap.size w w' := by
  by_cases hl : l.length = 16
  case neg =>
    have E0 : Aside0 (getE l slot = (Ent.zero, false, false)) := ⟨by unfold getE; rw [if_pos hl]⟩
    have h14 : ((l.length : Int) != 16) = true := by simp; omega
    clear hl hr
    go_enter Try.func56, Try.ntmps56
    go_wp2
    rw [E0.out]
    refine bodyPost_ret (results_row3 rfl _ _ w.heap.size 62 #[.int .i64 0, .int .i64 0, .string ByteArray.empty] (0, 0) _ (.bool false) (.bool false) rfl rfl rfl (by exact heap_alloc_new _ _) Try.underlying62 rfl (by kernel_rfl)) rfl ?_
    exact ⟨by rfl, (by repeat (first | exact Below.refl _ _ | apply Below.drew | apply below_alloc))⟩
  have HB := Aside0.mk (Below.refl w.heap.size w)
  have hc1 : ∀ W, Kd.C (Kd.int .u8) W A l.length l → ∃ ad, A = some ad ∧ ∀ j (hj : j < l.length), W.cell? (ad.add j) = some (.int .u8 l[j]) := fun W h => by
    obtain ⟨ad, he, _⟩ := Kd.at_int h 0 (by omega) (by omega)
    refine ⟨ad, he, fun j hj => ?_⟩
    obtain ⟨ad', he', hx⟩ := Kd.at_int h (j : Int) (by omega) (by omega)
    rw [he] at he'
    cases he'
    rw [show l[j] = rd l (j : Int) by unfold rd; rw [Int.toNat_natCast, List.getD_eq_getElem?_getD, List.getElem?_eq_getElem hj]; rfl]
    exact hx
  obtain ⟨ad, rfl, hcell⟩ := hc1 w hr
  clear hc1
  have hap := fun W => run_arrayAt (P := Try.prog) W 127 5 16 Try.underlying127 (some ad) 16 c (by omega)
  have HR := Aside0.mk hr
  have x0 : w.cell? ad = some (.int .u8 (l[0]'(by omega))) := hcell 0 (by omega)
  have x1 : w.cell? ⟨ad.block, ad.off + 1, none⟩ = some (.int .u8 (l[1]'(by omega))) := hcell 1 (by omega)
  have x2 : w.cell? ⟨ad.block, ad.off + 2, none⟩ = some (.int .u8 (l[2]'(by omega))) := hcell 2 (by omega)
  have x3 : w.cell? ⟨ad.block, ad.off + 3, none⟩ = some (.int .u8 (l[3]'(by omega))) := hcell 3 (by omega)
  have x4 : w.cell? ⟨ad.block, ad.off + 4, none⟩ = some (.int .u8 (l[4]'(by omega))) := hcell 4 (by omega)
  have x5 : w.cell? ⟨ad.block, ad.off + 5, none⟩ = some (.int .u8 (l[5]'(by omega))) := hcell 5 (by omega)
  have x6 : w.cell? ⟨ad.block, ad.off + 6, none⟩ = some (.int .u8 (l[6]'(by omega))) := hcell 6 (by omega)
  have x7 : w.cell? ⟨ad.block, ad.off + 7, none⟩ = some (.int .u8 (l[7]'(by omega))) := hcell 7 (by omega)
  have x8 : w.cell? ⟨ad.block, ad.off + 8, none⟩ = some (.int .u8 (l[8]'(by omega))) := hcell 8 (by omega)
  have x9 : w.cell? ⟨ad.block, ad.off + 9, none⟩ = some (.int .u8 (l[9]'(by omega))) := hcell 9 (by omega)
  have x10 : w.cell? ⟨ad.block, ad.off + 10, none⟩ = some (.int .u8 (l[10]'(by omega))) := hcell 10 (by omega)
  have x11 : w.cell? ⟨ad.block, ad.off + 11, none⟩ = some (.int .u8 (l[11]'(by omega))) := hcell 11 (by omega)
  have x12 : w.cell? ⟨ad.block, ad.off + 12, none⟩ = some (.int .u8 (l[12]'(by omega))) := hcell 12 (by omega)
  have x13 : w.cell? ⟨ad.block, ad.off + 13, none⟩ = some (.int .u8 (l[13]'(by omega))) := hcell 13 (by omega)
  have x14 : w.cell? ⟨ad.block, ad.off + 14, none⟩ = some (.int .u8 (l[14]'(by omega))) := hcell 14 (by omega)
  have x15 : w.cell? ⟨ad.block, ad.off + 15, none⟩ = some (.int .u8 (l[15]'(by omega))) := hcell 15 (by omega)
  have hlt := World.block_lt_of_cell? _ _ x0
  rw [hl] at hcap ⊢
  obtain ⟨y0, hy0⟩ : ∃ y, y = l[0]'(by omega) := ⟨_, rfl⟩; rw [← hy0] at x0
  obtain ⟨y1, hy1⟩ : ∃ y, y = l[1]'(by omega) := ⟨_, rfl⟩; rw [← hy1] at x1
  obtain ⟨y2, hy2⟩ : ∃ y, y = l[2]'(by omega) := ⟨_, rfl⟩; rw [← hy2] at x2
  obtain ⟨y3, hy3⟩ : ∃ y, y = l[3]'(by omega) := ⟨_, rfl⟩; rw [← hy3] at x3
  obtain ⟨y4, hy4⟩ : ∃ y, y = l[4]'(by omega) := ⟨_, rfl⟩; rw [← hy4] at x4
  obtain ⟨y5, hy5⟩ : ∃ y, y = l[5]'(by omega) := ⟨_, rfl⟩; rw [← hy5] at x5
  obtain ⟨y6, hy6⟩ : ∃ y, y = l[6]'(by omega) := ⟨_, rfl⟩; rw [← hy6] at x6
  obtain ⟨y7, hy7⟩ : ∃ y, y = l[7]'(by omega) := ⟨_, rfl⟩; rw [← hy7] at x7
  obtain ⟨y8, hy8⟩ : ∃ y, y = l[8]'(by omega) := ⟨_, rfl⟩; rw [← hy8] at x8
  obtain ⟨y9, hy9⟩ : ∃ y, y = l[9]'(by omega) := ⟨_, rfl⟩; rw [← hy9] at x9
  obtain ⟨y10, hy10⟩ : ∃ y, y = l[10]'(by omega) := ⟨_, rfl⟩; rw [← hy10] at x10
  obtain ⟨y11, hy11⟩ : ∃ y, y = l[11]'(by omega) := ⟨_, rfl⟩; rw [← hy11] at x11
  obtain ⟨y12, hy12⟩ : ∃ y, y = l[12]'(by omega) := ⟨_, rfl⟩; rw [← hy12] at x12
  obtain ⟨y13, hy13⟩ : ∃ y, y = l[13]'(by omega) := ⟨_, rfl⟩; rw [← hy13] at x13
  obtain ⟨y14, hy14⟩ : ∃ y, y = l[14]'(by omega) := ⟨_, rfl⟩; rw [← hy14] at x14
  obtain ⟨y15, hy15⟩ : ∃ y, y = l[15]'(by omega) := ⟨_, rfl⟩; rw [← hy15] at x15
  have hly : l = [y0, y1, y2, y3, y4, y5, y6, y7, y8, y9, y10, y11, y12, y13, y14, y15] := by
    apply List.ext_getElem (by simpa using hl)
    intro i h1 h2
    have : i < 16 := by omega
    rcases (by omega : i = 0 ∨ i = 1 ∨ i = 2 ∨ i = 3 ∨ i = 4 ∨ i = 5 ∨ i = 6 ∨ i = 7 ∨ i = 8 ∨ i = 9 ∨ i = 10 ∨ i = 11 ∨ i = 12 ∨ i = 13 ∨ i = 14 ∨ i = 15) with rfl | rfl | rfl | rfl | rfl | rfl | rfl | rfl | rfl | rfl | rfl | rfl | rfl | rfl | rfl | rfl
    · exact hy0.symm
    · exact hy1.symm
    · exact hy2.symm
    · exact hy3.symm
    · exact hy4.symm
    · exact hy5.symm
    · exact hy6.symm
    · exact hy7.symm
    · exact hy8.symm
    · exact hy9.symm
    · exact hy10.symm
    · exact hy11.symm
    · exact hy12.symm
    · exact hy13.symm
    · exact hy14.symm
    · exact hy15.symm
  have HLY := Aside0.mk hly
  clear hr hcell hl hly hy0 hy1 hy2 hy3 hy4 hy5 hy6 hy7 hy8 hy9 hy10 hy11 hy12 hy13 hy14 hy15
  obtain ⟨b, hbz⟩ : ∃ b, b = ([y0, y1, y2, y3, y4, y5, y6, y7, y8, y9, y10, y11, y12, y13, y14, y15] == List.replicate 16 (0 : Int)) := ⟨_, rfl⟩
  have q := fun W => eq16 W [y0, y1, y2, y3, y4, y5, y6, y7, y8, y9, y10, y11, y12, y13, y14, y15] (List.replicate 16 0) rfl rfl
  rw [← hbz] at q
  simp only [List.map_cons, List.map_nil, List.map_replicate, List.replicate] at q
  cases b with
  | true =>
    have E0 : Aside0 (getE l slot = (Ent.zero, false, true)) := ⟨by
      have e : l = List.replicate 16 0 := by rw [HLY.out]; exact beq_iff_eq.1 hbz.symm
      unfold getE
      rw [if_neg (by rw [e]; simp), if_pos e]⟩
    clear hbz
    go_enter Try.func56, Try.ntmps56
    go_wp2
    rw [E0.out]
    refine bodyPost_ret (results_row3 rfl _ _ w.heap.size 62 #[.int .i64 0, .int .i64 0, .string ByteArray.empty] (0, 0) _ (.bool false) (.bool true) rfl rfl rfl (by exact heap_alloc_new _ _) Try.underlying62 rfl (by kernel_rfl)) rfl ?_
    exact ⟨by rfl, (by repeat (first | exact Below.refl _ _ | apply Below.drew | apply below_alloc))⟩
  | false =>
    have hne : Aside0 (¬ l = List.replicate 16 0) := ⟨fun e => by rw [HLY.out] at e; rw [e] at hbz; simp at hbz⟩
    have hl16 : Aside0 (l.length = 16) := ⟨by rw [HLY.out]; rfl⟩
    have WG : Aside0 (∀ W, Kd.C (Kd.int .u8) W (some ad) l.length l → Calls Try.prog 98 #[.slice (some ad) 16 c, .int .i64 0, .int .i64 2] W fun e w' => e = .returned (.tuple #[.int .i64 (gN l 0 2), .bool (numG l 0 2).2]) ∧ Drawn0 W w') := ⟨fun W h => by
      have := numG_walk (some ad) c l 0 2 W h (by rw [hl16.out]; exact hcap) (by rw [hl16.out]; decide) hb
      rw [hl16.out] at this
      exact this⟩
    obtain ⟨ino, hino⟩ : ∃ ino, ino = gN l 0 2 := ⟨_, rfl⟩
    rw [← hino] at WG
    have HI := Aside0.mk hino
    clear hbz hino
    have WU : Aside0 (∀ W, Kd.C (Kd.int .u8) W (some ad) l.length l → Calls Try.prog 112 #[.slice (some ⟨ad.block, ad.off + 2, none⟩) 14 (c - 2)] W fun e w' => e = .returned (.tuple #[.string (unpackN (l.drop 2)).1, .bool (unpackN (l.drop 2)).2]) ∧ Below W.heap.size W w') := ⟨fun W h => by
      have h2 := Kd.C_drop (c := c) (m := 2) h (by rw [hl16.out]; decide) (by rw [hl16.out]; exact hcap)
      have hdl : (l.drop 2).length = 14 := by rw [List.length_drop, hl16.out]
      rw [if_neg (by omega)] at h2
      have := unpack_walk _ (c - 2) (l.drop 2) W h2 (fun x hx => hb x (List.mem_of_mem_drop hx)) (by omega)
      rw [hdl] at this
      exact this⟩
    go_enter Try.func56, Try.ntmps56
    go_wp2_with (go_at_call 98; (with_reducible refine (WG.out _ (by repeat (first | exact HR.out | refine Kd.C_alloc ?_ _ | refine Kd.C_drewN ?_ _))).mono ?_); rintro e w' ⟨rfl, ⟨nd, rfl⟩⟩)
    obtain ⟨w2, hw2⟩ : ∃ w2, w2 = ((w.alloc (.cells #[.int .i64 0, .int .i64 0, .string ⟨#[]⟩] 62)).alloc (.cells #[.int .i64 slot, .int .i64 0, .string ⟨#[]⟩] 62)).drewN nd := ⟨_, rfl⟩
    have bk7 : w2.heap[w.heap.size + 1]? = some (.cells #[.int .i64 slot, .int .i64 0, .string ⟨#[]⟩] 62 (0, 0)) := by rw [hw2]; exact blk_drewN (heap_at8 (by simp)) _
    have bk4 : w2.heap[w.heap.size]? = some (.cells #[.int .i64 0, .int .i64 0, .string ⟨#[]⟩] 62 (0, 0)) := by rw [hw2]; exact blk_drewN (blk_alloc (heap_alloc_new _ _) _) _
    have hB2 : Below w.heap.size w w2 := by rw [hw2]; exact pw_below_drewN (below_alloc (below_alloc (Below.refl _ _) _) _) _
    obtain ⟨w3, hw3⟩ : ∃ w3, w3 = w2.setCell ⟨w.heap.size + 1, 1, none⟩ (.int .i64 ino) := ⟨_, rfl⟩
    refine go_on8 ?_
    rw [← hw2, ← hw3]
    have BK7 : Aside0 (w3.heap[w.heap.size + 1]? = some (.cells #[.int .i64 slot, .int .i64 ino, .string ⟨#[]⟩] 62 (0, 0))) := ⟨by rw [hw3]; exact blk_set bk7 1 _⟩
    have BK4 : Aside0 (w3.heap[w.heap.size]? = some (.cells #[.int .i64 0, .int .i64 0, .string ⟨#[]⟩] 62 (0, 0))) := ⟨by rw [hw3]; exact (Below.heap_setCell w2 ⟨w.heap.size + 1, 1, none⟩ _ w.heap.size (by simp)).trans bk4⟩
    have HB3 : Aside0 (Below w.heap.size w w3) := ⟨by rw [hw3]; exact pw_below_grown hB2 (some (w.heap.size + 1)) hB2.size ⟨rfl, rfl, rfl, by simp [World.setCell], fun k _ hk => Below.heap_setCell w2 ⟨w.heap.size + 1, 1, none⟩ _ k (fun e => hk (congrArg some e))⟩ (fun k e => by cases e; omega)⟩
    clear hw2 hw3 bk7 bk4 hB2
    obtain ⟨nm, hnm⟩ : ∃ nm, nm = (unpackN (l.drop 2)).1 := ⟨_, rfl⟩
    rw [← hnm] at WU
    have HN := Aside0.mk hnm
    clear hnm hap q x0 x1 x2 x3 x4 x5 x6 x7 x8 x9 x10 x11 x12 x13 x14 x15
    refine (WU.out _ (Kd.C_below HR.out HB3.out)).mono ?_
    rintro e w4 ⟨rfl, hb4⟩
    have B7 := Aside0.mk (blk_below BK7.out hb4)
    have B4 := Aside0.mk (blk_below BK4.out hb4)
    have HB4 := Aside0.mk (below_step HB3.out hb4)
    clear BK7 BK4 hb4
    go_wp2_with ((with_reducible refine gate_store (p := 34) rfl ?_); go_loud (refine wpList_store_blk rfl rfl 9 (.tmp 34) (.tmp 32) rfl (w.heap.size + 1) 2 (.string nm) rfl rfl rfl (by kernel_rfl) (cs := #[.int .i64 slot, .int .i64 ino, .string ⟨#[]⟩]) (t := 62) B7.out (by simp) ?_; intro w5 bk_ hg_; have C7 : Aside0 (w5.heap[w.heap.size + 1]? = some (.cells #[.int .i64 slot, .int .i64 ino, .string nm] 62 (0, 0))) := ⟨bk_⟩; have C4 : Aside0 (w5.heap[w.heap.size]? = some (.cells #[.int .i64 0, .int .i64 0, .string ⟨#[]⟩] 62 (0, 0))) := ⟨(hg_.block _ (by have := (Array.getElem?_eq_some_iff.1 B4.out).1; exact this) (by simp)).trans B4.out⟩; have HB5 := Aside0.mk (pw_below_grown HB4.out (some (w.heap.size + 1)) HB4.out.size hg_ (fun k e => by cases e; omega)); have y0_ := (blk_cell C7.out 0).trans rfl; have y1_ := (blk_cell C7.out 1).trans rfl; have y2_ := (blk_cell C7.out 2).trans rfl; clear bk_ hg_))
    have hE : getE l slot = if rightE slot ino nm = true ∧ bytesE ino nm = l then (⟨slot, ino, nm⟩, true, true) else (Ent.zero, false, false) := by
      unfold getE
      rw [if_neg (by rw [hl16.out]; simp), if_neg hne.out]
      simp only [← HI.out, ← HN.out]
    cases hR : rightE slot ino nm with
    | false =>
      have E0 : Aside0 (getE l slot = (Ent.zero, false, false)) := ⟨by rw [hE, hR]; simp⟩
      have WQ := Aside0.mk (ePut_no slot ino nm w5 hR)
      clear hE hR
      refine WQ.out.mono ?_
      rintro e w6 ⟨rfl, hb6⟩
      have D4 := Aside0.mk (blk_below C4.out hb6)
      have HB6 := Aside0.mk (below_step HB5.out hb6)
      clear hb6
      go_wp2_with ((with_reducible refine gate_store (p := 4) rfl ?_); go_loud (refine wpList_store_rowL rfl rfl 62 (.tmp 4) (.tmp 48) rfl (w.heap.size) #[.int .i64 0, .int .i64 0, .string ⟨#[]⟩] rfl rfl 62 #[.int .i64 0, .int .i64 0, .string ⟨#[]⟩] (D4.out) (by kernel_rfl) rfl (by simp [Value.oneCell']) ?_; intro w7 bk_ hg_))
      rw [E0.out]
      refine bodyPost_ret (results_row3 rfl _ _ w.heap.size 62 #[.int .i64 0, .int .i64 0, .string ⟨#[]⟩] (0, 0) _ (.bool false) (.bool false) rfl rfl rfl bk_ Try.underlying62 rfl (by kernel_rfl)) rfl ?_
      exact ⟨by rfl, pw_below_grown HB6.out (some w.heap.size) HB6.out.size hg_ (fun k e => by cases e; exact Nat.le_refl _)⟩
    | true =>
      have hel := bytesE_length (ino := ino) (rightE_parts hR).2.2.2.2
      have hR5 : Aside0 (Kd.C (Kd.int .u8) w5 (some ad) l.length l) := ⟨Kd.C_below HR.out HB5.out⟩
      have WQ := Aside0.mk (ePut_walk slot ino nm w5 hR)
      obtain ⟨b, hbb⟩ : ∃ b, b = decide (l = bytesE ino nm) := ⟨_, rfl⟩
      have hby : Byts (bytesE ino nm) := fun x hx => by
        unfold bytesE at hx
        rcases List.mem_append.1 hx with hx | hx
        · exact leB_byts _ _ x hx
        · exact packN_byts (by have := rightN_size (rightE_parts hR).2.2.2.2; omega) x hx
      have WE : Aside0 (∀ A6 c6 W, Kd.C (Kd.int .u8) W (some ad) l.length l → Kd.C (Kd.int .u8) W A6 16 (bytesE ino nm) → Calls Try.prog 24 #[.slice (some ad) 16 c, .slice A6 16 c6] W fun e w' => e = .returned (.bool b) ∧ w' = W) := ⟨fun A6 c6 W h1 h2 => by
        have := bEq_same (some ad) c l A6 c6 (bytesE ino nm) W h1 (by rw [hel]; exact h2) hb hby
        rw [hl16.out, hel, ← hbb] at this
        exact this⟩
      refine WQ.out.mono ?_
      rintro e w6 ⟨A6, c6, rfl, hc6, hb6⟩
      have D4 := Aside0.mk (blk_below C4.out hb6)
      have D7 := Aside0.mk (blk_below C7.out hb6)
      have HC6 := Aside0.mk hc6
      have HR6 := Aside0.mk (Kd.C_below hR5.out hb6)
      have HB6 := Aside0.mk (below_step HB5.out hb6)
      have z0_ := (blk_cell D7.out 0).trans rfl
      have z1_ := (blk_cell D7.out 1).trans rfl
      have z2_ := (blk_cell D7.out 2).trans rfl
      clear hb6 hc6 y0_ y1_ y2_
      cases b with
      | false =>
        have E0 : Aside0 (getE l slot = (Ent.zero, false, false)) := ⟨by rw [hE, if_neg (fun h => of_decide_eq_false hbb.symm h.2.symm)]⟩
        clear hE hR hbb hel
        go_wp2_with (first | (go_at_call 24; (with_reducible refine (WE.out _ _ _ HR6.out HC6.out).mono ?_); rintro e w' ⟨rfl, h_⟩; have h_ := h_.symm; subst h_) | ((with_reducible refine gate_store (p := 4) rfl ?_); go_loud (refine wpList_store_rowL rfl rfl 62 (.tmp 4) (.tmp 48) rfl (w.heap.size) #[.int .i64 0, .int .i64 0, .string ⟨#[]⟩] rfl rfl 62 #[.int .i64 0, .int .i64 0, .string ⟨#[]⟩] (D4.out) (by kernel_rfl) rfl (by simp [Value.oneCell']) ?_; intro w7 bk_ hg_)))
        rw [E0.out]
        refine bodyPost_ret (results_row3 rfl _ _ w.heap.size 62 #[.int .i64 0, .int .i64 0, .string ⟨#[]⟩] (0, 0) _ (.bool false) (.bool false) rfl rfl rfl bk_ Try.underlying62 rfl (by kernel_rfl)) rfl ?_
        exact ⟨by rfl, pw_below_grown HB6.out (some w.heap.size) HB6.out.size hg_ (fun k e => by cases e; exact Nat.le_refl _)⟩
      | true =>
        have E0 : Aside0 (getE l slot = (⟨slot, ino, nm⟩, true, true)) := ⟨by rw [hE, if_pos ⟨hR, (of_decide_eq_true hbb.symm).symm⟩]⟩
        clear hE hR hbb hel
        go_wp2_with (first | (go_at_call 24; (with_reducible refine (WE.out _ _ _ HR6.out HC6.out).mono ?_); rintro e w' ⟨rfl, h_⟩; have h_ := h_.symm; subst h_) | ((with_reducible refine gate_store (p := 4) rfl ?_); go_loud (refine wpList_store_rowL rfl rfl 62 (.tmp 4) (.tmp 49) rfl (w.heap.size) #[.int .i64 slot, .int .i64 ino, .string nm] rfl rfl 62 #[.int .i64 0, .int .i64 0, .string ⟨#[]⟩] (D4.out) (by kernel_rfl) rfl (by simp [Value.oneCell']) ?_; intro w7 bk_ hg_)))
        rw [E0.out]
        refine bodyPost_ret (results_row3 rfl _ _ w.heap.size 62 #[.int .i64 slot, .int .i64 ino, .string nm] (0, 0) _ (.bool true) (.bool true) rfl rfl rfl bk_ Try.underlying62 rfl (by kernel_rfl)) rfl ?_
        exact ⟨by rfl, pw_below_grown HB6.out (some w.heap.size) HB6.out.size hg_ (fun k e => by cases e; exact Nat.le_refl _)⟩
end Go.Proofs.Ytdknolnoimpgeaa.K
namespace Go.Proofs.YtdknolnoimpgeaaW.PrintWords
open Go.RowKit Go.Proofs.Ytdknolnoimpgeaa.K
namespace Kd
/-- A value that lies as the cells 'enc x'. -/
def flat {α : Type} (n : Nat) (enc : α → List Value) (hn : ∀ x, (enc x).length = n) (h1 : ∀ x, ∀ u ∈ enc x, u.oneCell' = true) : Kd α where
  sz := n
  E := []
  K := fun _ x cs => cs = enc x
  M := fun _ _ _ x cs => cs = enc x
  K_len := fun h => by rw [h]; exact hn _
  K_one := fun h u hu => by rw [h] at hu; exact h1 _ u hu
  K_below := fun _ h => h
  K_of_M := fun h => h
  M_mono := fun _ h => h
  M_bound := fun h => h
  M_move := fun _ h => h
  M_lower := fun _ h => h
theorem at_flat {α : Type} {n : Nat} {enc : α → List Value} {hn : ∀ x, (enc x).length = n} {h1 : ∀ x, ∀ u ∈ enc x, u.oneCell' = true} {W : World} {A : Option Addr} {m : Nat} {xs : List α}
    (h : (flat n enc hn h1).C W A m xs) {j : Nat} (hj : j < xs.length) : ∃ ad, A = some ad ∧ ∀ i u, (enc xs[j])[i]? = some u → W.cell? (ad.add (j * n + i)) = some u := by
  have hm := h.1
  obtain ⟨ad, he, hx⟩ := h.2.2 (by omega)
  refine ⟨ad, he, fun i u hu => ?_⟩
  obtain ⟨c, hc1, hc2, hc3⟩ := hx j xs[j] (List.getElem?_eq_getElem hj)
  have hc2' : c = enc xs[j] := hc2
  subst hc2'
  exact hc3 i u hu
/-- .. at the addresses as a walk reckons them. -/
theorem at_flatA {α : Type} {n : Nat} {enc : α → List Value} {hn : ∀ x, (enc x).length = n} {h1 : ∀ x, ∀ u ∈ enc x, u.oneCell' = true} {W : World} {A : Option Addr} {m : Nat} {xs : List α}
    (h : (flat n enc hn h1).C W A m xs) {j : Nat} (hj : j < xs.length) : ∃ ad, A = some ad ∧ (∀ u, (enc xs[j])[0]? = some u → W.cell? (ad.add (j * n)) = some u) ∧
      ∀ i u, (enc xs[j])[i + 1]? = some u → W.cell? ⟨(ad.add (j * n)).block, (ad.add (j * n)).off + (i + 1), none⟩ = some u := by
  obtain ⟨ad, he, hx⟩ := at_flat h hj
  refine ⟨ad, he, fun u hu => ?_, fun i u hu => ?_⟩
  · simpa using hx 0 u hu
  · have h2 := hx (i + 1) u hu
    have e : ad.add (j * n + (i + 1)) = ⟨(ad.add (j * n)).block, (ad.add (j * n)).off + (i + 1), none⟩ := by
      rw [← addr_add_add]
      unfold Addr.add
      simp
    rw [e] at h2
    exact h2
theorem R_okFlat {α : Type} {n : Nat} {enc : α → List Value} {hn : ∀ x, (enc x).length = n} {h1 : ∀ x, ∀ u ∈ enc x, u.oneCell' = true} {e : Nat} {w : World} {base : Nat} {ok ok' : Nat → Prop} {v : Value} {xs : List α}
    (h : (flat n enc hn h1).R e w base ok v xs) (hok : ∀ k, v.ownBlock = some k → ok' k) : (flat n enc hn h1).R e w base ok' v xs := ⟨hok, h.2⟩
/-- A row that was laid as a literal just now. -/
theorem R_lay {α : Type} (d : Kd α) (W : World) (base : Nat) (e : TypeId) (hbase : base ≤ W.heap.size) {xs : List α} {inner : List Value} {ok okp : Nat → Prop} (hrep : Reps (d.M W base okp) d.sz xs inner) (hok : ∀ k, okp k → ok k) (hfresh : ok W.heap.size) (hm : xs.length ≤ 9223372036854775807) :
    d.R e (W.alloc (.cells inner.toArray e)) base ok (.slice (some ⟨W.heap.size, 0, none⟩) xs.length xs.length) xs := by
  refine ⟨fun k hk => ?_, inner, ?_, ?_⟩
  · have : W.heap.size = k := by simpa [Value.ownBlock] using hk
    subst this
    exact hfresh
  · have h2 := World.ownsRow_lit (base := base) (e := e) (size := d.sz) W inner.toArray xs.length hbase (by simpa [maxLen] using hm) (by simpa using hrep.1)
    simpa using h2
  · refine hrep.imp_ (fun p c hp => d.M_mono (fun k hk => ⟨hok k hk.1, fun he => ?_⟩) (Kd.M_below (d.M_bound hp) (below_alloc (Below.refl _ _) _)))
    have h3 : k = W.heap.size := by simpa [Value.ownBlock] using he
    have := hk.2.2.1
    omega
theorem R_lay0 {α : Type} (d : Kd α) {W : World} {base g : Nat} (e : TypeId) (hg : W.heap.size = g) (hbase : base ≤ g) : d.R e (W.alloc (.cells #[] e)) base (fun _ => True) (.slice (some ⟨g, 0, none⟩) 0 0) [] := by
  subst hg
  exact R_lay d W base e hbase (xs := []) (inner := []) (okp := fun _ => True) (Reps.none _ _) (fun _ h => h) trivial (by simp)
/-- Two rows apart: one has grown, the other lies as it lay, and they are apart again. -/
theorem R_apart {α β : Type} {n n' : Nat} {enc : α → List Value} {hn : ∀ x, (enc x).length = n} {h1 : ∀ x, ∀ u ∈ enc x, u.oneCell' = true} {enc' : β → List Value} {hn' : ∀ x, (enc' x).length = n'} {h1' : ∀ x, ∀ u ∈ enc' x, u.oneCell' = true} {e e' : Nat} {W w9 : World} {base : Nat} {vy vn v9 : Value} {ys : List α} {ns : List β}
    (_RY : (flat n enc hn h1).R e W base (fun _ => True) vy ys) (RN : (flat n' enc' hn' h1').R e' W base (fun _ => True) vn ns) (hne : ∀ b, vy.ownBlock = some b → vn.ownBlock ≠ some b) (hg : W.grownBy w9 vy.ownBlock) (hat : v9.ownBlock = vy.ownBlock ∨ ∃ b, v9.ownBlock = some b ∧ W.heap.size ≤ b) :
    (flat n' enc' hn' h1').R e' w9 base (fun _ => True) vn ns ∧ ∀ b, v9.ownBlock = some b → vn.ownBlock ≠ some b := by
  refine ⟨R_mono (R_grown (R_okFlat (ok' := fun k => some k ≠ vy.ownBlock) RN (fun k hk he => hne k he.symm hk)) hg (fun k h => h)) (fun _ _ => trivial), fun b hb hb' => ?_⟩
  rcases hat with h | ⟨c, hc, hcl⟩
  · exact hne b (h ▸ hb) hb'
  · rw [hc] at hb
    obtain rfl := Option.some.inj hb
    have := ((R_bound RN).1 c hb').2.2.1
    omega
end Kd
end Go.Proofs.YtdknolnoimpgeaaW.PrintWords
namespace Go.Proofs.Ytdknolnoimpgeaa.K
open Go.RowKit Go.Proofs.YtdknolnoimpgeaaW.PrintWords Go.Proofs.YtdknolnoimpgeaaW.PrintLast Go.Proofs.YtdknolnoimpgeaaW.PrintMore
theorem heap_at2 {W : World} {o : Obj} {g : Nat} (hg : W.heap.size = g) : (W.alloc o).heap[g]? = some o := by
  subst hg
  exact heap_alloc_new _ _
/-- The first place where p holds; -1. -/
def idxP {α : Type} (p : α → Bool) (l : List α) : Int := match l.findIdx? p with | some i => i | none => -1
theorem idxP_hit {α : Type} {p : α → Bool} {l : List α} {k : Nat} (hk : k < l.length) (h : p l[k] = true) (h0 : ∀ j (hj : j < k), p (l[j]'(by omega)) = false) : idxP p l = k := by
  unfold idxP
  rw [List.findIdx?_eq_some_iff_getElem.2 ⟨hk, h, fun j hj => by simp [h0 j hj]⟩]
theorem idxP_miss {α : Type} {p : α → Bool} {l : List α} (h0 : ∀ j (hj : j < l.length), p l[j] = false) : idxP p l = -1 := by
  unfold idxP
  rw [List.findIdx?_eq_none_iff.2 (fun x hx => by obtain ⟨j, hj, rfl⟩ := List.getElem_of_mem hx; exact h0 j hj)]
end Go.Proofs.Ytdknolnoimpgeaa.K
namespace Go.Proofs.Ytdknolnoimpgeaa.K
open Go.RowKit Go.Proofs.YtdknolnoimpgeaaW.PrintWords Go.Proofs.YtdknolnoimpgeaaW.PrintLast Go.Proofs.YtdknolnoimpgeaaW.PrintMore
set_option linter.unusedVariables false
section
variable {α : Type} {n : Nat} {enc : α → List Value}
theorem flat_len (hn : ∀ x, (enc x).length = n) : ∀ l : List α, (l.flatMap enc).length = l.length * n
  | [] => by simp
  | x :: l => by rw [List.flatMap_cons, List.length_append, hn, flat_len hn l, List.length_cons, Nat.succ_mul]; omega
theorem flat_take (hn : ∀ x, (enc x).length = n) : ∀ (l : List α) (k : Nat), (l.flatMap enc).take (k * n) = (l.take k).flatMap enc
  | [], k => by simp
  | x :: l, 0 => by simp
  | x :: l, k + 1 => by
    rw [List.flatMap_cons, List.take_succ_cons, List.flatMap_cons, ← flat_take hn l k, Nat.succ_mul, List.take_append, hn]
    rw [List.take_of_length_le (by rw [hn]; omega), show k * n + n - n = k * n by omega]
theorem flat_drop (hn : ∀ x, (enc x).length = n) : ∀ (l : List α) (k : Nat), (l.flatMap enc).drop (k * n) = (l.drop k).flatMap enc
  | [], k => by simp
  | x :: l, 0 => by simp
  | x :: l, k + 1 => by
    rw [List.flatMap_cons, List.drop_succ_cons, ← flat_drop hn l k, Nat.succ_mul, List.drop_append, hn]
    rw [List.drop_eq_nil_of_le (by rw [hn]; omega), List.nil_append, show k * n + n - n = k * n by omega]
theorem flat_get (hn : ∀ x, (enc x).length = n) (l : List α) {j i : Nat} (hj : j < l.length) (hi : i < n) : (l.flatMap enc)[j * n + i]? = (enc l[j])[i]? := by
  have h := flat_drop hn l j
  have h2 : ((l.flatMap enc).drop (j * n))[i]? = (l.flatMap enc)[j * n + i]? := List.getElem?_drop
  rw [← h2, h, List.drop_eq_getElem_cons hj, List.flatMap_cons, List.getElem?_append_left (by rw [hn]; exact hi)]
/-- A piece laid over a list, seen up to a place. -/
theorem lay_take {β : Type} {xs ys vs : List β} {N o : Nat} (h : xs.take N = ys) (ho : o + vs.length ≤ N) (hN : N ≤ xs.length) : (xs.take o ++ vs ++ xs.drop (o + vs.length)).take N = ys.take o ++ vs ++ ys.drop (o + vs.length) := by
  subst h
  rw [List.append_assoc, List.append_assoc, List.take_append, List.length_take, Nat.min_eq_left (by omega), List.take_of_length_le (by rw [List.length_take]; omega), List.take_append, List.take_of_length_le (l := vs) (by omega), List.take_drop, List.drop_take]
  rw [List.take_take, Nat.min_eq_left (by omega)]
  congr 2
  rw [List.drop_take]
  congr 1
  omega
theorem reps_flat : ∀ (xs : List α) (inner : List Value), inner.length = xs.length * n → (∀ j p, xs[j]? = some p → (inner.drop (j * n)).take n = enc p) → inner = xs.flatMap enc
  | [], inner, hl, _ => List.eq_nil_of_length_eq_zero (by simpa using hl)
  | x :: xs, inner, hl, hp => by
    have h0 := hp 0 x rfl
    rw [Nat.zero_mul, List.drop_zero] at h0
    have hr := reps_flat xs (inner.drop n) (by rw [List.length_drop, hl, List.length_cons, Nat.succ_mul]; omega) (fun j p hj => by
      have := hp (j + 1) p (by simpa using hj)
      rw [Nat.succ_mul] at this
      rw [List.drop_drop, show n + j * n = j * n + n by omega]
      exact this)
    rw [List.flatMap_cons, ← h0, ← hr, List.take_append_drop]
end
end Go.Proofs.Ytdknolnoimpgeaa.K
namespace Go.Proofs.YtdknolnoimpgeaaW.PrintWords
open Go.RowKit Go.Proofs.Ytdknolnoimpgeaa.K
namespace Kd
/-- A block whose cells begin with a list's reads as that list. -/
theorem C_blk {α : Type} {n : Nat} {enc : α → List Value} {hn : ∀ x, (enc x).length = n} {h1 : ∀ x, ∀ u ∈ enc x, u.oneCell' = true} {W : World} {g : Nat} {cs : Array Value} {t : TypeId} {xs : List α} (BK : W.heap[g]? = some (.cells cs t (0, 0)))
    (h : cs.toList.take (xs.length * n) = xs.flatMap enc) (hm : xs.length ≤ 9223372036854775807) : (flat n enc hn h1).C W (some ⟨g, 0, none⟩) xs.length xs := by
  refine ⟨rfl, hm, fun _ => ⟨⟨g, 0, none⟩, rfl, fun j p hp => ?_⟩⟩
  obtain ⟨hj, rfl⟩ := List.getElem?_eq_some_iff.1 hp
  refine ⟨enc xs[j], hn _, rfl, fun i u hu => ?_⟩
  have hi : i < n := by
    have := (List.getElem?_eq_some_iff.1 hu).1
    rw [hn] at this; exact this
  have hlt : j * n + i < xs.length * n := by
    have : (j + 1) * n ≤ xs.length * n := Nat.mul_le_mul_right n (by omega)
    rw [Nat.succ_mul] at this
    omega
  show W.cell? ((⟨g, 0, none⟩ : Addr).add (j * n + i)) = some u
  rw [add_plain, blk_cell BK, ← hu, ← flat_get hn xs hj hi, ← h, List.getElem?_take_of_lt hlt, Array.getElem?_toList]
/-- An own row of plain structs is such a block. -/
theorem R_blk {α : Type} {n : Nat} {enc : α → List Value} {hn : ∀ x, (enc x).length = n} {h1 : ∀ x, ∀ u ∈ enc x, u.oneCell' = true} {W : World} {e base : Nat} {ok : Nat → Prop} {v : Value} {xs : List α} (h : (flat n enc hn h1).R e W base ok v xs) (h0 : 0 < xs.length) :
    ∃ g c cs, v = .slice (some ⟨g, 0, none⟩) xs.length c ∧ base ≤ g ∧ xs.length ≤ c ∧ W.heap[g]? = some (.cells cs e (0, 0)) ∧ cs.size = c * n ∧ cs.toList.take (xs.length * n) = xs.flatMap enc := by
  obtain ⟨_, inner, hown, hrep⟩ := h
  rcases hown.2 with ⟨_, hx0⟩ | ⟨g, cap, cur, hv, hb, hh, hnc, hcm, hcs, htake⟩
  · omega
  refine ⟨g, cap, cur, hv, hb, hnc, hh, hcs, ?_⟩
  have hin : inner = xs.flatMap enc := by
    obtain ⟨hl, hp⟩ := hrep
    exact reps_flat xs inner hl hp
  rw [← hin]
  exact htake
end Kd
end Go.Proofs.YtdknolnoimpgeaaW.PrintWords
namespace Go.Proofs.YtdknolnoimpgeaaW.PrintWords
open Go.RowKit
set_option linter.unusedVariables false
set_option linter.unusedSimpArgs false
namespace Kd
section
variable {P : Program} {ops : Array Oper} {rest : List Oper} {o : Oper} {a : Act} {Q : Exit → Act → World → Prop} {α : Type}
/-- copy(s, ys), s a slice of a block: the block's cells behind. -/
theorem run_copyBlk {enc : α → Value} {h1 : ∀ x, (enc x).oneCell' = true} (d : α) {W : World} (ty t t' e : TypeId)
    (ht : P.underlying t = some (.slice e)) (hinfo : (P.info? e).map (·.size) = some 1)
    (g off n cap : Nat) (ys : List α) (A : Option Addr) (m c : Nat) (hm0 : 0 < m)
    {cs : Array Value} {te : TypeId} (BK : W.heap[g]? = some (.cells cs te (0, 0))) (hlt : off + n ≤ cs.size) (HR : (scalar enc h1).C W A m ys) :
    ∃ w1 cs', (Builtin.copy_ #[t, t'] ty #[.slice (some ⟨g, off, none⟩) n cap, .slice A m c]).run P W = .ok (goInt ((min m n : Nat) : Int)) w1 ∧ w1.heap[g]? = some (.cells cs' te (0, 0)) ∧ cs'.size = cs.size ∧ cs'.toList = cs.toList.take off ++ (ys.take (min m n)).map enc ++ cs.toList.drop (off + min m n) ∧ W.grownBy w1 (some g) := by
  have hR := reads_of_C (enc := enc) (d := d) (h1 := h1) HR
  have hm : ys.length = m := hR.1
  obtain ⟨ad, hA, hc⟩ := hR.2.2 (by omega)
  have hsrc : ∀ j u, (encs enc (ys.take (min m n)))[j]? = some u → W.cell? (ad.add j) = some u := by
    intro j u hu
    have hj : j < (ys.take (min m n)).length := by
      rcases Nat.lt_or_ge j (ys.take (min m n)).length with h | h
      · exact h
      · rw [List.getElem?_eq_none (by rw [encs_length]; exact h)] at hu
        cases hu
    have hjm : j < min m n := by rw [List.length_take] at hj; omega
    rw [encs_get (d := d) _ j hj] at hu
    rw [hc j (by omega), ← hu]
    simp [List.getD_eq_getElem?_getD, hjm]
  have hkl : (encs enc (ys.take (min m n))).length = min m n := by rw [encs_length, List.length_take]; omega
  have hT := there_of_blk BK (n := n) hlt
  have hr := run_copy_cells (P := P) W t t' ty e g off n cap ad m c (encs enc (ys.take (min m n))) ht hinfo (by rw [hkl]) hsrc
    (fun j hj => (hT j (by omega)).1) (fun j hj => (hT j (by omega)).2) (by intro u hu; simp only [encs, List.mem_map] at hu; obtain ⟨q, _, rfl⟩ := hu; exact h1 q)
  obtain ⟨cur', h3, h4, h5⟩ := setCells_row (encs enc (ys.take (min m n))) off W cs BK (by rw [hkl]; omega)
  rw [hkl] at hr h5
  subst hA
  exact ⟨_, cur', hr, h3, h4, h5, grown_setCells _ _ _ _⟩
end
/-- clear(s), s a slice of a block whose elements have one cell. -/
theorem run_clearBlk {P : Program} {w : World} (ty t e : TypeId) (ht : P.underlying t = some (.slice e)) {z z0 : Value} (hinfo : (P.info? e).map (fun i => i.zero) = some (some z)) (hz : z.cells = #[z0]) (hz1 : z0.oneCell' = true)
    (g o n c : Nat) {cs : Array Value} {te : TypeId} (BK : w.heap[g]? = some (.cells cs te (0, 0))) (hlt : o + n ≤ cs.size) :
    ∃ w1 cs', (Builtin.clear_ #[t] ty #[.slice (some ⟨g, o, none⟩) n c]).run P w = .ok (.tuple #[]) w1 ∧ w1.heap[g]? = some (.cells cs' te (0, 0)) ∧ cs'.size = cs.size ∧ cs'.toList = cs.toList.take o ++ List.replicate n z0 ++ cs.toList.drop (o + n) ∧ w.grownBy w1 (some g) := by
  obtain ⟨i0, hi, hz0⟩ := Option.map_eq_some_iff.1 hinfo
  have hzc : (Builtin.zeroCells z.cells n).toList = List.replicate n z0 := by
    apply List.ext_getElem
    · simp [Builtin.zeroCells, hz]
    · intro i h1 h2
      simp [Builtin.zeroCells, hz, Nat.mod_one]
  have hT := there_of_blk BK (n := n) hlt
  obtain ⟨cs', h2, h3, h4⟩ := setCells_row (List.replicate n z0) o w cs BK (by simpa using hlt)
  rw [List.length_replicate] at h4
  refine ⟨_, cs', ?_, h2, h3, h4, grown_setCells _ _ _ _⟩
  rcases Nat.eq_zero_or_pos n with rfl | hn
  · simp [Builtin.clear_, run_underlying ht, Result.andThen, World.setCells]
  · have hst := run_storeCells_cells (P := P) g o (List.replicate n z0) 0 w (fun j hj => by rw [Nat.add_zero]; exact (hT j (by simpa using hj)).1) (fun j hj => by rw [Nat.add_zero]; exact (hT j (by simpa using hj)).2) (by intro u hu; rw [(List.mem_replicate.1 hu).2]; exact hz1)
    obtain ⟨n', rfl⟩ : ∃ n', n = n' + 1 := ⟨n - 1, by omega⟩
    simp only [Nat.add_zero] at hst
    rw [← hzc] at hst ⊢
    simp [Builtin.clear_, run_underlying ht, zeroValue, typeInfo, hi, hz0, hst, Result.andThen]
/-- An own row of scalars is a block. -/
theorem R_blkS {α : Type} {enc : α → Value} {h1 : ∀ x, (enc x).oneCell' = true} {W : World} {e base : Nat} {ok : Nat → Prop} {v : Value} {xs : List α} (h : (scalar enc h1).R e W base ok v xs) (h0 : 0 < xs.length) :
    ∃ g c cs, v = .slice (some ⟨g, 0, none⟩) xs.length c ∧ base ≤ g ∧ xs.length ≤ c ∧ c ≤ 9223372036854775807 ∧ W.heap[g]? = some (.cells cs e (0, 0)) ∧ cs.size = c ∧ cs.toList.take xs.length = xs.map enc := by
  have hown := own_of_R h
  rcases hown.2 with ⟨_, hx0⟩ | ⟨g, cap, cur, hv, hb, hh, hnc, hcm, hcs, htake⟩
  · omega
  refine ⟨g, cap, cur, hv, hb, hnc, by simpa [maxLen] using hcm, hh, by omega, ?_⟩
  rw [Nat.mul_one] at htake
  exact htake
end Kd
end Go.Proofs.YtdknolnoimpgeaaW.PrintWords
namespace Go.Proofs.Ytdknolnoimpgeaa.K
open Go.RowKit Go.Shelf Go.Lib Go.Proofs.YtdknolnoimpgeaaW.PrintWords Go.Proofs.YtdknolnoimpgeaaW.PrintLast Go.Proofs.YtdknolnoimpgeaaW.PrintMore
set_option linter.unusedVariables false
set_option linter.unusedSimpArgs false
deriving instance DecidableEq for Ent
def Ent.enc (x : Ent) : List Value := [.int .i64 x.sl, .int .i64 x.ino, .string x.nm]
theorem Ent.one (x : Ent) : ∀ u ∈ x.enc, u.oneCell' = true := by
  intro u hu
  simp only [Ent.enc, List.mem_cons, List.not_mem_nil, or_false] at hu
  rcases hu with rfl | rfl | rfl <;> rfl
abbrev kEnt : Kd Ent := Kd.flat 3 Ent.enc (fun _ => rfl) Ent.one
set_option maxRecDepth 100000 in
theorem idxEn_walk (A : Option Addr) (c : Nat) (l : List Ent) (p : Ent → Bool) (g : Nat) (lb : Array Value) (w : World) (hr : Kd.C kEnt w A l.length l) (hl : l.length ≤ 9223372036854775807)
    (eg : ∀ args w, (callFunc g args).run Try.prog w = .ok (.enter g args) w) (hp : ∀ W x, Below w.heap.size w W → Calls Try.prog g (#[.agg #[.int .i64 x.sl, .int .i64 x.ino, .string x.nm]] ++ lb) W fun e w' => e = .returned (.bool (p x)) ∧ Below W.heap.size W w') :
    Calls Try.prog 116 #[.slice A l.length c, .func (.func g) #[] lb] w fun e w' => e = .returned (.int .i64 (idxP p l)) ∧ Below w.heap.size w w' := by
  have HR := Aside0.mk hr
  have HP := Aside0.mk hp
  have HB := Aside0.mk (Below.refl w.heap.size w)
  clear hr hp
  go_enter Try.func116, Try.ntmps116
  go_wp2
  go_loopw [5, 8] (fun v5 v8 w' => ∃ m : Nat, v8 = .int .i64 m ∧ Aside0 (m ≤ l.length) ∧ Aside0 (∀ j (hj : j < l.length), j < m → p l[j] = false) ∧ Aside0 (Below w.heap.size w w')) (fun _ i _ => l.length - (intOf i).toNat)
  case atStart => exact ⟨0, rfl, ⟨Nat.zero_le _⟩, ⟨fun j hj h => absurd h (by omega)⟩, HB⟩
  case round =>
    clear HB
    obtain ⟨m, rfl, hm, hall, HB⟩ := hrel
    have hm' := hm.out
    by_cases hlt : m < l.length
    · obtain ⟨ad, rfl, hx, hxs⟩ := Kd.at_flatA (Kd.C_below HR.out HB.out) hlt
      obtain ⟨x, hxx⟩ : ∃ x, x = l[m] := ⟨_, rfl⟩
      rw [← hxx] at hx hxs
      have x0 := hx _ rfl
      have x1 := hxs 0 _ rfl
      have x2 := hxs 1 _ rfl
      simp only [Nat.reduceAdd] at x1 x2
      have HC := Aside0.mk (HP.out wr x HB.out)
      have HXX := Aside0.mk hxx
      clear hx hxs hxx
      cases hq : p x with
      | true =>
        have E0 : Aside0 (idxP p l = m) := ⟨idxP_hit hlt (by rw [← HXX.out]; exact hq) fun j hj => hall.out j (by omega) hj⟩
        rw [hq] at HC
        clear hq
        go_wp2_with (go_at_fn g; (with_reducible refine HC.out.mono ?_); rintro e w5 ⟨rfl, hb⟩; have n1_ : Aside0 (Below w.heap.size w w5) := ⟨below_step (by repeat (first | (with_reducible first | exact HB.out | apply below_alloc | apply pw_below_drewN | apply below_drew1) | exact HB.out)) hb⟩; clear HB; have HB := n1_; clear n1_; clear hb)
        go_ret
        exact ⟨by rw [E0.out]; rfl, (by repeat (first | (with_reducible first | exact HB.out | apply below_alloc | apply pw_below_drewN | apply below_drew1) | exact HB.out))⟩
      | false =>
        have HA : Aside0 (∀ j (hj : j < l.length), j < m + 1 → p l[j] = false) := ⟨fun j hj h => by
          by_cases hjm : j = m
          · subst hjm; rw [← HXX.out]; exact hq
          · exact hall.out j hj (by omega)⟩
        rw [hq] at HC
        clear hq
        go_wp2_with (go_at_fn g; (with_reducible refine HC.out.mono ?_); rintro e w5 ⟨rfl, hb⟩; have n1_ : Aside0 (Below w.heap.size w w5) := ⟨below_step (by repeat (first | (with_reducible first | exact HB.out | apply below_alloc | apply pw_below_drewN | apply below_drew1) | exact HB.out)) hb⟩; clear HB; have HB := n1_; clear n1_; clear hb)
        exact ⟨⟨m + 1, rfl, ⟨by omega⟩, HA, ⟨(by repeat (first | (with_reducible first | exact HB.out | apply below_alloc | apply pw_below_drewN | apply below_drew1) | exact HB.out))⟩⟩, by simp [intOf]; omega⟩
    · have E0 : Aside0 (idxP p l = -1) := ⟨idxP_miss fun j hj => hall.out j hj (by omega)⟩
      have hge : l.length ≤ m := by omega
      clear hlt
      go_wp2
      go_ret
      exact ⟨by rw [E0.out]; rfl, (by repeat (first | (with_reducible first | exact HB.out | apply below_alloc | apply pw_below_drewN | apply below_drew1) | exact HB.out))⟩
/-- A right entry of a slot. -/
def slotP (sl : Int) (x : Ent) : Bool := rightE x.sl x.ino x.nm && x.sl == sl
/-- The bytes of a slot: those of the first right entry that has it. -/
def pickE (l : List Ent) (sl : Int) : List Int := match l.find? (slotP sl) with | some x => bytesE x.ino x.nm | none => List.replicate 16 0
def blockN (l : List Ent) (k : Int) (n : Nat) : List Int := (List.range n).flatMap fun (j : Nat) => pickE l (4 * k + (j : Int))
/-- A block of entries. -/
def blockE (l : List Ent) (k : Int) : List Int := if 0 ≤ k ∧ k < 4 then blockN l k 4 else List.replicate 64 0
theorem slotP_right {sl : Int} {x : Ent} (h : slotP sl x = true) : rightE x.sl x.ino x.nm = true ∧ x.sl = sl := by
  simp only [slotP, Bool.and_eq_true, beq_iff_eq] at h
  exact h
theorem pickE_length (l : List Ent) (sl : Int) : (pickE l sl).length = 16 := by
  unfold pickE
  cases h : l.find? (slotP sl) with
  | none => simp
  | some x => exact bytesE_length (rightE_parts (slotP_right (List.find?_some h)).1).2.2.2.2
theorem bytesE_byts {ino : Int} {nm : ByteArray} (h : rightN nm = true) : Byts (bytesE ino nm) := fun x hx => by
  unfold bytesE at hx
  rcases List.mem_append.1 hx with hx | hx
  · exact leB_byts _ _ x hx
  · exact packN_byts (by have := rightN_size h; omega) x hx
theorem pickE_byts (l : List Ent) (sl : Int) : Byts (pickE l sl) := by
  unfold pickE
  cases h : l.find? (slotP sl) with
  | none => exact Byts.zeros 16
  | some x => exact bytesE_byts (rightE_parts (slotP_right (List.find?_some h)).1).2.2.2.2
theorem blockN_succ (l : List Ent) (k : Int) (n : Nat) : blockN l k (n + 1) = blockN l k n ++ pickE l (4 * k + n) := by
  simp [blockN, List.range_succ]
theorem blockN_length (l : List Ent) (k : Int) : ∀ n, (blockN l k n).length = 16 * n
  | 0 => rfl
  | n + 1 => by rw [blockN_succ, List.length_append, blockN_length l k n, pickE_length]; omega
theorem blockN_byts (l : List Ent) (k : Int) : ∀ n, Byts (blockN l k n)
  | 0 => Byts.nil
  | n + 1 => by rw [blockN_succ]; exact (blockN_byts l k n).append (pickE_byts _ _)
theorem blockE_length (l : List Ent) (k : Int) : (blockE l k).length = 64 := by
  unfold blockE; split
  · rw [blockN_length]
  · simp
theorem blockE_byts (l : List Ent) (k : Int) : Byts (blockE l k) := by
  unfold blockE; split
  · exact blockN_byts _ _ _
  · exact Byts.zeros 64
theorem idxP_find {α : Type} {p : α → Bool} {l : List α} : (∃ m : Nat, ∃ hm : m < l.length, idxP p l = m ∧ l.find? p = some l[m]) ∨ (idxP p l = -1 ∧ l.find? p = none) := by
  unfold idxP
  cases h : l.findIdx? p with
  | none =>
    right
    refine ⟨rfl, ?_⟩
    rw [List.findIdx?_eq_none_iff] at h
    exact List.find?_eq_none.2 (fun x hx => by rw [h x hx]; simp)
  | some i =>
    left
    obtain ⟨hi, hp, hlt⟩ := List.findIdx?_eq_some_iff_getElem.1 h
    refine ⟨i, hi, rfl, ?_⟩
    exact List.find?_eq_some_iff_getElem.2 ⟨hp, i, hi, rfl, fun j hj => by simpa using hlt j hj⟩
end Go.Proofs.Ytdknolnoimpgeaa.K
namespace Go.Proofs.YtdknolnoimpgeaaW.PrintWords
open Go.RowKit Go.Proofs.Ytdknolnoimpgeaa.K
namespace Kd
theorem R_farLow {α : Type} {d : Kd α} {e : TypeId} {w : World} {base : Nat} {ok : Nat → Prop} {v : Value} {xs : List α} (h : d.R e w base ok v xs) {p : Addr} (hp : p.block < base) (u : Value) : d.R e (w.setCell p u) base ok v xs :=
  R_mono (R_far (R_bound h) (fun k hk => by have := hk.2.1; omega) u) (fun _ hk => hk.1)
/-- A row of one's own abides the turn of a block that is no cells. -/
theorem R_turn {α : Type} {d : Kd α} {e : TypeId} {w w1 : World} {base : Nat} {ok : Nat → Prop} {v : Value} {xs : List α} (h : d.R e w base ok v xs) {row : Option Nat} (hg : w.grownBy w1 row) (hr : ∀ r, row = some r → ∃ o : Obj, w.heap[r]? = some o ∧ o.isCells = false) : d.R e w1 base ok v xs :=
  R_mono (R_grown (R_bound h) hg (fun k hk e => by
    obtain ⟨q, _, cells, hc⟩ := hk.2.2.2
    obtain ⟨o, ho, hn⟩ := hr k e.symm
    rw [hc] at ho
    obtain rfl := Option.some.inj ho
    cases hn)) (fun _ hk => hk.1)
end Kd
end Go.Proofs.YtdknolnoimpgeaaW.PrintWords
namespace Go.Proofs.Ytdknolnoimpgeaa.K
open Go.RowKit Go.Shelf Go.Lib Go.Proofs.YtdknolnoimpgeaaW.PrintWords Go.Proofs.YtdknolnoimpgeaaW.PrintLast Go.Proofs.YtdknolnoimpgeaaW.PrintMore
attribute [local go_sem] Oper.semAt_some
set_option linter.unusedVariables false
set_option linter.unusedSimpArgs false
theorem blk_turn {w w1 : World} {g : Nat} {cs : Array Value} {t : TypeId} (h : w.heap[g]? = some (.cells cs t (0, 0))) {row : Option Nat} (hg : w.grownBy w1 row) (hr : ∀ r, row = some r → ∃ o : Obj, w.heap[r]? = some o ∧ o.isCells = false) : w1.heap[g]? = some (.cells cs t (0, 0)) :=
  (hg.block g (Array.getElem?_eq_some_iff.1 h).1 (fun e => by
    obtain ⟨o, ho, hn⟩ := hr g e.symm
    rw [h] at ho
    obtain rfl := Option.some.inj ho
    cases hn)).trans h
theorem keeps_below {W W' : World} (h : Below W.heap.size W W') : KeepsOthers W W' := ⟨h.size, fun k o hk _ => (h.block k (Array.getElem?_eq_some_iff.1 hk).1).trans hk⟩
/-- The bytes of a slot. -/
def chunkE (l : List Int) (j : Nat) : List Int := (l.drop (16 * j)).take 16
theorem chunkE_length {l : List Int} {j : Nat} (hl : l.length = 64) (hj : j < 4) : (chunkE l j).length = 16 := by
  unfold chunkE; rw [List.length_take, List.length_drop]; omega
theorem chunkE_byts {l : List Int} (h : Byts l) (j : Nat) : Byts (chunkE l j) := (h.drop _).take _
/-- The entries that are read, slot by slot. -/
def entsE (l : List Int) (k : Int) (pre : List (Fin 4)) : List Ent := pre.zipIdx.flatMap fun x => if (getE (chunkE l x.1.val) (4 * k + (x.2 : Int))).2.1 = true then [(getE (chunkE l x.1.val) (4 * k + (x.2 : Int))).1] else []
def parseE (l : List Int) (k : Int) : List Ent := entsE l k (List.finRange 4)
theorem entsE_snoc (l : List Int) (k : Int) (pre : List (Fin 4)) (x : Fin 4) : entsE l k (pre ++ [x]) = entsE l k pre ++ (if (getE (chunkE l x.val) (4 * k + (pre.length : Int))).2.1 = true then [(getE (chunkE l x.val) (4 * k + (pre.length : Int))).1] else []) := by
  unfold entsE
  rw [List.zipIdx_append, List.flatMap_append]
  simp
theorem entsE_le (l : List Int) (k : Int) (pre : List (Fin 4)) : (entsE l k pre).length ≤ pre.length := by
  unfold entsE
  have : ∀ (z : List (Fin 4 × Nat)), (z.flatMap fun x => if (getE (chunkE l x.1.val) (4 * k + (x.2 : Int))).2.1 = true then [(getE (chunkE l x.1.val) (4 * k + (x.2 : Int))).1] else []).length ≤ z.length := by
    intro z
    induction z with
    | nil => simp
    | cons a z ih =>
      rw [List.flatMap_cons, List.length_append, List.length_cons]
      split <;> simp only [List.length_singleton, List.length_nil] <;> omega
  have h := this pre.zipIdx
  rwa [List.length_zipIdx] at h
theorem chunk_walk (g c : Nat) (w : World) : Calls Try.prog 118 #[.slice (some ⟨g, 0, none⟩) 64 c, .int .i64 16] w fun e w' => e = .returned (.func (.func 145) #[] #[.pointer (some ⟨w.heap.size, 0, none⟩), .pointer (some ⟨w.heap.size + 1, 0, none⟩)]) ∧ w' = (w.alloc (.cells #[.slice (some ⟨g, 0, none⟩) 64 c] 24)).alloc (.cells #[.int .i64 16] 3) := by
  go_enter Try.func118, Try.ntmps118
  go_wp2
  go_ret
  exact ⟨rfl, rfl⟩
theorem entinfo : (Try.prog.info? 62).map (fun i => (i.zero, i.size, i.bytes)) = some (some (.agg #[.int .i64 0, .int .i64 0, .string ByteArray.empty]), 3, 32) := by kernel_rfl
/-- What lies between two rounds. -/
def ParseI (w : World) (N0 : Nat) (l : List Int) (k : Int) (pre : List (Fin 4)) (W : World) : Prop :=
  ∃ vl : Value, W.heap[w.heap.size]? = some (.cells #[vl] 68 (0, 0)) ∧ W.heap[w.heap.size + 1]? = some (.cells #[.slice none 0 0] 50 (0, 0)) ∧ W.heap[w.heap.size + 1 + 1]? = some (.cells #[.int .i64 (4 * k + (pre.length : Int))] 3 (0, 0)) ∧
    Kd.R kEnt 62 W N0 (fun _ => True) vl (entsE l k pre) ∧ Below w.heap.size w W ∧ N0 ≤ W.heap.size
theorem parseI_own (w : World) (N0 B : Nat) (l : List Int) (k : Int) (hB : w.heap.size ≤ B) : OwnFrom B (ParseI w N0 l k) := by
  rintro pre W W' row ⟨vl, h1, h2, h3, h4, h5, h6⟩ hg hr
  have hr' : ∀ r, row = some r → ∃ o : Obj, W.heap[r]? = some o ∧ o.isCells = false := fun r e => (hr r e).2
  exact ⟨vl, blk_turn h1 hg hr', blk_turn h2 hg hr', blk_turn h3 hg hr', Kd.R_turn h4 hg hr', h5.grown hg h5.size (fun k e => Nat.le_trans hB (hr k e).1), Nat.le_trans h6 hg.size⟩
set_option maxHeartbeats 4000000 in
set_option maxRecDepth 100000 in
theorem parse_walk (g c : Nat) (l : List Int) (k : Int) (w : World) (hr : Kd.C (Kd.int .u8) w (some ⟨g, 0, none⟩) 64 l) (hl : l.length = 64) (hc : 64 ≤ c) (hb : Byts l) (k0 : 0 ≤ k) (k1 : k < 4) (hok : ∀ (x : Nat), x < 4 → ∀ slot : Int, 0 ≤ slot → slot < 16 → (getE (chunkE l x) slot).2.2 = true) :
    Calls Try.prog 61 #[.slice (some ⟨g, 0, none⟩) 64 c, .int .i64 k] w fun e w' => ∃ vl : Value, e = .returned (.tuple #[vl, .slice none 0 0]) ∧ Kd.R kEnt 62 w' w.heap.size (fun _ => True) vl (parseE l k) ∧ Below w.heap.size w w' := by
  refine (callsIn_wide (n := 5)).1 ?_
  refine callsIn_of_wp_marks Try.func61 rfl trivial ?_ rfl
  simp only [Try.ntmps61, List.size_toArray, List.length_cons, List.length_nil, Nat.reduceAdd, Nat.reduceSub, Array.replicate_succ, Array.replicate_zero, List.push_toArray, List.append_toArray, List.nil_append, List.cons_append]
  have hw4 : RowKit.wrap64 (4 * k) = 4 * k := by unfold RowKit.wrap64; omega
  gi_wp2_with (refine ⟨trivial, ?_⟩; gi_at_call 118; refine (callsIn_wide.2 (chunk_walk g c _)).mono ?_; rintro e w' ⟨rfl, rfl⟩)
  obtain ⟨wL, hwL⟩ : ∃ wL, wL = ((((w.alloc (.cells #[.slice none 0 0] 68)).alloc (.cells #[.slice none 0 0] 50)).alloc (.cells #[.int .i64 (4 * k)] 3)).alloc (.cells #[.slice (some ⟨g, 0, none⟩) 64 c] 24)).alloc (.cells #[.int .i64 16] 3) := ⟨_, rfl⟩
  have hsz : wL.heap.size = w.heap.size + 5 := by rw [hwL]; simp
  have hS : wL.cell? ⟨w.heap.size + 3, 0, none⟩ = some (.slice (some ⟨g, 0, none⟩) 64 c) := by rw [hwL]; go_simp
  have hN : wL.cell? ⟨w.heap.size + 4, 0, none⟩ = some (.int .i64 16) := by rw [hwL]; go_simp
  have hI0 : ParseI w wL.heap.size l k [] wL := ⟨_, by rw [hwL]; exact blk_alloc (blk_alloc (blk_alloc (blk_alloc (heap_alloc_new w _) _) _) _) _, by rw [hwL]; exact blk_alloc (blk_alloc (blk_alloc (heap_at2 (by simp)) _) _) _, by have e := heap_at2 (W := (w.alloc (.cells #[.slice none 0 0] 68)).alloc (.cells #[.slice none 0 0] 50)) (o := .cells #[.int .i64 (4 * k)] 3) (g := w.heap.size + 1 + 1) (by simp); rw [hwL]; have := blk_alloc (blk_alloc e (.cells #[.slice (some ⟨g, 0, none⟩) 64 c] 24)) (.cells #[.int .i64 16] 3); simpa using this, Kd.R_nil _ _ _ _ _, by rw [hwL]; exact below_alloc (below_alloc (below_alloc (below_alloc (below_alloc (Below.refl _ _) _) _) _) _) _, Nat.le_refl _⟩
  rw [← hwL]
  clear hwL
  generalize (decide (k < 0) || decide (4 ≤ k)) = q3
  generalize decide (k < 0) = q1
  generalize decide (4 ≤ k) = q2
  refine wpIn_rangeFunc_ownF rfl (by decide) (gf := 145) (lb := #[.pointer (some ⟨w.heap.size + 1 + 1 + 1, 0, none⟩), .pointer (some ⟨w.heap.size + 1 + 1 + 1 + 1, 0, none⟩)]) rfl trivial (enters_of Try.func145 (by kernel_rfl) rfl)
    (chunk_stops 4 g (w.heap.size + 3) (w.heap.size + 4) c wL hc hS hN) (fun h k => keep2_t h k) (keep2_b (by omega) (by omega)) (Below.refl _ _) (fun _ => rfl)
    (ParseI w wL.heap.size l k) (fun _ _ _ => False) (parseI_own w wL.heap.size wL.heap.size l k (by omega)) (fun _ _ _ _ _ h _ _ => h) hI0
    (fun x => { tmps := #[.slice (some ⟨g, 0, none⟩) 64 c, .int .i64 k, undef, undef, .slice none 0 0, .slice none 0 0, .pointer (some ⟨w.heap.size, 0, none⟩), .pointer (some ⟨w.heap.size + 1, 0, none⟩), .pointer (some ⟨w.heap.size + 1 + 1, 0, none⟩), chunkV g x.val, undef, undef, undef, .slice (some ⟨g, 0, none⟩) 64 c, .int .i64 64, .bool false, .bool false, .int .i64 k, .bool q1, .bool q1, .bool q1, .int .i64 k, .bool q2, .bool q3, .int .i64 k, .int .i64 (4 * k), .slice (some ⟨g, 0, none⟩) 64 c, .func (.func 145) #[] #[.pointer (some ⟨w.heap.size + 1 + 1 + 1, 0, none⟩), .pointer (some ⟨w.heap.size + 1 + 1 + 1 + 1, 0, none⟩)], chunkV g x.val, undef, undef, undef, undef, undef, undef, undef, undef, undef, undef, undef, undef, undef, undef, undef, undef, undef, undef, undef, undef, undef, undef, undef, undef], defers := [] }) ?assign ?body ?done ?stop
  case assign =>
    intro ln x W K hK
    gi_wp2
    exact hK
  case stop =>
    intro D cc pre W _ _ h _
    exact h.elim
  case done =>
    intro D ys W hD hS hI hK
    obtain ⟨vl, B1, B2, B3, RL, HBW, HN⟩ := hI
    subst hS
    have y0 : W.cell? ⟨w.heap.size, 0, none⟩ = some vl := (blk_cell B1 0).trans rfl
    have y1 : W.cell? ⟨w.heap.size + 1, 0, none⟩ = some (.slice none 0 0) := (blk_cell B2 0).trans rfl
    have RL' := Aside0.mk RL
    have HB := Aside0.mk HBW
    have HSZ := Aside0.mk hsz
    have HD := Aside0.mk hD
    clear B1 B2 B3 RL HBW hS hN hI0 hsz hD
    gi_wp2
    refine wpIn_wide.2 ?_
    go_quiet (fail)
    gi_wp2
    refine ⟨by simp, .inl ⟨_, _, rfl, run_takeDeferred (show (W.drewN nq).heap[D]? = _ from hK), ?_⟩⟩
    have hg := grownBy_putObj' (W.drewN nq) D (.deferred none)
    have hD := HD.out
    have hsz := HSZ.out
    refine ⟨_, results_tmp2 rfl _ _ _, vl, rfl, Kd.R_lower (Kd.R_turn (Kd.R_drewN RL'.out nq) hg (fun r e => by cases e; exact ⟨_, hK, rfl⟩)) (by omega), ?_⟩
    exact (pw_below_drewN HB.out nq).grown hg (pw_below_drewN HB.out nq).size (fun k e => by cases e; omega)
  case body =>
    intro ln pre x W hI hlen
    obtain ⟨vl, B1, B2, B3, RL, HBW, HN⟩ := hI
    have hC : Kd.C (Kd.int .u8) W (some ⟨g, 16 * x.val, none⟩) (chunkE l x.val).length (chunkE l x.val) := by
      have hx := x.isLt
      have h1 := Kd.C_below hr HBW
      rw [← hl] at h1
      have h2 := Kd.C_mid (c := 100) (lo := 16 * x.val) (hi := 16 * x.val + 16) h1 (by omega) (by omega) (by omega)
      rw [if_neg (by omega)] at h2
      have e : (l.take (16 * x.val + 16)).drop (16 * x.val) = chunkE l x.val := by
        unfold chunkE
        rw [List.take_drop, Nat.add_comm]
      rw [e] at h2
      have e2 : (⟨g, 0, none⟩ : Addr).add (16 * x.val * (Kd.int .u8).sz) = ⟨g, 16 * x.val, none⟩ := by
        rw [add_plain]
        show (⟨g, 16 * x.val * 1, none⟩ : Addr) = _
        rw [Nat.mul_one]
      rw [Option.map_some, e2] at h2
      exact h2
    have hcl := chunkE_length hl x.isLt
    obtain ⟨s, hs⟩ : ∃ s, s = 4 * k + (pre.length : Int) := ⟨_, rfl⟩
    have hws : RowKit.wrap64 (s + 1) = s + 1 := by unfold RowKit.wrap64; omega
    have WG := Aside0.mk (eGet_walk (some ⟨g, 16 * x.val, none⟩) 16 (chunkE l x.val) s W hC (chunkE_byts hb _) (by omega))
    have hk' := hok x.val x.isLt s (by omega) (by omega)
    have EN := Aside0.mk (entsE_snoc l k pre x)
    have LE := Aside0.mk (entsE_le l k pre)
    rw [← hs] at B3 EN
    have HS := Aside0.mk hs
    rw [hcl] at WG
    obtain ⟨E, hE⟩ : ∃ E, E = getE (chunkE l x.val) s := ⟨_, rfl⟩
    rw [← hE] at WG hk' EN
    obtain ⟨⟨esl, eino, enm⟩, is, ok⟩ := E
    simp only at hk'
    subst hk'
    simp only at WG EN
    have y0 : W.cell? ⟨w.heap.size, 0, none⟩ = some vl := (blk_cell B1 0).trans rfl
    have y1 : W.cell? ⟨w.heap.size + 1 + 1, 0, none⟩ = some (.int .i64 s) := (blk_cell B3 0).trans rfl
    have R0 := Aside0.mk RL
    have A1 := Aside0.mk B1
    have A2 := Aside0.mk B2
    have A3 := Aside0.mk B3
    have HBW' := Aside0.mk HBW
    have HN' := Aside0.mk HN
    have HSZ := Aside0.mk hsz
    clear B1 B2 B3 RL HBW HN hE hcl hC hS hN hI0 hs hr hok hsz
    refine wpIn_block ?_
    refine wpIn_seq ?_
    refine wpIn_reg rfl (by rintro ⟨_, _, h⟩; exact h) ?_
    go_wp2_with (go_at_call 56; (with_reducible refine WG.out.mono ?_); rintro e w5 ⟨rfl, hb5⟩; have z0 := pw_cell_below hb5 y0; have z1 := pw_cell_below hb5 y1)
    have hlt := HN'.out
    have hsz := HSZ.out
    obtain ⟨w6, hw6⟩ : ∃ w6, w6 = w5.alloc (.cells #[.int .i64 esl, .int .i64 eino, .string enm] 62) := ⟨_, rfl⟩
    have hb6 : Below W.heap.size W w6 := by rw [hw6]; exact below_alloc hb5 _
    have C1 := blk_below A1.out hb6
    have C2 := blk_below A2.out hb6
    have C3 := blk_below A3.out hb6
    have CT : w6.heap[w5.heap.size]? = some (.cells #[.int .i64 esl, .int .i64 eino, .string enm] 62 (0, 0)) := by rw [hw6]; exact heap_alloc_new _ _
    have R6 := Kd.R_below R0.out hb6
    have KO := keeps_below hb6
    have K2 : Keep2 (w.heap.size + 3) (w.heap.size + 4) W w6 := ⟨hb6.block _ (by omega), hb6.block _ (by omega)⟩
    have H6 := below_step HBW'.out hb6
    have HN6 := Nat.le_trans HN'.out hb6.size
    refine go_onf ?_
    rw [← hw6]
    have c0 : w6.cell? ⟨w.heap.size, 0, none⟩ = some vl := (blk_cell C1 0).trans rfl
    have c3 : w6.cell? ⟨w.heap.size + 1 + 1, 0, none⟩ = some (.int .i64 s) := (blk_cell C3 0).trans rfl
    have t0 : w6.cell? ⟨w5.heap.size, 0, none⟩ = some (.int .i64 esl) := (blk_cell CT 0).trans rfl
    have t1 : w6.cell? ⟨w5.heap.size, 1, none⟩ = some (.int .i64 eino) := (blk_cell CT 1).trans rfl
    have t2 : w6.cell? ⟨w5.heap.size, 2, none⟩ = some (.string enm) := (blk_cell CT 2).trans rfl
    have D1 := Aside0.mk C1
    have D2 := Aside0.mk C2
    have D3 := Aside0.mk C3
    have DR := Aside0.mk R6
    have DK := Aside0.mk KO
    have D2K := Aside0.mk K2
    have DH := Aside0.mk H6
    have DN := Aside0.mk HN6
    clear hw6 hb6 C1 C2 C3 CT R6 KO K2 H6 HN6 hb5 z0 z1 y0 y1 A1 A2 A3 R0 HBW' HN' WG hlt hsz
    cases is with
    | true =>
      refine wpIn_seq ?_
      refine wpIn_block ?_
      refine wpIn_seq ?_
      refine wpIn_reg rfl (by rintro ⟨_, _, h⟩; exact h) ?_
      go_wp2
      refine wpIn_cond_true rfl ?_
      refine wpIn_reg rfl (by rintro ⟨_, _, h⟩; exact h) ?_
      go_wp2_with ((with_reducible refine gate_builtin (b := .append) (xs := #[.tmp 38, .tmp 40]) rfl ?_); at_builtin; go_loud (refine Kd.R_append kEnt (w0 := w6) wL.heap.size rfl (.tmp 38) (.tmp 40) 68 62 (.agg #[.int .i64 0, .int .i64 0, .string ByteArray.empty]) 32 rfl Try.underlying68 entinfo rfl (by decide) (by omega) vl (entsE l k pre) ⟨esl, eino, enm⟩ [.int .i64 esl, .int .i64 eino, .string enm] (fun _ => True) (fun _ => False) rfl rfl rfl (fun _ hk => hk.elim) (fun _ _ => trivial) DR.out (Below.refl _ _) DN.out (by have := LE.out; omega) ?_; intro v9 w9 ho9 hb9 hg9 hat9; have HG9 := Aside0.mk hg9; have R9 := Aside0.mk ho9; have hob : ∀ b, vl.ownBlock = some b → wL.heap.size ≤ b ∧ ∃ o : Obj, w6.heap[b]? = some o ∧ o.isCells = true := (fun b e => by have h_ := (Kd.R_bound DR.out).1 b e; obtain ⟨q, _, cells, hc⟩ := h_.2.2.2; exact ⟨h_.2.1, _, hc, rfl⟩); have HOB := Aside0.mk hob; have E1 : Aside0 (w9.heap[w.heap.size]? = some (.cells #[vl] 68 (0, 0))) := ⟨(hg9.block _ (Array.getElem?_eq_some_iff.1 D1.out).1 (fun e => by have h_ := (hob _ e.symm).1; have := HSZ.out; omega)).trans D1.out⟩; have E2 : Aside0 (w9.heap[w.heap.size + 1]? = some (.cells #[.slice none 0 0] 50 (0, 0))) := ⟨(hg9.block _ (Array.getElem?_eq_some_iff.1 D2.out).1 (fun e => by have h_ := (hob _ e.symm).1; have := HSZ.out; omega)).trans D2.out⟩; have E3 : Aside0 (w9.heap[w.heap.size + 1 + 1]? = some (.cells #[.int .i64 s] 3 (0, 0))) := ⟨(hg9.block _ (Array.getElem?_eq_some_iff.1 D3.out).1 (fun e => by have h_ := (hob _ e.symm).1; have := HSZ.out; omega)).trans D3.out⟩; have c9 : w9.cell? ⟨w.heap.size, 0, none⟩ = some vl := (blk_cell E1.out 0).trans rfl; have f9 := blk_frozen E1.out 0; obtain ⟨A9, n9, q9, hv9⟩ : ∃ A n c, v9 = .slice A n c := (by obtain ⟨A, c, h⟩ := Kd.R_slice R9.out; exact ⟨_, _, _, h⟩); subst hv9; clear ho9 hb9 hg9 hat9 hob c0 c3 t0 t1 t2))
      have k9 : (w9.setCell ⟨w.heap.size, 0, none⟩ (.slice A9 n9 q9)).cell? ⟨w.heap.size + 1 + 1, 0, none⟩ = some (.int .i64 s) := by
        have h_ : w9.cell? ⟨w.heap.size + 1 + 1, 0, none⟩ = some (.int .i64 s) := (blk_cell E3.out 0).trans rfl
        rw [← h_]; exact World.cell?_setCell_far _ _ _ _ (by simp; omega)
      have f9b : w9.frozen? ⟨w.heap.size + 1 + 1, 0, none⟩ = false := blk_frozen E3.out 0
      have hs9 : 4 * k + ((pre ++ [x]).length : Int) = s + 1 := by have := HS.out; simp; omega
      refine wpIn_reg rfl (by rintro ⟨_, _, h⟩; exact h) ?_
      go_wp2
      have hsz := HSZ.out
      have hbs : ∀ b, vl.ownBlock = some b → w.heap.size + 5 ≤ b := fun b e => by have := (HOB.out b e).1; omega
      refine ⟨((DK.out.trans (KeepsOthers.of_grownBy HG9.out (fun j o e h => by obtain ⟨_, o', h1, h2⟩ := HOB.out j e; rw [h1] at h; cases h; exact h2))).trans (KeepsOthers.setCell _ _ _)).trans (KeepsOthers.setCell _ _ _), ⟨?_, ?_⟩, .slice A9 n9 q9, ?_, ?_, ?_, ?_, ?_, ?_⟩
      · exact (Below.heap_setCell _ ⟨w.heap.size + 1 + 1, 0, none⟩ _ _ (show w.heap.size + 3 ≠ w.heap.size + 1 + 1 by omega)).trans ((Below.heap_setCell _ ⟨w.heap.size, 0, none⟩ _ _ (show w.heap.size + 3 ≠ w.heap.size by omega)).trans ((HG9.out.block _ (by have := DN.out; omega) (fun e => by have := hbs _ e.symm; omega)).trans D2K.out.1))
      · exact (Below.heap_setCell _ ⟨w.heap.size + 1 + 1, 0, none⟩ _ _ (show w.heap.size + 4 ≠ w.heap.size + 1 + 1 by omega)).trans ((Below.heap_setCell _ ⟨w.heap.size, 0, none⟩ _ _ (show w.heap.size + 4 ≠ w.heap.size by omega)).trans ((HG9.out.block _ (by have := DN.out; omega) (fun e => by have := hbs _ e.symm; omega)).trans D2K.out.2))
      · exact blk_far (blk_set E1.out 0 _) (by first | (simp; done) | (simp; omega)) _
      · exact blk_far (blk_far E2.out (by first | (simp; done) | (simp; omega)) _) (by first | (simp; done) | (simp; omega)) _
      · rw [hs9]; exact blk_set (blk_far E3.out (by first | (simp; done) | (simp; omega)) _) 0 _
      · rw [EN.out, if_pos (by trivial)]; exact Kd.R_farLow (Kd.R_farLow R9.out (by show w.heap.size < wL.heap.size; omega) _) (by show w.heap.size + 1 + 1 < wL.heap.size; omega) _
      · exact below_set (below_set (DH.out.grown HG9.out DH.out.size (fun k e => by have := hbs k e; omega)) (by first | exact Nat.le_refl _ | omega)) (by first | omega | (simp; omega))
      · have := HG9.out.size; have := DN.out; simp [World.setCell]; omega
    | false =>
      have hs9 : 4 * k + ((pre ++ [x]).length : Int) = s + 1 := by have := HS.out; simp; omega
      refine wpIn_seq ?_
      refine wpIn_block ?_
      refine wpIn_seq ?_
      refine wpIn_reg rfl (by rintro ⟨_, _, h⟩; exact h) ?_
      go_wp2
      refine wpIn_cond_false rfl ?_
      refine wpIn_seq ?_
      refine wpIn_reg rfl (by rintro ⟨_, _, h⟩; exact h) ?_
      go_wp2
      refine wpIn_cond_false rfl ?_
      refine wpIn_skip ?_
      simp only [Exit.inBlock, Exit.then]
      have fz : w6.frozen? ⟨w.heap.size + 1 + 1, 0, none⟩ = false := blk_frozen D3.out 0
      refine wpIn_reg rfl (by rintro ⟨_, _, h⟩; exact h) ?_
      go_wp2
      have hsz := HSZ.out
      refine ⟨DK.out.trans (KeepsOthers.setCell _ _ _), ⟨?_, ?_⟩, vl, ?_, ?_, ?_, ?_, ?_, ?_⟩
      · exact (Below.heap_setCell _ ⟨w.heap.size + 1 + 1, 0, none⟩ _ _ (show w.heap.size + 3 ≠ w.heap.size + 1 + 1 by omega)).trans D2K.out.1
      · exact (Below.heap_setCell _ ⟨w.heap.size + 1 + 1, 0, none⟩ _ _ (show w.heap.size + 4 ≠ w.heap.size + 1 + 1 by omega)).trans D2K.out.2
      · exact blk_far D1.out (by first | (simp; done) | (simp; omega)) _
      · exact blk_far D2.out (by first | (simp; done) | (simp; omega)) _
      · rw [hs9]; exact blk_set D3.out 0 _
      · rw [EN.out, if_neg (by simp), List.append_nil]; exact Kd.R_farLow DR.out (by show w.heap.size + 1 + 1 < wL.heap.size; omega) _
      · exact below_set DH.out (by first | omega | (simp; omega))
      · have := DN.out; simp [World.setCell]; omega
end Go.Proofs.Ytdknolnoimpgeaa.K
namespace Go.Proofs.Ytdknolnoimpgeaa.K
open Go.RowKit Go.Shelf Go.Lib Go.Proofs.YtdknolnoimpgeaaW.PrintWords Go.Proofs.YtdknolnoimpgeaaW.PrintLast Go.Proofs.YtdknolnoimpgeaaW.PrintMore
set_option linter.unusedVariables false
set_option linter.unusedSimpArgs false
theorem idxP_nnE {α : Type} {p : α → Bool} {l : List α} {x : α} (hx : x ∈ l) (hp : p x = true) : 0 ≤ idxP p l := by
  unfold idxP
  cases h : l.findIdx? p with
  | some i => simp
  | none => rw [List.findIdx?_eq_none_iff] at h; have := h x hx; rw [hp] at this; cases this
theorem toList_beq (a b : ByteArray) : (a.toList == b.toList) = decide (a = b) := by
  rw [Bool.eq_iff_iff, beq_iff_eq, decide_eq_true_eq, ByteArray.toList_eq, ByteArray.toList_eq]
  constructor
  · intro h
    obtain ⟨⟨la⟩⟩ := a
    obtain ⟨⟨lb⟩⟩ := b
    simp only at h
    rw [h]
  · intro h; rw [h]
theorem eqEnt (w : World) (x0 x1 y0 y1 : Int) (x2 y2 : ByteArray) : (Op.equalIn 10000 62 (.agg #[.int .i64 x0, .int .i64 x1, .string x2]) (.agg #[.int .i64 y0, .int .i64 y1, .string y2])).run Try.prog w = .ok (x0 == y0 && (x1 == y1 && decide (x2 = y2))) w := by
  refine eqA_of (d := 9999) Try.underlying62 (by kernel_rfl) ?_
  refine eqf_cons (by rfl) (by go_simp; rfl) (by go_simp; rfl) (by go_simp) ?_
  refine eqf_cons (by rfl) (by go_simp; rfl) (by go_simp; rfl) (by go_simp) ?_
  exact eqf_last (by rfl) (by go_simp; rfl) (by go_simp; rfl) (by go_simp; exact toList_beq _ _)
theorem eqEnt_t (w : World) (x : Ent) : (Op.equalIn 10000 62 (.agg #[.int .i64 x.sl, .int .i64 x.ino, .string x.nm]) (.agg #[.int .i64 x.sl, .int .i64 x.ino, .string x.nm])).run Try.prog w = .ok true w := by
  rw [eqEnt]; simp
theorem eqEnt_f (w : World) {x y : Ent} (h : ¬ x = y) : (Op.equalIn 10000 62 (.agg #[.int .i64 x.sl, .int .i64 x.ino, .string x.nm]) (.agg #[.int .i64 y.sl, .int .i64 y.ino, .string y.nm])).run Try.prog w = .ok false w := by
  rw [eqEnt]
  congr 1
  cases hb : (x.sl == y.sl && (x.ino == y.ino && decide (x.nm = y.nm))) with
  | false => rfl
  | true =>
    exfalso
    simp only [Bool.and_eq_true, beq_iff_eq, decide_eq_true_eq] at hb
    obtain ⟨h0, h1, h2⟩ := hb
    obtain ⟨a, b, c⟩ := x
    obtain ⟨a', b', c'⟩ := y
    simp only at h0 h1 h2
    exact h (by rw [h0, h1, h2])
theorem Ent.one' {x : Ent} : ∀ u ∈ x.enc, u.oneCell' = true := Ent.one x
set_option maxRecDepth 100000 in
theorem eqEn_walk (A1 : Option Addr) (c1 : Nat) (a : List Ent) (A2 : Option Addr) (c2 : Nat) (b : List Ent) (w : World) (h1 : Kd.C kEnt w A1 a.length a) (h2 : Kd.C kEnt w A2 b.length b) (ha : a.length < 140737488355328) :
    Calls Try.prog 67 #[.slice A1 a.length c1, .slice A2 b.length c2] w fun e w' => e = .returned (.bool (decide (a = b))) ∧ Drawn0 w w' := by
  have HA := Aside0.mk h1
  have HB := Aside0.mk h2
  clear h1 h2
  by_cases hl : a.length = b.length
  case neg =>
    have E0 : Aside0 (decide (a = b) = false) := ⟨by simp; intro h; exact hl (by rw [h])⟩
    have hb : ((a.length : Int) != b.length) = true := by simp; omega
    clear hl
    go_enter Try.func67, Try.ntmps67
    go_wp2
    go_ret
    exact ⟨ret_b (by rw [E0.out]), Drawn0.refl _⟩
  obtain ⟨n, hn⟩ : ∃ n, a.length = n := ⟨_, rfl⟩
  have hnb : b.length = n := by omega
  rw [hn] at HA ha ⊢
  rw [hnb] at HB ⊢
  have HN := Aside0.mk hn
  have HNb := Aside0.mk hnb
  clear hl hn hnb
  go_enter Try.func67, Try.ntmps67
  go_wp2
  go_loopw [13] (fun v5 w' => ∃ m : Nat, v5 = .int .i64 m ∧ Aside0 (m ≤ n) ∧ Aside0 (a.take m = b.take m) ∧ Aside0 (∃ d, w' = w.drewN d)) (fun i _ => n - (intOf i).toNat)
  case atStart => exact ⟨0, rfl, ⟨Nat.zero_le _⟩, ⟨rfl⟩, ⟨0, rfl⟩⟩
  case round =>
    obtain ⟨m, rfl, hm, ht, ⟨d, rfl⟩⟩ := hrel
    have hm' := hm.out
    by_cases hlt : m < n
    · have la := HN.out
      have lb := HNb.out
      obtain ⟨ad1, rfl, hx, hxs⟩ := Kd.at_flatA HA.out (show m < a.length by omega)
      obtain ⟨ad2, rfl, hy, hys⟩ := Kd.at_flatA HB.out (show m < b.length by omega)
      have hta : a.take (m + 1) = a.take m ++ [a[m]] := List.take_succ_eq_append_getElem (by omega)
      have htb : b.take (m + 1) = b.take m ++ [b[m]] := List.take_succ_eq_append_getElem (by omega)
      obtain ⟨x, hxx⟩ : ∃ x, x = a[m] := ⟨_, rfl⟩
      obtain ⟨y, hyy⟩ : ∃ y, y = b[m] := ⟨_, rfl⟩
      rw [← hxx] at hx hxs hta
      rw [← hyy] at hy hys htb
      have x0 := hx _ rfl
      have x1 := hxs 0 _ rfl
      have x2 := hxs 1 _ rfl
      simp only [Nat.reduceAdd] at x1 x2
      have y0 := hy _ rfl
      have y1 := hys 0 _ rfl
      have y2 := hys 1 _ rfl
      simp only [Nat.reduceAdd] at y1 y2
      by_cases hxy : x = y
      · have hT : Aside0 (a.take (m + 1) = b.take (m + 1)) := ⟨by rw [hta, htb, ht.out, hxy]⟩
        clear hta htb hxx hyy la lb hx hxs hy hys
        subst hxy
        have q := fun w => eqEnt_t w x
        go_wp2
        go_quiet (fail)
        go_wp2
        exact ⟨⟨m + 1, rfl, ⟨by omega⟩, hT, ⟨_, rfl⟩⟩, by simp [intOf]; omega⟩
      · have hT : Aside0 (decide (a = b) = false) := ⟨by simp; intro h; subst h; exact hxy (hxx.trans hyy.symm)⟩
        have q := fun w => eqEnt_f w hxy
        clear hta htb hxx hyy la lb hxy hx hxs hy hys
        go_wp2
        go_quiet (fail)
        go_wp2
        go_ret
        exact ⟨ret_b (by rw [hT.out]), (by repeat (first | exact Drawn0.refl _ | apply Drawn0.step))⟩
    · have hkm : m = n := by omega
      subst hkm
      have E1 : Aside0 (decide (a = b) = true) := ⟨by have := ht.out; rw [List.take_of_length_le (by have := HN.out; omega), List.take_of_length_le (by have := HNb.out; omega)] at this; simp [this]⟩
      go_wp2
      go_ret
      exact ⟨ret_b (by rw [E1.out]), ⟨⟨_, rfl⟩⟩⟩
/-- What stays of the first j. -/
def keptF {α : Type} (p : α → Bool) (l : List α) (j : Nat) : List α := (l.take j).filter (fun x => !p x)
theorem keptF_le {α : Type} (p : α → Bool) (l : List α) (j : Nat) : (keptF p l j).length ≤ j := by
  have h1 := List.length_filter_le (fun x => !p x) (l.take j)
  have h2 := List.length_take_le j l
  unfold keptF; omega
theorem keptF_succ {α : Type} {p : α → Bool} {l : List α} {j : Nat} (h : j < l.length) : keptF p l (j + 1) = if p l[j] = true then keptF p l j else keptF p l j ++ [l[j]] := by
  unfold keptF
  rw [List.take_succ_eq_append_getElem h, List.filter_append]
  cases hb : p l[j] <;> simp [hb]
set_option maxHeartbeats 4000000 in
set_option maxRecDepth 100000 in
theorem delEn_walk (g c : Nat) (cs : Array Value) (L : List Ent) (p : Ent → Bool) (f : Nat) (lb : Array Value) (w : World) (bk : w.heap[g]? = some (.cells cs 62 (0, 0))) (hcs : cs.toList.take (L.length * 3) = L.flatMap Ent.enc) (hsz : L.length * 3 ≤ cs.size) (hc : L.length ≤ c) (hL : L.length ≤ 1000000)
    (eg : ∀ args w, (callFunc f args).run Try.prog w = .ok (.enter f args) w) (hp : ∀ W x, w.grownBy W (some g) → Calls Try.prog f (#[.agg #[.int .i64 x.sl, .int .i64 x.ino, .string x.nm]] ++ lb) W fun e w' => e = .returned (.bool (p x)) ∧ Below W.heap.size W w') :
    Calls Try.prog 64 #[.slice (some ⟨g, 0, none⟩) L.length c, .func (.func f) #[] lb] w fun e w' => e = .returned (.slice (some ⟨g, 0, none⟩) (L.filter (fun x => !p x)).length c) ∧ ∃ cs', w'.heap[g]? = some (.cells cs' 62 (0, 0)) ∧ cs'.size = cs.size ∧ cs'.toList.take ((L.filter (fun x => !p x)).length * 3) = (L.filter (fun x => !p x)).flatMap Ent.enc ∧ w.grownBy w' (some g) := by
  have WI := Aside0.mk (idxEn_walk (some ⟨g, 0, none⟩) c L p f lb w (Kd.C_blk bk hcs (by omega)) (by omega) eg (fun W x hb => hp W x (grown_of_below hb _)))
  have HP := Aside0.mk hp
  have BK := Aside0.mk bk
  have HCS := Aside0.mk hcs
  have HSZ := Aside0.mk hsz
  clear bk hcs hsz hp
  rcases hd : L.findIdx? p with _ | i0
  · have hall : ∀ x ∈ L, p x = false := by rwa [List.findIdx?_eq_none_iff] at hd
    have E0 : Aside0 (L.filter (fun x => !p x) = L) := ⟨List.filter_eq_self.2 (fun x hx => by simp [hall x hx])⟩
    have hi : idxP p L = -1 := by unfold idxP; rw [hd]
    rw [hi] at WI
    clear hd hall hi
    go_enter Try.func64, Try.ntmps64
    go_wp2_with (go_at_call 116; (with_reducible refine WI.out.mono ?_); rintro e w1 ⟨rfl, hb⟩; have HG := Aside0.mk (grown_of_below hb (some g)); have n_ := Aside0.mk (blk_below BK.out hb); clear BK; have BK := n_; clear n_ hb)
    go_ret
    exact ⟨by rw [E0.out]; rfl, cs, BK.out, rfl, by rw [E0.out]; exact HCS.out, HG.out⟩
  obtain ⟨hi0, hpi, hbefore⟩ := List.findIdx?_eq_some_iff_getElem.1 hd
  have hi : idxP p L = i0 := by unfold idxP; rw [hd]
  have K0 : keptF p L (i0 + 1) = L.take i0 := by
    rw [keptF_succ hi0, if_pos hpi]
    unfold keptF
    refine List.filter_eq_self.2 fun x hx => ?_
    obtain ⟨j, hj, rfl⟩ := List.getElem_of_mem hx
    have hj' : j < i0 := by rw [List.length_take] at hj; omega
    rw [List.getElem_take]
    have := hbefore j hj'
    simpa using this
  have K0L : (keptF p L (i0 + 1)).length = i0 := by rw [K0, List.length_take]; omega
  have S0 : Aside0 ((keptF p L (i0 + 1) ++ L.drop (keptF p L (i0 + 1)).length) = L) := ⟨by rw [K0L, K0, List.take_append_drop]⟩
  have K0A := Aside0.mk K0L
  have hneg : ((i0 : Int) == -1) = false := by first | (simp; done) | (simp; omega)
  rw [hi] at WI
  clear hd hpi hbefore hi K0 K0L
  obtain ⟨inf, hinf, hinz⟩ := Option.map_eq_some_iff.1 entinfo
  simp only [Prod.mk.injEq] at hinz
  have hcf : ∀ (m : Nat), m < L.length → ∀ W : World, (Instr.slice 68 (.slice (some ⟨g, 0, none⟩) L.length c) (some (.int .i64 m)) none none).run Try.prog W = .ok (.slice (some ⟨g, m * 3, none⟩) (L.length - m) (c - m)) W := fun m hm W => by
    have h := cut_from (P := Try.prog) 68 62 .i64 Try.underlying68 hinf 3 hinz.2.1 (some ⟨g, 0, none⟩) L.length c (m : Int) (by omega) (by omega) W
    rw [Int.toNat_natCast, if_neg (by omega)] at h
    rw [h, Option.map_some, add_plain]
  have hct : ∀ (m : Nat), m ≤ L.length → ∀ W : World, (Instr.slice 68 (.slice (some ⟨g, 0, none⟩) L.length c) none (some (.int .i64 m)) none).run Try.prog W = .ok (.slice (some ⟨g, 0, none⟩) m c) W := fun m hm W => by
    have h := cut_to (P := Try.prog) 68 62 .i64 Try.underlying68 hinf (some ⟨g, 0, none⟩) L.length c (m : Int) (by omega) (by omega) hc W
    rw [Int.toNat_natCast] at h
    exact h
  have HCF := Aside0.mk hcf
  have HCT := Aside0.mk hct
  clear hcf hct hinf hinz
  go_enter Try.func64, Try.ntmps64
  go_wp2_with (go_at_call 116; (with_reducible refine WI.out.mono ?_); rintro e w1 ⟨rfl, hb⟩; have HG := Aside0.mk (grown_of_below hb (some g)); have n_ := Aside0.mk (blk_below BK.out hb); clear BK; have BK := n_; clear n_ hb)
  go_loopw [5, 6] (fun v5 v6 w' => ∃ j k : Nat, ∃ cs' : Array Value, v6 = .int .i64 j ∧ v5 = .int .i64 k ∧ Aside0 (k = (keptF p L j).length) ∧ Aside0 (i0 + 1 ≤ j ∧ j ≤ L.length ∧ k < j) ∧ Aside0 (w'.heap[g]? = some (.cells cs' 62 (0, 0))) ∧ Aside0 (cs'.size = cs.size) ∧ Aside0 (cs'.toList.take (L.length * 3) = (keptF p L j ++ L.drop (keptF p L j).length).flatMap Ent.enc) ∧ Aside0 (w.grownBy w' (some g))) (fun _ i _ => L.length - (intOf i).toNat)
  case atStart => exact ⟨i0 + 1, i0, cs, rfl, rfl, ⟨K0A.out.symm⟩, ⟨by omega, by omega, by omega⟩, BK, ⟨rfl⟩, ⟨by rw [S0.out]; exact HCS.out⟩, HG⟩
  case round =>
    clear BK HG
    obtain ⟨j, k, cs1, rfl, rfl, hk, hj, BK, HS1, HC1, HG⟩ := hrel
    have hj1 := hj.out.1
    have hj2 := hj.out.2.1
    have hj3 := hj.out.2.2
    by_cases hlt : j < L.length
    · have hgl : g < wr.heap.size := blk_lt BK.out
      have KS := keptF_succ (p := p) hlt
      have hkl : Aside0 ((keptF p L j).length ≤ j) := ⟨keptF_le p L j⟩
      obtain ⟨x, hxx⟩ : ∃ x, x = L[j] := ⟨_, rfl⟩
      have HXX := Aside0.mk hxx
      have HCE : Aside0 (∀ i u, i < 3 → (Ent.enc x)[i]? = some u → cs1[j * 3 + i]? = some u) := ⟨fun i u hin hu => by
        have hlen : (keptF p L j ++ L.drop (keptF p L j).length).length = L.length := by
          have := hk.out
          rw [List.length_append, List.length_drop]; omega
        have hget : (keptF p L j ++ L.drop (keptF p L j).length)[j]'(by omega) = L[j] := by
          rw [List.getElem_append_right hkl.out, List.getElem_drop]
          congr 1
          have := hkl.out
          omega
        have h1 := flat_get (n := 3) (enc := Ent.enc) (fun _ => rfl) (keptF p L j ++ L.drop (keptF p L j).length) (j := j) (i := i) (by omega) hin
        rw [← HC1.out, hget, ← HXX.out, hu, List.getElem?_take_of_lt (by omega), Array.getElem?_toList] at h1
        exact h1⟩
      rw [← hxx] at KS
      have x0 : wr.cell? ⟨g, j * 3, none⟩ = some (.int .i64 x.sl) := by rw [blk_cell BK.out]; exact HCE.out 0 _ (by omega) rfl
      have x1 : wr.cell? ⟨g, j * 3 + 1, none⟩ = some (.int .i64 x.ino) := by rw [blk_cell BK.out]; exact HCE.out 1 _ (by omega) rfl
      have x2 : wr.cell? ⟨g, j * 3 + 2, none⟩ = some (.string x.nm) := by rw [blk_cell BK.out]; exact HCE.out 2 _ (by omega) rfl
      have WX := Aside0.mk (fun W (h : w.grownBy W (some g)) => HP.out W x h)
      clear hxx
      cases hq : p x with
      | true =>
        rw [hq] at WX KS
        have KSA := Aside0.mk KS
        have WXA := Aside0.mk (WX.out (wr.alloc (.cells #[.int .i64 x.sl, .int .i64 x.ino, .string x.nm] 62)) (by have h_ := HG.out; exact ⟨h_.os, h_.tape, h_.output, Nat.le_trans h_.size (by simp), fun q hq hne => (Below.heap_alloc wr _ q (Nat.lt_of_lt_of_le hq h_.size)).trans (h_.block q hq hne)⟩))
        clear KS hq WX
        go_wp2_with (go_at_fn f; (with_reducible refine WXA.out.mono ?_); rintro e w5 ⟨rfl, hb⟩; have n_ := Aside0.mk (blk_below (blk_alloc BK.out _) hb); clear BK; have BK := n_; clear n_; have n_ : Aside0 (w.grownBy w5 (some g)) := ⟨by have h_ := HG.out; have hb2 := below_step (below_alloc (Below.refl wr.heap.size wr) _) hb; exact ⟨hb2.os.trans h_.os, hb2.tape.trans h_.tape, hb2.output.trans h_.output, Nat.le_trans h_.size hb2.size, fun q hq hne => (hb2.block q (Nat.lt_of_lt_of_le hq h_.size)).trans (h_.block q hq hne)⟩⟩; clear HG hb; have HG := n_; clear n_)
        have E1 : Aside0 (keptF p L (j + 1) = keptF p L j) := ⟨by rw [KSA.out]; simp⟩
        exact ⟨⟨j + 1, k, cs1, rfl, rfl, ⟨by rw [E1.out]; exact hk.out⟩, ⟨by omega, by omega, by omega⟩, BK, HS1, ⟨by rw [E1.out]; exact HC1.out⟩, HG⟩, by simp [intOf]; omega⟩
      | false =>
        rw [hq] at WX KS
        have KSA := Aside0.mk KS
        have WXA := Aside0.mk (WX.out (wr.alloc (.cells #[.int .i64 x.sl, .int .i64 x.ino, .string x.nm] 62)) (by have h_ := HG.out; exact ⟨h_.os, h_.tape, h_.output, Nat.le_trans h_.size (by simp), fun q hq hne => (Below.heap_alloc wr _ q (Nat.lt_of_lt_of_le hq h_.size)).trans (h_.block q hq hne)⟩))
        clear KS hq WX
        go_wp2_with (first | (go_at_fn f; (with_reducible refine WXA.out.mono ?_); rintro e w5 ⟨rfl, hb⟩; have n_ := Aside0.mk (blk_below (blk_alloc BK.out _) hb); clear BK; have BK := n_; clear n_; have BT := blk_below (heap_alloc_new wr _) hb; have n_ : Aside0 (w.grownBy w5 (some g)) := ⟨by have h_ := HG.out; have hb2 := below_step (below_alloc (Below.refl wr.heap.size wr) _) hb; exact ⟨hb2.os.trans h_.os, hb2.tape.trans h_.tape, hb2.output.trans h_.output, Nat.le_trans h_.size hb2.size, fun q hq hne => (hb2.block q (Nat.lt_of_lt_of_le hq h_.size)).trans (h_.block q hq hne)⟩⟩; clear HG hb; have HG := n_; clear n_; have t0 : w5.cell? ⟨wr.heap.size, 0, none⟩ = some (.int .i64 x.sl) := (blk_cell BT 0).trans rfl; have t1 : w5.cell? ⟨wr.heap.size, 1, none⟩ = some (.int .i64 x.ino) := (blk_cell BT 1).trans rfl; have t2 : w5.cell? ⟨wr.heap.size, 2, none⟩ = some (.string x.nm) := (blk_cell BT 2).trans rfl; clear BT) | ((with_reducible refine gate_store (p := 33) rfl ?_); go_loud (refine wpList_store_midL rfl rfl 62 (.tmp 33) (.tmp 32) rfl g (k * 3) (Ent.enc x) rfl rfl (by kernel_rfl) Ent.one' BK.out (show k * 3 + 3 ≤ cs1.size by have := HSZ.out; have := HS1.out; omega) ?_; intro w9 cs9 bk9 hs9 hc9 hg9)))
        have E1 : Aside0 (keptF p L (j + 1) = keptF p L j ++ [x]) := ⟨by rw [KSA.out]; simp⟩
        have hC9 : cs9.toList.take (L.length * 3) = (keptF p L (j + 1) ++ L.drop (keptF p L (j + 1)).length).flatMap Ent.enc := by
          have hl9 := lay_take (vs := Ent.enc x) HC1.out (show k * 3 + 3 ≤ L.length * 3 by omega) (by have h1_ := HSZ.out; have h2_ := HS1.out; have h3_ := Array.length_toList (xs := cs1); omega)
          have e1 : (Ent.enc x).length = 3 := rfl
          rw [hc9]
          rw [hl9, e1, show k * 3 + 3 = (k + 1) * 3 by omega, flat_take (n := 3) (enc := Ent.enc) (fun _ => rfl), flat_drop (n := 3) (enc := Ent.enc) (fun _ => rfl), E1.out]
          have hkk := hk.out
          rw [List.take_append_of_le_length (by omega), List.take_of_length_le (by omega), List.drop_append, List.drop_eq_nil_of_le (by omega), List.nil_append, List.drop_drop]
          simp only [List.flatMap_append, List.flatMap_cons, List.flatMap_nil, List.append_nil, List.length_append, List.length_cons, List.length_nil]
          congr 3
          omega
        exact ⟨⟨j + 1, k + 1, cs9, rfl, rfl, ⟨by rw [E1.out, List.length_append, ← hk.out]; rfl⟩, ⟨by omega, by omega, by omega⟩, ⟨bk9⟩, ⟨by rw [hs9]; exact HS1.out⟩, ⟨hC9⟩, ⟨by have h_ := HG.out; exact ⟨hg9.os.trans h_.os, hg9.tape.trans h_.tape, hg9.output.trans h_.output, Nat.le_trans h_.size hg9.size, fun q hq hne => (hg9.block q (Nat.lt_of_lt_of_le hq h_.size) hne).trans (h_.block q hq hne)⟩⟩⟩, by simp [intOf]; omega⟩
    · have hge : L.length ≤ j := by omega
      have EK : Aside0 (L.filter (fun x => !p x) = keptF p L j) := ⟨by unfold keptF; rw [List.take_of_length_le hge]⟩
      have h1 := HCF.out k (by omega)
      have h2 := HCT.out k (by omega)
      clear hlt
      go_wp2_with ((with_reducible refine gate_builtin (b := .clear) (xs := #[.tmp 38]) rfl ?_); go_loud (refine wpList_clearL rfl rfl 68 62 (.tmp 38) rfl Try.underlying68 (z := .agg #[.int .i64 0, .int .i64 0, .string ByteArray.empty]) (sz := 3) (by kernel_rfl) rfl (by simp [Value.cells, Value.oneCell']) (by omega) g (k * 3) (L.length - k) (c - k) rfl BK.out (by have := HSZ.out; have := HS1.out; omega) ?_; intro w9 cs9 bk9 hs9 ht9 hd9 hz9 hg9))
      go_ret
      refine ⟨by rw [EK.out, ← hk.out]; rfl, cs9, bk9, hs9.trans HS1.out, ?_, ?_⟩
      · rw [EK.out, ← hk.out, ht9]
        have e2 := congrArg (List.take (k * 3)) HC1.out
        rw [List.take_take, Nat.min_eq_left (by omega), flat_take (n := 3) (enc := Ent.enc) (fun _ => rfl), List.take_append_of_le_length (by rw [← hk.out]; omega)] at e2
        rw [e2, List.take_of_length_le (l := keptF p L j) (by rw [← hk.out]; omega)]
      · have h_ := HG.out; exact ⟨hg9.os.trans h_.os, hg9.tape.trans h_.tape, hg9.output.trans h_.output, Nat.le_trans h_.size hg9.size, fun q hq hne => (hg9.block q (Nat.lt_of_lt_of_le hq h_.size) hne).trans (h_.block q hq hne)⟩
set_option maxRecDepth 100000 in
theorem idxEe_walk (A : Option Addr) (c : Nat) (l : List Ent) (f : Ent) (w0 : World) (hr : Kd.C kEnt w0 A l.length l) (hl : l.length ≤ 9223372036854775807) :
    Calls Try.prog 119 #[.slice A l.length c, .agg #[.int .i64 f.sl, .int .i64 f.ino, .string f.nm]] w0 fun e w' => e = .returned (.int .i64 (idxP (fun y => decide (f = y)) l)) ∧ Below w0.heap.size w0 w' := by
  have HR0 := Aside0.mk hr
  clear hr
  go_enter Try.func119, Try.ntmps119
  go_wp2
  obtain ⟨w, hw⟩ : ∃ w, w = w0.alloc (.cells #[.int .i64 f.sl, .int .i64 f.ino, .string f.nm] 62) := ⟨_, rfl⟩
  refine go_on8 ?_
  rw [← hw]
  have HW := Aside0.mk hw
  have HB := Aside0.mk (Below.refl w.heap.size w)
  have k0 : w.cell? ⟨w0.heap.size, 0, none⟩ = some (.int .i64 f.sl) := by rw [hw]; go_simp
  have k1 : w.cell? ⟨w0.heap.size, 1, none⟩ = some (.int .i64 f.ino) := by rw [hw]; go_simp
  have k2 : w.cell? ⟨w0.heap.size, 2, none⟩ = some (.string f.nm) := by rw [hw]; go_simp
  have hlt0 : w0.heap.size < w.heap.size := by rw [hw]; simp
  clear hw
  have HR : Aside0 (Kd.C kEnt w A l.length l) := ⟨by rw [HW.out]; exact Kd.C_alloc HR0.out _⟩
  have HE : Aside0 (∀ d, Below w0.heap.size w0 (w.drewN d)) := ⟨fun d => by rw [HW.out]; exact pw_below_drewN (below_alloc (Below.refl _ _) _) _⟩
  clear HR0 HB
  go_wp2
  go_loopw [5, 8] (fun v5 v8 w' => ∃ m : Nat, v8 = .int .i64 m ∧ Aside0 (m ≤ l.length) ∧ Aside0 (∀ j (hj : j < l.length), j < m → decide (f = l[j]) = false) ∧ Aside0 (∃ d, w' = w.drewN d)) (fun _ i _ => l.length - (intOf i).toNat)
  case atStart => exact ⟨0, rfl, ⟨Nat.zero_le _⟩, ⟨fun j hj h => absurd h (by omega)⟩, ⟨0, rfl⟩⟩
  case round =>
    obtain ⟨m, rfl, hm, hall, ⟨d, rfl⟩⟩ := hrel
    have hm' := hm.out
    by_cases hlt : m < l.length
    · obtain ⟨ad, rfl, hx, hxs⟩ := Kd.at_flatA HR.out hlt
      obtain ⟨x, hxx⟩ : ∃ x, x = l[m] := ⟨_, rfl⟩
      rw [← hxx] at hx hxs
      have x0 := hx _ rfl
      have x1 := hxs 0 _ rfl
      have x2 := hxs 1 _ rfl
      simp only [Nat.reduceAdd] at x1 x2
      have HXX := Aside0.mk hxx
      clear hx hxs hxx
      by_cases hxy : f = x
      · have E0 : Aside0 (idxP (fun y => decide (f = y)) l = m) := ⟨idxP_hit hlt (by rw [← HXX.out]; simpa using hxy) fun j hj => hall.out j (by omega) hj⟩
        subst hxy
        have q := fun w => eqEnt_t w f
        go_wp2
        go_quiet (fail)
        go_wp2
        go_ret
        exact ⟨by rw [E0.out]; rfl, by first | exact HE.out _ | exact pw_below_drewN (HE.out _) _⟩
      · have HA : Aside0 (∀ j (hj : j < l.length), j < m + 1 → decide (f = l[j]) = false) := ⟨fun j hj h => by
          by_cases hjm : j = m
          · subst hjm; rw [← HXX.out]; simpa using hxy
          · exact hall.out j hj (by omega)⟩
        have q := fun w => eqEnt_f w hxy
        clear hxy
        go_wp2
        go_quiet (fail)
        go_wp2
        exact ⟨⟨m + 1, rfl, ⟨by omega⟩, HA, ⟨_, rfl⟩⟩, by simp [intOf]; omega⟩
    · have E0 : Aside0 (idxP (fun y => decide (f = y)) l = -1) := ⟨idxP_miss fun j hj => hall.out j hj (by omega)⟩
      have hge : l.length ≤ m := by omega
      clear hlt
      go_wp2
      go_ret
      exact ⟨by rw [E0.out]; rfl, by first | exact HE.out _ | exact pw_below_drewN (HE.out _) _⟩
set_option maxRecDepth 100000 in
theorem containsE_walk (A : Option Addr) (c : Nat) (l : List Ent) (f : Ent) (w : World) (hr : Kd.C kEnt w A l.length l) (hl : l.length ≤ 9223372036854775807) (hm : f ∈ l) :
    Calls Try.prog 62 #[.slice A l.length c, .agg #[.int .i64 f.sl, .int .i64 f.ino, .string f.nm]] w fun e w' => e = .returned (.bool true) ∧ Below w.heap.size w w' := by
  have WI := Aside0.mk (fun W h => idxEe_walk A c l f W h hl)
  have HR := Aside0.mk hr
  have HB := Aside0.mk (Below.refl w.heap.size w)
  have h0 : 0 ≤ idxP (fun y => decide (f = y)) l := idxP_nnE hm (by simp)
  obtain ⟨i, hi⟩ : ∃ i, i = idxP (fun y => decide (f = y)) l := ⟨_, rfl⟩
  rw [← hi] at WI h0
  clear hr hm hi
  go_enter Try.func62, Try.ntmps62
  go_wp2_with ((go_at_call 119; (with_reducible refine (WI.out _ (Kd.C_below HR.out (by repeat (first | (with_reducible first | exact HB.out | apply below_alloc | apply pw_below_drewN | apply below_drew1) | exact HB.out)))).mono ?_); rintro e w1 ⟨rfl, hb⟩; have n1_ : Aside0 (Below w.heap.size w w1) := ⟨below_step (by repeat (first | (with_reducible first | exact HB.out | apply below_alloc | apply pw_below_drewN | apply below_drew1) | exact HB.out)) hb⟩; clear HB; have HB := n1_; clear n1_; clear hb))
  go_ret
  exact ⟨by simp [h0], (by repeat (first | (with_reducible first | exact HB.out | apply below_alloc | apply pw_below_drewN | apply below_drew1) | exact HB.out))⟩
end Go.Proofs.Ytdknolnoimpgeaa.K
namespace Go.Proofs.Ytdknolnoimpgeaa.K
open Go.RowKit Go.Shelf Go.Lib Go.Proofs.YtdknolnoimpgeaaW.PrintWords Go.Proofs.YtdknolnoimpgeaaW.PrintLast Go.Proofs.YtdknolnoimpgeaaW.PrintMore
set_option linter.unusedVariables false
set_option linter.unusedSimpArgs false
set_option maxRecDepth 100000 in
theorem cloneEn_walk (A : Option Addr) (c : Nat) (l : List Ent) (w : World) (hr : Kd.C kEnt w A l.length l) (hc : l.length ≤ c) (hl : l.length ≤ 1000000) :
    Calls Try.prog 65 #[.slice A l.length c] w fun e w' => ∃ v : Value, e = .returned v ∧ Kd.R kEnt 62 w' w.heap.size (fun _ => True) v l ∧ Below w.heap.size w w' := by
  have HR := Aside0.mk hr
  have HL := Aside0.mk hl
  clear hr hc hl
  have HB := Aside0.mk (Below.refl w.heap.size w)
  cases A with
  | none =>
    have e0 := C_nil_len HR.out
    subst e0
    clear HL HR
    have heq := fun W => Lib.run_eql_slice_nil (P := Try.prog) W 68 62 none 0 c 0 0 Try.underlying68
    go_enter Try.func65, Try.ntmps65
    go_wp2
    go_ret
    exact ⟨_, rfl, Kd.R_nil _ _ _ _ _, HB.out⟩
  | some a0 =>
    have heq := fun W => Lib.run_eql_slice_nil (P := Try.prog) W 68 62 (some a0) l.length c 0 0 Try.underlying68
    go_enter Try.func65, Try.ntmps65
    go_wp2_with (first | ((with_reducible refine gate_dst (N := 5) rfl ?_); refine Kd.R_lit kEnt _ 62 ?hg (N := 5) ?hd (xs := ([] : List Ent)) (inner := []) (ok := fun _ => True) (okp := fun _ => True) ?hr ?hp (fun _ hk => hk) trivial (Below.refl _ _) (Nat.le_refl _) (by simp) ?_; (case hd => rfl); (case hg => rfl); (case hr => first | (go_simp; done) | (go_simp; rfl)); (case hp => exact (Reps.none _ _)); intro v114 w3 ho4 hb hg_ hnew_; clear hg_ hnew_; have n0_ := Aside0.mk (Kd.R_lower ho4 (below_size (by repeat (first | (with_reducible first | exact HB.out | apply below_alloc | apply pw_below_drewN | apply below_drew1) | exact HB.out)))); have n1_ := Aside0.mk (below_step (by repeat (first | (with_reducible first | exact HB.out | apply below_alloc | apply pw_below_drewN | apply below_drew1) | exact HB.out)) hb); clear HB; have HO1 := n0_; have HB := n1_; clear n0_ n1_; clear hb ho4) | ((with_reducible refine gate_builtin (b := .append) (xs := #[.tmp 5, .tmp 6]) rfl ?_); at_builtin; refine Kd.R_append_rows kEnt (w0 := w) w.heap.size rfl (.tmp 5) (.tmp 6) 68 62 (.agg #[.int .i64 0, .int .i64 0, .string ByteArray.empty]) 32 rfl Try.underlying68 entinfo rfl (by decide) (by omega) v114 [] l _ _ _ (fun _ => True) (fun _ => False) rfl rfl ?aO ?aR (fun _ _ h => h) (fun _ h => h.elim) ?aF ?aB ?aS ?aL ?_; (case aR => exact (Kd.C_below HR.out (by repeat (first | (with_reducible first | exact HB.out | apply below_alloc | apply pw_below_drewN | apply below_drew1) | exact HB.out)))); (case aB => exact (by repeat (first | (with_reducible first | exact HB.out | apply below_alloc | apply pw_below_drewN | apply below_drew1) | exact HB.out))); (case aF => exact (fun _ _ => trivial)); (case aO => exact (by (with_reducible repeat (first | apply Kd.R_alloc | apply Kd.R_drewN | apply Kd.R_drew)); exact HO1.out)); (case aS => exact (below_size (by repeat (first | (with_reducible first | exact HB.out | apply below_alloc | apply pw_below_drewN | apply below_drew1) | exact HB.out)))); (case aL => have := HL.out; simp; omega); intro v123 w11 ho hb hg hat; have n0_ := Aside0.mk (hb); have n1_ := Aside0.mk (ho); clear HB; clear HO1; have HB := n0_; have HO2 := n1_; clear n0_ n1_; clear ho hb hg hat))
    go_ret
    exact ⟨_, rfl, HO2.out, HB.out⟩
set_option maxRecDepth 100000 in
theorem back1_walk (x : Ent) (at_ : Int) (B : Nat) (W : World) (h0 : W.cell? ⟨B, 0, none⟩ = some (.int .i64 at_)) :
    Calls Try.prog 66 #[.agg #[.int .i64 x.sl, .int .i64 x.ino, .string x.nm], .pointer (some ⟨B, 0, none⟩)] W fun e w' => e = .returned (.bool (x.sl == at_)) ∧ Below W.heap.size W w' := by
  obtain ⟨sl, ino, nm⟩ := x
  have hB : B < W.heap.size := World.block_lt_of_cell? _ _ h0
  go_enter Try.func66, Try.ntmps66
  go_wp2
  go_ret
  exact ⟨by rfl, (by repeat (first | exact Below.refl _ _ | apply Below.drew | apply below_alloc))⟩
end Go.Proofs.Ytdknolnoimpgeaa.K
namespace Go.Proofs.Ytdknolnoimpgeaa.K
open Go.RowKit Go.Shelf Go.Lib Go.Proofs.YtdknolnoimpgeaaW.PrintWords Go.Proofs.YtdknolnoimpgeaaW.PrintLast Go.Proofs.YtdknolnoimpgeaaW.PrintMore
set_option linter.unusedVariables false
set_option linter.unusedSimpArgs false
set_option maxHeartbeats 4000000 in
set_option maxRecDepth 100000 in
theorem block1_walk (x : Ent) (k j : Int) (bk bj : Nat) (W : World) (hk : W.cell? ⟨bk, 0, none⟩ = some (.int .i64 k)) (hj : W.cell? ⟨bj, 0, none⟩ = some (.int .i64 j)) (k0 : 0 ≤ k) (k1 : k < 4) (j0 : 0 ≤ j) (j1 : j < 4) :
    Calls Try.prog 117 #[.agg #[.int .i64 x.sl, .int .i64 x.ino, .string x.nm], .pointer (some ⟨bk, 0, none⟩), .pointer (some ⟨bj, 0, none⟩)] W fun e w' => e = .returned (.bool (slotP (4 * k + j) x)) ∧ Below W.heap.size W w' := by
  obtain ⟨sl, ino, nm⟩ := x
  have hbk : bk < W.heap.size := World.block_lt_of_cell? _ _ hk
  have hbj : bj < W.heap.size := World.block_lt_of_cell? _ _ hj
  have HB := Aside0.mk (Below.refl W.heap.size W)
  obtain ⟨rt, hrt⟩ : ∃ rt, rt = rightE sl ino nm := ⟨_, rfl⟩
  have WR := Aside0.mk (fun W => eRight_walk sl ino nm W)
  rw [← hrt] at WR
  have E0 : Aside0 (slotP (4 * k + j) ⟨sl, ino, nm⟩ = (rt && sl == 4 * k + j)) := ⟨by simp [slotP, hrt]⟩
  clear hrt
  have w1 : RowKit.wrap64 (4 * k) = 4 * k := by unfold RowKit.wrap64; omega
  have w2 : RowKit.wrap64 (4 * k + j) = 4 * k + j := by unfold RowKit.wrap64; omega
  dsimp only
  rw [E0.out]
  cases rt with
  | false =>
    go_enter Try.func117, Try.ntmps117
    go_wp2_with (go_at_call 58; (with_reducible refine (WR.out _).mono ?_); rintro e w5 ⟨rfl, hb⟩; have HX := Aside0.mk (below_step (below_alloc HB.out _) hb); clear hb)
    go_ret
    exact ⟨by simp, HX.out⟩
  | true =>
    go_enter Try.func117, Try.ntmps117
    go_wp2_with (go_at_call 58; (with_reducible refine (WR.out _).mono ?_); rintro e w5 ⟨rfl, hb⟩; have HX := Aside0.mk (below_step (below_alloc HB.out _) hb); have C5 : Aside0 (w5.heap[W.heap.size]? = some (.cells #[.int .i64 sl, .int .i64 ino, .string nm] 62 (0, 0))) := ⟨blk_below (heap_alloc_new _ _) hb⟩; have y0_ := (blk_cell C5.out 0).trans rfl; have y1_ := pw_cell_below HX.out hk; have y2_ := pw_cell_below HX.out hj; clear hb)
    go_ret
    exact ⟨by simp, HX.out⟩
theorem u8size1 : (Try.prog.info? 5).map (·.size) = some 1 := by kernel_rfl
/-- What a block of entries is, made of the places behind each other. -/
theorem blk_step {cs cs' : Array Value} {l : List Ent} {k : Int} {m : Nat} (hm : m < 4) (h : cs.toList.take 64 = (blockN l k m ++ List.replicate (64 - 16 * m) 0).map (Value.int .u8)) (hs : 64 ≤ cs.size)
    (h' : cs'.toList = cs.toList.take (16 * m) ++ (pickE l (4 * k + m)).map (Value.int .u8) ++ cs.toList.drop (16 * m + 16)) : cs'.toList.take 64 = (blockN l k (m + 1) ++ List.replicate (64 - 16 * (m + 1)) 0).map (Value.int .u8) := by
  have hl : ((pickE l (4 * k + m)).map (Value.int .u8)).length = 16 := by rw [List.length_map, pickE_length]
  have := lay_take (vs := (pickE l (4 * k + m)).map (Value.int .u8)) (o := 16 * m) h (by rw [hl]; omega) (by rw [Array.length_toList]; exact hs)
  rw [hl] at this
  rw [h', this, List.map_append, List.take_append, List.drop_append, List.length_map, blockN_length, List.take_of_length_le (by rw [List.length_map, blockN_length]; omega), List.drop_eq_nil_of_le (by rw [List.length_map, blockN_length]; omega)]
  rw [show 16 * m - 16 * m = 0 by omega, List.take_zero, List.append_nil, List.nil_append, show 16 * m + 16 - 16 * m = 16 by omega, blockN_succ, List.map_append, List.map_append, ← List.map_drop, List.drop_replicate]
  rw [show 64 - 16 * m - 16 = 64 - 16 * (m + 1) by omega]
set_option maxHeartbeats 4000000 in
set_option maxRecDepth 100000 in
theorem block_walk (A : Option Addr) (c : Nat) (l : List Ent) (k : Int) (w : World) (hr : Kd.C kEnt w A l.length l) (hl : l.length ≤ 9223372036854775807) (k0 : 0 ≤ k) (k1 : k < 4) :
    Calls Try.prog 60 #[.slice A l.length c, .int .i64 k] w fun e w' => ∃ g c', e = .returned (.slice (some ⟨g, 0, none⟩) 64 c') ∧ w.heap.size ≤ g ∧ 64 ≤ c' ∧ Kd.C (Kd.int .u8) w' (some ⟨g, 0, none⟩) 64 (blockE l k) ∧ Below w.heap.size w w' := by
  have HR := Aside0.mk hr
  have HB := Aside0.mk (Below.refl w.heap.size w)
  have HL := Aside0.mk hl
  have eg := Aside0.mk (enters_of Try.func117 (by kernel_rfl) rfl : ∀ args w, (callFunc 117 args).run Try.prog w = .ok (.enter 117 args) w)
  have WI : Aside0 (∀ W B (m : Nat), m < 4 → Kd.C kEnt W A l.length l → W.cell? ⟨w.heap.size, 0, none⟩ = some (.int .i64 k) → W.cell? ⟨B, 0, none⟩ = some (.int .i64 m) →
      Calls Try.prog 116 #[.slice A l.length c, .func (.func 117) #[] #[.pointer (some ⟨w.heap.size, 0, none⟩), .pointer (some ⟨B, 0, none⟩)]] W fun e w' => e = .returned (.int .i64 (idxP (slotP (4 * k + m)) l)) ∧ Below W.heap.size W w') :=
    ⟨fun W B m hm h h0 h1 => idxEn_walk A c l (slotP (4 * k + m)) _ _ W h hl eg.out (fun W' x hb => block1_walk x k m _ B W' (pw_cell_below hb h0) (pw_cell_below hb h1) k0 k1 (by omega) (by omega))⟩
  have E0 : Aside0 (blockE l k = blockN l k 4) := ⟨if_pos ⟨k0, k1⟩⟩
  clear hr hl
  go_enter Try.func60, Try.ntmps60
  go_wp2_with ((with_reducible refine gate_dst (N := 10) rfl ?_); refine Kd.R_make (Kd.int .u8) _ 5 rfl (N := 10) rfl 24 _ _ rfl (64) rfl rfl Try.underlying24 (.int .u8 0) 1 u8info rfl (by decide) (by omega) 0 (ok := fun _ => True) (okp := fun _ => True) rfl (fun _ hk => hk) trivial (by omega) (by omega) (Below.refl _ _) (Nat.le_refl _) ?_; intro v10 w10 ho hb hg_ hnew_; clear hg_ hnew_; obtain ⟨g10, c10, rfl, hg10, hl10, _, _⟩ := Kd.R_form ho (by simp); have HG10 := Aside0.mk (Nat.le_trans (below_size (by repeat (first | (with_reducible first | exact HB.out | apply below_alloc | apply pw_below_drewN | apply below_drew1) | exact HB.out))) hg10); clear hg10 hl10; have HO10 := Aside0.mk (Kd.R_lower ho (below_size (by repeat (first | (with_reducible first | exact HB.out | apply below_alloc | apply pw_below_drewN | apply below_drew1) | exact HB.out)))); have n1_ : Aside0 (Below w.heap.size w w10) := ⟨below_step (by repeat (first | (with_reducible first | exact HB.out | apply below_alloc | apply pw_below_drewN | apply below_drew1) | exact HB.out)) hb⟩; clear HB; have HB := n1_; clear n1_; have KB : Aside0 (w10.heap[w.heap.size]? = some (.cells #[.int .i64 k] 3 (0, 0))) := ⟨blk_below (heap_alloc_new w _) hb⟩; have kc0 := (blk_cell KB.out 0).trans rfl; clear ho hb)
  obtain ⟨g_, c_, cs0, he_, hg1_, hg2_, hg3_, bk_, hcs_, htk_⟩ := Kd.R_blkS HO10.out (by simp)
  simp only [Value.slice.injEq, Option.some.injEq, Addr.mk.injEq] at he_
  obtain ⟨⟨rfl, _, _⟩, _, rfl⟩ := he_
  have HC64 : Aside0 (64 ≤ c10) := ⟨by simpa using hg2_⟩
  have GB := Aside0.mk hg1_
  have B0 : Aside0 (∃ cs : Array Value, w10.heap[g10]? = some (.cells cs 5 (0, 0)) ∧ cs.size = c10 ∧ cs.toList.take 64 = (blockN l k 0 ++ List.replicate (64 - 16 * 0) 0).map (Value.int .u8)) := ⟨cs0, bk_, hcs_, by simpa [blockN] using htk_⟩
  have gne : Aside0 (g10 ≠ w.heap.size) := ⟨fun e => by have h1 := KB.out; rw [← e, bk_] at h1; cases h1⟩
  clear hg1_ hg2_ hg3_ bk_ hcs_ htk_ HO10 kc0
  go_loopw [18] (fun v18 w' => ∃ m : Nat, v18 = .int .i64 m ∧ Aside0 (m ≤ 4) ∧ Aside0 (∃ cs : Array Value, w'.heap[g10]? = some (.cells cs 5 (0, 0)) ∧ cs.size = c10 ∧ cs.toList.take 64 = (blockN l k m ++ List.replicate (64 - 16 * m) 0).map (Value.int .u8)) ∧ Aside0 (w'.heap[w.heap.size]? = some (.cells #[.int .i64 k] 3 (0, 0))) ∧ Aside0 (Below w.heap.size w w')) (fun i _ => 4 - (intOf i).toNat)
  case atStart => exact ⟨0, rfl, ⟨Nat.zero_le _⟩, B0, KB, HB⟩
  case round =>
    clear HB KB B0
    obtain ⟨m, rfl, hm, ⟨cs, bk, hcs, htk⟩, KB, HB⟩ := hrel
    have hm' := hm.out
    have BK := Aside0.mk bk
    have HCS := Aside0.mk hcs
    have HTK := Aside0.mk htk
    clear bk hcs htk
    by_cases hlt : m < 4
    · have hcut : ∀ W : World, (Instr.slice 24 (.slice (some ⟨g10, 0, none⟩) 64 c10) (some (.int .i64 (16 * (m : Int)))) none none).run Try.prog W = .ok (.slice (some ⟨g10, 16 * m, none⟩) (64 - 16 * m) (c10 - 16 * m)) W := fun W => by
        obtain ⟨i0, hi0, hz0⟩ := Option.map_eq_some_iff.1 u8info
        have := cut_from (P := Try.prog) 24 5 .i64 Try.underlying24 hi0 1 (by simpa using congrArg (fun x => x.2.1) hz0) (some ⟨g10, 0, none⟩) 64 c10 (16 * (m : Int)) (by omega) (by omega) W
        rw [this]
        have e : (16 * (m : Int)).toNat = 16 * m := by omega
        rw [e, if_neg (by have := HC64.out; omega)]
        simp [Addr.add]
        omega
      have hw : RowKit.wrap64 (16 * (m : Int)) = 16 * (m : Int) := by unfold RowKit.wrap64; omega
      have kc0 : wr.cell? ⟨w.heap.size, 0, none⟩ = some (.int .i64 k) := (blk_cell KB.out 0).trans rfl
      have WM := Aside0.mk (fun W B => WI.out W B m hlt)
      rcases idxP_find (p := slotP (4 * k + m)) (l := l) with ⟨i, hi, h1, h2⟩ | ⟨h1, h2⟩
      · obtain ⟨ad, rfl, _, _⟩ := Kd.at_flatA HR.out hi
        have hright := (slotP_right (List.find?_some h2)).1
        have hpk : pickE l (4 * k + m) = bytesE l[i].ino l[i].nm := by unfold pickE; rw [h2]
        obtain ⟨x, hxx⟩ : ∃ x, x = l[i] := ⟨_, rfl⟩
        rw [← hxx] at hright hpk
        have HXX := Aside0.mk hxx
        have WP := Aside0.mk (fun W => ePut_walk x.sl x.ino x.nm W hright)
        have HPK := Aside0.mk hpk
        rw [h1] at WM
        clear hxx hright hpk h1 h2
        go_wp2_with (first | (go_at_call 116; go_loud ((with_reducible refine (WM.out _ wr.heap.size (Kd.C_alloc (Kd.C_below HR.out HB.out) _) (pw_cell_below (below_alloc (Below.refl _ _) _) kc0) (by go_simp)).mono ?_); rintro e w5 ⟨rfl, hb⟩; have BK5 : Aside0 (w5.heap[g10]? = some (.cells cs 5 (0, 0))) := ⟨blk_below (blk_alloc BK.out _) hb⟩; have KB5 : Aside0 (w5.heap[w.heap.size]? = some (.cells #[.int .i64 k] 3 (0, 0))) := ⟨blk_below (blk_alloc KB.out _) hb⟩; have JB5 : Aside0 (w5.heap[wr.heap.size]? = some (.cells #[.int .i64 (m : Int)] 3 (0, 0))) := ⟨blk_below (heap_alloc_new wr _) hb⟩; have HB5 : Aside0 (Below w.heap.size w w5) := ⟨below_step (below_alloc HB.out _) hb⟩; obtain ⟨ad', he', hx, hxs⟩ := Kd.at_flatA (Kd.C_below HR.out HB5.out) hi; cases he'; rw [← HXX.out] at hx hxs; have x0 := hx _ rfl; have x1 := hxs 0 _ rfl; have x2 := hxs 1 _ rfl; simp only [Nat.reduceAdd] at x1 x2; clear hx hxs hb)) | (go_at_call 54; (with_reducible refine (WP.out _).mono ?_); rintro e w6 ⟨A6, c6, rfl, hc6, hb⟩; have BK6 : Aside0 (w6.heap[g10]? = some (.cells cs 5 (0, 0))) := ⟨blk_below BK5.out hb⟩; have KB6 : Aside0 (w6.heap[w.heap.size]? = some (.cells #[.int .i64 k] 3 (0, 0))) := ⟨blk_below KB5.out hb⟩; have JB6 : Aside0 (w6.heap[wr.heap.size]? = some (.cells #[.int .i64 (m : Int)] 3 (0, 0))) := ⟨blk_below JB5.out hb⟩; have HB6 : Aside0 (Below w.heap.size w w6) := ⟨below_step HB5.out hb⟩; have HC6 := Aside0.mk hc6; have j0 := (blk_cell JB6.out 0).trans rfl; clear hb hc6 x0 x1 x2))
        obtain ⟨w7, cs7, hrun, bk_, hsz_, htl_, hg_⟩ := Kd.run_copyBlk (P := Try.prog) (0 : Int) (W := w6) 3 24 24 5 Try.underlying24 u8size1 g10 (16 * m) (64 - 16 * m) (c10 - 16 * m) (bytesE x.ino x.nm) A6 16 c6 (by omega) BK6.out (by have := HC64.out; have := HCS.out; omega) HC6.out
        have BK7 := Aside0.mk bk_
        have HS7 := Aside0.mk hsz_
        have HT7 := Aside0.mk htl_
        have KB7 : Aside0 (w7.heap[w.heap.size]? = some (.cells #[.int .i64 k] 3 (0, 0))) := ⟨(hg_.block _ (Array.getElem?_eq_some_iff.1 KB6.out).1 (fun e => by first | exact gne.out (Option.some.inj e) | exact gne.out (Option.some.inj e).symm)).trans KB6.out⟩
        have HB7 := Aside0.mk (pw_below_grown HB6.out (some g10) HB6.out.size hg_ (fun k e => by cases e; exact GB.out))
        clear bk_ hsz_ htl_ hg_
        simp only [hrun, Result.andThen_ok]
        go_wp2
        refine ⟨⟨m + 1, rfl, ⟨by omega⟩, ⟨cs7, BK7.out, HS7.out.trans HCS.out, ?_⟩, KB7, HB7⟩, by simp [intOf]; omega⟩
        have h7 := HT7.out
        rw [show min 16 (64 - 16 * m) = 16 by omega, List.take_of_length_le (l := bytesE x.ino x.nm) (by rw [← HPK.out, pickE_length]; omega), ← HPK.out] at h7
        exact blk_step hlt HTK.out (by have := HC64.out; have := HCS.out; omega) h7
      · have hpk : pickE l (4 * k + m) = List.replicate 16 0 := by unfold pickE; rw [h2]
        have HPK := Aside0.mk hpk
        rw [h1] at WM
        clear hpk h1 h2
        go_wp2_with (go_at_call 116; go_loud ((with_reducible refine (WM.out _ wr.heap.size (Kd.C_alloc (Kd.C_below HR.out HB.out) _) (pw_cell_below (below_alloc (Below.refl _ _) _) kc0) (by go_simp)).mono ?_); rintro e w5 ⟨rfl, hb⟩; have BK5 : Aside0 (w5.heap[g10]? = some (.cells cs 5 (0, 0))) := ⟨blk_below (blk_alloc BK.out _) hb⟩; have KB5 : Aside0 (w5.heap[w.heap.size]? = some (.cells #[.int .i64 k] 3 (0, 0))) := ⟨blk_below (blk_alloc KB.out _) hb⟩; have HB5 : Aside0 (Below w.heap.size w w5) := ⟨below_step (below_alloc HB.out _) hb⟩; clear hb))
        refine ⟨⟨m + 1, rfl, ⟨by omega⟩, ⟨cs, BK5.out, HCS.out, ?_⟩, KB5, HB5⟩, by simp [intOf]; omega⟩
        rw [HTK.out, blockN_succ, HPK.out, List.append_assoc, List.replicate_append_replicate]
        rw [show 16 + (64 - 16 * (m + 1)) = 64 - 16 * m by omega]
    · have hm4 : m = 4 := by omega
      subst hm4
      go_wp2
      go_ret
      refine ⟨g10, c10, rfl, GB.out, HC64.out, ?_, HB.out⟩
      have hb64 := blockE_length l k
      have := Kd.C_blkInt (k := .u8) (xs := blockE l k) BK.out (by rw [hb64, HTK.out, E0.out]; simp) (by omega)
      rw [hb64] at this
      exact this
end Go.Proofs.Ytdknolnoimpgeaa.K
