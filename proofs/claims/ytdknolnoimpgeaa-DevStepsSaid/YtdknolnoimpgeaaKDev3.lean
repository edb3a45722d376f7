/- dev.New. -/
import Derived.Test.YtdknolnoimpgeaaKDev2
import Derived.Great.FillDense
import Derived.Great.BuildSlice
namespace Go.Proofs.Ytdknolnoimpgeaa.K
open Go.RowKit Go.Proofs.YtdknolnoimpgeaaW.PrintWords Go.Proofs.YtdknolnoimpgeaaW.PrintLast Go.Proofs.YtdknolnoimpgeaaW.PrintMore
set_option linter.unusedVariables false
set_option linter.unusedSimpArgs false
def sliceLen : Value → Nat
  | .slice _ n _ => n
  | _ => 0
/-- A whole array read where it lies, at whatever address. -/
theorem load_sec {W : World} {ad : Addr} {n : Nat} {l : List Int} (h : Kd.C (Kd.int .u8) W (some ad) n l) (hl : 64 ≤ l.length) : (Instr.loadAt TSec (.pointer (some ad))).run Try.prog W = .ok (.agg (toSec l).enc.toArray) W := by
  have hc : ∀ j v, (toSec l).enc[j]? = some v → W.cell? (ad.add j) = some v := by
    intro j v hv
    have hj : j < 64 := by have := (List.getElem?_eq_some_iff.1 hv).1; rw [Sec.len] at this; exact this
    have hn := h.1
    obtain ⟨ad', he, hx⟩ := Kd.at_int h (j : Int) (by omega) (by omega)
    obtain rfl := Option.some.inj he
    rw [Int.toNat_natCast] at hx
    rw [hx, ← hv]
    unfold Sec.enc
    rw [toSec_take hl, List.getElem?_map, List.getElem?_take_of_lt hj]
    unfold rd
    rw [Int.toNat_natCast, List.getD_eq_getElem?_getD, List.getElem?_eq_getElem (by omega)]
    rfl
  have hlc := run_loadCells_list (P := Try.prog) W ad (toSec l).enc hc
  have hu : Try.prog.underlying TSec = some (.array 64 5) := Try.underlying141
  have hagg : (isAgg TSec).run Try.prog W = .ok true W := by
    unfold isAgg
    rw [Sem.run_bind, run_underlying hu W]
    rfl
  obtain ⟨i, hi, hs⟩ := Option.map_eq_some_iff.1 secsize
  rw [Sec.len] at hlc
  simp [Instr.loadAt, Instr.sureAddr, loadVar, Sem.run_bind, hagg, sizeOf, typeInfo, hi, hs, hlc]
theorem secinfo2 : (Try.prog.info? TSec).map (fun i => (i.zero, i.size)) = some (some (.agg (List.replicate 64 (Value.int .u8 0)).toArray), 64) := by kernel_rfl
/-- A literal of one element that has many cells. -/
theorem run_build1 {P : Program} {W : World} {t e : TypeId} {cs : List Value} {s : Nat} {z : Value} (hu : P.underlying t = some (.slice e)) (hinfo : (P.info? e).map (fun i => (i.zero, i.size)) = some (some z, s)) (hl : cs.length = s) (hs : 0 < s) (hs2 : s ≤ 16777216) :
    (Instr.buildSlice t 1 #[(0, .agg cs.toArray)]).run P W = .ok (.slice (some ⟨W.heap.size, 0, none⟩) 1 1) (W.alloc (.cells cs.toArray e)) := by
  obtain ⟨i, hi, hz⟩ := Option.map_eq_some_iff.1 hinfo
  simp only [Prod.mk.injEq] at hz
  have hf := Go.Great.fill_whole hs [Value.agg cs.toArray] ((Array.range (1 * s)).map (z.cells[· % z.cells.size]!)) (by intro v hv; simp at hv; subst hv; simpa [Value.cells] using hl) (by simp)
  simp only [List.zipIdx_cons, List.zipIdx_nil, List.map_cons, List.map_nil, List.flatMap_cons, List.flatMap_nil, List.append_nil] at hf
  have hc : (Value.agg cs.toArray).cells.toList.toArray = cs.toArray := by simp [Value.cells]
  rw [hc] at hf
  refine run_buildSlice W t e 1 #[(0, .agg cs.toArray)] cs.toArray i z hu hi hz.1 (by rw [hz.2]; omega) (by rw [hz.2]; omega) ?_
  rw [hz.2]
  exact hf
theorem exec_load {P : Program} {o : Oper} {a : Act} {W : World} {ty : TypeId} {x : Operand} {v u : Value} (ho : o.op = .load ty x) (hx : a.eval x = v) (h : (Instr.loadAt ty v).run P W = .ok u W) : (execOp a.eval o).run P W = .ok (.value u) W := by
  unfold execOp
  simp only [ho, hx, Sem.run_bind, h, Result.andThen_ok, Sem.run_pure]
theorem exec_build {P : Program} {o : Oper} {a : Act} {W W' : World} {t : TypeId} {len : Nat} {parts : Array (Nat × Operand)} {vs : Array (Nat × Value)} {u : Value} (ho : o.op = .buildSlice t len parts) (hp : parts.map (fun x => (x.1, a.eval x.2)) = vs) (h : (Instr.buildSlice t len vs).run P W = .ok u W') : (execOp a.eval o).run P W = .ok (.value u) W' := by
  unfold execOp
  subst hp
  simp only [ho, Sem.run_bind, h, Result.andThen_ok, Sem.run_pure]
theorem DiskR.drew {W : World} {base p : Nat} {s : DiskS} {vs vn vw : Value} (h : DiskR W base p s vs vn vw) : DiskR W.drew base p s vs vn vw := h.below (below_drew1 (Below.refl _ _))
theorem secs_take {l : List Int} {m : Nat} (h : 64 * m + 64 ≤ l.length) : (secs l).take (m + 1) = (secs l).take m ++ [toSec (l.drop (64 * m))] := by
  have hm : m < (secs l).length := by rw [secs_length]; omega
  rw [List.take_succ_eq_append_getElem hm]
  simp [secs]
set_option maxRecDepth 100000 in
theorem cloneSec_walk (A : Option Addr) (c : Nat) (l : List Sec) (w : World) (hr : Kd.C kSec w A l.length l) (hl : l.length ≤ 1000000) :
    Calls Try.prog 127 #[.slice A l.length c] w fun e w' => ∃ v : Value, e = .returned v ∧ Kd.R kSec TSec w' w.heap.size (fun _ => True) v l ∧ Below w.heap.size w w' := by
  have HR := Aside0.mk hr
  have HL := Aside0.mk hl
  clear hr hl
  have HB := Aside0.mk (Below.refl w.heap.size w)
  cases A with
  | none =>
    have e0 := C_nil_len HR.out
    subst e0
    clear HL HR
    have heq := fun W => Lib.run_eql_slice_nil (P := Try.prog) W 137 141 none 0 c 0 0 Try.underlying137
    go_enter Try.func127, Try.ntmps127
    go_wp2
    go_ret
    exact ⟨_, rfl, Kd.R_nil _ _ _ _ _, HB.out⟩
  | some a0 =>
    have heq := fun W => Lib.run_eql_slice_nil (P := Try.prog) W 137 141 (some a0) l.length c 0 0 Try.underlying137
    go_enter Try.func127, Try.ntmps127
    go_wp2_with (first | ((with_reducible refine gate_dst (N := 5) rfl ?_); refine Kd.R_lit kSec _ 141 ?hg (N := 5) ?hd (xs := ([] : List Sec)) (inner := []) (ok := fun _ => True) (okp := fun _ => True) ?hr ?hp (fun _ hk => hk) trivial (Below.refl _ _) (Nat.le_refl _) (by simp) ?_; (case hd => rfl); (case hg => rfl); (case hr => first | (go_simp; done) | (go_simp; rfl)); (case hp => exact (Reps.none _ _)); intro v114 w3 ho4 hb hg_ hnew_; clear hg_ hnew_; have n0_ := Aside0.mk (Kd.R_lower ho4 (below_size (by repeat (first | (with_reducible first | exact HB.out | apply below_alloc | apply pw_below_drewN | apply below_drew1) | exact HB.out)))); have n1_ := Aside0.mk (below_step (by repeat (first | (with_reducible first | exact HB.out | apply below_alloc | apply pw_below_drewN | apply below_drew1) | exact HB.out)) hb); clear HB; have HO1 := n0_; have HB := n1_; clear n0_ n1_; clear hb ho4) | ((with_reducible refine gate_builtin (b := .append) (xs := #[.tmp 5, .tmp 6]) rfl ?_); at_builtin; refine Kd.R_append_rows kSec (w0 := w) w.heap.size rfl (.tmp 5) (.tmp 6) 137 141 (.agg (List.replicate 64 (Value.int .u8 0)).toArray) 64 rfl Try.underlying137 secinfo rfl (by decide) (by omega) v114 [] l _ _ _ (fun _ => True) (fun _ => False) rfl rfl ?aO ?aR (fun _ _ h => h) (fun _ h => h.elim) ?aF ?aB ?aS ?aL ?_; (case aR => exact (Kd.C_below HR.out (by repeat (first | (with_reducible first | exact HB.out | apply below_alloc | apply pw_below_drewN | apply below_drew1) | exact HB.out)))); (case aB => exact (by repeat (first | (with_reducible first | exact HB.out | apply below_alloc | apply pw_below_drewN | apply below_drew1) | exact HB.out))); (case aF => exact (fun _ _ => trivial)); (case aO => exact (by (with_reducible repeat (first | apply Kd.R_alloc | apply Kd.R_drewN | apply Kd.R_drew)); exact HO1.out)); (case aS => exact (below_size (by repeat (first | (with_reducible first | exact HB.out | apply below_alloc | apply pw_below_drewN | apply below_drew1) | exact HB.out)))); (case aL => have := HL.out; simp; omega); intro v123 w11 ho hb hg hat; have n0_ := Aside0.mk (hb); have n1_ := Aside0.mk (ho); clear HB; clear HO1; have HB := n0_; have HO2 := n1_; clear n0_ n1_; clear ho hb hg hat))
    go_ret
    exact ⟨_, rfl, HO2.out, HB.out⟩
def newS (l : List Int) (m : Nat) : DiskS := ⟨(secs l).take m, [], [], -1, false, 0, 0⟩
set_option maxHeartbeats 4000000 in
set_option maxRecDepth 100000 in
theorem new_walk (A : Option Addr) (c : Nat) (l : List Int) (w : World) (hr : Kd.C (Kd.int .u8) w A l.length l) (hc : l.length ≤ c) (hl : l.length ≤ 1000000) :
    Calls Try.prog 82 #[.slice A l.length c] w fun e w' => e = .returned (.pointer (some ⟨w.heap.size, 0, none⟩)) ∧ DiskOk w' w.heap.size w.heap.size ⟨secs l, secs l, [], -1, false, 0, 0⟩ ∧ Below w.heap.size w w' := by
  have HR := Aside0.mk hr
  have HB := Aside0.mk (Below.refl w.heap.size w)
  have HL := Aside0.mk hl
  have HC := Aside0.mk hc
  clear hr hc hl
  go_enter Try.func82, Try.ntmps82
  go_wp2
  go_loopw [0] (fun v0 w' => ∃ (m : Nat) (Am : Option Addr) (cm n : Nat) (vs : Value), v0 = .slice Am n cm ∧ Aside0 (64 * m + n = l.length) ∧ Aside0 (n ≤ cm) ∧ Aside0 (Kd.C (Kd.int .u8) w Am n (l.drop (64 * m))) ∧ Aside0 (DiskR w' w.heap.size w.heap.size (newS l m) vs (.slice none 0 0) (.slice none 0 0)) ∧ Aside0 (Below w.heap.size w w')) (fun v0 _ => sliceLen v0)
  case atStart =>
    refine ⟨0, A, c, l.length, .slice none 0 0, rfl, ⟨by omega⟩, HC, HR, ⟨?_⟩, ⟨below_alloc HB.out _⟩⟩
    exact ⟨heap_alloc_new _ _, Nat.le_refl _, Kd.R_nil _ _ _ _ _, Kd.R_nil _ _ _ _ _, Kd.R_nil _ _ _ _ _, fun b h => by cases h⟩
  case round =>
    clear HB
    obtain ⟨m, Am, cm, n, vs, rfl, hmn, hcm, HRm, HD, HB⟩ := hrel
    by_cases h64 : 64 ≤ n
    · have hn := HRm.out.1
      obtain ⟨ad, rfl, _⟩ := Kd.at_int HRm.out 0 (by omega) (by omega)
      have hcm' := hcm.out
      have hap := fun W => run_arrayAt (P := Try.prog) W 141 5 64 (some ad) n cm Try.underlying141 h64
      obtain ⟨lm, hlm⟩ : ∃ lm, lm = l.drop (64 * m) := ⟨_, rfl⟩
      have hlm64 : 64 ≤ lm.length := by rw [hlm]; omega
      have hld : ∀ W, Kd.C (Kd.int .u8) W (some ad) n lm → (Instr.loadAt 141 (.pointer (some ad))).run Try.prog W = .ok (.agg (toSec lm).enc.toArray) W := fun W h => load_sec h hlm64
      have hbs : ∀ W : World, (Instr.buildSlice 137 1 #[(0, .agg (toSec lm).enc.toArray)]).run Try.prog W = .ok (.slice (some ⟨W.heap.size, 0, none⟩) 1 1) (W.alloc (.cells (toSec lm).enc.toArray TSec)) := fun W => run_build1 Try.underlying137 secinfo2 (Sec.len _) (by decide) (by decide)
      have HM : Aside0 (Kd.C (Kd.int .u8) wr (some ad) n lm) := ⟨by rw [hlm]; exact Kd.C_below HRm.out HB.out⟩
      have HLM := Aside0.mk hlm
      obtain ⟨sM, hsM⟩ : ∃ sM, sM = newS l m := ⟨_, rfl⟩
      rw [← hsM] at HD
      have HSM := Aside0.mk hsM
      have HLIM : Aside0 ((sM.safe.length + 1) * 64 ≤ 140737488355328) := ⟨by rw [hsM]; have := HL.out; have := secs_length l; simp [newS]; omega⟩
      clear hn hlm hlm64 hsM
      go_wp2
      refine start_ (n := 13) (S := fun w' => w'.cell? ⟨w.heap.size, 0, none⟩ = some vs ∧ Kd.C (Kd.int .u8) w' (some ad) n lm) (ds := [9, 12]) #[false, false, false, false, false, false, false, false, false, false, false, false, false] (by kernel_rfl) rfl rfl ⟨(blk_cell (blk_drew HD.out.blk) 0).trans rfl, Kd.C_drew HM.out⟩ (fun hHeld => ?_)
      refine pure_ (i := 0) (N := some 9) (v := ?_) (a' := ?_) #[true, false, false, false, false, false, false, false, false, false, false, false, false] rfl rfl (by kernel_rfl) (fun _ _ _ h => h) (Or.inl ⟨by rfl, ?_⟩) ?_ ?_
      rotate_left
      · intro w'
        go_simp
        with_reducible rfl
      rotate_left
      · simp only [Act.put, List.setIfInBounds_toArray, List.set_cons_zero, List.set_cons_succ, i64_w, i32_w]
        rfl
      refine pure_ (i := 1) (N := some 10) (v := ?_) (a' := ?_) #[true, true, false, false, false, false, false, false, false, false, false, false, false] rfl rfl (by kernel_rfl) (fun _ _ _ h => h) (Or.inl ⟨by rfl, ?_⟩) ?_ ?_
      rotate_left
      · intro w'
        go_simp
        with_reducible rfl
      rotate_left
      · simp only [Act.put, List.setIfInBounds_toArray, List.set_cons_zero, List.set_cons_succ, i64_w, i32_w]
        rfl
      refine pure_ (i := 2) (N := some 11) (v := ?_) (a' := ?_) #[true, true, true, false, false, false, false, false, false, false, false, false, false] rfl rfl (by kernel_rfl) (fun _ _ _ h => h) (Or.inl ⟨by rfl, ?_⟩) ?_ ?_
      rotate_left
      · intro w'
        go_simp
        with_reducible rfl
      rotate_left
      · simp only [Act.put, List.setIfInBounds_toArray, List.set_cons_zero, List.set_cons_succ, i64_w, i32_w]
        rfl
      refine pure_ (i := 3) (N := some 12) (v := ?_) (a' := ?_) #[true, true, true, true, false, false, false, false, false, false, false, false, false] rfl rfl (by kernel_rfl) (fun _ _ _ h => h) (Or.inl ⟨by rfl, ?_⟩) ?_ ?_
      rotate_left
      · intro w'
        go_simp
        with_reducible rfl
      rotate_left
      · simp only [Act.put, List.setIfInBounds_toArray, List.set_cons_zero, List.set_cons_succ, i64_w, i32_w]
        rfl
      refine pure_ (i := 5) (N := some 14) (v := ?_) (a' := ?_) #[true, true, true, true, false, true, false, false, false, false, false, false, false] rfl rfl (by kernel_rfl) (fun _ _ _ h => h) (Or.inl ⟨by rfl, ?_⟩) ?_ ?_
      rotate_left
      · intro w'
        go_simp
        with_reducible rfl
      rotate_left
      · simp only [Act.put, List.setIfInBounds_toArray, List.set_cons_zero, List.set_cons_succ, i64_w, i32_w]
        rfl
      refine pure_ (i := 6) (N := some 15) (v := ?_) (a' := ?_) #[true, true, true, true, false, true, true, false, false, false, false, false, false] rfl rfl (by kernel_rfl) (fun _ _ _ h => h) (Or.inl ⟨by rfl, ?_⟩) ?_ ?_
      rotate_left
      · intro w'
        go_simp
        with_reducible rfl
      rotate_left
      · simp only [Act.put, List.setIfInBounds_toArray, List.set_cons_zero, List.set_cons_succ, i64_w, i32_w]
        rfl
      refine take_ (i := 4) (N := some 13) (v := ?_) (a' := ?_) #[true, true, true, true, true, true, true, false, false, false, false, false, false] rfl rfl (by kernel_rfl) (fun _ _ _ h => h) (Or.inl ⟨by rfl, ?_⟩) hHeld ?_ ?_
      rotate_left
      · rintro w' ⟨s0, s1⟩
        go_simp
        with_reducible rfl
      rotate_left
      · simp only [Act.put, List.setIfInBounds_toArray, List.set_cons_zero, List.set_cons_succ, i64_w, i32_w]
        rfl
      refine take_ (i := 7) (N := some 16) (v := ?_) (a' := ?_) #[true, true, true, true, true, true, true, true, false, false, false, false, false] rfl rfl (by kernel_rfl) (fun _ _ _ h => h) (Or.inl ⟨by rfl, ?_⟩) hHeld ?_ ?_
      rotate_left
      · rintro w' ⟨s0, s1⟩
        rw [exec_load rfl (show _ = Value.pointer (some ad) from rfl) (hld w' s1)]
      rotate_left
      · simp only [Act.put, List.setIfInBounds_toArray, List.set_cons_zero, List.set_cons_succ, i64_w, i32_w]
        rfl
      refine one_ (i := 8) (N := some 17) #[true, true, true, true, true, true, true, true, true, false, false, false, false] rfl rfl (by kernel_rfl) (by decide) (fun K hK => ?_)
      obtain ⟨w6, hw6⟩ : ∃ w6, w6 = wr.drew := ⟨_, rfl⟩
      rw [← hw6] at hHeld ⊢
      have D6 : Aside0 (DiskR w6 w.heap.size w.heap.size sM vs (.slice none 0 0) (.slice none 0 0)) := ⟨by rw [hw6]; exact HD.out.drew⟩
      have HM6 : Aside0 (Kd.C (Kd.int .u8) w6 (some ad) n lm) := ⟨by rw [hw6]; exact Kd.C_drew HM.out⟩
      have HB6 : Aside0 (Below w.heap.size w w6) := ⟨by rw [hw6]; exact below_drew1 HB.out⟩
      clear hw6 HD HM HB hHeld
      refine value_ (w1 := w6.alloc (.cells (toSec lm).enc.toArray TSec)) (v := .slice (some ⟨w6.heap.size, 0, none⟩) 1 1) (by rfl) rfl ?_ ?_
      · exact exec_build rfl (by simp only [List.map_toArray, List.map_cons, List.map_nil]; rfl) (hbs w6)
      refine hK.out _ _ ⟨(blk_cell (blk_alloc D6.out.blk _) 0).trans rfl, Kd.C_alloc HM6.out _⟩ (fun hHeld => ?_)
      clear hK K
      refine norm_ (a' := ?_) ?_ ?_
      rotate_left
      · show Act.put _ (some 17) _ = _
        simp only [Act.put, List.setIfInBounds_toArray, List.set_cons_zero, List.set_cons_succ, i64_w, i32_w]
        rfl
      refine last_ (i := 9) (N := some 18) #[true, true, true, true, true, true, true, true, true, true, false, false, false] rfl rfl (by kernel_rfl) (by decide) (fun K hK => ?_)
      refine Kd.R_append_step kSec (w0 := w) w.heap.size (by rfl) (.tmp 13) (.tmp 17) 137 TSec (.agg (List.replicate 64 (Value.int .u8 0)).toArray) 64 (by rfl) Try.underlying137 secinfo rfl (by decide) (by omega) vs sM.safe (toSec lm) (toSec lm).enc (fun _ => True) (fun _ => False) (by rfl) (by rfl) rfl (fun _ hk => hk.elim) (fun _ _ => trivial) D6.out.safe HB6.out HB6.out.size HLIM.out ?_
      intro v9 w9 ho9 hb9 hg9 hat9
      have BK9 := Aside0.mk (blk_grown D6.out.blk hg9 (Kd.R_ne D6.out.safe D6.out.blk (by decide)))
      have R9 := Aside0.mk ho9
      have HB9 := Aside0.mk hb9
      clear D6 HM6 HB6 ho9 hb9 hg9 hat9
      have c9 : w9.cell? ⟨w.heap.size, 0, none⟩ = some vs := (blk_cell BK9.out 0).trans rfl
      have f9 := blk_frozen BK9.out 0
      obtain ⟨A9, n9, q9, hv9⟩ : ∃ A n c, v9 = .slice A n c := by obtain ⟨A, c, h⟩ := Kd.R_slice R9.out; exact ⟨_, _, _, h⟩
      subst hv9
      refine hK.out _ _ ?_
      clear hK K
      refine norm_ (a' := ?_) ?_ ?_
      rotate_left
      · show Act.put _ (some 18) _ = _
        simp only [Act.put, List.setIfInBounds_toArray, List.set_cons_zero, List.set_cons_succ, i64_w, i32_w]
        rfl
      refine pure_ (i := 10) (N := some 19) (v := ?_) (a' := ?_) #[true, true, true, true, true, true, true, true, true, true, true, false, false] rfl rfl (by kernel_rfl) (fun _ _ _ h => h) (Or.inl ⟨by rfl, ?_⟩) ?_ ?_
      rotate_left
      · intro w'
        go_simp
        with_reducible rfl
      rotate_left
      · simp only [Act.put, List.setIfInBounds_toArray, List.set_cons_zero, List.set_cons_succ, i64_w, i32_w]
        rfl
      refine pure_ (i := 11) (N := some 20) (v := ?_) (a' := ?_) #[true, true, true, true, true, true, true, true, true, true, true, true, false] rfl rfl (by kernel_rfl) (fun _ _ _ h => h) (Or.inl ⟨by rfl, ?_⟩) ?_ ?_
      rotate_left
      · intro w'
        go_simp
        with_reducible rfl
      rotate_left
      · simp only [Act.put, List.setIfInBounds_toArray, List.set_cons_zero, List.set_cons_succ, i64_w, i32_w]
        rfl
      refine last_ (i := 12) (N := none) #[true, true, true, true, true, true, true, true, true, true, true, true, true] rfl rfl (by kernel_rfl) (by decide) (fun K hK => ?_)
      refine skip_ (w1 := ?_) (by rfl) rfl ?_ ?_
      rotate_left
      · go_simp
        rfl
      refine hK.out _ _ ?_
      clear hK K
      refine done_ (by kernel_rfl) ?_
      have hn : lm.length = n := by rw [HLM.out]; have h1 := hmn.out; rw [List.length_drop]; omega
      obtain ⟨i0, hi0, hz0⟩ := Option.map_eq_some_iff.1 u8info
      obtain ⟨A', hcut, hC', hle⟩ := cutFrom (P := Try.prog) (Kd.int .u8) 24 5 Try.underlying24 hi0 (show i0.size = 1 by simpa using congrArg (fun x => x.2.1) hz0) (some ad) cm lm 64 (by omega) (by omega)
      rw [hn] at hcut hC' hle
      have HC' := Aside0.mk hC'
      clear hap hld hbs hC' hi0 hz0 c9 f9
      have hcut' : ∀ W : World, (Instr.slice 24 (.slice (some ad) n cm) (some (.int .i64 64)) none none).run Try.prog W = .ok (.slice A' (n - 64) (cm - 64)) W := fun W => hcut W
      clear hcut
      go_wp2
      have hm1 := hmn.out
      have h1m : 64 * m + 64 ≤ l.length := by omega
      refine ⟨⟨m + 1, A', cm - 64, n - 64, .slice A9 n9 q9, rfl, ⟨by omega⟩, ⟨by omega⟩, ⟨?_⟩, ⟨?_⟩, ⟨below_set HB9.out (Nat.le_refl _)⟩⟩, by simp [sliceLen]; omega⟩
      · have h2 := HC'.out w (by have := HRm.out; rw [← HLM.out] at this; exact this)
        rw [HLM.out, List.drop_drop] at h2
        rw [show 64 * (m + 1) = 64 * m + 64 by omega]
        exact h2
      · have hs : (newS l (m + 1)).safe = sM.safe ++ [toSec lm] := by rw [HSM.out, HLM.out]; exact secs_take h1m
        refine ⟨?_, Nat.le_refl _, ?_, Kd.R_nil _ _ _ _ _, Kd.R_nil _ _ _ _ _, fun b _ h => by cases h⟩
        · have h3 := blk_set BK9.out 0 (.slice A9 n9 q9)
          rw [HSM.out] at h3
          exact h3
        · rw [hs]; exact Kd.R_set R9.out BK9.out (by decide) 0 _
    · have h1 := hmn.out
      have hm0 : (secs l).take m = secs l := List.take_of_length_le (by rw [secs_length]; omega)
      have HD0 : Aside0 (DiskR wr w.heap.size w.heap.size ⟨secs l, [], [], -1, false, 0, 0⟩ vs (.slice none 0 0) (.slice none 0 0)) := ⟨by have := HD.out; unfold newS at this; rw [hm0] at this; exact this⟩
      obtain ⟨Av, cv, hvs⟩ := Kd.R_slice HD0.out.safe
      subst hvs
      have b0 : wr.cell? ⟨w.heap.size, 0, none⟩ = some (.slice Av (secs l).length cv) := (blk_cell HD0.out.blk 0).trans rfl
      have WCL := Aside0.mk (cloneSec_walk Av cv (secs l) wr (Kd.R_reads' HD0.out.safe).2.2 (by rw [secs_length]; have := HL.out; omega))
      have h64' : (n : Int) < 64 := by omega
      obtain ⟨nS, hnS⟩ : ∃ nS, nS = (secs l).length := ⟨_, rfl⟩
      clear h1 hm0 HD h64 hnS
      go_wp2_with (go_at_call 127; (with_reducible refine WCL.out.mono ?_); rintro e w5 ⟨v5, rfl, ho, hb⟩; have D5 := Aside0.mk (HD0.out.below hb); have R5 := Aside0.mk (Kd.R_lower ho (below_size HB.out)); have N5 : Aside0 (∀ b, v5.ownBlock = some b → wr.heap.size ≤ b) := ⟨fun b e => ((Kd.R_bound ho).1 b e).2.1⟩; have HB5 := Aside0.mk (below_step HB.out hb); have c1 : w5.cell? ⟨w.heap.size, 1, none⟩ = some (.slice none 0 0) := (blk_cell D5.out.blk 1).trans rfl; have f1 := blk_frozen D5.out.blk 1; obtain ⟨A5, n5, q5, hv5⟩ : ∃ A n c, v5 = .slice A n c := (by obtain ⟨A, c, h⟩ := Kd.R_slice ho; exact ⟨_, _, _, h⟩); subst hv5; clear ho hb)
      go_ret
      refine ⟨rfl, ⟨.slice Av (secs l).length cv, .slice A5 n5 q5, .slice none 0 0, ⟨?_, Nat.le_refl _, ?_, ?_, Kd.R_nil _ _ _ _ _, fun b e1 e2 => ?_⟩⟩, below_set HB5.out (Nat.le_refl _)⟩
      · exact blk_set D5.out.blk 1 _
      · exact Kd.R_set D5.out.safe D5.out.blk (by decide) 1 _
      · exact Kd.R_set R5.out D5.out.blk (by decide) 1 _
      · have h2 := N5.out b e2
        have h3 := ((Kd.R_bound HD0.out.safe).1 b e1).2.2.1
        omega
end Go.Proofs.Ytdknolnoimpgeaa.K
