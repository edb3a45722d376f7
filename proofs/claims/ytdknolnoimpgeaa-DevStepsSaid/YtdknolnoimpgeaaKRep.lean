/- bytes.Repeat of one byte, 64 times. -/
import Derived.Test.YtdknolnoimpgeaaKCopyB
import Derived.Test.YtdknolnoimpgeaaKDev9
import Derived.Lib.MakeNoZero
namespace Go.Proofs.YtdknolnoimpgeaaW.PrintWords
open Go.RowKit Go.Proofs.Ytdknolnoimpgeaa.K
namespace Kd
theorem C_blkI {k : IntKind} {W : World} {g : Nat} {cs : Array Value} {t : TypeId} {xs : List Int} (BK : W.heap[g]? = some (.cells cs t (0, 0))) (h : cs.toList.take xs.length = xs.map (fun v => Value.int k v)) (hm : xs.length ≤ 9223372036854775807) : (Kd.int k).C W (some ⟨g, 0, none⟩) xs.length xs := by
  refine ⟨rfl, hm, fun _ => ⟨⟨g, 0, none⟩, rfl, fun j p hp => ⟨[.int k p], rfl, rfl, fun i u hu => ?_⟩⟩⟩
  obtain ⟨hj, rfl⟩ := List.getElem?_eq_some_iff.1 hp
  have hi : i = 0 := by have := (List.getElem?_eq_some_iff.1 hu).1; simp at this; exact this
  subst hi
  show W.cell? ((⟨g, 0, none⟩ : Addr).add (j * 1 + 0)) = some u
  rw [add_plain, blk_cell BK, ← hu, Nat.mul_one, Nat.add_zero]
  have h2 : (cs.toList.take xs.length)[j]? = (xs.map (fun v => Value.int k v))[j]? := by rw [h]
  rw [List.getElem?_take_of_lt hj, Array.getElem?_toList] at h2
  rw [h2, List.getElem?_map, List.getElem?_eq_getElem hj]
  rfl
end Kd
end Go.Proofs.YtdknolnoimpgeaaW.PrintWords
namespace Go.Proofs.Ytdknolnoimpgeaa.K
open Go.RowKit Go.Proofs.YtdknolnoimpgeaaW.PrintWords Go.Proofs.YtdknolnoimpgeaaW.PrintLast Go.Proofs.YtdknolnoimpgeaaW.PrintMore
set_option linter.unusedVariables false
set_option linter.unusedSimpArgs false
set_option maxRecDepth 100000 in
theorem mul64_walk (W : World) : Calls Try.prog 155 #[.int .u64 1, .int .u64 64] W fun e w' => e = .returned (.tuple #[.int .u64 0, .int .u64 64]) ∧ w' = W := by
  go_enter Try.func155, Try.ntmps155
  go_wp2
  go_ret2
  exact ⟨rfl, rfl⟩
set_option maxRecDepth 100000 in
theorem mul_walk (W : World) : Calls Try.prog 146 #[.int .u64 1, .int .u64 64] W fun e w' => e = .returned (.tuple #[.int .u64 0, .int .u64 64]) ∧ w' = W := by
  go_enter Try.func146, Try.ntmps146
  go_wp2_with (go_at_call 155; (with_reducible refine (mul64_walk _).mono ?_); rintro e w' ⟨rfl, h_⟩; have h_ := h_.symm; subst h_)
  go_ret2
  exact ⟨rfl, rfl⟩
theorem call_noZero (W : World) : ∃ cs : Array Value, (callFunc 147 #[.int .i64 64]).run Try.prog W = .ok (.value (.slice (some ⟨W.heap.size, 0, none⟩) 64 cs.size)) ((W.alloc (.cells cs 5)).drewN 2) ∧ 64 ≤ cs.size ∧ cs.size ≤ 9223372036854775807 := by
  obtain ⟨cs, hrun, hle, hmax⟩ := Lib.run_makeNoZero (P := Try.prog) W #[3] 24 5 Try.underlying24 64 (by omega)
  refine ⟨cs, ?_, hle, hmax (by decide)⟩
  rw [run_callFunc_extern Try.func147 (by kernel_rfl) (by kernel_rfl) (by kernel_rfl) (e := Extern.BytealgMakeNoZero.makeNoZero #[3] #[24]) (by kernel_rfl)]
  have h2 : (Extern.BytealgMakeNoZero.makeNoZero #[3] #[24] #[.int .i64 64]).run Try.prog W = _ := hrun
  rw [h2]
  rfl
theorem rep_step {v : Int} {bp : Nat} {l : List Value} (hl : l.take bp = List.replicate bp (Value.int .u8 v)) (h0 : 64 ≤ l.length) (hb : bp < 64) :
    (l.take bp ++ ((List.replicate bp v).take (min bp (64 - bp))).map (Value.int .u8) ++ l.drop (bp + min bp (64 - bp))).take (bp + min bp (64 - bp)) = List.replicate (bp + min bp (64 - bp)) (Value.int .u8 v) := by
  rw [hl, List.take_replicate, List.map_replicate, show min (min bp (64 - bp)) bp = min bp (64 - bp) by omega, List.replicate_append_replicate, List.take_append_of_le_length (by simp), List.take_of_length_le (by simp)]
set_option maxHeartbeats 4000000 in
set_option maxRecDepth 100000 in
theorem repeat_walk (A : Option Addr) (c : Nat) (v : Int) (w : World) (hr : Kd.C (Kd.int .u8) w A 1 [v]) :
    Calls Try.prog 124 #[.slice A 1 c, .int .i64 64] w fun e w' => ∃ (g : Nat) (cs : Array Value), e = .returned (.slice (some ⟨g, 0, none⟩) 64 64) ∧ w.heap.size ≤ g ∧ w'.heap[g]? = some (.cells cs 5 (0, 0)) ∧ cs.toList.take 64 = List.replicate 64 (Value.int .u8 v) ∧ Below w.heap.size w w' := by
  have HR := Aside0.mk hr
  clear hr
  obtain ⟨cs, hcall, hcs, hcs2⟩ := call_noZero w
  have HCS := Aside0.mk hcs
  go_enter Try.func124, Try.ntmps124
  go_wp2_with (go_at_call 146; (with_reducible refine (mul_walk _).mono ?_); rintro e w' ⟨rfl, h_⟩; have h_ := h_.symm; subst h_)
  have HBW : Aside0 (Below w.heap.size w ((w.alloc (.cells cs 5)).drewN 2)) := ⟨pw_below_drewN (below_alloc (Below.refl _ _) _) _⟩
  obtain ⟨w1, cs1, hrun, bk1, hs1, hl1, hg1⟩ := Kd.run_copyBlk (P := Try.prog) (h1 := fun _ => rfl) (0 : Int) 3 24 24 5 Try.underlying24 (by kernel_rfl) w.heap.size 0 64 64 [v] A 1 c (by decide) (W := (w.alloc (.cells cs 5)).drewN 2) (cs := cs) (te := 5) (blk_drewN (heap_alloc_new _ _) _) (by omega) (Kd.C_below HR.out HBW.out)
  have HBL : Aside0 (Below w.heap.size w w1) := ⟨pw_below_grown HBW.out _ (by simp) hg1 (fun k hk => by cases hk; exact Nat.le_refl _)⟩
  have HK1 := Aside0.mk bk1
  have HS1 := Aside0.mk hs1
  have HL1 : Aside0 (cs1.toList.take 1 = List.replicate 1 (Value.int .u8 v)) := ⟨by rw [hl1]; simp⟩
  clear bk1 hs1 hl1 hg1 HBW hcall
  simp only [hrun, Result.andThen_ok]
  clear hrun
  go_wp2
  go_loopw [10] (fun v10 w' => ∃ (bp : Nat) (cs' : Array Value), v10 = .int .i64 bp ∧ Aside0 (1 ≤ bp ∧ bp ≤ 64) ∧ Aside0 (w'.heap[w.heap.size]? = some (.cells cs' 5 (0, 0))) ∧ Aside0 (cs'.size = cs.size) ∧ Aside0 (cs'.toList.take bp = List.replicate bp (Value.int .u8 v)) ∧ Aside0 (Below w.heap.size w w')) (fun i _ => 64 - (intOf i).toNat)
  case atStart => exact ⟨1, cs1, rfl, ⟨by omega⟩, HK1, HS1, HL1, HBL⟩
  case round =>
    clear HK1 HS1 HL1 HBL
    obtain ⟨bp, cs2, rfl, hbp, BK, HS, HL, HB⟩ := hrel
    have hb1 := hbp.out.1
    have hb2 := hbp.out.2
    by_cases hlt : bp < 64
    · have hlt' : (bp : Int) < 64 := by omega
      have hmn : min (bp : Int) 8192 = bp := by omega
      obtain ⟨inf, hinf, hinz⟩ := Option.map_eq_some_iff.1 u8info
      simp only [Prod.mk.injEq] at hinz
      have hcf : ∀ W : World, (Instr.slice 24 (.slice (some ⟨w.heap.size, 0, none⟩) 64 64) (some (.int .i64 bp)) none none).run Try.prog W = .ok (.slice (some ⟨w.heap.size, bp, none⟩) (64 - bp) (64 - bp)) W := fun W => by
        have h := cut_from (P := Try.prog) 24 5 .i64 Try.underlying24 hinf 1 hinz.2.1 (some ⟨w.heap.size, 0, none⟩) 64 64 (bp : Int) (by omega) (by omega) W
        rw [Int.toNat_natCast, if_neg (by omega)] at h
        rw [h, Option.map_some, Nat.mul_one, add_plain]
      have hct : ∀ W : World, (Instr.slice 24 (.slice (some ⟨w.heap.size, 0, none⟩) 64 64) none (some (.int .i64 bp)) none).run Try.prog W = .ok (.slice (some ⟨w.heap.size, 0, none⟩) bp 64) W := fun W => by
        have h := cut_to (P := Try.prog) 24 5 .i64 Try.underlying24 hinf (some ⟨w.heap.size, 0, none⟩) 64 64 (bp : Int) (by omega) (by omega) (by omega) W
        rw [Int.toNat_natCast] at h
        exact h
      obtain ⟨q, hq⟩ : ∃ q, q = min bp (64 - bp) := ⟨_, rfl⟩
      have HQ := Aside0.mk hq
      have hw9 : RowKit.wrap64 ((bp : Int) + (q : Int)) = ((bp + q : Nat) : Int) := by unfold RowKit.wrap64; omega
      clear hinf hinz hq
      go_wp2
      refine start_ (n := 10) (S := fun w' => True) (ds := [7]) #[false, false, false, false, false, false, false, false, false, false] (by kernel_rfl) rfl rfl trivial (fun hHeld => ?_)
      refine pure_ (i := 0) (N := some 67) (v := ?_) (a' := ?_) #[true, false, false, false, false, false, false, false, false, false] rfl rfl (by kernel_rfl) (fun _ _ _ h => h) (Or.inl ⟨by rfl, ?_⟩) ?_ ?_
      rotate_left
      · intro w'
        go_simp
        with_reducible rfl
      rotate_left
      · simp only [Act.put, List.setIfInBounds_toArray, List.set_cons_zero, List.set_cons_succ, i64_w, i32_w]
        rfl
      refine pure_ (i := 1) (N := some 68) (v := ?_) (a' := ?_) #[true, true, false, false, false, false, false, false, false, false] rfl rfl (by kernel_rfl) (fun _ _ _ h => h) (Or.inl ⟨by rfl, ?_⟩) ?_ ?_
      rotate_left
      · intro w'
        go_simp
        with_reducible rfl
      rotate_left
      · simp only [Act.put, List.setIfInBounds_toArray, List.set_cons_zero, List.set_cons_succ, i64_w, i32_w]
        rfl
      refine pure_ (i := 2) (N := some 69) (v := ?_) (a' := ?_) #[true, true, true, false, false, false, false, false, false, false] rfl rfl (by kernel_rfl) (fun _ _ _ h => h) (Or.inl ⟨by rfl, ?_⟩) ?_ ?_
      rotate_left
      · intro w'
        go_simp
        with_reducible rfl
      rotate_left
      · simp only [Act.put, List.setIfInBounds_toArray, List.set_cons_zero, List.set_cons_succ, i64_w, i32_w]
        rfl
      refine pure_ (i := 3) (N := some 70) (v := ?_) (a' := ?_) #[true, true, true, true, false, false, false, false, false, false] rfl rfl (by kernel_rfl) (fun _ _ _ h => h) (Or.inl ⟨by rfl, ?_⟩) ?_ ?_
      rotate_left
      · intro w'
        go_simp
        with_reducible rfl
      rotate_left
      · simp only [Act.put, List.setIfInBounds_toArray, List.set_cons_zero, List.set_cons_succ, i64_w, i32_w]
        rfl
      refine pure_ (i := 4) (N := some 71) (v := ?_) (a' := ?_) #[true, true, true, true, true, false, false, false, false, false] rfl rfl (by kernel_rfl) (fun _ _ _ h => h) (Or.inl ⟨by rfl, ?_⟩) ?_ ?_
      rotate_left
      · intro w'
        go_simp
        with_reducible rfl
      rotate_left
      · simp only [Act.put, List.setIfInBounds_toArray, List.set_cons_zero, List.set_cons_succ, i64_w, i32_w]
        rfl
      refine pure_ (i := 5) (N := some 72) (v := ?_) (a' := ?_) #[true, true, true, true, true, true, false, false, false, false] rfl rfl (by kernel_rfl) (fun _ _ _ h => h) (Or.inl ⟨by rfl, ?_⟩) ?_ ?_
      rotate_left
      · intro w'
        go_simp
        with_reducible rfl
      rotate_left
      · simp only [Act.put, List.setIfInBounds_toArray, List.set_cons_zero, List.set_cons_succ, i64_w, i32_w]
        rfl
      refine pure_ (i := 6) (N := some 73) (v := ?_) (a' := ?_) #[true, true, true, true, true, true, true, false, false, false] rfl rfl (by kernel_rfl) (fun _ _ _ h => h) (Or.inl ⟨by rfl, ?_⟩) ?_ ?_
      rotate_left
      · intro w'
        go_simp
        with_reducible rfl
      rotate_left
      · simp only [Act.put, List.setIfInBounds_toArray, List.set_cons_zero, List.set_cons_succ, i64_w, i32_w]
        rfl
      refine last_ (i := 7) (N := some 74) #[true, true, true, true, true, true, true, true, false, false] rfl rfl (by kernel_rfl) (by decide) (fun K hK => ?_)
      obtain ⟨w6, hw6⟩ : ∃ w6, w6 = wr.drew := ⟨_, rfl⟩
      rw [← hw6]
      have BK6 : Aside0 (w6.heap[w.heap.size]? = some (.cells cs2 5 (0, 0))) := ⟨by rw [hw6]; exact blk_drew BK.out⟩
      have HB6 : Aside0 (Below w.heap.size w w6) := ⟨by rw [hw6]; exact below_drew1 HB.out⟩
      clear hw6 BK HB hHeld
      obtain ⟨w7, cs3, hrun, bk3, hs3, hl3, hg3⟩ := Kd.run_copyBlk (P := Try.prog) (h1 := fun _ => rfl) (0 : Int) 3 24 24 5 Try.underlying24 (by kernel_rfl) w.heap.size bp (64 - bp) (64 - bp) (List.replicate bp v) (some ⟨w.heap.size, 0, none⟩) bp 64 (by omega) (W := w6) BK6.out (by have := HS.out; have := HCS.out; omega) (by have h_ := Kd.C_blkI (k := .u8) (xs := List.replicate bp v) BK6.out (by rw [List.length_replicate, HL.out, List.map_replicate]) (by rw [List.length_replicate]; omega); rw [List.length_replicate] at h_; exact h_)
      rw [← HQ.out] at hrun hl3
      have HRUN := Aside0.mk hrun
      have BK3 := Aside0.mk bk3
      have HS3 : Aside0 (cs3.size = cs.size) := ⟨hs3.trans HS.out⟩
      have HL3 : Aside0 (cs3.toList.take (bp + q) = List.replicate (bp + q) (Value.int .u8 v)) := ⟨by rw [hl3, HQ.out]; exact rep_step HL.out (by have h1_ := HS.out; have h2_ := HCS.out; have h3_ := Array.length_toList (xs := cs2); omega) hlt⟩
      have HB3 : Aside0 (Below w.heap.size w w7) := ⟨pw_below_grown HB6.out _ HB6.out.size hg3 (fun k hk => by cases hk; exact Nat.le_refl _)⟩
      clear hrun bk3 hs3 hl3 hg3 BK6 HB6 HS HL
      refine value_ (w1 := w7) (v := _) (by rfl) rfl (exec_copy (d := .tmp 70) (x := .tmp 73) rfl rfl rfl HRUN.out) ?_
      clear HRUN
      refine hK.out _ _ ?_
      clear hK K
      refine norm_ (a' := ?_) ?_ ?_
      rotate_left
      · show Act.put _ (some 74) _ = _
        simp only [Act.put, List.setIfInBounds_toArray, List.set_cons_zero, List.set_cons_succ, i64_w, i32_w]
        rfl
      refine pure_ (i := 8) (N := some 75) (v := ?_) (a' := ?_) #[true, true, true, true, true, true, true, true, true, false] rfl rfl (by kernel_rfl) (fun _ _ _ h => h) (Or.inl ⟨by rfl, ?_⟩) ?_ ?_
      rotate_left
      · intro w'
        go_simp
        with_reducible rfl
      rotate_left
      · simp only [Act.put, List.setIfInBounds_toArray, List.set_cons_zero, List.set_cons_succ, i64_w, i32_w]
        rfl
      refine pure_ (i := 9) (N := some 10) (v := ?_) (a' := ?_) #[true, true, true, true, true, true, true, true, true, true] rfl rfl (by kernel_rfl) (fun _ _ _ h => h) (Or.inl ⟨by rfl, ?_⟩) ?_ ?_
      rotate_left
      · intro w'
        go_simp
        with_reducible rfl
      rotate_left
      · simp only [Act.put, List.setIfInBounds_toArray, List.set_cons_zero, List.set_cons_succ, i64_w, i32_w]
        rfl
      refine done_ (by kernel_rfl) ?_
      go_wp2
      have hq := HQ.out
      exact ⟨⟨bp + q, cs3, rfl, ⟨by omega⟩, BK3, HS3, HL3, HB3⟩, by simp [intOf]; omega⟩
    · obtain rfl : bp = 64 := by omega
      go_wp2
      go_ret
      exact ⟨_, cs2, rfl, Nat.le_refl _, BK.out, HL.out, HB.out⟩
end Go.Proofs.Ytdknolnoimpgeaa.K
