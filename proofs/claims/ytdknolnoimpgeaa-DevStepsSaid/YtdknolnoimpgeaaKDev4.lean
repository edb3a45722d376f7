/- A disk's methods: flat, Safe, Bytes. -/
import Derived.Test.YtdknolnoimpgeaaKDev3
namespace Go.Proofs.Ytdknolnoimpgeaa.K
open Go.RowKit Go.Proofs.YtdknolnoimpgeaaW.PrintWords Go.Proofs.YtdknolnoimpgeaaW.PrintLast Go.Proofs.YtdknolnoimpgeaaW.PrintMore
set_option linter.unusedVariables false
set_option linter.unusedSimpArgs false
/-- make([]byte, 0, n): room of one's own. -/
theorem R_room (W : World) (Zc : Array Value) (n : Nat) (hn : Zc.size = n) (hm : n ≤ 9223372036854775807) : Kd.R (Kd.int .u8) 5 (W.alloc (.cells Zc 5)) W.heap.size (fun _ => True) (.slice (some ⟨W.heap.size, 0, none⟩) 0 n) [] :=
  Kd.R_of_own ⟨by simp [encs], .inr ⟨W.heap.size, n, Zc, rfl, Nat.le_refl _, heap_alloc_new _ _, Nat.zero_le _, by simpa [maxLen] using hm, by omega, by simp [encs]⟩⟩ (fun _ _ => trivial)
/-- A sector of a row, as bytes. -/
theorem C_sec {W : World} {A : Option Addr} {n m : Nat} {xs : List Sec} (h : Kd.C kSec W A n xs) (hm : m < xs.length) : ∃ ad, A = some ad ∧ Kd.C (Kd.int .u8) W (some (ad.add (m * 64))) 64 xs[m].1 := by
  obtain ⟨ad, he, hx⟩ := Kd.at_flat h hm
  refine ⟨ad, he, xs[m].2, by decide, fun _ => ⟨_, rfl, fun j p hp => ?_⟩⟩
  obtain ⟨hj, rfl⟩ := List.getElem?_eq_some_iff.1 hp
  refine ⟨[.int .u8 xs[m].1[j]], rfl, rfl, fun i u hu => ?_⟩
  have hi : i = 0 := by have := (List.getElem?_eq_some_iff.1 hu).1; simp at this; exact this
  subst hi
  have h2 := hx j (.int .u8 xs[m].1[j]) (by unfold Sec.enc; rw [List.getElem?_map, List.getElem?_eq_getElem hj]; rfl)
  rw [addr_add_add]
  have e : u = .int .u8 xs[m].1[j] := by simpa using hu.symm
  rw [e, show m * 64 + (j * (Kd.int .u8).sz + 0) = m * 64 + j by show m * 64 + (j * 1 + 0) = _; omega]
  exact h2
def flatN (l : List Sec) : List Int := l.flatMap (·.1)
theorem flatN_length : ∀ l : List Sec, (flatN l).length = 64 * l.length
  | [] => rfl
  | x :: l => by
    have := flatN_length l
    unfold flatN at this ⊢
    rw [List.flatMap_cons, List.length_append, this, x.2, List.length_cons]; omega
theorem flatN_take {l : List Sec} {m : Nat} (h : m < l.length) : flatN (l.take (m + 1)) = flatN (l.take m) ++ l[m].1 := by
  rw [List.take_succ_eq_append_getElem h]
  simp only [flatN, List.flatMap_append, List.flatMap_cons, List.flatMap_nil, List.append_nil]
set_option maxHeartbeats 4000000 in
set_option maxRecDepth 100000 in
theorem flat_walk (A : Option Addr) (c : Nat) (l : List Sec) (w : World) (hr : Kd.C kSec w A l.length l) (hl : l.length ≤ 1000000) :
    Calls Try.prog 123 #[.slice A l.length c] w fun e w' => ∃ v : Value, e = .returned v ∧ Kd.R (Kd.int .u8) 5 w' w.heap.size (fun _ => True) v (flatN l) ∧ Below w.heap.size w w' := by
  have HR := Aside0.mk hr
  have HB := Aside0.mk (Below.refl w.heap.size w)
  have HL := Aside0.mk hl
  obtain ⟨n, hn⟩ : ∃ n, n = l.length := ⟨_, rfl⟩
  rw [← hn] at HR ⊢
  have HN := Aside0.mk hn
  have hn1 : n ≤ 1000000 := by omega
  have hw : RowKit.wrap64 (64 * (n : Int)) = 64 * (n : Int) := by unfold RowKit.wrap64; omega
  obtain ⟨Zc, hzs, hmk⟩ : ∃ Zc : Array Value, Zc.size = 64 * n ∧ ∀ W : World, (Instr.makeSlice 24 (.int .i64 0) (.int .i64 (64 * (n : Int)))).run Try.prog W = .ok (.slice (some ⟨W.heap.size, 0, none⟩) 0 (64 * n)) (W.alloc (.cells Zc 5)) := by
    obtain ⟨i0, hi, hzz⟩ := Option.map_eq_some_iff.1 u8info
    simp only [Prod.mk.injEq] at hzz
    obtain ⟨hz0, hz1, hz2⟩ := hzz
    refine ⟨madeCells (Value.int .u8 0).cells (64 * n), by simp [size_madeCells], fun W => ?_⟩
    have hr := run_make (P := Try.prog) W 24 5 i0 (.int .u8 0) Try.underlying24 hi hz0 .i64 .i64 0 (64 * (n : Int)) (by omega) (by omega) (by rw [hz2]; omega) (by omega)
    have e : (64 * (n : Int)).toNat = 64 * n := by omega
    simpa [hz1, e] using hr
  have HO : Aside0 (Kd.R (Kd.int .u8) 5 (w.alloc (.cells Zc 5)) w.heap.size (fun _ => True) (.slice (some ⟨w.heap.size, 0, none⟩) 0 (64 * n)) (flatN (l.take 0))) := ⟨R_room w Zc (64 * n) hzs (by omega)⟩
  clear hr hl hn hzs
  go_enter Try.func123, Try.ntmps123
  go_wp2
  go_loopw [3, 11] (fun v3 v11 w' => ∃ (m : Nat) (Av : Option Addr) (nv cv : Nat), v11 = .int .i64 m ∧ v3 = .slice Av nv cv ∧ Aside0 (m ≤ n) ∧ Aside0 (Kd.R (Kd.int .u8) 5 w' w.heap.size (fun _ => True) (.slice Av nv cv) (flatN (l.take m))) ∧ Aside0 (Below w.heap.size w w')) (fun _ i _ => n - (intOf i).toNat)
  case atStart => exact ⟨0, _, _, _, rfl, rfl, ⟨Nat.zero_le _⟩, HO, ⟨below_alloc HB.out _⟩⟩
  case round =>
    clear HB HO
    obtain ⟨m, Av, nv, cv, rfl, rfl, hm, HO, HB⟩ := hrel
    have hm' := hm.out
    by_cases hlt : m < n
    · have hml : m < l.length := by rw [← HN.out]; exact hlt
      obtain ⟨ad, rfl, hS⟩ := C_sec (Kd.C_below HR.out HB.out) hml
      have HS := Aside0.mk hS
      have HT := Aside0.mk (flatN_take hml)
      obtain ⟨x, hxx⟩ : ∃ x, x = l[m] := ⟨_, rfl⟩
      rw [← hxx] at HS HT
      have HLX : Aside0 (((flatN (l.take m)).length + 64) * 1 ≤ 140737488355328) := ⟨by rw [flatN_length, List.length_take]; have := HL.out; omega⟩
      clear hS hxx hml
      go_wp2_with ((with_reducible refine gate_builtin (b := .append) (xs := #[.tmp 14, .tmp 18]) rfl ?_); at_builtin; go_loud (refine Kd.R_append_rows (Kd.int .u8) (w0 := w) w.heap.size rfl (.tmp 14) (.tmp 18) 24 5 (.int .u8 0) 1 rfl Try.underlying24 u8info rfl (by decide) (by omega) (.slice Av nv cv) (flatN (l.take m)) x.1 _ _ _ (fun _ => True) (fun _ => False) rfl rfl ?aO ?aR (fun _ _ h => h) (fun _ h => h.elim) ?aF ?aB ?aS ?aL ?_); (case aR => exact HS.out); (case aB => exact (by repeat (first | (with_reducible first | exact HB.out | apply below_alloc | apply pw_below_drewN | apply below_drew1) | exact HB.out))); (case aF => exact (fun _ _ => trivial)); (case aO => exact (by (with_reducible repeat (first | apply Kd.R_alloc | apply Kd.R_drewN | apply Kd.R_drew)); exact HO.out)); (case aS => exact (below_size (by repeat (first | (with_reducible first | exact HB.out | apply below_alloc | apply pw_below_drewN | apply below_drew1) | exact HB.out)))); (case aL => have h_ := HLX.out; first | exact h_ | (rw [x.2]; exact h_) | (have := x.2; omega)); intro v1 w11 ho hb hg hat; have n0_ := Aside0.mk (hb); have n1_ := Aside0.mk (ho); clear HB; clear HO; have HB := n0_; have HO1 := n1_; clear n0_ n1_; clear ho hb hg hat)
      obtain ⟨A1, c1, hv1⟩ := Kd.R_slice HO1.out
      subst hv1
      refine ⟨⟨m + 1, A1, _, c1, rfl, rfl, ⟨by omega⟩, ⟨by rw [HT.out]; exact HO1.out⟩, HB⟩, by simp [intOf]; omega⟩
    · have hmn : m = n := by omega
      subst hmn
      have e0 : l.take m = l := List.take_of_length_le (by rw [← HN.out]; exact Nat.le_refl _)
      rw [e0] at HO
      go_wp2
      go_ret
      exact ⟨_, rfl, HO.out, HB.out⟩
set_option maxRecDepth 100000 in
theorem devSafe_nil (W : World) : Calls Try.prog 77 #[.pointer none] W fun e w' => e = .returned (.slice none 0 0) ∧ w' = W := by
  go_enter Try.func77, Try.ntmps77
  go_wp2
  go_ret
  exact ⟨rfl, rfl⟩
set_option maxRecDepth 100000 in
theorem devSafe_walk (base p : Nat) (s : DiskS) (vs vn vw : Value) (W : World) (h : DiskR W base p s vs vn vw) (hl : s.safe.length ≤ 1000000) :
    Calls Try.prog 77 #[.pointer (some ⟨p, 0, none⟩)] W fun e w' => ∃ v : Value, e = .returned v ∧ Kd.R (Kd.int .u8) 5 w' W.heap.size (fun _ => True) v (flatN s.safe) ∧ Below W.heap.size W w' := by
  have HR := h.safe
  have b0 : W.cell? ⟨p, 0, none⟩ = some vs := (blk_cell h.blk 0).trans rfl
  obtain ⟨A, c, hv⟩ := Kd.R_slice HR
  subst hv
  have WF := Aside0.mk (flat_walk A c s.safe W (Kd.R_reads' HR).2.2 hl)
  clear h HR
  go_enter Try.func77, Try.ntmps77
  go_wp2_with (go_at_call 123; (with_reducible refine WF.out.mono ?_); rintro e w1 ⟨v1, rfl, ho, hb⟩; have HO := Aside0.mk ho; have HB := Aside0.mk hb; clear ho hb)
  go_ret
  exact ⟨_, rfl, HO.out, HB.out⟩
set_option maxRecDepth 100000 in
theorem devBytes_nil (W : World) : Calls Try.prog 78 #[.pointer none] W fun e w' => e = .returned (.slice none 0 0) ∧ w' = W := by
  go_enter Try.func78, Try.ntmps78
  go_wp2
  go_ret
  exact ⟨rfl, rfl⟩
set_option maxRecDepth 100000 in
theorem devBytes_walk (base p : Nat) (s : DiskS) (vs vn vw : Value) (W : World) (h : DiskR W base p s vs vn vw) (hl : s.now.length ≤ 1000000) :
    Calls Try.prog 78 #[.pointer (some ⟨p, 0, none⟩)] W fun e w' => ∃ v : Value, e = .returned v ∧ Kd.R (Kd.int .u8) 5 w' W.heap.size (fun _ => True) v (flatN s.now) ∧ Below W.heap.size W w' := by
  have HR := h.now
  have b0 : W.cell? ⟨p, 1, none⟩ = some vn := (blk_cell h.blk 1).trans rfl
  obtain ⟨A, c, hv⟩ := Kd.R_slice HR
  subst hv
  have WF := Aside0.mk (flat_walk A c s.now W (Kd.R_reads' HR).2.2 hl)
  clear h HR
  go_enter Try.func78, Try.ntmps78
  go_wp2_with (go_at_call 123; (with_reducible refine WF.out.mono ?_); rintro e w1 ⟨v1, rfl, ho, hb⟩; have HO := Aside0.mk ho; have HB := Aside0.mk hb; clear ho hb)
  go_ret
  exact ⟨_, rfl, HO.out, HB.out⟩
end Go.Proofs.Ytdknolnoimpgeaa.K
