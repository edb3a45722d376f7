/- A disk's methods: Write. -/
import Derived.Test.YtdknolnoimpgeaaKDev7
namespace Go.Proofs.Ytdknolnoimpgeaa.K
open Go.RowKit Go.Proofs.YtdknolnoimpgeaaW.PrintWords Go.Proofs.YtdknolnoimpgeaaW.PrintLast Go.Proofs.YtdknolnoimpgeaaW.PrintMore
set_option linter.unusedVariables false
set_option linter.unusedSimpArgs false
theorem DFrame.drew {base : Nat} {W W' : World} (h : DFrame base W W') : DFrame base W W'.drew := ⟨below_drew1 h.below, fun k cs t fr hk ht => (h.keep k cs t fr hk ht)⟩
theorem peninfo2 : (Try.prog.info? TPen).map (fun i => (i.zero, i.size)) = some (some (.agg (Value.int .i64 0 :: List.replicate 64 (Value.int .u8 0)).toArray), 65) := by kernel_rfl
/-- Data that a disk's calls leave as they are. -/
def KeepsC (base : Nat) (W : World) (A : Option Addr) (l : List Int) : Prop := ∀ W', DFrame base W W' → Kd.C (Kd.int .u8) W' A l.length l
theorem KeepsC.step {base : Nat} {W W' : World} {A : Option Addr} {l : List Int} (h : KeepsC base W A l) (k : DFrame base W W') : KeepsC base W' A l := fun W2 q => h W2 (k.trans q)
/-- What Write answers, and the disk behind it. -/
def writeE (s : DiskS) (i : Int) (b : List Int) : Int := if atE s i ≠ 0 then 3 else if b.length ≠ 64 then 1 else burnE s
def writeS (s : DiskS) (i : Int) (b : List Int) : DiskS :=
  if atE s i ≠ 0 then s else if b.length ≠ 64 then s else if burnE s ≠ 0 then burnS s
  else { burnS s with now := s.now.set i.toNat (toSec b), wait := s.wait ++ [⟨i, toSec b⟩], wr := s.wr + 1 }
theorem burnS_now (s : DiskS) : (burnS s).now = s.now := by unfold burnS; split <;> (try split) <;> rfl
theorem burnS_safe (s : DiskS) : (burnS s).safe = s.safe := by unfold burnS; split <;> (try split) <;> rfl
theorem burnS_wait (s : DiskS) : (burnS s).wait = s.wait := by unfold burnS; split <;> (try split) <;> rfl
theorem burnS_wr (s : DiskS) : (burnS s).wr = s.wr := by unfold burnS; split <;> (try split) <;> rfl
theorem burnS_fl (s : DiskS) : (burnS s).fl = s.fl := by unfold burnS; split <;> (try split) <;> rfl
set_option maxRecDepth 100000 in
theorem devWrite_nil (i : Int) (v : Value) (W : World) : Calls Try.prog 71 #[.pointer none, .int .i64 i, v] W fun e w' => e = .returned (.int .i64 7) ∧ w' = W := by
  go_enter Try.func71, Try.ntmps71
  go_wp2_with (go_at_call 121; (with_reducible refine (devAt_nil i _).mono ?_); rintro e w' ⟨rfl, h_⟩; have h_ := h_.symm; subst h_)
  go_ret
  exact ⟨rfl, rfl⟩
set_option maxHeartbeats 4000000 in
set_option maxRecDepth 100000 in
theorem devWrite_walk (base p : Nat) (s : DiskS) (vs vn vw : Value) (i : Int) (A : Option Addr) (c : Nat) (b : List Int) (W : World) (h : DiskR W base p s vs vn vw) (hn : s.now.length = s.safe.length) (hb : KeepsC base W A b)
    (hl0 : -1 ≤ s.left) (hl1 : s.left ≤ 9223372036854775807) (hwl : s.wait.length ≤ 1000000) (hw0 : 0 ≤ s.wr) (hw1 : s.wr ≤ 1000000) :
    Calls Try.prog 71 #[.pointer (some ⟨p, 0, none⟩), .int .i64 i, .slice A b.length c] W fun e w' => e = .returned (.int .i64 (writeE s i b)) ∧ (∃ vw', DiskR w' base p (writeS s i b) vs vn vw') ∧ DFrame base W w' := by
  have HA := Aside0.mk (devAt_walk base p s vs vn vw i W h)
  by_cases hat : atE s i = 0
  case neg =>
    have E3 : atE s i = 3 := by unfold atE at hat ⊢; split at hat <;> simp_all
    have EV : Aside0 (writeS s i b = s) := ⟨by unfold writeS; rw [if_pos hat]⟩
    have EE : Aside0 (writeE s i b = 3) := ⟨by unfold writeE; rw [if_pos hat]⟩
    rw [E3] at HA
    have HD := Aside0.mk h
    clear hat h E3 hb hl0 hl1 hwl hw0 hw1 hn
    go_enter Try.func71, Try.ntmps71
    go_wp2_with (go_at_call 121; (with_reducible refine HA.out.mono ?_); rintro e w' ⟨rfl, h_⟩; have h_ := h_.symm; subst h_)
    go_ret
    rw [EV.out, EE.out]
    exact ⟨rfl, ⟨_, HD.out⟩, DFrame.refl _ _⟩
  rw [hat] at HA
  by_cases hbl : b.length = 64
  case neg =>
    have EV : Aside0 (writeS s i b = s) := ⟨by unfold writeS; rw [if_neg (by simpa using hat), if_pos hbl]⟩
    have EE : Aside0 (writeE s i b = 1) := ⟨by unfold writeE; rw [if_neg (by simpa using hat), if_pos hbl]⟩
    have HD := Aside0.mk h
    obtain ⟨n, hnb⟩ : ∃ n, n = b.length := ⟨_, rfl⟩
    rw [← hnb] at hbl ⊢
    have hne : ((n : Int) != 64) = true := by simp; omega
    clear hat h hb hl0 hl1 hwl hw0 hw1 hn hbl hnb
    go_enter Try.func71, Try.ntmps71
    go_wp2_with (go_at_call 121; (with_reducible refine HA.out.mono ?_); rintro e w' ⟨rfl, h_⟩; have h_ := h_.symm; subst h_)
    go_ret
    rw [EV.out, EE.out]
    exact ⟨rfl, ⟨_, HD.out⟩, DFrame.refl _ _⟩
  have WB := Aside0.mk (burn_walk base p s vs vn vw W h hl0 hl1)
  by_cases hbu : burnE s = 0
  case neg =>
    have E4 : burnE s = 4 := by unfold burnE at hbu ⊢; split at hbu <;> simp_all
    have EV : Aside0 (writeS s i b = burnS s) := ⟨by unfold writeS; rw [if_neg (by simpa using hat), if_neg (by simpa using hbl), if_pos hbu]⟩
    have EE : Aside0 (writeE s i b = 4) := ⟨by unfold writeE; rw [if_neg (by simpa using hat), if_neg (by simpa using hbl), E4]⟩
    rw [E4] at WB
    rw [hbl]
    clear hat h hb hl0 hl1 hwl hw0 hw1 hn hbl hbu E4
    go_enter Try.func71, Try.ntmps71
    go_wp2_with (first | (go_at_call 121; (with_reducible refine HA.out.mono ?_); rintro e w' ⟨rfl, h_⟩; have h_ := h_.symm; subst h_) | (go_at_call 122; (with_reducible refine WB.out.mono ?_); rintro e w1 ⟨rfl, hD, hF⟩; have D1 := Aside0.mk hD; have F1 := Aside0.mk hF; clear hD hF))
    go_ret
    rw [EV.out, EE.out]
    exact ⟨rfl, ⟨_, D1.out⟩, F1.out⟩
  rw [hbu] at WB
  have hi : 0 ≤ i ∧ i < s.safe.length := by unfold atE at hat; by_cases hh : 0 ≤ i ∧ i < s.safe.length <;> simp_all
  obtain ⟨m, hm⟩ : ∃ m : Nat, i = m := ⟨i.toNat, by omega⟩
  subst hm
  have hml : m < s.now.length := by omega
  obtain ⟨g, c1, hvn, _⟩ := h.putNow hml (toSec b)
  subst hvn
  have EV : Aside0 (writeS s m b = { burnS s with now := s.now.set m (toSec b), wait := s.wait ++ [⟨m, toSec b⟩], wr := s.wr + 1 }) := ⟨by unfold writeS; rw [if_neg (by simpa using hat), if_neg (by simpa using hbl), if_neg (by simpa using hbu)]; simp⟩
  have EE : Aside0 (writeE s m b = 0) := ⟨by unfold writeE; rw [if_neg (by simpa using hat), if_neg (by simpa using hbl), hbu]⟩
  have HK := Aside0.mk hb
  have HBL := Aside0.mk hbl
  have HML := Aside0.mk hml
  obtain ⟨n, hnn⟩ : ∃ n, n = s.now.length := ⟨_, rfl⟩
  have HN := Aside0.mk hnn
  have HWL := Aside0.mk hwl
  have hmn : m < n := by omega
  rw [hbl]
  have hC0 := hb W (DFrame.refl _ _)
  rw [hbl] at hC0
  obtain ⟨ad, rfl, _⟩ := Kd.at_int hC0 0 (by omega) (by omega)
  have hap := fun W => run_arrayAt (P := Try.prog) W 141 5 64 (some ad) 64 c Try.underlying141 (Nat.le_refl _)
  have hld : ∀ W, Kd.C (Kd.int .u8) W (some ad) 64 b → (Instr.loadAt 141 (.pointer (some ad))).run Try.prog W = .ok (.agg (toSec b).enc.toArray) W := fun W h => load_sec h (by omega)
  rw [← hnn] at WB ⊢
  have hw9 : RowKit.wrap64 (s.wr + 1) = s.wr + 1 := by unfold RowKit.wrap64; omega
  obtain ⟨wr, hwr⟩ : ∃ wr, wr = s.wr := ⟨_, rfl⟩
  rw [← hwr] at hw9 EV
  have HWR := Aside0.mk hwr
  obtain ⟨x, hx⟩ : ∃ x, x = toSec b := ⟨_, rfl⟩
  rw [← hx] at EV hld
  clear hat h hb hl0 hl1 hwl hw0 hw1 hn hbl hbu hi hml hC0 hnn hwr
  go_enter Try.func71, Try.ntmps71
  go_wp2_with (first | (go_at_call 121; (with_reducible refine HA.out.mono ?_); rintro e w' ⟨rfl, h_⟩; have h_ := h_.symm; subst h_) | (go_at_call 122; (with_reducible refine WB.out.mono ?_); rintro e w1 ⟨rfl, hD, hF⟩; have D1 := Aside0.mk hD; have F1 := Aside0.mk hF; clear hD hF))
  have HM : Aside0 (Kd.C (Kd.int .u8) w1 (some ad) 64 b) := ⟨by have := HK.out _ F1.out; rw [HBL.out] at this; exact this⟩
  refine start_ (n := 10) (S := fun w' => w'.cell? ⟨p, 1, none⟩ = some (.slice (some ⟨g, 0, none⟩) n c1) ∧ Kd.C (Kd.int .u8) w' (some ad) 64 b) (ds := [9]) #[false, false, false, false, false, false, false, false, false, false] (by kernel_rfl) rfl rfl ⟨(by have h_ := (blk_cell (blk_drew D1.out.blk) 1).trans rfl; exact h_), Kd.C_drew HM.out⟩ (fun hHeld => ?_)
  refine pure_ (i := 0) (N := some 23) (v := ?_) (a' := ?_) #[true, false, false, false, false, false, false, false, false, false] rfl rfl (by kernel_rfl) (fun _ _ _ h => h) (Or.inl ⟨by rfl, ?_⟩) ?_ ?_
  rotate_left
  · intro w'
    go_simp
    with_reducible rfl
  rotate_left
  · simp only [Act.put, List.setIfInBounds_toArray, List.set_cons_zero, List.set_cons_succ, i64_w, i32_w]
    rfl
  refine pure_ (i := 1) (N := some 24) (v := ?_) (a' := ?_) #[true, true, false, false, false, false, false, false, false, false] rfl rfl (by kernel_rfl) (fun _ _ _ h => h) (Or.inl ⟨by rfl, ?_⟩) ?_ ?_
  rotate_left
  · intro w'
    go_simp
    with_reducible rfl
  rotate_left
  · simp only [Act.put, List.setIfInBounds_toArray, List.set_cons_zero, List.set_cons_succ, i64_w, i32_w]
    rfl
  refine pure_ (i := 2) (N := some 25) (v := ?_) (a' := ?_) #[true, true, true, false, false, false, false, false, false, false] rfl rfl (by kernel_rfl) (fun _ _ _ h => h) (Or.inl ⟨by rfl, ?_⟩) ?_ ?_
  rotate_left
  · intro w'
    go_simp
    with_reducible rfl
  rotate_left
  · simp only [Act.put, List.setIfInBounds_toArray, List.set_cons_zero, List.set_cons_succ, i64_w, i32_w]
    rfl
  refine pure_ (i := 4) (N := some 27) (v := ?_) (a' := ?_) #[true, true, true, false, true, false, false, false, false, false] rfl rfl (by kernel_rfl) (fun _ _ _ h => h) (Or.inl ⟨by rfl, ?_⟩) ?_ ?_
  rotate_left
  · intro w'
    go_simp
    with_reducible rfl
  rotate_left
  · simp only [Act.put, List.setIfInBounds_toArray, List.set_cons_zero, List.set_cons_succ, i64_w, i32_w]
    rfl
  refine pure_ (i := 5) (N := some 28) (v := ?_) (a' := ?_) #[true, true, true, false, true, true, false, false, false, false] rfl rfl (by kernel_rfl) (fun _ _ _ h => h) (Or.inl ⟨by rfl, ?_⟩) ?_ ?_
  rotate_left
  · intro w'
    go_simp
    with_reducible rfl
  rotate_left
  · simp only [Act.put, List.setIfInBounds_toArray, List.set_cons_zero, List.set_cons_succ, i64_w, i32_w]
    rfl
  refine pure_ (i := 6) (N := some 29) (v := ?_) (a' := ?_) #[true, true, true, false, true, true, true, false, false, false] rfl rfl (by kernel_rfl) (fun _ _ _ h => h) (Or.inl ⟨by rfl, ?_⟩) ?_ ?_
  rotate_left
  · intro w'
    go_simp
    with_reducible rfl
  rotate_left
  · simp only [Act.put, List.setIfInBounds_toArray, List.set_cons_zero, List.set_cons_succ, i64_w, i32_w]
    rfl
  refine take_ (i := 3) (N := some 26) (v := ?_) (a' := ?_) #[true, true, true, true, true, true, true, false, false, false] rfl rfl (by kernel_rfl) (fun _ _ _ h => h) (Or.inl ⟨by rfl, ?_⟩) hHeld ?_ ?_
  rotate_left
  · rintro w' ⟨s0, s1⟩
    go_simp
    with_reducible rfl
  rotate_left
  · simp only [Act.put, List.setIfInBounds_toArray, List.set_cons_zero, List.set_cons_succ, i64_w, i32_w]
    rfl
  refine take_ (i := 7) (N := some 30) (v := ?_) (a' := ?_) #[true, true, true, true, true, true, true, true, false, false] rfl rfl (by kernel_rfl) (fun _ _ _ h => h) (Or.inl ⟨by rfl, ?_⟩) hHeld ?_ ?_
  rotate_left
  · rintro w' ⟨s0, s1⟩
    rw [exec_load rfl (show _ = Value.pointer (some ad) from rfl) (hld w' s1)]
  rotate_left
  · simp only [Act.put, List.setIfInBounds_toArray, List.set_cons_zero, List.set_cons_succ, i64_w, i32_w]
    rfl
  refine pure_ (i := 8) (N := some 31) (v := ?_) (a' := ?_) #[true, true, true, true, true, true, true, true, true, false] rfl rfl (by kernel_rfl) (fun _ _ _ h => h) (Or.inl ⟨by rfl, ?_⟩) ?_ ?_
  rotate_left
  · intro w'
    go_simp
    with_reducible rfl
  rotate_left
  · simp only [Act.put, List.setIfInBounds_toArray, List.set_cons_zero, List.set_cons_succ, i64_w, i32_w]
    rfl
  refine last_ (i := 9) (N := none) #[true, true, true, true, true, true, true, true, true, true] rfl rfl (by kernel_rfl) (by decide) (fun K hK => ?_)
  obtain ⟨w6, hw6⟩ : ∃ w6, w6 = w1.drew := ⟨_, rfl⟩
  rw [← hw6] at hHeld ⊢
  have D6 : Aside0 (DiskR w6 base p (burnS s) vs (.slice (some ⟨g, 0, none⟩) n c1) vw) := ⟨by rw [hw6]; exact D1.out.drew⟩
  have F6 : Aside0 (DFrame base W w6) := ⟨by rw [hw6]; exact F1.out.drew⟩
  have N6 : Aside0 (m < (burnS s).now.length) := ⟨by rw [burnS_now]; exact HML.out⟩
  obtain ⟨g_, c_, hv_, ht6, hD6, hF6⟩ := D6.out.putNow N6.out x
  obtain rfl : g = g_ := by cases hv_; rfl
  clear hv_
  have D7 := Aside0.mk hD6
  have F7 := Aside0.mk (F6.out.trans hF6)
  clear hD6 hF6 hw6 D1 F1 HM hHeld D6 F6 N6
  refine skip_ (w1 := w6.setCells g (m * 64) x.enc) (by rfl) rfl ?_ ?_
  · exact exec_store (x := .tmp 31) (y := .tmp 30) rfl rfl rfl (run_storeAt_mid w6 g (m * 64) TSec x.enc.toArray (by simpa [Sec.len] using ht6) (by rw [show x.enc.toArray.size = 64 by simp [Sec.len]]; exact secsize) (all_oneCell_toArray (Sec.one x)))
  refine hK.out _ _ ?_
  clear hK K
  refine done_ (by kernel_rfl) ?_
  obtain ⟨w7, hw7⟩ : ∃ w7, w7 = w6.setCells g (m * 64) x.enc := ⟨_, rfl⟩
  rw [← hw7] at D7 F7 ⊢
  clear hw7 ht6 hap hld
  have HS7 : Aside0 (Kd.C (Kd.int .u8) w7 (some ⟨g, m * 64, none⟩) 64 x.1) := ⟨by
    have h1 := (Kd.R_reads' D7.out.now).2.2
    have hm7 : m < ((burnS s).now.set m x).length := by rw [List.length_set, burnS_now]; exact HML.out
    obtain ⟨ad_, he, hS⟩ := C_sec h1 hm7
    cases he
    rw [Addr.add_mid, Nat.zero_add] at hS
    simpa using hS⟩
  have hld7 : ∀ W, Kd.C (Kd.int .u8) W (some ⟨g, m * 64, none⟩) 64 x.1 → (Instr.loadAt 141 (.pointer (some ⟨g, m * 64, none⟩))).run Try.prog W = .ok (.agg x.enc.toArray) W := fun W h => by
    have h1 := load_sec h (by rw [x.2]; exact Nat.le_refl _)
    rwa [show toSec x.1 = x from Sec.ext (toSec_self x.2)] at h1
  have HLIM : Aside0 (((burnS s).wait.length + 1) * 72 ≤ 140737488355328) := ⟨by rw [burnS_wait]; have := HWL.out; omega⟩
  go_wp2
  refine start_ (n := 19) (S := fun w' => w'.cell? ⟨p, 1, none⟩ = some (.slice (some ⟨g, 0, none⟩) n c1) ∧ w'.cell? ⟨p, 2, none⟩ = some vw ∧ Kd.C (Kd.int .u8) w' (some ⟨g, m * 64, none⟩) 64 x.1) (ds := [15, 18]) #[false, false, false, false, false, false, false, false, false, false, false, false, false, false, false, false, false, false, false] (by kernel_rfl) rfl rfl ⟨(by have h_ := (blk_cell (blk_drew D7.out.blk) 1).trans rfl; exact h_), (by have h_ := (blk_cell (blk_drew D7.out.blk) 2).trans rfl; exact h_), Kd.C_drew HS7.out⟩ (fun hHeld => ?_)
  refine pure_ (i := 0) (N := some 32) (v := ?_) (a' := ?_) #[true, false, false, false, false, false, false, false, false, false, false, false, false, false, false, false, false, false, false] rfl rfl (by kernel_rfl) (fun _ _ _ h => h) (Or.inl ⟨by rfl, ?_⟩) ?_ ?_
  rotate_left
  · intro w'
    go_simp
    with_reducible rfl
  rotate_left
  · simp only [Act.put, List.setIfInBounds_toArray, List.set_cons_zero, List.set_cons_succ, i64_w, i32_w]
    rfl
  refine pure_ (i := 1) (N := some 33) (v := ?_) (a' := ?_) #[true, true, false, false, false, false, false, false, false, false, false, false, false, false, false, false, false, false, false] rfl rfl (by kernel_rfl) (fun _ _ _ h => h) (Or.inl ⟨by rfl, ?_⟩) ?_ ?_
  rotate_left
  · intro w'
    go_simp
    with_reducible rfl
  rotate_left
  · simp only [Act.put, List.setIfInBounds_toArray, List.set_cons_zero, List.set_cons_succ, i64_w, i32_w]
    rfl
  refine pure_ (i := 2) (N := some 34) (v := ?_) (a' := ?_) #[true, true, true, false, false, false, false, false, false, false, false, false, false, false, false, false, false, false, false] rfl rfl (by kernel_rfl) (fun _ _ _ h => h) (Or.inl ⟨by rfl, ?_⟩) ?_ ?_
  rotate_left
  · intro w'
    go_simp
    with_reducible rfl
  rotate_left
  · simp only [Act.put, List.setIfInBounds_toArray, List.set_cons_zero, List.set_cons_succ, i64_w, i32_w]
    rfl
  refine pure_ (i := 3) (N := some 35) (v := ?_) (a' := ?_) #[true, true, true, true, false, false, false, false, false, false, false, false, false, false, false, false, false, false, false] rfl rfl (by kernel_rfl) (fun _ _ _ h => h) (Or.inl ⟨by rfl, ?_⟩) ?_ ?_
  rotate_left
  · intro w'
    go_simp
    with_reducible rfl
  rotate_left
  · simp only [Act.put, List.setIfInBounds_toArray, List.set_cons_zero, List.set_cons_succ, i64_w, i32_w]
    rfl
  refine pure_ (i := 5) (N := some 37) (v := ?_) (a' := ?_) #[true, true, true, true, false, true, false, false, false, false, false, false, false, false, false, false, false, false, false] rfl rfl (by kernel_rfl) (fun _ _ _ h => h) (Or.inl ⟨by rfl, ?_⟩) ?_ ?_
  rotate_left
  · intro w'
    go_simp
    with_reducible rfl
  rotate_left
  · simp only [Act.put, List.setIfInBounds_toArray, List.set_cons_zero, List.set_cons_succ, i64_w, i32_w]
    rfl
  refine pure_ (i := 6) (N := some 38) (v := ?_) (a' := ?_) #[true, true, true, true, false, true, true, false, false, false, false, false, false, false, false, false, false, false, false] rfl rfl (by kernel_rfl) (fun _ _ _ h => h) (Or.inl ⟨by rfl, ?_⟩) ?_ ?_
  rotate_left
  · intro w'
    go_simp
    with_reducible rfl
  rotate_left
  · simp only [Act.put, List.setIfInBounds_toArray, List.set_cons_zero, List.set_cons_succ, i64_w, i32_w]
    rfl
  refine pure_ (i := 7) (N := some 39) (v := ?_) (a' := ?_) #[true, true, true, true, false, true, true, true, false, false, false, false, false, false, false, false, false, false, false] rfl rfl (by kernel_rfl) (fun _ _ _ h => h) (Or.inl ⟨by rfl, ?_⟩) ?_ ?_
  rotate_left
  · intro w'
    go_simp
    with_reducible rfl
  rotate_left
  · simp only [Act.put, List.setIfInBounds_toArray, List.set_cons_zero, List.set_cons_succ, i64_w, i32_w]
    rfl
  refine pure_ (i := 8) (N := some 40) (v := ?_) (a' := ?_) #[true, true, true, true, false, true, true, true, true, false, false, false, false, false, false, false, false, false, false] rfl rfl (by kernel_rfl) (fun _ _ _ h => h) (Or.inl ⟨by rfl, ?_⟩) ?_ ?_
  rotate_left
  · intro w'
    go_simp
    with_reducible rfl
  rotate_left
  · simp only [Act.put, List.setIfInBounds_toArray, List.set_cons_zero, List.set_cons_succ, i64_w, i32_w]
    rfl
  refine pure_ (i := 10) (N := some 42) (v := ?_) (a' := ?_) #[true, true, true, true, false, true, true, true, true, false, true, false, false, false, false, false, false, false, false] rfl rfl (by kernel_rfl) (fun _ _ _ h => h) (Or.inl ⟨by rfl, ?_⟩) ?_ ?_
  rotate_left
  · intro w'
    go_simp
    with_reducible rfl
  rotate_left
  · simp only [Act.put, List.setIfInBounds_toArray, List.set_cons_zero, List.set_cons_succ, i64_w, i32_w]
    rfl
  refine take_ (i := 4) (N := some 36) (v := ?_) (a' := ?_) #[true, true, true, true, true, true, true, true, true, false, true, false, false, false, false, false, false, false, false] rfl rfl (by kernel_rfl) (fun _ _ _ h => h) (Or.inl ⟨by rfl, ?_⟩) hHeld ?_ ?_
  rotate_left
  · rintro w' ⟨s0, s1, s2⟩
    go_simp
    with_reducible rfl
  rotate_left
  · simp only [Act.put, List.setIfInBounds_toArray, List.set_cons_zero, List.set_cons_succ, i64_w, i32_w]
    rfl
  refine take_ (i := 9) (N := some 41) (v := ?_) (a' := ?_) #[true, true, true, true, true, true, true, true, true, true, true, false, false, false, false, false, false, false, false] rfl rfl (by kernel_rfl) (fun _ _ _ h => h) (Or.inl ⟨by rfl, ?_⟩) hHeld ?_ ?_
  rotate_left
  · rintro w' ⟨s0, s1, s2⟩
    go_simp
    with_reducible rfl
  rotate_left
  · simp only [Act.put, List.setIfInBounds_toArray, List.set_cons_zero, List.set_cons_succ, i64_w, i32_w]
    rfl
  refine pure_ (i := 11) (N := some 43) (v := ?_) (a' := ?_) #[true, true, true, true, true, true, true, true, true, true, true, true, false, false, false, false, false, false, false] rfl rfl (by kernel_rfl) (fun _ _ _ h => h) (Or.inl ⟨by rfl, ?_⟩) ?_ ?_
  rotate_left
  · intro w'
    go_simp
    with_reducible rfl
  rotate_left
  · simp only [Act.put, List.setIfInBounds_toArray, List.set_cons_zero, List.set_cons_succ, i64_w, i32_w]
    rfl
  refine take_ (i := 12) (N := some 44) (v := ?_) (a' := ?_) #[true, true, true, true, true, true, true, true, true, true, true, true, true, false, false, false, false, false, false] rfl rfl (by kernel_rfl) (fun _ _ _ h => h) (Or.inl ⟨by rfl, ?_⟩) hHeld ?_ ?_
  rotate_left
  · rintro w' ⟨s0, s1, s2⟩
    rw [exec_load rfl (show _ = Value.pointer (some ⟨g, m * 64, none⟩) from rfl) (hld7 w' s2)]
  rotate_left
  · simp only [Act.put, List.setIfInBounds_toArray, List.set_cons_zero, List.set_cons_succ, i64_w, i32_w]
    rfl
  refine pure_ (i := 13) (N := some 45) (v := ?_) (a' := ?_) #[true, true, true, true, true, true, true, true, true, true, true, true, true, true, false, false, false, false, false] rfl rfl (by kernel_rfl) (fun _ _ _ h => h) (Or.inl ⟨by rfl, ?_⟩) ?_ ?_
  rotate_left
  · intro w'
    rw [exec_struct (vs := #[(0, .int .i64 m), (1, .agg x.enc.toArray)]) rfl (by simp only [List.map_toArray, List.map_cons, List.map_nil]; rfl) (build_pen m x w')]
  rotate_left
  · simp only [Act.put, List.setIfInBounds_toArray, List.set_cons_zero, List.set_cons_succ, i64_w, i32_w]
    rfl
  refine one_ (i := 14) (N := some 46) #[true, true, true, true, true, true, true, true, true, true, true, true, true, true, true, false, false, false, false] rfl rfl (by kernel_rfl) (by decide) (fun K hK => ?_)
  obtain ⟨w8, hw8⟩ : ∃ w8, w8 = w7.drew := ⟨_, rfl⟩
  rw [← hw8] at hHeld ⊢
  have D8 : Aside0 (DiskR w8 base p { burnS s with now := (burnS s).now.set m x } vs (.slice (some ⟨g, 0, none⟩) n c1) vw) := ⟨by rw [hw8]; exact D7.out.drew⟩
  have F8 : Aside0 (DFrame base W w8) := ⟨by rw [hw8]; exact F7.out.drew⟩
  have HS8 : Aside0 (Kd.C (Kd.int .u8) w8 (some ⟨g, m * 64, none⟩) 64 x.1) := ⟨by rw [hw8]; exact Kd.C_drew HS7.out⟩
  clear hw8 D7 F7 HS7 hHeld
  refine value_ (w1 := w8.alloc (.cells (Pen.enc ⟨m, x⟩).toArray TPen)) (v := .slice (some ⟨w8.heap.size, 0, none⟩) 1 1) (by rfl) rfl ?_ ?_
  · exact exec_build rfl (by simp only [List.map_toArray, List.map_cons, List.map_nil]; rfl) (run_build1 Try.underlying138 peninfo2 (Pen.len _) (by decide) (by decide))
  refine hK.out _ _ ⟨((blk_cell (blk_alloc D8.out.blk _) 1).trans rfl), ((blk_cell (blk_alloc D8.out.blk _) 2).trans rfl), Kd.C_alloc HS8.out _⟩ (fun hHeld => ?_)
  clear hK K
  refine norm_ (a' := ?_) ?_ ?_
  rotate_left
  · show Act.put _ (some 46) _ = _
    simp only [Act.put, List.setIfInBounds_toArray, List.set_cons_zero, List.set_cons_succ, i64_w, i32_w]
    rfl
  refine last_ (i := 15) (N := some 47) #[true, true, true, true, true, true, true, true, true, true, true, true, true, true, true, true, false, false, false] rfl rfl (by kernel_rfl) (by decide) (fun K hK => ?_)
  refine Kd.R_append_step kPen (w0 := w8) base (by rfl) (.tmp 36) (.tmp 46) 138 TPen (.agg (Value.int .i64 0 :: List.replicate 64 (Value.int .u8 0)).toArray) 72 (by rfl) Try.underlying138 peninfo rfl (by decide) (by omega) vw (burnS s).wait ⟨m, x⟩ (Pen.enc ⟨m, x⟩) (fun _ => True) (fun _ => False) (by rfl) (by rfl) rfl (fun _ hk => hk.elim) (fun _ _ => trivial) D8.out.wait (Below.refl _ _) D8.out.size HLIM.out ?_
  intro v9 w9 ho9 hb9 hg9 hat9
  obtain ⟨bk9, hD9, hF9⟩ := D8.out.putWait ho9 hg9 hat9
  have D9 := Aside0.mk hD9
  have F9 := Aside0.mk (F8.out.trans hF9)
  have c9 : w9.cell? ⟨p, 2, none⟩ = some vw := (blk_cell bk9 2).trans rfl
  have f9 := blk_frozen bk9 2
  obtain ⟨A9, n9, q9, hv9⟩ : ∃ A n c, v9 = .slice A n c := by obtain ⟨A, c, h⟩ := Kd.R_slice ho9; exact ⟨_, _, _, h⟩
  subst hv9
  clear D8 F8 HS8 ho9 hb9 hg9 hat9 bk9 hD9 hF9
  refine hK.out _ _ ?_
  clear hK K
  refine norm_ (a' := ?_) ?_ ?_
  rotate_left
  · show Act.put _ (some 47) _ = _
    simp only [Act.put, List.setIfInBounds_toArray, List.set_cons_zero, List.set_cons_succ, i64_w, i32_w]
    rfl
  refine pure_ (i := 16) (N := some 48) (v := ?_) (a' := ?_) #[true, true, true, true, true, true, true, true, true, true, true, true, true, true, true, true, true, false, false] rfl rfl (by kernel_rfl) (fun _ _ _ h => h) (Or.inl ⟨by rfl, ?_⟩) ?_ ?_
  rotate_left
  · intro w'
    go_simp
    with_reducible rfl
  rotate_left
  · simp only [Act.put, List.setIfInBounds_toArray, List.set_cons_zero, List.set_cons_succ, i64_w, i32_w]
    rfl
  refine pure_ (i := 17) (N := some 49) (v := ?_) (a' := ?_) #[true, true, true, true, true, true, true, true, true, true, true, true, true, true, true, true, true, true, false] rfl rfl (by kernel_rfl) (fun _ _ _ h => h) (Or.inl ⟨by rfl, ?_⟩) ?_ ?_
  rotate_left
  · intro w'
    go_simp
    with_reducible rfl
  rotate_left
  · simp only [Act.put, List.setIfInBounds_toArray, List.set_cons_zero, List.set_cons_succ, i64_w, i32_w]
    rfl
  refine last_ (i := 18) (N := none) #[true, true, true, true, true, true, true, true, true, true, true, true, true, true, true, true, true, true, true] rfl rfl (by kernel_rfl) (by decide) (fun K hK => ?_)
  refine skip_ (w1 := ?_) (by rfl) rfl ?_ ?_
  rotate_left
  · go_simp
    rfl
  refine hK.out _ _ ?_
  clear hK K
  refine done_ (by kernel_rfl) ?_
  obtain ⟨w10, hw10⟩ : ∃ w10, w10 = w9.setCell ⟨p, 2, none⟩ (.slice A9 n9 q9) := ⟨_, rfl⟩
  rw [← hw10] at D9 F9 ⊢
  clear hw10 c9 f9 hld7
  have b5 : w10.cell? ⟨p, 5, none⟩ = some (.int .i64 wr) := (blk_cell D9.out.blk 5).trans (by simp [HWR.out, burnS_wr])
  have z5 := blk_frozen D9.out.blk 5
  have FD : Aside0 (DiskR (w10.setCell ⟨p, 5, none⟩ (.int .i64 (wr + 1))) base p { burnS s with now := s.now.set m x, wait := s.wait ++ [⟨m, x⟩], wr := wr + 1 } vs (.slice (some ⟨g, 0, none⟩) n c1) (.slice A9 n9 q9)) := ⟨D9.out.set 5 _ (by simp) (by simp [burnS_now]) (by simp [burnS_wait]) (by simp)⟩
  have FF : Aside0 (DFrame base W (w10.setCell ⟨p, 5, none⟩ (.int .i64 (wr + 1)))) := ⟨F9.out.trans (DFrame.set D9.out.hp D9.out.blk (by decide) _)⟩
  go_wp2
  go_ret
  rw [EE.out, EV.out]
  exact ⟨rfl, ⟨_, FD.out⟩, FF.out⟩
end Go.Proofs.Ytdknolnoimpgeaa.K
