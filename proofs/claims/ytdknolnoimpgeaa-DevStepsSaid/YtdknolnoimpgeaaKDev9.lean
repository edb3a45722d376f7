/- A disk's methods: Flush. -/
import Derived.Test.YtdknolnoimpgeaaKDev8
import Derived.Test.YtdknolnoimpgeaaKPut2
namespace Go.Proofs.Ytdknolnoimpgeaa.K
open Go.RowKit Go.Proofs.YtdknolnoimpgeaaW.PrintWords Go.Proofs.YtdknolnoimpgeaaW.PrintLast Go.Proofs.YtdknolnoimpgeaaW.PrintMore
set_option linter.unusedVariables false
set_option linter.unusedSimpArgs false
theorem exec_copy {P : Program} {o : Oper} {a : Act} {W W' : World} {d x : Operand} {t t' : TypeId} {u v r : Value} (ho : o.op = .call { callee := .builtin .copy, args := #[d, x], argTypes := #[t, t'] }) (hd : a.eval d = u) (hx : a.eval x = v) (h : (Builtin.copy_ #[t, t'] o.type #[u, v]).run P W = .ok r W') : (execOp a.eval o).run P W = .ok (.value r) W' := by
  simp [execOp, ho, resolve, invoke, builtin, hd, hx, h, Result.andThen]
theorem DiskR.waitNe {W : World} {base p : Nat} {s : DiskS} {vs vn vw : Value} (h : DiskR W base p s vs vn vw) {v : Value} {xs : List Sec} (hv : Kd.R kSec TSec W base (fun _ => True) v xs) : ∀ k, v.ownBlock = some k → some k ≠ vw.ownBlock := fun k e1 e2 => by
  obtain ⟨_, _, _, q, hq, cells, hc⟩ := (Kd.R_bound hv).1 k e1
  obtain rfl : q = TSec := by rcases List.mem_cons.1 hq with h | h; exact h; cases h
  exact Kd.R_ne h.wait hc (by decide) e2
theorem DiskR.ownSec {W : World} {base : Nat} {v : Value} {xs : List Sec} (hv : Kd.R kSec TSec W base (fun _ => True) v xs) : ∀ k, v.ownBlock = some k → base ≤ k ∧ ∃ cs t, W.heap[k]? = some (.cells cs t (0, 0)) ∧ DT t := fun k e1 => by
  obtain ⟨_, hb, _, q, hq, cells, hc⟩ := (Kd.R_bound hv).1 k e1
  obtain rfl : q = TSec := by rcases List.mem_cons.1 hq with h | h; exact h; cases h
  exact ⟨hb, cells, _, hc, by decide⟩
/-- copy(d.safe, d.now). -/
theorem DiskR.copySafe {W : World} {base p : Nat} {s : DiskS} {vs vn vw : Value} (h : DiskR W base p s vs vn vw) (hn : s.now.length = s.safe.length) (ty : TypeId) :
    ∃ w1, (Builtin.copy_ #[137, 137] ty #[vs, vn]).run Try.prog W = .ok (goInt (s.now.length : Int)) w1 ∧ DiskR w1 base p { s with safe := s.now } vs vn vw ∧ DFrame base W w1 := by
  obtain ⟨A, c, hv⟩ := Kd.R_slice h.now
  subst hv
  obtain ⟨w1, hrun, hR, hg⟩ := Kd.run_copyF (P := Try.prog) 137 137 ty Try.underlying137 secsize h.safe (Kd.R_reads' h.now).2.2 hn
  refine ⟨w1, hrun, ⟨blk_grown h.blk hg (Kd.R_ne h.safe h.blk (by decide)), h.hp, hR, Kd.R_grown2 h.now rfl hg (fun k e => fun e2 => h.apart k e e2.symm), Kd.R_grown2 h.wait rfl hg (h.waitNe h.safe), h.apart⟩, DFrame.grown h.size hg (DiskR.ownSec h.safe)⟩
/-- copy(d.now, d.safe). -/
theorem DiskR.copyNow {W : World} {base p : Nat} {s : DiskS} {vs vn vw : Value} (h : DiskR W base p s vs vn vw) (hn : s.now.length = s.safe.length) (ty : TypeId) :
    ∃ w1, (Builtin.copy_ #[137, 137] ty #[vn, vs]).run Try.prog W = .ok (goInt (s.safe.length : Int)) w1 ∧ DiskR w1 base p { s with now := s.safe } vs vn vw ∧ DFrame base W w1 := by
  obtain ⟨A, c, hv⟩ := Kd.R_slice h.safe
  subst hv
  obtain ⟨w1, hrun, hR, hg⟩ := Kd.run_copyF (P := Try.prog) 137 137 ty Try.underlying137 secsize h.now (Kd.R_reads' h.safe).2.2 hn.symm
  refine ⟨w1, hrun, ⟨blk_grown h.blk hg (Kd.R_ne h.now h.blk (by decide)), h.hp, Kd.R_grown2 h.safe rfl hg (fun k e => fun e2 => h.apart k e2.symm e), hR, Kd.R_grown2 h.wait rfl hg (h.waitNe h.now), h.apart⟩, DFrame.grown h.size hg (DiskR.ownSec h.now)⟩
/-- A cell of the disk's is written: no pens wait. -/
theorem DiskR.noWait {W : World} {base p : Nat} {s : DiskS} {vs vn vw : Value} (h : DiskR W base p s vs vn vw) : DiskR (W.setCell ⟨p, 2, none⟩ (.slice none 0 0)) base p { s with wait := [] } vs vn (.slice none 0 0) :=
  ⟨blk_set h.blk 2 _, h.hp, Kd.R_set h.safe h.blk (by decide) 2 _, Kd.R_set h.now h.blk (by decide) 2 _, Kd.R_nil _ _ _ _ _, h.apart⟩
/-- What Flush answers, and the disk behind it. -/
def flushS (s : DiskS) : DiskS := if burnE s ≠ 0 then burnS s else { burnS s with safe := s.now, wait := [], fl := s.fl + 1 }
set_option maxRecDepth 100000 in
theorem devFlush_nil (W : World) : Calls Try.prog 72 #[.pointer none] W fun e w' => e = .returned (.int .i64 7) ∧ w' = W := by
  go_enter Try.func72, Try.ntmps72
  go_wp2
  go_ret
  exact ⟨rfl, rfl⟩
set_option maxHeartbeats 4000000 in
set_option maxRecDepth 100000 in
theorem devFlush_walk (base p : Nat) (s : DiskS) (vs vn vw : Value) (W : World) (h : DiskR W base p s vs vn vw) (hn : s.now.length = s.safe.length)
    (hl0 : -1 ≤ s.left) (hl1 : s.left ≤ 9223372036854775807) (hw0 : 0 ≤ s.fl) (hw1 : s.fl ≤ 1000000) :
    Calls Try.prog 72 #[.pointer (some ⟨p, 0, none⟩)] W fun e w' => e = .returned (.int .i64 (burnE s)) ∧ (∃ vw', DiskR w' base p (flushS s) vs vn vw') ∧ DFrame base W w' := by
  have WB := Aside0.mk (burn_walk base p s vs vn vw W h hl0 hl1)
  by_cases hbu : burnE s = 0
  case neg =>
    have E4 : burnE s = 4 := by unfold burnE at hbu ⊢; split at hbu <;> simp_all
    have EV : Aside0 (flushS s = burnS s) := ⟨by unfold flushS; rw [if_pos hbu]⟩
    have EE : Aside0 (burnE s = 4) := ⟨E4⟩
    rw [E4] at WB
    clear h hl0 hl1 hw0 hw1 hn hbu E4
    go_enter Try.func72, Try.ntmps72
    go_wp2_with (go_at_call 122; (with_reducible refine WB.out.mono ?_); rintro e w1 ⟨rfl, hD, hF⟩; have D1 := Aside0.mk hD; have F1 := Aside0.mk hF; clear hD hF)
    go_ret
    rw [EV.out, EE.out]
    exact ⟨rfl, ⟨_, D1.out⟩, F1.out⟩
  rw [hbu] at WB
  obtain ⟨As, cs, hvs⟩ := Kd.R_slice h.safe
  obtain ⟨An, cn, hvn⟩ := Kd.R_slice h.now
  subst hvs hvn
  have EV : Aside0 (flushS s = { burnS s with safe := s.now, wait := [], fl := s.fl + 1 }) := ⟨by unfold flushS; rw [if_neg (by simpa using hbu)]⟩
  have EE : Aside0 (burnE s = 0) := ⟨hbu⟩
  have HN : Aside0 ((burnS s).now.length = (burnS s).safe.length) := ⟨by rw [burnS_now, burnS_safe]; exact hn⟩
  have hw9 : RowKit.wrap64 (s.fl + 1) = s.fl + 1 := by unfold RowKit.wrap64; omega
  obtain ⟨fl, hfl⟩ : ∃ fl, fl = s.fl := ⟨_, rfl⟩
  rw [← hfl] at hw9 EV
  have HFL := Aside0.mk hfl
  obtain ⟨ns, hns⟩ : ∃ n, n = s.safe.length := ⟨_, rfl⟩
  obtain ⟨nn, hnn⟩ : ∃ n, n = s.now.length := ⟨_, rfl⟩
  rw [← hns, ← hnn] at WB ⊢
  clear h hl0 hl1 hw0 hw1 hn hbu hfl hns hnn
  go_enter Try.func72, Try.ntmps72
  go_wp2_with (go_at_call 122; (with_reducible refine WB.out.mono ?_); rintro e w1 ⟨rfl, hD, hF⟩; have D1 := Aside0.mk hD; have F1 := Aside0.mk hF; clear hD hF)
  refine start_ (n := 9) (S := fun w' => w'.cell? ⟨p, 0, none⟩ = some (.slice As ns cs) ∧ w'.cell? ⟨p, 1, none⟩ = some (.slice An nn cn)) (ds := [8]) #[false, false, false, false, false, false, false, false, false] (by kernel_rfl) rfl rfl ⟨((blk_cell (blk_drew D1.out.blk) 0).trans rfl), ((blk_cell (blk_drew D1.out.blk) 1).trans rfl)⟩ (fun hHeld => ?_)
  refine pure_ (i := 0) (N := some 11) (v := ?_) (a' := ?_) #[true, false, false, false, false, false, false, false, false] rfl rfl (by kernel_rfl) (fun _ _ _ h => h) (Or.inl ⟨by rfl, ?_⟩) ?_ ?_
  rotate_left
  · intro w'
    go_simp
    with_reducible rfl
  rotate_left
  · simp only [Act.put, List.setIfInBounds_toArray, List.set_cons_zero, List.set_cons_succ, i64_w, i32_w]
    rfl
  refine pure_ (i := 1) (N := some 12) (v := ?_) (a' := ?_) #[true, true, false, false, false, false, false, false, false] rfl rfl (by kernel_rfl) (fun _ _ _ h => h) (Or.inl ⟨by rfl, ?_⟩) ?_ ?_
  rotate_left
  · intro w'
    go_simp
    with_reducible rfl
  rotate_left
  · simp only [Act.put, List.setIfInBounds_toArray, List.set_cons_zero, List.set_cons_succ, i64_w, i32_w]
    rfl
  refine pure_ (i := 2) (N := some 13) (v := ?_) (a' := ?_) #[true, true, true, false, false, false, false, false, false] rfl rfl (by kernel_rfl) (fun _ _ _ h => h) (Or.inl ⟨by rfl, ?_⟩) ?_ ?_
  rotate_left
  · intro w'
    go_simp
    with_reducible rfl
  rotate_left
  · simp only [Act.put, List.setIfInBounds_toArray, List.set_cons_zero, List.set_cons_succ, i64_w, i32_w]
    rfl
  refine pure_ (i := 4) (N := some 15) (v := ?_) (a' := ?_) #[true, true, true, false, true, false, false, false, false] rfl rfl (by kernel_rfl) (fun _ _ _ h => h) (Or.inl ⟨by rfl, ?_⟩) ?_ ?_
  rotate_left
  · intro w'
    go_simp
    with_reducible rfl
  rotate_left
  · simp only [Act.put, List.setIfInBounds_toArray, List.set_cons_zero, List.set_cons_succ, i64_w, i32_w]
    rfl
  refine pure_ (i := 5) (N := some 16) (v := ?_) (a' := ?_) #[true, true, true, false, true, true, false, false, false] rfl rfl (by kernel_rfl) (fun _ _ _ h => h) (Or.inl ⟨by rfl, ?_⟩) ?_ ?_
  rotate_left
  · intro w'
    go_simp
    with_reducible rfl
  rotate_left
  · simp only [Act.put, List.setIfInBounds_toArray, List.set_cons_zero, List.set_cons_succ, i64_w, i32_w]
    rfl
  refine pure_ (i := 6) (N := some 17) (v := ?_) (a' := ?_) #[true, true, true, false, true, true, true, false, false] rfl rfl (by kernel_rfl) (fun _ _ _ h => h) (Or.inl ⟨by rfl, ?_⟩) ?_ ?_
  rotate_left
  · intro w'
    go_simp
    with_reducible rfl
  rotate_left
  · simp only [Act.put, List.setIfInBounds_toArray, List.set_cons_zero, List.set_cons_succ, i64_w, i32_w]
    rfl
  refine take_ (i := 3) (N := some 14) (v := ?_) (a' := ?_) #[true, true, true, true, true, true, true, false, false] rfl rfl (by kernel_rfl) (fun _ _ _ h => h) (Or.inl ⟨by rfl, ?_⟩) hHeld ?_ ?_
  rotate_left
  · rintro w' ⟨s0, s1⟩
    go_simp
    with_reducible rfl
  rotate_left
  · simp only [Act.put, List.setIfInBounds_toArray, List.set_cons_zero, List.set_cons_succ, i64_w, i32_w]
    rfl
  refine take_ (i := 7) (N := some 18) (v := ?_) (a' := ?_) #[true, true, true, true, true, true, true, true, false] rfl rfl (by kernel_rfl) (fun _ _ _ h => h) (Or.inl ⟨by rfl, ?_⟩) hHeld ?_ ?_
  rotate_left
  · rintro w' ⟨s0, s1⟩
    go_simp
    with_reducible rfl
  rotate_left
  · simp only [Act.put, List.setIfInBounds_toArray, List.set_cons_zero, List.set_cons_succ, i64_w, i32_w]
    rfl
  refine last_ (i := 8) (N := some 19) #[true, true, true, true, true, true, true, true, true] rfl rfl (by kernel_rfl) (by decide) (fun K hK => ?_)
  obtain ⟨w6, hw6⟩ : ∃ w6, w6 = w1.drew := ⟨_, rfl⟩
  rw [← hw6] at hHeld ⊢
  have D6 : Aside0 (DiskR w6 base p (burnS s) (.slice As ns cs) (.slice An nn cn) vw) := ⟨by rw [hw6]; exact D1.out.drew⟩
  have F6 : Aside0 (DFrame base W w6) := ⟨by rw [hw6]; exact F1.out.drew⟩
  clear hw6 D1 F1 hHeld
  obtain ⟨w7, hrun, hD7, hF7⟩ := D6.out.copySafe HN.out 3
  have D7 := Aside0.mk hD7
  have F7 := Aside0.mk (F6.out.trans hF7)
  have HRUN := Aside0.mk hrun
  clear hD7 hF7 hrun D6 F6
  refine value_ (w1 := w7) (v := _) (by rfl) rfl (exec_copy (d := .tmp 14) (x := .tmp 18) rfl rfl rfl HRUN.out) ?_
  clear HRUN
  refine hK.out _ _ ?_
  clear hK K
  refine norm_ (a' := ?_) ?_ ?_
  rotate_left
  · show Act.put _ (some 19) _ = _
    simp only [Act.put, List.setIfInBounds_toArray, List.set_cons_zero, List.set_cons_succ, i64_w, i32_w]
    rfl
  refine done_ (by kernel_rfl) ?_
  have c2 : w7.cell? ⟨p, 2, none⟩ = some vw := (blk_cell D7.out.blk 2).trans rfl
  have c6 : w7.cell? ⟨p, 6, none⟩ = some (.int .i64 fl) := (blk_cell D7.out.blk 6).trans (by simp [HFL.out, burnS_fl])
  have f2 := blk_frozen D7.out.blk 2
  have f6 := blk_frozen D7.out.blk 6
  have D8 : Aside0 (DiskR ((w7.setCell ⟨p, 2, none⟩ (.slice none 0 0)).setCell ⟨p, 6, none⟩ (.int .i64 (fl + 1))) base p { burnS s with safe := s.now, wait := [], fl := fl + 1 } (.slice As ns cs) (.slice An nn cn) (.slice none 0 0)) := ⟨D7.out.noWait.set 6 _ (by simp [burnS_now]) (by simp) (by simp) (by simp)⟩
  have F8 : Aside0 (DFrame base W ((w7.setCell ⟨p, 2, none⟩ (.slice none 0 0)).setCell ⟨p, 6, none⟩ (.int .i64 (fl + 1)))) := ⟨F7.out.trans ((DFrame.set D7.out.hp D7.out.blk (by decide) _).trans (DFrame.set D7.out.hp D7.out.noWait.blk (by decide) _))⟩
  go_wp2
  go_ret
  rw [EE.out, EV.out]
  exact ⟨rfl, ⟨_, D8.out⟩, F8.out⟩
end Go.Proofs.Ytdknolnoimpgeaa.K
