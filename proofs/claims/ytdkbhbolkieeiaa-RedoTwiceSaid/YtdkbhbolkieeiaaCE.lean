/- Walks and plain laws of this claim, merged: KDev6, KPut, KDev7, KDev8, KPut2, KDev9, K33a. -/
import Derived.Test.YtdkbhbolkieeiaaCD
import Derived.Test.YtdkbhbolkieeiaaK01
import Derived.Test.YtdkbhbolkieeiaaKFlat2
import Derived.Test.YtdkbhbolkieeiaaKBlk2
import Derived.Deep.MidRow
import Derived.Laws.CopyRow
import Derived.Laws.Append
import Derived.Test.YtdkbhbolkieeiaaKSl
namespace Go.Proofs.Ytdkbhbolkieeiaa.K
open Go.RowKit Go.Proofs.YtdkbhbolkieeiaaW.PrintWords Go.Proofs.YtdkbhbolkieeiaaW.PrintLast Go.Proofs.YtdkbhbolkieeiaaW.PrintMore
set_option linter.unusedVariables false
set_option linter.unusedSimpArgs false
set_option maxRecDepth 100000 in
theorem devRead_nil (i : Int) (W : World) : Calls Try.prog 114 #[.pointer none, .int .i64 i] W fun e w' => e = .returned (.tuple #[.slice none 0 0, .int .i64 7]) ∧ w' = W := by
  go_enter Try.func114, Try.ntmps114
  go_wp2_with (go_at_call 127; (with_reducible refine (devAt_nil i _).mono ?_); rintro e w' ⟨rfl, h_⟩; subst h_)
  go_ret2
  exact ⟨rfl, rfl⟩
/-- What Read answers. -/
def readV (s : DiskS) (i : Int) : List Int := if atE s i ≠ 0 then [] else if s.off then [] else (s.now.getD i.toNat (toSec [])).1
def readE (s : DiskS) (i : Int) : Int := if atE s i ≠ 0 then 3 else if s.off then 4 else 0
set_option maxRecDepth 100000 in
theorem devRead_walk (base p : Nat) (s : DiskS) (vs vn vw : Value) (i : Int) (W : World) (h : DiskR W base p s vs vn vw) (hn : s.now.length = s.safe.length) :
    Calls Try.prog 114 #[.pointer (some ⟨p, 0, none⟩), .int .i64 i] W fun e w' => ∃ v : Value, e = .returned (.tuple #[v, .int .i64 (readE s i)]) ∧ Kd.R (Kd.int .u8) 5 w' W.heap.size (fun _ => True) v (readV s i) ∧ Below W.heap.size W w' := by
  have HA := Aside0.mk (devAt_walk base p s vs vn vw i W h)
  by_cases hat : atE s i = 0
  case neg =>
    have E3 : atE s i = 3 := by unfold atE at hat ⊢; split at hat <;> simp_all
    have EV : Aside0 (readV s i = []) := ⟨by unfold readV; rw [if_pos hat]⟩
    have EE : Aside0 (readE s i = 3) := ⟨by unfold readE; rw [if_pos hat]⟩
    rw [E3] at HA
    clear hat h E3
    go_enter Try.func114, Try.ntmps114
    go_wp2_with (go_at_call 127; (with_reducible refine HA.out.mono ?_); rintro e w' ⟨rfl, h_⟩; subst h_)
    go_ret2
    rw [EV.out, EE.out]
    exact ⟨_, rfl, Kd.R_nil _ _ _ _ _, Below.refl _ _⟩
  have b4 : W.cell? ⟨p, 4, none⟩ = some (.bool s.off) := (blk_cell h.blk 4).trans rfl
  have b1 : W.cell? ⟨p, 1, none⟩ = some vn := (blk_cell h.blk 1).trans rfl
  have HE := Aside0.mk hat
  rw [hat] at HA
  cases hof : s.off with
  | true =>
    have EV : Aside0 (readV s i = []) := ⟨by unfold readV; simp [hof]⟩
    have EE : Aside0 (readE s i = 4) := ⟨by unfold readE; simp [hat, hof]⟩
    rw [hof] at b4
    clear hat h hof
    go_enter Try.func114, Try.ntmps114
    go_wp2_with (go_at_call 127; (with_reducible refine HA.out.mono ?_); rintro e w' ⟨rfl, h_⟩; subst h_)
    go_ret2
    rw [EV.out, EE.out]
    exact ⟨_, rfl, Kd.R_nil _ _ _ _ _, Below.refl _ _⟩
  | false =>
    have hi : 0 ≤ i ∧ i < s.safe.length := by unfold atE at hat; by_cases hh : 0 ≤ i ∧ i < s.safe.length <;> simp_all
    obtain ⟨A, c, hv⟩ := Kd.R_slice h.now
    subst hv
    have hC := (Kd.R_reads' h.now).2.2
    obtain ⟨n, hnn⟩ : ∃ n, n = s.now.length := ⟨_, rfl⟩
    rw [← hnn] at hC b1
    obtain ⟨m, hm⟩ : ∃ m : Nat, i = m := ⟨i.toNat, by omega⟩
    subst hm
    have hml : m < s.now.length := by omega
    obtain ⟨ad, rfl, hS⟩ := C_sec hC hml
    have EV : Aside0 (readV s m = s.now[m].1) := ⟨by unfold readV; simp [hat, hof, List.getD_eq_getElem?_getD, hml]⟩
    have EE : Aside0 (readE s m = 0) := ⟨by unfold readE; simp [hat, hof]⟩
    rw [hof] at b4
    have hmn : m < n := by omega
    have HS := Aside0.mk hS
    have hx : s.now[m].1.length = 64 := s.now[m].2
    have WC := Aside0.mk (fun q => numC_walk (some (ad.add (m * 64))) q s.now[m].1 W (by rw [hx]; exact hS))
    rw [hx] at WC
    obtain ⟨x, hxx⟩ : ∃ x, x = s.now[m] := ⟨_, rfl⟩
    rw [← hxx] at EV HS WC
    clear hat h hof hS hC hi hx hxx
    clear hml hnn hn
    go_enter Try.func114, Try.ntmps114
    go_wp2_with (first | (go_at_call 127; (with_reducible refine HA.out.mono ?_); rintro e w' ⟨rfl, h_⟩; subst h_) | (go_at_call 81; (with_reducible refine (WC.out _ (by decide) (by decide)).mono ?_); rintro e w1 ⟨v1, rfl, ho, hb⟩; have HO1 := Aside0.mk ho; have HB1 := Aside0.mk hb; clear ho hb))
    go_ret2
    rw [EV.out, EE.out]
    exact ⟨_, rfl, HO1.out, HB1.out⟩
end Go.Proofs.Ytdkbhbolkieeiaa.K
namespace Go.Proofs.YtdkbhbolkieeiaaW.PrintWords
open Go.RowKit Go.Proofs.Ytdkbhbolkieeiaa.K
namespace Kd
theorem R_putF {α : Type} {n : Nat} {enc : α → List Value} {hn : ∀ x, (enc x).length = n} {h1 : ∀ x, ∀ u ∈ enc x, u.oneCell' = true} {W : World} {e base : Nat} {ok : Nat → Prop} {v : Value} {xs : List α} (h : (flat n enc hn h1).R e W base ok v xs) {m : Nat} (hm : m < xs.length) (x : α) :
    ∃ g c cs, v = .slice (some ⟨g, 0, none⟩) xs.length c ∧ base ≤ g ∧ W.heap[g]? = some (.cells cs e (0, 0)) ∧ W.there g (m * n) n ∧ (flat n enc hn h1).R e (W.setCells g (m * n) (enc x)) base ok v (xs.set m x) ∧ W.grownBy (W.setCells g (m * n) (enc x)) (some g) := by
  obtain ⟨hok, inner, hown, hrep⟩ := h
  rcases hown.2 with ⟨_, hx0⟩ | ⟨g, cap, cur, hv, hb, hh, hnc, hcm, hcs, htake⟩
  · omega
  replace hcs : cur.size = cap * n := hcs
  have hin : inner = xs.flatMap enc := by
    obtain ⟨hl, hp⟩ := hrep
    exact reps_flat xs inner hl hp
  have q1 : (m + 1) * n ≤ xs.length * n := Nat.mul_le_mul_right n (by omega)
  have q2 : xs.length * n ≤ cap * n := Nat.mul_le_mul_right n hnc
  rw [Nat.succ_mul] at q1
  obtain ⟨cur', h2, h3, h4⟩ := setCells_row (enc x) (m * n) W cur hh (by rw [hn]; omega)
  have hset : xs.set m x = xs.take m ++ x :: xs.drop (m + 1) := by rw [List.set_eq_take_append_cons_drop, if_pos hm]
  refine ⟨g, cap, cur, hv, hb, hh, there_of_blk hh (by omega), ⟨hok, (xs.set m x).flatMap enc, ⟨flat_len hn _, .inr ⟨g, cap, cur', by rw [List.length_set]; exact hv, hb, h2, by rw [List.length_set]; exact hnc, hcm, by rw [h3]; exact hcs, ?_⟩⟩, flat_len hn _, fun j p hp => ?_⟩, grown_setCells _ _ _ _⟩
  · rw [List.length_set, h4]
    refine (lay_take (N := xs.length * n) (ys := inner) htake (by rw [hn]; exact q1) (by have e_ : cur.toList.length = cap * n := hcs; omega)).trans ?_
    rw [hin, hset, hn, ← Nat.succ_mul, flat_take hn, flat_drop hn, List.flatMap_append, List.flatMap_cons, List.append_assoc]
  · obtain ⟨hj, rfl⟩ := List.getElem?_eq_some_iff.1 hp
    show ((List.flatMap enc (xs.set m x)).drop (j * n)).take n = _
    rw [flat_drop hn, List.drop_eq_getElem_cons hj, List.flatMap_cons, List.take_append_of_le_length (by rw [hn]; exact Nat.le_refl _), List.take_of_length_le (by rw [hn]; exact Nat.le_refl _)]
end Kd
end Go.Proofs.YtdkbhbolkieeiaaW.PrintWords
namespace Go.Proofs.Ytdkbhbolkieeiaa.K
open Go.RowKit Go.Proofs.YtdkbhbolkieeiaaW.PrintWords Go.Proofs.YtdkbhbolkieeiaaW.PrintLast Go.Proofs.YtdkbhbolkieeiaaW.PrintMore
set_option linter.unusedVariables false
set_option linter.unusedSimpArgs false
theorem exec_store {P : Program} {o : Oper} {a : Act} {W W' : World} {ty : TypeId} {x y : Operand} {v u : Value} (ho : o.op = .store ty x y) (hx : a.eval x = v) (hy : a.eval y = u) (h : (Instr.storeAt ty v u).run P W = .ok () W') : (execOp a.eval o).run P W = .ok .skip W' := by
  unfold execOp
  simp only [ho, hx, hy, Sem.run_bind, h, Result.andThen_ok, Sem.run_pure]
theorem exec_struct {P : Program} {o : Oper} {a : Act} {W : World} {t : TypeId} {parts : Array (Nat × Operand)} {vs : Array (Nat × Value)} {u : Value} (ho : o.op = .build t parts) (hp : parts.map (fun x => (x.1, a.eval x.2)) = vs) (h : (Instr.build t vs).run P W = .ok u W) : (execOp a.eval o).run P W = .ok (.value u) W := by
  unfold execOp
  subst hp
  simp only [ho, Sem.run_bind, h, Result.andThen_ok, Sem.run_pure]
theorem pen_built (parts : List (Nat × Value)) : Try.prog.built TPen parts = Instr.fill (#[(0, 1), (1, 64)][·]?) (Value.int .i64 0 :: List.replicate 64 (Value.int .u8 0)).toArray parts := by kernel_rfl
theorem build_pen (m : Int) (x : Sec) (W : World) : (Instr.build TPen #[(0, .int .i64 m), (1, .agg x.enc.toArray)]).run Try.prog W = .ok (.agg (Pen.enc ⟨m, x⟩).toArray) W := by
  refine run_build W TPen _ _ ?_
  rw [pen_built]
  have hs : x.enc.toArray.size = 64 := by simp [Sec.len]
  obtain ⟨g1, g2⟩ := Go.Great.foldl_set 1 x.enc 0 (Value.int .i64 m :: List.replicate 64 (Value.int .u8 0)).toArray
  have e : (x.enc.zipIdx.foldl (fun cs (x : Value × Nat) => cs.setIfInBounds (1 + x.2) x.1) (Value.int .i64 m :: List.replicate 64 (Value.int .u8 0)).toArray) = (Pen.enc ⟨m, x⟩).toArray := by
    apply Array.ext_getElem?
    intro k
    rw [g2 k, Sec.len]
    unfold Pen.enc
    rcases k with _ | k
    · simp
    · by_cases hk : k < 64
      · rw [if_pos (by simp; omega)]
        simp [Nat.add_comm]
      · rw [if_neg (by omega)]
        rw [List.getElem?_toArray, List.getElem?_toArray, List.getElem?_eq_none (by simp; omega), List.getElem?_eq_none (by show _ ≤ _; simp [Sec.len]; omega)]
  unfold Instr.fill
  simp only [Value.cells]
  rw [← e]
  simp [Instr.fill, Value.cells, hs, ← Array.foldl_toList]
theorem DiskR.putNow {W : World} {base p : Nat} {s : DiskS} {vs vn vw : Value} (h : DiskR W base p s vs vn vw) {m : Nat} (hm : m < s.now.length) (x : Sec) :
    ∃ g c, vn = .slice (some ⟨g, 0, none⟩) s.now.length c ∧ W.there g (m * 64) 64 ∧ DiskR (W.setCells g (m * 64) x.enc) base p { s with now := s.now.set m x } vs vn vw ∧ DFrame base W (W.setCells g (m * 64) x.enc) := by
  obtain ⟨g, c, cs, hv, hb, bk, ht, hR, hg⟩ := Kd.R_putF h.now hm x
  have hgp : g ≠ p := fun e => by
    subst e
    rw [h.blk] at bk
    simp only [Option.some.injEq, Obj.cells.injEq] at bk
    exact absurd bk.2.1 (by decide)
  have hown : vn.ownBlock = some g := by rw [hv]; rfl
  have hns : some g ≠ vs.ownBlock := fun e => h.apart g e.symm hown
  have hnw := Kd.R_ne h.wait bk (by decide)
  refine ⟨g, c, hv, ht, ⟨blk_grown h.blk hg (fun e => hgp (Option.some.inj e).symm), h.hp, Kd.R_grown1 h.safe rfl hg hns, hR, Kd.R_grown1 h.wait rfl hg hnw, h.apart⟩, DFrame.grown h.size hg fun k e => ?_⟩
  cases e
  exact ⟨hb, cs, TSec, bk, by decide⟩
/-- A pen more waits: the row grew, and then the disk's cell is written. -/
theorem DiskR.putWait {W w9 : World} {base p : Nat} {s : DiskS} {vs vn vw v9 : Value} (h : DiskR W base p s vs vn vw) {l : List Pen} (ho : Kd.R kPen TPen w9 base (fun _ => True) v9 l) (hg : W.grownBy w9 vw.ownBlock) (hat : v9.ownBlock = vw.ownBlock ∨ ∃ b, v9.ownBlock = some b ∧ W.heap.size ≤ b) :
    w9.heap[p]? = some (.cells (diskA s vs vn vw) TDisk (0, 0)) ∧ DiskR (w9.setCell ⟨p, 2, none⟩ v9) base p { s with wait := l } vs vn v9 ∧ DFrame base W (w9.setCell ⟨p, 2, none⟩ v9) := by
  have bk := blk_grown h.blk hg (Kd.R_ne h.wait h.blk (by decide))
  have hne : ∀ (v : Value) (xs : List Sec), Kd.R kSec TSec W base (fun _ => True) v xs → ∀ b, vw.ownBlock = some b → v.ownBlock ≠ some b := fun v xs hv b e1 e2 => by
    obtain ⟨_, _, _, q, hq, cells, hc⟩ := (Kd.R_bound h.wait).1 b e1
    obtain rfl : q = TPen := by rcases List.mem_cons.1 hq with h | h; exact h; cases h
    exact Kd.R_ne hv hc (by decide) e2.symm
  have hS := (Kd.R_apart h.wait h.safe (hne _ _ h.safe) hg hat).1
  have hN := (Kd.R_apart h.wait h.now (hne _ _ h.now) hg hat).1
  refine ⟨bk, ⟨blk_set bk 2 v9, h.hp, Kd.R_set hS bk (by decide) 2 v9, Kd.R_set hN bk (by decide) 2 v9, Kd.R_set ho bk (by decide) 2 v9, h.apart⟩, (DFrame.grown h.size hg fun k e => ?_).trans (DFrame.set h.hp bk (by decide) v9)⟩
  obtain ⟨_, hb, _, q, hq, cells, hc⟩ := (Kd.R_bound h.wait).1 k e
  obtain rfl : q = TPen := by rcases List.mem_cons.1 hq with h | h; exact h; cases h
  exact ⟨hb, cells, _, hc, by decide⟩
end Go.Proofs.Ytdkbhbolkieeiaa.K
namespace Go.Proofs.Ytdkbhbolkieeiaa.K
open Go.RowKit Go.Proofs.YtdkbhbolkieeiaaW.PrintWords Go.Proofs.YtdkbhbolkieeiaaW.PrintLast Go.Proofs.YtdkbhbolkieeiaaW.PrintMore
set_option linter.unusedVariables false
set_option linter.unusedSimpArgs false
theorem DFrame.drew {base : Nat} {W W' : World} (h : DFrame base W W') : DFrame base W W'.drew := ⟨below_drew1 h.below, fun k cs t fr hk ht => (h.keep k cs t fr hk ht)⟩
theorem peninfo2 : (Try.prog.info? TPen).map (fun i => (i.zero, i.size)) = some (some (.agg (Value.int .i64 0 :: List.replicate 64 (Value.int .u8 0)).toArray), 65) := by kernel_rfl
/-- Data that a disk's calls leave as they are. -/
def KeepsC (base : Nat) (W : World) (A : Option Addr) (l : List Int) : Prop := ∀ W', DFrame base W W' → Kd.C (Kd.int .u8) W' A l.length l
theorem KeepsC.step {base : Nat} {W W' : World} {A : Option Addr} {l : List Int} (h : KeepsC base W A l) (k : DFrame base W W') : KeepsC base W' A l := fun W2 q => h W2 (k.trans q)
/-- What Write answers, and the disk behind it. -/
def writeE (s : DiskS) (i : Int) (b : List Int) : Int := if atE s i ≠ 0 then 3 else if b.length ≠ 64 then 1 else burnE s
def writeS (s : DiskS) (i : Int) (b : List Int) : DiskS :=
  if atE s i ≠ 0 then s else if b.length ≠ 64 then s else if burnE s ≠ 0 then burnS s
  else { burnS s with now := s.now.set i.toNat (toSec b), wait := s.wait ++ [⟨i, toSec b⟩], wr := s.wr + 1 }
theorem burnS_now (s : DiskS) : (burnS s).now = s.now := by unfold burnS; split <;> (try split) <;> rfl
theorem burnS_safe (s : DiskS) : (burnS s).safe = s.safe := by unfold burnS; split <;> (try split) <;> rfl
theorem burnS_wait (s : DiskS) : (burnS s).wait = s.wait := by unfold burnS; split <;> (try split) <;> rfl
theorem burnS_wr (s : DiskS) : (burnS s).wr = s.wr := by unfold burnS; split <;> (try split) <;> rfl
theorem burnS_fl (s : DiskS) : (burnS s).fl = s.fl := by unfold burnS; split <;> (try split) <;> rfl
set_option maxRecDepth 100000 in
theorem devWrite_nil (i : Int) (v : Value) (W : World) : Calls Try.prog 115 #[.pointer none, .int .i64 i, v] W fun e w' => e = .returned (.int .i64 7) ∧ w' = W := by
  go_enter Try.func115, Try.ntmps115
  go_wp2_with (go_at_call 127; (with_reducible refine (devAt_nil i _).mono ?_); rintro e w' ⟨rfl, h_⟩; have h_ := h_.symm; subst h_)
  go_ret
  exact ⟨rfl, rfl⟩
set_option maxHeartbeats 4000000 in
set_option maxRecDepth 100000 in
theorem devWrite_walk (base p : Nat) (s : DiskS) (vs vn vw : Value) (i : Int) (A : Option Addr) (c : Nat) (b : List Int) (W : World) (h : DiskR W base p s vs vn vw) (hn : s.now.length = s.safe.length) (hb : KeepsC base W A b)
    (hl0 : -1 ≤ s.left) (hl1 : s.left ≤ 9223372036854775807) (hwl : s.wait.length ≤ 1000000) (hw0 : 0 ≤ s.wr) (hw1 : s.wr ≤ 1000000) :
    Calls Try.prog 115 #[.pointer (some ⟨p, 0, none⟩), .int .i64 i, .slice A b.length c] W fun e w' => e = .returned (.int .i64 (writeE s i b)) ∧ (∃ vw', DiskR w' base p (writeS s i b) vs vn vw') ∧ DFrame base W w' := by
  have HA := Aside0.mk (devAt_walk base p s vs vn vw i W h)
  by_cases hat : atE s i = 0
  case neg =>
    have E3 : atE s i = 3 := by unfold atE at hat ⊢; split at hat <;> simp_all
    have EV : Aside0 (writeS s i b = s) := ⟨by unfold writeS; rw [if_pos hat]⟩
    have EE : Aside0 (writeE s i b = 3) := ⟨by unfold writeE; rw [if_pos hat]⟩
    rw [E3] at HA
    have HD := Aside0.mk h
    clear hat h E3 hb hl0 hl1 hwl hw0 hw1 hn
    go_enter Try.func115, Try.ntmps115
    go_wp2_with (go_at_call 127; (with_reducible refine HA.out.mono ?_); rintro e w' ⟨rfl, h_⟩; have h_ := h_.symm; subst h_)
    go_ret
    rw [EV.out, EE.out]
    exact ⟨rfl, ⟨_, HD.out⟩, DFrame.refl _ _⟩
  rw [hat] at HA
  by_cases hbl : b.length = 64
  case neg =>
    have EV : Aside0 (writeS s i b = s) := ⟨by unfold writeS; rw [if_neg (by simpa using hat), if_pos hbl]⟩
    have EE : Aside0 (writeE s i b = 1) := ⟨by unfold writeE; rw [if_neg (by simpa using hat), if_pos hbl]⟩
    have HD := Aside0.mk h
    obtain ⟨n, hnb⟩ : ∃ n, n = b.length := ⟨_, rfl⟩
    rw [← hnb] at hbl ⊢
    have hne : ((n : Int) != 64) = true := by simp; omega
    clear hat h hb hl0 hl1 hwl hw0 hw1 hn hbl hnb
    go_enter Try.func115, Try.ntmps115
    go_wp2_with (go_at_call 127; (with_reducible refine HA.out.mono ?_); rintro e w' ⟨rfl, h_⟩; have h_ := h_.symm; subst h_)
    go_ret
    rw [EV.out, EE.out]
    exact ⟨rfl, ⟨_, HD.out⟩, DFrame.refl _ _⟩
  have WB := Aside0.mk (burn_walk base p s vs vn vw W h hl0 hl1)
  by_cases hbu : burnE s = 0
  case neg =>
    have E4 : burnE s = 4 := by unfold burnE at hbu ⊢; split at hbu <;> simp_all
    have EV : Aside0 (writeS s i b = burnS s) := ⟨by unfold writeS; rw [if_neg (by simpa using hat), if_neg (by simpa using hbl), if_pos hbu]⟩
    have EE : Aside0 (writeE s i b = 4) := ⟨by unfold writeE; rw [if_neg (by simpa using hat), if_neg (by simpa using hbl), E4]⟩
    rw [E4] at WB
    rw [hbl]
    clear hat h hb hl0 hl1 hwl hw0 hw1 hn hbl hbu E4
    go_enter Try.func115, Try.ntmps115
    go_wp2_with (first | (go_at_call 127; (with_reducible refine HA.out.mono ?_); rintro e w' ⟨rfl, h_⟩; have h_ := h_.symm; subst h_) | (go_at_call 128; (with_reducible refine WB.out.mono ?_); rintro e w1 ⟨rfl, hD, hF⟩; have D1 := Aside0.mk hD; have F1 := Aside0.mk hF; clear hD hF))
    go_ret
    rw [EV.out, EE.out]
    exact ⟨rfl, ⟨_, D1.out⟩, F1.out⟩
  rw [hbu] at WB
  have hi : 0 ≤ i ∧ i < s.safe.length := by unfold atE at hat; by_cases hh : 0 ≤ i ∧ i < s.safe.length <;> simp_all
  obtain ⟨m, hm⟩ : ∃ m : Nat, i = m := ⟨i.toNat, by omega⟩
  subst hm
  have hml : m < s.now.length := by omega
  obtain ⟨g, c1, hvn, _⟩ := h.putNow hml (toSec b)
  subst hvn
  have EV : Aside0 (writeS s m b = { burnS s with now := s.now.set m (toSec b), wait := s.wait ++ [⟨m, toSec b⟩], wr := s.wr + 1 }) := ⟨by unfold writeS; rw [if_neg (by simpa using hat), if_neg (by simpa using hbl), if_neg (by simpa using hbu)]; simp⟩
  have EE : Aside0 (writeE s m b = 0) := ⟨by unfold writeE; rw [if_neg (by simpa using hat), if_neg (by simpa using hbl), hbu]⟩
  have HK := Aside0.mk hb
  have HBL := Aside0.mk hbl
  have HML := Aside0.mk hml
  obtain ⟨n, hnn⟩ : ∃ n, n = s.now.length := ⟨_, rfl⟩
  have HN := Aside0.mk hnn
  have HWL := Aside0.mk hwl
  have hmn : m < n := by omega
  rw [hbl]
  have hC0 := hb W (DFrame.refl _ _)
  rw [hbl] at hC0
  obtain ⟨ad, rfl, _⟩ := Kd.at_int hC0 0 (by omega) (by omega)
  have hap := fun W => run_arrayAt (P := Try.prog) W 95 5 64 (some ad) 64 c Try.underlying95 (Nat.le_refl _)
  have hld : ∀ W, Kd.C (Kd.int .u8) W (some ad) 64 b → (Instr.loadAt 95 (.pointer (some ad))).run Try.prog W = .ok (.agg (toSec b).enc.toArray) W := fun W h => load_sec h (by omega)
  rw [← hnn] at WB ⊢
  have hw9 : RowKit.wrap64 (s.wr + 1) = s.wr + 1 := by unfold RowKit.wrap64; omega
  obtain ⟨wr, hwr⟩ : ∃ wr, wr = s.wr := ⟨_, rfl⟩
  rw [← hwr] at hw9 EV
  have HWR := Aside0.mk hwr
  obtain ⟨x, hx⟩ : ∃ x, x = toSec b := ⟨_, rfl⟩
  rw [← hx] at EV hld
  clear hat h hb hl0 hl1 hwl hw0 hw1 hn hbl hbu hi hml hC0 hnn hwr
  go_enter Try.func115, Try.ntmps115
  go_wp2_with (first | (go_at_call 127; (with_reducible refine HA.out.mono ?_); rintro e w' ⟨rfl, h_⟩; have h_ := h_.symm; subst h_) | (go_at_call 128; (with_reducible refine WB.out.mono ?_); rintro e w1 ⟨rfl, hD, hF⟩; have D1 := Aside0.mk hD; have F1 := Aside0.mk hF; clear hD hF))
  have HM : Aside0 (Kd.C (Kd.int .u8) w1 (some ad) 64 b) := ⟨by have := HK.out _ F1.out; rw [HBL.out] at this; exact this⟩
  refine start_ (n := 10) (S := fun w' => w'.cell? ⟨p, 1, none⟩ = some (.slice (some ⟨g, 0, none⟩) n c1) ∧ Kd.C (Kd.int .u8) w' (some ad) 64 b) (ds := [9]) #[false, false, false, false, false, false, false, false, false, false] (by kernel_rfl) rfl rfl ⟨(by have h_ := (blk_cell (blk_drew D1.out.blk) 1).trans rfl; exact h_), Kd.C_drew HM.out⟩ (fun hHeld => ?_)
  refine pure_ (i := 0) (N := some 23) (v := ?_) (a' := ?_) #[true, false, false, false, false, false, false, false, false, false] rfl rfl (by kernel_rfl) (fun _ _ _ h => h) (Or.inl ⟨by rfl, ?_⟩) ?_ ?_
  rotate_left
  · intro w'
    go_simp
    with_reducible rfl
  rotate_left
  · simp only [Act.put, List.setIfInBounds_toArray, List.set_cons_zero, List.set_cons_succ, i64_w, i32_w]
    rfl
  refine pure_ (i := 1) (N := some 24) (v := ?_) (a' := ?_) #[true, true, false, false, false, false, false, false, false, false] rfl rfl (by kernel_rfl) (fun _ _ _ h => h) (Or.inl ⟨by rfl, ?_⟩) ?_ ?_
  rotate_left
  · intro w'
    go_simp
    with_reducible rfl
  rotate_left
  · simp only [Act.put, List.setIfInBounds_toArray, List.set_cons_zero, List.set_cons_succ, i64_w, i32_w]
    rfl
  refine pure_ (i := 2) (N := some 25) (v := ?_) (a' := ?_) #[true, true, true, false, false, false, false, false, false, false] rfl rfl (by kernel_rfl) (fun _ _ _ h => h) (Or.inl ⟨by rfl, ?_⟩) ?_ ?_
  rotate_left
  · intro w'
    go_simp
    with_reducible rfl
  rotate_left
  · simp only [Act.put, List.setIfInBounds_toArray, List.set_cons_zero, List.set_cons_succ, i64_w, i32_w]
    rfl
  refine pure_ (i := 4) (N := some 27) (v := ?_) (a' := ?_) #[true, true, true, false, true, false, false, false, false, false] rfl rfl (by kernel_rfl) (fun _ _ _ h => h) (Or.inl ⟨by rfl, ?_⟩) ?_ ?_
  rotate_left
  · intro w'
    go_simp
    with_reducible rfl
  rotate_left
  · simp only [Act.put, List.setIfInBounds_toArray, List.set_cons_zero, List.set_cons_succ, i64_w, i32_w]
    rfl
  refine pure_ (i := 5) (N := some 28) (v := ?_) (a' := ?_) #[true, true, true, false, true, true, false, false, false, false] rfl rfl (by kernel_rfl) (fun _ _ _ h => h) (Or.inl ⟨by rfl, ?_⟩) ?_ ?_
  rotate_left
  · intro w'
    go_simp
    with_reducible rfl
  rotate_left
  · simp only [Act.put, List.setIfInBounds_toArray, List.set_cons_zero, List.set_cons_succ, i64_w, i32_w]
    rfl
  refine pure_ (i := 6) (N := some 29) (v := ?_) (a' := ?_) #[true, true, true, false, true, true, true, false, false, false] rfl rfl (by kernel_rfl) (fun _ _ _ h => h) (Or.inl ⟨by rfl, ?_⟩) ?_ ?_
  rotate_left
  · intro w'
    go_simp
    with_reducible rfl
  rotate_left
  · simp only [Act.put, List.setIfInBounds_toArray, List.set_cons_zero, List.set_cons_succ, i64_w, i32_w]
    rfl
  refine take_ (i := 3) (N := some 26) (v := ?_) (a' := ?_) #[true, true, true, true, true, true, true, false, false, false] rfl rfl (by kernel_rfl) (fun _ _ _ h => h) (Or.inl ⟨by rfl, ?_⟩) hHeld ?_ ?_
  rotate_left
  · rintro w' ⟨s0, s1⟩
    go_simp
    with_reducible rfl
  rotate_left
  · simp only [Act.put, List.setIfInBounds_toArray, List.set_cons_zero, List.set_cons_succ, i64_w, i32_w]
    rfl
  refine take_ (i := 7) (N := some 30) (v := ?_) (a' := ?_) #[true, true, true, true, true, true, true, true, false, false] rfl rfl (by kernel_rfl) (fun _ _ _ h => h) (Or.inl ⟨by rfl, ?_⟩) hHeld ?_ ?_
  rotate_left
  · rintro w' ⟨s0, s1⟩
    rw [exec_load rfl (show _ = Value.pointer (some ad) from rfl) (hld w' s1)]
  rotate_left
  · simp only [Act.put, List.setIfInBounds_toArray, List.set_cons_zero, List.set_cons_succ, i64_w, i32_w]
    rfl
  refine pure_ (i := 8) (N := some 31) (v := ?_) (a' := ?_) #[true, true, true, true, true, true, true, true, true, false] rfl rfl (by kernel_rfl) (fun _ _ _ h => h) (Or.inl ⟨by rfl, ?_⟩) ?_ ?_
  rotate_left
  · intro w'
    go_simp
    with_reducible rfl
  rotate_left
  · simp only [Act.put, List.setIfInBounds_toArray, List.set_cons_zero, List.set_cons_succ, i64_w, i32_w]
    rfl
  refine last_ (i := 9) (N := none) #[true, true, true, true, true, true, true, true, true, true] rfl rfl (by kernel_rfl) (by decide) (fun K hK => ?_)
  obtain ⟨w6, hw6⟩ : ∃ w6, w6 = w1.drew := ⟨_, rfl⟩
  rw [← hw6] at hHeld ⊢
  have D6 : Aside0 (DiskR w6 base p (burnS s) vs (.slice (some ⟨g, 0, none⟩) n c1) vw) := ⟨by rw [hw6]; exact D1.out.drew⟩
  have F6 : Aside0 (DFrame base W w6) := ⟨by rw [hw6]; exact F1.out.drew⟩
  have N6 : Aside0 (m < (burnS s).now.length) := ⟨by rw [burnS_now]; exact HML.out⟩
  obtain ⟨g_, c_, hv_, ht6, hD6, hF6⟩ := D6.out.putNow N6.out x
  obtain rfl : g = g_ := by cases hv_; rfl
  clear hv_
  have D7 := Aside0.mk hD6
  have F7 := Aside0.mk (F6.out.trans hF6)
  clear hD6 hF6 hw6 D1 F1 HM hHeld D6 F6 N6
  refine skip_ (w1 := w6.setCells g (m * 64) x.enc) (by rfl) rfl ?_ ?_
  · exact exec_store (x := .tmp 31) (y := .tmp 30) rfl rfl rfl (run_storeAt_mid w6 g (m * 64) TSec x.enc.toArray (by simpa [Sec.len] using ht6) (by rw [show x.enc.toArray.size = 64 by simp [Sec.len]]; exact secsize) (all_oneCell_toArray (Sec.one x)))
  refine hK.out _ _ ?_
  clear hK K
  refine done_ (by kernel_rfl) ?_
  obtain ⟨w7, hw7⟩ : ∃ w7, w7 = w6.setCells g (m * 64) x.enc := ⟨_, rfl⟩
  rw [← hw7] at D7 F7 ⊢
  clear hw7 ht6 hap hld
  have HS7 : Aside0 (Kd.C (Kd.int .u8) w7 (some ⟨g, m * 64, none⟩) 64 x.1) := ⟨by
    have h1 := (Kd.R_reads' D7.out.now).2.2
    have hm7 : m < ((burnS s).now.set m x).length := by rw [List.length_set, burnS_now]; exact HML.out
    obtain ⟨ad_, he, hS⟩ := C_sec h1 hm7
    cases he
    rw [Addr.add_mid, Nat.zero_add] at hS
    simpa using hS⟩
  have hld7 : ∀ W, Kd.C (Kd.int .u8) W (some ⟨g, m * 64, none⟩) 64 x.1 → (Instr.loadAt 95 (.pointer (some ⟨g, m * 64, none⟩))).run Try.prog W = .ok (.agg x.enc.toArray) W := fun W h => by
    have h1 := load_sec h (by rw [x.2]; exact Nat.le_refl _)
    rwa [show toSec x.1 = x from Sec.ext (toSec_self x.2)] at h1
  have HLIM : Aside0 (((burnS s).wait.length + 1) * 72 ≤ 140737488355328) := ⟨by rw [burnS_wait]; have := HWL.out; omega⟩
  go_wp2
  refine start_ (n := 19) (S := fun w' => w'.cell? ⟨p, 1, none⟩ = some (.slice (some ⟨g, 0, none⟩) n c1) ∧ w'.cell? ⟨p, 2, none⟩ = some vw ∧ Kd.C (Kd.int .u8) w' (some ⟨g, m * 64, none⟩) 64 x.1) (ds := [15, 18]) #[false, false, false, false, false, false, false, false, false, false, false, false, false, false, false, false, false, false, false] (by kernel_rfl) rfl rfl ⟨(by have h_ := (blk_cell (blk_drew D7.out.blk) 1).trans rfl; exact h_), (by have h_ := (blk_cell (blk_drew D7.out.blk) 2).trans rfl; exact h_), Kd.C_drew HS7.out⟩ (fun hHeld => ?_)
  refine pure_ (i := 0) (N := some 32) (v := ?_) (a' := ?_) #[true, false, false, false, false, false, false, false, false, false, false, false, false, false, false, false, false, false, false] rfl rfl (by kernel_rfl) (fun _ _ _ h => h) (Or.inl ⟨by rfl, ?_⟩) ?_ ?_
  rotate_left
  · intro w'
    go_simp
    with_reducible rfl
  rotate_left
  · simp only [Act.put, List.setIfInBounds_toArray, List.set_cons_zero, List.set_cons_succ, i64_w, i32_w]
    rfl
  refine pure_ (i := 1) (N := some 33) (v := ?_) (a' := ?_) #[true, true, false, false, false, false, false, false, false, false, false, false, false, false, false, false, false, false, false] rfl rfl (by kernel_rfl) (fun _ _ _ h => h) (Or.inl ⟨by rfl, ?_⟩) ?_ ?_
  rotate_left
  · intro w'
    go_simp
    with_reducible rfl
  rotate_left
  · simp only [Act.put, List.setIfInBounds_toArray, List.set_cons_zero, List.set_cons_succ, i64_w, i32_w]
    rfl
  refine pure_ (i := 2) (N := some 34) (v := ?_) (a' := ?_) #[true, true, true, false, false, false, false, false, false, false, false, false, false, false, false, false, false, false, false] rfl rfl (by kernel_rfl) (fun _ _ _ h => h) (Or.inl ⟨by rfl, ?_⟩) ?_ ?_
  rotate_left
  · intro w'
    go_simp
    with_reducible rfl
  rotate_left
  · simp only [Act.put, List.setIfInBounds_toArray, List.set_cons_zero, List.set_cons_succ, i64_w, i32_w]
    rfl
  refine pure_ (i := 3) (N := some 35) (v := ?_) (a' := ?_) #[true, true, true, true, false, false, false, false, false, false, false, false, false, false, false, false, false, false, false] rfl rfl (by kernel_rfl) (fun _ _ _ h => h) (Or.inl ⟨by rfl, ?_⟩) ?_ ?_
  rotate_left
  · intro w'
    go_simp
    with_reducible rfl
  rotate_left
  · simp only [Act.put, List.setIfInBounds_toArray, List.set_cons_zero, List.set_cons_succ, i64_w, i32_w]
    rfl
  refine pure_ (i := 5) (N := some 37) (v := ?_) (a' := ?_) #[true, true, true, true, false, true, false, false, false, false, false, false, false, false, false, false, false, false, false] rfl rfl (by kernel_rfl) (fun _ _ _ h => h) (Or.inl ⟨by rfl, ?_⟩) ?_ ?_
  rotate_left
  · intro w'
    go_simp
    with_reducible rfl
  rotate_left
  · simp only [Act.put, List.setIfInBounds_toArray, List.set_cons_zero, List.set_cons_succ, i64_w, i32_w]
    rfl
  refine pure_ (i := 6) (N := some 38) (v := ?_) (a' := ?_) #[true, true, true, true, false, true, true, false, false, false, false, false, false, false, false, false, false, false, false] rfl rfl (by kernel_rfl) (fun _ _ _ h => h) (Or.inl ⟨by rfl, ?_⟩) ?_ ?_
  rotate_left
  · intro w'
    go_simp
    with_reducible rfl
  rotate_left
  · simp only [Act.put, List.setIfInBounds_toArray, List.set_cons_zero, List.set_cons_succ, i64_w, i32_w]
    rfl
  refine pure_ (i := 7) (N := some 39) (v := ?_) (a' := ?_) #[true, true, true, true, false, true, true, true, false, false, false, false, false, false, false, false, false, false, false] rfl rfl (by kernel_rfl) (fun _ _ _ h => h) (Or.inl ⟨by rfl, ?_⟩) ?_ ?_
  rotate_left
  · intro w'
    go_simp
    with_reducible rfl
  rotate_left
  · simp only [Act.put, List.setIfInBounds_toArray, List.set_cons_zero, List.set_cons_succ, i64_w, i32_w]
    rfl
  refine pure_ (i := 8) (N := some 40) (v := ?_) (a' := ?_) #[true, true, true, true, false, true, true, true, true, false, false, false, false, false, false, false, false, false, false] rfl rfl (by kernel_rfl) (fun _ _ _ h => h) (Or.inl ⟨by rfl, ?_⟩) ?_ ?_
  rotate_left
  · intro w'
    go_simp
    with_reducible rfl
  rotate_left
  · simp only [Act.put, List.setIfInBounds_toArray, List.set_cons_zero, List.set_cons_succ, i64_w, i32_w]
    rfl
  refine pure_ (i := 10) (N := some 42) (v := ?_) (a' := ?_) #[true, true, true, true, false, true, true, true, true, false, true, false, false, false, false, false, false, false, false] rfl rfl (by kernel_rfl) (fun _ _ _ h => h) (Or.inl ⟨by rfl, ?_⟩) ?_ ?_
  rotate_left
  · intro w'
    go_simp
    with_reducible rfl
  rotate_left
  · simp only [Act.put, List.setIfInBounds_toArray, List.set_cons_zero, List.set_cons_succ, i64_w, i32_w]
    rfl
  refine take_ (i := 4) (N := some 36) (v := ?_) (a' := ?_) #[true, true, true, true, true, true, true, true, true, false, true, false, false, false, false, false, false, false, false] rfl rfl (by kernel_rfl) (fun _ _ _ h => h) (Or.inl ⟨by rfl, ?_⟩) hHeld ?_ ?_
  rotate_left
  · rintro w' ⟨s0, s1, s2⟩
    go_simp
    with_reducible rfl
  rotate_left
  · simp only [Act.put, List.setIfInBounds_toArray, List.set_cons_zero, List.set_cons_succ, i64_w, i32_w]
    rfl
  refine take_ (i := 9) (N := some 41) (v := ?_) (a' := ?_) #[true, true, true, true, true, true, true, true, true, true, true, false, false, false, false, false, false, false, false] rfl rfl (by kernel_rfl) (fun _ _ _ h => h) (Or.inl ⟨by rfl, ?_⟩) hHeld ?_ ?_
  rotate_left
  · rintro w' ⟨s0, s1, s2⟩
    go_simp
    with_reducible rfl
  rotate_left
  · simp only [Act.put, List.setIfInBounds_toArray, List.set_cons_zero, List.set_cons_succ, i64_w, i32_w]
    rfl
  refine pure_ (i := 11) (N := some 43) (v := ?_) (a' := ?_) #[true, true, true, true, true, true, true, true, true, true, true, true, false, false, false, false, false, false, false] rfl rfl (by kernel_rfl) (fun _ _ _ h => h) (Or.inl ⟨by rfl, ?_⟩) ?_ ?_
  rotate_left
  · intro w'
    go_simp
    with_reducible rfl
  rotate_left
  · simp only [Act.put, List.setIfInBounds_toArray, List.set_cons_zero, List.set_cons_succ, i64_w, i32_w]
    rfl
  refine take_ (i := 12) (N := some 44) (v := ?_) (a' := ?_) #[true, true, true, true, true, true, true, true, true, true, true, true, true, false, false, false, false, false, false] rfl rfl (by kernel_rfl) (fun _ _ _ h => h) (Or.inl ⟨by rfl, ?_⟩) hHeld ?_ ?_
  rotate_left
  · rintro w' ⟨s0, s1, s2⟩
    rw [exec_load rfl (show _ = Value.pointer (some ⟨g, m * 64, none⟩) from rfl) (hld7 w' s2)]
  rotate_left
  · simp only [Act.put, List.setIfInBounds_toArray, List.set_cons_zero, List.set_cons_succ, i64_w, i32_w]
    rfl
  refine pure_ (i := 13) (N := some 45) (v := ?_) (a' := ?_) #[true, true, true, true, true, true, true, true, true, true, true, true, true, true, false, false, false, false, false] rfl rfl (by kernel_rfl) (fun _ _ _ h => h) (Or.inl ⟨by rfl, ?_⟩) ?_ ?_
  rotate_left
  · intro w'
    rw [exec_struct (vs := #[(0, .int .i64 m), (1, .agg x.enc.toArray)]) rfl (by simp only [List.map_toArray, List.map_cons, List.map_nil]; rfl) (build_pen m x w')]
  rotate_left
  · simp only [Act.put, List.setIfInBounds_toArray, List.set_cons_zero, List.set_cons_succ, i64_w, i32_w]
    rfl
  refine one_ (i := 14) (N := some 46) #[true, true, true, true, true, true, true, true, true, true, true, true, true, true, true, false, false, false, false] rfl rfl (by kernel_rfl) (by decide) (fun K hK => ?_)
  obtain ⟨w8, hw8⟩ : ∃ w8, w8 = w7.drew := ⟨_, rfl⟩
  rw [← hw8] at hHeld ⊢
  have D8 : Aside0 (DiskR w8 base p { burnS s with now := (burnS s).now.set m x } vs (.slice (some ⟨g, 0, none⟩) n c1) vw) := ⟨by rw [hw8]; exact D7.out.drew⟩
  have F8 : Aside0 (DFrame base W w8) := ⟨by rw [hw8]; exact F7.out.drew⟩
  have HS8 : Aside0 (Kd.C (Kd.int .u8) w8 (some ⟨g, m * 64, none⟩) 64 x.1) := ⟨by rw [hw8]; exact Kd.C_drew HS7.out⟩
  clear hw8 D7 F7 HS7 hHeld
  refine value_ (w1 := w8.alloc (.cells (Pen.enc ⟨m, x⟩).toArray TPen)) (v := .slice (some ⟨w8.heap.size, 0, none⟩) 1 1) (by rfl) rfl ?_ ?_
  · exact exec_build rfl (by simp only [List.map_toArray, List.map_cons, List.map_nil]; rfl) (run_build1 Try.underlying108 peninfo2 (Pen.len _) (by decide) (by decide))
  refine hK.out _ _ ⟨((blk_cell (blk_alloc D8.out.blk _) 1).trans rfl), ((blk_cell (blk_alloc D8.out.blk _) 2).trans rfl), Kd.C_alloc HS8.out _⟩ (fun hHeld => ?_)
  clear hK K
  refine norm_ (a' := ?_) ?_ ?_
  rotate_left
  · show Act.put _ (some 46) _ = _
    simp only [Act.put, List.setIfInBounds_toArray, List.set_cons_zero, List.set_cons_succ, i64_w, i32_w]
    rfl
  refine last_ (i := 15) (N := some 47) #[true, true, true, true, true, true, true, true, true, true, true, true, true, true, true, true, false, false, false] rfl rfl (by kernel_rfl) (by decide) (fun K hK => ?_)
  refine Kd.R_append_step kPen (w0 := w8) base (by rfl) (.tmp 36) (.tmp 46) 108 TPen (.agg (Value.int .i64 0 :: List.replicate 64 (Value.int .u8 0)).toArray) 72 (by rfl) Try.underlying108 peninfo rfl (by decide) (by omega) vw (burnS s).wait ⟨m, x⟩ (Pen.enc ⟨m, x⟩) (fun _ => True) (fun _ => False) (by rfl) (by rfl) rfl (fun _ hk => hk.elim) (fun _ _ => trivial) D8.out.wait (Below.refl _ _) D8.out.size HLIM.out ?_
  intro v9 w9 ho9 hb9 hg9 hat9
  obtain ⟨bk9, hD9, hF9⟩ := D8.out.putWait ho9 hg9 hat9
  have D9 := Aside0.mk hD9
  have F9 := Aside0.mk (F8.out.trans hF9)
  have c9 : w9.cell? ⟨p, 2, none⟩ = some vw := (blk_cell bk9 2).trans rfl
  have f9 := blk_frozen bk9 2
  obtain ⟨A9, n9, q9, hv9⟩ : ∃ A n c, v9 = .slice A n c := by obtain ⟨A, c, h⟩ := Kd.R_slice ho9; exact ⟨_, _, _, h⟩
  subst hv9
  clear D8 F8 HS8 ho9 hb9 hg9 hat9 bk9 hD9 hF9
  refine hK.out _ _ ?_
  clear hK K
  refine norm_ (a' := ?_) ?_ ?_
  rotate_left
  · show Act.put _ (some 47) _ = _
    simp only [Act.put, List.setIfInBounds_toArray, List.set_cons_zero, List.set_cons_succ, i64_w, i32_w]
    rfl
  refine pure_ (i := 16) (N := some 48) (v := ?_) (a' := ?_) #[true, true, true, true, true, true, true, true, true, true, true, true, true, true, true, true, true, false, false] rfl rfl (by kernel_rfl) (fun _ _ _ h => h) (Or.inl ⟨by rfl, ?_⟩) ?_ ?_
  rotate_left
  · intro w'
    go_simp
    with_reducible rfl
  rotate_left
  · simp only [Act.put, List.setIfInBounds_toArray, List.set_cons_zero, List.set_cons_succ, i64_w, i32_w]
    rfl
  refine pure_ (i := 17) (N := some 49) (v := ?_) (a' := ?_) #[true, true, true, true, true, true, true, true, true, true, true, true, true, true, true, true, true, true, false] rfl rfl (by kernel_rfl) (fun _ _ _ h => h) (Or.inl ⟨by rfl, ?_⟩) ?_ ?_
  rotate_left
  · intro w'
    go_simp
    with_reducible rfl
  rotate_left
  · simp only [Act.put, List.setIfInBounds_toArray, List.set_cons_zero, List.set_cons_succ, i64_w, i32_w]
    rfl
  refine last_ (i := 18) (N := none) #[true, true, true, true, true, true, true, true, true, true, true, true, true, true, true, true, true, true, true] rfl rfl (by kernel_rfl) (by decide) (fun K hK => ?_)
  refine skip_ (w1 := ?_) (by rfl) rfl ?_ ?_
  rotate_left
  · go_simp
    rfl
  refine hK.out _ _ ?_
  clear hK K
  refine done_ (by kernel_rfl) ?_
  obtain ⟨w10, hw10⟩ : ∃ w10, w10 = w9.setCell ⟨p, 2, none⟩ (.slice A9 n9 q9) := ⟨_, rfl⟩
  rw [← hw10] at D9 F9 ⊢
  clear hw10 c9 f9 hld7
  have b5 : w10.cell? ⟨p, 5, none⟩ = some (.int .i64 wr) := (blk_cell D9.out.blk 5).trans (by simp [HWR.out, burnS_wr])
  have z5 := blk_frozen D9.out.blk 5
  have FD : Aside0 (DiskR (w10.setCell ⟨p, 5, none⟩ (.int .i64 (wr + 1))) base p { burnS s with now := s.now.set m x, wait := s.wait ++ [⟨m, x⟩], wr := wr + 1 } vs (.slice (some ⟨g, 0, none⟩) n c1) (.slice A9 n9 q9)) := ⟨D9.out.set 5 _ (by simp) (by simp [burnS_now]) (by simp [burnS_wait]) (by simp)⟩
  have FF : Aside0 (DFrame base W (w10.setCell ⟨p, 5, none⟩ (.int .i64 (wr + 1)))) := ⟨F9.out.trans (DFrame.set D9.out.hp D9.out.blk (by decide) _)⟩
  go_wp2
  go_ret
  rw [EE.out, EV.out]
  exact ⟨rfl, ⟨_, FD.out⟩, FF.out⟩
end Go.Proofs.Ytdkbhbolkieeiaa.K
namespace Go.Proofs.YtdkbhbolkieeiaaW.PrintWords
open Go.RowKit Go.Proofs.Ytdkbhbolkieeiaa.K
set_option linter.unusedVariables false
namespace Kd
theorem run_copyF {P : Program} {α : Type} {n : Nat} {enc : α → List Value} {hn : ∀ x, (enc x).length = n} {h1 : ∀ x, ∀ u ∈ enc x, u.oneCell' = true} {W : World} {e base : Nat} {ok : Nat → Prop} {v : Value} {xs ys : List α} (t t' ty : TypeId)
    (ht : P.underlying t = some (.slice e)) (hinfo : (P.info? e).map (·.size) = some n) (h : (flat n enc hn h1).R e W base ok v xs) {A : Option Addr} {c : Nat} (hr : (flat n enc hn h1).C W A ys.length ys) (hl : ys.length = xs.length) :
    ∃ w1, (Builtin.copy_ #[t, t'] ty #[v, .slice A ys.length c]).run P W = .ok (goInt (ys.length : Int)) w1 ∧ (flat n enc hn h1).R e w1 base ok v ys ∧ W.grownBy w1 v.ownBlock := by
  obtain ⟨ie, hie, hsz⟩ := Option.map_eq_some_iff.1 hinfo
  rcases Nat.eq_zero_or_pos ys.length with h0 | h0
  · have hx0 : xs = [] := List.length_eq_zero_iff.1 (by omega)
    have hy0 : ys = [] := List.length_eq_zero_iff.1 h0
    subst hx0 hy0
    obtain ⟨A', c', hv⟩ := R_slice h
    subst hv
    refine ⟨W, ?_, h, grown_of_below (Below.refl _ _) _⟩
    have hf : ∀ A, (Builtin.firstCells ie.size 0 (.slice A 0 c)).run P W = .ok #[] W := by
      intro A
      cases A with
      | none => exact run_firstCells_none (P := P) W _ 0 0 c
      | some a => exact run_firstCells_some (P := P) W _ 0 a 0 c [] (by simp) (by simp)
    cases A' <;> simp [Builtin.copy_, run_underlying ht, Builtin.lenOf, sizeOf, typeInfo, hie, hf, storeCells]
  obtain ⟨hok, inner, hown, hrep⟩ := h
  rcases hown.2 with ⟨_, hx0⟩ | ⟨g, cap, cur, hv, hb, hh, hnc, hcm, hcs, htake⟩
  · omega
  replace hcs : cur.size = cap * n := hcs
  have q2 : ys.length * n ≤ cap * n := Nat.mul_le_mul_right n (by omega)
  have hfl : (ys.flatMap enc).length = ys.length * n := flat_len hn ys
  obtain ⟨ad, rfl, _⟩ := at_flat hr (j := 0) h0
  have hsrc : ∀ j u, (ys.flatMap enc)[j]? = some u → W.cell? (ad.add j) = some u := by
    intro j u hu
    have hj : j < ys.length * n := by have := (List.getElem?_eq_some_iff.1 hu).1; omega
    have hn0 : 0 < n := by rcases Nat.eq_zero_or_pos n with h | h; subst h; omega; exact h
    have hm : j / n < ys.length := (Nat.div_lt_iff_lt_mul hn0).2 hj
    obtain ⟨ad', he, hx⟩ := at_flat hr hm
    cases he
    have h2 := flat_get (n := n) (enc := enc) hn ys (j := j / n) (i := j % n) hm (Nat.mod_lt _ hn0)
    rw [Nat.div_add_mod' j n] at h2
    rw [hu] at h2
    have h3 := hx (j % n) u h2.symm
    rwa [Nat.div_add_mod' j n] at h3
  have hf := run_firstCells_some (P := P) W n ys.length ad ys.length c (ys.flatMap enc) hfl hsrc
  have hst := run_storeCells_at P g 0 e (ys.flatMap enc) 0 cur W hh (by rw [hfl]; omega) (fun u hu => by obtain ⟨x, _, hx⟩ := List.mem_flatMap.1 hu; exact h1 x u hx)
  subst hv
  have hsf : (cur.toList.take (0 + 0) ++ ys.flatMap enc ++ cur.toList.drop (0 + 0 + (ys.flatMap enc).length)).toArray.size = cur.size := by simp [hfl]; omega
  refine ⟨W.setRow g _, ?_, ⟨hok, ys.flatMap enc, ⟨flat_len hn _, .inr ⟨g, cap, _, by rw [hl], hb, setRow_heap W g cur _ e _ hh, by omega, hcm, hsf.trans hcs, ?_⟩⟩, flat_len hn _, fun j p hp => ?_⟩, ?_⟩
  · simp [Builtin.copy_, run_underlying ht, Builtin.lenOf, sizeOf, typeInfo, hie, hsz, hl] at hst ⊢
    rw [hl] at hf
    simp [hf, hst]
  · show List.take (ys.length * n) _ = _
    rw [← hfl]
    simp only [Nat.add_zero, List.take_zero, List.nil_append, Nat.zero_add]
    rw [List.take_append_of_le_length (Nat.le_refl _), List.take_length]
  · obtain ⟨hj, rfl⟩ := List.getElem?_eq_some_iff.1 hp
    show ((List.flatMap enc ys).drop (j * n)).take n = _
    rw [flat_drop hn, List.drop_eq_getElem_cons hj, List.flatMap_cons, List.take_append_of_le_length (by rw [hn]; exact Nat.le_refl _), List.take_of_length_le (by rw [hn]; exact Nat.le_refl _)]
  · exact ⟨rfl, rfl, rfl, by simp [World.setRow], fun k _ hk => setRow_other _ _ _ _ (fun he => hk (by rw [he]; rfl))⟩
end Kd
end Go.Proofs.YtdkbhbolkieeiaaW.PrintWords
namespace Go.Proofs.Ytdkbhbolkieeiaa.K
open Go.RowKit Go.Proofs.YtdkbhbolkieeiaaW.PrintWords Go.Proofs.YtdkbhbolkieeiaaW.PrintLast Go.Proofs.YtdkbhbolkieeiaaW.PrintMore
set_option linter.unusedVariables false
set_option linter.unusedSimpArgs false
theorem DiskR.waitNe {W : World} {base p : Nat} {s : DiskS} {vs vn vw : Value} (h : DiskR W base p s vs vn vw) {v : Value} {xs : List Sec} (hv : Kd.R kSec TSec W base (fun _ => True) v xs) : ∀ k, v.ownBlock = some k → some k ≠ vw.ownBlock := fun k e1 e2 => by
  obtain ⟨_, _, _, q, hq, cells, hc⟩ := (Kd.R_bound hv).1 k e1
  obtain rfl : q = TSec := by rcases List.mem_cons.1 hq with h | h; exact h; cases h
  exact Kd.R_ne h.wait hc (by decide) e2
theorem DiskR.ownSec {W : World} {base : Nat} {v : Value} {xs : List Sec} (hv : Kd.R kSec TSec W base (fun _ => True) v xs) : ∀ k, v.ownBlock = some k → base ≤ k ∧ ∃ cs t, W.heap[k]? = some (.cells cs t (0, 0)) ∧ DT t := fun k e1 => by
  obtain ⟨_, hb, _, q, hq, cells, hc⟩ := (Kd.R_bound hv).1 k e1
  obtain rfl : q = TSec := by rcases List.mem_cons.1 hq with h | h; exact h; cases h
  exact ⟨hb, cells, _, hc, by decide⟩
/-- copy(d.safe, d.now). -/
theorem DiskR.copySafe {W : World} {base p : Nat} {s : DiskS} {vs vn vw : Value} (h : DiskR W base p s vs vn vw) (hn : s.now.length = s.safe.length) (ty : TypeId) :
    ∃ w1, (Builtin.copy_ #[107, 107] ty #[vs, vn]).run Try.prog W = .ok (goInt (s.now.length : Int)) w1 ∧ DiskR w1 base p { s with safe := s.now } vs vn vw ∧ DFrame base W w1 := by
  obtain ⟨A, c, hv⟩ := Kd.R_slice h.now
  subst hv
  obtain ⟨w1, hrun, hR, hg⟩ := Kd.run_copyF (P := Try.prog) 107 107 ty Try.underlying107 secsize h.safe (Kd.R_reads' h.now).2.2 hn
  refine ⟨w1, hrun, ⟨blk_grown h.blk hg (Kd.R_ne h.safe h.blk (by decide)), h.hp, hR, Kd.R_grown2 h.now rfl hg (fun k e => fun e2 => h.apart k e e2.symm), Kd.R_grown2 h.wait rfl hg (h.waitNe h.safe), h.apart⟩, DFrame.grown h.size hg (DiskR.ownSec h.safe)⟩
/-- copy(d.now, d.safe). -/
theorem DiskR.copyNow {W : World} {base p : Nat} {s : DiskS} {vs vn vw : Value} (h : DiskR W base p s vs vn vw) (hn : s.now.length = s.safe.length) (ty : TypeId) :
    ∃ w1, (Builtin.copy_ #[107, 107] ty #[vn, vs]).run Try.prog W = .ok (goInt (s.safe.length : Int)) w1 ∧ DiskR w1 base p { s with now := s.safe } vs vn vw ∧ DFrame base W w1 := by
  obtain ⟨A, c, hv⟩ := Kd.R_slice h.safe
  subst hv
  obtain ⟨w1, hrun, hR, hg⟩ := Kd.run_copyF (P := Try.prog) 107 107 ty Try.underlying107 secsize h.now (Kd.R_reads' h.safe).2.2 hn.symm
  refine ⟨w1, hrun, ⟨blk_grown h.blk hg (Kd.R_ne h.now h.blk (by decide)), h.hp, Kd.R_grown2 h.safe rfl hg (fun k e => fun e2 => h.apart k e2.symm e), hR, Kd.R_grown2 h.wait rfl hg (h.waitNe h.now), h.apart⟩, DFrame.grown h.size hg (DiskR.ownSec h.now)⟩
/-- A cell of the disk's is written: no pens wait. -/
theorem DiskR.noWait {W : World} {base p : Nat} {s : DiskS} {vs vn vw : Value} (h : DiskR W base p s vs vn vw) : DiskR (W.setCell ⟨p, 2, none⟩ (.slice none 0 0)) base p { s with wait := [] } vs vn (.slice none 0 0) :=
  ⟨blk_set h.blk 2 _, h.hp, Kd.R_set h.safe h.blk (by decide) 2 _, Kd.R_set h.now h.blk (by decide) 2 _, Kd.R_nil _ _ _ _ _, h.apart⟩
/-- What Flush answers, and the disk behind it. -/
def flushS (s : DiskS) : DiskS := if burnE s ≠ 0 then burnS s else { burnS s with safe := s.now, wait := [], fl := s.fl + 1 }
set_option maxRecDepth 100000 in
theorem devFlush_nil (W : World) : Calls Try.prog 116 #[.pointer none] W fun e w' => e = .returned (.int .i64 7) ∧ w' = W := by
  go_enter Try.func116, Try.ntmps116
  go_wp2
  go_ret
  exact ⟨rfl, rfl⟩
set_option maxHeartbeats 4000000 in
set_option maxRecDepth 100000 in
theorem devFlush_walk (base p : Nat) (s : DiskS) (vs vn vw : Value) (W : World) (h : DiskR W base p s vs vn vw) (hn : s.now.length = s.safe.length)
    (hl0 : -1 ≤ s.left) (hl1 : s.left ≤ 9223372036854775807) (hw0 : 0 ≤ s.fl) (hw1 : s.fl ≤ 1000000) :
    Calls Try.prog 116 #[.pointer (some ⟨p, 0, none⟩)] W fun e w' => e = .returned (.int .i64 (burnE s)) ∧ (∃ vw', DiskR w' base p (flushS s) vs vn vw') ∧ DFrame base W w' := by
  have WB := Aside0.mk (burn_walk base p s vs vn vw W h hl0 hl1)
  by_cases hbu : burnE s = 0
  case neg =>
    have E4 : burnE s = 4 := by unfold burnE at hbu ⊢; split at hbu <;> simp_all
    have EV : Aside0 (flushS s = burnS s) := ⟨by unfold flushS; rw [if_pos hbu]⟩
    have EE : Aside0 (burnE s = 4) := ⟨E4⟩
    rw [E4] at WB
    clear h hl0 hl1 hw0 hw1 hn hbu E4
    go_enter Try.func116, Try.ntmps116
    go_wp2_with (go_at_call 128; (with_reducible refine WB.out.mono ?_); rintro e w1 ⟨rfl, hD, hF⟩; have D1 := Aside0.mk hD; have F1 := Aside0.mk hF; clear hD hF)
    go_ret
    rw [EV.out, EE.out]
    exact ⟨rfl, ⟨_, D1.out⟩, F1.out⟩
  rw [hbu] at WB
  obtain ⟨As, cs, hvs⟩ := Kd.R_slice h.safe
  obtain ⟨An, cn, hvn⟩ := Kd.R_slice h.now
  subst hvs hvn
  have EV : Aside0 (flushS s = { burnS s with safe := s.now, wait := [], fl := s.fl + 1 }) := ⟨by unfold flushS; rw [if_neg (by simpa using hbu)]⟩
  have EE : Aside0 (burnE s = 0) := ⟨hbu⟩
  have HN : Aside0 ((burnS s).now.length = (burnS s).safe.length) := ⟨by rw [burnS_now, burnS_safe]; exact hn⟩
  have hw9 : RowKit.wrap64 (s.fl + 1) = s.fl + 1 := by unfold RowKit.wrap64; omega
  obtain ⟨fl, hfl⟩ : ∃ fl, fl = s.fl := ⟨_, rfl⟩
  rw [← hfl] at hw9 EV
  have HFL := Aside0.mk hfl
  obtain ⟨ns, hns⟩ : ∃ n, n = s.safe.length := ⟨_, rfl⟩
  obtain ⟨nn, hnn⟩ : ∃ n, n = s.now.length := ⟨_, rfl⟩
  rw [← hns, ← hnn] at WB ⊢
  clear h hl0 hl1 hw0 hw1 hn hbu hfl hns hnn
  go_enter Try.func116, Try.ntmps116
  go_wp2_with (go_at_call 128; (with_reducible refine WB.out.mono ?_); rintro e w1 ⟨rfl, hD, hF⟩; have D1 := Aside0.mk hD; have F1 := Aside0.mk hF; clear hD hF)
  refine start_ (n := 9) (S := fun w' => w'.cell? ⟨p, 0, none⟩ = some (.slice As ns cs) ∧ w'.cell? ⟨p, 1, none⟩ = some (.slice An nn cn)) (ds := [8]) #[false, false, false, false, false, false, false, false, false] (by kernel_rfl) rfl rfl ⟨((blk_cell (blk_drew D1.out.blk) 0).trans rfl), ((blk_cell (blk_drew D1.out.blk) 1).trans rfl)⟩ (fun hHeld => ?_)
  refine pure_ (i := 0) (N := some 11) (v := ?_) (a' := ?_) #[true, false, false, false, false, false, false, false, false] rfl rfl (by kernel_rfl) (fun _ _ _ h => h) (Or.inl ⟨by rfl, ?_⟩) ?_ ?_
  rotate_left
  · intro w'
    go_simp
    with_reducible rfl
  rotate_left
  · simp only [Act.put, List.setIfInBounds_toArray, List.set_cons_zero, List.set_cons_succ, i64_w, i32_w]
    rfl
  refine pure_ (i := 1) (N := some 12) (v := ?_) (a' := ?_) #[true, true, false, false, false, false, false, false, false] rfl rfl (by kernel_rfl) (fun _ _ _ h => h) (Or.inl ⟨by rfl, ?_⟩) ?_ ?_
  rotate_left
  · intro w'
    go_simp
    with_reducible rfl
  rotate_left
  · simp only [Act.put, List.setIfInBounds_toArray, List.set_cons_zero, List.set_cons_succ, i64_w, i32_w]
    rfl
  refine pure_ (i := 2) (N := some 13) (v := ?_) (a' := ?_) #[true, true, true, false, false, false, false, false, false] rfl rfl (by kernel_rfl) (fun _ _ _ h => h) (Or.inl ⟨by rfl, ?_⟩) ?_ ?_
  rotate_left
  · intro w'
    go_simp
    with_reducible rfl
  rotate_left
  · simp only [Act.put, List.setIfInBounds_toArray, List.set_cons_zero, List.set_cons_succ, i64_w, i32_w]
    rfl
  refine pure_ (i := 4) (N := some 15) (v := ?_) (a' := ?_) #[true, true, true, false, true, false, false, false, false] rfl rfl (by kernel_rfl) (fun _ _ _ h => h) (Or.inl ⟨by rfl, ?_⟩) ?_ ?_
  rotate_left
  · intro w'
    go_simp
    with_reducible rfl
  rotate_left
  · simp only [Act.put, List.setIfInBounds_toArray, List.set_cons_zero, List.set_cons_succ, i64_w, i32_w]
    rfl
  refine pure_ (i := 5) (N := some 16) (v := ?_) (a' := ?_) #[true, true, true, false, true, true, false, false, false] rfl rfl (by kernel_rfl) (fun _ _ _ h => h) (Or.inl ⟨by rfl, ?_⟩) ?_ ?_
  rotate_left
  · intro w'
    go_simp
    with_reducible rfl
  rotate_left
  · simp only [Act.put, List.setIfInBounds_toArray, List.set_cons_zero, List.set_cons_succ, i64_w, i32_w]
    rfl
  refine pure_ (i := 6) (N := some 17) (v := ?_) (a' := ?_) #[true, true, true, false, true, true, true, false, false] rfl rfl (by kernel_rfl) (fun _ _ _ h => h) (Or.inl ⟨by rfl, ?_⟩) ?_ ?_
  rotate_left
  · intro w'
    go_simp
    with_reducible rfl
  rotate_left
  · simp only [Act.put, List.setIfInBounds_toArray, List.set_cons_zero, List.set_cons_succ, i64_w, i32_w]
    rfl
  refine take_ (i := 3) (N := some 14) (v := ?_) (a' := ?_) #[true, true, true, true, true, true, true, false, false] rfl rfl (by kernel_rfl) (fun _ _ _ h => h) (Or.inl ⟨by rfl, ?_⟩) hHeld ?_ ?_
  rotate_left
  · rintro w' ⟨s0, s1⟩
    go_simp
    with_reducible rfl
  rotate_left
  · simp only [Act.put, List.setIfInBounds_toArray, List.set_cons_zero, List.set_cons_succ, i64_w, i32_w]
    rfl
  refine take_ (i := 7) (N := some 18) (v := ?_) (a' := ?_) #[true, true, true, true, true, true, true, true, false] rfl rfl (by kernel_rfl) (fun _ _ _ h => h) (Or.inl ⟨by rfl, ?_⟩) hHeld ?_ ?_
  rotate_left
  · rintro w' ⟨s0, s1⟩
    go_simp
    with_reducible rfl
  rotate_left
  · simp only [Act.put, List.setIfInBounds_toArray, List.set_cons_zero, List.set_cons_succ, i64_w, i32_w]
    rfl
  refine last_ (i := 8) (N := some 19) #[true, true, true, true, true, true, true, true, true] rfl rfl (by kernel_rfl) (by decide) (fun K hK => ?_)
  obtain ⟨w6, hw6⟩ : ∃ w6, w6 = w1.drew := ⟨_, rfl⟩
  rw [← hw6] at hHeld ⊢
  have D6 : Aside0 (DiskR w6 base p (burnS s) (.slice As ns cs) (.slice An nn cn) vw) := ⟨by rw [hw6]; exact D1.out.drew⟩
  have F6 : Aside0 (DFrame base W w6) := ⟨by rw [hw6]; exact F1.out.drew⟩
  clear hw6 D1 F1 hHeld
  obtain ⟨w7, hrun, hD7, hF7⟩ := D6.out.copySafe HN.out 3
  have D7 := Aside0.mk hD7
  have F7 := Aside0.mk (F6.out.trans hF7)
  have HRUN := Aside0.mk hrun
  clear hD7 hF7 hrun D6 F6
  refine value_ (w1 := w7) (v := _) (by rfl) rfl (exec_copy (d := .tmp 14) (x := .tmp 18) rfl rfl rfl HRUN.out) ?_
  clear HRUN
  refine hK.out _ _ ?_
  clear hK K
  refine norm_ (a' := ?_) ?_ ?_
  rotate_left
  · show Act.put _ (some 19) _ = _
    simp only [Act.put, List.setIfInBounds_toArray, List.set_cons_zero, List.set_cons_succ, i64_w, i32_w]
    rfl
  refine done_ (by kernel_rfl) ?_
  have c2 : w7.cell? ⟨p, 2, none⟩ = some vw := (blk_cell D7.out.blk 2).trans rfl
  have c6 : w7.cell? ⟨p, 6, none⟩ = some (.int .i64 fl) := (blk_cell D7.out.blk 6).trans (by simp [HFL.out, burnS_fl])
  have f2 := blk_frozen D7.out.blk 2
  have f6 := blk_frozen D7.out.blk 6
  have D8 : Aside0 (DiskR ((w7.setCell ⟨p, 2, none⟩ (.slice none 0 0)).setCell ⟨p, 6, none⟩ (.int .i64 (fl + 1))) base p { burnS s with safe := s.now, wait := [], fl := fl + 1 } (.slice As ns cs) (.slice An nn cn) (.slice none 0 0)) := ⟨D7.out.noWait.set 6 _ (by simp [burnS_now]) (by simp) (by simp) (by simp)⟩
  have F8 : Aside0 (DFrame base W ((w7.setCell ⟨p, 2, none⟩ (.slice none 0 0)).setCell ⟨p, 6, none⟩ (.int .i64 (fl + 1)))) := ⟨F7.out.trans ((DFrame.set D7.out.hp D7.out.blk (by decide) _).trans (DFrame.set D7.out.hp D7.out.noWait.blk (by decide) _))⟩
  go_wp2
  go_ret
  rw [EE.out, EV.out]
  exact ⟨rfl, ⟨_, D8.out⟩, F8.out⟩
end Go.Proofs.Ytdkbhbolkieeiaa.K
namespace Go.Proofs.Ytdkbhbolkieeiaa.K
open Go.RowKit Go.Proofs.YtdkbhbolkieeiaaW.PrintWords Go.Proofs.YtdkbhbolkieeiaaW.PrintLast Go.Proofs.YtdkbhbolkieeiaaW.PrintMore
set_option linter.unusedVariables false
set_option linter.unusedSimpArgs false
/-- What Image answers. -/
def imgE (s : DiskS) : Int := if s.off = true ∧ 0 < s.now.length then 4 else 0
def imgV (s : DiskS) : List Int := if imgE s = 0 then flatN s.now else []
set_option maxRecDepth 100000 in
theorem image_nil (W : World) : Calls Try.prog 83 #[.pointer none] W fun e w' => e = .returned (.tuple #[.slice none 0 0, .int .i64 7]) ∧ w' = W := by
  go_enter Try.func83, Try.ntmps83
  go_wp2
  go_ret2
  exact ⟨rfl, rfl⟩
set_option maxHeartbeats 4000000 in
set_option maxRecDepth 100000 in
theorem image_walk (base p : Nat) (s : DiskS) (vs vn vw : Value) (w : World) (h : DiskR w base p s vs vn vw) (hns : s.now.length = s.safe.length) (hl : s.now.length ≤ 1000000) :
    Calls Try.prog 83 #[.pointer (some ⟨p, 0, none⟩)] w fun e w' => ∃ v : Value, e = .returned (.tuple #[v, .int .i64 (imgE s)]) ∧ Kd.R (Kd.int .u8) 5 w' w.heap.size (fun _ => True) v (imgV s) ∧ Below w.heap.size w w' := by
  have HD := Aside0.mk h
  have HNS := Aside0.mk hns
  have HB := Aside0.mk (Below.refl w.heap.size w)
  have HL := Aside0.mk hl
  have WS := Aside0.mk (fun W (hb : Below w.heap.size w W) => devSize_walk base p s vs vn vw W (HD.out.below hb))
  have WR := Aside0.mk (fun W i (hb : Below w.heap.size w W) => devRead_walk base p s vs vn vw i W (HD.out.below hb) HNS.out)
  rw [← HNS.out] at WS
  obtain ⟨n, hn⟩ : ∃ n, n = s.now.length := ⟨_, rfl⟩
  rw [← hn] at WS
  have HN := Aside0.mk hn
  have hn1 : n ≤ 1000000 := by omega
  have hw : RowKit.wrap64 (64 * (n : Int)) = 64 * (n : Int) := by unfold RowKit.wrap64; omega
  obtain ⟨Zc, hzs, hmk⟩ : ∃ Zc : Array Value, Zc.size = 64 * n ∧ ∀ W : World, (Instr.makeSlice 44 (.int .i64 0) (.int .i64 (64 * (n : Int)))).run Try.prog W = .ok (.slice (some ⟨W.heap.size, 0, none⟩) 0 (64 * n)) (W.alloc (.cells Zc 5)) := by
    obtain ⟨i0, hi, hzz⟩ := Option.map_eq_some_iff.1 u8info
    simp only [Prod.mk.injEq] at hzz
    obtain ⟨hz0, hz1, hz2⟩ := hzz
    refine ⟨madeCells (Value.int .u8 0).cells (64 * n), by simp [size_madeCells], fun W => ?_⟩
    have hr := run_make (P := Try.prog) W 44 5 i0 (.int .u8 0) Try.underlying44 hi hz0 .i64 .i64 0 (64 * (n : Int)) (by omega) (by omega) (by rw [hz2]; omega) (by omega)
    have e : (64 * (n : Int)).toNat = 64 * n := by omega
    simpa [hz1, e] using hr
  have HO : Aside0 (Kd.R (Kd.int .u8) 5 (w.alloc (.cells Zc 5)) w.heap.size (fun _ => True) (.slice (some ⟨w.heap.size, 0, none⟩) 0 (64 * n)) (flatN (s.now.take 0))) := ⟨R_room w Zc (64 * n) hzs (by omega)⟩
  clear h hns hl hn hzs
  go_enter Try.func83, Try.ntmps83
  go_wp2_with (go_at_call 113; (with_reducible refine (WS.out _ (by first | exact HB.out | exact below_alloc HB.out _)).mono ?_); rintro e w9 ⟨rfl, h_⟩; subst w9)
  go_loopw [4, 16] (fun v3 v11 w' => ∃ (m : Nat) (Av : Option Addr) (nv cv : Nat), v11 = .int .i64 m ∧ v3 = .slice Av nv cv ∧ Aside0 (m ≤ n) ∧ Aside0 (m = 0 ∨ s.off = false) ∧ Aside0 (Kd.R (Kd.int .u8) 5 w' w.heap.size (fun _ => True) (.slice Av nv cv) (flatN (s.now.take m))) ∧ Aside0 (Below w.heap.size w w')) (fun _ i _ => n - (intOf i).toNat)
  case atStart => exact ⟨0, _, _, _, rfl, rfl, ⟨Nat.zero_le _⟩, ⟨.inl rfl⟩, HO, ⟨below_alloc HB.out _⟩⟩
  case round =>
    clear HB HO
    obtain ⟨m, Av, nv, cv, rfl, rfl, hm, HF, HO, HB⟩ := hrel
    have hm' := hm.out
    by_cases hlt : m < n
    · have hml : m < s.now.length := by rw [← HN.out]; exact hlt
      have WRm := Aside0.mk (WR.out wr m HB.out)
      have hat : atE s m = 0 := by unfold atE; rw [if_pos ⟨by omega, by rw [← HNS.out]; omega⟩]
      cases hof : s.off with
      | true =>
        have EE : readE s m = 4 := by unfold readE; simp [hat, hof]
        have EI : Aside0 (imgE s = 4) := ⟨by unfold imgE; rw [if_pos ⟨hof, by omega⟩]⟩
        rw [EE] at WRm
        clear hat EE hof hml
        go_wp2_with (go_at_call 114; (with_reducible refine WRm.out.mono ?_); rintro e w1 ⟨v1, rfl, ho, hb⟩; have n1_ : Aside0 (Below w.heap.size w w1) := ⟨below_step (by repeat (first | (with_reducible first | exact HB.out | apply below_alloc | apply pw_below_drewN | apply below_drew1) | exact HB.out)) hb⟩; clear HB; have HB := n1_; clear n1_; clear ho hb)
        go_ret2
        unfold imgV
        rw [EI.out, if_neg (by decide)]
        exact ⟨_, rfl, Kd.R_nil _ _ _ _ _, HB.out⟩
      | false =>
        have EE : readE s m = 0 := by unfold readE; simp [hat, hof]
        have EV : readV s m = s.now[m].1 := by unfold readV; simp [hat, hof, List.getD_eq_getElem?_getD, hml]
        have HT := Aside0.mk (flatN_take hml)
        rw [EE, EV] at WRm
        obtain ⟨x, hxx⟩ : ∃ x, x = s.now[m] := ⟨_, rfl⟩
        rw [← hxx] at WRm HT
        have HLX : Aside0 (((flatN (s.now.take m)).length + 64) * 1 ≤ 140737488355328) := ⟨by rw [flatN_length, List.length_take]; have := HL.out; omega⟩
        have HOF := Aside0.mk hof
        clear hat EE EV hof hml hxx
        go_wp2_with (first | (go_at_call 114; go_loud ((with_reducible refine WRm.out.mono ?_); rintro e w1 ⟨v1, rfl, ho, hb⟩; obtain ⟨Ax, cx, hvx⟩ := Kd.R_slice ho; subst hvx; have HS := Aside0.mk (Kd.R_reads' ho).2.2; have HOb := Aside0.mk (Kd.R_below HO.out hb); clear HO; have HO := HOb; clear HOb; have n1_ : Aside0 (Below w.heap.size w w1) := ⟨below_step (by repeat (first | (with_reducible first | exact HB.out | apply below_alloc | apply pw_below_drewN | apply below_drew1) | exact HB.out)) hb⟩; clear HB; have HB := n1_; clear n1_; clear ho hb)) | ((with_reducible refine gate_builtin (b := .append) (xs := #[.tmp 28, .tmp 29]) rfl ?_); at_builtin; go_loud (refine Kd.R_append_rows (Kd.int .u8) (w0 := w) w.heap.size rfl (.tmp 28) (.tmp 29) 44 5 (.int .u8 0) 1 rfl Try.underlying44 u8info rfl (by decide) (by omega) (.slice Av nv cv) (flatN (s.now.take m)) x.1 _ _ _ (fun _ => True) (fun _ => False) rfl rfl ?aO ?aR (fun _ _ h => h) (fun _ h => h.elim) ?aF ?aB ?aS ?aL ?_); (case aR => exact HS.out); (case aB => exact (by repeat (first | (with_reducible first | exact HB.out | apply below_alloc | apply pw_below_drewN | apply below_drew1) | exact HB.out))); (case aF => exact (fun _ _ => trivial)); (case aO => exact (by (with_reducible repeat (first | apply Kd.R_alloc | apply Kd.R_drewN | apply Kd.R_drew)); exact HO.out)); (case aS => exact (below_size (by repeat (first | (with_reducible first | exact HB.out | apply below_alloc | apply pw_below_drewN | apply below_drew1) | exact HB.out)))); (case aL => have h_ := HLX.out; first | exact h_ | (rw [x.2]; exact h_) | (have := x.2; omega)); intro v1 w11 ho hb hg hat; have n0_ := Aside0.mk (hb); have n1_ := Aside0.mk (ho); clear HB; clear HO; have HB := n0_; have HO1 := n1_; clear n0_ n1_; clear ho hb hg hat))
        obtain ⟨A1, c1, hv1⟩ := Kd.R_slice HO1.out
        subst hv1
        refine ⟨⟨m + 1, A1, _, c1, rfl, rfl, ⟨by omega⟩, ⟨.inr (by first | exact HOF.out | trivial)⟩, ⟨by rw [HT.out]; exact HO1.out⟩, HB⟩, by simp [intOf]; omega⟩
    · have hmn : m = n := by omega
      have EI : Aside0 (imgE s = 0) := ⟨by
        unfold imgE
        rw [if_neg]
        rintro ⟨h1, h2⟩
        rcases HF.out with h3 | h3
        · have := HN.out; omega
        · rw [h1] at h3; cases h3⟩
      subst hmn
      have e0 : s.now.take m = s.now := List.take_of_length_le (by rw [← HN.out]; exact Nat.le_refl _)
      rw [e0] at HO
      go_wp2
      go_ret2
      unfold imgV
      rw [EI.out, if_pos rfl]
      exact ⟨_, rfl, HO.out, HB.out⟩
end Go.Proofs.Ytdkbhbolkieeiaa.K
