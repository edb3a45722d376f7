/- A disk in memory; its small methods. -/
import Derived.Test.YtdknolnoimpgeaaKSec
namespace Go.Proofs.Ytdknolnoimpgeaa.K
open Go.RowKit Go.Proofs.YtdknolnoimpgeaaW.PrintWords Go.Proofs.YtdknolnoimpgeaaW.PrintLast Go.Proofs.YtdknolnoimpgeaaW.PrintMore
set_option linter.unusedVariables false
set_option linter.unusedSimpArgs false
/-- A disk, plainly. -/
structure DiskS where
  safe : List Sec
  now : List Sec
  wait : List Pen
  left : Int
  off : Bool
  wr : Int
  fl : Int
abbrev TDisk : TypeId := 140
abbrev TSec : TypeId := 141
abbrev TPen : TypeId := 143
abbrev diskA (s : DiskS) (vs vn vw : Value) : Array Value := #[vs, vn, vw, .int .i64 s.left, .bool s.off, .int .i64 s.wr, .int .i64 s.fl]
/-- The disk s lies at block p; all that is its own lies at or beyond base. -/
structure DiskR (W : World) (base p : Nat) (s : DiskS) (vs vn vw : Value) : Prop where
  blk : W.heap[p]? = some (.cells (diskA s vs vn vw) TDisk (0, 0))
  hp : base ≤ p
  safe : Kd.R kSec TSec W base (fun _ => True) vs s.safe
  now : Kd.R kSec TSec W base (fun _ => True) vn s.now
  wait : Kd.R kPen TPen W base (fun _ => True) vw s.wait
  apart : ∀ b, vs.ownBlock = some b → vn.ownBlock ≠ some b
def DiskOk (W : World) (base p : Nat) (s : DiskS) : Prop := ∃ vs vn vw, DiskR W base p s vs vn vw
/-- The types of a disk's own blocks. -/
def DT (t : TypeId) : Prop := t = TDisk ∨ t = TSec ∨ t = TPen
instance (t : TypeId) : Decidable (DT t) := by unfold DT; infer_instance
/-- What a disk's methods leave as it was. -/
structure DFrame (base : Nat) (W W' : World) : Prop where
  below : Below base W W'
  keep : ∀ (k : Nat) (cs : Array Value) (t : TypeId) (fr : Nat × Nat), W.heap[k]? = some (Obj.cells cs t fr) → ¬ DT t → W'.heap[k]? = some (Obj.cells cs t fr)
theorem DFrame.refl (base : Nat) (W : World) : DFrame base W W := ⟨Below.refl _ _, fun _ _ _ _ h _ => h⟩
theorem DFrame.trans {base : Nat} {A B C : World} (h : DFrame base A B) (k : DFrame base B C) : DFrame base A C := ⟨h.below.trans k.below, fun i cs t fr hi ht => k.keep i cs t fr (h.keep i cs t fr hi ht) ht⟩
theorem DFrame.of_below {base : Nat} {W W' : World} (hb : base ≤ W.heap.size) (h : Below W.heap.size W W') : DFrame base W W' := ⟨h.mono hb, fun k cs t fr hk _ => (h.block k (Array.getElem?_eq_some_iff.1 hk).1).trans hk⟩
/-- A store into a block of the disk's. -/
theorem DFrame.set {base : Nat} {W : World} {g i : Nat} {cs : Array Value} {t : TypeId} (hg : base ≤ g) (bk : W.heap[g]? = some (.cells cs t (0, 0))) (ht : DT t) (u : Value) : DFrame base W (W.setCell ⟨g, i, none⟩ u) :=
  ⟨(Below.refl base W).setCell (p := ⟨g, i, none⟩) hg _, fun k cs' t' fr hk hn => by
    have hne : k ≠ g := fun e => by
      subst e
      rw [bk] at hk
      cases hk
      exact hn ht
    exact (Below.heap_setCell W ⟨g, i, none⟩ u k hne).trans hk⟩
/-- A step that turns one block of the disk's. -/
theorem DFrame.grown {base : Nat} {W W' : World} {row : Option Nat} (hs : base ≤ W.heap.size) (hg : W.grownBy W' row) (hr : ∀ g, row = some g → base ≤ g ∧ ∃ cs t, W.heap[g]? = some (.cells cs t (0, 0)) ∧ DT t) : DFrame base W W' :=
  ⟨(Below.refl base W).grown hg hs (fun k e => (hr k e).1), fun k cs t fr hk hn => (hg.block k (Array.getElem?_eq_some_iff.1 hk).1 (fun e => by
    obtain ⟨_, cs', t', hc, ht⟩ := hr k e.symm
    rw [hk] at hc
    cases hc
    exact hn ht)).trans hk⟩
theorem DiskR.size {W : World} {base p : Nat} {s : DiskS} {vs vn vw : Value} (h : DiskR W base p s vs vn vw) : base ≤ W.heap.size := Nat.le_of_lt (Nat.lt_of_le_of_lt h.hp (Array.getElem?_eq_some_iff.1 h.blk).1)
theorem DiskR.below {W W' : World} {base p : Nat} {s : DiskS} {vs vn vw : Value} (h : DiskR W base p s vs vn vw) (hb : Below W.heap.size W W') : DiskR W' base p s vs vn vw :=
  ⟨blk_below h.blk hb, h.hp, Kd.R_below h.safe hb, Kd.R_below h.now hb, Kd.R_below h.wait hb, h.apart⟩
/-- A store into one of the disk's own cells, the rows as they were. -/
theorem DiskR.set {W : World} {base p : Nat} {s : DiskS} {vs vn vw : Value} (h : DiskR W base p s vs vn vw) (i : Nat) (u : Value) {s' : DiskS} (hs : s'.safe = s.safe) (hn : s'.now = s.now) (hw : s'.wait = s.wait)
    (hc : (diskA s vs vn vw).setIfInBounds i u = diskA s' vs vn vw) : DiskR (W.setCell ⟨p, i, none⟩ u) base p s' vs vn vw := by
  have hb := blk_set h.blk i u
  refine ⟨by rw [← hc]; exact hb, h.hp, ?_, ?_, ?_, h.apart⟩
  · rw [hs]; exact Kd.R_set h.safe h.blk (by decide) i u
  · rw [hn]; exact Kd.R_set h.now h.blk (by decide) i u
  · rw [hw]; exact Kd.R_set h.wait h.blk (by decide) i u
/-- What a call costs that changes something. -/
def burnS (s : DiskS) : DiskS := if s.left = 0 then { s with off := true } else if s.off then s else { s with left := max (s.left - 1) (-1) }
def burnE (s : DiskS) : Int := if s.left = 0 ∨ s.off = true then 4 else 0
set_option maxRecDepth 100000 in
theorem burn_walk (base p : Nat) (s : DiskS) (vs vn vw : Value) (W : World) (h : DiskR W base p s vs vn vw) (hl0 : -1 ≤ s.left) (hl1 : s.left ≤ 9223372036854775807) :
    Calls Try.prog 122 #[.pointer (some ⟨p, 0, none⟩)] W fun e w' => e = .returned (.int .i64 (burnE s)) ∧ DiskR w' base p (burnS s) vs vn vw ∧ DFrame base W w' := by
  have HD := Aside0.mk h
  have b3 : W.cell? ⟨p, 3, none⟩ = some (.int .i64 s.left) := (blk_cell h.blk 3).trans rfl
  have b4 : W.cell? ⟨p, 4, none⟩ = some (.bool s.off) := (blk_cell h.blk 4).trans rfl
  have z3 := blk_frozen h.blk 3
  have z4 := blk_frozen h.blk 4
  obtain ⟨safe, now, wait, left, off, wr, fl⟩ := s
  simp only at b3 b4 hl0 hl1
  clear h
  by_cases h0 : left = 0
  · have E0 : Aside0 (burnE ⟨safe, now, wait, left, off, wr, fl⟩ = 4) := ⟨by simp [burnE, h0]⟩
    have E1 : Aside0 (burnS ⟨safe, now, wait, left, off, wr, fl⟩ = ⟨safe, now, wait, left, true, wr, fl⟩) := ⟨by simp [burnS, h0]⟩
    have FR : Aside0 (DFrame base W (W.setCell ⟨p, 4, none⟩ (.bool true))) := ⟨DFrame.set HD.out.hp HD.out.blk (by decide) _⟩
    have FD : Aside0 (DiskR (W.setCell ⟨p, 4, none⟩ (.bool true)) base p ⟨safe, now, wait, left, true, wr, fl⟩ vs vn vw) := ⟨HD.out.set 4 _ rfl rfl rfl rfl⟩
    have hb0 : (left == 0) = true := by simpa using h0
    clear h0
    go_enter Try.func122, Try.ntmps122
    go_wp2
    go_ret
    rw [E0.out, E1.out]
    exact ⟨rfl, FD.out, FR.out⟩
  · have hb0 : (left == 0) = false := by simpa using h0
    cases off with
    | true =>
      have E0 : Aside0 (burnE ⟨safe, now, wait, left, true, wr, fl⟩ = 4) := ⟨by simp [burnE]⟩
      have E1 : Aside0 (burnS ⟨safe, now, wait, left, true, wr, fl⟩ = ⟨safe, now, wait, left, true, wr, fl⟩) := ⟨by simp [burnS, h0]⟩
      clear h0
      go_enter Try.func122, Try.ntmps122
      go_wp2
      go_ret
      rw [E0.out, E1.out]
      exact ⟨rfl, HD.out, DFrame.refl _ _⟩
    | false =>
      rcases (by omega : left = -1 ∨ 1 ≤ left) with rfl | hge
      · have E0 : Aside0 (burnE ⟨safe, now, wait, -1, false, wr, fl⟩ = 0) := ⟨by simp [burnE]⟩
        have E1 : Aside0 (burnS ⟨safe, now, wait, -1, false, wr, fl⟩ = ⟨safe, now, wait, -1, false, wr, fl⟩) := ⟨by simp [burnS]; rfl⟩
        have FR : Aside0 (DFrame base W (W.setCell ⟨p, 3, none⟩ (.int .i64 (-1)))) := ⟨DFrame.set HD.out.hp HD.out.blk (by decide) _⟩
        have FD : Aside0 (DiskR (W.setCell ⟨p, 3, none⟩ (.int .i64 (-1))) base p ⟨safe, now, wait, -1, false, wr, fl⟩ vs vn vw) := ⟨HD.out.set 3 _ rfl rfl rfl rfl⟩
        clear h0
        go_enter Try.func122, Try.ntmps122
        go_wp2
        go_ret
        rw [E0.out, E1.out]
        exact ⟨rfl, FD.out, FR.out⟩
      · have E0 : Aside0 (burnE ⟨safe, now, wait, left, false, wr, fl⟩ = 0) := ⟨by simp [burnE, h0]⟩
        have E1 : Aside0 (burnS ⟨safe, now, wait, left, false, wr, fl⟩ = ⟨safe, now, wait, left - 1, false, wr, fl⟩) := ⟨by simp [burnS, h0]; omega⟩
        have FR : Aside0 (DFrame base W (W.setCell ⟨p, 3, none⟩ (.int .i64 (left - 1)))) := ⟨DFrame.set HD.out.hp HD.out.blk (by decide) _⟩
        have FD : Aside0 (DiskR (W.setCell ⟨p, 3, none⟩ (.int .i64 (left - 1))) base p ⟨safe, now, wait, left - 1, false, wr, fl⟩ vs vn vw) := ⟨HD.out.set 3 _ rfl rfl rfl rfl⟩
        have hw : RowKit.wrap64 (left - 1) = left - 1 := by unfold RowKit.wrap64; omega
        have hlt : ¬ left - 1 < -1 := by omega
        have hle : ¬ left - 1 ≤ -1 := by omega
        clear h0
        go_enter Try.func122, Try.ntmps122
        go_wp2
        go_ret
        rw [E0.out, E1.out]
        exact ⟨rfl, FD.out, FR.out⟩
set_option maxRecDepth 100000 in
theorem devSize_nil (W : World) : Calls Try.prog 73 #[.pointer none] W fun e w' => e = .returned (.int .i64 0) ∧ w' = W := by
  go_enter Try.func73, Try.ntmps73
  go_wp2
  go_ret
  exact ⟨rfl, rfl⟩
set_option maxRecDepth 100000 in
theorem devSize_walk (base p : Nat) (s : DiskS) (vs vn vw : Value) (W : World) (h : DiskR W base p s vs vn vw) :
    Calls Try.prog 73 #[.pointer (some ⟨p, 0, none⟩)] W fun e w' => e = .returned (.int .i64 s.safe.length) ∧ w' = W := by
  obtain ⟨A, c, hvs⟩ := Kd.R_slice h.safe
  have b0 : W.cell? ⟨p, 0, none⟩ = some vs := (blk_cell h.blk 0).trans rfl
  have b4 : W.cell? ⟨p, 4, none⟩ = some (.bool s.off) := (blk_cell h.blk 4).trans rfl
  have b5 : W.cell? ⟨p, 5, none⟩ = some (.int .i64 s.wr) := (blk_cell h.blk 5).trans rfl
  have b6 : W.cell? ⟨p, 6, none⟩ = some (.int .i64 s.fl) := (blk_cell h.blk 6).trans rfl
  subst hvs
  clear h
  go_enter Try.func73, Try.ntmps73
  go_wp2
  go_ret
  exact ⟨rfl, rfl⟩
set_option maxRecDepth 100000 in
theorem devWrites_nil (W : World) : Calls Try.prog 74 #[.pointer none] W fun e w' => e = .returned (.int .i64 0) ∧ w' = W := by
  go_enter Try.func74, Try.ntmps74
  go_wp2
  go_ret
  exact ⟨rfl, rfl⟩
set_option maxRecDepth 100000 in
theorem devWrites_walk (base p : Nat) (s : DiskS) (vs vn vw : Value) (W : World) (h : DiskR W base p s vs vn vw) :
    Calls Try.prog 74 #[.pointer (some ⟨p, 0, none⟩)] W fun e w' => e = .returned (.int .i64 s.wr) ∧ w' = W := by
  obtain ⟨A, c, hvs⟩ := Kd.R_slice h.safe
  have b0 : W.cell? ⟨p, 0, none⟩ = some vs := (blk_cell h.blk 0).trans rfl
  have b4 : W.cell? ⟨p, 4, none⟩ = some (.bool s.off) := (blk_cell h.blk 4).trans rfl
  have b5 : W.cell? ⟨p, 5, none⟩ = some (.int .i64 s.wr) := (blk_cell h.blk 5).trans rfl
  have b6 : W.cell? ⟨p, 6, none⟩ = some (.int .i64 s.fl) := (blk_cell h.blk 6).trans rfl
  subst hvs
  clear h
  go_enter Try.func74, Try.ntmps74
  go_wp2
  go_ret
  exact ⟨rfl, rfl⟩
set_option maxRecDepth 100000 in
theorem devFlushes_nil (W : World) : Calls Try.prog 75 #[.pointer none] W fun e w' => e = .returned (.int .i64 0) ∧ w' = W := by
  go_enter Try.func75, Try.ntmps75
  go_wp2
  go_ret
  exact ⟨rfl, rfl⟩
set_option maxRecDepth 100000 in
theorem devFlushes_walk (base p : Nat) (s : DiskS) (vs vn vw : Value) (W : World) (h : DiskR W base p s vs vn vw) :
    Calls Try.prog 75 #[.pointer (some ⟨p, 0, none⟩)] W fun e w' => e = .returned (.int .i64 s.fl) ∧ w' = W := by
  obtain ⟨A, c, hvs⟩ := Kd.R_slice h.safe
  have b0 : W.cell? ⟨p, 0, none⟩ = some vs := (blk_cell h.blk 0).trans rfl
  have b4 : W.cell? ⟨p, 4, none⟩ = some (.bool s.off) := (blk_cell h.blk 4).trans rfl
  have b5 : W.cell? ⟨p, 5, none⟩ = some (.int .i64 s.wr) := (blk_cell h.blk 5).trans rfl
  have b6 : W.cell? ⟨p, 6, none⟩ = some (.int .i64 s.fl) := (blk_cell h.blk 6).trans rfl
  subst hvs
  clear h
  go_enter Try.func75, Try.ntmps75
  go_wp2
  go_ret
  exact ⟨rfl, rfl⟩
set_option maxRecDepth 100000 in
theorem devOff_nil (W : World) : Calls Try.prog 79 #[.pointer none] W fun e w' => e = .returned (.bool false) ∧ w' = W := by
  go_enter Try.func79, Try.ntmps79
  go_wp2
  go_ret
  exact ⟨rfl, rfl⟩
set_option maxRecDepth 100000 in
theorem devOff_walk (base p : Nat) (s : DiskS) (vs vn vw : Value) (W : World) (h : DiskR W base p s vs vn vw) :
    Calls Try.prog 79 #[.pointer (some ⟨p, 0, none⟩)] W fun e w' => e = .returned (.bool s.off) ∧ w' = W := by
  obtain ⟨A, c, hvs⟩ := Kd.R_slice h.safe
  have b0 : W.cell? ⟨p, 0, none⟩ = some vs := (blk_cell h.blk 0).trans rfl
  have b4 : W.cell? ⟨p, 4, none⟩ = some (.bool s.off) := (blk_cell h.blk 4).trans rfl
  have b5 : W.cell? ⟨p, 5, none⟩ = some (.int .i64 s.wr) := (blk_cell h.blk 5).trans rfl
  have b6 : W.cell? ⟨p, 6, none⟩ = some (.int .i64 s.fl) := (blk_cell h.blk 6).trans rfl
  subst hvs
  clear h
  go_enter Try.func79, Try.ntmps79
  go_wp2
  go_ret
  exact ⟨rfl, rfl⟩
end Go.Proofs.Ytdknolnoimpgeaa.K
