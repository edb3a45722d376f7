/- A disk's methods: a sector turned. -/
import Derived.Test.YtdknolnoimpgeaaKDev6
import Derived.Test.YtdknolnoimpgeaaKPut
namespace Go.Proofs.Ytdknolnoimpgeaa.K
open Go.RowKit Go.Proofs.YtdknolnoimpgeaaW.PrintWords Go.Proofs.YtdknolnoimpgeaaW.PrintLast Go.Proofs.YtdknolnoimpgeaaW.PrintMore
set_option linter.unusedVariables false
set_option linter.unusedSimpArgs false
theorem exec_store {P : Program} {o : Oper} {a : Act} {W W' : World} {ty : TypeId} {x y : Operand} {v u : Value} (ho : o.op = .store ty x y) (hx : a.eval x = v) (hy : a.eval y = u) (h : (Instr.storeAt ty v u).run P W = .ok () W') : (execOp a.eval o).run P W = .ok .skip W' := by
  unfold execOp
  simp only [ho, hx, hy, Sem.run_bind, h, Result.andThen_ok, Sem.run_pure]
theorem exec_struct {P : Program} {o : Oper} {a : Act} {W : World} {t : TypeId} {parts : Array (Nat × Operand)} {vs : Array (Nat × Value)} {u : Value} (ho : o.op = .build t parts) (hp : parts.map (fun x => (x.1, a.eval x.2)) = vs) (h : (Instr.build t vs).run P W = .ok u W) : (execOp a.eval o).run P W = .ok (.value u) W := by
  unfold execOp
  subst hp
  simp only [ho, Sem.run_bind, h, Result.andThen_ok, Sem.run_pure]
theorem pen_built (parts : List (Nat × Value)) : Try.prog.built TPen parts = Instr.fill (#[(0, 1), (1, 64)][·]?) (Value.int .i64 0 :: List.replicate 64 (Value.int .u8 0)).toArray parts := by kernel_rfl
theorem build_pen (m : Int) (x : Sec) (W : World) : (Instr.build TPen #[(0, .int .i64 m), (1, .agg x.enc.toArray)]).run Try.prog W = .ok (.agg (Pen.enc ⟨m, x⟩).toArray) W := by
  refine run_build W TPen _ _ ?_
  rw [pen_built]
  have hs : x.enc.toArray.size = 64 := by simp [Sec.len]
  obtain ⟨g1, g2⟩ := Go.Great.foldl_set 1 x.enc 0 (Value.int .i64 m :: List.replicate 64 (Value.int .u8 0)).toArray
  have e : (x.enc.zipIdx.foldl (fun cs (x : Value × Nat) => cs.setIfInBounds (1 + x.2) x.1) (Value.int .i64 m :: List.replicate 64 (Value.int .u8 0)).toArray) = (Pen.enc ⟨m, x⟩).toArray := by
    apply Array.ext_getElem?
    intro k
    rw [g2 k, Sec.len]
    unfold Pen.enc
    rcases k with _ | k
    · simp
    · by_cases hk : k < 64
      · rw [if_pos (by simp; omega)]
        simp [Nat.add_comm]
      · rw [if_neg (by omega)]
        rw [List.getElem?_toArray, List.getElem?_toArray, List.getElem?_eq_none (by simp; omega), List.getElem?_eq_none (by show _ ≤ _; simp [Sec.len]; omega)]
  unfold Instr.fill
  simp only [Value.cells]
  rw [← e]
  simp [Instr.fill, Value.cells, hs, ← Array.foldl_toList]
theorem DiskR.putNow {W : World} {base p : Nat} {s : DiskS} {vs vn vw : Value} (h : DiskR W base p s vs vn vw) {m : Nat} (hm : m < s.now.length) (x : Sec) :
    ∃ g c, vn = .slice (some ⟨g, 0, none⟩) s.now.length c ∧ W.there g (m * 64) 64 ∧ DiskR (W.setCells g (m * 64) x.enc) base p { s with now := s.now.set m x } vs vn vw ∧ DFrame base W (W.setCells g (m * 64) x.enc) := by
  obtain ⟨g, c, cs, hv, hb, bk, ht, hR, hg⟩ := Kd.R_putF h.now hm x
  have hgp : g ≠ p := fun e => by
    subst e
    rw [h.blk] at bk
    simp only [Option.some.injEq, Obj.cells.injEq] at bk
    exact absurd bk.2.1 (by decide)
  have hown : vn.ownBlock = some g := by rw [hv]; rfl
  have hns : some g ≠ vs.ownBlock := fun e => h.apart g e.symm hown
  have hnw := Kd.R_ne h.wait bk (by decide)
  refine ⟨g, c, hv, ht, ⟨blk_grown h.blk hg (fun e => hgp (Option.some.inj e).symm), h.hp, Kd.R_grown1 h.safe rfl hg hns, hR, Kd.R_grown1 h.wait rfl hg hnw, h.apart⟩, DFrame.grown h.size hg fun k e => ?_⟩
  cases e
  exact ⟨hb, cs, TSec, bk, by decide⟩
/-- A pen more waits: the row grew, and then the disk's cell is written. -/
theorem DiskR.putWait {W w9 : World} {base p : Nat} {s : DiskS} {vs vn vw v9 : Value} (h : DiskR W base p s vs vn vw) {l : List Pen} (ho : Kd.R kPen TPen w9 base (fun _ => True) v9 l) (hg : W.grownBy w9 vw.ownBlock) (hat : v9.ownBlock = vw.ownBlock ∨ ∃ b, v9.ownBlock = some b ∧ W.heap.size ≤ b) :
    w9.heap[p]? = some (.cells (diskA s vs vn vw) TDisk (0, 0)) ∧ DiskR (w9.setCell ⟨p, 2, none⟩ v9) base p { s with wait := l } vs vn v9 ∧ DFrame base W (w9.setCell ⟨p, 2, none⟩ v9) := by
  have bk := blk_grown h.blk hg (Kd.R_ne h.wait h.blk (by decide))
  have hne : ∀ (v : Value) (xs : List Sec), Kd.R kSec TSec W base (fun _ => True) v xs → ∀ b, vw.ownBlock = some b → v.ownBlock ≠ some b := fun v xs hv b e1 e2 => by
    obtain ⟨_, _, _, q, hq, cells, hc⟩ := (Kd.R_bound h.wait).1 b e1
    obtain rfl : q = TPen := by rcases List.mem_cons.1 hq with h | h; exact h; cases h
    exact Kd.R_ne hv hc (by decide) e2.symm
  have hS := (Kd.R_apart h.wait h.safe (hne _ _ h.safe) hg hat).1
  have hN := (Kd.R_apart h.wait h.now (hne _ _ h.now) hg hat).1
  refine ⟨bk, ⟨blk_set bk 2 v9, h.hp, Kd.R_set hS bk (by decide) 2 v9, Kd.R_set hN bk (by decide) 2 v9, Kd.R_set ho bk (by decide) 2 v9, h.apart⟩, (DFrame.grown h.size hg fun k e => ?_).trans (DFrame.set h.hp bk (by decide) v9)⟩
  obtain ⟨_, hb, _, q, hq, cells, hc⟩ := (Kd.R_bound h.wait).1 k e
  obtain rfl : q = TPen := by rcases List.mem_cons.1 hq with h | h; exact h; cases h
  exact ⟨hb, cells, _, hc, by decide⟩
end Go.Proofs.Ytdknolnoimpgeaa.K
