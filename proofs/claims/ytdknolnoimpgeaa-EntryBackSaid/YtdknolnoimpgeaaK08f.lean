/- slices.Chunk of 64 bytes by 16: an iterator's contract. -/
import Derived.Test.YtdknolnoimpgeaaKIn
import Derived.RangeFuncNested
import Derived.RangeFuncBound
import Derived.RangeFuncCalls
import Derived.RangeFuncLeaves
import Derived.Shelf.Abstract
import Derived.Shelf.RegionOpen
import Derived.LoopNIn
import Derived.LoopIn
namespace Go.Proofs.Ytdknolnoimpgeaa.K
open Go.RowKit Go.Shelf Go.Proofs.YtdknolnoimpgeaaW.PrintWords Go.Proofs.YtdknolnoimpgeaaW.PrintLast Go.Proofs.YtdknolnoimpgeaaW.PrintMore
set_option linter.unusedVariables false
set_option linter.unusedSimpArgs false
theorem go_onf {p : Prop} (h : p) : p := h
abbrev chunkV (g j : Nat) : Value := .slice (some ⟨g, 16 * j, none⟩) 16 16
theorem take4_succ : ∀ j : Fin 4, (List.finRange 4).take (j.val + 1) = (List.finRange 4).take j.val ++ [j] := by decide
theorem chunk_cut1 (g c j : Nat) (hc : 64 ≤ c) (hj : j < 4) : ∀ W : World, (Instr.slice 24 (.slice (some ⟨g, 0, none⟩) 64 c) (some (.int .i64 (16 * (j : Int)))) none none).run Try.prog W = .ok (.slice (some ⟨g, 16 * j, none⟩) (64 - 16 * j) (c - 16 * j)) W := fun W => by
  obtain ⟨i0, hi0, hz0⟩ := Option.map_eq_some_iff.1 u8info
  have := cut_from (P := Try.prog) 24 5 .i64 Try.underlying24 hi0 1 (by simpa using congrArg (fun x => x.2.1) hz0) (some ⟨g, 0, none⟩) 64 c (16 * (j : Int)) (by omega) (by omega) W
  rw [this]
  have e : (16 * (j : Int)).toNat = 16 * j := by omega
  rw [e, if_neg (by omega)]
  simp [Addr.add]
  omega
theorem chunk_cut2 (g c j : Nat) (hc : 64 ≤ c) (hj : j < 4) : ∀ W : World, (Instr.slice 24 (.slice (some ⟨g, 0, none⟩) 64 c) (some (.int .i64 (16 * (j : Int)))) (some (.int .i64 (16 * (j : Int) + 16))) (some (.int .i64 (16 * (j : Int) + 16)))).run Try.prog W = .ok (.slice (some ⟨g, 16 * j, none⟩) 16 16) W := fun W => by
  obtain ⟨i0, hi0, hz0⟩ := Option.map_eq_some_iff.1 u8info
  have hsz : i0.size = 1 := by simpa using congrArg (fun x => x.2.1) hz0
  have hel : Try.prog.elem 24 = 5 := by simp [Program.elem, Try.underlying24]
  rw [run_slice_lhm (P := Try.prog) W 24 (some ⟨g, 0, none⟩) 64 c (by rw [hel]; exact Try.underlying24) .i64 .i64 .i64 (16 * (j : Int)) (16 * (j : Int) + 16) (16 * (j : Int) + 16) (by omega) (by omega) (by omega) (by omega), hel]
  have e : (16 * (j : Int)).toNat = 16 * j := by omega
  have e2 : (16 * (j : Int) + 16).toNat = 16 * j + 16 := by omega
  simp [sizeOf, typeInfo, hi0, hsz, sliced, Result.andThen, e, e2, Addr.add]
  omega
theorem grown_drewN (w : World) (n : Nat) : w.grownBy (w.drewN n) none := ⟨rfl, rfl, rfl, Nat.le_refl _, fun _ _ _ => rfl⟩
/-- What a round keeps for the iterator: its two captured variables. -/
def Keep2 (bs bn : Nat) (A B : World) : Prop := B.heap[bs]? = A.heap[bs]? ∧ B.heap[bn]? = A.heap[bn]?
theorem keep2_t {bs bn : Nat} {A B C : World} (h : Keep2 bs bn A B) (k : Keep2 bs bn B C) : Keep2 bs bn A C := ⟨k.1.trans h.1, k.2.trans h.2⟩
theorem keep2_b {bs bn : Nat} {w : World} (h1 : bs < w.heap.size) (h2 : bn < w.heap.size) (W : World) (l : Nat) (o o' : Obj) (hl : w.heap.size ≤ l) (_ : W.heap[l]? = some o) (_ : o.isCells = false) (_ : o.isWalk = false) : Keep2 bs bn W (W.putObj l o') :=
  ⟨World.putObj_heap_other (by omega), World.putObj_heap_other (by omega)⟩
set_option maxHeartbeats 2000000 in
set_option maxRecDepth 100000 in
theorem chunk_stops (n g bs bn c : Nat) (w : World) (hc : 64 ≤ c) (hs : w.cell? ⟨bs, 0, none⟩ = some (.slice (some ⟨g, 0, none⟩) 64 c)) (hn : w.cell? ⟨bn, 0, none⟩ = some (.int .i64 16)) :
    SeqStopsK Fence.wide n Try.prog 145 #[.pointer (some ⟨bs, 0, none⟩), .pointer (some ⟨bn, 0, none⟩)] (fun x : Fin 4 => #[chunkV g x.val]) (Keep2 bs bn) (fun xs => xs = List.finRange 4) (fun pre => pre <+: List.finRange 4) 4 w := by
  intro l J Jx W hW hJ hJx hY h0
  have s0 : W.cell? ⟨bs, 0, none⟩ = some (.slice (some ⟨g, 0, none⟩) 64 c) := pw_cell_below hW hs
  have n0_ : W.cell? ⟨bn, 0, none⟩ = some (.int .i64 16) := pw_cell_below hW hn
  clear hs hn
  refine callsIn_of_wp Try.func145 rfl trivial ?_ rfl
  simp only [Try.ntmps145, List.size_toArray, List.length_cons, List.length_nil, Nat.reduceAdd, Nat.reduceSub, Array.replicate_succ, Array.replicate_zero, List.push_toArray, List.append_toArray, List.nil_append, List.cons_append]
  gi_wp2
  gi_loopw [4] (fun v4 wr => ∃ j : Nat, v4 = .int .i64 (16 * (j : Int)) ∧ Aside0 (j ≤ 4) ∧ Aside0 (J ((List.finRange 4).take j) wr) ∧ Aside0 (wr.cell? ⟨bs, 0, none⟩ = some (.slice (some ⟨g, 0, none⟩) 64 c)) ∧ Aside0 (wr.cell? ⟨bn, 0, none⟩ = some (.int .i64 16))) (fun v4 _ => 4 - (intOf v4).toNat / 16)
  case atStart => exact ⟨0, rfl, ⟨Nat.zero_le _⟩, ⟨h0⟩, ⟨s0⟩, ⟨n0_⟩⟩
  case round =>
    clear s0 n0_
    obtain ⟨j, rfl, hj, HJ, S0, N0⟩ := hrel
    have s0 := S0.out
    have nn0 := N0.out
    have hj' := hj.out
    by_cases hlt : j < 4
    · have hcut := chunk_cut1 g c j hc hlt
      gi_wp2
      refine wpIn_wide.2 ?_
      go_quiet (fail)
      obtain ⟨wq, hwq⟩ : ∃ wq, wq = wr.drewN nq := ⟨_, rfl⟩
      have HJ2 : Aside0 (J ((List.finRange 4).take j) wq) := ⟨by rw [hwq]; exact hJ _ _ _ _ HJ.out (grown_drewN _ _) (fun r e => by cases e)⟩
      have t0 : wq.cell? ⟨bs, 0, none⟩ = some (.slice (some ⟨g, 0, none⟩) 64 c) := by rw [hwq]; exact s0
      have u0 : wq.cell? ⟨bn, 0, none⟩ = some (.int .i64 16) := by rw [hwq]; exact nn0
      obtain ⟨fn, tmps, assign, body, hy, hR⟩ := hY ((List.finRange 4).take j) ⟨j, hlt⟩ wq HJ2.out (by simp; omega)
      dsimp only [chunkV] at hy
      have hcut3 := chunk_cut2 g c j hc hlt
      have hw1 : RowKit.wrap64 (16 * (j : Int) + 16) = 16 * (j : Int) + 16 := by unfold RowKit.wrap64; omega
      refine go_onf ?_
      rw [← hwq]
      clear hwq S0 N0 s0 nn0 HJ hcut
      gi_wp2
      refine ⟨fun hd => (by simp [Fence.wide] at hd), ?_⟩
      refine hR.mono ?_
      rintro e W3 (⟨rfl, hJ3, hk3⟩ | ⟨rfl, hJx3⟩)
      · have t3 : W3.cell? ⟨bs, 0, none⟩ = some (.slice (some ⟨g, 0, none⟩) 64 c) := (World.cell?_of_block (a := ⟨bs, 0, none⟩) hk3.1).trans t0
        have u3 : W3.cell? ⟨bn, 0, none⟩ = some (.int .i64 16) := (World.cell?_of_block (a := ⟨bn, 0, none⟩) hk3.2).trans u0
        have HJ3 := Aside0.mk hJ3
        have hs4 := take4_succ ⟨j, hlt⟩
        gi_wp2
        go_roundw
        case rel => exact ⟨j + 1, by simp; omega, ⟨by omega⟩, ⟨by rw [hs4]; exact HJ3.out⟩, ⟨t3⟩, ⟨u3⟩⟩
        case measure => simp [intOf]; omega
      · have HJX := Aside0.mk hJx3
        have hs4 := take4_succ ⟨j, hlt⟩
        gi_wp2
        refine bodyPost_ret (results_none rfl _ _ _) rfl ?_
        exact ⟨⟨_, rfl⟩, .inr ⟨_, by rw [← hs4]; exact List.take_prefix _ _, HJX.out⟩⟩
    · have hj4 : j = 4 := by omega
      subst hj4
      gi_wp2
      go_end0
      exact ⟨⟨_, rfl⟩, .inl ⟨_, rfl, by rw [← (by decide : (List.finRange 4).take 4 = List.finRange 4)]; exact HJ.out⟩⟩
end Go.Proofs.Ytdknolnoimpgeaa.K
