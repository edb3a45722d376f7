/- slices.Chunk of 128 n bytes by 128: an iterator's contract (journal.read). -/
import Derived.Test.YtdkbhbolkieeiaaKIn
import Derived.Test.YtdkbhbolkieeiaaKRes
import Derived.RangeFuncNested
import Derived.RangeFuncBound
import Derived.RangeFuncCalls
import Derived.RangeFuncLeaves
import Derived.Shelf.Abstract
import Derived.Shelf.RegionOpen
import Derived.LoopNIn
import Derived.LoopIn
namespace Go.Proofs.Ytdkbhbolkieeiaa.K
open Go.RowKit Go.Shelf Go.Proofs.YtdkbhbolkieeiaaW.PrintWords Go.Proofs.YtdkbhbolkieeiaaW.PrintLast Go.Proofs.YtdkbhbolkieeiaaW.PrintMore
set_option linter.unusedVariables false
set_option linter.unusedSimpArgs false
theorem go_onj {p : Prop} (h : p) : p := h
abbrev chunkW (ad : Addr) (j : Nat) : Value := .slice (some (ad.add (128 * j))) 128 128
theorem fin_take_succ {n : Nat} (j : Fin n) : (List.finRange n).take (j.val + 1) = (List.finRange n).take j.val ++ [j] := by
  rw [List.take_add_one]
  simp
theorem fin_take_all {n : Nat} : (List.finRange n).take n = List.finRange n := List.take_of_length_le (by simp)
theorem chunkw_cut1 (ad : Addr) (c n j : Nat) (hn : n ≤ 1000000) (hc : 128 * n ≤ c) (hj : j < n) : ∀ W : World, (Instr.slice 44 (.slice (some ad) (128 * n) c) (some (.int .i64 (128 * (j : Int)))) none none).run Try.prog W = .ok (.slice (some (ad.add (128 * j))) (128 * n - 128 * j) (c - 128 * j)) W := fun W => by
  obtain ⟨i0, hi0, hz0⟩ := Option.map_eq_some_iff.1 u8info
  have := cut_from (P := Try.prog) 44 5 .i64 Try.underlying44 hi0 1 (by simpa using congrArg (fun x => x.2.1) hz0) (some ad) (128 * n) c (128 * (j : Int)) (by omega) (by omega) W
  rw [this]
  have e : (128 * (j : Int)).toNat = 128 * j := by omega
  rw [e, if_neg (by omega)]
  simp
theorem chunkw_cut2 (ad : Addr) (c n j : Nat) (hn : n ≤ 1000000) (hc : 128 * n ≤ c) (hj : j < n) : ∀ W : World, (Instr.slice 44 (.slice (some ad) (128 * n) c) (some (.int .i64 (128 * (j : Int)))) (some (.int .i64 (128 * (j : Int) + 128))) (some (.int .i64 (128 * (j : Int) + 128)))).run Try.prog W = .ok (.slice (some (ad.add (128 * j))) 128 128) W := fun W => by
  obtain ⟨i0, hi0, hz0⟩ := Option.map_eq_some_iff.1 u8info
  have hsz : i0.size = 1 := by simpa using congrArg (fun x => x.2.1) hz0
  have hel : Try.prog.elem 44 = 5 := by simp [Program.elem, Try.underlying44]
  rw [run_slice_lhm (P := Try.prog) W 44 (some ad) (128 * n) c (by rw [hel]; exact Try.underlying44) .i64 .i64 .i64 (128 * (j : Int)) (128 * (j : Int) + 128) (128 * (j : Int) + 128) (by omega) (by omega) (by omega) (by omega), hel]
  have e : (128 * (j : Int)).toNat = 128 * j := by omega
  have e2 : (128 * (j : Int) + 128).toNat = 128 * j + 128 := by omega
  simp [sizeOf, typeInfo, hi0, hsz, sliced, Result.andThen, e, e2]
  try omega
theorem grown_drewNw (w : World) (n : Nat) : w.grownBy (w.drewN n) none := ⟨rfl, rfl, rfl, Nat.le_refl _, fun _ _ _ => rfl⟩
/-- What a round keeps for the iterator: its two captured variables. -/
def Keep2w (bs bn : Nat) (A B : World) : Prop := B.heap[bs]? = A.heap[bs]? ∧ B.heap[bn]? = A.heap[bn]?
theorem keep2w_t {bs bn : Nat} {A B C : World} (h : Keep2w bs bn A B) (k : Keep2w bs bn B C) : Keep2w bs bn A C := ⟨k.1.trans h.1, k.2.trans h.2⟩
theorem keep2w_b {bs bn : Nat} {w : World} (h1 : bs < w.heap.size) (h2 : bn < w.heap.size) (W : World) (l : Nat) (o o' : Obj) (hl : w.heap.size ≤ l) (_ : W.heap[l]? = some o) (_ : o.isCells = false) (_ : o.isWalk = false) : Keep2w bs bn W (W.putObj l o') :=
  ⟨World.putObj_heap_other (by omega), World.putObj_heap_other (by omega)⟩
set_option maxHeartbeats 2000000 in
set_option maxRecDepth 100000 in
theorem chunkw_stops (n N : Nat) (ad : Addr) (bs bn c : Nat) (w : World) (hN : N ≤ 1000000) (hc : 128 * N ≤ c) (hs : w.cell? ⟨bs, 0, none⟩ = some (.slice (some ad) (128 * N) c)) (hn : w.cell? ⟨bn, 0, none⟩ = some (.int .i64 128)) :
    SeqStopsK Fence.wide n Try.prog 126 #[.pointer (some ⟨bs, 0, none⟩), .pointer (some ⟨bn, 0, none⟩)] (fun x : Fin N => #[chunkW ad x.val]) (Keep2w bs bn) (fun xs => xs = List.finRange N) (fun pre => pre <+: List.finRange N) N w := by
  intro l J Jx W hW hJ hJx hY h0
  have s0 : W.cell? ⟨bs, 0, none⟩ = some (.slice (some ad) (128 * N) c) := pw_cell_below hW hs
  have n0_ : W.cell? ⟨bn, 0, none⟩ = some (.int .i64 128) := pw_cell_below hW hn
  clear hs hn
  refine callsIn_of_wp Try.func126 rfl trivial ?_ rfl
  simp only [Try.ntmps126, List.size_toArray, List.length_cons, List.length_nil, Nat.reduceAdd, Nat.reduceSub, Array.replicate_succ, Array.replicate_zero, List.push_toArray, List.append_toArray, List.nil_append, List.cons_append]
  gi_wp2
  gi_loopw [4] (fun v4 wr => ∃ j : Nat, v4 = .int .i64 (128 * (j : Int)) ∧ Aside0 (j ≤ N) ∧ Aside0 (J ((List.finRange N).take j) wr) ∧ Aside0 (wr.cell? ⟨bs, 0, none⟩ = some (.slice (some ad) (128 * N) c)) ∧ Aside0 (wr.cell? ⟨bn, 0, none⟩ = some (.int .i64 128))) (fun v4 _ => N - (intOf v4).toNat / 128)
  case atStart => exact ⟨0, rfl, ⟨Nat.zero_le _⟩, ⟨h0⟩, ⟨s0⟩, ⟨n0_⟩⟩
  case round =>
    clear s0 n0_
    obtain ⟨j, rfl, hj, HJ, S0, N0⟩ := hrel
    have s0 := S0.out
    have nn0 := N0.out
    have hj' := hj.out
    by_cases hlt : j < N
    · have hcut := chunkw_cut1 ad c N j hN hc hlt
      have hlt2 : (128 * (j : Int)) < ((128 * N : Nat) : Int) := by omega
      gi_wp2
      refine wpIn_wide.2 ?_
      go_quiet (fail)
      obtain ⟨wq, hwq⟩ : ∃ wq, wq = wr.drewN nq := ⟨_, rfl⟩
      have HJ2 : Aside0 (J ((List.finRange N).take j) wq) := ⟨by rw [hwq]; exact hJ _ _ _ _ HJ.out (grown_drewNw _ _) (fun r e => by cases e)⟩
      have t0 : wq.cell? ⟨bs, 0, none⟩ = some (.slice (some ad) (128 * N) c) := by rw [hwq]; exact s0
      have u0 : wq.cell? ⟨bn, 0, none⟩ = some (.int .i64 128) := by rw [hwq]; exact nn0
      obtain ⟨fn, tmps, assign, body, hy, hR⟩ := hY ((List.finRange N).take j) ⟨j, hlt⟩ wq HJ2.out (by simp; omega)
      dsimp only [chunkW] at hy
      have hcut3 := chunkw_cut2 ad c N j hN hc hlt
      have hw1 : RowKit.wrap64 (128 * (j : Int) + 128) = 128 * (j : Int) + 128 := by unfold RowKit.wrap64; omega
      refine go_onj ?_
      rw [← hwq]
      clear hwq S0 N0 s0 nn0 HJ hcut
      gi_wp2
      refine ⟨fun hd => (by simp [Fence.wide] at hd), ?_⟩
      refine hR.mono ?_
      rintro e W3 (⟨rfl, hJ3, hk3⟩ | ⟨rfl, hJx3⟩)
      · have t3 : W3.cell? ⟨bs, 0, none⟩ = some (.slice (some ad) (128 * N) c) := (World.cell?_of_block (a := ⟨bs, 0, none⟩) hk3.1).trans t0
        have u3 : W3.cell? ⟨bn, 0, none⟩ = some (.int .i64 128) := (World.cell?_of_block (a := ⟨bn, 0, none⟩) hk3.2).trans u0
        have HJ3 := Aside0.mk hJ3
        have hs4 := fin_take_succ ⟨j, hlt⟩
        gi_wp2
        go_roundw
        case rel => exact ⟨j + 1, by simp; omega, ⟨by omega⟩, ⟨by rw [hs4]; exact HJ3.out⟩, ⟨t3⟩, ⟨u3⟩⟩
        case measure => simp [intOf]; omega
      · have HJX := Aside0.mk hJx3
        have hs4 := fin_take_succ ⟨j, hlt⟩
        gi_wp2
        refine bodyPost_ret (results_none rfl _ _ _) rfl ?_
        exact ⟨⟨_, rfl⟩, .inr ⟨_, by rw [← hs4]; exact List.take_prefix _ _, HJX.out⟩⟩
    · have hj4 : j = N := by omega
      subst hj4
      have hge : ¬ (128 * (j : Int)) < ((128 * j : Nat) : Int) := by omega
      gi_wp2
      go_end0
      have HJ5 : Aside0 (J (List.finRange j) wr) := ⟨by have h_ := HJ.out; rwa [fin_take_all] at h_⟩
      first | exact ⟨⟨_, rfl⟩, .inl ⟨_, rfl, HJ5.out⟩⟩ | exact ⟨⟨_, rfl⟩, .inl HJ5.out⟩
theorem chunkw_walk (ad : Addr) (L c : Nat) (w : World) : Calls Try.prog 109 #[.slice (some ad) L c, .int .i64 128] w fun e w' => e = .returned (.func (.func 126) #[] #[.pointer (some ⟨w.heap.size, 0, none⟩), .pointer (some ⟨w.heap.size + 1, 0, none⟩)]) ∧ w' = (w.alloc (.cells #[.slice (some ad) L c] 44)).alloc (.cells #[.int .i64 128] 3) := by
  go_enter Try.func109, Try.ntmps109
  go_wp2
  go_ret
  exact ⟨rfl, rfl⟩
end Go.Proofs.Ytdkbhbolkieeiaa.K
