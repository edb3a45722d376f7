/- journal.read. -/
import Derived.Test.YtdkbhbolkieeiaaK27e
import Derived.Test.YtdkbhbolkieeiaaKWr
import Derived.Test.YtdkbhbolkieeiaaK01
import Derived.RangeFuncFrom
namespace Go.Proofs.YtdkbhbolkieeiaaW.PrintWords
open Go.RowKit Go.Proofs.Ytdkbhbolkieeiaa.K
namespace Kd
/-- A row of one's own abides the turn of a block that is no cells. -/
theorem R_turnJ {α : Type} {d : Kd α} {e : TypeId} {w w1 : World} {base : Nat} {ok : Nat → Prop} {v : Value} {xs : List α} (h : d.R e w base ok v xs) {row : Option Nat} (hg : w.grownBy w1 row) (hr : ∀ r, row = some r → ∃ o : Obj, w.heap[r]? = some o ∧ o.isCells = false) : d.R e w1 base ok v xs :=
  R_mono (R_grown (R_bound h) hg (fun k hk e => by
    obtain ⟨q, _, cells, hc⟩ := hk.2.2.2
    obtain ⟨o, ho, hn⟩ := hr k e.symm
    rw [hc] at ho
    obtain rfl := Option.some.inj ho
    cases hn)) (fun _ hk => hk.1)
theorem R_farJ {α : Type} {d : Kd α} {e : TypeId} {w : World} {base : Nat} {ok : Nat → Prop} {v : Value} {xs : List α} (h : d.R e w base ok v xs) {p : Addr} (hp : p.block < base) (u : Value) : d.R e (w.setCell p u) base ok v xs :=
  R_mono (R_far (R_bound h) (fun k hk => by have := hk.2.1; omega) u) (fun _ hk => hk.1)
end Kd
end Go.Proofs.YtdkbhbolkieeiaaW.PrintWords
namespace Go.Proofs.Ytdkbhbolkieeiaa.K
open Go.RowKit Go.Shelf Go.Lib Go.Proofs.YtdkbhbolkieeiaaW.PrintWords Go.Proofs.YtdkbhbolkieeiaaW.PrintLast Go.Proofs.YtdkbhbolkieeiaaW.PrintMore
attribute [local go_sem] Oper.semAt_some
set_option linter.unusedVariables false
set_option linter.unusedSimpArgs false
/-- A region that draws, in a round's body, is walked as one of a function's. -/
theorem startIn_ {P : Program} {ln n' id n : Nat} {lo : List Oper} {Q : Exit → Act → World → Prop} {S : World → Prop} {ds : List Nat} {a : Act} {w : World} (hp : plainOps lo = true) (hQ : ¬ LetsOut Q) (li : Array Bool) (hm : P.follows .mixedOrders = true) (hn : lo.toArray.size = n) (hl : Array.replicate n false = li) (hS : S w.drew)
    (h : S w.drew → wpAnyLast P .any lo.toArray Q S ds n li a w.drew) : (Code.region id lo.toArray true).wpIn (RF ln) n' P Q a w := by
  subst hn
  subst hl
  refine wpIn_region_draw fun t => wpOpsIn_of_wpOps hQ (plainOps_get hp) _ a _ ?_
  simp only [Region.schedule, hm, Bool.true_or, if_true]
  exact wpAny_sound _ t _ a _ (wpAny_of_last _ _ _ _ (h hS))
theorem R_turnW {α β : Type} {d : Kd α} {d' : Kd β} (g : α → β) (hs : d'.sz = d.sz) {e base : Nat} {W : World} {ok : Nat → Prop} {v : Value} {xs : List α} (hc : ∀ okp a cs, d.M W base okp a cs → d'.M W base okp (g a) cs) (h : Kd.R d e W base ok v xs) : Kd.R d' e W base ok v (xs.map g) := by
  obtain ⟨h1, inner, h2, h3⟩ := h
  refine ⟨h1, inner, ?_, ?_⟩
  · rw [List.length_map, hs]; exact h2
  · refine ⟨by rw [List.length_map, hs]; exact h3.1, fun j p hp => ?_⟩
    rw [List.getElem?_map, Option.map_eq_some_iff] at hp
    obtain ⟨a, ha, rfl⟩ := hp
    rw [hs]
    exact hc _ _ _ (h3.2 j a ha)
abbrev kWP : Kd (Int × List Int) := Kd.pair (Kd.int .i64) (Kd.slice 5 (Kd.int .u8))
/-- The write that lies at a place of a log. -/
def wrAt (l : List Int) (j : Nat) : Int × List Int := ((numG ((l.drop (128 * j)).take 128) 0 4).1, ((l.drop (128 * j)).take 128).drop 64)
def readN (l : List Int) (n : Nat) : List (Int × List Int) := (List.finRange n).map fun j => wrAt l j.val
theorem wrinfo : (Try.prog.info? 82).map (fun i => (i.zero, i.size, i.bytes)) = some (some (.agg #[.int .i64 0, .slice none 0 0]), 2, 32) := by kernel_rfl
/-- What lies between two rounds. -/
def ReadI {n : Nat} (w : World) (N0 : Nat) (l : List Int) (pre : List (Fin n)) (W : World) : Prop :=
  ∃ vl : Value, W.heap[w.heap.size]? = some (.cells #[vl] 39 (0, 0)) ∧ Kd.R kWP 82 W N0 (fun _ => True) vl (pre.map fun j => wrAt l j.val) ∧ Below w.heap.size w W ∧ N0 ≤ W.heap.size
theorem readI_own {n : Nat} (w : World) (N0 B : Nat) (l : List Int) (hB : w.heap.size ≤ B) : OwnFrom B (ReadI (n := n) w N0 l) := by
  rintro pre W W' row ⟨vl, h1, h2, h3, h4⟩ hg hr
  have hr' : ∀ r, row = some r → ∃ o : Obj, W.heap[r]? = some o ∧ o.isCells = false := fun r e => (hr r e).2
  refine ⟨vl, (hg.block _ (Array.getElem?_eq_some_iff.1 h1).1 (fun e => by obtain ⟨o, ho, hn⟩ := hr' _ e.symm; rw [h1] at ho; cases ho; cases hn)).trans h1, Kd.R_turnJ h2 hg hr', h3.grown hg h3.size (fun k e => Nat.le_trans hB (hr k e).1), Nat.le_trans h4 hg.size⟩
theorem keeps_belowJ {W W' : World} (h : Below W.heap.size W W') : KeepsOthers W W' := ⟨h.size, fun k o hk _ => (h.block k (Array.getElem?_eq_some_iff.1 hk).1).trans hk⟩
theorem keep2w_below {bs bn : Nat} {A B C : World} (h : Keep2w bs bn A B) (hb : Below B.heap.size B C) (h1 : bs < B.heap.size) (h2 : bn < B.heap.size) : Keep2w bs bn A C := ⟨(hb.block _ h1).trans h.1, (hb.block _ h2).trans h.2⟩
theorem mWP {W : World} {base : Nat} {v : Value} {l : List Int} (x : Int) (own : Value) (h : Kd.R (Kd.int .u8) 5 W base (fun _ => True) v l) (hown : ∀ k, v.ownBlock = some k → some k ≠ own.ownBlock) : kWP.M W base (fun k => some k ≠ own.ownBlock) (x, l) [.int .i64 x, v] :=
  ⟨[.int .i64 x], [v], rfl, rfl, v, rfl, by
    obtain ⟨h0, h1, h2, h3⟩ := h
    exact ⟨fun k hk => hown k hk, h1, h2, h3⟩⟩
theorem readI_step {n : Nat} {w W w6 w9 : World} {N0 : Nat} {l : List Int} {pre : List (Fin n)} {x : Fin n} {vl v9 : Value} (B6 : w6.heap[w.heap.size]? = some (.cells #[vl] 39 (0, 0))) (R6 : Kd.R kWP 82 w6 N0 (fun _ => True) vl (pre.map fun j => wrAt l j.val)) (H6 : Below w.heap.size w w6) (N6 : N0 ≤ w6.heap.size) (K6 : KeepsOthers W w6) (T6 : Keep2w (w.heap.size + 1) (w.heap.size + 1 + 1) W w6) (hsz : N0 = w.heap.size + 3)
    (hg : w6.grownBy w9 vl.ownBlock) (ho : Kd.R kWP 82 w9 N0 (fun _ => True) v9 ((pre.map fun j => wrAt l j.val) ++ [wrAt l x.val])) :
    KeepsOthers W (w9.setCell ⟨w.heap.size, 0, none⟩ v9) ∧ Keep2w (w.heap.size + 1) (w.heap.size + 1 + 1) W (w9.setCell ⟨w.heap.size, 0, none⟩ v9) ∧ ReadI w N0 l (pre ++ [x]) (w9.setCell ⟨w.heap.size, 0, none⟩ v9) := by
  have hob : ∀ b, vl.ownBlock = some b → N0 ≤ b ∧ ∃ o : Obj, w6.heap[b]? = some o ∧ o.isCells = true := fun b e => by
    have h_ := (Kd.R_bound R6).1 b e
    obtain ⟨q, _, cells, hc⟩ := h_.2.2.2
    exact ⟨h_.2.1, _, hc, rfl⟩
  have ne : ∀ k, k < N0 → some k ≠ vl.ownBlock := fun k hk e => by have := (hob k e.symm).1; omega
  have blk : w9.heap[w.heap.size]? = some (.cells #[vl] 39 (0, 0)) := (hg.block _ (Array.getElem?_eq_some_iff.1 B6).1 (ne _ (by omega))).trans B6
  refine ⟨(K6.trans (KeepsOthers.of_grownBy hg (fun j o e h => by obtain ⟨_, o', h1, h2⟩ := hob j e; rw [h1] at h; cases h; exact h2))).trans (KeepsOthers.setCell _ _ _), ⟨?_, ?_⟩, v9, ?_, ?_, ?_, ?_⟩
  · exact (Below.heap_setCell _ ⟨w.heap.size, 0, none⟩ _ _ (show w.heap.size + 1 ≠ w.heap.size by omega)).trans ((hg.block _ (by omega) (ne _ (by omega))).trans T6.1)
  · exact (Below.heap_setCell _ ⟨w.heap.size, 0, none⟩ _ _ (show w.heap.size + 1 + 1 ≠ w.heap.size by omega)).trans ((hg.block _ (by omega) (ne _ (by omega))).trans T6.2)
  · exact blk_set blk 0 v9
  · rw [List.map_append]; exact Kd.R_farJ ho (by show w.heap.size < N0; omega) _
  · exact below_set (H6.grown hg H6.size (fun k e => by have := (hob k e).1; omega)) (Nat.le_refl _)
  · have := hg.size
    simp [World.setCell]; omega
set_option maxHeartbeats 4000000 in
set_option maxRecDepth 100000 in
theorem jread_walk (ad : Addr) (c : Nat) (l : List Int) (n : Nat) (w : World) (hr : Kd.C (Kd.int .u8) w (some ad) l.length l) (hc : l.length ≤ c) (hb : Byts l) (hn1 : 1 ≤ n) (hn2 : n ≤ 1000) (hnl : 128 * n ≤ l.length) :
    Calls Try.prog 73 #[.slice (some ad) l.length c, .int .i64 (n : Int)] w fun e w' => ∃ v : Value, e = .returned v ∧ Kd.R kWP 82 w' w.heap.size (fun _ => True) v (readN l n) ∧ Below w.heap.size w w' := by
  refine (callsIn_wide (n := 5)).1 ?_
  refine callsIn_of_wp_marks Try.func73 rfl trivial ?_ rfl
  simp only [Try.ntmps73, List.size_toArray, List.length_cons, List.length_nil, Nat.reduceAdd, Nat.reduceSub, Array.replicate_succ, Array.replicate_zero, List.push_toArray, List.append_toArray, List.nil_append, List.cons_append]
  have hw : RowKit.wrap64 (128 * (n : Int)) = 128 * (n : Int) := by unfold RowKit.wrap64; omega
  have hcut : ∀ W : World, (Instr.slice 44 (.slice (some ad) l.length c) none (some (.int .i64 (128 * (n : Int)))) none).run Try.prog W = .ok (.slice (some ad) (128 * n) c) W := fun W => by
    obtain ⟨i0, hi0, hz0⟩ := Option.map_eq_some_iff.1 u8info
    have := cut_to (P := Try.prog) 44 5 .i64 Try.underlying44 hi0 (some ad) l.length c (128 * (n : Int)) (by omega) (by omega) hc W
    rw [this]
    have e : (128 * (n : Int)).toNat = 128 * n := by omega
    rw [e]
  gi_wp2_with (refine ⟨trivial, ?_⟩; gi_at_call 109; refine (callsIn_wide.2 (chunkw_walk ad (128 * n) c _)).mono ?_; rintro e w' ⟨rfl, rfl⟩)
  obtain ⟨wL, hwL⟩ : ∃ wL, wL = ((w.alloc (.cells #[.slice none 0 0] 39)).alloc (.cells #[.slice (some ad) (128 * n) c] 44)).alloc (.cells #[.int .i64 128] 3) := ⟨_, rfl⟩
  have hsz : wL.heap.size = w.heap.size + 3 := by rw [hwL]; simp
  have hS : wL.cell? ⟨w.heap.size + 1, 0, none⟩ = some (.slice (some ad) (128 * n) c) := by rw [hwL]; go_simp
  have hN : wL.cell? ⟨w.heap.size + 1 + 1, 0, none⟩ = some (.int .i64 128) := by rw [hwL]; go_simp
  have hI0 : ReadI (n := n) w wL.heap.size l [] wL := ⟨_, by rw [hwL]; exact blk_alloc (blk_alloc (heap_alloc_new w _) _) _, Kd.R_nil _ _ _ _ _, by rw [hwL]; exact below_alloc (below_alloc (below_alloc (Below.refl _ _) _) _) _, Nat.le_refl _⟩
  rw [← hwL]
  clear hwL hcut
  refine wpIn_rangeFunc_ownF rfl (by decide) (gf := 126) (lb := #[.pointer (some ⟨w.heap.size + 1, 0, none⟩), .pointer (some ⟨w.heap.size + 1 + 1, 0, none⟩)]) rfl trivial (enters_of Try.func126 (by kernel_rfl) rfl)
    (chunkw_stops 4 n ad (w.heap.size + 1) (w.heap.size + 1 + 1) c wL (by omega) (by omega) hS hN) (fun h k => keep2w_t h k) (keep2w_b (by omega) (by omega)) (Below.refl _ _) (fun _ => rfl)
    (ReadI w wL.heap.size l) (fun _ _ _ => False) (readI_own w wL.heap.size wL.heap.size l (by omega)) (fun _ _ _ _ _ h _ _ => h) hI0
    (fun x => { tmps := #[.slice (some ad) l.length c, .int .i64 (n : Int), undef, undef, .slice none 0 0, .pointer (some ⟨w.heap.size, 0, none⟩), chunkW ad x.val, undef, undef, .slice (some ad) l.length c, .int .i64 (n : Int), .int .i64 (128 * (n : Int)), .slice (some ad) (128 * n) c, .func (.func 126) #[] #[.pointer (some ⟨w.heap.size + 1, 0, none⟩), .pointer (some ⟨w.heap.size + 1 + 1, 0, none⟩)], chunkW ad x.val, undef, undef, undef, undef, undef, undef, undef, undef, undef, undef, undef, undef, undef, undef], defers := [] }) ?assign ?body ?done ?stop
  case assign =>
    intro ln x W K hK
    gi_wp2
    exact hK
  case stop =>
    intro D cc pre W _ _ h _
    exact h.elim
  case done =>
    intro D ys W hD hS hI hK
    obtain ⟨vl, B1, RL, HBW, HN⟩ := hI
    subst hS
    have y0 : W.cell? ⟨w.heap.size, 0, none⟩ = some vl := (blk_cell B1 0).trans rfl
    have RL' := Aside0.mk RL
    have HB := Aside0.mk HBW
    have HSZ := Aside0.mk hsz
    have HD := Aside0.mk hD
    clear B1 RL HBW hN hI0 hsz hD
    gi_wp2
    refine ⟨by simp, .inl ⟨_, _, rfl, run_takeDeferred (show W.heap[D]? = _ from hK), ?_⟩⟩
    have hg := grownBy_putObj' W D (.deferred none)
    have hD := HD.out
    have hsz := HSZ.out
    refine ⟨_, results_tmp rfl _ _ _, vl, rfl, Kd.R_lower (Kd.R_turnJ RL'.out hg (fun r e => by cases e; exact ⟨_, hK, rfl⟩)) (by omega), ?_⟩
    exact HB.out.grown hg HB.out.size (fun k e => by cases e; omega)
  case body =>
    intro ln pre x W hI hlen
    obtain ⟨vl, B1, RL, HBW, HN⟩ := hI
    have hx := x.isLt
    have hadd : ad.add (128 * x.val * (Kd.int .u8).sz) = ad.add (128 * x.val) := by show ad.add (128 * x.val * 1) = _; rw [Nat.mul_one]
    have hC : Kd.C (Kd.int .u8) W (some (ad.add (128 * x.val))) ((l.drop (128 * x.val)).take 128).length ((l.drop (128 * x.val)).take 128) := by
      have h1 := Kd.C_below hr HBW
      have h2 := Kd.C_mid (c := c) (lo := 128 * x.val) (hi := 128 * x.val + 128) h1 (by omega) (by omega) (by omega)
      rw [if_neg (by omega)] at h2
      have e : (l.take (128 * x.val + 128)).drop (128 * x.val) = (l.drop (128 * x.val)).take 128 := by rw [List.take_drop, Nat.add_comm]
      rw [e, Option.map_some, hadd] at h2
      exact h2
    have hcl : ((l.drop (128 * x.val)).take 128).length = 128 := by rw [List.length_take, List.length_drop]; omega
    have hcb : Byts ((l.drop (128 * x.val)).take 128) := (hb.drop _).take _
    obtain ⟨q, hq⟩ : ∃ q, q = (l.drop (128 * x.val)).take 128 := ⟨_, rfl⟩
    rw [← hq] at hC hcl hcb
    have hwr : wrAt l x.val = ((numG q 0 4).1, q.drop 64) := by unfold wrAt; rw [hq]
    obtain ⟨aq, haq⟩ : ∃ aq, aq = ad.add (128 * x.val) := ⟨_, rfl⟩
    simp only [chunkW]
    rw [← haq] at hC ⊢
    have HQ := Aside0.mk hwr
    have HC := Aside0.mk hC
    have HCL := Aside0.mk hcl
    clear hwr hC hcl hr hS hN hI0 hadd hq
    refine wpIn_block ?_
    refine wpIn_seq ?_
    obtain ⟨at_, hat⟩ : ∃ x, x = (numG q 0 4).1 := ⟨_, rfl⟩
    have WG := Aside0.mk (numG_walk (some aq) 128 q 0 4 W HC.out (by have := HCL.out; omega) (by have := HCL.out; omega) hcb)
    rw [HCL.out, ← hat] at WG
    rw [← hat] at HQ
    have hcl64 : (q.drop 64).length = 64 := by have := HCL.out; rw [List.length_drop]; omega
    have WC : Aside0 (∀ W', Kd.C (Kd.int .u8) W' (some (aq.add 64)) 64 (q.drop 64) → Calls Try.prog 81 #[.slice (some (aq.add 64)) 64 64] W' fun e w' => ∃ v : Value, e = .returned v ∧ Kd.R (Kd.int .u8) 5 w' W'.heap.size (fun _ => True) v (q.drop 64) ∧ Below W'.heap.size W' w') := ⟨fun W' h => by
      have := numC_walk (some (aq.add 64)) 64 (q.drop 64) W' (by rw [hcl64]; exact h) (by omega) (by omega)
      rw [hcl64] at this
      exact this⟩
    have HC64 : Aside0 (Kd.C (Kd.int .u8) W (some (aq.add 64)) 64 (q.drop 64)) := ⟨by
      have hql := HCL.out
      have h2 := Kd.C_drop (c := 128) (m := 64) HC.out (by omega) (by omega)
      have e : (aq.add (64 * (Kd.int .u8).sz)) = aq.add 64 := rfl
      rw [if_neg (by omega), Option.map_some, e, hcl64] at h2
      exact h2⟩
    have HL64 := Aside0.mk hcl64
    have HHB := Aside0.mk HBW
    have HHN := Aside0.mk HN
    have HSZ := Aside0.mk hsz
    have HLEN := Aside0.mk hlen
    have HB1 := Aside0.mk B1
    have HN2 := Aside0.mk hn2
    have HRL := Aside0.mk RL
    clear hat hcl64 HC HBW HN hsz hlen B1 RL haq hcb hx hnl hn1 hn2
    refine wpIn_reg rfl (by rintro ⟨_, _, h⟩; exact h) ?_
    go_wp2_with (go_at_call 72; (with_reducible refine WG.out.mono ?_); rintro e w' ⟨rfl, ⟨nd, rfl⟩⟩)
    obtain ⟨w5, hw5⟩ : ∃ w5, w5 = W.drewN nd := ⟨_, rfl⟩
    have B5 : Aside0 (w5.heap[w.heap.size]? = some (.cells #[vl] 39 (0, 0))) := ⟨by rw [hw5]; exact blk_drewN HB1.out nd⟩
    have R5 : Aside0 (Kd.R kWP 82 w5 wL.heap.size (fun _ => True) vl (pre.map fun j => wrAt l j.val)) := ⟨by rw [hw5]; exact Kd.R_drewN HRL.out nd⟩
    have H5 : Aside0 (Below w.heap.size w w5) := ⟨by rw [hw5]; exact pw_below_drewN HHB.out nd⟩
    have N5 : Aside0 (wL.heap.size ≤ w5.heap.size) := ⟨by rw [hw5]; exact HHN.out⟩
    have K5 : Aside0 (KeepsOthers W w5) := ⟨by rw [hw5]; exact keeps_belowJ (pw_below_drewN (Below.refl _ _) nd)⟩
    have T5 : Aside0 (Keep2w (w.heap.size + 1) (w.heap.size + 1 + 1) W w5) := ⟨by rw [hw5]; exact ⟨rfl, rfl⟩⟩
    have HC5 : Aside0 (Kd.C (Kd.int .u8) w5 (some (aq.add 64)) 64 (q.drop 64)) := ⟨by rw [hw5]; exact Kd.C_drewN HC64.out nd⟩
    have HLL : Aside0 (((pre.map fun j => wrAt l j.val).length + 1) * 32 ≤ 140737488355328) := ⟨by rw [List.length_map]; have := HLEN.out; have := HN2.out; omega⟩
    refine go_onj ?_
    rw [← hw5]
    clear hw5 HB1 HRL HHB HHN HC64 WG HCL hw
    obtain ⟨LL, hLL⟩ : ∃ L, L = pre.map fun j => wrAt l j.val := ⟨_, rfl⟩
    rw [← hLL] at R5 HLL
    have EL := Aside0.mk hLL
    clear hLL
    refine startIn_ rfl (by rintro ⟨_, _, h⟩; exact h) (n := 9) (S := fun w' => w'.cell? ⟨w.heap.size, 0, none⟩ = some vl) (ds := [7, 8]) #[false, false, false, false, false, false, false, false, false] (by kernel_rfl) rfl rfl (((blk_cell (blk_drew B5.out) 0).trans rfl)) (fun hHeld => ?_)
    refine pure_ (i := 1) (N := some 21) (v := ?_) (a' := ?_) #[false, true, false, false, false, false, false, false, false] rfl rfl (by kernel_rfl) (fun _ _ _ h => h) (Or.inl ⟨by rfl, ?_⟩) ?_ ?_
    rotate_left
    · intro w'
      go_simp
      with_reducible rfl
    rotate_left
    · simp only [Act.put, List.setIfInBounds_toArray, List.set_cons_zero, List.set_cons_succ, i64_w, i32_w]
      rfl
    refine pure_ (i := 2) (N := some 22) (v := ?_) (a' := ?_) #[false, true, true, false, false, false, false, false, false] rfl rfl (by kernel_rfl) (fun _ _ _ h => h) (Or.inl ⟨by rfl, ?_⟩) ?_ ?_
    rotate_left
    · intro w'
      go_simp
      with_reducible rfl
    rotate_left
    · simp only [Act.put, List.setIfInBounds_toArray, List.set_cons_zero, List.set_cons_succ, i64_w, i32_w]
      rfl
    refine pure_ (i := 3) (N := some 23) (v := ?_) (a' := ?_) #[false, true, true, true, false, false, false, false, false] rfl rfl (by kernel_rfl) (fun _ _ _ h => h) (Or.inl ⟨by rfl, ?_⟩) ?_ ?_
    rotate_left
    · intro w'
      go_simp
      with_reducible rfl
    rotate_left
    · simp only [Act.put, List.setIfInBounds_toArray, List.set_cons_zero, List.set_cons_succ, i64_w, i32_w]
      rfl
    refine take_ (i := 0) (N := some 20) (v := ?_) (a' := ?_) #[true, true, true, true, false, false, false, false, false] rfl rfl (by kernel_rfl) (fun _ _ _ h => h) (Or.inl ⟨by rfl, ?_⟩) hHeld ?_ ?_
    rotate_left
    · intro w' s0
      go_simp
      with_reducible rfl
    rotate_left
    · simp only [Act.put, List.setIfInBounds_toArray, List.set_cons_zero, List.set_cons_succ, i64_w, i32_w]
      rfl
    refine one_ (i := 4) (N := some 24) #[true, true, true, true, true, false, false, false, false] rfl rfl (by kernel_rfl) (by decide) (fun K hK => ?_)
    clear hHeld
    refine goes_ Try.func81 (by kernel_rfl) rfl #[.slice (some (aq.add 64)) 64 64] (by rfl) rfl rfl (by simp only [List.map_toArray, List.map_cons, List.map_nil]; rfl) ?_
    with_reducible refine (WC.out _ (Kd.C_drew HC5.out)).mono ?_
    rintro e w6 ⟨v6, rfl, ho6, hb6⟩
    refine ⟨_, rfl, ?_⟩
    have B6 := Aside0.mk (blk_below (blk_drew B5.out) hb6)
    have R6 := Aside0.mk (Kd.R_below (Kd.R_drew R5.out) hb6)
    have H6 := Aside0.mk (below_step (below_drew1 H5.out) hb6)
    have N6 := Aside0.mk (Nat.le_trans N5.out (Nat.le_trans (below_drew1 (Below.refl w5.heap.size w5)).size hb6.size))
    have K6 := Aside0.mk (K5.out.trans (keeps_belowJ (below_undrew hb6)))
    have T6 := Aside0.mk (keep2w_below T5.out (below_undrew hb6) (by have := N5.out; have := HSZ.out; omega) (by have := N5.out; have := HSZ.out; omega))
    have O6 := Aside0.mk (mWP at_ vl (Kd.R_lower ho6 N5.out) (fun k hk e => by have h1 := (Kd.R_bound ho6).1 k hk; have h2 := (Kd.R_bound R5.out).1 k e.symm; have h3 := h1.2.1; have h4 := h2.2.2.1; have h5 : w5.drew.heap.size = w5.heap.size := rfl; omega))
    obtain ⟨A6, c6, hv6⟩ := Kd.R_slice ho6
    subst hv6
    have hl6 : (q.drop 64).length = 64 := HL64.out
    rw [hl6] at O6
    rw [hl6]
    clear hl6
    clear B5 R5 H5 N5 K5 T5 HC5 ho6 hb6 WC
    refine hK.out _ _ (((blk_cell B6.out 0).trans rfl)) (fun hHeld => ?_)
    clear hK K
    refine norm_ (a' := ?_) ?_ ?_
    rotate_left
    · show Act.put _ (some 24) _ = _
      simp only [Act.put, List.setIfInBounds_toArray, List.set_cons_zero, List.set_cons_succ, i64_w, i32_w]
      rfl
    refine pure_ (i := 5) (N := some 25) (v := ?_) (a' := ?_) #[true, true, true, true, true, true, false, false, false] rfl rfl (by kernel_rfl) (fun _ _ _ h => h) (Or.inl ⟨by rfl, ?_⟩) ?_ ?_
    rotate_left
    · intro w'
      go_simp
      with_reducible rfl
    rotate_left
    · simp only [Act.put, List.setIfInBounds_toArray, List.set_cons_zero, List.set_cons_succ, i64_w, i32_w]
      rfl
    refine one_ (i := 6) (N := some 26) #[true, true, true, true, true, true, true, false, false] rfl rfl (by kernel_rfl) (by decide) (fun K hK => ?_)
    have VV := 0
    clear VV
    refine value_ (w1 := ?_) (v := ?_) (by rfl) rfl ?_ ?_
    rotate_left 2
    · go_simp
      constructor
      · rfl
      · rfl
    refine hK.out _ _ (((blk_cell (blk_alloc B6.out _) 0).trans rfl)) (fun hHeld => ?_)
    clear hK K
    refine norm_ (a' := ?_) ?_ ?_
    rotate_left
    · show Act.put _ (some 26) _ = _
      simp only [Act.put, List.setIfInBounds_toArray, List.set_cons_zero, List.set_cons_succ, i64_w, i32_w]
      rfl
    refine last_ (i := 7) (N := some 27) #[true, true, true, true, true, true, true, true, false] rfl rfl (by kernel_rfl) (by decide) (fun K hK => ?_)
    refine Kd.R_append_step kWP (w0 := w6) wL.heap.size (by rfl) (.tmp 20) (.tmp 26) 39 82 (.agg #[.int .i64 0, .slice none 0 0]) 32 (by rfl) Try.underlying39 wrinfo rfl (by decide) (by omega) vl LL (at_, q.drop 64) [.int .i64 at_, .slice A6 64 c6] (fun _ => True) (fun k => some k ≠ vl.ownBlock) (by rfl) (by rfl) O6.out (fun _ hk => ⟨trivial, hk⟩) (fun _ _ => trivial) R6.out (Below.refl _ _) N6.out HLL.out ?_
    intro v9 w9 ho9 hb9 hg9 hat9
    have J9 := Aside0.mk (readI_step (x := x) B6.out (by rw [← EL.out]; exact R6.out) H6.out N6.out K6.out T6.out HSZ.out hg9 (by rw [HQ.out, ← EL.out]; exact ho9))
    have b9 : w9.heap[w.heap.size]? = some (.cells #[vl] 39 (0, 0)) := (hg9.block _ (Array.getElem?_eq_some_iff.1 B6.out).1 (fun e => by have h_ := (Kd.R_bound R6.out).1 _ e.symm; have := h_.2.1; have := HSZ.out; omega)).trans B6.out
    have c9 : w9.cell? ⟨w.heap.size, 0, none⟩ = some vl := (blk_cell b9 0).trans rfl
    have f9 := blk_frozen b9 0
    obtain ⟨A9, n9, q9, hv9⟩ : ∃ A n c, v9 = .slice A n c := by obtain ⟨A, c, h⟩ := Kd.R_slice ho9; exact ⟨_, _, _, h⟩
    subst hv9
    clear ho9 hb9 hg9 hat9 b9
    refine hK.out _ _ ?_
    clear hK K
    refine norm_ (a' := ?_) ?_ ?_
    rotate_left
    · show Act.put _ (some 27) _ = _
      simp only [Act.put, List.setIfInBounds_toArray, List.set_cons_zero, List.set_cons_succ, i64_w, i32_w]
      rfl
    refine last_ (i := 8) (N := none) #[true, true, true, true, true, true, true, true, true] rfl rfl (by kernel_rfl) (by decide) (fun K hK => ?_)
    refine skip_ (w1 := ?_) (by rfl) rfl ?_ ?_
    rotate_left
    · go_simp
      rfl
    refine hK.out _ _ ?_
    clear hK K
    refine done_ (by kernel_rfl) ?_
    exact J9.out
end Go.Proofs.Ytdkbhbolkieeiaa.K
