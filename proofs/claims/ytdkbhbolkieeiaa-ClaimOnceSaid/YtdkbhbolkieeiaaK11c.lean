/- claim.owners. -/
import Derived.Test.YtdkbhbolkieeiaaK11b
import Derived.RangeFuncWrites
import Derived.RangeFuncNested
import Derived.Maps.OwnOps
namespace Go.Proofs.Ytdkbhbolkieeiaa.K
open Go.RowKit Go.Shelf Go.Maps Go.Proofs.YtdkbhbolkieeiaaW.PrintWords Go.Proofs.YtdkbhbolkieeiaaW.PrintLast Go.Proofs.YtdkbhbolkieeiaaW.PrintMore
attribute [local go_sem] Oper.semAt_some
set_option linter.unusedVariables false
set_option linter.unusedSimpArgs false
section
variable {ops : Array Oper} {rest : List Oper} {o : Oper} {a : Act} {Q : Exit → Act → World → Prop}
theorem wpList_mlook_no (w : World) (hg : o.guard = none) (m x : Operand) (t : TypeId) (hop : o.op = Op.lookup t m x true) (ht : Try.prog.underlying t = some (.map 3 72)) (b n : Nat) (f : Int → Option (Nat × Nat)) (i : Int)
    (hm : a.eval m = .map (some b)) (h : MapOk w b n f) (hx : a.eval x = .int .i64 i) (hi : (Lit.int .i64 i).wf = true) (hr : f i = none)
    (hK : wpList Try.prog ops Q rest (a.put o.dst (.tuple #[.agg #[.int .i64 0, .int .i64 0], .bool false])) w) :
    wpList Try.prog ops Q (o :: rest) a w := wpList_mlook w hg m x t hop ht b n f i hm h hx hi none hr hK
theorem wpList_mlook_yes (w : World) (hg : o.guard = none) (m x : Operand) (t : TypeId) (hop : o.op = Op.lookup t m x true) (ht : Try.prog.underlying t = some (.map 3 72)) (b n : Nat) (f : Int → Option (Nat × Nat)) (i : Int)
    (hm : a.eval m = .map (some b)) (h : MapOk w b n f) (hx : a.eval x = .int .i64 i) (hi : (Lit.int .i64 i).wf = true) (s : Nat × Nat) (hr : f i = some s)
    (hK : wpList Try.prog ops Q rest (a.put o.dst (.tuple #[slotV s, .bool true])) w) :
    wpList Try.prog ops Q (o :: rest) a w := wpList_mlook w hg m x t hop ht b n f i hm h hx hi (some s) hr hK
end
theorem MapOk.not_cells {w : World} {b n : Nat} {f : Int → Option (Nat × Nat)} (h : MapOk w b n f) {cs : Array Value} {t : TypeId} {fr : Nat × Nat} (hc : w.heap[b]? = some (.cells cs t fr)) : False := by
  obtain ⟨D, ⟨es, clock, hb, _⟩, _⟩ := h
  rw [hb] at hc
  cases hc
/-- What lies between two rounds. -/
def OwnI (w : World) (N0 : Nat) (pt : Nat → Nat → Int) (blocks : Int) (pre : List (Nat × Nat)) (W : World) : Prop :=
  MapOk W (w.heap.size + 1) pre.length (mapN blocks (pre.map (atN pt))) ∧ W.heap[w.heap.size]? = some (.cells #[.int .i64 blocks] 3 (0, 0)) ∧ W.heap[w.heap.size + 1 + 1]? = some (.cells #[.map (some (w.heap.size + 1))] 74 (0, 0)) ∧ Below w.heap.size w W ∧ N0 ≤ W.heap.size
theorem blk_turnw {w w1 : World} {g : Nat} {cs : Array Value} {t : TypeId} (h : w.heap[g]? = some (.cells cs t (0, 0))) {row : Option Nat} (hg : w.grownBy w1 row) (hr : ∀ r, row = some r → ∃ o : Obj, w.heap[r]? = some o ∧ o.isCells = false) : w1.heap[g]? = some (.cells cs t (0, 0)) :=
  (hg.block g (Array.getElem?_eq_some_iff.1 h).1 (fun e => by
    obtain ⟨o, ho, hn⟩ := hr g e.symm
    rw [h] at ho
    obtain rfl := Option.some.inj ho
    cases hn)).trans h
theorem ownI_own (w : World) (N0 B : Nat) (pt : Nat → Nat → Int) (blocks : Int) (hB : w.heap.size + 2 ≤ B) : OwnFrom B (OwnI w N0 pt blocks) := by
  rintro pre W W' row ⟨h1, h2, h3, h4, h5⟩ hg hr
  have hr' : ∀ r, row = some r → ∃ o : Obj, W.heap[r]? = some o ∧ o.isCells = false := fun r e => (hr r e).2
  exact ⟨h1.kept hg (fun e => by have := (hr _ e.symm).1; omega), blk_turnw h2 hg hr', blk_turnw h3 hg hr', h4.grown hg h4.size (fun k e => by have := (hr k e).1; omega), Nat.le_trans h5 hg.size⟩
set_option maxHeartbeats 4000000 in
set_option maxRecDepth 100000 in
theorem owners_walk (A : Option Addr) (c : Nat) (l : List InoC) (blocks : Int) (w : World) (hr : Kd.C kInoC w A l.length l) (hl : l.length ≤ 1000000) (hok : ∀ x ∈ l, InoC.ok x) (hb : blocks ≤ 9223372036854775807) :
    Calls Try.prog 51 #[.slice A l.length c, .int .i64 blocks] w fun e w' => ∃ b n, e = .returned (.map (some b)) ∧ w.heap.size ≤ b ∧ n ≤ 5 * l.length ∧ MapOk w' b n (ownN (ptL l) l.length blocks) ∧ Below w.heap.size w w' := by
  refine (callsIn_wide (n := 5)).1 ?_
  refine callsIn_of_wp_marks Try.func51 rfl trivial ?_ rfl
  simp only [Try.ntmps51, List.size_toArray, List.length_cons, List.length_nil, Nat.reduceAdd, Nat.reduceSub, Array.replicate_succ, Array.replicate_zero, List.push_toArray, List.append_toArray, List.nil_append, List.cons_append]
  have hmm := @run_makeMap Try.prog
  gi_wp2_with (refine ⟨trivial, ?_⟩; gi_at_call 53; refine (callsIn_wide.2 (pointers_walk A l.length c _)).mono ?_; rintro e w' ⟨rfl, rfl⟩)
  obtain ⟨wL, hwL⟩ : ∃ wL, wL = (((w.alloc (.cells #[.int .i64 blocks] 3)).alloc (.map #[] 0)).alloc (.cells #[.map (some (w.heap.size + 1))] 74)).alloc (.cells #[.slice A l.length c] 22) := ⟨_, rfl⟩
  have hsz : wL.heap.size = w.heap.size + 4 := by rw [hwL]; simp
  have hS : wL.cell? ⟨w.heap.size + 1 + 1 + 1, 0, none⟩ = some (.slice A l.length c) := by rw [hwL]; go_simp
  have hbL : Below w.heap.size w wL := by rw [hwL]; exact below_alloc (below_alloc (below_alloc (below_alloc (Below.refl _ _) _) _) _) _
  have hM : MapOk wL (w.heap.size + 1) 0 (fun _ => none) := by
    have e := mapOk_made (w.alloc (.cells #[.int .i64 blocks] 3))
    rw [World.size_alloc] at e
    rw [hwL]
    exact (e.below (below_alloc (Below.refl _ _) _)).below (below_alloc (Below.refl _ _) _)
  have hI0 : OwnI w wL.heap.size (ptL l) blocks [] wL := ⟨hM.congr (fun i => by unfold mapN; split <;> rfl), by rw [hwL]; exact blk_alloc (blk_alloc (blk_alloc (heap_alloc_new w _) _) _) _, by rw [hwL]; exact blk_alloc (heap_at2 (by simp)) _, hbL, Nat.le_refl _⟩
  rw [← hwL]
  clear hwL hmm hM
  refine wpIn_rangeFunc_ownH rfl (by decide) (gf := 91) (lb := #[.pointer (some ⟨w.heap.size + 1 + 1 + 1, 0, none⟩)]) rfl trivial (enters_of Try.func91 (by kernel_rfl) rfl)
    (ptrs1_stops 4 A c l (w.heap.size + 1 + 1 + 1) [] w wL hr hbL hl (by simp) hS) (fun h k => keepT_t h k) (keepT_b (by omega)) (Below.refl _ _) (fun _ => rfl)
    (OwnI w wL.heap.size (ptL l) blocks) (fun _ _ _ => False) (ownI_own w wL.heap.size wL.heap.size (ptL l) blocks (by omega)) (fun _ _ _ _ _ h _ _ => h) hI0
    (fun x a' W => ∃ B6, a' = { tmps := #[.slice A l.length c, .int .i64 blocks, undef, .pointer (some ⟨w.heap.size, 0, none⟩), .map none, .pointer (some ⟨w.heap.size + 1 + 1, 0, none⟩), .pointer (some ⟨B6, 0, none⟩), .int .i64 (RowKit.wrap64 (ptL l x.1 x.2 - 1)), undef, undef, .map (some (w.heap.size + 1)), .slice A l.length c, .func (.func 91) #[] #[.pointer (some ⟨w.heap.size + 1 + 1 + 1, 0, none⟩)], slotV x, .int .i64 (RowKit.wrap64 (ptL l x.1 x.2 - 1)), undef, undef, undef, undef, undef, undef, undef, undef, undef, undef, undef, undef, undef, undef, undef, undef, undef, undef, undef, undef, undef], defers := [] } ∧ W.heap[B6]? = some (.cells #[.int .i64 ((x.1 : Int) + 1), .int .i64 (x.2 : Int)] 72 (0, 0)) ∧ wL.heap.size ≤ B6)
    (fun x a' => ?hAx) ?assign ?body ?done ?stop
  case hAx =>
    rintro _ W W' row ⟨B6, e, h1, h2⟩ hg hrr
    exact ⟨B6, e, blk_turnw h1 hg (fun r e => (hrr r e).2), h2⟩
  case assign =>
    intro ln pre x W K hI hK
    obtain ⟨M, B0, B2, HBW, HN⟩ := hI
    gi_wp2
    refine hK _ _ ((KeepsOthers.alloc W _).from _) ⟨(below_alloc (Below.refl _ _) _).mono (Nat.le_trans (by omega) HN), fun k cs t _ hk => blk_alloc hk _⟩ ⟨M.below (below_alloc (Below.refl _ _) _), blk_alloc B0 _, blk_alloc B2 _, below_step HBW (below_alloc (Below.refl _ _) _), Nat.le_trans HN (by simp)⟩ ⟨W.heap.size, rfl, heap_alloc_new _ _, HN⟩
  case stop =>
    intro D cc pre W _ _ h _
    exact h.elim
  case done =>
    intro D ys W hD hS hI hK
    obtain ⟨M, B0, B2, HBW, HN⟩ := hI
    subst hS
    have y2 : W.cell? ⟨w.heap.size + 1 + 1, 0, none⟩ = some (.map (some (w.heap.size + 1))) := (blk_cell B2 0).trans rfl
    rw [← ptrsN_nz] at M
    have M2 := Aside0.mk (M.congr (mapN_ptrs (ptL_ok hok) l.length hb))
    have HLn := Aside0.mk (Nat.le_trans (nzN_len (ptL l) (sl5 l.length)) (Nat.le_of_eq (sl5_length _)))
    have HB := Aside0.mk HBW
    have HSZ := Aside0.mk hsz
    have HD := Aside0.mk hD
    clear B0 B2 HBW hD hS M hI0 hsz hr hok hl hb hbL HN
    gi_wp2
    refine ⟨by simp, .inl ⟨_, _, rfl, run_takeDeferred (show W.heap[D]? = _ from hK), ?_⟩⟩
    have hg := grownBy_putObj' W D (.deferred none)
    have hD := HD.out
    have hsz := HSZ.out
    exact ⟨_, results_tmp rfl _ _ _, _, _, rfl, by omega, HLn.out, M2.out.kept hg (fun e => by cases e; omega), (HB.out.grown hg HB.out.size (fun k e => by cases e; omega))⟩
  case body =>
    intro ln pre x a' W hln hrec hI hAx hlen
    obtain ⟨B6, rfl, bk6, hB6⟩ := hAx
    obtain ⟨M, B0, B2, HBW, HN⟩ := hI
    obtain ⟨z, hz⟩ : ∃ z, z = RowKit.wrap64 (ptL l x.1 x.2 - 1) := ⟨_, rfl⟩
    have hwf : (Lit.int .i64 z).wf = true := by rw [hz]; exact wrap64_wf _
    have HAT : Aside0 (atN (ptL l) x = (x, z)) := ⟨by rw [hz]; rfl⟩
    rw [← hz]
    clear hz
    have hN6 : B6 < W.heap.size := (Array.getElem?_eq_some_iff.1 bk6).1
    have y0 : W.cell? ⟨w.heap.size, 0, none⟩ = some (.int .i64 blocks) := (blk_cell B0 0).trans rfl
    have y2 : W.cell? ⟨w.heap.size + 1 + 1, 0, none⟩ = some (.map (some (w.heap.size + 1))) := (blk_cell B2 0).trans rfl
    have z0 : W.cell? ⟨B6, 0, none⟩ = some (.int .i64 ((x.1 : Int) + 1)) := (blk_cell bk6 0).trans rfl
    have z1 : W.cell? ⟨B6, 1, none⟩ = some (.int .i64 (x.2 : Int)) := (blk_cell bk6 1).trans rfl
    have HM := Aside0.mk M
    have A0 := Aside0.mk B0
    have A2 := Aside0.mk B2
    have HB := Aside0.mk HBW
    have HN' := Aside0.mk HN
    have HSZ := Aside0.mk hsz
    have HLN := Aside0.mk hlen
    have HLL := Aside0.mk hl
    have EN := Aside0.mk (fun b => mapN_snoc blocks (pre.map (atN (ptL l))) x z b)
    obtain ⟨f, hf⟩ : ∃ f, f = mapN blocks (pre.map (atN (ptL l))) := ⟨_, rfl⟩
    rw [← hf] at HM EN
    have ES : Aside0 (∀ b, mapN blocks ((pre ++ [x]).map (atN (ptL l))) b = if f b = none ∧ 0 ≤ b ∧ b < blocks ∧ z = b then some x else f b) := ⟨fun b => by rw [List.map_append]; show mapN blocks (_ ++ [atN (ptL l) x]) b = _; rw [HAT.out]; exact EN.out b⟩
    clear EN HAT
    clear M B0 B2 HBW HN hsz hlen hl hr hok hb hbL hS hI0 bk6 hln hrec hf
    refine wpIn_block ?_
    refine wpIn_seq ?_
    refine wpIn_reg rfl (by rintro ⟨_, _, h⟩; exact h) ?_
    cases hfz : f z with
    | some s =>
      go_wp2_with (at_lookup; go_loud (refine wpList_mlook_yes W rfl (.tmp 16) (.tmp 17) 74 rfl Try.underlying74 (w.heap.size + 1) pre.length f z rfl HM.out rfl hwf s hfz ?_))
      obtain ⟨w6, hw6⟩ : ∃ w6, w6 = W.alloc (.cells #[.int .i64 ((s.1 : Int) + 1), .int .i64 (s.2 : Int)] 72) := ⟨_, rfl⟩
      have hb6 : Below W.heap.size W w6 := by rw [hw6]; exact below_alloc (Below.refl _ _) _
      have C0 := Aside0.mk (blk_below A0.out hb6)
      have C2 := Aside0.mk (blk_below A2.out hb6)
      have H6 := Aside0.mk hb6
      have M6 := Aside0.mk (HM.out.below hb6)
      have c0 : w6.cell? ⟨w.heap.size, 0, none⟩ = some (.int .i64 blocks) := (blk_cell C0.out 0).trans rfl
      have c2 : w6.cell? ⟨w.heap.size + 1 + 1, 0, none⟩ = some (.map (some (w.heap.size + 1))) := (blk_cell C2.out 0).trans rfl
      have t0 := pw_cell_below hb6 z0
      have t1 := pw_cell_below hb6 z1
      refine go_onp ?_
      rw [← hw6]
      clear hw6 hb6 HM A0 A2 y0 y2 z0 z1 hB6 hN6
      refine wpIn_seq ?_
      refine wpIn_reg rfl (by rintro ⟨_, _, h⟩; exact h) ?_
      go_wp2
      refine wpIn_cond_false rfl ?_
      refine wpIn_skip ?_
      simp only [Exit.inBlock, Exit.then]
      have hsz := HSZ.out
      have hN := HN'.out
      have h6 := H6.out
      exact ⟨KeepsOthers.from ⟨h6.size, fun k o hk _ => (h6.block k (Array.getElem?_eq_some_iff.1 hk).1).trans hk⟩ _, ⟨h6.mono (by omega), fun k cs t _ hk => blk_below hk h6⟩, (M6.out.mono (by simp)).congr (fun b => by rw [ES.out]; rw [if_neg (by rintro ⟨h1, _, _, rfl⟩; rw [hfz] at h1; cases h1)]), C0.out, C2.out, below_step HB.out h6, Nat.le_trans hN h6.size⟩
    | none =>
      go_wp2_with (at_lookup; go_loud (refine wpList_mlook_no W rfl (.tmp 16) (.tmp 17) 74 rfl Try.underlying74 (w.heap.size + 1) pre.length f z rfl HM.out rfl hwf hfz ?_))
      obtain ⟨w6, hw6⟩ : ∃ w6, w6 = W.alloc (.cells #[.int .i64 0, .int .i64 0] 72) := ⟨_, rfl⟩
      have hb6 : Below W.heap.size W w6 := by rw [hw6]; exact below_alloc (Below.refl _ _) _
      have C0 := Aside0.mk (blk_below A0.out hb6)
      have C2 := Aside0.mk (blk_below A2.out hb6)
      have H6 := Aside0.mk hb6
      have M6 := Aside0.mk (HM.out.below hb6)
      have c0 : w6.cell? ⟨w.heap.size, 0, none⟩ = some (.int .i64 blocks) := (blk_cell C0.out 0).trans rfl
      have c2 : w6.cell? ⟨w.heap.size + 1 + 1, 0, none⟩ = some (.map (some (w.heap.size + 1))) := (blk_cell C2.out 0).trans rfl
      have t0 := pw_cell_below hb6 z0
      have t1 := pw_cell_below hb6 z1
      refine go_onp ?_
      rw [← hw6]
      clear hw6 hb6 HM A0 A2 y0 y2 z0 z1 hB6 hN6
      have HFZ := Aside0.mk hfz
      clear hfz
      by_cases hz0 : 0 ≤ z
      case neg =>
        refine wpIn_seq ?_
        refine wpIn_reg rfl (by rintro ⟨_, _, h⟩; exact h) ?_
        go_wp2
        refine wpIn_cond_false rfl ?_
        refine wpIn_skip ?_
        simp only [Exit.inBlock, Exit.then]
        have hsz := HSZ.out
        have hN := HN'.out
        have h6 := H6.out
        exact ⟨KeepsOthers.from ⟨h6.size, fun k o hk _ => (h6.block k (Array.getElem?_eq_some_iff.1 hk).1).trans hk⟩ _, ⟨h6.mono (by omega), fun k cs t _ hk => blk_below hk h6⟩, (M6.out.mono (by simp)).congr (fun b => by rw [ES.out]; rw [if_neg (by rintro ⟨_, h1, _, rfl⟩; omega)]), C0.out, C2.out, below_step HB.out h6, Nat.le_trans hN h6.size⟩
      by_cases hzb : z < blocks
      case neg =>
        refine wpIn_seq ?_
        refine wpIn_reg rfl (by rintro ⟨_, _, h⟩; exact h) ?_
        go_wp2
        refine wpIn_cond_false rfl ?_
        refine wpIn_skip ?_
        simp only [Exit.inBlock, Exit.then]
        have hsz := HSZ.out
        have hN := HN'.out
        have h6 := H6.out
        exact ⟨KeepsOthers.from ⟨h6.size, fun k o hk _ => (h6.block k (Array.getElem?_eq_some_iff.1 hk).1).trans hk⟩ _, ⟨h6.mono (by omega), fun k cs t _ hk => blk_below hk h6⟩, (M6.out.mono (by simp)).congr (fun b => by rw [ES.out]; rw [if_neg (by rintro ⟨_, _, h1, rfl⟩; omega)]), C0.out, C2.out, below_step HB.out h6, Nat.le_trans hN h6.size⟩
      refine wpIn_seq ?_
      refine wpIn_reg rfl (by rintro ⟨_, _, h⟩; exact h) ?_
      go_wp2
      refine wpIn_cond_true rfl ?_
      refine wpIn_reg rfl (by rintro ⟨_, _, h⟩; exact h) ?_
      have hn9 : pre.length < maxLen := by have := HLN.out; have := HLL.out; simp [maxLen]; omega
      go_wp2_with (at_mapUpdate; go_loud (refine wpList_mput w6 rfl (.tmp 32) (.tmp 33) (.tmp 34) 74 rfl Try.underlying74 (w.heap.size + 1) pre.length f z x rfl M6.out hn9 rfl rfl hwf ?_; intro w9 M9 hg9))
      have hsz := HSZ.out
      have hN := HN'.out
      have h6 := H6.out
      have hne : ∀ k, wL.heap.size ≤ k → some k ≠ some (w.heap.size + 1) := fun k hk e => by cases e; omega
      refine ⟨⟨Nat.le_trans h6.size hg9.size, fun k o hk h0 _ => (hg9.block k (Nat.lt_of_lt_of_le (Array.getElem?_eq_some_iff.1 h0).1 h6.size) (hne k hk)).trans ((h6.block k (Array.getElem?_eq_some_iff.1 h0).1).trans h0)⟩, ⟨(h6.mono (by omega)).grown hg9 (by have := h6.size; omega) (fun k e => by cases e; omega), fun k cs t _ hk => ?_⟩, ?_, ?_, ?_, ?_, ?_⟩
      · have h1 := blk_below hk h6
        exact (hg9.block k (Array.getElem?_eq_some_iff.1 h1).1 (fun e => by cases e; exact M6.out.not_cells h1)).trans h1
      · refine (M9.mono (by simp)).congr (fun b => ?_)
        rw [ES.out]
        by_cases hb : b = z
        · subst hb; rw [if_pos rfl, if_pos ⟨HFZ.out, hz0, hzb, rfl⟩]
        · rw [if_neg hb, if_neg (fun h => hb h.2.2.2.symm)]
      · exact (hg9.block _ (Array.getElem?_eq_some_iff.1 C0.out).1 (fun e => by have e2 := Option.some.inj e; omega)).trans C0.out
      · exact (hg9.block _ (Array.getElem?_eq_some_iff.1 C2.out).1 (fun e => by have e2 := Option.some.inj e; omega)).trans C2.out
      · exact (below_step HB.out h6).grown hg9 (by have := h6.size; omega) (fun k e => by cases e; omega)
      · exact Nat.le_trans hN (Nat.le_trans h6.size hg9.size)
end Go.Proofs.Ytdkbhbolkieeiaa.K
