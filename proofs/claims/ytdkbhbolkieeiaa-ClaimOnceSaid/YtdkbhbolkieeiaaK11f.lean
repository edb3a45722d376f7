/- claim.Bad. -/
import Derived.Test.YtdkbhbolkieeiaaK11e
namespace Go.Proofs.Ytdkbhbolkieeiaa.K
open Go.RowKit Go.Shelf Go.Maps Go.Proofs.YtdkbhbolkieeiaaW.PrintWords Go.Proofs.YtdkbhbolkieeiaaW.PrintLast Go.Proofs.YtdkbhbolkieeiaaW.PrintMore
attribute [local go_sem] Oper.semAt_some
set_option linter.unusedVariables false
set_option linter.unusedSimpArgs false
def p2enc (x : Int × Int) : List Value := [.int .i64 x.1, .int .i64 x.2]
theorem p2one (x : Int × Int) : ∀ u ∈ p2enc x, u.oneCell' = true := by
  intro u hu
  simp only [p2enc, List.mem_cons, List.not_mem_nil, or_false] at hu
  rcases hu with rfl | rfl <;> rfl
abbrev kP2 : Kd (Int × Int) := Kd.flat 2 p2enc (fun _ => rfl) p2one
theorem p2info : (Try.prog.info? 30).map (fun i => (i.zero, i.size, i.bytes)) = some (some (.agg #[.int .i64 0, .int .i64 0]), 2, 16) := by kernel_rfl
/-- Whether a pointer does not count. -/
def isBad (f : Int → Option (Nat × Nat)) (pt : Nat → Nat → Int) (s : Nat × Nat) : Bool := !decide (f (wrap64 (pt s.1 s.2 - 1)) = some s)
def slotP (s : Nat × Nat) : Int × Int := ((s.1 : Int) + 1, (s.2 : Int))
def badE (f : Int → Option (Nat × Nat)) (pt : Nat → Nat → Int) (pre : List (Nat × Nat)) : List (Int × Int) := (pre.filter (isBad f pt)).map slotP
theorem badE_snoc (f : Int → Option (Nat × Nat)) (pt : Nat → Nat → Int) (pre : List (Nat × Nat)) (x : Nat × Nat) : badE f pt (pre ++ [x]) = badE f pt pre ++ if isBad f pt x = true then [slotP x] else [] := by
  unfold badE
  rw [List.filter_append, List.map_append]
  congr 1
  cases h : isBad f pt x <;> simp [h]
theorem badE_le (f : Int → Option (Nat × Nat)) (pt : Nat → Nat → Int) (pre : List (Nat × Nat)) : (badE f pt pre).length ≤ pre.length := by
  unfold badE
  rw [List.length_map]
  exact List.length_filter_le _ _
theorem slot_ne {s x : Nat × Nat} (h : ¬ s = x) : ((((s.1 : Int) + 1 == (x.1 : Int) + 1) && ((s.2 : Int) == (x.2 : Int))) = false) := by
  cases hq : (((s.1 : Int) + 1 == (x.1 : Int) + 1) && ((s.2 : Int) == (x.2 : Int))) with
  | false => rfl
  | true =>
    rw [Bool.and_eq_true, beq_iff_eq, beq_iff_eq] at hq
    exact absurd (Prod.ext (by omega) (by omega)) h
theorem R_ownblk {α : Type} {d : Kd α} {e : TypeId} {w : World} {base : Nat} {ok : Nat → Prop} {v : Value} {xs : List α} (h : Kd.R d e w base ok v xs) : ∀ b, v.ownBlock = some b → base ≤ b ∧ ∃ cs : Array Value, w.heap[b]? = some (.cells cs e (0, 0)) := by
  obtain ⟨_, inner, hown, _⟩ := h
  intro b hbk
  rcases hown.2 with ⟨hv, _⟩ | ⟨g, cap, cur, hv, hb, hh, _⟩
  · rw [hv] at hbk; cases hbk
  · rw [hv] at hbk
    have : g = b := by simpa [Value.ownBlock] using hbk
    subst this
    exact ⟨hb, _, hh⟩
theorem R_farLowU {α : Type} {d : Kd α} {e : TypeId} {w : World} {base : Nat} {ok : Nat → Prop} {v : Value} {xs : List α} (h : Kd.R d e w base ok v xs) {p : Addr} (hp : p.block < base) (u : Value) : Kd.R d e (w.setCell p u) base ok v xs :=
  Kd.R_mono (Kd.R_far (Kd.R_bound h) (fun k hk => by have := hk.2.1; omega) u) (fun _ hk => hk.1)
/-- What lies between two rounds: B5: the map's variable, B6: the row's. -/
def BadI (w : World) (N0 g m B5 B6 : Nat) (f : Int → Option (Nat × Nat)) (pt : Nat → Nat → Int) (pre : List (Nat × Nat)) (W : World) : Prop :=
  ∃ vl : Value, MapOk W g m f ∧ W.heap[B5]? = some (.cells #[.map (some g)] 74 (0, 0)) ∧ W.heap[B6]? = some (.cells #[vl] 29 (0, 0)) ∧ Kd.R kP2 30 W N0 (fun _ => True) vl (badE f pt pre) ∧ Below w.heap.size w W ∧ N0 ≤ W.heap.size
theorem badI_own (w : World) (N0 B g m B5 B6 : Nat) (f : Int → Option (Nat × Nat)) (pt : Nat → Nat → Int) (hg0 : g < B) (hB : w.heap.size ≤ B) : OwnFrom B (BadI w N0 g m B5 B6 f pt) := by
  rintro pre W W' row ⟨vl, h1, h2, h3, h4, h5, h6⟩ hg hr
  have hr' : ∀ r, row = some r → ∃ o : Obj, W.heap[r]? = some o ∧ o.isCells = false := fun r e => (hr r e).2
  exact ⟨vl, h1.kept hg (fun e => by have := (hr _ e.symm).1; omega), blk_turnw h2 hg hr', blk_turnw h3 hg hr', Kd.R_turnU h4 hg hr', h5.grown hg h5.size (fun k e => by have := (hr k e).1; omega), Nat.le_trans h6 hg.size⟩
set_option maxHeartbeats 4000000 in
set_option maxRecDepth 100000 in
theorem bad_walk (A : Option Addr) (c : Nat) (l : List InoC) (blocks : Int) (w : World) (hr : Kd.C kInoC w A l.length l) (hl : l.length ≤ 1000000) (hok : ∀ x ∈ l, InoC.ok x) (hb : blocks ≤ 9223372036854775807) :
    Calls Try.prog 17 #[.slice A l.length c, .int .i64 blocks] w fun e w' => ∃ v : Value, e = .returned v ∧ Kd.R kP2 30 w' w.heap.size (fun _ => True) v (badE (ownN (ptL l) l.length blocks) (ptL l) (nzN (ptL l) (sl5 l.length))) ∧ Below w.heap.size w w' := by
  have WO := Aside0.mk (owners_walk A c l blocks w hr hl hok hb)
  obtain ⟨f, hf⟩ : ∃ f, f = ownN (ptL l) l.length blocks := ⟨_, rfl⟩
  rw [← hf] at WO
  rw [← hf]
  clear hok hf
  refine (callsIn_wide (n := 5)).1 ?_
  refine callsIn_of_wp_marks Try.func17 rfl trivial ?_ rfl
  simp only [Try.ntmps17, List.size_toArray, List.length_cons, List.length_nil, Nat.reduceAdd, Nat.reduceSub, Array.replicate_succ, Array.replicate_zero, List.push_toArray, List.append_toArray, List.nil_append, List.cons_append]
  gi_wp2_with (first | (refine ⟨trivial, ?_⟩; gi_at_call 51; refine (callsIn_wide.2 WO.out).mono ?_; rintro e w1 ⟨g, m, rfl, hg, hm, HM, hB⟩) | (refine ⟨trivial, ?_⟩; gi_at_call 53; refine (callsIn_wide.2 (pointers_walk A l.length c _)).mono ?_; rintro e w' ⟨rfl, rfl⟩))
  have hgw : g < w1.heap.size := HM.lt
  obtain ⟨wL, hwL⟩ : ∃ wL, wL = ((w1.alloc (.cells #[.map (some g)] 74)).alloc (.cells #[.slice none 0 0] 29)).alloc (.cells #[.slice A l.length c] 22) := ⟨_, rfl⟩
  have hsz : wL.heap.size = w1.heap.size + 3 := by rw [hwL]; simp
  have hS : wL.cell? ⟨w1.heap.size + 1 + 1, 0, none⟩ = some (.slice A l.length c) := by rw [hwL]; go_simp
  have hb1 : Below w1.heap.size w1 wL := by rw [hwL]; exact below_alloc (below_alloc (below_alloc (Below.refl _ _) _) _) _
  have hbL : Below w.heap.size w wL := below_step hB hb1
  have hsw := hB.size
  have hI0 : BadI w wL.heap.size g m w1.heap.size (w1.heap.size + 1) f (ptL l) [] wL := ⟨_, HM.below hb1, by rw [hwL]; exact blk_alloc (blk_alloc (heap_alloc_new w1 _) _) _, by rw [hwL]; exact blk_alloc (heap_at2 (by simp)) _, Kd.R_nil _ _ _ _ _, hbL, Nat.le_refl _⟩
  rw [← hwL]
  clear hwL HM hb1 hB WO
  refine wpIn_rangeFunc_ownH rfl (by decide) (gf := 91) (lb := #[.pointer (some ⟨w1.heap.size + 1 + 1, 0, none⟩)]) rfl trivial (enters_of Try.func91 (by kernel_rfl) rfl)
    (ptrs1_stops 4 A c l (w1.heap.size + 1 + 1) [30, 29] w wL hr hbL hl (by decide) hS) (fun h k => keepT_t h k) (keepT_b (by omega)) (Below.refl _ _) (fun _ => rfl)
    (BadI w wL.heap.size g m w1.heap.size (w1.heap.size + 1) f (ptL l)) (fun _ _ _ => False) (badI_own w wL.heap.size wL.heap.size g m w1.heap.size (w1.heap.size + 1) f (ptL l) (by omega) (by omega)) (fun _ _ _ _ _ h _ _ => h) hI0
    (fun x a' W => ∃ B7, a' = { tmps := #[.slice A l.length c, .int .i64 blocks, undef, undef, .slice none 0 0, .pointer (some ⟨w1.heap.size, 0, none⟩), .pointer (some ⟨w1.heap.size + 1, 0, none⟩), .pointer (some ⟨B7, 0, none⟩), .int .i64 (RowKit.wrap64 (ptL l x.1 x.2 - 1)), undef, undef, .slice A l.length c, .int .i64 blocks, .map (some g), .slice A l.length c, .func (.func 91) #[] #[.pointer (some ⟨w1.heap.size + 1 + 1, 0, none⟩)], slotV x, .int .i64 (RowKit.wrap64 (ptL l x.1 x.2 - 1)), undef, undef, undef, undef, undef, undef, undef, undef, undef, undef, undef, undef, undef, undef, undef, undef, undef, undef, undef, undef, undef, undef], defers := [] } ∧ W.heap[B7]? = some (.cells #[.int .i64 ((x.1 : Int) + 1), .int .i64 (x.2 : Int)] 72 (0, 0)) ∧ wL.heap.size ≤ B7)
    (fun x a' => ?hAx) ?assign ?body ?done ?stop
  case hAx =>
    rintro _ W W' row ⟨B7, e, h1, h2⟩ hg hrr
    exact ⟨B7, e, blk_turnw h1 hg (fun r e => (hrr r e).2), h2⟩
  case assign =>
    intro ln pre x W K hI hK
    obtain ⟨vl, M, B5, B6, RL, HBW, HN⟩ := hI
    gi_wp2
    refine hK _ _ ((KeepsOthers.alloc W _).from _) ⟨(below_alloc (Below.refl _ _) _).mono (Nat.le_trans (by omega) HN), fun k cs t _ hk => blk_alloc hk _⟩ ⟨vl, M.below (below_alloc (Below.refl _ _) _), blk_alloc B5 _, blk_alloc B6 _, Kd.R_alloc RL _, below_step HBW (below_alloc (Below.refl _ _) _), Nat.le_trans HN (by simp)⟩ ⟨W.heap.size, rfl, heap_alloc_new _ _, HN⟩
  case stop =>
    intro D cc pre W _ _ h _
    exact h.elim
  case done =>
    intro D ys W hD hS hI hK
    obtain ⟨vl, M, B5, B6, RL, HBW, HN⟩ := hI
    subst hS
    have y2 : W.cell? ⟨w1.heap.size + 1, 0, none⟩ = some vl := (blk_cell B6 0).trans rfl
    have RL' := Aside0.mk RL
    have HB := Aside0.mk HBW
    have HSZ : Aside0 (w.heap.size ≤ wL.heap.size) := ⟨by omega⟩
    have HD := Aside0.mk hD
    clear B5 B6 HBW hD hS M hI0 hsz hr hl hb hbL HN RL hg hm hgw hsw
    gi_wp2
    refine ⟨by simp, .inl ⟨_, _, rfl, run_takeDeferred (show W.heap[D]? = _ from hK), ?_⟩⟩
    have hg := grownBy_putObj' W D (.deferred none)
    have hD := HD.out
    have hsz := HSZ.out
    exact ⟨_, results_tmp rfl _ _ _, vl, rfl, Kd.R_lower (Kd.R_turnU RL'.out hg (fun r e => by cases e; exact ⟨_, hK, rfl⟩)) hsz, (HB.out.grown hg HB.out.size (fun k e => by cases e; omega))⟩
  case body =>
    intro ln pre x a' W hln hrec hI hAx hlen
    obtain ⟨B7, rfl, bk7, hB7⟩ := hAx
    obtain ⟨vl, M, B5, B6, RL, HBW, HN⟩ := hI
    obtain ⟨z, hz⟩ : ∃ z, z = RowKit.wrap64 (ptL l x.1 x.2 - 1) := ⟨_, rfl⟩
    have hwf : (Lit.int .i64 z).wf = true := by rw [hz]; exact wrap64_wf _
    have EN := Aside0.mk (badE_snoc f (ptL l) pre x)
    have EB : Aside0 (isBad f (ptL l) x = !decide (f z = some x)) := ⟨by rw [hz]; rfl⟩
    have LE : Aside0 ((badE f (ptL l) pre).length ≤ 5000000) := ⟨by have := badE_le f (ptL l) pre; omega⟩
    rw [← hz]
    clear hz
    have HSZ : Aside0 (w.heap.size ≤ w1.heap.size ∧ wL.heap.size = w1.heap.size + 3) := ⟨⟨hsw, hsz⟩⟩
    have hn7 : B7 < W.heap.size := (Array.getElem?_eq_some_iff.1 bk7).1
    have y5 : W.cell? ⟨w1.heap.size, 0, none⟩ = some (.map (some g)) := (blk_cell B5 0).trans rfl
    have HM := Aside0.mk M
    have A5 := Aside0.mk B5
    have A6 := Aside0.mk B6
    have A7 := Aside0.mk bk7
    have R0 := Aside0.mk RL
    have HB := Aside0.mk HBW
    have HN' := Aside0.mk HN
    have HB7 := Aside0.mk hB7
    clear M B5 B6 HBW HN hsz hlen hl hr hb hbL hS hI0 bk7 hln hrec RL hsw hg hm hgw hB7 hn7
    refine wpIn_block ?_
    refine wpIn_seq ?_
    refine wpIn_reg rfl (by rintro ⟨_, _, h⟩; exact h) ?_
    cases hfz : f z with
    | none =>
      have EBT : Aside0 (isBad f (ptL l) x = true) := ⟨by rw [EB.out, hfz]; simp⟩
      go_wp2_with (at_lookup; go_loud (refine wpList_mlook_no W rfl (.tmp 19) (.tmp 20) 74 rfl Try.underlying74 g m f z rfl HM.out rfl hwf hfz ?_))
      obtain ⟨w6, hw6⟩ : ∃ w6, w6 = W.alloc (.cells #[.int .i64 0, .int .i64 0] 72) := ⟨_, rfl⟩
      have hb6 : Below W.heap.size W w6 := by rw [hw6]; exact below_alloc (Below.refl _ _) _
      have C5 := Aside0.mk (blk_below A5.out hb6)
      have C6 := Aside0.mk (blk_below A6.out hb6)
      have C7 := Aside0.mk (blk_below A7.out hb6)
      have c9a : w6.cell? ⟨W.heap.size, 0, none⟩ = some (.int .i64 0) := by rw [hw6]; go_simp
      have c9b : w6.cell? ⟨W.heap.size, 1, none⟩ = some (.int .i64 0) := by rw [hw6]; go_simp
      have H6 := Aside0.mk hb6
      have M6 := Aside0.mk (HM.out.below hb6)
      have R6 := Aside0.mk (Kd.R_below R0.out hb6)
      have HN6 := Aside0.mk (Nat.le_trans HN'.out hb6.size)
      have HB6 := Aside0.mk (below_step HB.out hb6)
      have c6 : w6.cell? ⟨w1.heap.size + 1, 0, none⟩ = some vl := (blk_cell C6.out 0).trans rfl
      have t0 : w6.cell? ⟨B7, 0, none⟩ = some (.int .i64 ((x.1 : Int) + 1)) := (blk_cell C7.out 0).trans rfl
      have t1 : w6.cell? ⟨B7, 1, none⟩ = some (.int .i64 (x.2 : Int)) := (blk_cell C7.out 1).trans rfl
      refine go_onp ?_
      rw [← hw6]
      clear hw6 hb6 HM A5 A6 A7 y5 R0
      clear hfz
      refine wpIn_seq ?_
      refine wpIn_reg rfl (by rintro ⟨_, _, h⟩; exact h) ?_
      go_wp2
      refine wpIn_cond_true rfl ?_
      refine wpIn_reg rfl (by rintro ⟨_, _, h⟩; exact h) ?_
      go_wp2_with ((with_reducible refine gate_builtin (b := .append) (xs := #[.tmp 31, .tmp 37]) rfl ?_); at_builtin; go_loud (refine Kd.R_append kP2 (w0 := w6) wL.heap.size rfl (.tmp 31) (.tmp 37) 29 30 (.agg #[.int .i64 0, .int .i64 0]) 16 rfl Try.underlying29 p2info rfl (by decide) (by omega) vl (badE f (ptL l) pre) (slotP x) [.int .i64 ((x.1 : Int) + 1), .int .i64 (x.2 : Int)] (fun _ => True) (fun _ => False) rfl rfl rfl (fun _ hk => hk.elim) (fun _ _ => trivial) R6.out (Below.refl _ _) HN6.out (by have := LE.out; omega) ?_; intro v9 w9 ho9 hb9 hg9 hat9; have HG9 := Aside0.mk hg9; have R9 := Aside0.mk ho9; have hob : ∀ b, vl.ownBlock = some b → wL.heap.size ≤ b ∧ ∃ cs : Array Value, w6.heap[b]? = some (.cells cs 30 (0, 0)) := (R_ownblk R6.out); have HOB := Aside0.mk hob; have E5 : Aside0 (w9.heap[w1.heap.size]? = some (.cells #[.map (some g)] 74 (0, 0))) := ⟨(hg9.block _ (Array.getElem?_eq_some_iff.1 C5.out).1 (fun e => by have h_ := (hob _ e.symm).1; have := HSZ.out; omega)).trans C5.out⟩; have E6 : Aside0 (w9.heap[w1.heap.size + 1]? = some (.cells #[vl] 29 (0, 0))) := ⟨(hg9.block _ (Array.getElem?_eq_some_iff.1 C6.out).1 (fun e => by have h_ := (hob _ e.symm).1; have := HSZ.out; omega)).trans C6.out⟩; have c9 : w9.cell? ⟨w1.heap.size + 1, 0, none⟩ = some vl := (blk_cell E6.out 0).trans rfl; have f9 := blk_frozen E6.out 0; obtain ⟨A9, n9, q9, hv9⟩ : ∃ A n c, v9 = .slice A n c := (by obtain ⟨A, c, h⟩ := Kd.R_slice R9.out; exact ⟨_, _, _, h⟩); subst hv9; clear ho9 hb9 hg9 hat9 hob c6 t0 t1 c9a c9b))
      have hsz := HSZ.out
      have hN := HN'.out
      have h6 := H6.out
      have hbs : ∀ b, vl.ownBlock = some b → wL.heap.size ≤ b := fun b e => (HOB.out b e).1
      refine ⟨KeepsOthers.from (((KeepsOthers.mk h6.size (fun k o hk _ => (h6.block k (Array.getElem?_eq_some_iff.1 hk).1).trans hk)).trans (KeepsOthers.of_grownBy HG9.out (fun j o e h => by obtain ⟨_, cs, h1⟩ := HOB.out j e; rw [h1] at h; cases h; rfl))).trans (KeepsOthers.setCell _ _ _)) _, ⟨?_, fun k cs t ht hk => ?_⟩, .slice A9 n9 q9, ?_, ?_, ?_, ?_, ?_, ?_⟩
      · exact Below.setCell (show Below w.heap.size W w9 from (h6.mono (by omega)).grown HG9.out (by have := h6.size; omega) (fun k e => by have := hbs k e; omega)) (by show w.heap.size ≤ w1.heap.size + 1; omega) _
      · have h1 := blk_below hk h6
        have h2 := (HG9.out.block k (Array.getElem?_eq_some_iff.1 h1).1 (fun e => by obtain ⟨_, cs2, h3⟩ := HOB.out k e.symm; rw [h1] at h3; cases h3; exact ht (by decide))).trans h1
        exact blk_far h2 (fun e => by have e2 : k = w1.heap.size + 1 := e; subst e2; rw [C6.out] at h1; cases h1; exact ht (by decide)) _
      · exact (M6.out.kept HG9.out (fun e => by obtain ⟨_, cs2, h3⟩ := HOB.out _ e.symm; exact M6.out.not_cells h3)).kept (grownBy_setCell' w9 (w1.heap.size + 1) _) (fun e => by cases e; exact (M6.out.kept HG9.out (fun e => by obtain ⟨_, cs2, h3⟩ := HOB.out _ e.symm; exact M6.out.not_cells h3)).not_cells E6.out)
      · exact blk_far E5.out (by first | (simp; done) | (simp; omega)) _
      · exact blk_set E6.out 0 _
      · rw [EN.out, if_pos EBT.out]; exact R_farLowU R9.out (by show w1.heap.size + 1 < wL.heap.size; omega) _
      · exact below_set (HB6.out.grown HG9.out HB6.out.size (fun k e => by have := hbs k e; omega)) (by show w.heap.size ≤ w1.heap.size + 1; omega)
      · have := HG9.out.size; have := HN6.out; simp [World.setCell]; omega
    | some s =>
      go_wp2_with (at_lookup; go_loud (refine wpList_mlook_yes W rfl (.tmp 19) (.tmp 20) 74 rfl Try.underlying74 g m f z rfl HM.out rfl hwf s hfz ?_))
      obtain ⟨w6, hw6⟩ : ∃ w6, w6 = W.alloc (.cells #[.int .i64 ((s.1 : Int) + 1), .int .i64 (s.2 : Int)] 72) := ⟨_, rfl⟩
      have hb6 : Below W.heap.size W w6 := by rw [hw6]; exact below_alloc (Below.refl _ _) _
      have C5 := Aside0.mk (blk_below A5.out hb6)
      have C6 := Aside0.mk (blk_below A6.out hb6)
      have C7 := Aside0.mk (blk_below A7.out hb6)
      have c9a : w6.cell? ⟨W.heap.size, 0, none⟩ = some (.int .i64 ((s.1 : Int) + 1)) := by rw [hw6]; go_simp
      have c9b : w6.cell? ⟨W.heap.size, 1, none⟩ = some (.int .i64 (s.2 : Int)) := by rw [hw6]; go_simp
      have H6 := Aside0.mk hb6
      have M6 := Aside0.mk (HM.out.below hb6)
      have R6 := Aside0.mk (Kd.R_below R0.out hb6)
      have HN6 := Aside0.mk (Nat.le_trans HN'.out hb6.size)
      have HB6 := Aside0.mk (below_step HB.out hb6)
      have c6 : w6.cell? ⟨w1.heap.size + 1, 0, none⟩ = some vl := (blk_cell C6.out 0).trans rfl
      have t0 : w6.cell? ⟨B7, 0, none⟩ = some (.int .i64 ((x.1 : Int) + 1)) := (blk_cell C7.out 0).trans rfl
      have t1 : w6.cell? ⟨B7, 1, none⟩ = some (.int .i64 (x.2 : Int)) := (blk_cell C7.out 1).trans rfl
      refine go_onp ?_
      rw [← hw6]
      clear hw6 hb6 HM A5 A6 A7 y5 R0
      by_cases hsx : s = x
      · subst hsx
        have EBF : Aside0 (isBad f (ptL l) s = false) := ⟨by rw [EB.out, hfz]; simp⟩
        clear hfz
        have q := fun W => eqSlot W ((s.1 : Int) + 1) (s.2 : Int) ((s.1 : Int) + 1) (s.2 : Int)
        simp only [BEq.rfl, Bool.and_self] at q
        refine wpIn_seq ?_
        refine wpIn_reg rfl (by rintro ⟨_, _, h⟩; exact h) ?_
        go_wp2
        refine wpIn_cond_false rfl ?_
        refine wpIn_skip ?_
        simp only [Exit.inBlock, Exit.then]
        have h6 := H6.out
        have hsz := HSZ.out
        have hN := HN'.out
        exact ⟨KeepsOthers.from ⟨h6.size, fun k o hk _ => (h6.block k (Array.getElem?_eq_some_iff.1 hk).1).trans hk⟩ _, ⟨h6.mono (by omega), fun k cs t _ hk => blk_below hk h6⟩, vl, M6.out, C5.out, C6.out, by rw [EN.out, EBF.out, if_neg (by simp), List.append_nil]; exact R6.out, HB6.out, HN6.out⟩
      · have EBT : Aside0 (isBad f (ptL l) x = true) := ⟨by rw [EB.out, hfz]; simp [hsx]⟩
        clear hfz
        have q := fun W => eqSlot W ((s.1 : Int) + 1) (s.2 : Int) ((x.1 : Int) + 1) (x.2 : Int)
        rw [show ((((s.1 : Int) + 1 == (x.1 : Int) + 1) && ((s.2 : Int) == (x.2 : Int))) = false) from slot_ne hsx] at q
        clear hsx
        refine wpIn_seq ?_
        refine wpIn_reg rfl (by rintro ⟨_, _, h⟩; exact h) ?_
        go_wp2
        refine wpIn_cond_true rfl ?_
        refine wpIn_reg rfl (by rintro ⟨_, _, h⟩; exact h) ?_
        go_wp2_with ((with_reducible refine gate_builtin (b := .append) (xs := #[.tmp 31, .tmp 37]) rfl ?_); at_builtin; go_loud (refine Kd.R_append kP2 (w0 := w6) wL.heap.size rfl (.tmp 31) (.tmp 37) 29 30 (.agg #[.int .i64 0, .int .i64 0]) 16 rfl Try.underlying29 p2info rfl (by decide) (by omega) vl (badE f (ptL l) pre) (slotP x) [.int .i64 ((x.1 : Int) + 1), .int .i64 (x.2 : Int)] (fun _ => True) (fun _ => False) rfl rfl rfl (fun _ hk => hk.elim) (fun _ _ => trivial) R6.out (Below.refl _ _) HN6.out (by have := LE.out; omega) ?_; intro v9 w9 ho9 hb9 hg9 hat9; have HG9 := Aside0.mk hg9; have R9 := Aside0.mk ho9; have hob : ∀ b, vl.ownBlock = some b → wL.heap.size ≤ b ∧ ∃ cs : Array Value, w6.heap[b]? = some (.cells cs 30 (0, 0)) := (R_ownblk R6.out); have HOB := Aside0.mk hob; have E5 : Aside0 (w9.heap[w1.heap.size]? = some (.cells #[.map (some g)] 74 (0, 0))) := ⟨(hg9.block _ (Array.getElem?_eq_some_iff.1 C5.out).1 (fun e => by have h_ := (hob _ e.symm).1; have := HSZ.out; omega)).trans C5.out⟩; have E6 : Aside0 (w9.heap[w1.heap.size + 1]? = some (.cells #[vl] 29 (0, 0))) := ⟨(hg9.block _ (Array.getElem?_eq_some_iff.1 C6.out).1 (fun e => by have h_ := (hob _ e.symm).1; have := HSZ.out; omega)).trans C6.out⟩; have c9 : w9.cell? ⟨w1.heap.size + 1, 0, none⟩ = some vl := (blk_cell E6.out 0).trans rfl; have f9 := blk_frozen E6.out 0; obtain ⟨A9, n9, q9, hv9⟩ : ∃ A n c, v9 = .slice A n c := (by obtain ⟨A, c, h⟩ := Kd.R_slice R9.out; exact ⟨_, _, _, h⟩); subst hv9; clear ho9 hb9 hg9 hat9 hob c6 t0 t1 c9a c9b))
        have hsz := HSZ.out
        have hN := HN'.out
        have h6 := H6.out
        have hbs : ∀ b, vl.ownBlock = some b → wL.heap.size ≤ b := fun b e => (HOB.out b e).1
        refine ⟨KeepsOthers.from (((KeepsOthers.mk h6.size (fun k o hk _ => (h6.block k (Array.getElem?_eq_some_iff.1 hk).1).trans hk)).trans (KeepsOthers.of_grownBy HG9.out (fun j o e h => by obtain ⟨_, cs, h1⟩ := HOB.out j e; rw [h1] at h; cases h; rfl))).trans (KeepsOthers.setCell _ _ _)) _, ⟨?_, fun k cs t ht hk => ?_⟩, .slice A9 n9 q9, ?_, ?_, ?_, ?_, ?_, ?_⟩
        · exact Below.setCell (show Below w.heap.size W w9 from (h6.mono (by omega)).grown HG9.out (by have := h6.size; omega) (fun k e => by have := hbs k e; omega)) (by show w.heap.size ≤ w1.heap.size + 1; omega) _
        · have h1 := blk_below hk h6
          have h2 := (HG9.out.block k (Array.getElem?_eq_some_iff.1 h1).1 (fun e => by obtain ⟨_, cs2, h3⟩ := HOB.out k e.symm; rw [h1] at h3; cases h3; exact ht (by decide))).trans h1
          exact blk_far h2 (fun e => by have e2 : k = w1.heap.size + 1 := e; subst e2; rw [C6.out] at h1; cases h1; exact ht (by decide)) _
        · exact (M6.out.kept HG9.out (fun e => by obtain ⟨_, cs2, h3⟩ := HOB.out _ e.symm; exact M6.out.not_cells h3)).kept (grownBy_setCell' w9 (w1.heap.size + 1) _) (fun e => by cases e; exact (M6.out.kept HG9.out (fun e => by obtain ⟨_, cs2, h3⟩ := HOB.out _ e.symm; exact M6.out.not_cells h3)).not_cells E6.out)
        · exact blk_far E5.out (by first | (simp; done) | (simp; omega)) _
        · exact blk_set E6.out 0 _
        · rw [EN.out, if_pos EBT.out]; exact R_farLowU R9.out (by show w1.heap.size + 1 < wL.heap.size; omega) _
        · exact below_set (HB6.out.grown HG9.out HB6.out.size (fun k e => by have := hbs k e; omega)) (by show w.heap.size ≤ w1.heap.size + 1; omega)
        · have := HG9.out.size; have := HN6.out; simp [World.setCell]; omega
end Go.Proofs.Ytdkbhbolkieeiaa.K
