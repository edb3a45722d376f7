/- claim.pointers: an iterator's contract. -/
import Derived.Test.YtdkbhbolkieeiaaK11a
import Derived.Test.YtdkbhbolkieeiaaK11m
import Derived.RangeFuncNested
import Derived.RangeFuncBound
import Derived.RangeFuncCalls
import Derived.RangeFuncLeaves
import Derived.Shelf.Abstract
import Derived.Shelf.RegionOpen
import Derived.LoopNIn
import Derived.LoopIn
import Derived.Scope
import Derived.WalkMore
namespace Go.Proofs.Ytdkbhbolkieeiaa.K
open Go.RowKit Go.Shelf Go.Proofs.YtdkbhbolkieeiaaW.PrintWords Go.Proofs.YtdkbhbolkieeiaaW.PrintLast Go.Proofs.YtdkbhbolkieeiaaW.PrintMore
set_option linter.unusedVariables false
set_option linter.unusedSimpArgs false
theorem go_onp {p : Prop} (h : p) : p := h
/-- What a round keeps for the iterator: what lay below n0, and all cells but those of some types. -/
def KeepT (n0 : Nat) (ts : List Nat) (A B : World) : Prop := Below n0 A B ∧ ∀ (k : Nat) (cs : Array Value) (t : TypeId), t ∉ ts → A.heap[k]? = some (.cells cs t (0, 0)) → B.heap[k]? = some (.cells cs t (0, 0))
theorem keepT_t {n0 : Nat} {ts : List Nat} {A B C : World} (h : KeepT n0 ts A B) (k : KeepT n0 ts B C) : KeepT n0 ts A C := ⟨h.1.trans k.1, fun g cs t ht hg => k.2 g cs t ht (h.2 g cs t ht hg)⟩
theorem keepT_b {n0 : Nat} {ts : List Nat} {w : World} (h0 : n0 ≤ w.heap.size) (W : World) (l : Nat) (o o' : Obj) (hl : w.heap.size ≤ l) (hg : W.heap[l]? = some o) (hc : o.isCells = false) (_ : o.isWalk = false) : KeepT n0 ts W (W.putObj l o') :=
  ⟨(Below.refl n0 W).grown (grownBy_putObj' W l o') (by have := (Array.getElem?_eq_some_iff.1 hg).1; omega) (fun k e => by cases e; omega), fun k cs t _ hk => (World.putObj_heap_other (by rintro rfl; rw [hk] at hg; cases hg; cases hc)).trans hk⟩
theorem pt_get {p0 p1 p2 p3 at_ : Int} {k : Nat} (hk : k < 5) (xx : InoC) (h0 : xx.p0 = p0) (h1 : xx.p1 = p1) (h2 : xx.p2 = p2) (h3 : xx.p3 = p3) (h4 : xx.at_ = at_) : ([p0, p1, p2, p3] ++ [at_])[k]'(by simpa using hk) = xx.pt k := by
  subst h0 h1 h2 h3 h4
  match k, hk with
  | 0, _ => rfl
  | 1, _ => rfl
  | 2, _ => rfl
  | 3, _ => rfl
  | 4, _ => rfl
theorem meas_upw {n i : Nat} {z : Int} (h1 : z = (i : Int) + 1) (h : i < n) : n - (intOf (.int .i64 z)).toNat < n - (intOf (.int .i64 (i : Int))).toNat := by
  subst h1
  show n - ((i : Int) + 1).toNat < n - (i : Int).toNat
  omega
/-- The places told ahead of the place (i, k). -/
def sl5to (i k : Nat) : List (Nat × Nat) := sl5 i ++ (List.range k).map fun j => (i, j)
theorem sl5to_zero (i : Nat) : sl5to i 0 = sl5 i := by simp [sl5to]
theorem sl5to_five (i : Nat) : sl5to i 5 = sl5 (i + 1) := (sl5_succ i).symm
theorem sl5to_succ (i k : Nat) : sl5to i (k + 1) = sl5to i k ++ [(i, k)] := by
  unfold sl5to
  rw [List.range_succ (n := k), List.map_append, ← List.append_assoc]
  rfl
theorem sl5_length (n : Nat) : (sl5 n).length = 5 * n := by
  induction n with
  | zero => rfl
  | succ n ih => rw [sl5_succ, List.length_append, ih, List.length_map, List.length_range]; omega
theorem sl5to_length (i k : Nat) : (sl5to i k).length = 5 * i + k := by unfold sl5to; rw [List.length_append, sl5_length, List.length_map, List.length_range]
theorem sl5_prefix {i n : Nat} (h : i ≤ n) : sl5 i <+: sl5 n := by
  induction n with
  | zero => have : i = 0 := by omega
            subst this; exact List.prefix_refl _
  | succ n ih =>
    by_cases e : i = n + 1
    · subst e; exact List.prefix_refl _
    · exact (ih (by omega)).trans ⟨_, (sl5_succ n).symm⟩
theorem sl5to_prefix {i k n : Nat} (h : i < n) (hk : k ≤ 5) : sl5to i k <+: sl5 n := by
  refine List.IsPrefix.trans ?_ (sl5_prefix (show i + 1 ≤ n by omega))
  rw [← sl5to_five]
  unfold sl5to
  rw [List.prefix_append_right_inj]
  obtain ⟨d, hd⟩ : ∃ d, 5 = k + d := ⟨5 - k, by omega⟩
  rw [hd, List.range_add, List.map_append]
  exact List.prefix_append _ _
/-- The places of the pointers that are not 0. -/
def nzN (pt : Nat → Nat → Int) (L : List (Nat × Nat)) : List (Nat × Nat) := L.filter fun s => !decide (pt s.1 s.2 = 0)
theorem nzN_append (pt : Nat → Nat → Int) (L M : List (Nat × Nat)) : nzN pt (L ++ M) = nzN pt L ++ nzN pt M := List.filter_append _ _
theorem nzN_prefix {pt : Nat → Nat → Int} {L M : List (Nat × Nat)} (h : L <+: M) : nzN pt L <+: nzN pt M := by
  obtain ⟨t, rfl⟩ := h
  rw [nzN_append]
  exact List.prefix_append _ _
theorem nzN_len (pt : Nat → Nat → Int) (L : List (Nat × Nat)) : (nzN pt L).length ≤ L.length := List.length_filter_le _ _
theorem nzN_one (pt : Nat → Nat → Int) (i k : Nat) : nzN pt [(i, k)] = if pt i k = 0 then [] else [(i, k)] := by
  unfold nzN
  by_cases h : pt i k = 0 <;> simp [h]
/-- The block that a place names. -/
def atN (pt : Nat → Nat → Int) (s : Nat × Nat) : (Nat × Nat) × Int := (s, wrap64 (pt s.1 s.2 - 1))
theorem ptrsN_nz (pt : Nat → Nat → Int) (L : List (Nat × Nat)) : ptrsN pt L = (nzN pt L).map (atN pt) := by
  induction L with
  | nil => rfl
  | cons s L ih =>
    rw [show s :: L = [s] ++ L from rfl, ptrsN_append, nzN_append, List.map_append, ih]
    congr 1
    obtain ⟨i, k⟩ := s
    rw [nzN_one]
    by_cases h : pt i k = 0 <;> simp [ptrsN, atN, h]
theorem ptrsN_prefix {pt : Nat → Nat → Int} {L M : List (Nat × Nat)} (h : L <+: M) : ptrsN pt L <+: ptrsN pt M := by
  obtain ⟨t, rfl⟩ := h
  rw [ptrsN_append]
  exact List.prefix_append _ _
theorem ptrsN_len (pt : Nat → Nat → Int) (L : List (Nat × Nat)) : (ptrsN pt L).length ≤ L.length := List.length_filterMap_le _ _
theorem ptrsN_one (pt : Nat → Nat → Int) (i k : Nat) : ptrsN pt [(i, k)] = if pt i k = 0 then [] else [((i, k), wrap64 (pt i k - 1))] := by
  unfold ptrsN
  by_cases h : pt i k = 0 <;> simp [h]
theorem C_four {W : World} {g o : Nat} {a b c d : Int} (h0 : W.cell? ⟨g, o, none⟩ = some (.int .i64 a)) (h1 : W.cell? ⟨g, o + 1, none⟩ = some (.int .i64 b)) (h2 : W.cell? ⟨g, o + 2, none⟩ = some (.int .i64 c)) (h3 : W.cell? ⟨g, o + 3, none⟩ = some (.int .i64 d)) : Kd.C (Kd.int .i64) W (some ⟨g, o, none⟩) 4 [a, b, c, d] := by
  refine ⟨rfl, by decide, fun _ => ⟨⟨g, o, none⟩, rfl, fun j p hp => ?_⟩⟩
  have key : W.cell? ⟨g, o + j, none⟩ = some (.int .i64 p) := by
    match j, hp with
    | 0, hp => cases hp; exact h0
    | 1, hp => cases hp; exact h1
    | 2, hp => cases hp; exact h2
    | 3, hp => cases hp; exact h3
  refine ⟨[.int .i64 p], rfl, rfl, fun i u hu => ?_⟩
  have hi : i = 0 := by have := (List.getElem?_eq_some_iff.1 hu).1; simp at this; exact this
  subst hi
  simp at hu
  subst hu
  have e : (⟨g, o, none⟩ : Addr).add (j * (Kd.int .i64).sz + 0) = ⟨g, o + j, none⟩ := by
    show (⟨g, o, none⟩ : Addr).add (j * 1 + 0) = _
    simp [Addr.add]
  rw [e]
  exact key
theorem C_lit1 (W : World) (a : Int) (t : TypeId) : Kd.C (Kd.int .i64) (W.alloc (.cells #[.int .i64 a] t)) (some ⟨W.heap.size, 0, none⟩) 1 [a] := Kd.C_blkJ (heap_alloc_new _ _) rfl (by simp)
theorem R_five {W : World} {b : Nat} {ok : Nat → Prop} {v : Value} {p0 p1 p2 p3 at_ : Int} (h : (Kd.int .i64).R 3 W b ok v ([p0, p1, p2, p3] ++ [at_])) : ∃ g c cs, v = .slice (some ⟨g, 0, none⟩) 5 c ∧ W.heap[g]? = some (.cells cs 3 (0, 0)) ∧ cs.toList.take 5 = [.int .i64 p0, .int .i64 p1, .int .i64 p2, .int .i64 p3, .int .i64 at_] := by
  obtain ⟨g, c, cs, hv, _, _, _, bk, _, ht⟩ := Kd.R_blkS h (by simp)
  exact ⟨g, c, cs, hv, bk, ht⟩
theorem five_cell {W : World} {g : Nat} {cs : Array Value} {t : TypeId} {x : InoC} (bk : W.heap[g]? = some (.cells cs t (0, 0))) (ht : cs.toList.take 5 = [.int .i64 x.p0, .int .i64 x.p1, .int .i64 x.p2, .int .i64 x.p3, .int .i64 x.at_]) {k : Nat} (hk : k < 5) : W.cell? ⟨g, k, none⟩ = some (.int .i64 (x.pt k)) := by
  rw [blk_cell bk k]
  have h2 : (cs.toList.take 5)[k]? = cs[k]? := by rw [List.getElem?_take_of_lt hk, Array.getElem?_toList]
  rw [← h2, ht]
  match k, hk with
  | 0, _ => rfl
  | 1, _ => rfl
  | 2, _ => rfl
  | 3, _ => rfl
  | 4, _ => rfl
set_option maxHeartbeats 4000000 in
set_option maxRecDepth 100000 in
theorem ptrs1_stops (n : Nat) (A : Option Addr) (c : Nat) (l : List InoC) (bs : Nat) (ts : List Nat) (w0 w : World) (hr : Kd.C kInoC w0 A l.length l) (hb0 : Below w0.heap.size w0 w) (hl : l.length ≤ 1000000) (hts : 3 ∉ ts)
    (hs : w.cell? ⟨bs, 0, none⟩ = some (.slice A l.length c)) :
    SeqStopsK Fence.wide n Try.prog 91 #[.pointer (some ⟨bs, 0, none⟩)] (fun x : Nat × Nat => #[slotV x, .int .i64 (RowKit.wrap64 (ptL l x.1 x.2 - 1))]) (KeepT w0.heap.size ts) (fun xs => xs = nzN (ptL l) (sl5 l.length)) (fun pre => pre <+: nzN (ptL l) (sl5 l.length)) (5 * l.length) w := by
  intro ln J Jx W hW hJ hJx hY h0
  have s0 : W.cell? ⟨bs, 0, none⟩ = some (.slice A l.length c) := pw_cell_below hW hs
  have HB0 : Aside0 (Below w0.heap.size w0 W) := ⟨hb0.trans (hW.mono hb0.size)⟩
  have HY := Aside0.mk hY
  have HR := Aside0.mk hr
  have HL := Aside0.mk hl
  have HJA := Aside0.mk hJ
  clear hs hb0 hY hr hl hJ hW
  refine callsIn_of_wp Try.func91 rfl trivial ?_ rfl
  simp only [Try.ntmps91, List.size_toArray, List.length_cons, List.length_nil, Nat.reduceAdd, Nat.reduceSub, Array.replicate_succ, Array.replicate_zero, List.push_toArray, List.append_toArray, List.nil_append, List.cons_append]
  gi_wp2
  refine wpIn_wide.2 (wp_scope_straight ((wpIn_wide (n := n)).1 ?_))
  refine wpIn_seq ?_
  refine wpIn_label ?_
  simp only [Exit.then]
  gi_wp2
  clear s0
  gi_loopw [9] (fun v9 wr => ∃ i : Nat, v9 = .int .i64 i ∧ Aside0 (i ≤ l.length) ∧ Aside0 (J (nzN (ptL l) (sl5 i)) wr) ∧ Aside0 (Below w0.heap.size w0 wr) ∧ Aside0 (W.heap.size ≤ wr.heap.size)) (fun v9 _ => l.length - (intOf v9).toNat)
  case atStart => exact ⟨0, rfl, ⟨Nat.zero_le _⟩, ⟨h0⟩, HB0, ⟨Nat.le_refl _⟩⟩
  case round =>
    clear HB0 h0
    obtain ⟨i, rfl, hi, HJ, HB, HS⟩ := hrel
    have hi' := hi.out
    by_cases hlt : i < l.length
    · obtain ⟨ad, rfl, hx, hxs⟩ := Kd.at_flatA (Kd.C_below HR.out HB.out) hlt
      have HPT := Aside0.mk (ptL_get hlt)
      obtain ⟨x, hxx⟩ : ∃ x, x = l[i] := ⟨_, rfl⟩
      rw [← hxx] at hx hxs HPT
      have x0 := hx _ rfl
      have x1 := hxs 0 _ rfl
      have x2 := hxs 1 _ rfl
      have x3 := hxs 2 _ rfl
      have x4 := hxs 3 _ rfl
      have x5 := hxs 4 _ rfl
      have x6 := hxs 5 _ rfl
      have x7 := hxs 6 _ rfl
      have x8 := hxs 7 _ rfl
      have x9 := hxs 8 _ rfl
      simp only [Nat.reduceAdd] at x1 x2 x3 x4 x5 x6 x7 x8 x9
      clear hx hxs hxx
      obtain ⟨xk, xim, xnl, xge, xsz, xp0, xp1, xp2, xp3, xat⟩ := x
      simp only at x0 x1 x2 x3 x4 x5 x6 x7 x8 x9
      gi_wp2
      obtain ⟨w1, hw1⟩ : ∃ w1, w1 = wr.alloc (.cells #[.int .i64 xk, .int .i64 xim, .int .i64 xnl, .int .i64 xge, .int .i64 xsz, .int .i64 xp0, .int .i64 xp1, .int .i64 xp2, .int .i64 xp3, .int .i64 xat] 70) := ⟨_, rfl⟩
      have hsz1 : w1.heap.size = wr.heap.size + 1 := by rw [hw1]; simp
      have y0 : w1.cell? ⟨wr.heap.size, 5, none⟩ = some (.int .i64 xp0) := by rw [hw1]; go_simp
      have y1 : w1.cell? ⟨wr.heap.size, 6, none⟩ = some (.int .i64 xp1) := by rw [hw1]; go_simp
      have y2 : w1.cell? ⟨wr.heap.size, 7, none⟩ = some (.int .i64 xp2) := by rw [hw1]; go_simp
      have y3 : w1.cell? ⟨wr.heap.size, 8, none⟩ = some (.int .i64 xp3) := by rw [hw1]; go_simp
      have y4 : w1.cell? ⟨wr.heap.size, 9, none⟩ = some (.int .i64 xat) := by rw [hw1]; go_simp
      have HW1 : Aside0 (Below wr.heap.size wr w1) := ⟨by rw [hw1]; exact below_alloc (Below.refl _ _) _⟩
      have HJ1 : Aside0 (J (nzN (ptL l) (sl5 i)) w1) := ⟨HJA.out _ _ _ _ HJ.out (grown_below HW1.out) (fun r e => by cases e)⟩
      have HB1 : Aside0 (Below w0.heap.size w0 w1) := ⟨HB.out.trans (HW1.out.mono HB.out.size)⟩
      have HS1 : Aside0 (W.heap.size ≤ w1.heap.size) := ⟨Nat.le_trans HS.out HW1.out.size⟩
      have hlt1 : wr.heap.size < w1.heap.size := by omega
      have HSZ1 := Aside0.mk hsz1
      clear hsz1
      have WC : Aside0 (∀ W, W.cell? ⟨wr.heap.size, 5, none⟩ = some (.int .i64 xp0) → W.cell? ⟨wr.heap.size, 6, none⟩ = some (.int .i64 xp1) → W.cell? ⟨wr.heap.size, 7, none⟩ = some (.int .i64 xp2) → W.cell? ⟨wr.heap.size, 8, none⟩ = some (.int .i64 xp3) →
          Calls Try.prog 92 #[.slice (some ⟨wr.heap.size, 5, none⟩) 4 4] W fun e w' => ∃ v : Value, e = .returned v ∧ Kd.R (Kd.int .i64) 3 w' W.heap.size (fun _ => True) v [xp0, xp1, xp2, xp3] ∧ Below W.heap.size W w') := ⟨fun W a b c d => cloneI_walk ⟨wr.heap.size, 5, none⟩ 4 [xp0, xp1, xp2, xp3] W (C_four a b c d) (by simp) (by simp)⟩
      refine go_onp ?_
      rw [← hw1]
      clear hw1 x0 x1 x2 x3 x4 x5 x6 x7 x8 x9 HJ HB HS HW1
      have hbw := Below.refl w1.heap.size w1
      refine wpIn_wide.2 ?_
      go_region_held3 (fun W => W.cell? ⟨wr.heap.size, 5, none⟩ = some (.int .i64 xp0) ∧ W.cell? ⟨wr.heap.size, 6, none⟩ = some (.int .i64 xp1) ∧ W.cell? ⟨wr.heap.size, 7, none⟩ = some (.int .i64 xp2) ∧ W.cell? ⟨wr.heap.size, 8, none⟩ = some (.int .i64 xp3) ∧ W.cell? ⟨wr.heap.size, 9, none⟩ = some (.int .i64 xat) ∧ Below w1.heap.size w1 W) (first | (exact ⟨pw_cell_below hb19 y0, pw_cell_below hb19 y1, pw_cell_below hb19 y2, pw_cell_below hb19 y3, pw_cell_below hb19 y4, hb19⟩) | (go_split_ands; refine ⟨(by (first | (with_reducible assumption) | exact pw_cell_below hb5 (by assumption) | exact pw_cell_below (below_alloc (Below.refl _ _) _) (by assumption) | exact pw_cell_below (pw_below_drewN (Below.refl _ _) _) (by assumption) | exact pw_cell_below (pw_below_drewN (below_alloc (Below.refl _ _) _) _) (by assumption) | exact pw_cell_below (below_drew1 (Below.refl _ _)) (by assumption))), (by (first | (with_reducible assumption) | exact pw_cell_below hb5 (by assumption) | exact pw_cell_below (below_alloc (Below.refl _ _) _) (by assumption) | exact pw_cell_below (pw_below_drewN (Below.refl _ _) _) (by assumption) | exact pw_cell_below (pw_below_drewN (below_alloc (Below.refl _ _) _) _) (by assumption) | exact pw_cell_below (below_drew1 (Below.refl _ _)) (by assumption))), (by (first | (with_reducible assumption) | exact pw_cell_below hb5 (by assumption) | exact pw_cell_below (below_alloc (Below.refl _ _) _) (by assumption) | exact pw_cell_below (pw_below_drewN (Below.refl _ _) _) (by assumption) | exact pw_cell_below (pw_below_drewN (below_alloc (Below.refl _ _) _) _) (by assumption) | exact pw_cell_below (below_drew1 (Below.refl _ _)) (by assumption))), (by (first | (with_reducible assumption) | exact pw_cell_below hb5 (by assumption) | exact pw_cell_below (below_alloc (Below.refl _ _) _) (by assumption) | exact pw_cell_below (pw_below_drewN (Below.refl _ _) _) (by assumption) | exact pw_cell_below (pw_below_drewN (below_alloc (Below.refl _ _) _) _) (by assumption) | exact pw_cell_below (below_drew1 (Below.refl _ _)) (by assumption))), (by (first | (with_reducible assumption) | exact pw_cell_below hb5 (by assumption) | exact pw_cell_below (below_alloc (Below.refl _ _) _) (by assumption) | exact pw_cell_below (pw_below_drewN (Below.refl _ _) _) (by assumption) | exact pw_cell_below (pw_below_drewN (below_alloc (Below.refl _ _) _) _) (by assumption) | exact pw_cell_below (below_drew1 (Below.refl _ _)) (by assumption))), (by (repeat (first | (with_reducible assumption) | (with_reducible refine below_step ?_ hb5) | (with_reducible refine below_alloc ?_ _) | (with_reducible refine pw_below_drewN ?_ _) | (with_reducible refine below_drew1 ?_))))⟩) | (go_split_ands; refine ⟨(by (first | (with_reducible assumption) | assumption | exact pw_cell_below (below_alloc (Below.refl _ _) _) (by assumption) | exact pw_cell_below (pw_below_drewN (Below.refl _ _) _) (by assumption) | exact pw_cell_below (pw_below_drewN (below_alloc (Below.refl _ _) _) _) (by assumption) | exact pw_cell_below (below_drew1 (Below.refl _ _)) (by assumption))), (by (first | (with_reducible assumption) | assumption | exact pw_cell_below (below_alloc (Below.refl _ _) _) (by assumption) | exact pw_cell_below (pw_below_drewN (Below.refl _ _) _) (by assumption) | exact pw_cell_below (pw_below_drewN (below_alloc (Below.refl _ _) _) _) (by assumption) | exact pw_cell_below (below_drew1 (Below.refl _ _)) (by assumption))), (by (first | (with_reducible assumption) | assumption | exact pw_cell_below (below_alloc (Below.refl _ _) _) (by assumption) | exact pw_cell_below (pw_below_drewN (Below.refl _ _) _) (by assumption) | exact pw_cell_below (pw_below_drewN (below_alloc (Below.refl _ _) _) _) (by assumption) | exact pw_cell_below (below_drew1 (Below.refl _ _)) (by assumption))), (by (first | (with_reducible assumption) | assumption | exact pw_cell_below (below_alloc (Below.refl _ _) _) (by assumption) | exact pw_cell_below (pw_below_drewN (Below.refl _ _) _) (by assumption) | exact pw_cell_below (pw_below_drewN (below_alloc (Below.refl _ _) _) _) (by assumption) | exact pw_cell_below (below_drew1 (Below.refl _ _)) (by assumption))), (by (first | (with_reducible assumption) | assumption | exact pw_cell_below (below_alloc (Below.refl _ _) _) (by assumption) | exact pw_cell_below (pw_below_drewN (Below.refl _ _) _) (by assumption) | exact pw_cell_below (pw_below_drewN (below_alloc (Below.refl _ _) _) _) (by assumption) | exact pw_cell_below (below_drew1 (Below.refl _ _)) (by assumption))), (by (repeat (first | (with_reducible assumption) | (with_reducible refine below_alloc ?_ _) | (with_reducible refine pw_below_drewN ?_ _) | (with_reducible refine below_drew1 ?_))))⟩)) (first | (go_at_call 92; go_split_ands; (with_reducible refine (WC.out _ (by assumption) (by assumption) (by assumption) (by assumption)).mono ?_); rintro e w5 ⟨v5, rfl, ho5_, hb5⟩; have ho5 := Kd.R_lower ho5_ (below_size (by assumption)); clear ho5_; obtain ⟨A5, c5, rfl⟩ := Kd.R_slice ho5) | (go_split_ands; (refine Kd.R_append_rows_step (Kd.int .i64) (w0 := w1) w1.heap.size (by rfl) (.tmp 16) (.tmp 19) 119 3 (.int .i64 0) 8 (by rfl) Try.underlying119 iinfo rfl (by decide) (by omega) _ [xp0, xp1, xp2, xp3] [xat] _ 1 1 (fun _ => True) (fun _ => False) (by rfl) (by rfl) ?aO ?aR (fun _ _ h => h) (fun _ h => h.elim) (fun _ _ => trivial) ?aB ?aS ?aL ?_); (case aO => first | exact ho5 | exact Kd.R_alloc ho5 _); (case aR => first | exact C_lit1 w5 xat 3 | exact Kd.C_below (Kd.C_drew (C_lit1 w1 xat 3)) hb5 | exact Kd.C_drew (C_lit1 w5 xat 3)); (case aB => assumption); (case aS => exact below_size (by assumption)); (case aL => simp); intro v19 w19 ho19 hb19 hg_ hat_; clear hg_ hat_; obtain ⟨g19, c19, cs19, rfl, bk19, ht19⟩ := R_five ho19; have BK19 := Aside0.mk bk19; have HT19 := Aside0.mk ht19; clear bk19 ht19 ho19) | fail)
      all_goals
        have HJ2 : Aside0 (J (nzN (ptL l) (sl5to i 0)) w19) := ⟨by rw [sl5to_zero]; exact HJA.out _ _ _ _ HJ1.out (grown_below hb19) (fun r e => by cases e)⟩
        have HB2 : Aside0 (Below w0.heap.size w0 w19) := ⟨HB1.out.trans (hb19.mono HB1.out.size)⟩
        have HS2 : Aside0 (W.heap.size ≤ w19.heap.size) := ⟨Nat.le_trans HS1.out hb19.size⟩
        clear hb19 hbw HB1 HS1 HJ1 WC y0 y1 y2 y3 y4 hlt1 hb5
        refine go_onp ?_
        gi_wp2
        gi_loopw [22] (fun v22 wi => ∃ k : Nat, v22 = .int .i64 k ∧ Aside0 (k ≤ 5) ∧ Aside0 (J (nzN (ptL l) (sl5to i k)) wi) ∧ Aside0 (Below w0.heap.size w0 wi) ∧ Aside0 (W.heap.size ≤ wi.heap.size) ∧ Aside0 (wi.heap[g19]? = some (.cells cs19 3 (0, 0)))) (fun v22 _ => 5 - (intOf v22).toNat)
        case atStart => exact ⟨0, rfl, ⟨Nat.zero_le _⟩, HJ2, HB2, HS2, BK19⟩
        case round =>
          clear HJ2 HB2 HS2 BK19
          obtain ⟨k, rfl, hk, HJ, HB, HS, BK⟩ := hrel
          have hk' := hk.out
          by_cases hk5 : k < 5
          · have hc := five_cell (x := ⟨xk, xim, xnl, xge, xsz, xp0, xp1, xp2, xp3, xat⟩) BK.out HT19.out hk5
            rw [← HPT.out k] at hc
            obtain ⟨p, hp⟩ : ∃ p, p = ptL l i k := ⟨_, rfl⟩
            rw [← hp] at hc
            have HPS := Aside0.mk (sl5to_succ i k)
            have HP1 := Aside0.mk (nzN_one (ptL l) i k)
            rw [← hp] at HP1
            have HPE := Aside0.mk hp
            clear hp
            by_cases hp0 : p = 0
            · have HJ3 : Aside0 (J (nzN (ptL l) (sl5to i (k + 1))) wr) := ⟨by rw [HPS.out, nzN_append, HP1.out, if_pos hp0, List.append_nil]; exact HJ.out⟩
              clear HPE
              subst hp0
              clear HJ HPS HP1
              gi_wp2
              refine ⟨fun _ h => (by cases h), ?_⟩
              gi_wp2
              go_roundw
              case rel => exact ⟨k + 1, by simp, ⟨by omega⟩, HJ3, HB, HS, BK⟩
              case measure => simp [intOf]; omega
            · have hp0b : (p != 0) = true := by simpa using hp0
              have HPX : Aside0 (nzN (ptL l) (sl5to i (k + 1)) = nzN (ptL l) (sl5to i k) ++ [(i, k)]) := ⟨by rw [HPS.out, nzN_append, HP1.out, if_neg hp0]⟩
              have HPF : Aside0 (nzN (ptL l) (sl5to i k) ++ [(i, k)] <+: nzN (ptL l) (sl5 l.length)) := ⟨by rw [← HPX.out]; exact nzN_prefix (sl5to_prefix hlt (by omega))⟩
              obtain ⟨fn, ytmps, assign, body, hy, hR⟩ := HY.out (nzN (ptL l) (sl5to i k)) (i, k) wr HJ.out (by have := nzN_len (ptL l) (sl5to i k); rw [sl5to_length] at this; omega)
              dsimp only [slotV] at hy
              rw [← HPE.out] at hy
              have hw1 : RowKit.wrap64 ((i : Int) + 1) = (i : Int) + 1 := by have := HL.out; unfold RowKit.wrap64; omega
              clear HPS HP1 HJ
              gi_wp2
              refine ⟨fun hd => (by simp [Fence.wide] at hd), ?_⟩
              refine hR.mono ?_
              rintro e W3 (⟨rfl, hJ3, hk3⟩ | ⟨rfl, hJx3⟩)
              · have HJ3 : Aside0 (J (nzN (ptL l) (sl5to i (k + 1))) W3) := ⟨by rw [HPX.out]; exact hJ3⟩
                have HB3 : Aside0 (Below w0.heap.size w0 W3) := ⟨HB.out.trans hk3.1⟩
                have HS3 : Aside0 (W.heap.size ≤ W3.heap.size) := ⟨Nat.le_trans HS.out hk3.1.size⟩
                have BK3 := Aside0.mk (hk3.2 _ _ _ hts BK.out)
                clear hJ3 hk3 HB HS BK hR hy HPX HPF
                gi_wp2
                go_roundw
                case rel => exact ⟨k + 1, by simp, ⟨by omega⟩, HJ3, HB3, HS3, BK3⟩
                case measure => simp [intOf]; omega
              · have HJX := Aside0.mk hJx3
                clear hJx3 hR hy
                gi_wp2
                simp only [Exit.noGoto_normal]
                go_end0
                exact ⟨⟨_, rfl⟩, .inr ⟨_, HPF.out, HJX.out⟩⟩
          · have hk6 : k = 5 := by omega
            have hw1 : RowKit.wrap64 ((i : Int) + 1) = (i : Int) + 1 := by have := HL.out; unfold RowKit.wrap64; omega
            have HJ3 : Aside0 (J (nzN (ptL l) (sl5 (i + 1))) wr) := ⟨by rw [← sl5to_five, ← hk6]; exact HJ.out⟩
            clear HJ hk6
            gi_wp2
            go_roundw
            case rel => exact ⟨i + 1, by simp [hw1], ⟨by omega⟩, HJ3, HB, HS⟩
            case measure =>
              exact meas_upw hw1 hlt
    · have hil : i = l.length := by omega
      subst hil
      gi_wp2
      simp only [Exit.noGoto_normal]
      go_end0
      exact ⟨⟨_, rfl⟩, .inl ⟨_, rfl, HJ.out⟩⟩
theorem pointers_walk (A : Option Addr) (L c : Nat) (w : World) : Calls Try.prog 53 #[.slice A L c] w fun e w' => e = .returned (.func (.func 91) #[] #[.pointer (some ⟨w.heap.size, 0, none⟩)]) ∧ w' = w.alloc (.cells #[.slice A L c] 22) := by
  go_enter Try.func53, Try.ntmps53
  go_wp2
  go_ret
  exact ⟨rfl, rfl⟩
end Go.Proofs.Ytdkbhbolkieeiaa.K
