/- claim.Used. -/
import Derived.Test.YtdkbhbolkieeiaaK11d
namespace Go.Proofs.YtdkbhbolkieeiaaW.PrintWords
open Go.RowKit Go.Proofs.Ytdkbhbolkieeiaa.K
namespace Kd
/-- A row of one's own abides the turn of a block that is no cells. -/
theorem R_turnU {α : Type} {d : Kd α} {e : TypeId} {w w1 : World} {base : Nat} {ok : Nat → Prop} {v : Value} {xs : List α} (h : d.R e w base ok v xs) {row : Option Nat} (hg : w.grownBy w1 row) (hr : ∀ r, row = some r → ∃ o : Obj, w.heap[r]? = some o ∧ o.isCells = false) : d.R e w1 base ok v xs :=
  R_mono (R_grown (R_bound h) hg (fun k hk e => by
    obtain ⟨q, _, cells, hc⟩ := hk.2.2.2
    obtain ⟨o, ho, hn⟩ := hr k e.symm
    rw [hc] at ho
    obtain rfl := Option.some.inj ho
    cases hn)) (fun _ hk => hk.1)
end Kd
end Go.Proofs.YtdkbhbolkieeiaaW.PrintWords
namespace Go.Proofs.Ytdkbhbolkieeiaa.K
open Go.RowKit Go.Shelf Go.Maps Go.Proofs.YtdkbhbolkieeiaaW.PrintWords Go.Proofs.YtdkbhbolkieeiaaW.PrintLast Go.Proofs.YtdkbhbolkieeiaaW.PrintMore
set_option linter.unusedVariables false
set_option linter.unusedSimpArgs false
/-- Which blocks are named. -/
def usedN (pt : Nat → Nat → Int) (n : Nat) (blocks : Int) : List Bool := if blocks < 1 ∨ blocks > 512 then [] else (List.range blocks.toNat).map fun b : Nat => (ownN pt n blocks (b : Int)).isSome
/-- Which have been seen. -/
def visN (f : Int → Option (Nat × Nat)) (L : Int → Bool) (n : Nat) : List Bool := (List.range n).map fun j : Nat => (f (j : Int)).isSome && !L (j : Int)
theorem visN_length (f : Int → Option (Nat × Nat)) (L : Int → Bool) (n : Nat) : (visN f L n).length = n := by simp [visN]
theorem visN_start (f : Int → Option (Nat × Nat)) (n : Nat) : visN f (fun i => (f i).isSome) n = List.replicate n false := by
  unfold visN
  rw [List.eq_replicate_iff]
  refine ⟨by simp, fun b hb => ?_⟩
  obtain ⟨j, _, rfl⟩ := List.mem_map.1 hb
  simp
theorem visN_set {f : Int → Option (Nat × Nat)} {L : Int → Bool} {n : Nat} {i : Int} (h0 : 0 ≤ i) (hf : (f i).isSome = true) : (visN f L n).set i.toNat true = visN f (fun j => L j && !decide (j = i)) n := by
  apply List.ext_getElem
  · simp [visN]
  · intro j h1 h2
    rw [List.getElem_set]
    simp only [visN, List.getElem_map, List.getElem_range]
    by_cases e : i.toNat = j
    · have e2 : (j : Int) = i := by omega
      rw [if_pos e, e2, hf]
      simp
    · have e2 : ¬ ((j : Int) = i) := by omega
      rw [if_neg e]
      simp [e2]
theorem visN_end {f : Int → Option (Nat × Nat)} {L : Int → Bool} {n : Nat} (h : ∀ i, L i = false) : visN f L n = (List.range n).map fun j : Nat => (f (j : Int)).isSome := by
  unfold visN
  congr 1
  funext j
  rw [h]; simp
theorem MapRg.iter {w : World} {b r n : Nat} {f : Int → Option (Nat × Nat)} {L : Int → Bool} {cnt : Nat} (h : MapRg w b r n f L cnt) : (∃ o : Obj, w.heap[r]? = some o ∧ o.isCells = false) ∧ ∃ o : Obj, w.heap[b]? = some o ∧ o.isCells = false := by
  obtain ⟨D, left, ⟨es, clock, since, seen, c0, hb, _, _, _, hr, _⟩, _⟩ := h
  exact ⟨⟨_, hr, rfl⟩, ⟨_, hb, rfl⟩⟩
theorem binfo : (Try.prog.info? 4).map (fun i => (i.zero, i.size, i.bytes)) = some (some (.bool false), 1, 1) := by kernel_rfl
set_option maxHeartbeats 2000000 in
set_option maxRecDepth 100000 in
theorem used_walk (A : Option Addr) (c : Nat) (l : List InoC) (blocks : Int) (w : World) (hr : Kd.C kInoC w A l.length l) (hl : l.length ≤ 1000000) (hok : ∀ x ∈ l, InoC.ok x) (hb : blocks ≤ 9223372036854775807) :
    Calls Try.prog 20 #[.slice A l.length c, .int .i64 blocks] w fun e w' => ∃ v : Value, e = .returned v ∧ Kd.R Kd.bool 4 w' w.heap.size (fun _ => True) v (usedN (ptL l) l.length blocks) ∧ Below w.heap.size w w' := by
  have WO := Aside0.mk (fun W h => owners_walk A c l blocks W h hl hok hb)
  have HR := Aside0.mk hr
  have HB := Aside0.mk (Below.refl w.heap.size w)
  have EU : Aside0 (usedN (ptL l) l.length blocks = if blocks < 1 ∨ blocks > 512 then [] else (List.range blocks.toNat).map fun b : Nat => (ownN (ptL l) l.length blocks (b : Int)).isSome) := ⟨rfl⟩
  have HFB : Aside0 (∀ i s, ownN (ptL l) l.length blocks i = some s → 0 ≤ i ∧ i < blocks) := ⟨fun i s h => by
    by_cases e : 0 ≤ i ∧ i < blocks
    · exact e
    · rw [ownN_nil e] at h; cases h⟩
  obtain ⟨f, hf⟩ : ∃ f, f = ownN (ptL l) l.length blocks := ⟨_, rfl⟩
  obtain ⟨u, hu⟩ : ∃ u, u = usedN (ptL l) l.length blocks := ⟨_, rfl⟩
  rw [← hf] at WO HFB
  rw [← hf, ← hu] at EU
  rw [← hu]
  obtain ⟨n, hn⟩ : ∃ n, n = l.length := ⟨_, rfl⟩
  rw [← hn] at WO HR
  rw [← hn]
  clear hr hl hok hb hf hn hu
  by_cases h1 : blocks < 1
  · have E0 : Aside0 (u = []) := ⟨by rw [EU.out, if_pos (Or.inl h1)]⟩
    go_enter Try.func20, Try.ntmps20
    go_wp2
    go_ret
    exact ⟨_, rfl, by rw [E0.out]; exact Kd.R_nil _ _ _ _ _, HB.out⟩
  by_cases h2 : blocks > 512
  · have E0 : Aside0 (u = []) := ⟨by rw [EU.out, if_pos (Or.inr h2)]⟩
    go_enter Try.func20, Try.ntmps20
    go_wp2
    go_ret
    exact ⟨_, rfl, by rw [E0.out]; exact Kd.R_nil _ _ _ _ _, HB.out⟩
  have E0 : Aside0 (u = (List.range blocks.toNat).map fun b : Nat => (f (b : Int)).isSome) := ⟨by rw [EU.out, if_neg (by omega)]⟩
  clear EU
  obtain ⟨k, rfl⟩ : ∃ k : Nat, blocks = (k : Int) := ⟨blocks.toNat, by omega⟩
  rw [Int.toNat_natCast] at E0
  go_enter Try.func20, Try.ntmps20
  go_wp2_with (first | ((with_reducible refine gate_dst (N := 14) rfl ?_); refine Kd.R_make Kd.bool _ 4 rfl (N := 14) rfl 33 _ _ rfl ((k : Int)) rfl rfl Try.underlying33 (.bool false) 1 binfo rfl (by decide) (by omega) false (ok := fun _ => True) (okp := fun _ => True) rfl (fun _ hk => hk) trivial (by omega) (by omega) (Below.refl _ _) (Nat.le_refl _) ?_; intro v1 w1 ho hb hg_ hnew_; clear hg_ hnew_; have HO1 := Aside0.mk (Kd.R_lower ho (below_size (by repeat (first | (with_reducible first | exact HB.out | apply below_alloc | apply pw_below_drewN | apply below_drew1) | exact HB.out)))); have n1_ : Aside0 (Below w.heap.size w w1) := ⟨below_step (by repeat (first | (with_reducible first | exact HB.out | apply below_alloc | apply pw_below_drewN | apply below_drew1) | exact HB.out)) hb⟩; clear HB; have HB := n1_; clear n1_; clear ho hb; go_must (obtain ⟨A1, c1, rfl⟩ := Kd.R_slice HO1.out; have hl1 : (List.replicate (k : Int).toNat false).length = k := by simp); go_must (rw [hl1] at HO1 ⊢); go_must (rw [Int.toNat_natCast] at HO1; clear hl1)) | (go_at_call 51; (with_reducible refine (WO.out _ (Kd.C_below HR.out (by repeat (first | (with_reducible first | exact HB.out | apply below_alloc | apply pw_below_drewN | apply below_drew1) | exact HB.out)))).mono ?_); rintro e w2 ⟨g, m, rfl, hg, hm, HM, hb⟩; have n_ := Aside0.mk (Kd.R_below HO1.out hb); clear HO1; have HO1 := n_; clear n_; have n1_ : Aside0 (Below w.heap.size w w2) := ⟨below_step (by repeat (first | (with_reducible first | exact HB.out | apply below_alloc | apply pw_below_drewN | apply below_drew1) | exact HB.out)) hb⟩; clear HB; have HB := n1_; clear n1_) | (at_range; go_loud (refine wpList_mrange w2 rfl (.tmp 17) 74 rfl Try.underlying74 g m f rfl HM ?_; intro w3 cnt hrg hb3 hs3)))
  go_frame
  obtain ⟨r, hr⟩ : ∃ r, r = w2.heap.size := ⟨_, rfl⟩
  have HO3 := Aside0.mk (Kd.R_below HO1.out hb3)
  have HB3 := Aside0.mk (below_step HB.out hb3)
  have HRG := Aside0.mk hrg
  have HRL : Aside0 (w.heap.size ≤ r) := ⟨by rw [hr]; exact HB.out.size⟩
  rw [← hr] at HRG ⊢
  clear HM hb hb3 hs3 hrg hr hg hm WO HO1 HB HR
  rw [← visN_start f k] at HO3
  go_loopw [19] (fun v19 wr => ∃ L cnt, Aside0 (MapRg wr g r m f L cnt) ∧ Aside0 (Kd.R Kd.bool 4 wr w.heap.size (fun _ => True) (.slice A1 k c1) (visN f L k)) ∧ Aside0 (Below w.heap.size w wr)) (fun v19 wr => wr.rangeLeft g r)
  case atStart => exact ⟨_, _, HRG, HO3, HB3⟩
  case round =>
    clear HB3 HRG HO3
    obtain ⟨L, cnt, HRG, HO, HB⟩ := hrel
    go_wp2_with (at_next; go_loud (refine wpList_mnext wr rfl (.tmp 18) rfl g r m f L cnt rfl HRG.out ?_ ?_))
    · intro hc0 hl0
      have E1 : Aside0 (u = visN f L k) := ⟨by rw [E0.out]; exact (visN_end hl0).symm⟩
      clear hc0 hl0
      go_wp2
      go_ret
      exact ⟨_, rfl, by rw [E1.out]; exact HO.out, HB.out⟩
    · intro i a b w4 cnt1 hwf hL hfs hrg1 hlt hg1 hs1 hen
      obtain ⟨hi0, hik⟩ := HFB.out _ _ hfs
      obtain ⟨j, rfl⟩ : ∃ j : Nat, i = (j : Int) := ⟨i.toNat, by omega⟩
      have hjk : j < k := by omega
      have HB1 : Aside0 (Below w.heap.size w w4) := ⟨HB.out.grown hg1 HB.out.size (fun q e => by cases e; exact HRL.out)⟩
      have HO1 := Aside0.mk (Kd.R_turnU HO.out hg1 (fun q e => by cases e; exact HRG.out.iter.1))
      obtain ⟨g5, cap, he, hg5, hg5', cells5, hcells5⟩ := Kd.R_form HO1.out (by rw [visN_length]; omega)
      injection he with ha hn hc
      subst ha hc
      obtain ⟨hcell, hfz⟩ := Kd.R_celln false HO1.out (j : Int) (by omega) (by omega)
      have HP := Kd.R_putg HO1.out (j : Int) true
      rw [visN_set hi0 (by rw [hfs]; rfl)] at HP
      rw [Int.toNat_natCast] at hcell hfz HP
      have HP1 := Aside0.mk HP.1
      have HRG1 := hrg1.kept HP.2 (fun e => by cases e; obtain ⟨o, ho, hc⟩ := hrg1.iter.2; rw [hcells5] at ho; cases ho; cases hc) (fun e => by cases e; obtain ⟨o, ho, hc⟩ := hrg1.iter.1; rw [hcells5] at ho; cases ho; cases hc)
      have HRG2 := Aside0.mk HRG1
      have HG5 := Aside0.mk hg5
      have HMS := Aside0.mk (meas_lt HRG1.left_eq HRG.out.left_eq hlt)
      clear hwf hL hfs hrg1 hlt hg1 hs1 hi0 hik HP HRG1 hn hg5 hg5' hcells5 HRG HO HB HO1
      go_wp2
      go_roundw
      case rel => exact ⟨_, _, HRG2, HP1, ⟨below_set HB1.out HG5.out⟩⟩
      case measure => exact HMS.out
end Go.Proofs.Ytdkbhbolkieeiaa.K
