/- slices.DeleteFunc of findings. -/
import Derived.Test.YtfbcnmjahpbbeaaK31d
import Derived.Test.YtfbcnmjahpbbeaaKFlat2
namespace Go.Proofs.Ytfbcnmjahpbbeaa.K
open Go.RowKit Go.Proofs.YtfbcnmjahpbbeaaW.PrintWords Go.Proofs.YtfbcnmjahpbbeaaW.PrintLast Go.Proofs.YtfbcnmjahpbbeaaW.PrintMore
set_option linter.unusedVariables false
set_option linter.unusedSimpArgs false
theorem Fnd.one' {x : Fnd} : ∀ u ∈ x.enc, u.oneCell' = true := Fnd.one x
/-- What stays of the first j. -/
def keptF {α : Type} (p : α → Bool) (l : List α) (j : Nat) : List α := (l.take j).filter (fun x => !p x)
theorem keptF_le {α : Type} (p : α → Bool) (l : List α) (j : Nat) : (keptF p l j).length ≤ j := by
  have h1 := List.length_filter_le (fun x => !p x) (l.take j)
  have h2 := List.length_take_le j l
  unfold keptF; omega
theorem keptF_succ {α : Type} {p : α → Bool} {l : List α} {j : Nat} (h : j < l.length) : keptF p l (j + 1) = if p l[j] = true then keptF p l j else keptF p l j ++ [l[j]] := by
  unfold keptF
  rw [List.take_succ_eq_append_getElem h, List.filter_append]
  cases hb : p l[j] <;> simp [hb]
set_option maxHeartbeats 4000000 in
set_option maxRecDepth 100000 in
theorem delF_walk (g c : Nat) (cs : Array Value) (L : List Fnd) (p : Fnd → Bool) (f : Nat) (lb : Array Value) (w : World) (bk : w.heap[g]? = some (.cells cs 68 (0, 0))) (hcs : cs.toList.take (L.length * 4) = L.flatMap Fnd.enc) (hsz : L.length * 4 ≤ cs.size) (hc : L.length ≤ c) (hL : L.length ≤ 1000000)
    (eg : ∀ args w, (callFunc f args).run Try.prog w = .ok (.enter f args) w) (hp : ∀ W x, w.grownBy W (some g) → Calls Try.prog f (#[.agg #[.int .i64 x.cl, .int .i64 x.la, .int .i64 x.ino, .int .i64 x.sl]] ++ lb) W fun e w' => e = .returned (.bool (p x)) ∧ Below W.heap.size W w') :
    Calls Try.prog 85 #[.slice (some ⟨g, 0, none⟩) L.length c, .func (.func f) #[] lb] w fun e w' => e = .returned (.slice (some ⟨g, 0, none⟩) (L.filter (fun x => !p x)).length c) ∧ ∃ cs', w'.heap[g]? = some (.cells cs' 68 (0, 0)) ∧ cs'.size = cs.size ∧ cs'.toList.take ((L.filter (fun x => !p x)).length * 4) = (L.filter (fun x => !p x)).flatMap Fnd.enc ∧ w.grownBy w' (some g) := by
  have WI := Aside0.mk (idxF_walk (some ⟨g, 0, none⟩) c L p f lb w (Kd.C_blk bk hcs (by omega)) (by omega) eg (fun W x hb => hp W x (grown_of_below hb _)))
  have HP := Aside0.mk hp
  have BK := Aside0.mk bk
  have HCS := Aside0.mk hcs
  have HSZ := Aside0.mk hsz
  clear bk hcs hsz hp
  rcases hd : L.findIdx? p with _ | i0
  · have hall : ∀ x ∈ L, p x = false := by rwa [List.findIdx?_eq_none_iff] at hd
    have E0 : Aside0 (L.filter (fun x => !p x) = L) := ⟨List.filter_eq_self.2 (fun x hx => by simp [hall x hx])⟩
    have hi : idxP p L = -1 := by unfold idxP; rw [hd]
    rw [hi] at WI
    clear hd hall hi
    go_enter Try.func85, Try.ntmps85
    go_wp2_with (go_at_call 88; (with_reducible refine WI.out.mono ?_); rintro e w1 ⟨rfl, hb⟩; have HG := Aside0.mk (grown_of_below hb (some g)); have n_ := Aside0.mk (blk_below BK.out hb); clear BK; have BK := n_; clear n_ hb)
    go_ret
    exact ⟨by rw [E0.out]; rfl, cs, BK.out, rfl, by rw [E0.out]; exact HCS.out, HG.out⟩
  obtain ⟨hi0, hpi, hbefore⟩ := List.findIdx?_eq_some_iff_getElem.1 hd
  have hi : idxP p L = i0 := by unfold idxP; rw [hd]
  have K0 : keptF p L (i0 + 1) = L.take i0 := by
    rw [keptF_succ hi0, if_pos hpi]
    unfold keptF
    refine List.filter_eq_self.2 fun x hx => ?_
    obtain ⟨j, hj, rfl⟩ := List.getElem_of_mem hx
    have hj' : j < i0 := by rw [List.length_take] at hj; omega
    rw [List.getElem_take]
    have := hbefore j hj'
    simpa using this
  have K0L : (keptF p L (i0 + 1)).length = i0 := by rw [K0, List.length_take]; omega
  have S0 : Aside0 ((keptF p L (i0 + 1) ++ L.drop (keptF p L (i0 + 1)).length) = L) := ⟨by rw [K0L, K0, List.take_append_drop]⟩
  have K0A := Aside0.mk K0L
  have hneg : ((i0 : Int) == -1) = false := by first | (simp; done) | (simp; omega)
  rw [hi] at WI
  clear hd hpi hbefore hi K0 K0L
  obtain ⟨inf, hinf, hinz⟩ := Option.map_eq_some_iff.1 fndinfo
  simp only [Prod.mk.injEq] at hinz
  have hcf : ∀ (m : Nat), m < L.length → ∀ W : World, (Instr.slice 69 (.slice (some ⟨g, 0, none⟩) L.length c) (some (.int .i64 m)) none none).run Try.prog W = .ok (.slice (some ⟨g, m * 4, none⟩) (L.length - m) (c - m)) W := fun m hm W => by
    have h := cut_from (P := Try.prog) 69 68 .i64 Try.underlying69 hinf 4 hinz.2.1 (some ⟨g, 0, none⟩) L.length c (m : Int) (by omega) (by omega) W
    rw [Int.toNat_natCast, if_neg (by omega)] at h
    rw [h, Option.map_some, add_plain]
  have hct : ∀ (m : Nat), m ≤ L.length → ∀ W : World, (Instr.slice 69 (.slice (some ⟨g, 0, none⟩) L.length c) none (some (.int .i64 m)) none).run Try.prog W = .ok (.slice (some ⟨g, 0, none⟩) m c) W := fun m hm W => by
    have h := cut_to (P := Try.prog) 69 68 .i64 Try.underlying69 hinf (some ⟨g, 0, none⟩) L.length c (m : Int) (by omega) (by omega) hc W
    rw [Int.toNat_natCast] at h
    exact h
  have HCF := Aside0.mk hcf
  have HCT := Aside0.mk hct
  clear hcf hct hinf hinz
  go_enter Try.func85, Try.ntmps85
  go_wp2_with (go_at_call 88; (with_reducible refine WI.out.mono ?_); rintro e w1 ⟨rfl, hb⟩; have HG := Aside0.mk (grown_of_below hb (some g)); have n_ := Aside0.mk (blk_below BK.out hb); clear BK; have BK := n_; clear n_ hb)
  go_loopw [5, 6] (fun v5 v6 w' => ∃ j k : Nat, ∃ cs' : Array Value, v6 = .int .i64 j ∧ v5 = .int .i64 k ∧ Aside0 (k = (keptF p L j).length) ∧ Aside0 (i0 + 1 ≤ j ∧ j ≤ L.length ∧ k < j) ∧ Aside0 (w'.heap[g]? = some (.cells cs' 68 (0, 0))) ∧ Aside0 (cs'.size = cs.size) ∧ Aside0 (cs'.toList.take (L.length * 4) = (keptF p L j ++ L.drop (keptF p L j).length).flatMap Fnd.enc) ∧ Aside0 (w.grownBy w' (some g))) (fun _ i _ => L.length - (intOf i).toNat)
  case atStart => exact ⟨i0 + 1, i0, cs, rfl, rfl, ⟨K0A.out.symm⟩, ⟨by omega, by omega, by omega⟩, BK, ⟨rfl⟩, ⟨by rw [S0.out]; exact HCS.out⟩, HG⟩
  case round =>
    clear BK HG
    obtain ⟨j, k, cs1, rfl, rfl, hk, hj, BK, HS1, HC1, HG⟩ := hrel
    have hj1 := hj.out.1
    have hj2 := hj.out.2.1
    have hj3 := hj.out.2.2
    by_cases hlt : j < L.length
    · have hgl : g < wr.heap.size := blk_lt BK.out
      have KS := keptF_succ (p := p) hlt
      have hkl : Aside0 ((keptF p L j).length ≤ j) := ⟨keptF_le p L j⟩
      obtain ⟨x, hxx⟩ : ∃ x, x = L[j] := ⟨_, rfl⟩
      have HXX := Aside0.mk hxx
      have HCE : Aside0 (∀ i u, i < 4 → (Fnd.enc x)[i]? = some u → cs1[j * 4 + i]? = some u) := ⟨fun i u hin hu => by
        have hlen : (keptF p L j ++ L.drop (keptF p L j).length).length = L.length := by
          have := hk.out
          rw [List.length_append, List.length_drop]; omega
        have hget : (keptF p L j ++ L.drop (keptF p L j).length)[j]'(by omega) = L[j] := by
          rw [List.getElem_append_right hkl.out, List.getElem_drop]
          congr 1
          have := hkl.out
          omega
        have h1 := flat_get (n := 4) (enc := Fnd.enc) (fun _ => rfl) (keptF p L j ++ L.drop (keptF p L j).length) (j := j) (i := i) (by omega) hin
        rw [← HC1.out, hget, ← HXX.out, hu, List.getElem?_take_of_lt (by omega), Array.getElem?_toList] at h1
        exact h1⟩
      rw [← hxx] at KS
      have x0 : wr.cell? ⟨g, j * 4, none⟩ = some (.int .i64 x.cl) := by rw [blk_cell BK.out]; exact HCE.out 0 _ (by omega) rfl
      have x1 : wr.cell? ⟨g, j * 4 + 1, none⟩ = some (.int .i64 x.la) := by rw [blk_cell BK.out]; exact HCE.out 1 _ (by omega) rfl
      have x2 : wr.cell? ⟨g, j * 4 + 2, none⟩ = some (.int .i64 x.ino) := by rw [blk_cell BK.out]; exact HCE.out 2 _ (by omega) rfl
      have x3 : wr.cell? ⟨g, j * 4 + 3, none⟩ = some (.int .i64 x.sl) := by rw [blk_cell BK.out]; exact HCE.out 3 _ (by omega) rfl
      have WX := Aside0.mk (fun W (h : w.grownBy W (some g)) => HP.out W x h)
      clear hxx
      cases hq : p x with
      | true =>
        rw [hq] at WX KS
        have KSA := Aside0.mk KS
        have WXA := Aside0.mk (WX.out (wr.alloc (.cells #[.int .i64 x.cl, .int .i64 x.la, .int .i64 x.ino, .int .i64 x.sl] 68)) (by have h_ := HG.out; exact ⟨h_.os, h_.tape, h_.output, Nat.le_trans h_.size (by simp), fun q hq hne => (Below.heap_alloc wr _ q (Nat.lt_of_lt_of_le hq h_.size)).trans (h_.block q hq hne)⟩))
        clear KS hq WX
        go_wp2_with (go_at_fn f; (with_reducible refine WXA.out.mono ?_); rintro e w5 ⟨rfl, hb⟩; have n_ := Aside0.mk (blk_below (blk_alloc BK.out _) hb); clear BK; have BK := n_; clear n_; have n_ : Aside0 (w.grownBy w5 (some g)) := ⟨by have h_ := HG.out; have hb2 := below_step (below_alloc (Below.refl wr.heap.size wr) _) hb; exact ⟨hb2.os.trans h_.os, hb2.tape.trans h_.tape, hb2.output.trans h_.output, Nat.le_trans h_.size hb2.size, fun q hq hne => (hb2.block q (Nat.lt_of_lt_of_le hq h_.size)).trans (h_.block q hq hne)⟩⟩; clear HG hb; have HG := n_; clear n_)
        have E1 : Aside0 (keptF p L (j + 1) = keptF p L j) := ⟨by rw [KSA.out]; simp⟩
        exact ⟨⟨j + 1, k, cs1, rfl, rfl, ⟨by rw [E1.out]; exact hk.out⟩, ⟨by omega, by omega, by omega⟩, BK, HS1, ⟨by rw [E1.out]; exact HC1.out⟩, HG⟩, by simp [intOf]; omega⟩
      | false =>
        rw [hq] at WX KS
        have KSA := Aside0.mk KS
        have WXA := Aside0.mk (WX.out (wr.alloc (.cells #[.int .i64 x.cl, .int .i64 x.la, .int .i64 x.ino, .int .i64 x.sl] 68)) (by have h_ := HG.out; exact ⟨h_.os, h_.tape, h_.output, Nat.le_trans h_.size (by simp), fun q hq hne => (Below.heap_alloc wr _ q (Nat.lt_of_lt_of_le hq h_.size)).trans (h_.block q hq hne)⟩))
        clear KS hq WX
        go_wp2_with (first | (go_at_fn f; (with_reducible refine WXA.out.mono ?_); rintro e w5 ⟨rfl, hb⟩; have n_ := Aside0.mk (blk_below (blk_alloc BK.out _) hb); clear BK; have BK := n_; clear n_; have BT := blk_below (heap_alloc_new wr _) hb; have n_ : Aside0 (w.grownBy w5 (some g)) := ⟨by have h_ := HG.out; have hb2 := below_step (below_alloc (Below.refl wr.heap.size wr) _) hb; exact ⟨hb2.os.trans h_.os, hb2.tape.trans h_.tape, hb2.output.trans h_.output, Nat.le_trans h_.size hb2.size, fun q hq hne => (hb2.block q (Nat.lt_of_lt_of_le hq h_.size)).trans (h_.block q hq hne)⟩⟩; clear HG hb; have HG := n_; clear n_; have t0 : w5.cell? ⟨wr.heap.size, 0, none⟩ = some (.int .i64 x.cl) := (blk_cell BT 0).trans rfl; have t1 : w5.cell? ⟨wr.heap.size, 1, none⟩ = some (.int .i64 x.la) := (blk_cell BT 1).trans rfl; have t2 : w5.cell? ⟨wr.heap.size, 2, none⟩ = some (.int .i64 x.ino) := (blk_cell BT 2).trans rfl; have t3 : w5.cell? ⟨wr.heap.size, 3, none⟩ = some (.int .i64 x.sl) := (blk_cell BT 3).trans rfl; clear BT) | ((with_reducible refine gate_store (p := 33) rfl ?_); go_loud (refine wpList_store_midL rfl rfl 68 (.tmp 33) (.tmp 32) rfl g (k * 4) (Fnd.enc x) rfl rfl (by kernel_rfl) Fnd.one' BK.out (show k * 4 + 4 ≤ cs1.size by have := HSZ.out; have := HS1.out; omega) ?_; intro w9 cs9 bk9 hs9 hc9 hg9)))
        have E1 : Aside0 (keptF p L (j + 1) = keptF p L j ++ [x]) := ⟨by rw [KSA.out]; simp⟩
        have hC9 : cs9.toList.take (L.length * 4) = (keptF p L (j + 1) ++ L.drop (keptF p L (j + 1)).length).flatMap Fnd.enc := by
          have hl9 := lay_take (vs := Fnd.enc x) HC1.out (show k * 4 + 4 ≤ L.length * 4 by omega) (by have h1_ := HSZ.out; have h2_ := HS1.out; have h3_ := Array.length_toList (xs := cs1); omega)
          have e1 : (Fnd.enc x).length = 4 := rfl
          rw [hc9]
          rw [hl9, e1, show k * 4 + 4 = (k + 1) * 4 by omega, flat_take (n := 4) (enc := Fnd.enc) (fun _ => rfl), flat_drop (n := 4) (enc := Fnd.enc) (fun _ => rfl), E1.out]
          have hkk := hk.out
          rw [List.take_append_of_le_length (by omega), List.take_of_length_le (by omega), List.drop_append, List.drop_eq_nil_of_le (by omega), List.nil_append, List.drop_drop]
          simp only [List.flatMap_append, List.flatMap_cons, List.flatMap_nil, List.append_nil, List.length_append, List.length_cons, List.length_nil]
          congr 3
          omega
        exact ⟨⟨j + 1, k + 1, cs9, rfl, rfl, ⟨by rw [E1.out, List.length_append, ← hk.out]; rfl⟩, ⟨by omega, by omega, by omega⟩, ⟨bk9⟩, ⟨by rw [hs9]; exact HS1.out⟩, ⟨hC9⟩, ⟨by have h_ := HG.out; exact ⟨hg9.os.trans h_.os, hg9.tape.trans h_.tape, hg9.output.trans h_.output, Nat.le_trans h_.size hg9.size, fun q hq hne => (hg9.block q (Nat.lt_of_lt_of_le hq h_.size) hne).trans (h_.block q hq hne)⟩⟩⟩, by simp [intOf]; omega⟩
    · have hge : L.length ≤ j := by omega
      have EK : Aside0 (L.filter (fun x => !p x) = keptF p L j) := ⟨by unfold keptF; rw [List.take_of_length_le hge]⟩
      have h1 := HCF.out k (by omega)
      have h2 := HCT.out k (by omega)
      clear hlt
      go_wp2_with ((with_reducible refine gate_builtin (b := .clear) (xs := #[.tmp 38]) rfl ?_); go_loud (refine wpList_clearL rfl rfl 69 68 (.tmp 38) rfl Try.underlying69 (z := .agg #[.int .i64 0, .int .i64 0, .int .i64 0, .int .i64 0]) (sz := 4) (by kernel_rfl) rfl (by simp [Value.cells, Value.oneCell']) (by omega) g (k * 4) (L.length - k) (c - k) rfl BK.out (by have := HSZ.out; have := HS1.out; omega) ?_; intro w9 cs9 bk9 hs9 ht9 hd9 hz9 hg9))
      go_ret
      refine ⟨by rw [EK.out, ← hk.out]; rfl, cs9, bk9, hs9.trans HS1.out, ?_, ?_⟩
      · rw [EK.out, ← hk.out, ht9]
        have e2 := congrArg (List.take (k * 4)) HC1.out
        rw [List.take_take, Nat.min_eq_left (by omega), flat_take (n := 4) (enc := Fnd.enc) (fun _ => rfl), List.take_append_of_le_length (by rw [← hk.out]; omega)] at e2
        rw [e2, List.take_of_length_le (l := keptF p L j) (by rw [← hk.out]; omega)]
      · have h_ := HG.out; exact ⟨hg9.os.trans h_.os, hg9.tape.trans h_.tape, hg9.output.trans h_.output, Nat.le_trans h_.size hg9.size, fun q hq hne => (hg9.block q (Nat.lt_of_lt_of_le hq h_.size) hne).trans (h_.block q hq hne)⟩
end Go.Proofs.Ytfbcnmjahpbbeaa.K
