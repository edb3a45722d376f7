/- Walks and plain laws of this claim, merged: K27g, K27h, K40, K40b, K40c, K40d, K40e. -/
import Derived.Test.YtdkbhbolkieeiaaK27f
import Derived.Test.YtdkbhbolkieeiaaCA
import Derived.Test.YtdkbhbolkieeiaaCB
import Derived.Test.YtdkbhbolkieeiaaCC
namespace Go.Proofs.Ytdkbhbolkieeiaa.K
open Go.RowKit Go.Proofs.YtdkbhbolkieeiaaW.PrintWords Go.Proofs.YtdkbhbolkieeiaaW.PrintLast Go.Proofs.YtdkbhbolkieeiaaW.PrintMore
set_option linter.unusedVariables false
set_option linter.unusedSimpArgs false
def prefB (a b : List Int) : Bool := decide (b.length ≤ a.length) && decide (a.take b.length = b)
set_option maxRecDepth 100000 in
theorem pref_walk (A1 : Option Addr) (c1 : Nat) (a : List Int) (A2 : Option Addr) (c2 : Nat) (b : List Int) (w : World) (h1 : Kd.C (Kd.int .u8) w A1 a.length a) (h2 : Kd.C (Kd.int .u8) w A2 b.length b) (hc : a.length ≤ c1) (ha : Byts a) (hb : Byts b) :
    Calls Try.prog 74 #[.slice A1 a.length c1, .slice A2 b.length c2] w fun e w' => e = .returned (.bool (prefB a b)) ∧ w' = w := by
  obtain ⟨n, hn⟩ : ∃ n, n = a.length := ⟨_, rfl⟩
  obtain ⟨m, hm⟩ : ∃ m, m = b.length := ⟨_, rfl⟩
  by_cases hlt : b.length ≤ a.length
  case neg =>
    have E0 : Aside0 (prefB a b = false) := ⟨by simp [prefB, hlt]⟩
    rw [← hn, ← hm]
    have hlt' : ¬ ((m : Int) ≤ (n : Int)) := by omega
    clear h1 h2 hn hm hlt ha hb
    go_enter Try.func74, Try.ntmps74
    go_wp2
    go_ret
    exact ⟨by rw [E0.out]; rfl, rfl⟩
  have hle : (m : Int) ≤ (n : Int) := by omega
  have hnc : n ≤ c1 := by omega
  have WE : Aside0 (Calls Try.prog 28 #[.slice A1 m c1, .slice A2 m c2] w fun e w' => e = .returned (.bool (prefB a b)) ∧ w' = w) := ⟨by
    have hl : (a.take b.length).length = b.length := by rw [List.length_take]; omega
    have h3 : Kd.C (Kd.int .u8) w A1 (a.take b.length).length (a.take b.length) := by rw [hl]; exact (by have := Kd.C_take h1 hlt; rwa [hl] at this)
    have := bEq_same A1 c1 (a.take b.length) A2 c2 b w h3 h2 (ha.take _) hb
    rw [hl, ← hm] at this
    have e : prefB a b = decide (a.take m = b) := by rw [hm]; simp [prefB, hlt]
    rw [e]; exact this⟩
  obtain ⟨R, hR⟩ : ∃ R, R = prefB a b := ⟨_, rfl⟩
  rw [← hR] at WE
  rw [← hn, ← hm, ← hR]
  clear h1 h2 hn hm hlt ha hb hR
  go_enter Try.func74, Try.ntmps74
  go_wp2_with (go_at_call 28; (with_reducible refine WE.out.mono ?_); rintro e w' ⟨rfl, h_⟩; have h_ := h_.symm; subst h_)
  go_ret
  exact ⟨rfl, rfl⟩
abbrev PW := Int × List Int
def rightP (a b c d : Int) (l : List PW) : Bool := decide (l.length ≠ 0 ∧ (l.length : Int) ≤ capJ a b c d) && !l.any (fun x => !decide (x.2.length = 64) || !geoUp a b c d x.1)
theorem turnP {W : World} {A : Option Addr} {n : Nat} {l : List PW} (h : Kd.C kWP W A n l) : ∃ ys, Kd.C kWr W A n ys ∧ ys.map wrP = l := by
  refine C_turn (d' := kWr) wrP rfl (fun w x cs hk => ?_) h
  obtain ⟨c0, c1, rfl, e0, A1, k1, e1, hl, hC⟩ := hk
  have e0' : c0 = [.int .i64 x.1] := e0
  subst e0' e1
  exact ⟨⟨x.1, ⟨A1, k1, x.2⟩⟩, ⟨rfl, hC, hl⟩, rfl⟩
theorem rightP_walk (a b c d : Int) (A : Option Addr) (k : Nat) (l : List PW) (w : World) (hr : Kd.C kWP w A l.length l) (hl : l.length ≤ 9223372036854775807) :
    Calls Try.prog 26 #[.agg #[.int .i64 a, .int .i64 b, .int .i64 c, .int .i64 d], .slice A l.length k] w fun e w' => e = .returned (.bool (rightP a b c d l)) ∧ Below w.heap.size w w' := by
  obtain ⟨ys, hC, hm⟩ := turnP hr
  have hl2 : l.length = ys.length := by rw [← hm, List.length_map]
  have hw := jRight_walk a b c d (capJ a b c d) (geoUp a b c d) A k ys w (by rw [← hl2]; exact hC) (by omega) (fun x _ W => geoUp_walk a b c d x.at_ W) (fun W => capJ_walk a b c d W)
  rw [← hl2] at hw
  have e : rightW (capJ a b c d) (geoUp a b c d) ys = rightP a b c d l := by
    unfold rightW rightP
    rw [← hm, List.any_map, List.length_map]
    rfl
  rw [e] at hw
  exact hw
theorem headP_walk (A : Option Addr) (k : Nat) (l : List PW) (w : World) (hr : Kd.C kWP w A l.length l) (hl : l.length ≤ 1000000) (hb : ∀ x ∈ l, Byts x.2) :
    Calls Try.prog 33 #[.slice A l.length k] w fun e w' => ∃ v : Value, e = .returned v ∧ Kd.R (Kd.int .u8) 5 w' w.heap.size (fun _ => True) v (headN l) ∧ Below w.heap.size w w' := by
  obtain ⟨ys, hC, hm⟩ := turnP hr
  have hl2 : l.length = ys.length := by rw [← hm, List.length_map]
  have hw := head_walk A k ys w (by rw [← hl2]; exact hC) (by omega) (fun x hx => hb (wrP x) (by rw [← hm]; exact List.mem_map.2 ⟨x, hx, rfl⟩))
  rw [← hl2, hm] at hw
  exact hw
theorem recsP_walk (A : Option Addr) (k : Nat) (l : List PW) (w : World) (hr : Kd.C kWP w A l.length l) (hl : l.length ≤ 1000000) :
    Calls Try.prog 31 #[.slice A l.length k] w fun e w' => ∃ v : Value, e = .returned v ∧ Kd.R (Kd.int .u8) 5 w' w.heap.size (fun _ => True) v (recsN l) ∧ Below w.heap.size w w' := by
  obtain ⟨ys, hC, hm⟩ := turnP hr
  have hl2 : l.length = ys.length := by rw [← hm, List.length_map]
  have hw := records_walk A k ys w (by rw [← hl2]; exact hC) (by omega)
  rw [← hl2, hm] at hw
  exact hw
end Go.Proofs.Ytdkbhbolkieeiaa.K
namespace Go.Proofs.Ytdkbhbolkieeiaa.K
open Go.RowKit Go.Proofs.YtdkbhbolkieeiaaW.PrintWords Go.Proofs.YtdkbhbolkieeiaaW.PrintLast Go.Proofs.YtdkbhbolkieeiaaW.PrintMore
set_option linter.unusedVariables false
set_option linter.unusedSimpArgs false
def logN (l : List Int) : Nat := (geoL (geoG l).1.1 (geoG l).1.2.1 (geoG l).1.2.2.1 (geoG l).1.2.2.2).toNat
def capL (l : List Int) : Int := capJ (geoG l).1.1 (geoG l).1.2.1 (geoG l).1.2.2.1 (geoG l).1.2.2.2
def headL (l : List Int) : List Int := (l.drop (64 * logN l)).take 64
def restL (l : List Int) : List Int := l.drop (64 * (logN l + 1))
def manyL (l : List Int) : Int := (numG (headL l) 5 2).1
def wsL (l : List Int) : List PW := readN (restL l) (manyL l).toNat
def fitL (l : List Int) : Bool := rightP (geoG l).1.1 (geoG l).1.2.1 (geoG l).1.2.2.1 (geoG l).1.2.2.2 (wsL l) && (decide (headL l = headN (wsL l)) && prefB (restL l) (recsN (wsL l)))
def readJ (l : List Int) : List PW × Bool := if (geoG l).2 = 0 ∧ manyL l ≠ 0 ∧ manyL l ≤ capL l ∧ fitL l = true then (wsL l, true) else ([], false)
theorem cutA (ad : Addr) (n c m : Nat) (hm : m ≤ n) (hc : n < c ∨ m < c) (j : Int) (hj : j = m) (W : World) : (Instr.slice 44 (.slice (some ad) n c) (some (.int .i64 j)) none none).run Try.prog W = .ok (.slice (some (ad.add m)) (n - m) (c - m)) W := by
  subst hj
  obtain ⟨i0, hi0, hz0⟩ := Option.map_eq_some_iff.1 u8info
  have := cut_from (P := Try.prog) 44 5 .i64 Try.underlying44 hi0 1 (by simpa using congrArg (fun x => x.2.1) hz0) (some ad) n c (m : Int) (by omega) (by omega) W
  rw [this]
  have e : (m : Int).toNat = m := by omega
  rw [e, if_neg (by omega)]
  simp
theorem cutB (ad : Addr) (n c : Nat) (hm : 64 ≤ n) (hc : n ≤ c) (W : World) : (Instr.slice 44 (.slice (some ad) n c) none (some (.int .i64 64)) none).run Try.prog W = .ok (.slice (some ad) 64 c) W := by
  obtain ⟨i0, hi0, hz0⟩ := Option.map_eq_some_iff.1 u8info
  exact cut_to (P := Try.prog) 44 5 .i64 Try.underlying44 hi0 (some ad) n c 64 (by omega) (by omega) hc W
theorem logFacts {l : List Int} (hok : (geoG l).2 = 0) : ∃ (a b d h : Int) (L : Nat), geoG l = ((a, b, d, h), 0) ∧ geoOk a b d h = true ∧ geoL a b d h = L ∧ L = logN l ∧ (l.length : Int) = 64 * (L + h) ∧ 1 ≤ h ∧ h ≤ 64 ∧ L ≤ 1000 := by
  have hgok : geoGok l = true := by
    cases hg : geoGok l with
    | true => rfl
    | false => unfold geoG at hok; rw [if_neg (by rw [hg]; decide)] at hok; exact absurd hok (by decide)
  obtain ⟨h64, hgo, hl1⟩ : 64 ≤ l.length ∧ geoOk (byN l 5) (byN l 6) (byN l 7) (byN l 8) = true ∧ (l.length : Int) = 64 * geoT (byN l 5) (byN l 6) (byN l 7) (byN l 8) := by
    unfold geoGok at hgok
    simp only [Bool.and_eq_true, decide_eq_true_eq] at hgok
    exact ⟨hgok.1, hgok.2.1, hgok.2.2.2⟩
  have hG : geoG l = ((byN l 5, byN l 6, byN l 7, byN l 8), 0) := by unfold geoG; rw [if_pos hgok]
  have hp := geoOk_parts hgo
  refine ⟨_, _, _, _, logN l, hG, hgo, ?_, rfl, ?_⟩
  · unfold logN
    rw [hG]
    generalize byN l 5 = a at *
    generalize byN l 6 = b at *
    generalize byN l 7 = d at *
    generalize byN l 8 = h at *
    have h2 : 0 ≤ (a + 1) * (1 + b + d) := Int.mul_nonneg (by omega) (by omega)
    simp only
    unfold geoL
    rw [if_pos hgo]
    omega
  · unfold logN
    rw [hG]
    generalize byN l 5 = a at *
    generalize byN l 6 = b at *
    generalize byN l 7 = d at *
    generalize byN l 8 = h at *
    simp only
    have h1 : (a + 1) * (1 + b + d) ≤ 4 * (1 + b + d) := Int.mul_le_mul_of_nonneg_right (by omega) (by omega)
    have h2 : 0 ≤ (a + 1) * (1 + b + d) := Int.mul_nonneg (by omega) (by omega)
    rw [hl1]
    unfold geoT geoL
    rw [if_pos hgo, if_pos hgo]
    generalize (a + 1) * (1 + b + d) = q at *
    omega
theorem len_ok {n L : Nat} {h : Int} (e : (n : Int) = 64 * (L + h)) (h1 : 1 ≤ h) : 64 * L + 64 ≤ n := by omega
theorem wrapsL {L : Nat} (h : L ≤ 1000) : RowKit.wrap64 (64 * (L : Int)) = 64 * (L : Int) ∧ RowKit.wrap64 ((L : Int) + 1) = (L : Int) + 1 ∧ RowKit.wrap64 (64 * ((L : Int) + 1)) = 64 * ((L : Int) + 1) := by
  unfold RowKit.wrap64; omega
theorem cutsL (ad : Addr) (n c L : Nat) (h : 64 * L + 64 ≤ n) (hc : n ≤ c) : (∀ W : World, (Instr.slice 44 (.slice (some ad) n c) (some (.int .i64 (64 * (L : Int)))) none none).run Try.prog W = .ok (.slice (some (ad.add (64 * L))) (n - 64 * L) (c - 64 * L)) W) ∧
    (∀ W : World, (Instr.slice 44 (.slice (some ad) n c) (some (.int .i64 (64 * ((L : Int) + 1)))) none none).run Try.prog W = .ok (.slice (if c = 64 * (L + 1) then some ad else some (ad.add (64 * (L + 1)))) (n - 64 * (L + 1)) (c - 64 * (L + 1))) W) ∧
    (∀ W : World, (Instr.slice 44 (.slice (some (ad.add (64 * L))) (n - 64 * L) (c - 64 * L)) none (some (.int .i64 64)) none).run Try.prog W = .ok (.slice (some (ad.add (64 * L))) 64 (c - 64 * L)) W) := by
  refine ⟨fun W => cutA ad n c (64 * L) (by omega) (by omega) _ (by omega) W, fun W => ?_, fun W => cutB _ _ _ (by omega) (by omega) W⟩
  obtain ⟨i0, hi0, hz0⟩ := Option.map_eq_some_iff.1 u8info
  have := cut_from (P := Try.prog) 44 5 .i64 Try.underlying44 hi0 1 (by simpa using congrArg (fun x => x.2.1) hz0) (some ad) n c (64 * ((L : Int) + 1)) (by omega) (by omega) W
  rw [this]
  have e : (64 * ((L : Int) + 1)).toNat = 64 * (L + 1) := by omega
  rw [e]
  simp
theorem splitL (ad : Addr) (l : List Int) (n c L : Nat) (hn : n = l.length) (h : 64 * L + 64 ≤ n) (hc : n ≤ c) (hL : L = logN l) : ∃ (A1 Ar : Option Addr) (n1 k cA cB : Nat),
    (∀ W : World, (Instr.slice 44 (.slice (some ad) n c) (some (.int .i64 (64 * (L : Int)))) none none).run Try.prog W = .ok (.slice A1 n1 cA) W) ∧
    (∀ W : World, (Instr.slice 44 (.slice (some ad) n c) (some (.int .i64 (64 * ((L : Int) + 1)))) none none).run Try.prog W = .ok (.slice Ar k cB) W) ∧
    (∀ W : World, (Instr.slice 44 (.slice A1 n1 cA) none (some (.int .i64 64)) none).run Try.prog W = .ok (.slice A1 64 cA) W) ∧
    (∀ W : World, Kd.C (Kd.int .u8) W (some ad) l.length l → Kd.C (Kd.int .u8) W A1 (headL l).length (headL l) ∧ Kd.C (Kd.int .u8) W Ar (restL l).length (restL l)) ∧ (headL l).length = 64 ∧ (restL l).length = k ∧ 64 ≤ cA ∧ k ≤ cB ∧ k + 64 * (L + 1) = n := by
  obtain ⟨h1, h2, h3⟩ := cutsL ad n c L h hc
  have e1 : (headL l).length = 64 := by unfold headL; rw [← hL, List.length_take, List.length_drop]; omega
  have e2 : (restL l).length = n - 64 * (L + 1) := by unfold restL; rw [← hL, List.length_drop]; omega
  refine ⟨_, _, _, _, _, _, h1, h2, h3, fun W hC => ⟨?_, ?_⟩, e1, e2, by omega, by omega, by omega⟩
  · have h4 := Kd.C_mid (c := c) (lo := 64 * L) (hi := 64 * L + 64) hC (by omega) (by omega) (by omega)
    rw [if_neg (by omega)] at h4
    have e : (l.take (64 * L + 64)).drop (64 * L) = headL l := by unfold headL; rw [← hL, List.take_drop, Nat.add_comm]
    have e3 : (some ad).map (·.add (64 * L * (Kd.int .u8).sz)) = some (ad.add (64 * L)) := by show some (ad.add (64 * L * 1)) = _; rw [Nat.mul_one]
    rw [e, e3] at h4
    exact h4
  · have h4 := Kd.C_drop (c := c) (m := 64 * (L + 1)) hC (by omega) (by omega)
    have e : l.drop (64 * (L + 1)) = restL l := by unfold restL; rw [← hL]
    have e3 : (some ad).map (·.add (64 * (L + 1) * (Kd.int .u8).sz)) = some (ad.add (64 * (L + 1))) := by show some (ad.add (64 * (L + 1) * 1)) = _; rw [Nat.mul_one]
    rw [e, e3] at h4
    exact h4
theorem fits_len {m cap h : Int} {k L : Nat} (hm0 : 0 ≤ m) (hne : m ≠ 0) (hle : m ≤ cap) (hcap : cap = (h - 1) / 2) (h64 : h ≤ 64) {n : Nat} (hk : k + 64 * (L + 1) = n) (hn : (n : Int) = 64 * (L + h)) : 1 ≤ m.toNat ∧ m.toNat ≤ 1000 ∧ 128 * m.toNat ≤ k ∧ ((m.toNat : Nat) : Int) = m ∧ 0 < k := by
  omega
theorem readN_byts {l : List Int} (h : Byts l) (n : Nat) : ∀ x ∈ readN l n, Byts x.2 := fun x hx => by
  unfold readN at hx
  obtain ⟨j, _, rfl⟩ := List.mem_map.1 hx
  exact ((h.drop _).take _).drop _
theorem readN_length (l : List Int) (n : Nat) : (readN l n).length = n := by unfold readN; simp
theorem numG_nonneg {l : List Int} (h : Byts l) (i s : Int) : 0 ≤ (numG l i s).1 := by
  unfold numG
  split
  · exact (leN_bound _ ((h.drop _).take _)).1
  · exact Int.le_refl _
set_option maxHeartbeats 4000000 in
set_option maxRecDepth 100000 in
theorem jRead_walk (A : Option Addr) (c : Nat) (l : List Int) (w : World) (hr : Kd.C (Kd.int .u8) w A l.length l) (hc : l.length ≤ c) (hl : l.length < 140737488355320) (hb : Byts l) :
    Calls Try.prog 35 #[.slice A l.length c] w fun e w' => ∃ v : Value, e = .returned (.tuple #[v, .bool (readJ l).2]) ∧ Kd.R kWP 82 w' w.heap.size (fun _ => True) v (readJ l).1 ∧ Below w.heap.size w w' := by
  have HR := Aside0.mk hr
  have HY := Aside0.mk hb
  have HC := Aside0.mk hc
  have HL := Aside0.mk hl
  have ER : Aside0 (readJ l = if (geoG l).2 = 0 ∧ manyL l ≠ 0 ∧ manyL l ≤ capL l ∧ fitL l = true then (wsL l, true) else ([], false)) := ⟨rfl⟩
  obtain ⟨R, hR⟩ : ∃ R, R = readJ l := ⟨_, rfl⟩
  rw [← hR] at ER
  rw [← hR]
  clear hR
  have WG := Aside0.mk (geoGet_walk A c l w hr hc hl hb)
  have HB := Aside0.mk (Below.refl w.heap.size w)
  by_cases hok : (geoG l).2 = 0
  case neg =>
    have E0 : Aside0 (R = ([], false)) := ⟨by rw [ER.out, if_neg (fun h => hok h.1)]⟩
    have e2 : geoG l = ((0, 0, 0, 0), 2) := by
      unfold geoG at hok ⊢
      split
      · rename_i h; rw [if_pos h] at hok; exact absurd rfl hok
      · rfl
    rw [e2] at WG
    simp only at WG
    clear hr hb hc hl hok e2 ER
    go_enter Try.func35, Try.ntmps35
    go_wp2_with (first | (go_at_call 38; (with_reducible refine WG.out.mono ?_); rintro e w2 ⟨rfl, hb⟩; have n1_ : Aside0 (Below w.heap.size w w2) := ⟨below_step (by repeat (first | (with_reducible first | exact HB.out | apply below_alloc | apply pw_below_drewN | apply below_drew1) | exact HB.out)) hb⟩; clear HB; have HB := n1_; clear n1_; clear hb WG) | ((with_reducible refine gate_store (p := 4) rfl ?_); go_loud (refine wpList_store_newL (w0 := w2) rfl rfl 38 (.tmp 4) (.tmp 14) rfl #[.int .i64 0, .int .i64 0, .int .i64 0, .int .i64 0] 38 #[.int .i64 0, .int .i64 0, .int .i64 0, .int .i64 0] rfl (by rfl) (by rfl) (by kernel_rfl) rfl (by simp [Value.oneCell']) ?_; intro w3 bk_ hb; have BK3 := Aside0.mk bk_; clear bk_; have n1_ : Aside0 (Below w.heap.size w w3) := ⟨below_step (by repeat (first | (with_reducible first | exact HB.out | apply below_alloc | apply pw_below_drewN | apply below_drew1) | exact HB.out)) hb⟩; clear HB; have HB := n1_; clear n1_; clear hb)))
    go_ret2
    exact ⟨.slice none 0 0, by rw [E0.out]; rfl, by rw [E0.out]; exact Kd.R_nil _ _ _ _ _, HB.out⟩
  obtain ⟨a, b, d, h, L, hG, hgo, hL1, hL2, hlen, h1, h64, hLs⟩ := logFacts hok
  have hlen2 : 64 * L + 64 ≤ l.length := len_ok hlen h1
  have WL : Aside0 (∀ W, Calls Try.prog 71 #[.agg #[.int .i64 a, .int .i64 b, .int .i64 d, .int .i64 h]] W fun e w' => e = .returned (.int .i64 (L : Int)) ∧ Below W.heap.size W w') := ⟨fun W => by rw [← hL1]; exact geoLog_walk a b d h W⟩
  obtain ⟨hw1, hw2, hw3⟩ := wrapsL hLs
  obtain ⟨ad, hA⟩ : ∃ ad, A = some ad := by
    obtain ⟨ad, hA, _⟩ := hr.2.2 (Nat.lt_of_lt_of_le (Nat.succ_pos 63) (Nat.le_trans (Nat.le_add_left 64 (64 * L)) hlen2))
    exact ⟨ad, hA⟩
  subst hA
  obtain ⟨n, hn⟩ : ∃ n, n = l.length := ⟨_, rfl⟩
  rw [← hn] at hlen2 hc
  obtain ⟨A1, Ar, n1, k, cA, cB, hcut1, hcut2, hcut3, hrds, hhl, hrl, hcA, hcB, hkn⟩ := splitL ad l n c L hn hlen2 hc hL2
  have HRD := Aside0.mk (hrds w hr)
  have hbh : Byts (headL l) := (hb.drop _).take _
  have hbr : Byts (restL l) := hb.drop _
  have hm0 : 0 ≤ manyL l := numG_nonneg hbh _ _
  rw [hG] at WG
  simp only at WG
  have HG := Aside0.mk hG
  have HGO := Aside0.mk hgo
  have HL2 := Aside0.mk hL2
  have HLEN := Aside0.mk hlen
  have HH := Aside0.mk (And.intro h1 h64)
  have HN := Aside0.mk hn
  have HLS := Aside0.mk hLs
  have HL12 := Aside0.mk hlen2
  rw [← hn] at WG
  rw [← hn]
  have WN : Aside0 (∀ W, Below w.heap.size w W → Calls Try.prog 72 #[.slice A1 64 cA, .int .i64 5, .int .i64 2] W fun e w' => e = .returned (.tuple #[.int .i64 (manyL l), .bool (numG (headL l) 5 2).2]) ∧ Drawn0 W w') := ⟨fun W hB => by
    have := numG_walk A1 cA (headL l) 5 2 W (Kd.C_below (hrds w hr).1 hB) (by omega) (by omega) hbh
    rw [hhl] at this
    exact this⟩
  have EC : Aside0 (capL l = capJ a b d h) := ⟨by unfold capL; rw [hG]⟩
  have WK : Aside0 (∀ W, Calls Try.prog 24 #[.agg #[.int .i64 a, .int .i64 b, .int .i64 d, .int .i64 h]] W fun e w' => e = .returned (.int .i64 (capL l)) ∧ Below W.heap.size W w') := ⟨fun W => by rw [EC.out]; exact capJ_walk a b d h W⟩
  have EF : Aside0 (fitL l = (rightP a b d h (wsL l) && (decide (headL l = headN (wsL l)) && prefB (restL l) (recsN (wsL l))))) := ⟨by unfold fitL; rw [hG]⟩
  have HFL : Aside0 (manyL l ≠ 0 → manyL l ≤ capL l → 1 ≤ (manyL l).toNat ∧ (manyL l).toNat ≤ 1000 ∧ 128 * (manyL l).toNat ≤ k ∧ (((manyL l).toNat : Nat) : Int) = manyL l ∧ 0 < k) := ⟨fun h0 h2 => fits_len hm0 h0 h2 (by rw [EC.out]; unfold capJ; rw [if_pos hgo]) h64 hkn (by rw [hn]; exact hlen)⟩
  have WRD : Aside0 (manyL l ≠ 0 → manyL l ≤ capL l → ∀ W, Below w.heap.size w W → Calls Try.prog 73 #[.slice Ar k cB, .int .i64 (manyL l)] W fun e w' => ∃ v : Value, e = .returned v ∧ Kd.R kWP 82 w' W.heap.size (fun _ => True) v (wsL l) ∧ Below W.heap.size W w') := ⟨fun h0 h2 W hB => by
    obtain ⟨f1, f2, f3, f4, f5⟩ := HFL.out h0 h2
    have hC := Kd.C_below (hrds w hr).2 hB
    obtain ⟨ax, hx, _⟩ := hC.2.2 (by rw [hrl]; exact f5)
    subst hx
    have := jread_walk ax cB (restL l) (manyL l).toNat W hC (by rw [hrl]; exact hcB) hbr f1 f2 (by rw [hrl]; exact f3)
    rw [hrl, f4] at this
    exact this⟩
  have WR : Aside0 (∀ (A : Option Addr) (c : Nat) W, Kd.C kWP W A (wsL l).length (wsL l) → Calls Try.prog 26 #[.agg #[.int .i64 a, .int .i64 b, .int .i64 d, .int .i64 h], .slice A (wsL l).length c] W fun e w' => e = .returned (.bool (rightP a b d h (wsL l))) ∧ Below W.heap.size W w') := ⟨fun A c W hC => rightP_walk a b d h A c (wsL l) W hC (by have := hC.2.1; omega)⟩
  have hwl : manyL l ≠ 0 → manyL l ≤ capL l → (wsL l).length ≤ 1000000 := fun h0 h2 => by
    have := (HFL.out h0 h2).2.1
    unfold wsL
    rw [readN_length]
    omega
  have hwb : ∀ x ∈ wsL l, Byts x.2 := readN_byts hbr _
  have WH : Aside0 (manyL l ≠ 0 → manyL l ≤ capL l → ∀ (A : Option Addr) (c : Nat) W, Kd.C kWP W A (wsL l).length (wsL l) → Calls Try.prog 33 #[.slice A (wsL l).length c] W fun e w' => ∃ v : Value, e = .returned v ∧ Kd.R (Kd.int .u8) 5 w' W.heap.size (fun _ => True) v (headN (wsL l)) ∧ Below W.heap.size W w') := ⟨fun h0 h2 A c W hC => headP_walk A c (wsL l) W hC (hwl h0 h2) hwb⟩
  have WC : Aside0 (manyL l ≠ 0 → manyL l ≤ capL l → ∀ (A : Option Addr) (c : Nat) W, Kd.C kWP W A (wsL l).length (wsL l) → Calls Try.prog 31 #[.slice A (wsL l).length c] W fun e w' => ∃ v : Value, e = .returned v ∧ Kd.R (Kd.int .u8) 5 w' W.heap.size (fun _ => True) v (recsN (wsL l)) ∧ Below W.heap.size W w') := ⟨fun h0 h2 A c W hC => recsP_walk A c (wsL l) W hC (hwl h0 h2)⟩
  have WE : Aside0 (∀ (A : Option Addr) (c : Nat) W, Kd.C (Kd.int .u8) W A1 (headL l).length (headL l) → Kd.C (Kd.int .u8) W A (headN (wsL l)).length (headN (wsL l)) → Calls Try.prog 28 #[.slice A1 64 cA, .slice A (headN (wsL l)).length c] W fun e w' => e = .returned (.bool (decide (headL l = headN (wsL l)))) ∧ w' = W) := ⟨fun A c W h1 h2 => by
    have := bEq_same A1 cA (headL l) A c (headN (wsL l)) W h1 h2 hbh (sealS_byts (numP_byts (numP_byts magic1_byts _ _) _ _))
    rw [hhl] at this
    exact this⟩
  have WP : Aside0 (∀ (A : Option Addr) (c : Nat) W, Kd.C (Kd.int .u8) W Ar (restL l).length (restL l) → Kd.C (Kd.int .u8) W A (recsN (wsL l)).length (recsN (wsL l)) → Calls Try.prog 74 #[.slice Ar k cB, .slice A (recsN (wsL l)).length c] W fun e w' => e = .returned (.bool (prefB (restL l) (recsN (wsL l)))) ∧ w' = W) := ⟨fun A c W h1 h2 => by
    have := pref_walk Ar cB (restL l) A c (recsN (wsL l)) W h1 h2 (by rw [hrl]; exact hcB) hbr (recsN_byts hwb)
    rw [hrl] at this
    exact this⟩
  clear hr hb hc hl hok hG hgo hL1 hL2 hlen h1 h64 hn hLs hlen2 hrds hhl hrl hcA hcB hkn hbh hbr hm0 hwl hwb
  obtain ⟨m, hmm⟩ : ∃ m, m = manyL l := ⟨_, rfl⟩
  obtain ⟨cap, hcap⟩ : ∃ m, m = capL l := ⟨_, rfl⟩
  obtain ⟨ws, hws⟩ : ∃ m, m = wsL l := ⟨_, rfl⟩
  obtain ⟨hd, hhd⟩ : ∃ m, m = headL l := ⟨_, rfl⟩
  obtain ⟨rs, hrs⟩ : ∃ m, m = restL l := ⟨_, rfl⟩
  obtain ⟨ft, hft⟩ : ∃ m, m = fitL l := ⟨_, rfl⟩
  rw [← hmm, ← hcap, ← hws, ← hft] at ER
  simp only [← hmm, ← hcap, ← hws, ← hhd, ← hrs, ← hft] at WN WK EF HFL WRD WR WH WC WE WP HRD
  have eg : (geoG l).2 = 0 := by rw [HG.out]
  rw [eg] at ER
  clear hmm hcap hws hhd hrs hft eg EC
  go_enter Try.func35, Try.ntmps35
  go_wp2_with (first | (go_at_call 38; (with_reducible refine WG.out.mono ?_); rintro e w2 ⟨rfl, hb⟩; have n1_ : Aside0 (Below w.heap.size w w2) := ⟨below_step (by repeat (first | (with_reducible first | exact HB.out | apply below_alloc | apply pw_below_drewN | apply below_drew1) | exact HB.out)) hb⟩; clear HB; have HB := n1_; clear n1_; clear hb WG) | ((with_reducible refine gate_store (p := 4) rfl ?_); go_loud (refine wpList_store_newL (w0 := w2) rfl rfl 38 (.tmp 4) (.tmp 14) rfl #[.int .i64 a, .int .i64 b, .int .i64 d, .int .i64 h] 38 #[.int .i64 0, .int .i64 0, .int .i64 0, .int .i64 0] rfl (by rfl) (by rfl) (by kernel_rfl) rfl (by simp [Value.oneCell']) ?_; intro w3 bk_ hb; have BK3 := Aside0.mk bk_; clear bk_; have n1_ : Aside0 (Below w.heap.size w w3) := ⟨below_step (by repeat (first | (with_reducible first | exact HB.out | apply below_alloc | apply pw_below_drewN | apply below_drew1) | exact HB.out)) hb⟩; clear HB; have HB := n1_; clear n1_; clear hb)))
  have HB3 := HB
  clear HB
  refine start_ (n := 14) (S := fun w' => w'.cell? ⟨w2.heap.size, 0, none⟩ = some (.int .i64 a) ∧ w'.cell? ⟨w2.heap.size, 1, none⟩ = some (.int .i64 b) ∧ w'.cell? ⟨w2.heap.size, 2, none⟩ = some (.int .i64 d) ∧ w'.cell? ⟨w2.heap.size, 3, none⟩ = some (.int .i64 h)) (ds := []) #[false, false, false, false, false, false, false, false, false, false, false, false, false, false] (by kernel_rfl) rfl rfl ⟨((blk_cell (blk_drew BK3.out) 0).trans rfl), ((blk_cell (blk_drew BK3.out) 1).trans rfl), ((blk_cell (blk_drew BK3.out) 2).trans rfl), ((blk_cell (blk_drew BK3.out) 3).trans rfl)⟩ (fun hHeld => ?_)
  refine pure_ (i := 0) (N := some 18) (v := ?_) (a' := ?_) #[true, false, false, false, false, false, false, false, false, false, false, false, false, false] rfl rfl (by kernel_rfl) (fun _ _ _ h => h) (Or.inl ⟨by rfl, ?_⟩) ?_ ?_
  rotate_left
  · intro w'
    go_simp
    with_reducible rfl
  rotate_left
  · simp only [Act.put, List.setIfInBounds_toArray, List.set_cons_zero, List.set_cons_succ, i64_w, i32_w]
    rfl
  refine pure_ (i := 6) (N := some 24) (v := ?_) (a' := ?_) #[true, false, false, false, false, false, true, false, false, false, false, false, false, false] rfl rfl (by kernel_rfl) (fun _ _ _ h => h) (Or.inl ⟨by rfl, ?_⟩) ?_ ?_
  rotate_left
  · intro w'
    go_simp
    with_reducible rfl
  rotate_left
  · simp only [Act.put, List.setIfInBounds_toArray, List.set_cons_zero, List.set_cons_succ, i64_w, i32_w]
    rfl
  refine take_ (i := 1) (N := some 19) (v := ?_) (a' := ?_) #[true, true, false, false, false, false, true, false, false, false, false, false, false, false] rfl rfl (by kernel_rfl) (fun _ _ _ h => h) (Or.inl ⟨by rfl, ?_⟩) hHeld ?_ ?_
  rotate_left
  · rintro w' ⟨s0, s1, s2, s3⟩
    go_simp
    with_reducible rfl
  rotate_left
  · simp only [Act.put, List.setIfInBounds_toArray, List.set_cons_zero, List.set_cons_succ, i64_w, i32_w]
    rfl
  refine take_ (i := 7) (N := some 25) (v := ?_) (a' := ?_) #[true, true, false, false, false, false, true, true, false, false, false, false, false, false] rfl rfl (by kernel_rfl) (fun _ _ _ h => h) (Or.inl ⟨by rfl, ?_⟩) hHeld ?_ ?_
  rotate_left
  · rintro w' ⟨s0, s1, s2, s3⟩
    go_simp
    with_reducible rfl
  rotate_left
  · simp only [Act.put, List.setIfInBounds_toArray, List.set_cons_zero, List.set_cons_succ, i64_w, i32_w]
    rfl
  refine one_ (i := 2) (N := some 20) #[true, true, true, false, false, false, true, true, false, false, false, false, false, false] rfl rfl (by kernel_rfl) (by decide) (fun K hK => ?_)
  clear hHeld
  refine goes_ Try.func71 (by kernel_rfl) rfl #[.agg #[.int .i64 a, .int .i64 b, .int .i64 d, .int .i64 h]] (by rfl) rfl rfl (by simp only [List.map_toArray, List.map_cons, List.map_nil]; rfl) ?_
  with_reducible refine (WL.out _).mono ?_
  rintro e w4 ⟨rfl, hb4⟩
  refine ⟨_, rfl, ?_⟩
  have BK4 := Aside0.mk (blk_below (blk_drew BK3.out) hb4)
  have HB4 := Aside0.mk (below_step (below_drew1 HB3.out) hb4)
  clear BK3 HB3
  refine hK.out _ _ ⟨((blk_cell BK4.out 0).trans rfl), ((blk_cell BK4.out 1).trans rfl), ((blk_cell BK4.out 2).trans rfl), ((blk_cell BK4.out 3).trans rfl)⟩ (fun hHeld => ?_)
  clear hK K
  refine norm_ (a' := ?_) ?_ ?_
  rotate_left
  · show Act.put _ (some 20) _ = _
    simp only [Act.put, List.setIfInBounds_toArray, List.set_cons_zero, List.set_cons_succ, i64_w, i32_w]
    rfl
  refine pure_ (i := 3) (N := some 21) (v := ?_) (a' := ?_) #[true, true, true, true, false, false, true, true, false, false, false, false, false, false] rfl rfl (by kernel_rfl) (fun _ _ _ h => h) (Or.inl ⟨by rfl, ?_⟩) ?_ ?_
  rotate_left
  · intro w'
    go_simp
    with_reducible rfl
  rotate_left
  · simp only [Act.put, List.setIfInBounds_toArray, List.set_cons_zero, List.set_cons_succ, i64_w, i32_w]
    rfl
  refine pure_ (i := 4) (N := some 22) (v := ?_) (a' := ?_) #[true, true, true, true, true, false, true, true, false, false, false, false, false, false] rfl rfl (by kernel_rfl) (fun _ _ _ h => h) (Or.inl ⟨by rfl, ?_⟩) ?_ ?_
  rotate_left
  · intro w'
    go_simp
    with_reducible rfl
  rotate_left
  · simp only [Act.put, List.setIfInBounds_toArray, List.set_cons_zero, List.set_cons_succ, i64_w, i32_w]
    rfl
  refine pure_ (i := 5) (N := some 23) (v := ?_) (a' := ?_) #[true, true, true, true, true, true, true, true, false, false, false, false, false, false] rfl rfl (by kernel_rfl) (fun _ _ _ h => h) (Or.inl ⟨by rfl, ?_⟩) ?_ ?_
  rotate_left
  · intro w'
    go_simp
    with_reducible rfl
  rotate_left
  · simp only [Act.put, List.setIfInBounds_toArray, List.set_cons_zero, List.set_cons_succ, i64_w, i32_w]
    rfl
  refine one_ (i := 8) (N := some 26) #[true, true, true, true, true, true, true, true, true, false, false, false, false, false] rfl rfl (by kernel_rfl) (by decide) (fun K hK => ?_)
  clear hHeld
  refine goes_ Try.func71 (by kernel_rfl) rfl #[.agg #[.int .i64 a, .int .i64 b, .int .i64 d, .int .i64 h]] (by rfl) rfl rfl (by simp only [List.map_toArray, List.map_cons, List.map_nil]; rfl) ?_
  with_reducible refine (WL.out _).mono ?_
  rintro e w5 ⟨rfl, hb5⟩
  refine ⟨_, rfl, ?_⟩
  have BK5 := Aside0.mk (blk_below BK4.out hb5)
  have HB5 := Aside0.mk (below_step HB4.out hb5)
  clear BK4 HB4
  refine hK.out _ _ ⟨((blk_cell BK5.out 0).trans rfl), ((blk_cell BK5.out 1).trans rfl), ((blk_cell BK5.out 2).trans rfl), ((blk_cell BK5.out 3).trans rfl)⟩ (fun hHeld => ?_)
  clear hK K
  refine norm_ (a' := ?_) ?_ ?_
  rotate_left
  · show Act.put _ (some 26) _ = _
    simp only [Act.put, List.setIfInBounds_toArray, List.set_cons_zero, List.set_cons_succ, i64_w, i32_w]
    rfl
  refine pure_ (i := 9) (N := some 27) (v := ?_) (a' := ?_) #[true, true, true, true, true, true, true, true, true, true, false, false, false, false] rfl rfl (by kernel_rfl) (fun _ _ _ h => h) (Or.inl ⟨by rfl, ?_⟩) ?_ ?_
  rotate_left
  · intro w'
    go_simp
    with_reducible rfl
  rotate_left
  · simp only [Act.put, List.setIfInBounds_toArray, List.set_cons_zero, List.set_cons_succ, i64_w, i32_w]
    rfl
  refine pure_ (i := 10) (N := some 28) (v := ?_) (a' := ?_) #[true, true, true, true, true, true, true, true, true, true, true, false, false, false] rfl rfl (by kernel_rfl) (fun _ _ _ h => h) (Or.inl ⟨by rfl, ?_⟩) ?_ ?_
  rotate_left
  · intro w'
    go_simp
    with_reducible rfl
  rotate_left
  · simp only [Act.put, List.setIfInBounds_toArray, List.set_cons_zero, List.set_cons_succ, i64_w, i32_w]
    rfl
  refine pure_ (i := 11) (N := some 29) (v := ?_) (a' := ?_) #[true, true, true, true, true, true, true, true, true, true, true, true, false, false] rfl rfl (by kernel_rfl) (fun _ _ _ h => h) (Or.inl ⟨by rfl, ?_⟩) ?_ ?_
  rotate_left
  · intro w'
    go_simp
    with_reducible rfl
  rotate_left
  · simp only [Act.put, List.setIfInBounds_toArray, List.set_cons_zero, List.set_cons_succ, i64_w, i32_w]
    rfl
  refine pure_ (i := 12) (N := some 6) (v := ?_) (a' := ?_) #[true, true, true, true, true, true, true, true, true, true, true, true, true, false] rfl rfl (by kernel_rfl) (fun _ _ _ h => h) (Or.inl ⟨by rfl, ?_⟩) ?_ ?_
  rotate_left
  · intro w'
    go_simp
    with_reducible rfl
  rotate_left
  · simp only [Act.put, List.setIfInBounds_toArray, List.set_cons_zero, List.set_cons_succ, i64_w, i32_w]
    rfl
  refine pure_ (i := 13) (N := some 7) (v := ?_) (a' := ?_) #[true, true, true, true, true, true, true, true, true, true, true, true, true, true] rfl rfl (by kernel_rfl) (fun _ _ _ h => h) (Or.inl ⟨by rfl, ?_⟩) ?_ ?_
  rotate_left
  · intro w'
    go_simp
    with_reducible rfl
  rotate_left
  · simp only [Act.put, List.setIfInBounds_toArray, List.set_cons_zero, List.set_cons_succ, i64_w, i32_w]
    rfl
  refine done_ (by kernel_rfl) ?_
  have HB := HB5
  clear HB5 hcut1 hcut2 hcut3 hw1 hw2 hw3 WL
  have y0 : w5.cell? ⟨w2.heap.size, 0, none⟩ = some (.int .i64 a) := (blk_cell BK5.out 0).trans rfl
  have y1 : w5.cell? ⟨w2.heap.size, 1, none⟩ = some (.int .i64 b) := (blk_cell BK5.out 1).trans rfl
  have y2 : w5.cell? ⟨w2.heap.size, 2, none⟩ = some (.int .i64 d) := (blk_cell BK5.out 2).trans rfl
  have y3 : w5.cell? ⟨w2.heap.size, 3, none⟩ = some (.int .i64 h) := (blk_cell BK5.out 3).trans rfl
  by_cases hm0 : m = 0
  · subst hm0
    have E0 : Aside0 (R = ([], false)) := ⟨by rw [ER.out, if_neg (fun h => h.2.1 rfl)]⟩
    clear ER
    go_wp2_with (go_at_call 72; go_loud ((with_reducible refine (WN.out _ (by repeat (first | (with_reducible first | exact HB.out | apply below_alloc | apply pw_below_drewN | apply below_drew1) | exact HB.out))).mono ?_); rintro e w' ⟨rfl, ⟨nd, rfl⟩⟩))
    go_ret2
    exact ⟨.slice none 0 0, by rw [E0.out]; rfl, by rw [E0.out]; exact Kd.R_nil _ _ _ _ _, by exact (by repeat (first | (with_reducible first | exact HB.out | apply below_alloc | apply pw_below_drewN | apply below_drew1) | exact HB.out))⟩
  have hne0 : (m == 0) = false := by simpa using hm0
  by_cases hcm : m ≤ cap
  case neg =>
    have hgt : cap < m := by omega
    have E0 : Aside0 (R = ([], false)) := ⟨by rw [ER.out, if_neg (fun h => hcm h.2.2.1)]⟩
    clear ER hcm hm0
    go_wp2_with (first | (go_at_call 72; go_loud ((with_reducible refine (WN.out _ (by repeat (first | (with_reducible first | exact HB.out | apply below_alloc | apply pw_below_drewN | apply below_drew1) | exact HB.out))).mono ?_); rintro e w' ⟨rfl, ⟨nd, rfl⟩⟩)) | (go_at_call 24; go_loud ((with_reducible refine (WK.out _).mono ?_); rintro e w6 ⟨rfl, hb⟩; have u0 := pw_cell_below hb (show (w5.drewN nd).cell? _ = _ from y0); have u1 := pw_cell_below hb (show (w5.drewN nd).cell? _ = _ from y1); have u2 := pw_cell_below hb (show (w5.drewN nd).cell? _ = _ from y2); have u3 := pw_cell_below hb (show (w5.drewN nd).cell? _ = _ from y3); have n1_ : Aside0 (Below w.heap.size w w6) := ⟨below_step (by repeat (first | (with_reducible first | exact HB.out | apply below_alloc | apply pw_below_drewN | apply below_drew1) | exact HB.out)) hb⟩; clear HB; have HB := n1_; clear n1_; clear hb)))
    go_ret2
    exact ⟨.slice none 0 0, by rw [E0.out]; rfl, by rw [E0.out]; exact Kd.R_nil _ _ _ _ _, by exact (by repeat (first | (with_reducible first | exact HB.out | apply below_alloc | apply pw_below_drewN | apply below_drew1) | exact HB.out))⟩
  have hngt : ¬ cap < m := by omega
  have HNE := Aside0.mk hm0
  have HLE := Aside0.mk hcm
  clear hm0 hcm
  obtain ⟨q1, hq1⟩ : ∃ q, q = rightP a b d h ws := ⟨_, rfl⟩
  obtain ⟨q2, hq2⟩ : ∃ q, q = decide (hd = headN ws) := ⟨_, rfl⟩
  obtain ⟨q3, hq3⟩ : ∃ q, q = prefB rs (recsN ws) := ⟨_, rfl⟩
  rw [← hq1] at WR EF
  rw [← hq2] at WE EF
  rw [← hq3] at WP EF
  clear hq1 hq2 hq3
  cases q1 with
  | false =>
    have E0 : Aside0 (R = ([], false)) := ⟨by rw [ER.out, if_neg (fun h => by have h2 := h.2.2.2; rw [EF.out] at h2; simp at h2)]⟩
    clear ER
    go_wp2_with (first | (go_at_call 72; go_loud ((with_reducible refine (WN.out _ (by repeat (first | (with_reducible first | exact HB.out | apply below_alloc | apply pw_below_drewN | apply below_drew1) | exact HB.out))).mono ?_); rintro e w' ⟨rfl, ⟨nd, rfl⟩⟩)) | (go_at_call 24; go_loud ((with_reducible refine (WK.out _).mono ?_); rintro e w6 ⟨rfl, hb⟩; have u0 := pw_cell_below hb (show (w5.drewN nd).cell? _ = _ from y0); have u1 := pw_cell_below hb (show (w5.drewN nd).cell? _ = _ from y1); have u2 := pw_cell_below hb (show (w5.drewN nd).cell? _ = _ from y2); have u3 := pw_cell_below hb (show (w5.drewN nd).cell? _ = _ from y3); have n1_ : Aside0 (Below w.heap.size w w6) := ⟨below_step (by repeat (first | (with_reducible first | exact HB.out | apply below_alloc | apply pw_below_drewN | apply below_drew1) | exact HB.out)) hb⟩; clear HB; have HB := n1_; clear n1_; clear hb)) | (go_at_call 73; go_loud ((with_reducible refine (WRD.out HNE.out HLE.out _ (by repeat (first | (with_reducible first | exact HB.out | apply below_alloc | apply pw_below_drewN | apply below_drew1) | exact HB.out))).mono ?_); rintro e w7 ⟨v7, rfl, ho, hb⟩; have x0 := pw_cell_below hb u0; have x1 := pw_cell_below hb u1; have x2 := pw_cell_below hb u2; have x3 := pw_cell_below hb u3; obtain ⟨A7, c7, hv7⟩ := Kd.R_slice ho; subst hv7; have HO7 := Aside0.mk (Kd.R_lower ho (below_size (by repeat (first | (with_reducible first | exact HB.out | apply below_alloc | apply pw_below_drewN | apply below_drew1) | exact HB.out)))); have n1_ : Aside0 (Below w.heap.size w w7) := ⟨below_step (by repeat (first | (with_reducible first | exact HB.out | apply below_alloc | apply pw_below_drewN | apply below_drew1) | exact HB.out)) hb⟩; clear HB; have HB := n1_; clear n1_; clear ho hb)) | (go_at_call 26; go_loud ((with_reducible refine (WR.out _ _ _ (Kd.R_reads' HO7.out).2.2).mono ?_); rintro e w8 ⟨rfl, hb⟩; have n0_ : Aside0 (Kd.R kWP 82 w8 w.heap.size (fun _ => True) (.slice A7 ws.length c7) ws) := ⟨Kd.R_below (by (with_reducible repeat (first | apply Kd.R_alloc | apply Kd.R_drewN | apply Kd.R_drew)); exact HO7.out) hb⟩; clear HO7; have HO7 := n0_; clear n0_; have n1_ : Aside0 (Below w.heap.size w w8) := ⟨below_step (by repeat (first | (with_reducible first | exact HB.out | apply below_alloc | apply pw_below_drewN | apply below_drew1) | exact HB.out)) hb⟩; clear HB; have HB := n1_; clear n1_; clear hb)))
    go_ret2
    exact ⟨.slice none 0 0, by rw [E0.out]; rfl, by rw [E0.out]; exact Kd.R_nil _ _ _ _ _, by exact (by repeat (first | (with_reducible first | exact HB.out | apply below_alloc | apply pw_below_drewN | apply below_drew1) | exact HB.out))⟩
  | true =>
    cases q2 with
    | false =>
      have E0 : Aside0 (R = ([], false)) := ⟨by rw [ER.out, if_neg (fun h => by have h2 := h.2.2.2; rw [EF.out] at h2; simp at h2)]⟩
      clear ER
      go_wp2_with (first | (go_at_call 72; go_loud ((with_reducible refine (WN.out _ (by repeat (first | (with_reducible first | exact HB.out | apply below_alloc | apply pw_below_drewN | apply below_drew1) | exact HB.out))).mono ?_); rintro e w' ⟨rfl, ⟨nd, rfl⟩⟩)) | (go_at_call 24; go_loud ((with_reducible refine (WK.out _).mono ?_); rintro e w6 ⟨rfl, hb⟩; have u0 := pw_cell_below hb (show (w5.drewN nd).cell? _ = _ from y0); have u1 := pw_cell_below hb (show (w5.drewN nd).cell? _ = _ from y1); have u2 := pw_cell_below hb (show (w5.drewN nd).cell? _ = _ from y2); have u3 := pw_cell_below hb (show (w5.drewN nd).cell? _ = _ from y3); have n1_ : Aside0 (Below w.heap.size w w6) := ⟨below_step (by repeat (first | (with_reducible first | exact HB.out | apply below_alloc | apply pw_below_drewN | apply below_drew1) | exact HB.out)) hb⟩; clear HB; have HB := n1_; clear n1_; clear hb)) | (go_at_call 73; go_loud ((with_reducible refine (WRD.out HNE.out HLE.out _ (by repeat (first | (with_reducible first | exact HB.out | apply below_alloc | apply pw_below_drewN | apply below_drew1) | exact HB.out))).mono ?_); rintro e w7 ⟨v7, rfl, ho, hb⟩; have x0 := pw_cell_below hb u0; have x1 := pw_cell_below hb u1; have x2 := pw_cell_below hb u2; have x3 := pw_cell_below hb u3; obtain ⟨A7, c7, hv7⟩ := Kd.R_slice ho; subst hv7; have HO7 := Aside0.mk (Kd.R_lower ho (below_size (by repeat (first | (with_reducible first | exact HB.out | apply below_alloc | apply pw_below_drewN | apply below_drew1) | exact HB.out)))); have n1_ : Aside0 (Below w.heap.size w w7) := ⟨below_step (by repeat (first | (with_reducible first | exact HB.out | apply below_alloc | apply pw_below_drewN | apply below_drew1) | exact HB.out)) hb⟩; clear HB; have HB := n1_; clear n1_; clear ho hb)) | (go_at_call 26; go_loud ((with_reducible refine (WR.out _ _ _ (Kd.R_reads' HO7.out).2.2).mono ?_); rintro e w8 ⟨rfl, hb⟩; have n0_ : Aside0 (Kd.R kWP 82 w8 w.heap.size (fun _ => True) (.slice A7 ws.length c7) ws) := ⟨Kd.R_below (by (with_reducible repeat (first | apply Kd.R_alloc | apply Kd.R_drewN | apply Kd.R_drew)); exact HO7.out) hb⟩; clear HO7; have HO7 := n0_; clear n0_; have n1_ : Aside0 (Below w.heap.size w w8) := ⟨below_step (by repeat (first | (with_reducible first | exact HB.out | apply below_alloc | apply pw_below_drewN | apply below_drew1) | exact HB.out)) hb⟩; clear HB; have HB := n1_; clear n1_; clear hb)) | (go_at_call 33; go_loud ((with_reducible refine (WH.out HNE.out HLE.out _ _ _ (Kd.R_reads' HO7.out).2.2).mono ?_); rintro e w9 ⟨v9, rfl, ho, hb⟩; obtain ⟨A9, c9, hv9⟩ := Kd.R_slice ho; subst hv9; have HR9 := Aside0.mk (Kd.R_reads' ho).2.2; have n0_ : Aside0 (Kd.R kWP 82 w9 w.heap.size (fun _ => True) (.slice A7 ws.length c7) ws) := ⟨Kd.R_below (by (with_reducible repeat (first | apply Kd.R_alloc | apply Kd.R_drewN | apply Kd.R_drew)); exact HO7.out) hb⟩; clear HO7; have HO7 := n0_; clear n0_; have n1_ : Aside0 (Below w.heap.size w w9) := ⟨below_step (by repeat (first | (with_reducible first | exact HB.out | apply below_alloc | apply pw_below_drewN | apply below_drew1) | exact HB.out)) hb⟩; clear HB; have HB := n1_; clear n1_; clear ho hb)) | (go_at_call 28; go_loud ((with_reducible refine (WE.out _ _ _ (Kd.C_below HRD.out.1 (by repeat (first | (with_reducible first | exact HB.out | apply below_alloc | apply pw_below_drewN | apply below_drew1) | exact HB.out))) HR9.out).mono ?_); rintro e w' ⟨rfl, h_⟩; have h_ := h_.symm; subst h_)))
      go_ret2
      exact ⟨.slice none 0 0, by rw [E0.out]; rfl, by rw [E0.out]; exact Kd.R_nil _ _ _ _ _, by exact (by repeat (first | (with_reducible first | exact HB.out | apply below_alloc | apply pw_below_drewN | apply below_drew1) | exact HB.out))⟩
    | true =>
      cases q3 with
      | false =>
        have E0 : Aside0 (R = ([], false)) := ⟨by rw [ER.out, if_neg (fun h => by have h2 := h.2.2.2; rw [EF.out] at h2; simp at h2)]⟩
        clear ER
        go_wp2_with (first | (go_at_call 72; go_loud ((with_reducible refine (WN.out _ (by repeat (first | (with_reducible first | exact HB.out | apply below_alloc | apply pw_below_drewN | apply below_drew1) | exact HB.out))).mono ?_); rintro e w' ⟨rfl, ⟨nd, rfl⟩⟩)) | (go_at_call 24; go_loud ((with_reducible refine (WK.out _).mono ?_); rintro e w6 ⟨rfl, hb⟩; have u0 := pw_cell_below hb (show (w5.drewN nd).cell? _ = _ from y0); have u1 := pw_cell_below hb (show (w5.drewN nd).cell? _ = _ from y1); have u2 := pw_cell_below hb (show (w5.drewN nd).cell? _ = _ from y2); have u3 := pw_cell_below hb (show (w5.drewN nd).cell? _ = _ from y3); have n1_ : Aside0 (Below w.heap.size w w6) := ⟨below_step (by repeat (first | (with_reducible first | exact HB.out | apply below_alloc | apply pw_below_drewN | apply below_drew1) | exact HB.out)) hb⟩; clear HB; have HB := n1_; clear n1_; clear hb)) | (go_at_call 73; go_loud ((with_reducible refine (WRD.out HNE.out HLE.out _ (by repeat (first | (with_reducible first | exact HB.out | apply below_alloc | apply pw_below_drewN | apply below_drew1) | exact HB.out))).mono ?_); rintro e w7 ⟨v7, rfl, ho, hb⟩; have x0 := pw_cell_below hb u0; have x1 := pw_cell_below hb u1; have x2 := pw_cell_below hb u2; have x3 := pw_cell_below hb u3; obtain ⟨A7, c7, hv7⟩ := Kd.R_slice ho; subst hv7; have HO7 := Aside0.mk (Kd.R_lower ho (below_size (by repeat (first | (with_reducible first | exact HB.out | apply below_alloc | apply pw_below_drewN | apply below_drew1) | exact HB.out)))); have n1_ : Aside0 (Below w.heap.size w w7) := ⟨below_step (by repeat (first | (with_reducible first | exact HB.out | apply below_alloc | apply pw_below_drewN | apply below_drew1) | exact HB.out)) hb⟩; clear HB; have HB := n1_; clear n1_; clear ho hb)) | (go_at_call 26; go_loud ((with_reducible refine (WR.out _ _ _ (Kd.R_reads' HO7.out).2.2).mono ?_); rintro e w8 ⟨rfl, hb⟩; have n0_ : Aside0 (Kd.R kWP 82 w8 w.heap.size (fun _ => True) (.slice A7 ws.length c7) ws) := ⟨Kd.R_below (by (with_reducible repeat (first | apply Kd.R_alloc | apply Kd.R_drewN | apply Kd.R_drew)); exact HO7.out) hb⟩; clear HO7; have HO7 := n0_; clear n0_; have n1_ : Aside0 (Below w.heap.size w w8) := ⟨below_step (by repeat (first | (with_reducible first | exact HB.out | apply below_alloc | apply pw_below_drewN | apply below_drew1) | exact HB.out)) hb⟩; clear HB; have HB := n1_; clear n1_; clear hb)) | (go_at_call 33; go_loud ((with_reducible refine (WH.out HNE.out HLE.out _ _ _ (Kd.R_reads' HO7.out).2.2).mono ?_); rintro e w9 ⟨v9, rfl, ho, hb⟩; obtain ⟨A9, c9, hv9⟩ := Kd.R_slice ho; subst hv9; have HR9 := Aside0.mk (Kd.R_reads' ho).2.2; have n0_ : Aside0 (Kd.R kWP 82 w9 w.heap.size (fun _ => True) (.slice A7 ws.length c7) ws) := ⟨Kd.R_below (by (with_reducible repeat (first | apply Kd.R_alloc | apply Kd.R_drewN | apply Kd.R_drew)); exact HO7.out) hb⟩; clear HO7; have HO7 := n0_; clear n0_; have n1_ : Aside0 (Below w.heap.size w w9) := ⟨below_step (by repeat (first | (with_reducible first | exact HB.out | apply below_alloc | apply pw_below_drewN | apply below_drew1) | exact HB.out)) hb⟩; clear HB; have HB := n1_; clear n1_; clear ho hb)) | (go_at_call 28; go_loud ((with_reducible refine (WE.out _ _ _ (Kd.C_below HRD.out.1 (by repeat (first | (with_reducible first | exact HB.out | apply below_alloc | apply pw_below_drewN | apply below_drew1) | exact HB.out))) HR9.out).mono ?_); rintro e w' ⟨rfl, h_⟩; have h_ := h_.symm; subst h_)) | (go_at_call 31; go_loud ((with_reducible refine (WC.out HNE.out HLE.out _ _ _ (Kd.R_reads' HO7.out).2.2).mono ?_); rintro e w10 ⟨v10, rfl, ho, hb⟩; obtain ⟨A10, c10, hv10⟩ := Kd.R_slice ho; subst hv10; have HR10 := Aside0.mk (Kd.R_reads' ho).2.2; have n0_ : Aside0 (Kd.R kWP 82 w10 w.heap.size (fun _ => True) (.slice A7 ws.length c7) ws) := ⟨Kd.R_below (by (with_reducible repeat (first | apply Kd.R_alloc | apply Kd.R_drewN | apply Kd.R_drew)); exact HO7.out) hb⟩; clear HO7; have HO7 := n0_; clear n0_; have n1_ : Aside0 (Below w.heap.size w w10) := ⟨below_step (by repeat (first | (with_reducible first | exact HB.out | apply below_alloc | apply pw_below_drewN | apply below_drew1) | exact HB.out)) hb⟩; clear HB; have HB := n1_; clear n1_; clear ho hb)) | (go_at_call 74; go_loud ((with_reducible refine (WP.out _ _ _ (Kd.C_below HRD.out.2 (by repeat (first | (with_reducible first | exact HB.out | apply below_alloc | apply pw_below_drewN | apply below_drew1) | exact HB.out))) HR10.out).mono ?_); rintro e w' ⟨rfl, h_⟩; have h_ := h_.symm; subst h_)))
        go_ret2
        exact ⟨.slice none 0 0, by rw [E0.out]; rfl, by rw [E0.out]; exact Kd.R_nil _ _ _ _ _, by exact (by repeat (first | (with_reducible first | exact HB.out | apply below_alloc | apply pw_below_drewN | apply below_drew1) | exact HB.out))⟩
      | true =>
        have E0 : Aside0 (R = (ws, true)) := ⟨by rw [ER.out, if_pos ⟨by trivial, HNE.out, HLE.out, by rw [EF.out]; rfl⟩]⟩
        clear ER
        go_wp2_with (first | (go_at_call 72; go_loud ((with_reducible refine (WN.out _ (by repeat (first | (with_reducible first | exact HB.out | apply below_alloc | apply pw_below_drewN | apply below_drew1) | exact HB.out))).mono ?_); rintro e w' ⟨rfl, ⟨nd, rfl⟩⟩)) | (go_at_call 24; go_loud ((with_reducible refine (WK.out _).mono ?_); rintro e w6 ⟨rfl, hb⟩; have u0 := pw_cell_below hb (show (w5.drewN nd).cell? _ = _ from y0); have u1 := pw_cell_below hb (show (w5.drewN nd).cell? _ = _ from y1); have u2 := pw_cell_below hb (show (w5.drewN nd).cell? _ = _ from y2); have u3 := pw_cell_below hb (show (w5.drewN nd).cell? _ = _ from y3); have n1_ : Aside0 (Below w.heap.size w w6) := ⟨below_step (by repeat (first | (with_reducible first | exact HB.out | apply below_alloc | apply pw_below_drewN | apply below_drew1) | exact HB.out)) hb⟩; clear HB; have HB := n1_; clear n1_; clear hb)) | (go_at_call 73; go_loud ((with_reducible refine (WRD.out HNE.out HLE.out _ (by repeat (first | (with_reducible first | exact HB.out | apply below_alloc | apply pw_below_drewN | apply below_drew1) | exact HB.out))).mono ?_); rintro e w7 ⟨v7, rfl, ho, hb⟩; have x0 := pw_cell_below hb u0; have x1 := pw_cell_below hb u1; have x2 := pw_cell_below hb u2; have x3 := pw_cell_below hb u3; obtain ⟨A7, c7, hv7⟩ := Kd.R_slice ho; subst hv7; have HO7 := Aside0.mk (Kd.R_lower ho (below_size (by repeat (first | (with_reducible first | exact HB.out | apply below_alloc | apply pw_below_drewN | apply below_drew1) | exact HB.out)))); have n1_ : Aside0 (Below w.heap.size w w7) := ⟨below_step (by repeat (first | (with_reducible first | exact HB.out | apply below_alloc | apply pw_below_drewN | apply below_drew1) | exact HB.out)) hb⟩; clear HB; have HB := n1_; clear n1_; clear ho hb)) | (go_at_call 26; go_loud ((with_reducible refine (WR.out _ _ _ (Kd.R_reads' HO7.out).2.2).mono ?_); rintro e w8 ⟨rfl, hb⟩; have n0_ : Aside0 (Kd.R kWP 82 w8 w.heap.size (fun _ => True) (.slice A7 ws.length c7) ws) := ⟨Kd.R_below (by (with_reducible repeat (first | apply Kd.R_alloc | apply Kd.R_drewN | apply Kd.R_drew)); exact HO7.out) hb⟩; clear HO7; have HO7 := n0_; clear n0_; have n1_ : Aside0 (Below w.heap.size w w8) := ⟨below_step (by repeat (first | (with_reducible first | exact HB.out | apply below_alloc | apply pw_below_drewN | apply below_drew1) | exact HB.out)) hb⟩; clear HB; have HB := n1_; clear n1_; clear hb)) | (go_at_call 33; go_loud ((with_reducible refine (WH.out HNE.out HLE.out _ _ _ (Kd.R_reads' HO7.out).2.2).mono ?_); rintro e w9 ⟨v9, rfl, ho, hb⟩; obtain ⟨A9, c9, hv9⟩ := Kd.R_slice ho; subst hv9; have HR9 := Aside0.mk (Kd.R_reads' ho).2.2; have n0_ : Aside0 (Kd.R kWP 82 w9 w.heap.size (fun _ => True) (.slice A7 ws.length c7) ws) := ⟨Kd.R_below (by (with_reducible repeat (first | apply Kd.R_alloc | apply Kd.R_drewN | apply Kd.R_drew)); exact HO7.out) hb⟩; clear HO7; have HO7 := n0_; clear n0_; have n1_ : Aside0 (Below w.heap.size w w9) := ⟨below_step (by repeat (first | (with_reducible first | exact HB.out | apply below_alloc | apply pw_below_drewN | apply below_drew1) | exact HB.out)) hb⟩; clear HB; have HB := n1_; clear n1_; clear ho hb)) | (go_at_call 28; go_loud ((with_reducible refine (WE.out _ _ _ (Kd.C_below HRD.out.1 (by repeat (first | (with_reducible first | exact HB.out | apply below_alloc | apply pw_below_drewN | apply below_drew1) | exact HB.out))) HR9.out).mono ?_); rintro e w' ⟨rfl, h_⟩; have h_ := h_.symm; subst h_)) | (go_at_call 31; go_loud ((with_reducible refine (WC.out HNE.out HLE.out _ _ _ (Kd.R_reads' HO7.out).2.2).mono ?_); rintro e w10 ⟨v10, rfl, ho, hb⟩; obtain ⟨A10, c10, hv10⟩ := Kd.R_slice ho; subst hv10; have HR10 := Aside0.mk (Kd.R_reads' ho).2.2; have n0_ : Aside0 (Kd.R kWP 82 w10 w.heap.size (fun _ => True) (.slice A7 ws.length c7) ws) := ⟨Kd.R_below (by (with_reducible repeat (first | apply Kd.R_alloc | apply Kd.R_drewN | apply Kd.R_drew)); exact HO7.out) hb⟩; clear HO7; have HO7 := n0_; clear n0_; have n1_ : Aside0 (Below w.heap.size w w10) := ⟨below_step (by repeat (first | (with_reducible first | exact HB.out | apply below_alloc | apply pw_below_drewN | apply below_drew1) | exact HB.out)) hb⟩; clear HB; have HB := n1_; clear n1_; clear ho hb)) | (go_at_call 74; go_loud ((with_reducible refine (WP.out _ _ _ (Kd.C_below HRD.out.2 (by repeat (first | (with_reducible first | exact HB.out | apply below_alloc | apply pw_below_drewN | apply below_drew1) | exact HB.out))) HR10.out).mono ?_); rintro e w' ⟨rfl, h_⟩; have h_ := h_.symm; subst h_)))
        go_ret2
        exact ⟨.slice A7 ws.length c7, by rw [E0.out]; rfl, by rw [E0.out]; exact HO7.out, by exact (by repeat (first | (with_reducible first | exact HB.out | apply below_alloc | apply pw_below_drewN | apply below_drew1) | exact HB.out))⟩
end Go.Proofs.Ytdkbhbolkieeiaa.K
namespace Go.Proofs.Ytdkbhbolkieeiaa.K
open Go.RowKit Go.Proofs.YtdkbhbolkieeiaaW.PrintWords Go.Proofs.YtdkbhbolkieeiaaW.PrintLast Go.Proofs.YtdkbhbolkieeiaaW.PrintMore
set_option linter.unusedVariables false
set_option linter.unusedSimpArgs false
theorem go_on40 {p : Prop} (h : p) : p := h
abbrev attr0 : Array Value := #[.int .i64 0, .int .i64 0, .string ⟨#[]⟩, .int .i64 0, .int .i64 0, .int .i64 0, .int .i64 0]
theorem eqAttr (w : World) : (Op.equalIn 10000 127 (.agg #[.int .i64 0, .int .i64 0, .string ⟨#[]⟩, .int .i64 0, .int .i64 0, .int .i64 0, .int .i64 0]) (.agg #[.int .i64 0, .int .i64 0, .string ⟨#[]⟩, .int .i64 0, .int .i64 0, .int .i64 0, .int .i64 0])).run Try.prog w = .ok true w := by kernel_rfl
set_option maxHeartbeats 1000000 in
set_option maxRecDepth 100000 in
theorem node_free (Ab : Option Addr) (nb cb : Nat) (sp : Int) (A4 A5 : Option Addr) (c4 c5 : Nat) (w : World) :
    Calls Try.prog 133 #[.agg #[.slice Ab nb cb], .agg #[.int .i64 0, .int .i64 0, .int .i64 0, .int .i64 0, .slice A4 0 c4, .slice A5 0 c5, .int .i64 0, .int .i64 0, .string ⟨#[]⟩, .int .i64 0, .int .i64 0, .int .i64 0, .int .i64 0], .int .i64 sp] w fun e w' => e = .returned (.bool true) ∧ Below w.heap.size w w' := by
  have q := eqAttr
  go_enter Try.func133, Try.ntmps133
  go_wp2
  go_ret
  exact ⟨rfl, (by repeat (first | exact Below.refl _ _ | apply Below.drew | apply below_alloc))⟩
set_option maxHeartbeats 1000000 in
set_option maxRecDepth 100000 in
theorem node_dir0 (h9 : ∀ W : World, Calls Try.prog 137 #[.agg #[.int .i64 0, .int .i64 0, .string ⟨#[]⟩, .int .i64 0, .int .i64 0, .int .i64 0, .int .i64 0]] W fun e w' => e = .returned (.bool true) ∧ Below W.heap.size W w') (Ab : Option Addr) (nb cb : Nat) (sp : Int) (A4 A5 : Option Addr) (c4 c5 : Nat) (w0 : World) :
    Calls Try.prog 133 #[.agg #[.slice Ab nb cb], .agg #[.int .i64 1, .int .i64 0, .int .i64 2, .int .i64 0, .slice A4 0 c4, .slice A5 0 c5, .int .i64 0, .int .i64 0, .string ⟨#[]⟩, .int .i64 0, .int .i64 0, .int .i64 0, .int .i64 0], .int .i64 sp] w0 fun e w' => e = .returned (.bool true) ∧ Below w0.heap.size w0 w' := by
  have q := eqAttr
  have H9 := Aside0.mk h9
  have W7 : Aside0 (∀ W : World, Calls Try.prog 136 #[.agg #[.int .i64 1, .int .i64 0, .int .i64 2, .int .i64 0, .int .i64 0, .int .i64 0, .int .i64 0, .int .i64 0, .int .i64 0, .int .i64 0]] W fun e w' => e = .returned (.bool true) ∧ Below W.heap.size W w') := ⟨fun W => by
    have := r07Right_walk 1 0 2 0 0 0 0 0 0 0 W
    rw [show inoOk 1 0 2 0 0 0 0 0 0 0 = true by decide] at this
    exact this⟩
  clear h9
  go_enter Try.func133, Try.ntmps133
  go_wp2_with (first | (go_at_call 136; go_loud ((with_reducible refine (W7.out _).mono ?_); rintro e w1 ⟨rfl, hb⟩; have kb := pw_cell_below hb (show ((w0.alloc (.cells #[.slice Ab nb cb] 87)).alloc (.cells #[.int .i64 1, .int .i64 0, .int .i64 2, .int .i64 0, .slice A4 0 c4, .slice A5 0 c5, .int .i64 0, .int .i64 0, .string ⟨#[]⟩, .int .i64 0, .int .i64 0, .int .i64 0, .int .i64 0] 129)).cell? ⟨w0.heap.size, 0, none⟩ = some (.slice Ab nb cb) by go_simp); have k0 := pw_cell_below hb (show ((w0.alloc (.cells #[.slice Ab nb cb] 87)).alloc (.cells #[.int .i64 1, .int .i64 0, .int .i64 2, .int .i64 0, .slice A4 0 c4, .slice A5 0 c5, .int .i64 0, .int .i64 0, .string ⟨#[]⟩, .int .i64 0, .int .i64 0, .int .i64 0, .int .i64 0] 129)).cell? ⟨w0.heap.size + 1, 0, none⟩ = some (.int .i64 1) by go_simp); have k1 := pw_cell_below hb (show ((w0.alloc (.cells #[.slice Ab nb cb] 87)).alloc (.cells #[.int .i64 1, .int .i64 0, .int .i64 2, .int .i64 0, .slice A4 0 c4, .slice A5 0 c5, .int .i64 0, .int .i64 0, .string ⟨#[]⟩, .int .i64 0, .int .i64 0, .int .i64 0, .int .i64 0] 129)).cell? ⟨w0.heap.size + 1, 1, none⟩ = some (.int .i64 0) by go_simp); have k2 := pw_cell_below hb (show ((w0.alloc (.cells #[.slice Ab nb cb] 87)).alloc (.cells #[.int .i64 1, .int .i64 0, .int .i64 2, .int .i64 0, .slice A4 0 c4, .slice A5 0 c5, .int .i64 0, .int .i64 0, .string ⟨#[]⟩, .int .i64 0, .int .i64 0, .int .i64 0, .int .i64 0] 129)).cell? ⟨w0.heap.size + 1, 2, none⟩ = some (.int .i64 2) by go_simp); have k3 := pw_cell_below hb (show ((w0.alloc (.cells #[.slice Ab nb cb] 87)).alloc (.cells #[.int .i64 1, .int .i64 0, .int .i64 2, .int .i64 0, .slice A4 0 c4, .slice A5 0 c5, .int .i64 0, .int .i64 0, .string ⟨#[]⟩, .int .i64 0, .int .i64 0, .int .i64 0, .int .i64 0] 129)).cell? ⟨w0.heap.size + 1, 3, none⟩ = some (.int .i64 0) by go_simp); have k4 := pw_cell_below hb (show ((w0.alloc (.cells #[.slice Ab nb cb] 87)).alloc (.cells #[.int .i64 1, .int .i64 0, .int .i64 2, .int .i64 0, .slice A4 0 c4, .slice A5 0 c5, .int .i64 0, .int .i64 0, .string ⟨#[]⟩, .int .i64 0, .int .i64 0, .int .i64 0, .int .i64 0] 129)).cell? ⟨w0.heap.size + 1, 4, none⟩ = some (.slice A4 0 c4) by go_simp); have k5 := pw_cell_below hb (show ((w0.alloc (.cells #[.slice Ab nb cb] 87)).alloc (.cells #[.int .i64 1, .int .i64 0, .int .i64 2, .int .i64 0, .slice A4 0 c4, .slice A5 0 c5, .int .i64 0, .int .i64 0, .string ⟨#[]⟩, .int .i64 0, .int .i64 0, .int .i64 0, .int .i64 0] 129)).cell? ⟨w0.heap.size + 1, 5, none⟩ = some (.slice A5 0 c5) by go_simp); have k6 := pw_cell_below hb (show ((w0.alloc (.cells #[.slice Ab nb cb] 87)).alloc (.cells #[.int .i64 1, .int .i64 0, .int .i64 2, .int .i64 0, .slice A4 0 c4, .slice A5 0 c5, .int .i64 0, .int .i64 0, .string ⟨#[]⟩, .int .i64 0, .int .i64 0, .int .i64 0, .int .i64 0] 129)).cell? ⟨w0.heap.size + 1, 6, none⟩ = some (.int .i64 0) by go_simp); have k7 := pw_cell_below hb (show ((w0.alloc (.cells #[.slice Ab nb cb] 87)).alloc (.cells #[.int .i64 1, .int .i64 0, .int .i64 2, .int .i64 0, .slice A4 0 c4, .slice A5 0 c5, .int .i64 0, .int .i64 0, .string ⟨#[]⟩, .int .i64 0, .int .i64 0, .int .i64 0, .int .i64 0] 129)).cell? ⟨w0.heap.size + 1, 7, none⟩ = some (.int .i64 0) by go_simp); have k8 := pw_cell_below hb (show ((w0.alloc (.cells #[.slice Ab nb cb] 87)).alloc (.cells #[.int .i64 1, .int .i64 0, .int .i64 2, .int .i64 0, .slice A4 0 c4, .slice A5 0 c5, .int .i64 0, .int .i64 0, .string ⟨#[]⟩, .int .i64 0, .int .i64 0, .int .i64 0, .int .i64 0] 129)).cell? ⟨w0.heap.size + 1, 8, none⟩ = some (.string ⟨#[]⟩) by go_simp); have k9 := pw_cell_below hb (show ((w0.alloc (.cells #[.slice Ab nb cb] 87)).alloc (.cells #[.int .i64 1, .int .i64 0, .int .i64 2, .int .i64 0, .slice A4 0 c4, .slice A5 0 c5, .int .i64 0, .int .i64 0, .string ⟨#[]⟩, .int .i64 0, .int .i64 0, .int .i64 0, .int .i64 0] 129)).cell? ⟨w0.heap.size + 1, 9, none⟩ = some (.int .i64 0) by go_simp); have k10 := pw_cell_below hb (show ((w0.alloc (.cells #[.slice Ab nb cb] 87)).alloc (.cells #[.int .i64 1, .int .i64 0, .int .i64 2, .int .i64 0, .slice A4 0 c4, .slice A5 0 c5, .int .i64 0, .int .i64 0, .string ⟨#[]⟩, .int .i64 0, .int .i64 0, .int .i64 0, .int .i64 0] 129)).cell? ⟨w0.heap.size + 1, 10, none⟩ = some (.int .i64 0) by go_simp); have k11 := pw_cell_below hb (show ((w0.alloc (.cells #[.slice Ab nb cb] 87)).alloc (.cells #[.int .i64 1, .int .i64 0, .int .i64 2, .int .i64 0, .slice A4 0 c4, .slice A5 0 c5, .int .i64 0, .int .i64 0, .string ⟨#[]⟩, .int .i64 0, .int .i64 0, .int .i64 0, .int .i64 0] 129)).cell? ⟨w0.heap.size + 1, 11, none⟩ = some (.int .i64 0) by go_simp); have k12 := pw_cell_below hb (show ((w0.alloc (.cells #[.slice Ab nb cb] 87)).alloc (.cells #[.int .i64 1, .int .i64 0, .int .i64 2, .int .i64 0, .slice A4 0 c4, .slice A5 0 c5, .int .i64 0, .int .i64 0, .string ⟨#[]⟩, .int .i64 0, .int .i64 0, .int .i64 0, .int .i64 0] 129)).cell? ⟨w0.heap.size + 1, 12, none⟩ = some (.int .i64 0) by go_simp); have HX1 := Aside0.mk (below_step (W := (w0.alloc (.cells #[.slice Ab nb cb] 87)).alloc (.cells #[.int .i64 1, .int .i64 0, .int .i64 2, .int .i64 0, .slice A4 0 c4, .slice A5 0 c5, .int .i64 0, .int .i64 0, .string ⟨#[]⟩, .int .i64 0, .int .i64 0, .int .i64 0, .int .i64 0] 129)) (below_alloc (below_alloc (Below.refl _ _) _) _) hb); clear hb)) | (go_at_call 137; go_loud ((with_reducible refine (H9.out _).mono ?_); rintro e w2 ⟨rfl, hb⟩; have mb := pw_cell_below hb kb; have m0 := pw_cell_below hb k0; have m1 := pw_cell_below hb k1; have m2 := pw_cell_below hb k2; have m3 := pw_cell_below hb k3; have m4 := pw_cell_below hb k4; have m5 := pw_cell_below hb k5; have m6 := pw_cell_below hb k6; have m7 := pw_cell_below hb k7; have m8 := pw_cell_below hb k8; have m9 := pw_cell_below hb k9; have m10 := pw_cell_below hb k10; have m11 := pw_cell_below hb k11; have m12 := pw_cell_below hb k12; have HX2 := Aside0.mk (below_step HX1.out hb); clear hb)))
  refine wp_loop_rounds 1 ?_
  rw [rounds_succ]
  go_wp2
  go_ret
  exact ⟨rfl, HX2.out⟩
set_option maxHeartbeats 1000000 in
set_option maxRecDepth 100000 in
theorem node_file (h9 : ∀ W : World, Calls Try.prog 137 #[.agg #[.int .i64 0, .int .i64 0, .string ⟨#[]⟩, .int .i64 0, .int .i64 0, .int .i64 0, .int .i64 0]] W fun e w' => e = .returned (.bool true) ∧ Below W.heap.size W w') (Ab : Option Addr) (nb cb : Nat) (sp : Int) (A4 A5 : Option Addr) (c4 c5 : Nat) (w0 : World) :
    Calls Try.prog 133 #[.agg #[.slice Ab nb cb], .agg #[.int .i64 2, .int .i64 0, .int .i64 1, .int .i64 3, .slice A4 1 c4, .slice A5 0 c5, .int .i64 0, .int .i64 0, .string ⟨#[]⟩, .int .i64 0, .int .i64 0, .int .i64 0, .int .i64 0], .int .i64 sp] w0 fun e w' => e = .returned (.bool true) ∧ Below w0.heap.size w0 w' := by
  have q := eqAttr
  have H9 := Aside0.mk h9
  have W7 : Aside0 (∀ W : World, Calls Try.prog 136 #[.agg #[.int .i64 2, .int .i64 0, .int .i64 1, .int .i64 3, .int .i64 0, .int .i64 0, .int .i64 0, .int .i64 0, .int .i64 0, .int .i64 0]] W fun e w' => e = .returned (.bool true) ∧ Below W.heap.size W w') := ⟨fun W => by
    have := r07Right_walk 2 0 1 3 0 0 0 0 0 0 W
    rw [show inoOk 2 0 1 3 0 0 0 0 0 0 = true by decide] at this
    exact this⟩
  clear h9
  go_enter Try.func133, Try.ntmps133
  go_wp2_with (first | (go_at_call 136; go_loud ((with_reducible refine (W7.out _).mono ?_); rintro e w1 ⟨rfl, hb⟩; have kb := pw_cell_below hb (show ((w0.alloc (.cells #[.slice Ab nb cb] 87)).alloc (.cells #[.int .i64 2, .int .i64 0, .int .i64 1, .int .i64 3, .slice A4 1 c4, .slice A5 0 c5, .int .i64 0, .int .i64 0, .string ⟨#[]⟩, .int .i64 0, .int .i64 0, .int .i64 0, .int .i64 0] 129)).cell? ⟨w0.heap.size, 0, none⟩ = some (.slice Ab nb cb) by go_simp); have k0 := pw_cell_below hb (show ((w0.alloc (.cells #[.slice Ab nb cb] 87)).alloc (.cells #[.int .i64 2, .int .i64 0, .int .i64 1, .int .i64 3, .slice A4 1 c4, .slice A5 0 c5, .int .i64 0, .int .i64 0, .string ⟨#[]⟩, .int .i64 0, .int .i64 0, .int .i64 0, .int .i64 0] 129)).cell? ⟨w0.heap.size + 1, 0, none⟩ = some (.int .i64 2) by go_simp); have k1 := pw_cell_below hb (show ((w0.alloc (.cells #[.slice Ab nb cb] 87)).alloc (.cells #[.int .i64 2, .int .i64 0, .int .i64 1, .int .i64 3, .slice A4 1 c4, .slice A5 0 c5, .int .i64 0, .int .i64 0, .string ⟨#[]⟩, .int .i64 0, .int .i64 0, .int .i64 0, .int .i64 0] 129)).cell? ⟨w0.heap.size + 1, 1, none⟩ = some (.int .i64 0) by go_simp); have k2 := pw_cell_below hb (show ((w0.alloc (.cells #[.slice Ab nb cb] 87)).alloc (.cells #[.int .i64 2, .int .i64 0, .int .i64 1, .int .i64 3, .slice A4 1 c4, .slice A5 0 c5, .int .i64 0, .int .i64 0, .string ⟨#[]⟩, .int .i64 0, .int .i64 0, .int .i64 0, .int .i64 0] 129)).cell? ⟨w0.heap.size + 1, 2, none⟩ = some (.int .i64 1) by go_simp); have k3 := pw_cell_below hb (show ((w0.alloc (.cells #[.slice Ab nb cb] 87)).alloc (.cells #[.int .i64 2, .int .i64 0, .int .i64 1, .int .i64 3, .slice A4 1 c4, .slice A5 0 c5, .int .i64 0, .int .i64 0, .string ⟨#[]⟩, .int .i64 0, .int .i64 0, .int .i64 0, .int .i64 0] 129)).cell? ⟨w0.heap.size + 1, 3, none⟩ = some (.int .i64 3) by go_simp); have k4 := pw_cell_below hb (show ((w0.alloc (.cells #[.slice Ab nb cb] 87)).alloc (.cells #[.int .i64 2, .int .i64 0, .int .i64 1, .int .i64 3, .slice A4 1 c4, .slice A5 0 c5, .int .i64 0, .int .i64 0, .string ⟨#[]⟩, .int .i64 0, .int .i64 0, .int .i64 0, .int .i64 0] 129)).cell? ⟨w0.heap.size + 1, 4, none⟩ = some (.slice A4 1 c4) by go_simp); have k5 := pw_cell_below hb (show ((w0.alloc (.cells #[.slice Ab nb cb] 87)).alloc (.cells #[.int .i64 2, .int .i64 0, .int .i64 1, .int .i64 3, .slice A4 1 c4, .slice A5 0 c5, .int .i64 0, .int .i64 0, .string ⟨#[]⟩, .int .i64 0, .int .i64 0, .int .i64 0, .int .i64 0] 129)).cell? ⟨w0.heap.size + 1, 5, none⟩ = some (.slice A5 0 c5) by go_simp); have k6 := pw_cell_below hb (show ((w0.alloc (.cells #[.slice Ab nb cb] 87)).alloc (.cells #[.int .i64 2, .int .i64 0, .int .i64 1, .int .i64 3, .slice A4 1 c4, .slice A5 0 c5, .int .i64 0, .int .i64 0, .string ⟨#[]⟩, .int .i64 0, .int .i64 0, .int .i64 0, .int .i64 0] 129)).cell? ⟨w0.heap.size + 1, 6, none⟩ = some (.int .i64 0) by go_simp); have k7 := pw_cell_below hb (show ((w0.alloc (.cells #[.slice Ab nb cb] 87)).alloc (.cells #[.int .i64 2, .int .i64 0, .int .i64 1, .int .i64 3, .slice A4 1 c4, .slice A5 0 c5, .int .i64 0, .int .i64 0, .string ⟨#[]⟩, .int .i64 0, .int .i64 0, .int .i64 0, .int .i64 0] 129)).cell? ⟨w0.heap.size + 1, 7, none⟩ = some (.int .i64 0) by go_simp); have k8 := pw_cell_below hb (show ((w0.alloc (.cells #[.slice Ab nb cb] 87)).alloc (.cells #[.int .i64 2, .int .i64 0, .int .i64 1, .int .i64 3, .slice A4 1 c4, .slice A5 0 c5, .int .i64 0, .int .i64 0, .string ⟨#[]⟩, .int .i64 0, .int .i64 0, .int .i64 0, .int .i64 0] 129)).cell? ⟨w0.heap.size + 1, 8, none⟩ = some (.string ⟨#[]⟩) by go_simp); have k9 := pw_cell_below hb (show ((w0.alloc (.cells #[.slice Ab nb cb] 87)).alloc (.cells #[.int .i64 2, .int .i64 0, .int .i64 1, .int .i64 3, .slice A4 1 c4, .slice A5 0 c5, .int .i64 0, .int .i64 0, .string ⟨#[]⟩, .int .i64 0, .int .i64 0, .int .i64 0, .int .i64 0] 129)).cell? ⟨w0.heap.size + 1, 9, none⟩ = some (.int .i64 0) by go_simp); have k10 := pw_cell_below hb (show ((w0.alloc (.cells #[.slice Ab nb cb] 87)).alloc (.cells #[.int .i64 2, .int .i64 0, .int .i64 1, .int .i64 3, .slice A4 1 c4, .slice A5 0 c5, .int .i64 0, .int .i64 0, .string ⟨#[]⟩, .int .i64 0, .int .i64 0, .int .i64 0, .int .i64 0] 129)).cell? ⟨w0.heap.size + 1, 10, none⟩ = some (.int .i64 0) by go_simp); have k11 := pw_cell_below hb (show ((w0.alloc (.cells #[.slice Ab nb cb] 87)).alloc (.cells #[.int .i64 2, .int .i64 0, .int .i64 1, .int .i64 3, .slice A4 1 c4, .slice A5 0 c5, .int .i64 0, .int .i64 0, .string ⟨#[]⟩, .int .i64 0, .int .i64 0, .int .i64 0, .int .i64 0] 129)).cell? ⟨w0.heap.size + 1, 11, none⟩ = some (.int .i64 0) by go_simp); have k12 := pw_cell_below hb (show ((w0.alloc (.cells #[.slice Ab nb cb] 87)).alloc (.cells #[.int .i64 2, .int .i64 0, .int .i64 1, .int .i64 3, .slice A4 1 c4, .slice A5 0 c5, .int .i64 0, .int .i64 0, .string ⟨#[]⟩, .int .i64 0, .int .i64 0, .int .i64 0, .int .i64 0] 129)).cell? ⟨w0.heap.size + 1, 12, none⟩ = some (.int .i64 0) by go_simp); have HX1 := Aside0.mk (below_step (W := (w0.alloc (.cells #[.slice Ab nb cb] 87)).alloc (.cells #[.int .i64 2, .int .i64 0, .int .i64 1, .int .i64 3, .slice A4 1 c4, .slice A5 0 c5, .int .i64 0, .int .i64 0, .string ⟨#[]⟩, .int .i64 0, .int .i64 0, .int .i64 0, .int .i64 0] 129)) (below_alloc (below_alloc (Below.refl _ _) _) _) hb); clear hb)) | (go_at_call 137; go_loud ((with_reducible refine (H9.out _).mono ?_); rintro e w2 ⟨rfl, hb⟩; have mb := pw_cell_below hb kb; have m0 := pw_cell_below hb k0; have m1 := pw_cell_below hb k1; have m2 := pw_cell_below hb k2; have m3 := pw_cell_below hb k3; have m4 := pw_cell_below hb k4; have m5 := pw_cell_below hb k5; have m6 := pw_cell_below hb k6; have m7 := pw_cell_below hb k7; have m8 := pw_cell_below hb k8; have m9 := pw_cell_below hb k9; have m10 := pw_cell_below hb k10; have m11 := pw_cell_below hb k11; have m12 := pw_cell_below hb k12; have HX2 := Aside0.mk (below_step HX1.out hb); clear hb)))
  refine wp_loop_rounds 1 ?_
  rw [rounds_succ]
  go_wp2
  go_ret
  exact ⟨rfl, HX2.out⟩
set_option maxHeartbeats 1000000 in
set_option maxRecDepth 100000 in
theorem node_dirA (h9 : ∀ W : World, Calls Try.prog 137 #[.agg #[.int .i64 0, .int .i64 0, .string ⟨#[]⟩, .int .i64 0, .int .i64 0, .int .i64 0, .int .i64 0]] W fun e w' => e = .returned (.bool true) ∧ Below W.heap.size W w') (ab : Addr) (cb : Nat) (A4 : Option Addr) (ae : Addr) (c4 c5 : Nat) (w0 : World)
    (he0 : w0.cell? ae = some (.int .i64 0)) (he1 : w0.cell? ⟨ae.block, ae.off + 1, none⟩ = some (.int .i64 2)) (he2 : w0.cell? ⟨ae.block, ae.off + 2, none⟩ = some (.string ⟨#[97]⟩)) (hb0 : w0.cell? ⟨ab.block, ab.off + 13, none⟩ = some (.int .i64 2)) :
    Calls Try.prog 133 #[.agg #[.slice (some ab) 5 cb], .agg #[.int .i64 1, .int .i64 0, .int .i64 2, .int .i64 0, .slice A4 0 c4, .slice (some ae) 1 c5, .int .i64 0, .int .i64 0, .string ⟨#[]⟩, .int .i64 0, .int .i64 0, .int .i64 0, .int .i64 0], .int .i64 1] w0 fun e w' => e = .returned (.bool true) ∧ Below w0.heap.size w0 w' := by
  have q := eqAttr
  have H9 := Aside0.mk h9
  have W7 : Aside0 (∀ W : World, Calls Try.prog 136 #[.agg #[.int .i64 1, .int .i64 0, .int .i64 2, .int .i64 0, .int .i64 0, .int .i64 0, .int .i64 0, .int .i64 0, .int .i64 0, .int .i64 0]] W fun e w' => e = .returned (.bool true) ∧ Below W.heap.size W w') := ⟨fun W => by
    have := r07Right_walk 1 0 2 0 0 0 0 0 0 0 W
    rw [show inoOk 1 0 2 0 0 0 0 0 0 0 = true by decide] at this
    exact this⟩
  have W8 : Aside0 (∀ W : World, Calls Try.prog 138 #[.agg #[.int .i64 0, .int .i64 2, .string ⟨#[97]⟩]] W fun e w' => e = .returned (.bool true) ∧ Below W.heap.size W w') := ⟨fun W => by
    have := rERight_walk 0 2 ⟨#[97]⟩ W
    rw [show rightE 0 2 ⟨#[97]⟩ = true by decide +kernel] at this
    exact this⟩
  have HE0 := Aside0.mk he0
  have HE1 := Aside0.mk he1
  have HE2 := Aside0.mk he2
  have HB0 := Aside0.mk hb0
  clear h9 he0 he1 he2 hb0
  go_enter Try.func133, Try.ntmps133
  go_wp2_with (first | (go_at_call 136; go_loud ((with_reducible refine (W7.out _).mono ?_); rintro e w1 ⟨rfl, hb⟩; have kb := pw_cell_below hb (show ((w0.alloc (.cells #[.slice (some ab) 5 cb] 87)).alloc (.cells #[.int .i64 1, .int .i64 0, .int .i64 2, .int .i64 0, .slice A4 0 c4, .slice (some ae) 1 c5, .int .i64 0, .int .i64 0, .string ⟨#[]⟩, .int .i64 0, .int .i64 0, .int .i64 0, .int .i64 0] 129)).cell? ⟨w0.heap.size, 0, none⟩ = some (.slice (some ab) 5 cb) by go_simp); have k0 := pw_cell_below hb (show ((w0.alloc (.cells #[.slice (some ab) 5 cb] 87)).alloc (.cells #[.int .i64 1, .int .i64 0, .int .i64 2, .int .i64 0, .slice A4 0 c4, .slice (some ae) 1 c5, .int .i64 0, .int .i64 0, .string ⟨#[]⟩, .int .i64 0, .int .i64 0, .int .i64 0, .int .i64 0] 129)).cell? ⟨w0.heap.size + 1, 0, none⟩ = some (.int .i64 1) by go_simp); have k1 := pw_cell_below hb (show ((w0.alloc (.cells #[.slice (some ab) 5 cb] 87)).alloc (.cells #[.int .i64 1, .int .i64 0, .int .i64 2, .int .i64 0, .slice A4 0 c4, .slice (some ae) 1 c5, .int .i64 0, .int .i64 0, .string ⟨#[]⟩, .int .i64 0, .int .i64 0, .int .i64 0, .int .i64 0] 129)).cell? ⟨w0.heap.size + 1, 1, none⟩ = some (.int .i64 0) by go_simp); have k2 := pw_cell_below hb (show ((w0.alloc (.cells #[.slice (some ab) 5 cb] 87)).alloc (.cells #[.int .i64 1, .int .i64 0, .int .i64 2, .int .i64 0, .slice A4 0 c4, .slice (some ae) 1 c5, .int .i64 0, .int .i64 0, .string ⟨#[]⟩, .int .i64 0, .int .i64 0, .int .i64 0, .int .i64 0] 129)).cell? ⟨w0.heap.size + 1, 2, none⟩ = some (.int .i64 2) by go_simp); have k3 := pw_cell_below hb (show ((w0.alloc (.cells #[.slice (some ab) 5 cb] 87)).alloc (.cells #[.int .i64 1, .int .i64 0, .int .i64 2, .int .i64 0, .slice A4 0 c4, .slice (some ae) 1 c5, .int .i64 0, .int .i64 0, .string ⟨#[]⟩, .int .i64 0, .int .i64 0, .int .i64 0, .int .i64 0] 129)).cell? ⟨w0.heap.size + 1, 3, none⟩ = some (.int .i64 0) by go_simp); have k4 := pw_cell_below hb (show ((w0.alloc (.cells #[.slice (some ab) 5 cb] 87)).alloc (.cells #[.int .i64 1, .int .i64 0, .int .i64 2, .int .i64 0, .slice A4 0 c4, .slice (some ae) 1 c5, .int .i64 0, .int .i64 0, .string ⟨#[]⟩, .int .i64 0, .int .i64 0, .int .i64 0, .int .i64 0] 129)).cell? ⟨w0.heap.size + 1, 4, none⟩ = some (.slice A4 0 c4) by go_simp); have k5 := pw_cell_below hb (show ((w0.alloc (.cells #[.slice (some ab) 5 cb] 87)).alloc (.cells #[.int .i64 1, .int .i64 0, .int .i64 2, .int .i64 0, .slice A4 0 c4, .slice (some ae) 1 c5, .int .i64 0, .int .i64 0, .string ⟨#[]⟩, .int .i64 0, .int .i64 0, .int .i64 0, .int .i64 0] 129)).cell? ⟨w0.heap.size + 1, 5, none⟩ = some (.slice (some ae) 1 c5) by go_simp); have k6 := pw_cell_below hb (show ((w0.alloc (.cells #[.slice (some ab) 5 cb] 87)).alloc (.cells #[.int .i64 1, .int .i64 0, .int .i64 2, .int .i64 0, .slice A4 0 c4, .slice (some ae) 1 c5, .int .i64 0, .int .i64 0, .string ⟨#[]⟩, .int .i64 0, .int .i64 0, .int .i64 0, .int .i64 0] 129)).cell? ⟨w0.heap.size + 1, 6, none⟩ = some (.int .i64 0) by go_simp); have k7 := pw_cell_below hb (show ((w0.alloc (.cells #[.slice (some ab) 5 cb] 87)).alloc (.cells #[.int .i64 1, .int .i64 0, .int .i64 2, .int .i64 0, .slice A4 0 c4, .slice (some ae) 1 c5, .int .i64 0, .int .i64 0, .string ⟨#[]⟩, .int .i64 0, .int .i64 0, .int .i64 0, .int .i64 0] 129)).cell? ⟨w0.heap.size + 1, 7, none⟩ = some (.int .i64 0) by go_simp); have k8 := pw_cell_below hb (show ((w0.alloc (.cells #[.slice (some ab) 5 cb] 87)).alloc (.cells #[.int .i64 1, .int .i64 0, .int .i64 2, .int .i64 0, .slice A4 0 c4, .slice (some ae) 1 c5, .int .i64 0, .int .i64 0, .string ⟨#[]⟩, .int .i64 0, .int .i64 0, .int .i64 0, .int .i64 0] 129)).cell? ⟨w0.heap.size + 1, 8, none⟩ = some (.string ⟨#[]⟩) by go_simp); have k9 := pw_cell_below hb (show ((w0.alloc (.cells #[.slice (some ab) 5 cb] 87)).alloc (.cells #[.int .i64 1, .int .i64 0, .int .i64 2, .int .i64 0, .slice A4 0 c4, .slice (some ae) 1 c5, .int .i64 0, .int .i64 0, .string ⟨#[]⟩, .int .i64 0, .int .i64 0, .int .i64 0, .int .i64 0] 129)).cell? ⟨w0.heap.size + 1, 9, none⟩ = some (.int .i64 0) by go_simp); have k10 := pw_cell_below hb (show ((w0.alloc (.cells #[.slice (some ab) 5 cb] 87)).alloc (.cells #[.int .i64 1, .int .i64 0, .int .i64 2, .int .i64 0, .slice A4 0 c4, .slice (some ae) 1 c5, .int .i64 0, .int .i64 0, .string ⟨#[]⟩, .int .i64 0, .int .i64 0, .int .i64 0, .int .i64 0] 129)).cell? ⟨w0.heap.size + 1, 10, none⟩ = some (.int .i64 0) by go_simp); have k11 := pw_cell_below hb (show ((w0.alloc (.cells #[.slice (some ab) 5 cb] 87)).alloc (.cells #[.int .i64 1, .int .i64 0, .int .i64 2, .int .i64 0, .slice A4 0 c4, .slice (some ae) 1 c5, .int .i64 0, .int .i64 0, .string ⟨#[]⟩, .int .i64 0, .int .i64 0, .int .i64 0, .int .i64 0] 129)).cell? ⟨w0.heap.size + 1, 11, none⟩ = some (.int .i64 0) by go_simp); have k12 := pw_cell_below hb (show ((w0.alloc (.cells #[.slice (some ab) 5 cb] 87)).alloc (.cells #[.int .i64 1, .int .i64 0, .int .i64 2, .int .i64 0, .slice A4 0 c4, .slice (some ae) 1 c5, .int .i64 0, .int .i64 0, .string ⟨#[]⟩, .int .i64 0, .int .i64 0, .int .i64 0, .int .i64 0] 129)).cell? ⟨w0.heap.size + 1, 12, none⟩ = some (.int .i64 0) by go_simp); have HX1 := Aside0.mk (below_step (W := (w0.alloc (.cells #[.slice (some ab) 5 cb] 87)).alloc (.cells #[.int .i64 1, .int .i64 0, .int .i64 2, .int .i64 0, .slice A4 0 c4, .slice (some ae) 1 c5, .int .i64 0, .int .i64 0, .string ⟨#[]⟩, .int .i64 0, .int .i64 0, .int .i64 0, .int .i64 0] 129)) (below_alloc (below_alloc (Below.refl _ _) _) _) hb); clear hb)) | (go_at_call 137; go_loud ((with_reducible refine (H9.out _).mono ?_); rintro e w2 ⟨rfl, hb⟩; have mb := pw_cell_below hb kb; have m0 := pw_cell_below hb k0; have m1 := pw_cell_below hb k1; have m2 := pw_cell_below hb k2; have m3 := pw_cell_below hb k3; have m4 := pw_cell_below hb k4; have m5 := pw_cell_below hb k5; have m6 := pw_cell_below hb k6; have m7 := pw_cell_below hb k7; have m8 := pw_cell_below hb k8; have m9 := pw_cell_below hb k9; have m10 := pw_cell_below hb k10; have m11 := pw_cell_below hb k11; have m12 := pw_cell_below hb k12; have HX2 := Aside0.mk (below_step HX1.out hb); clear hb)))
  have e0 := pw_cell_below HX2.out HE0.out
  have e1 := pw_cell_below HX2.out HE1.out
  have e2 := pw_cell_below HX2.out HE2.out
  have HB := HX2
  refine wp_loop_rounds 2 ?_
  rw [rounds_succ]
  go_wp2_with (go_at_call 138; go_loud ((with_reducible refine (W8.out _).mono ?_); rintro e w4 ⟨rfl, hb⟩; have z0 := pw_cell_below hb (show (w2.alloc (.cells #[.int .i64 0, .int .i64 2, .string ⟨#[97]⟩] 132)).cell? ⟨w2.heap.size, 0, none⟩ = some (.int .i64 0) by go_simp); have z1 := pw_cell_below hb (show (w2.alloc (.cells #[.int .i64 0, .int .i64 2, .string ⟨#[97]⟩] 132)).cell? ⟨w2.heap.size, 1, none⟩ = some (.int .i64 2) by go_simp); have y0 := pw_cell_below hb (show (w2.alloc (.cells #[.int .i64 0, .int .i64 2, .string ⟨#[97]⟩] 132)).cell? ⟨ab.block, ab.off + 13, none⟩ = some (.int .i64 2) from Kd.cell_old _ (pw_cell_below HB.out HB0.out)); have n5 := pw_cell_below hb (show (w2.alloc (.cells #[.int .i64 0, .int .i64 2, .string ⟨#[97]⟩] 132)).cell? ⟨w0.heap.size + 1, 5, none⟩ = _ from Kd.cell_old _ m5); have nb := pw_cell_below hb (show (w2.alloc (.cells #[.int .i64 0, .int .i64 2, .string ⟨#[97]⟩] 132)).cell? ⟨w0.heap.size, 0, none⟩ = _ from Kd.cell_old _ mb); have HX4 := Aside0.mk (below_step (below_alloc HB.out _) hb); clear hb))
  refine wp_loop_rounds 1 ?_
  rw [rounds_succ]
  go_wp2
  rw [rounds_succ]
  go_wp2
  go_ret
  exact ⟨rfl, HX4.out⟩
end Go.Proofs.Ytdkbhbolkieeiaa.K
namespace Go.Proofs.Ytdkbhbolkieeiaa.K
open Go.RowKit Go.Proofs.YtdkbhbolkieeiaaW.PrintWords Go.Proofs.YtdkbhbolkieeiaaW.PrintLast Go.Proofs.YtdkbhbolkieeiaaW.PrintMore
set_option linter.unusedVariables false
set_option linter.unusedSimpArgs false
theorem exec_load40 {P : Program} {o : Oper} {a : Act} {W : World} {ty : TypeId} {x : Operand} {v u : Value} (ho : o.op = .load ty x) (hx : a.eval x = v) (h : (Instr.loadAt ty v).run P W = .ok u W) : (execOp a.eval o).run P W = .ok (.value u) W := by
  unfold execOp
  simp only [ho, hx, Sem.run_bind, h, Result.andThen_ok, Sem.run_pure]
set_option maxHeartbeats 1000000 in
set_option maxRecDepth 100000 in
theorem layer40_walk (g0 g2 g3 sp : Int) (ab : Addr) (cb : Nat) (nv : Nat → List Value) (w0 : World)
    (hN : ∀ i, i < 5 → ∀ W, Below w0.heap.size w0 W → (Instr.loadAt 129 (.pointer (some (ab.add (i * 13))))).run Try.prog W = .ok (.agg (nv i).toArray) W)
    (hC : ∀ i, i < 5 → ∀ W, Below w0.heap.size w0 W → Calls Try.prog 133 #[.agg #[.slice (some ab) 5 cb], .agg (nv i).toArray, .int .i64 sp] W fun e w' => e = .returned (.bool true) ∧ Below W.heap.size W w') :
    Calls Try.prog 129 #[.agg #[.int .i64 g0, .int .i64 5, .int .i64 g2, .int .i64 g3], .agg #[.slice (some ab) 5 cb], .int .i64 sp] w0 fun e w' => e = .returned (.bool true) ∧ Below w0.heap.size w0 w' := by
  have HN := Aside0.mk hN
  have HC := Aside0.mk hC
  clear hN hC
  go_enter Try.func129, Try.ntmps129
  go_wp2
  obtain ⟨w1, hw1⟩ : ∃ w1, w1 = (w0.alloc (.cells #[.int .i64 g0, .int .i64 5, .int .i64 g2, .int .i64 g3] 38)).alloc (.cells #[.slice (some ab) 5 cb] 87) := ⟨_, rfl⟩
  have H1 : Aside0 (Below w0.heap.size w0 w1) := ⟨by rw [hw1]; exact below_alloc (below_alloc (Below.refl _ _) _) _⟩
  have BB : w1.heap[w0.heap.size + 1]? = some (.cells #[.slice (some ab) 5 cb] 87 (0, 0)) := by rw [hw1]; exact heap_at2 (by simp)
  have hlt : w0.heap.size + 1 < w1.heap.size := by rw [hw1]; simp
  have HBB := Aside0.mk BB
  have HLT := Aside0.mk hlt
  refine go_on40 ?_
  rw [← hw1]
  clear hw1 BB hlt
  go_loopw [7] (fun v7 w' => ∃ m : Nat, v7 = .int .i64 m ∧ Aside0 (m ≤ 5) ∧ Aside0 (Below w1.heap.size w1 w')) (fun v7 _ => 5 - (intOf v7).toNat)
  case atStart => exact ⟨0, rfl, ⟨by omega⟩, ⟨Below.refl _ _⟩⟩
  case round =>
    obtain ⟨m, rfl, hm, HB⟩ := hrel
    have hm' := hm.out
    have y0 : wr.cell? ⟨w0.heap.size + 1, 0, none⟩ = some (.slice (some ab) 5 cb) := (blk_cell (blk_below HBB.out HB.out) 0).trans rfl
    by_cases hlt : m < 5
    · have hlt' : (m : Int) < 5 := by omega
      have h0 : (0 : Int) ≤ m := by omega
      have HBR := Aside0.mk (below_step H1.out HB.out)
      go_wp2
      refine start_ (n := 9) (S := fun w' => w'.cell? ⟨w0.heap.size + 1, 0, none⟩ = some (.slice (some ab) 5 cb) ∧ Below w0.heap.size w0 w') (ds := []) #[false, false, false, false, false, false, false, false, false] (by kernel_rfl) rfl rfl ⟨(show wr.drew.cell? _ = _ from y0), below_drew1 HBR.out⟩ (fun hHeld => ?_)
      refine pure_ (i := 1) (N := some 22) (v := ?_) (a' := ?_) #[false, true, false, false, false, false, false, false, false] rfl rfl (by kernel_rfl) (fun _ _ _ h => h) (Or.inl ⟨by rfl, ?_⟩) ?_ ?_
      rotate_left
      · intro w'
        go_simp
        with_reducible rfl
      rotate_left
      · simp only [Act.put, List.setIfInBounds_toArray, List.set_cons_zero, List.set_cons_succ, i64_w, i32_w]
        rfl
      refine pure_ (i := 3) (N := some 24) (v := ?_) (a' := ?_) #[false, true, false, true, false, false, false, false, false] rfl rfl (by kernel_rfl) (fun _ _ _ h => h) (Or.inl ⟨by rfl, ?_⟩) ?_ ?_
      rotate_left
      · intro w'
        go_simp
        with_reducible rfl
      rotate_left
      · simp only [Act.put, List.setIfInBounds_toArray, List.set_cons_zero, List.set_cons_succ, i64_w, i32_w]
        rfl
      refine pure_ (i := 6) (N := some 27) (v := ?_) (a' := ?_) #[false, true, false, true, false, false, true, false, false] rfl rfl (by kernel_rfl) (fun _ _ _ h => h) (Or.inl ⟨by rfl, ?_⟩) ?_ ?_
      rotate_left
      · intro w'
        go_simp
        with_reducible rfl
      rotate_left
      · simp only [Act.put, List.setIfInBounds_toArray, List.set_cons_zero, List.set_cons_succ, i64_w, i32_w]
        rfl
      refine take_ (i := 0) (N := some 21) (v := ?_) (a' := ?_) #[true, true, false, true, false, false, true, false, false] rfl rfl (by kernel_rfl) (fun _ _ _ h => h) (Or.inl ⟨by rfl, ?_⟩) hHeld ?_ ?_
      rotate_left
      · rintro w' ⟨s0, s1⟩
        go_simp
        with_reducible rfl
      rotate_left
      · simp only [Act.put, List.setIfInBounds_toArray, List.set_cons_zero, List.set_cons_succ, i64_w, i32_w]
        rfl
      refine take_ (i := 2) (N := some 23) (v := ?_) (a' := ?_) #[true, true, true, true, false, false, true, false, false] rfl rfl (by kernel_rfl) (fun _ _ _ h => h) (Or.inl ⟨by rfl, ?_⟩) hHeld ?_ ?_
      rotate_left
      · rintro w' ⟨s0, s1⟩
        go_simp
        with_reducible rfl
      rotate_left
      · simp only [Act.put, List.setIfInBounds_toArray, List.set_cons_zero, List.set_cons_succ, i64_w, i32_w]
        rfl
      refine pure_ (i := 4) (N := some 25) (v := ?_) (a' := ?_) #[true, true, true, true, true, false, true, false, false] rfl rfl (by kernel_rfl) (fun _ _ _ h => h) (Or.inl ⟨by rfl, ?_⟩) ?_ ?_
      rotate_left
      · intro w'
        go_simp
        with_reducible rfl
      rotate_left
      · simp only [Act.put, List.setIfInBounds_toArray, List.set_cons_zero, List.set_cons_succ, i64_w, i32_w]
        rfl
      refine take_ (i := 5) (N := some 26) (v := ?_) (a' := ?_) #[true, true, true, true, true, true, true, false, false] rfl rfl (by kernel_rfl) (fun _ _ _ h => h) (Or.inl ⟨by rfl, ?_⟩) hHeld ?_ ?_
      rotate_left
      · rintro w' ⟨s0, s1⟩
        rw [exec_load40 rfl (show _ = Value.pointer (some (ab.add (m * 13))) from rfl) (HN.out m hlt w' s1)]
      rotate_left
      · simp only [Act.put, List.setIfInBounds_toArray, List.set_cons_zero, List.set_cons_succ, i64_w, i32_w]
        rfl
      refine one_ (i := 7) (N := some 28) #[true, true, true, true, true, true, true, true, false] rfl rfl (by kernel_rfl) (by decide) (fun K hK => ?_)
      refine goes_ Try.func133 (by kernel_rfl) rfl #[.agg #[.slice (some ab) 5 cb], .agg (nv m).toArray, .int .i64 sp] (by rfl) rfl rfl (by simp only [List.map_toArray, List.map_cons, List.map_nil]; rfl) ?_
      with_reducible refine (HC.out m hlt _ (below_drew1 HBR.out)).mono ?_
      rintro e w5 ⟨rfl, hb5⟩
      refine ⟨_, rfl, ?_⟩
      refine hK.out _ _ ⟨(pw_cell_below hb5 (show wr.drew.cell? _ = _ from y0)), (below_step (below_drew1 HBR.out) hb5)⟩ (fun hHeld => ?_)
      clear hK K
      refine norm_ (a' := ?_) ?_ ?_
      rotate_left
      · show Act.put _ (some 28) _ = _
        simp only [Act.put, List.setIfInBounds_toArray, List.set_cons_zero, List.set_cons_succ, i64_w, i32_w]
        rfl
      refine pure_ (i := 8) (N := some 29) (v := ?_) (a' := ?_) #[true, true, true, true, true, true, true, true, true] rfl rfl (by kernel_rfl) (fun _ _ _ h => h) (Or.inl ⟨by rfl, ?_⟩) ?_ ?_
      rotate_left
      · intro w'
        go_simp
        with_reducible rfl
      rotate_left
      · simp only [Act.put, List.setIfInBounds_toArray, List.set_cons_zero, List.set_cons_succ, i64_w, i32_w]
        rfl
      refine done_ (by kernel_rfl) ?_
      have HB5 : Aside0 (Below w1.heap.size w1 w5) := ⟨below_step (below_drew1 HB.out) hb5⟩
      clear hb5 hHeld HBR y0
      refine go_on40 ?_
      go_wp2
      exact ⟨⟨m + 1, rfl, ⟨by omega⟩, HB5⟩, by simp [intOf]; omega⟩
    · have hge : ¬ (m : Int) < 5 := by omega
      go_wp2
      go_ret
      exact ⟨rfl, below_step H1.out HB.out⟩
end Go.Proofs.Ytdkbhbolkieeiaa.K
namespace Go.Proofs.Ytdkbhbolkieeiaa.K
open Go.RowKit Go.Proofs.YtdkbhbolkieeiaaW.PrintWords Go.Proofs.YtdkbhbolkieeiaaW.PrintLast Go.Proofs.YtdkbhbolkieeiaaW.PrintMore
set_option linter.unusedVariables false
set_option linter.unusedSimpArgs false
set_option maxHeartbeats 1000000 in
set_option maxRecDepth 100000 in
theorem right40_walk (au al aln : Addr) (cu cl cln : Nat) (w0 : World) (hl : w0.cell? al = some (.slice (some aln) 5 cln))
    (hU : ∀ W, Below w0.heap.size w0 W → Calls Try.prog 129 #[.agg #[.int .i64 1, .int .i64 5, .int .i64 6, .int .i64 5], .agg #[.slice (some au) 5 cu], .int .i64 3] W fun e w' => e = .returned (.bool true) ∧ Below W.heap.size W w')
    (hL : ∀ W, Below w0.heap.size w0 W → Calls Try.prog 129 #[.agg #[.int .i64 1, .int .i64 5, .int .i64 6, .int .i64 5], .agg #[.slice (some aln) 5 cln], .int .i64 1] W fun e w' => e = .returned (.bool true) ∧ Below W.heap.size W w') :
    Calls Try.prog 118 #[.agg #[.int .i64 1, .int .i64 5, .int .i64 6, .int .i64 5, .slice (some au) 5 cu, .slice (some al) 1 cl]] w0 fun e w' => e = .returned (.bool true) ∧ Below w0.heap.size w0 w' := by
  have HU := Aside0.mk hU
  have HL := Aside0.mk hL
  have HA := Aside0.mk hl
  clear hU hL hl
  have WK : Aside0 (∀ W, Calls Try.prog 60 #[.agg #[.int .i64 1, .int .i64 5, .int .i64 6, .int .i64 5]] W fun e w' => e = .returned (.int .i64 0) ∧ Below W.heap.size W w') := ⟨fun W => (rCheck_walk 1 5 6 5 W).mono fun e w' h => ⟨by rw [h.1]; rfl, by rw [h.2]; exact below_alloc (Below.refl _ _) _⟩⟩
  go_enter Try.func118, Try.ntmps118
  go_wp2_with (first | (go_at_call 60; go_loud ((with_reducible refine (WK.out _).mono ?_); rintro e w1 ⟨rfl, hb⟩; have k0 := pw_cell_below hb (show (w0.alloc (.cells #[.int .i64 1, .int .i64 5, .int .i64 6, .int .i64 5, .slice (some au) 5 cu, .slice (some al) 1 cl] 90)).cell? ⟨w0.heap.size, 0, none⟩ = some (.int .i64 1) by go_simp); have k1 := pw_cell_below hb (show (w0.alloc (.cells #[.int .i64 1, .int .i64 5, .int .i64 6, .int .i64 5, .slice (some au) 5 cu, .slice (some al) 1 cl] 90)).cell? ⟨w0.heap.size, 1, none⟩ = some (.int .i64 5) by go_simp); have k2 := pw_cell_below hb (show (w0.alloc (.cells #[.int .i64 1, .int .i64 5, .int .i64 6, .int .i64 5, .slice (some au) 5 cu, .slice (some al) 1 cl] 90)).cell? ⟨w0.heap.size, 2, none⟩ = some (.int .i64 6) by go_simp); have k3 := pw_cell_below hb (show (w0.alloc (.cells #[.int .i64 1, .int .i64 5, .int .i64 6, .int .i64 5, .slice (some au) 5 cu, .slice (some al) 1 cl] 90)).cell? ⟨w0.heap.size, 3, none⟩ = some (.int .i64 5) by go_simp); have k4 := pw_cell_below hb (show (w0.alloc (.cells #[.int .i64 1, .int .i64 5, .int .i64 6, .int .i64 5, .slice (some au) 5 cu, .slice (some al) 1 cl] 90)).cell? ⟨w0.heap.size, 4, none⟩ = some (.slice (some au) 5 cu) by go_simp); have k5 := pw_cell_below hb (show (w0.alloc (.cells #[.int .i64 1, .int .i64 5, .int .i64 6, .int .i64 5, .slice (some au) 5 cu, .slice (some al) 1 cl] 90)).cell? ⟨w0.heap.size, 5, none⟩ = some (.slice (some al) 1 cl) by go_simp); have HX1 := Aside0.mk (below_step (below_alloc (Below.refl w0.heap.size w0) (.cells #[.int .i64 1, .int .i64 5, .int .i64 6, .int .i64 5, .slice (some au) 5 cu, .slice (some al) 1 cl] 90)) hb); clear hb)) | (go_at_call 129; go_loud ((with_reducible refine (HU.out _ HX1.out).mono ?_); rintro e w2 ⟨rfl, hb⟩; have m0 := pw_cell_below hb k0; have m1 := pw_cell_below hb k1; have m2 := pw_cell_below hb k2; have m3 := pw_cell_below hb k3; have m4 := pw_cell_below hb k4; have m5 := pw_cell_below hb k5; have HX2 := Aside0.mk (below_step HX1.out hb); clear hb HX1)))
  have y0 := pw_cell_below HX2.out HA.out
  clear k0 k1 k2 k3 k4 k5
  refine wp_loop_rounds 2 ?_
  rw [rounds_succ]
  go_wp2
  refine start_ (n := 9) (S := fun w' => w'.cell? ⟨w0.heap.size, 0, none⟩ = some (.int .i64 1) ∧ w'.cell? ⟨w0.heap.size, 1, none⟩ = some (.int .i64 5) ∧ w'.cell? ⟨w0.heap.size, 2, none⟩ = some (.int .i64 6) ∧ w'.cell? ⟨w0.heap.size, 3, none⟩ = some (.int .i64 5) ∧ w'.cell? ⟨w0.heap.size, 5, none⟩ = some (.slice (some al) 1 cl) ∧ w'.cell? al = some (.slice (some aln) 5 cln) ∧ Below w0.heap.size w0 w') (ds := []) #[false, false, false, false, false, false, false, false, false] (by kernel_rfl) rfl rfl ⟨(show w2.drew.cell? _ = _ from m0), (show w2.drew.cell? _ = _ from m1), (show w2.drew.cell? _ = _ from m2), (show w2.drew.cell? _ = _ from m3), (show w2.drew.cell? _ = _ from m5), (show w2.drew.cell? _ = _ from y0), below_drew1 HX2.out⟩ (fun hHeld => ?_)
  refine pure_ (i := 0) (N := some 32) (v := ?_) (a' := ?_) #[true, false, false, false, false, false, false, false, false] rfl rfl (by kernel_rfl) (fun _ _ _ h => h) (Or.inl ⟨by rfl, ?_⟩) ?_ ?_
  rotate_left
  · intro w'
    go_simp
    with_reducible rfl
  rotate_left
  · simp only [Act.put, List.setIfInBounds_toArray, List.set_cons_zero, List.set_cons_succ, i64_w, i32_w]
    rfl
  refine pure_ (i := 2) (N := some 34) (v := ?_) (a' := ?_) #[true, false, true, false, false, false, false, false, false] rfl rfl (by kernel_rfl) (fun _ _ _ h => h) (Or.inl ⟨by rfl, ?_⟩) ?_ ?_
  rotate_left
  · intro w'
    go_simp
    with_reducible rfl
  rotate_left
  · simp only [Act.put, List.setIfInBounds_toArray, List.set_cons_zero, List.set_cons_succ, i64_w, i32_w]
    rfl
  refine pure_ (i := 4) (N := some 36) (v := ?_) (a' := ?_) #[true, false, true, false, true, false, false, false, false] rfl rfl (by kernel_rfl) (fun _ _ _ h => h) (Or.inl ⟨by rfl, ?_⟩) ?_ ?_
  rotate_left
  · intro w'
    go_simp
    with_reducible rfl
  rotate_left
  · simp only [Act.put, List.setIfInBounds_toArray, List.set_cons_zero, List.set_cons_succ, i64_w, i32_w]
    rfl
  refine take_ (i := 1) (N := some 33) (v := ?_) (a' := ?_) #[true, true, true, false, true, false, false, false, false] rfl rfl (by kernel_rfl) (fun _ _ _ h => h) (Or.inl ⟨by rfl, ?_⟩) hHeld ?_ ?_
  rotate_left
  · rintro w' ⟨s0, s1, s2, s3, s4, s5, s6⟩
    go_simp
    with_reducible rfl
  rotate_left
  · simp only [Act.put, List.setIfInBounds_toArray, List.set_cons_zero, List.set_cons_succ, i64_w, i32_w]
    rfl
  refine take_ (i := 3) (N := some 35) (v := ?_) (a' := ?_) #[true, true, true, true, true, false, false, false, false] rfl rfl (by kernel_rfl) (fun _ _ _ h => h) (Or.inl ⟨by rfl, ?_⟩) hHeld ?_ ?_
  rotate_left
  · rintro w' ⟨s0, s1, s2, s3, s4, s5, s6⟩
    go_simp
    with_reducible rfl
  rotate_left
  · simp only [Act.put, List.setIfInBounds_toArray, List.set_cons_zero, List.set_cons_succ, i64_w, i32_w]
    rfl
  refine pure_ (i := 5) (N := some 37) (v := ?_) (a' := ?_) #[true, true, true, true, true, true, false, false, false] rfl rfl (by kernel_rfl) (fun _ _ _ h => h) (Or.inl ⟨by rfl, ?_⟩) ?_ ?_
  rotate_left
  · intro w'
    go_simp
    with_reducible rfl
  rotate_left
  · simp only [Act.put, List.setIfInBounds_toArray, List.set_cons_zero, List.set_cons_succ, i64_w, i32_w]
    rfl
  refine take_ (i := 6) (N := some 38) (v := ?_) (a' := ?_) #[true, true, true, true, true, true, true, false, false] rfl rfl (by kernel_rfl) (fun _ _ _ h => h) (Or.inl ⟨by rfl, ?_⟩) hHeld ?_ ?_
  rotate_left
  · rintro w' ⟨s0, s1, s2, s3, s4, s5, s6⟩
    go_simp
    with_reducible rfl
  rotate_left
  · simp only [Act.put, List.setIfInBounds_toArray, List.set_cons_zero, List.set_cons_succ, i64_w, i32_w]
    rfl
  refine one_ (i := 7) (N := some 39) #[true, true, true, true, true, true, true, true, false] rfl rfl (by kernel_rfl) (by decide) (fun K hK => ?_)
  refine goes_ Try.func129 (by kernel_rfl) rfl #[.agg #[.int .i64 1, .int .i64 5, .int .i64 6, .int .i64 5], .agg #[.slice (some aln) 5 cln], .int .i64 1] (by rfl) rfl rfl (by simp only [List.map_toArray, List.map_cons, List.map_nil]; rfl) ?_
  with_reducible refine (HL.out _ (below_drew1 HX2.out)).mono ?_
  rintro e w5 ⟨rfl, hb5⟩
  refine ⟨_, rfl, ?_⟩
  refine hK.out _ _ ⟨(pw_cell_below hb5 (show w2.drew.cell? _ = _ from m0)), (pw_cell_below hb5 (show w2.drew.cell? _ = _ from m1)), (pw_cell_below hb5 (show w2.drew.cell? _ = _ from m2)), (pw_cell_below hb5 (show w2.drew.cell? _ = _ from m3)), (pw_cell_below hb5 (show w2.drew.cell? _ = _ from m5)), (pw_cell_below hb5 (show w2.drew.cell? _ = _ from y0)), (below_step (below_drew1 HX2.out) hb5)⟩ (fun hHeld => ?_)
  clear hK K
  refine norm_ (a' := ?_) ?_ ?_
  rotate_left
  · show Act.put _ (some 39) _ = _
    simp only [Act.put, List.setIfInBounds_toArray, List.set_cons_zero, List.set_cons_succ, i64_w, i32_w]
    rfl
  refine pure_ (i := 8) (N := some 40) (v := ?_) (a' := ?_) #[true, true, true, true, true, true, true, true, true] rfl rfl (by kernel_rfl) (fun _ _ _ h => h) (Or.inl ⟨by rfl, ?_⟩) ?_ ?_
  rotate_left
  · intro w'
    go_simp
    with_reducible rfl
  rotate_left
  · simp only [Act.put, List.setIfInBounds_toArray, List.set_cons_zero, List.set_cons_succ, i64_w, i32_w]
    rfl
  refine done_ (by kernel_rfl) ?_
  have HB5 : Aside0 (Below w0.heap.size w0 w5) := ⟨below_step (below_drew1 HX2.out) hb5⟩
  have q5 := pw_cell_below hb5 (show w2.drew.cell? _ = _ from m5)
  clear hb5 hHeld m0 m1 m2 m3 m4 m5 y0
  refine go_on40 ?_
  go_wp2
  rw [rounds_succ]
  go_wp2
  go_ret
  exact ⟨rfl, HB5.out⟩
end Go.Proofs.Ytdkbhbolkieeiaa.K
namespace Go.Proofs.Ytdkbhbolkieeiaa.K
open Go.RowKit Go.Proofs.YtdkbhbolkieeiaaW.PrintWords Go.Proofs.YtdkbhbolkieeiaaW.PrintLast Go.Proofs.YtdkbhbolkieeiaaW.PrintMore
set_option linter.unusedVariables false
set_option linter.unusedSimpArgs false
set_option maxHeartbeats 1000000 in
set_option maxRecDepth 100000 in
theorem takes_none (kd im nl ge : Int) (A4 A5 : Option Addr) (c4 c5 : Nat) (k : Int) (h0 : 0 ≤ k) (hk : k < 5) (w : World) :
    Calls Try.prog 130 #[.agg #[.int .i64 kd, .int .i64 im, .int .i64 nl, .int .i64 ge, .slice A4 0 c4, .slice A5 0 c5, .int .i64 0, .int .i64 0, .string ⟨#[]⟩, .int .i64 0, .int .i64 0, .int .i64 0, .int .i64 0], .int .i64 k] w fun e w' => e = .returned (.bool (decide (k < 4 ∧ 64 * k < 0))) ∧ Below w.heap.size w w' := by
  have q := eqAttr
  rcases (by omega : k = 0 ∨ k = 1 ∨ k = 2 ∨ k = 3 ∨ k = 4) with rfl | rfl | rfl | rfl | rfl
  all_goals
    clear h0 hk
    go_enter Try.func130, Try.ntmps130
    go_wp2
    first
    | (refine wp_loop_rounds 1 ?_
       rw [rounds_succ]
       go_wp2
       go_ret
       exact ⟨by first | rfl | simp, (by repeat (first | exact Below.refl _ _ | apply Below.drew | apply below_alloc))⟩)
    | (go_ret
       exact ⟨by first | rfl | simp, (by repeat (first | exact Below.refl _ _ | apply Below.drew | apply below_alloc))⟩)
set_option maxHeartbeats 1000000 in
set_option maxRecDepth 100000 in
theorem takes_byte (kd im nl ge : Int) (A4 A5 : Option Addr) (c4 c5 : Nat) (k : Int) (h0 : 0 ≤ k) (hk : k < 5) (w : World) :
    Calls Try.prog 130 #[.agg #[.int .i64 kd, .int .i64 im, .int .i64 nl, .int .i64 ge, .slice A4 1 c4, .slice A5 0 c5, .int .i64 0, .int .i64 0, .string ⟨#[]⟩, .int .i64 0, .int .i64 0, .int .i64 0, .int .i64 0], .int .i64 k] w fun e w' => e = .returned (.bool (decide (k < 4 ∧ 64 * k < 1))) ∧ Below w.heap.size w w' := by
  have q := eqAttr
  rcases (by omega : k = 0 ∨ k = 1 ∨ k = 2 ∨ k = 3 ∨ k = 4) with rfl | rfl | rfl | rfl | rfl
  all_goals
    clear h0 hk
    go_enter Try.func130, Try.ntmps130
    go_wp2
    first
    | (refine wp_loop_rounds 1 ?_
       rw [rounds_succ]
       go_wp2
       go_ret
       exact ⟨by first | rfl | simp, (by repeat (first | exact Below.refl _ _ | apply Below.drew | apply below_alloc))⟩)
    | (go_ret
       exact ⟨by first | rfl | simp, (by repeat (first | exact Below.refl _ _ | apply Below.drew | apply below_alloc))⟩)
set_option maxHeartbeats 1000000 in
set_option maxRecDepth 100000 in
theorem takesE_0 (kd im nl ge : Int) (A4 : Option Addr) (ae : Addr) (c4 c5 : Nat) (k : Int) (h0 : 0 ≤ k) (hk : k < 5) (w0 : World) (he : w0.cell? ae = some (.int .i64 0)) :
    Calls Try.prog 130 #[.agg #[.int .i64 kd, .int .i64 im, .int .i64 nl, .int .i64 ge, .slice A4 0 c4, .slice (some ae) 1 c5, .int .i64 0, .int .i64 0, .string ⟨#[]⟩, .int .i64 0, .int .i64 0, .int .i64 0, .int .i64 0], .int .i64 k] w0 fun e w' => e = .returned (.bool (decide (k = 0))) ∧ Below w0.heap.size w0 w' := by
  have q := eqAttr
  have HE := Aside0.mk he
  clear he
  rcases (by omega : k = 0 ∨ k = 1 ∨ k = 2 ∨ k = 3 ∨ k = 4) with rfl | rfl | rfl | rfl | rfl
  all_goals
    clear h0 hk
    go_enter Try.func130, Try.ntmps130
    go_upto_region 1 with (fail)
    obtain ⟨w, hw⟩ : ∃ w, w = w0.alloc (.cells #[.int .i64 kd, .int .i64 im, .int .i64 nl, .int .i64 ge, .slice A4 0 c4, .slice (some ae) 1 c5, .int .i64 0, .int .i64 0, .string ⟨#[]⟩, .int .i64 0, .int .i64 0, .int .i64 0, .int .i64 0] 129) := ⟨_, rfl⟩
    refine go_on40 ?_
    rw [← hw]
    have HW := Aside0.mk hw
    have HB := Aside0.mk (Below.refl w.heap.size w)
    have H0 : Aside0 (Below w0.heap.size w0 w) := ⟨by rw [hw]; exact below_alloc (Below.refl _ _) _⟩
    have k0 : w.cell? ⟨w0.heap.size, 0, none⟩ = some (.int .i64 kd) := by rw [hw]; go_simp
    have k1 : w.cell? ⟨w0.heap.size, 1, none⟩ = some (.int .i64 im) := by rw [hw]; go_simp
    have k2 : w.cell? ⟨w0.heap.size, 2, none⟩ = some (.int .i64 nl) := by rw [hw]; go_simp
    have k3 : w.cell? ⟨w0.heap.size, 3, none⟩ = some (.int .i64 ge) := by rw [hw]; go_simp
    have k4 : w.cell? ⟨w0.heap.size, 4, none⟩ = some (.slice A4 0 c4) := by rw [hw]; go_simp
    have k5 : w.cell? ⟨w0.heap.size, 5, none⟩ = some (.slice (some ae) 1 c5) := by rw [hw]; go_simp
    have hlt0 : w0.heap.size < w.heap.size := by rw [hw]; simp
    clear hw
    have e0 := pw_cell_below H0.out HE.out
    have k6 : w.cell? ⟨w0.heap.size, 6, none⟩ = some (.int .i64 0) := by rw [HW.out]; go_simp
    have k7 : w.cell? ⟨w0.heap.size, 7, none⟩ = some (.int .i64 0) := by rw [HW.out]; go_simp
    have k8 : w.cell? ⟨w0.heap.size, 8, none⟩ = some (.string ⟨#[]⟩) := by rw [HW.out]; go_simp
    have k9 : w.cell? ⟨w0.heap.size, 9, none⟩ = some (.int .i64 0) := by rw [HW.out]; go_simp
    have k10 : w.cell? ⟨w0.heap.size, 10, none⟩ = some (.int .i64 0) := by rw [HW.out]; go_simp
    have k11 : w.cell? ⟨w0.heap.size, 11, none⟩ = some (.int .i64 0) := by rw [HW.out]; go_simp
    have k12 : w.cell? ⟨w0.heap.size, 12, none⟩ = some (.int .i64 0) := by rw [HW.out]; go_simp
    go_wp2
    first
    | (refine wp_loop_rounds 2 ?_
       rw [rounds_succ]
       go_wp2
       first
       | (go_ret
          exact ⟨by first | rfl | simp, H0.out⟩)
       | (rw [rounds_succ]
          go_wp2
          go_ret
          exact ⟨by first | rfl | simp, H0.out⟩))
    | (go_ret
       exact ⟨by first | rfl | simp, H0.out⟩)
set_option maxHeartbeats 1000000 in
set_option maxRecDepth 100000 in
theorem takesE_1 (kd im nl ge : Int) (A4 : Option Addr) (ae : Addr) (c4 c5 : Nat) (k : Int) (h0 : 0 ≤ k) (hk : k < 5) (w0 : World) (he : w0.cell? ae = some (.int .i64 1)) :
    Calls Try.prog 130 #[.agg #[.int .i64 kd, .int .i64 im, .int .i64 nl, .int .i64 ge, .slice A4 0 c4, .slice (some ae) 1 c5, .int .i64 0, .int .i64 0, .string ⟨#[]⟩, .int .i64 0, .int .i64 0, .int .i64 0, .int .i64 0], .int .i64 k] w0 fun e w' => e = .returned (.bool (decide (k = 0))) ∧ Below w0.heap.size w0 w' := by
  have q := eqAttr
  have HE := Aside0.mk he
  clear he
  rcases (by omega : k = 0 ∨ k = 1 ∨ k = 2 ∨ k = 3 ∨ k = 4) with rfl | rfl | rfl | rfl | rfl
  all_goals
    clear h0 hk
    go_enter Try.func130, Try.ntmps130
    go_upto_region 1 with (fail)
    obtain ⟨w, hw⟩ : ∃ w, w = w0.alloc (.cells #[.int .i64 kd, .int .i64 im, .int .i64 nl, .int .i64 ge, .slice A4 0 c4, .slice (some ae) 1 c5, .int .i64 0, .int .i64 0, .string ⟨#[]⟩, .int .i64 0, .int .i64 0, .int .i64 0, .int .i64 0] 129) := ⟨_, rfl⟩
    refine go_on40 ?_
    rw [← hw]
    have HW := Aside0.mk hw
    have HB := Aside0.mk (Below.refl w.heap.size w)
    have H0 : Aside0 (Below w0.heap.size w0 w) := ⟨by rw [hw]; exact below_alloc (Below.refl _ _) _⟩
    have k0 : w.cell? ⟨w0.heap.size, 0, none⟩ = some (.int .i64 kd) := by rw [hw]; go_simp
    have k1 : w.cell? ⟨w0.heap.size, 1, none⟩ = some (.int .i64 im) := by rw [hw]; go_simp
    have k2 : w.cell? ⟨w0.heap.size, 2, none⟩ = some (.int .i64 nl) := by rw [hw]; go_simp
    have k3 : w.cell? ⟨w0.heap.size, 3, none⟩ = some (.int .i64 ge) := by rw [hw]; go_simp
    have k4 : w.cell? ⟨w0.heap.size, 4, none⟩ = some (.slice A4 0 c4) := by rw [hw]; go_simp
    have k5 : w.cell? ⟨w0.heap.size, 5, none⟩ = some (.slice (some ae) 1 c5) := by rw [hw]; go_simp
    have hlt0 : w0.heap.size < w.heap.size := by rw [hw]; simp
    clear hw
    have e0 := pw_cell_below H0.out HE.out
    have k6 : w.cell? ⟨w0.heap.size, 6, none⟩ = some (.int .i64 0) := by rw [HW.out]; go_simp
    have k7 : w.cell? ⟨w0.heap.size, 7, none⟩ = some (.int .i64 0) := by rw [HW.out]; go_simp
    have k8 : w.cell? ⟨w0.heap.size, 8, none⟩ = some (.string ⟨#[]⟩) := by rw [HW.out]; go_simp
    have k9 : w.cell? ⟨w0.heap.size, 9, none⟩ = some (.int .i64 0) := by rw [HW.out]; go_simp
    have k10 : w.cell? ⟨w0.heap.size, 10, none⟩ = some (.int .i64 0) := by rw [HW.out]; go_simp
    have k11 : w.cell? ⟨w0.heap.size, 11, none⟩ = some (.int .i64 0) := by rw [HW.out]; go_simp
    have k12 : w.cell? ⟨w0.heap.size, 12, none⟩ = some (.int .i64 0) := by rw [HW.out]; go_simp
    go_wp2
    first
    | (refine wp_loop_rounds 2 ?_
       rw [rounds_succ]
       go_wp2
       first
       | (go_ret
          exact ⟨by first | rfl | simp, H0.out⟩)
       | (rw [rounds_succ]
          go_wp2
          go_ret
          exact ⟨by first | rfl | simp, H0.out⟩))
    | (go_ret
       exact ⟨by first | rfl | simp, H0.out⟩)
def pad64 (x : Int) : List Int := x :: List.replicate 63 0
set_option maxHeartbeats 1000000 in
set_option maxRecDepth 100000 in
theorem block_byte (im nl ge x : Int) (ad : Addr) (A5 : Option Addr) (c4 c5 : Nat) (w0 : World) (hx : w0.cell? ad = some (.int .u8 x)) :
    Calls Try.prog 131 #[.agg #[.int .i64 2, .int .i64 im, .int .i64 nl, .int .i64 ge, .slice (some ad) 1 c4, .slice A5 0 c5, .int .i64 0, .int .i64 0, .string ⟨#[]⟩, .int .i64 0, .int .i64 0, .int .i64 0, .int .i64 0], .int .i64 0] w0 fun e w' => ∃ v : Value, e = .returned v ∧ Kd.R (Kd.int .u8) 5 w' w0.heap.size (fun _ => True) v (pad64 x) ∧ Below w0.heap.size w0 w' := by
  have HX := Aside0.mk hx
  clear hx
  go_enter Try.func131, Try.ntmps131
  go_upto_region 1 with (fail)
  obtain ⟨w, hw⟩ : ∃ w, w = w0.alloc (.cells #[.int .i64 2, .int .i64 im, .int .i64 nl, .int .i64 ge, .slice (some ad) 1 c4, .slice A5 0 c5, .int .i64 0, .int .i64 0, .string ⟨#[]⟩, .int .i64 0, .int .i64 0, .int .i64 0, .int .i64 0] 129) := ⟨_, rfl⟩
  refine go_on40 ?_
  rw [← hw]
  have HW := Aside0.mk hw
  have HB := Aside0.mk (Below.refl w.heap.size w)
  have H0 : Aside0 (Below w0.heap.size w0 w) := ⟨by rw [hw]; exact below_alloc (Below.refl _ _) _⟩
  have k0 : w.cell? ⟨w0.heap.size, 0, none⟩ = some (.int .i64 2) := by rw [hw]; go_simp
  have k1 : w.cell? ⟨w0.heap.size, 1, none⟩ = some (.int .i64 im) := by rw [hw]; go_simp
  have k2 : w.cell? ⟨w0.heap.size, 2, none⟩ = some (.int .i64 nl) := by rw [hw]; go_simp
  have k3 : w.cell? ⟨w0.heap.size, 3, none⟩ = some (.int .i64 ge) := by rw [hw]; go_simp
  have k4 : w.cell? ⟨w0.heap.size, 4, none⟩ = some (.slice (some ad) 1 c4) := by rw [hw]; go_simp
  have k5 : w.cell? ⟨w0.heap.size, 5, none⟩ = some (.slice A5 0 c5) := by rw [hw]; go_simp
  have hlt0 : w0.heap.size < w.heap.size := by rw [hw]; simp
  clear hw
  have K4 := Aside0.mk k4
  have HXW := Aside0.mk (pw_cell_below H0.out HX.out)
  have hP : Aside0 ((pad64 x).length = 64) := ⟨rfl⟩
  have P0 : Aside0 ((pad64 x).take (0 + 1) = (pad64 x).take 0 ++ [x]) := ⟨rfl⟩
  have PS : Aside0 (∀ m, m < 64 → m ≠ 0 → (pad64 x).take (m + 1) = (pad64 x).take m ++ [0]) := ⟨fun m hm h0 => by
    obtain ⟨j, rfl⟩ : ∃ j, m = j + 1 := ⟨m - 1, by omega⟩
    unfold pad64
    rw [List.take_succ_cons, List.take_succ_cons, List.take_replicate, List.take_replicate, Nat.min_eq_left (by omega), Nat.min_eq_left (by omega), List.replicate_succ', List.cons_append]⟩
  have PL : Aside0 (∀ m, m ≤ 64 → ((pad64 x).take m).length ≤ 64) := ⟨fun m hm => by rw [List.length_take, hP.out]; omega⟩
  go_wp2_with (((with_reducible refine gate_dst (N := 19) rfl ?_); refine Kd.R_lit (Kd.int .u8) _ 5 ?hg (N := 19) ?hd (xs := ([] : List Int)) (inner := []) (ok := fun _ => True) (okp := fun _ => True) ?hr ?hp (fun _ hk => hk) trivial (Below.refl _ _) (Nat.le_refl _) (by simp) ?_; (case hd => rfl); (case hg => rfl); (case hr => first | (go_simp; done) | (go_simp; rfl)); (case hp => exact (Reps.none _ _)); intro v114 w3 ho4 hb hg_ hnew_; clear hg_ hnew_; have n0_ := Aside0.mk (Kd.R_lower ho4 (below_size (by repeat (first | (with_reducible first | exact HB.out | apply below_alloc | apply pw_below_drewN | apply below_drew1) | exact HB.out)))); have n1_ := Aside0.mk (below_step (by repeat (first | (with_reducible first | exact HB.out | apply below_alloc | apply pw_below_drewN | apply below_drew1) | exact HB.out)) hb); clear HB; have HO1 := n0_; have HB := n1_; clear n0_ n1_; clear hb ho4))
  clear k0 k1 k2 k3 k4 k5
  go_loopw [5, 6] (fun v5 v6 w' => ∃ m : Nat, v6 = .int .i64 m ∧ Aside0 (m ≤ 64) ∧ Aside0 (Kd.R (Kd.int .u8) 5 w' w.heap.size (fun _ => True) v5 ((pad64 x).take m)) ∧ Aside0 (Below w.heap.size w w')) (fun _ i _ => 64 - (intOf i).toNat)
  case atStart => exact ⟨0, rfl, ⟨by omega⟩, HO1, HB⟩
  case round =>
    clear HB HO1
    obtain ⟨m, rfl, hm, HO1, HB⟩ := hrel
    have hm' := hm.out
    have c4_ := pw_cell_below HB.out K4.out
    by_cases hlt : m < 64
    · have hlt' : (m : Int) < 64 := by omega
      by_cases h0 : m = 0
      · subst h0
        have cx := pw_cell_below HB.out HXW.out
        have hl := Aside0.mk (PL.out 0 (by omega))
        go_wp2_with (first | ((with_reducible refine gate_builtin (b := .append) (xs := #[.tmp 34, .tmp 40]) rfl ?_); at_builtin; refine Kd.R_append (Kd.int .u8) (w0 := w) w.heap.size rfl (.tmp 34) (.tmp 40) 44 5 (.int .u8 0) 1 rfl Try.underlying44 u8info rfl (by decide) (by omega) _ ((pad64 x).take 0) x [.int .u8 x] (fun _ => True) (fun _ => False) rfl rfl ?aP (fun _ hk => hk.elim) ?aF ?aO ?aB ?aS ?aL ?_; (case aP => exact rfl); (case aB => exact (by repeat (first | (with_reducible first | exact HB.out | apply below_alloc | apply pw_below_drewN | apply below_drew1) | exact HB.out))); (case aF => exact (fun _ _ => trivial)); (case aO => exact (by (with_reducible repeat (first | apply Kd.R_alloc | apply Kd.R_drewN | apply Kd.R_drew)); exact HO1.out)); (case aS => exact (below_size (by repeat (first | (with_reducible first | exact HB.out | apply below_alloc | apply pw_below_drewN | apply below_drew1) | exact HB.out)))); (case aL => have := hl.out; omega); intro v9 w11 ho hb hg hat; have n0_ := Aside0.mk (hb); have n1_ := Aside0.mk (ho); clear HB; clear HO1; have HB := n0_; have HO2 := n1_; clear n0_ n1_; clear ho hb hg hat))
        exact ⟨⟨1, rfl, ⟨by omega⟩, ⟨by rw [P0.out]; exact HO2.out⟩, HB⟩, by simp [intOf]⟩
      · have h1 : ¬ (m : Int) < 1 := by omega
        have hl := Aside0.mk (PL.out m hm')
        have hs := Aside0.mk (PS.out m hlt h0)
        clear h0
        go_wp2_with (first | ((with_reducible refine gate_builtin (b := .append) (xs := #[.tmp 42, .tmp 43]) rfl ?_); at_builtin; refine Kd.R_append (Kd.int .u8) (w0 := w) w.heap.size rfl (.tmp 42) (.tmp 43) 44 5 (.int .u8 0) 1 rfl Try.underlying44 u8info rfl (by decide) (by omega) _ ((pad64 x).take m) 0 [.int .u8 0] (fun _ => True) (fun _ => False) rfl rfl ?aP (fun _ hk => hk.elim) ?aF ?aO ?aB ?aS ?aL ?_; (case aP => exact rfl); (case aB => exact (by repeat (first | (with_reducible first | exact HB.out | apply below_alloc | apply pw_below_drewN | apply below_drew1) | exact HB.out))); (case aF => exact (fun _ _ => trivial)); (case aO => exact (by (with_reducible repeat (first | apply Kd.R_alloc | apply Kd.R_drewN | apply Kd.R_drew)); exact HO1.out)); (case aS => exact (below_size (by repeat (first | (with_reducible first | exact HB.out | apply below_alloc | apply pw_below_drewN | apply below_drew1) | exact HB.out)))); (case aL => have := hl.out; omega); intro v9 w11 ho hb hg hat; have n0_ := Aside0.mk (hb); have n1_ := Aside0.mk (ho); clear HB; clear HO1; have HB := n0_; have HO2 := n1_; clear n0_ n1_; clear ho hb hg hat))
        exact ⟨⟨m + 1, rfl, ⟨by omega⟩, ⟨by rw [hs.out]; exact HO2.out⟩, HB⟩, by simp [intOf]; omega⟩
    · have hm64 : m = 64 := by omega
      subst hm64
      have e0 : (pad64 x).take 64 = pad64 x := List.take_of_length_le (Nat.le_of_eq hP.out)
      rw [e0] at HO1
      go_wp2
      go_ret
      exact ⟨_, rfl, Kd.R_lower HO1.out (by have := H0.out.size; omega), below_step H0.out HB.out⟩
end Go.Proofs.Ytdkbhbolkieeiaa.K
namespace Go.Proofs.Ytdkbhbolkieeiaa.K
open Go.RowKit Go.Proofs.YtdkbhbolkieeiaaW.PrintWords Go.Proofs.YtdkbhbolkieeiaaW.PrintLast Go.Proofs.YtdkbhbolkieeiaaW.PrintMore
set_option linter.unusedVariables false
set_option linter.unusedSimpArgs false
/-- The first j places of a block that has bytes at place s. -/
def blk8 (s : Nat) (B : List Int) (j : Nat) : List Int := (List.range j).flatMap fun q => if q = s then B else List.replicate 16 0
theorem blk8_succ (s : Nat) (B : List Int) (j : Nat) : blk8 s B (j + 1) = blk8 s B j ++ (if j = s then B else List.replicate 16 0) := by
  unfold blk8
  rw [List.range_succ, List.flatMap_append, List.flatMap_singleton]
theorem blk8_length {s : Nat} {B : List Int} (h : B.length = 16) : ∀ j, (blk8 s B j).length = 16 * j
  | 0 => rfl
  | j + 1 => by
    rw [blk8_succ, List.length_append, blk8_length h j]
    split
    · omega
    · rw [List.length_replicate]; omega
set_option maxHeartbeats 4000000 in
set_option maxRecDepth 100000 in
theorem block08_walk (s : Nat) (hs : s < 4) (ino : Int) (nm : ByteArray) (hR : rightE s ino nm = true) (ae : Addr) (c : Nat) (w : World) (h0 : w.cell? ae = some (.int .i64 s)) (h1 : w.cell? ⟨ae.block, ae.off + 1, none⟩ = some (.int .i64 ino)) (h2 : w.cell? ⟨ae.block, ae.off + 2, none⟩ = some (.string nm)) :
    Calls Try.prog 135 #[.slice (some ae) 1 c, .int .i64 0] w fun e w' => ∃ v : Value, e = .returned v ∧ Kd.R (Kd.int .u8) 5 w' w.heap.size (fun _ => True) v (blk8 s (bytesE ino nm) 4) ∧ Below w.heap.size w w' := by
  have HB := Aside0.mk (Below.refl w.heap.size w)
  have E0 := Aside0.mk h0
  have E1 := Aside0.mk h1
  have E2 := Aside0.mk h2
  have HL := Aside0.mk (blk8_length (s := s) (bytesE_length (ino := ino) (rightE_parts hR).2.2.2.2))
  have HS := Aside0.mk (blk8_succ s (bytesE ino nm))
  have W8 : Aside0 (∀ W, Calls Try.prog 138 #[.agg #[.int .i64 s, .int .i64 ino, .string nm]] W fun e w' => e = .returned (.bool true) ∧ Below W.heap.size W w') := ⟨fun W => by
    have := rERight_walk s ino nm W
    rw [hR] at this
    exact this⟩
  have WB := Aside0.mk (fun W => rEBytes_walk s ino nm W hR)
  have HL16 : Aside0 ((bytesE ino nm).length = 16) := ⟨bytesE_length (rightE_parts hR).2.2.2.2⟩
  obtain ⟨B, hBB⟩ : ∃ B, B = bytesE ino nm := ⟨_, rfl⟩
  rw [← hBB] at HL HS WB HL16 ⊢
  clear h0 h1 h2 hR hBB
  go_enter Try.func135, Try.ntmps135
  go_wp2_with (((with_reducible refine gate_dst (N := 9) rfl ?_); refine Kd.R_lit (Kd.int .u8) _ 5 ?hg (N := 9) ?hd (xs := ([] : List Int)) (inner := []) (ok := fun _ => True) (okp := fun _ => True) ?hr ?hp (fun _ hk => hk) trivial (Below.refl _ _) (Nat.le_refl _) (by simp) ?_; (case hd => rfl); (case hg => rfl); (case hr => first | (go_simp; done) | (go_simp; rfl)); (case hp => exact (Reps.none _ _)); intro v114 w3 ho4 hb hg_ hnew_; clear hg_ hnew_; have n0_ := Aside0.mk (Kd.R_lower ho4 (below_size (by repeat (first | (with_reducible first | exact HB.out | apply below_alloc | apply pw_below_drewN | apply below_drew1) | exact HB.out)))); have n1_ := Aside0.mk (below_step (by repeat (first | (with_reducible first | exact HB.out | apply below_alloc | apply pw_below_drewN | apply below_drew1) | exact HB.out)) hb); clear HB; have HO := n0_; have HB := n1_; clear n0_ n1_; clear hb ho4))
  go_loopw [5, 6] (fun v5 v6 w' => ∃ m : Nat, v6 = .int .i64 m ∧ Aside0 (m ≤ 4) ∧ Aside0 (Kd.R (Kd.int .u8) 5 w' w.heap.size (fun _ => True) v5 (blk8 s B m)) ∧ Aside0 (Below w.heap.size w w')) (fun _ i _ => 4 - (intOf i).toNat)
  case atStart => exact ⟨0, rfl, ⟨by omega⟩, HO, HB⟩
  case round =>
    clear HB HO
    obtain ⟨m, rfl, hm, HO, HB⟩ := hrel
    have hm' := hm.out
    obtain ⟨A5, c5, hv5⟩ := Kd.R_slice HO.out
    subst hv5
    by_cases hlt : m < 4
    · have hlt' : (m : Int) < 4 := by omega
      have hw1 : RowKit.wrap64 (0 + (m : Int)) = m := by unfold RowKit.wrap64; omega
      go_wp2_with (first | ((with_reducible refine gate_dst (N := 14) rfl ?_); refine Kd.R_make (Kd.int .u8) _ 5 rfl (N := 14) rfl 44 _ _ rfl (16) rfl rfl Try.underlying44 (.int .u8 0) 1 u8info rfl (by decide) (by omega) 0 (ok := fun _ => True) (okp := fun _ => True) rfl (fun _ hk => hk) trivial (by omega) (by omega) (Below.refl _ _) (Nat.le_refl _) ?_; intro v14 w14 ho hb hg_ hnew_; clear hg_ hnew_; obtain ⟨g14, c14, rfl, hg14, hl14, _, _⟩ := Kd.R_form ho (by simp); have HG14 := Aside0.mk (Nat.le_trans (below_size (by repeat (first | (with_reducible first | exact HB.out | apply below_alloc | apply pw_below_drewN | apply below_drew1) | exact HB.out))) hg14); clear hg14 hl14; have HO14 := Aside0.mk (Kd.R_lower ho (below_size (by repeat (first | (with_reducible first | exact HB.out | apply below_alloc | apply pw_below_drewN | apply below_drew1) | exact HB.out)))); have n1_ : Aside0 (Below w.heap.size w w14) := ⟨below_step (by repeat (first | (with_reducible first | exact HB.out | apply below_alloc | apply pw_below_drewN | apply below_drew1) | exact HB.out)) hb⟩; clear HB; have HB := n1_; clear n1_; have n0_ : Aside0 (Kd.R (Kd.int .u8) 5 w14 w.heap.size (fun _ => True) _ (blk8 s B m)) := ⟨Kd.R_below (by (with_reducible repeat (first | apply Kd.R_alloc | apply Kd.R_drewN | apply Kd.R_drew)); exact HO.out) hb⟩; clear HO; have HO := n0_; clear n0_; clear ho hb))
      have y0 := pw_cell_below HB.out E0.out
      have y1 := pw_cell_below HB.out E1.out
      have y2 := pw_cell_below HB.out E2.out
      refine wp_loop_rounds 2 ?_
      rw [rounds_succ]
      by_cases hms : m = s
      · have ht : ((s : Int) == (m : Int)) = true := by simp [hms]
        have es : blk8 s B (m + 1) = blk8 s B m ++ B := by rw [HS.out, if_pos hms]
        have ES := Aside0.mk es
        have hl0 := Aside0.mk (HL.out m)
        clear hms es
        go_wp2_with (first | (go_at_call 138; (with_reducible refine (W8.out _).mono ?_); rintro e w15 ⟨rfl, hb⟩; have n0_ : Aside0 (Kd.R (Kd.int .u8) 5 w15 w.heap.size (fun _ => True) _ (blk8 s B m)) := ⟨Kd.R_below (by (with_reducible repeat (first | apply Kd.R_alloc | apply Kd.R_drewN | apply Kd.R_drew)); exact HO.out) hb⟩; clear HO; have HO := n0_; clear n0_; have n1_ : Aside0 (Below w.heap.size w w15) := ⟨below_step (by repeat (first | (with_reducible first | exact HB.out | apply below_alloc | apply pw_below_drewN | apply below_drew1) | exact HB.out)) hb⟩; clear HB; have HB := n1_; clear n1_; have z0 := pw_cell_below hb y0; have z1 := pw_cell_below hb y1; have z2 := pw_cell_below hb y2; clear hb) | (go_at_call 139; (with_reducible refine (WB.out _).mono ?_); rintro e w16 ⟨A16, c16, rfl, hC, hb⟩; have n0_ : Aside0 (Kd.R (Kd.int .u8) 5 w16 w.heap.size (fun _ => True) _ (blk8 s B m)) := ⟨Kd.R_below (by (with_reducible repeat (first | apply Kd.R_alloc | apply Kd.R_drewN | apply Kd.R_drew)); exact HO.out) hb⟩; clear HO; have HO := n0_; clear n0_; have n1_ : Aside0 (Below w.heap.size w w16) := ⟨below_step (by repeat (first | (with_reducible first | exact HB.out | apply below_alloc | apply pw_below_drewN | apply below_drew1) | exact HB.out)) hb⟩; clear HB; have HB := n1_; clear n1_; have HC16 := Aside0.mk hC; clear hb hC))
        rw [rounds_succ]
        go_wp2_with (first | ((with_reducible refine gate_builtin (b := .append) (xs := #[.tmp 52, .tmp 53]) rfl ?_); at_builtin; refine Kd.R_append_rows (Kd.int .u8) (w0 := w) w.heap.size rfl (.tmp 52) (.tmp 53) 44 5 (.int .u8 0) 1 rfl Try.underlying44 u8info rfl (by decide) (by omega) _ (blk8 s B m) B _ _ _ (fun _ => True) (fun _ => False) rfl rfl ?aO ?aR (fun _ _ h => h) (fun _ h => h.elim) ?aF ?aB ?aS ?aL ?_; (case aR => exact (by first | exact HC16.out | (refine Kd.C_drewN ?_ _; exact HC16.out) | (refine Kd.C_alloc ?_ _; exact HC16.out))); (case aB => exact (by repeat (first | (with_reducible first | exact HB.out | apply below_alloc | apply pw_below_drewN | apply below_drew1) | exact HB.out))); (case aF => exact (fun _ _ => trivial)); (case aO => exact (by (with_reducible repeat (first | apply Kd.R_alloc | apply Kd.R_drewN | apply Kd.R_drew)); exact HO.out)); (case aS => exact (below_size (by repeat (first | (with_reducible first | exact HB.out | apply below_alloc | apply pw_below_drewN | apply below_drew1) | exact HB.out)))); (case aL => have := hl0.out; have := HL16.out; omega); intro v17 w11 ho hb hg hat; have n0_ := Aside0.mk (hb); have n1_ := Aside0.mk (ho); clear HB; clear HO; have HB := n0_; have HO2 := n1_; clear n0_ n1_; clear ho hb hg hat))
        exact ⟨⟨m + 1, rfl, ⟨by omega⟩, ⟨by rw [ES.out]; exact HO2.out⟩, HB⟩, by simp [intOf]; omega⟩
      · have ht : ((s : Int) == (m : Int)) = false := by simp; omega
        have es : blk8 s B (m + 1) = blk8 s B m ++ List.replicate (16 : Int).toNat 0 := by rw [HS.out, if_neg hms]; rfl
        have ES := Aside0.mk es
        have hl0 := Aside0.mk (HL.out m)
        have HR14 := Aside0.mk (Kd.R_reads' HO14.out).2.2
        clear hms es
        go_wp2_with (first | (go_at_call 138; (with_reducible refine (W8.out _).mono ?_); rintro e w15 ⟨rfl, hb⟩; have n0_ : Aside0 (Kd.R (Kd.int .u8) 5 w15 w.heap.size (fun _ => True) _ (blk8 s B m)) := ⟨Kd.R_below (by (with_reducible repeat (first | apply Kd.R_alloc | apply Kd.R_drewN | apply Kd.R_drew)); exact HO.out) hb⟩; clear HO; have HO := n0_; clear n0_; have n_ := Aside0.mk (Kd.C_below (by first | exact HR14.out | exact Kd.C_alloc HR14.out _) hb); clear HR14; have HR14 := n_; clear n_; have n1_ : Aside0 (Below w.heap.size w w15) := ⟨below_step (by repeat (first | (with_reducible first | exact HB.out | apply below_alloc | apply pw_below_drewN | apply below_drew1) | exact HB.out)) hb⟩; clear HB; have HB := n1_; clear n1_; have z0 := pw_cell_below hb y0; have z1 := pw_cell_below hb y1; have z2 := pw_cell_below hb y2; clear hb))
        rw [rounds_succ]
        go_wp2_with (first | ((with_reducible refine gate_builtin (b := .append) (xs := #[.tmp 52, .tmp 53]) rfl ?_); at_builtin; refine Kd.R_append_rows (Kd.int .u8) (w0 := w) w.heap.size rfl (.tmp 52) (.tmp 53) 44 5 (.int .u8 0) 1 rfl Try.underlying44 u8info rfl (by decide) (by omega) _ (blk8 s B m) (List.replicate (16 : Int).toNat 0) _ _ _ (fun _ => True) (fun _ => False) rfl rfl ?aO ?aR (fun _ _ h => h) (fun _ h => h.elim) ?aF ?aB ?aS ?aL ?_; (case aR => exact (by first | exact HR14.out | (refine Kd.C_drewN ?_ _; exact HR14.out) | (refine Kd.C_alloc ?_ _; exact HR14.out))); (case aB => exact (by repeat (first | (with_reducible first | exact HB.out | apply below_alloc | apply pw_below_drewN | apply below_drew1) | exact HB.out))); (case aF => exact (fun _ _ => trivial)); (case aO => exact (by (with_reducible repeat (first | apply Kd.R_alloc | apply Kd.R_drewN | apply Kd.R_drew)); exact HO.out)); (case aS => exact (below_size (by repeat (first | (with_reducible first | exact HB.out | apply below_alloc | apply pw_below_drewN | apply below_drew1) | exact HB.out)))); (case aL => have := hl0.out; simp; omega); intro v17 w11 ho hb hg hat; have n0_ := Aside0.mk (hb); have n1_ := Aside0.mk (ho); clear HB; clear HO; have HB := n0_; have HO2 := n1_; clear n0_ n1_; clear ho hb hg hat))
        exact ⟨⟨m + 1, rfl, ⟨by omega⟩, ⟨by rw [ES.out]; exact HO2.out⟩, HB⟩, by simp [intOf]; omega⟩
    · have hm4 : m = 4 := by omega
      subst hm4
      go_wp2
      go_ret
      exact ⟨_, rfl, HO.out, HB.out⟩
set_option maxHeartbeats 1000000 in
set_option maxRecDepth 100000 in
theorem block_dir (s : Nat) (hs : s < 4) (im nl ge ino : Int) (nm : ByteArray) (hR : rightE s ino nm = true) (A4 : Option Addr) (ae : Addr) (c4 c5 : Nat) (w0 : World) (h0 : w0.cell? ae = some (.int .i64 s)) (h1 : w0.cell? ⟨ae.block, ae.off + 1, none⟩ = some (.int .i64 ino)) (h2 : w0.cell? ⟨ae.block, ae.off + 2, none⟩ = some (.string nm)) :
    Calls Try.prog 131 #[.agg #[.int .i64 1, .int .i64 im, .int .i64 nl, .int .i64 ge, .slice A4 0 c4, .slice (some ae) 1 c5, .int .i64 0, .int .i64 0, .string ⟨#[]⟩, .int .i64 0, .int .i64 0, .int .i64 0, .int .i64 0], .int .i64 0] w0 fun e w' => ∃ v : Value, e = .returned v ∧ Kd.R (Kd.int .u8) 5 w' w0.heap.size (fun _ => True) v (blk8 s (bytesE ino nm) 4) ∧ Below w0.heap.size w0 w' := by
  have WB : Aside0 (∀ W, Below w0.heap.size w0 W → Calls Try.prog 135 #[.slice (some ae) 1 c5, .int .i64 0] W fun e w' => ∃ v : Value, e = .returned v ∧ Kd.R (Kd.int .u8) 5 w' W.heap.size (fun _ => True) v (blk8 s (bytesE ino nm) 4) ∧ Below W.heap.size W w') := ⟨fun W hB => block08_walk s hs ino nm hR ae c5 W (pw_cell_below hB h0) (pw_cell_below hB h1) (pw_cell_below hB h2)⟩
  obtain ⟨B, hBB⟩ : ∃ B, B = blk8 s (bytesE ino nm) 4 := ⟨_, rfl⟩
  rw [← hBB] at WB ⊢
  clear h0 h1 h2 hR hBB
  go_enter Try.func131, Try.ntmps131
  go_wp2_with (go_at_call 135; go_loud ((with_reducible refine (WB.out _ (below_alloc (Below.refl _ _) _)).mono ?_); rintro e w1 ⟨v1, rfl, ho, hb⟩; have HO := Aside0.mk (Kd.R_lower ho (below_size (below_alloc (Below.refl w0.heap.size w0) _))); have HB := Aside0.mk (below_step (below_alloc (Below.refl _ _) _) hb); clear ho hb))
  go_ret
  exact ⟨_, rfl, HO.out, HB.out⟩
end Go.Proofs.Ytdkbhbolkieeiaa.K
