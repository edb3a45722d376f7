/- slices.Equal of pairs; the reference's pointer; kinds turned. -/
import Derived.Test.YtdkbhbolkieeiaaK11f
import Derived.Test.YtdkbhbolkieeiaaKBytes
namespace Go.Proofs.Ytdkbhbolkieeiaa.K
open Go.RowKit Go.Proofs.YtdkbhbolkieeiaaW.PrintWords Go.Proofs.YtdkbhbolkieeiaaW.PrintLast Go.Proofs.YtdkbhbolkieeiaaW.PrintMore
set_option linter.unusedVariables false
set_option linter.unusedSimpArgs false
theorem int_sizeG (w : World) : (sizeOf 3).run Try.prog w = .ok 1 w := int_size w
theorem eqP2 (w : World) (a b a' b' : Int) : (Op.equalIn 10000 30 (.agg #[.int .i64 a, .int .i64 b]) (.agg #[.int .i64 a', .int .i64 b'])).run Try.prog w = .ok (a == a' && b == b') w := by
  have h := run_equalIn_ints (P := Try.prog) w .i64 9998 30 3 2 Try.underlying30 Try.underlying3 int_size [a, b] [a', b'] rfl rfl
  rw [show (([a, b] : List Int) == [a', b']) = (a == a' && b == b') by simp [List.cons_beq_cons]] at h
  exact h
theorem eqP2_t (w : World) (x : Int × Int) : (Op.equalIn 10000 30 (.agg #[.int .i64 x.1, .int .i64 x.2]) (.agg #[.int .i64 x.1, .int .i64 x.2])).run Try.prog w = .ok true w := by
  rw [eqP2]; simp
theorem eqP2_f (w : World) {x y : Int × Int} (h : ¬ x = y) : (Op.equalIn 10000 30 (.agg #[.int .i64 x.1, .int .i64 x.2]) (.agg #[.int .i64 y.1, .int .i64 y.2])).run Try.prog w = .ok false w := by
  rw [eqP2]
  congr 1
  cases hb : (x.1 == y.1 && x.2 == y.2) with
  | false => rfl
  | true =>
    exfalso
    simp only [Bool.and_eq_true, beq_iff_eq] at hb
    exact h (Prod.ext hb.1 hb.2)
set_option maxRecDepth 100000 in
theorem eqP2_walk (A1 : Option Addr) (c1 : Nat) (a : List (Int × Int)) (A2 : Option Addr) (c2 : Nat) (b : List (Int × Int)) (w : World) (h1 : Kd.C kP2 w A1 a.length a) (h2 : Kd.C kP2 w A2 b.length b) (ha : a.length < 140737488355328) :
    Calls Try.prog 16 #[.slice A1 a.length c1, .slice A2 b.length c2] w fun e w' => e = .returned (.bool (decide (a = b))) ∧ Drawn0 w w' := by
  have HA := Aside0.mk h1
  have HB := Aside0.mk h2
  clear h1 h2
  by_cases hl : a.length = b.length
  case neg =>
    have E0 : Aside0 (decide (a = b) = false) := ⟨by simp; intro h; exact hl (by rw [h])⟩
    have hb : ((a.length : Int) != b.length) = true := by simp; omega
    clear hl
    go_enter Try.func16, Try.ntmps16
    go_wp2
    go_ret
    exact ⟨ret_b (by rw [E0.out]), Drawn0.refl _⟩
  obtain ⟨n, hn⟩ : ∃ n, a.length = n := ⟨_, rfl⟩
  have hnb : b.length = n := by omega
  rw [hn] at HA ha ⊢
  rw [hnb] at HB ⊢
  have HN := Aside0.mk hn
  have HNb := Aside0.mk hnb
  clear hl hn hnb
  go_enter Try.func16, Try.ntmps16
  go_wp2
  go_loopw [13] (fun v5 w' => ∃ m : Nat, v5 = .int .i64 m ∧ Aside0 (m ≤ n) ∧ Aside0 (a.take m = b.take m) ∧ Aside0 (∃ d, w' = w.drewN d)) (fun i _ => n - (intOf i).toNat)
  case atStart => exact ⟨0, rfl, ⟨Nat.zero_le _⟩, ⟨rfl⟩, ⟨0, rfl⟩⟩
  case round =>
    obtain ⟨m, rfl, hm, ht, ⟨d, rfl⟩⟩ := hrel
    have hm' := hm.out
    by_cases hlt : m < n
    · have la := HN.out
      have lb := HNb.out
      obtain ⟨ad1, rfl, hx, hxs⟩ := Kd.at_flatA HA.out (show m < a.length by omega)
      obtain ⟨ad2, rfl, hy, hys⟩ := Kd.at_flatA HB.out (show m < b.length by omega)
      have hta : a.take (m + 1) = a.take m ++ [a[m]] := List.take_succ_eq_append_getElem (by omega)
      have htb : b.take (m + 1) = b.take m ++ [b[m]] := List.take_succ_eq_append_getElem (by omega)
      obtain ⟨x, hxx⟩ : ∃ x, x = a[m] := ⟨_, rfl⟩
      obtain ⟨y, hyy⟩ : ∃ y, y = b[m] := ⟨_, rfl⟩
      rw [← hxx] at hx hxs hta
      rw [← hyy] at hy hys htb
      have x0 := hx _ rfl
      have x1 := hxs 0 _ rfl
      simp only [Nat.reduceAdd] at x1
      have y0 := hy _ rfl
      have y1 := hys 0 _ rfl
      simp only [Nat.reduceAdd] at y1
      by_cases hxy : x = y
      · have hT : Aside0 (a.take (m + 1) = b.take (m + 1)) := ⟨by rw [hta, htb, ht.out, hxy]⟩
        clear hta htb hxx hyy la lb hx hxs hy hys
        subst hxy
        have q := fun w => eqP2_t w x
        go_wp2
        go_quiet (fail)
        go_wp2
        exact ⟨⟨m + 1, rfl, ⟨by omega⟩, hT, ⟨_, rfl⟩⟩, by simp [intOf]; omega⟩
      · have hT : Aside0 (decide (a = b) = false) := ⟨by simp; intro h; subst h; exact hxy (hxx.trans hyy.symm)⟩
        have q := fun w => eqP2_f w hxy
        clear hta htb hxx hyy la lb hxy hx hxs hy hys
        go_wp2
        go_quiet (fail)
        go_wp2
        go_ret
        exact ⟨ret_b (by rw [hT.out]), (by repeat (first | exact Drawn0.refl _ | apply Drawn0.step))⟩
    · have hkm : m = n := by omega
      subst hkm
      have E1 : Aside0 (decide (a = b) = true) := ⟨by have := ht.out; rw [List.take_of_length_le (by have := HN.out; omega), List.take_of_length_le (by have := HNb.out; omega)] at this; simp [this]⟩
      go_wp2
      go_ret
      exact ⟨ret_b (by rw [E1.out]), ⟨⟨_, rfl⟩⟩⟩
/-- A reading told by another kind. -/
theorem C_turnI {α β : Type} {d : Kd α} {d' : Kd β} (f : β → α) (hs : d'.sz = d.sz) (hc : ∀ w a cs, d.K w a cs → ∃ b, d'.K w b cs ∧ f b = a) {W : World} {A : Option Addr} {n : Nat} {xs : List α} (h : d.C W A n xs) : ∃ ys, d'.C W A n ys ∧ ys.map f = xs := by
  obtain ⟨h1, h2, h3⟩ := h
  rcases Nat.eq_zero_or_pos n with h0 | h0
  · subst h0
    have : xs = [] := List.length_eq_zero_iff.1 h1
    subst this
    exact ⟨[], ⟨rfl, h2, fun h => absurd h (Nat.lt_irrefl 0)⟩, rfl⟩
  obtain ⟨ad, hA, hx⟩ := h3 h0
  have key : ∀ j : Fin xs.length, ∃ b, f b = xs[j] ∧ ∃ cs, cs.length = d'.sz ∧ d'.K W b cs ∧ ∀ i u, cs[i]? = some u → W.cell? (ad.add (j.1 * d'.sz + i)) = some u := fun j => by
    obtain ⟨cs, hl, hk, hcell⟩ := hx j.1 xs[j] (List.getElem?_eq_getElem j.2)
    obtain ⟨b, hb, hf⟩ := hc W _ _ hk
    exact ⟨b, hf, cs, by rw [hs]; exact hl, hb, fun i u hu => by rw [hs]; exact hcell i u hu⟩
  refine ⟨List.ofFn fun j => (key j).choose, ⟨by rw [List.length_ofFn]; exact h1, h2, fun _ => ⟨ad, hA, fun j p hp => ?_⟩⟩, ?_⟩
  · obtain ⟨hj, rfl⟩ := List.getElem?_eq_some_iff.1 hp
    rw [List.length_ofFn] at hj
    have := (key ⟨j, hj⟩).choose_spec.2
    simpa using this
  · apply List.ext_getElem
    · simp
    · intro j h1 h2
      have := (key ⟨j, h2⟩).choose_spec.1
      simpa using this
/-- An own row told by another kind. -/
theorem R_turnI {α β : Type} {d : Kd α} {d' : Kd β} (g : α → β) (hs : d'.sz = d.sz) {e base : Nat} {W : World} {ok : Nat → Prop} {v : Value} {xs : List α} (hc : ∀ okp a cs, d.M W base okp a cs → d'.M W base okp (g a) cs) (h : Kd.R d e W base ok v xs) : Kd.R d' e W base ok v (xs.map g) := by
  obtain ⟨h1, inner, h2, h3⟩ := h
  refine ⟨h1, inner, ?_, ?_⟩
  · rw [List.length_map, hs]; exact h2
  · refine ⟨by rw [List.length_map, hs]; exact h3.1, fun j p hp => ?_⟩
    rw [List.getElem?_map, Option.map_eq_some_iff] at hp
    obtain ⟨a, ha, rfl⟩ := hp
    rw [hs]
    exact hc _ _ _ (h3.2 j a ha)
/-- The pointer at a place; none outside. -/
def ptr11 (p0 p1 p2 p3 at_ k : Int) : Option Int := if k = 4 then some at_ else if k = 0 then some p0 else if k = 1 then some p1 else if k = 2 then some p2 else if k = 3 then some p3 else none
set_option maxRecDepth 100000 in
theorem ptr11_walk (k im nl ge sz p0 p1 p2 p3 at_ j r : Int) (w : World) (h : ptr11 p0 p1 p2 p3 at_ j = some r) :
    Calls Try.prog 52 #[.agg #[.int .i64 k, .int .i64 im, .int .i64 nl, .int .i64 ge, .int .i64 sz, .int .i64 p0, .int .i64 p1, .int .i64 p2, .int .i64 p3, .int .i64 at_], .int .i64 j] w fun e w' => e = .returned (.int .i64 r) ∧ Below w.heap.size w w' := by
  unfold ptr11 at h
  split at h
  · cases h
    subst_vars
    go_enter Try.func52, Try.ntmps52
    go_wp2
    go_ret
    exact ⟨rfl, below_alloc (Below.refl _ _) _⟩
  split at h
  · cases h
    subst_vars
    go_enter Try.func52, Try.ntmps52
    go_wp2
    go_ret
    exact ⟨rfl, below_alloc (Below.refl _ _) _⟩
  split at h
  · cases h
    subst_vars
    go_enter Try.func52, Try.ntmps52
    go_wp2
    go_ret
    exact ⟨rfl, below_alloc (Below.refl _ _) _⟩
  split at h
  · cases h
    subst_vars
    go_enter Try.func52, Try.ntmps52
    go_wp2
    go_ret
    exact ⟨rfl, below_alloc (Below.refl _ _) _⟩
  split at h
  · cases h
    subst_vars
    go_enter Try.func52, Try.ntmps52
    go_wp2
    go_ret
    exact ⟨rfl, below_alloc (Below.refl _ _) _⟩
  · cases h
end Go.Proofs.Ytdkbhbolkieeiaa.K
