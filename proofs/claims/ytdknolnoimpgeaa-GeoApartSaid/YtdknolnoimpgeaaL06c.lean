/- GeoApart: the printed walk comes to true. -/
import Derived.Test.YtdknolnoimpgeaaL06a
import Derived.Test.YtdknolnoimpgeaaZ06B
namespace Go.Proofs.Ytdknolnoimpgeaa.K
open Go.RowKit Go.Proofs.YtdknolnoimpgeaaW.PrintWords Go.Proofs.YtdknolnoimpgeaaW.PrintLast Go.Proofs.YtdknolnoimpgeaaW.PrintMore Go.Proofs.Ytdknolnoimpgeaa.Z06
set_option linter.unusedVariables false
set_option linter.unusedSimpArgs false
def tab (n : Nat) (f : Nat → Int) : List Int := (List.range n).map f
theorem tab_length (n : Nat) (f : Nat → Int) : (tab n f).length = n := by simp [tab]
theorem tab_rd (n : Nat) (f : Nat → Int) (i : Int) (h0 : 0 ≤ i) (h1 : i < n) : rd (tab n f) i = f i.toNat := by
  have h : i.toNat < n := by omega
  unfold rd tab
  simp [List.getD_eq_getElem?_getD, h]
theorem tab_set (n : Nat) (f : Nat → Int) (i : Nat) (v : Int) : (tab n f).set i v = tab n (fun j => if j = i then v else f j) := by
  unfold tab
  apply List.ext_getElem
  · simp
  · intro j h1 h2
    rw [List.getElem_set]
    simp only [List.getElem_map, List.getElem_range]
    by_cases h : i = j
    · rw [if_pos h, if_pos h.symm]
    · rw [if_neg h, if_neg (fun x => h x.symm)]
theorem tab_ext (n : Nat) (f g : Nat → Int) (h : ∀ j, f j = g j) : tab n f = tab n g := by rw [funext h]
theorem tab_zero (n : Nat) : List.replicate n (0 : Int) = tab n (fun _ => 0) := by
  unfold tab
  apply List.ext_getElem
  · simp
  · intro i h1 h2
    simp
def rng (s : Int) (m : Nat) : List Int := (List.range m).map (fun i : Nat => s + (i : Int))
theorem rng_succ (s : Int) (m : Nat) : rng s (m + 1) = rng s m ++ [s + (m : Int)] := by unfold rng; rw [List.range_succ, List.map_append]; rfl
theorem rng_length (s : Int) (m : Nat) : (rng s m).length = m := by simp [rng]
theorem rng_rd (s : Int) (m : Nat) (i : Nat) (h : i < m) : rd (rng s m) (i : Int) = s + (i : Int) := by
  unfold rd rng
  simp [List.getD_eq_getElem?_getD, h]
theorem geoP_inode {a b c d l s : Int} (hs : geoB a b c d l = s) (h0 : 1 ≤ s) (h1 : s ≤ 400) (i : Int) (hi : 1 ≤ i) (hb : i ≤ b) (hb' : b ≤ 24) : geoP a b c d l i 1 b 0 = s + i := by
  unfold geoP
  rw [hs, if_neg (by simp [win, hi, hb]; omega), w64 (n := s + 0) (by omega) (by omega), w64 (by omega) (by omega)]; omega
theorem geoP_block {a b c d l s : Int} (hs : geoB a b c d l = s) (h0 : 1 ≤ s) (h1 : s ≤ 400) (hb : 4 ≤ b) (hb' : b ≤ 24) (hc : c ≤ 60) (i : Int) (hi : 0 ≤ i) (hi' : i < c) : geoP a b c d l i 0 (wrap64 (c - 1)) (wrap64 (1 + b)) = s + (1 + b) + i := by
  unfold geoP
  rw [hs, w64 (n := c - 1) (by omega) (by omega), w64 (n := 1 + b) (by omega) (by omega), if_neg (by simp [win]; omega), w64 (n := s + (1 + b)) (by omega) (by omega), w64 (by omega) (by omega)]
section
variable {a c d : Int} {b : Nat}
theorem ga_l1 {l s : Int} (hs : geoB a b c d l = s) (h0 : 1 ≤ s) (h1 : s ≤ 400) (hb' : (b : Int) ≤ 24) (S : List Int) : ∀ (r k i : Nat), 1 ≤ i → i + r = b + 1 →
    craquelurelaw06_GeoApart.l1 (r + 1 + k) S l (rng s i) i a b c d = craquelurelaw06_GeoApart.l2 k S l (rng s (b + 1)) c 0 a b c d
  | 0, k, i, h2, h3 => by
    rw [show 0 + 1 + k = k + 1 by omega]
    simp only [craquelurelaw06_GeoApart.l1]
    rw [if_neg (by omega), show i = b + 1 by omega]
  | r + 1, k, i, h2, h3 => by
    rw [show r + 1 + 1 + k = (r + 1 + k) + 1 by omega]
    simp only [craquelurelaw06_GeoApart.l1]
    rw [if_pos (by omega)]
    simp only [geo_Inode.f, Option.bind_some]
    rw [rng_length, if_pos (by omega), geoP_inode hs h0 h1 i (by omega) (by omega) hb', w64 (n := (i : Int) + 1) (by omega) (by omega), ← rng_succ]
    have h := ga_l1 hs h0 h1 hb' S r k (i + 1) (by omega) (by omega)
    simp only [Int.natCast_add, Int.natCast_one] at h
    exact h
theorem ga_l2 {l s : Int} (hs : geoB a b c d l = s) (h0 : 1 ≤ s) (h1 : s ≤ 400) (hb : (4 : Int) ≤ b) (hb' : (b : Int) ≤ 24) (hc' : c ≤ 60) (S : List Int) : ∀ (r k i : Nat), (i : Int) + r = c →
    craquelurelaw06_GeoApart.l2 (r + 1 + k) S l (rng s (b + 1 + i)) c i a b c d = craquelurelaw06_GeoApart.l3 k S l (rng s (b + 1 + c.toNat)) ((b + 1 + c.toNat : Nat) : Int) 0 a b c d
  | 0, k, i, h3 => by
    rw [show 0 + 1 + k = k + 1 by omega]
    simp only [craquelurelaw06_GeoApart.l2]
    rw [if_neg (by omega), rng_length, show i = c.toNat by omega]
  | r + 1, k, i, h3 => by
    rw [show r + 1 + 1 + k = (r + 1 + k) + 1 by omega]
    simp only [craquelurelaw06_GeoApart.l2]
    rw [if_pos (by omega)]
    simp only [geo_Block.f, Option.bind_some]
    rw [rng_length, if_pos (by omega), geoP_block hs h0 h1 hb hb' hc' i (by omega) (by omega), w64 (n := (i : Int) + 1) (by omega) (by omega), show s + (1 + (b : Int)) + (i : Int) = s + ((b + 1 + i : Nat) : Int) by simp only [Int.natCast_add, Int.natCast_one]; omega, ← rng_succ]
    have h := ga_l2 hs h0 h1 hb hb' hc' S r k (i + 1) (by simp only [Int.natCast_add, Int.natCast_one]; omega)
    simp only [Int.natCast_add, Int.natCast_one] at h ⊢
    exact h
theorem ga_l3 {l s : Int} {n L : Nat} (h0 : 1 ≤ s) (hl0 : s + L ≤ geoL a b c d) (hln : geoL a b c d ≤ n) (hn : n ≤ 1000) (hU : ∀ j : Nat, j < L → geoU a b c d (s + j) = (l == 0)) (G : Nat → Nat → Int)
    (hG0 : ∀ j, j < L → G j (s.toNat + j) = 0) (hG1 : ∀ j, j < L → ∀ x, G (j + 1) x = if x = s.toNat + j then 1 else G j x) (hl : l ≤ 3) (hlm : 0 ≤ l) : ∀ (r k j : Nat), j + r = L →
    craquelurelaw06_GeoApart.l3 (r + 1 + k) (tab n (G j)) l (rng s L) L j a b c d = craquelurelaw06_GeoApart.l0 k (tab n (G L)) (l + 1) a b c d
  | 0, k, j, h3 => by
    rw [show 0 + 1 + k = k + 1 by omega]
    simp only [craquelurelaw06_GeoApart.l3]
    rw [if_neg (by omega), show j = L by omega, w64 (by omega) (by omega)]
  | r + 1, k, j, h3 => by
    rw [show r + 1 + 1 + k = (r + 1 + k) + 1 by omega]
    simp only [craquelurelaw06_GeoApart.l3]
    have hj : j < L := by omega
    rw [if_pos (by omega), if_pos (by omega), rng_length, if_pos (by omega), rng_rd s L j hj, if_neg (by omega)]
    simp only [geo_Log.f, geo_Upper.f, Option.bind_some]
    rw [if_neg (by omega), hU j hj, if_neg (by simp), if_pos (by omega), tab_length, if_pos (by omega), tab_rd n (G j) (s + j) (by omega) (by omega), show (s + (j : Int)).toNat = s.toNat + j by omega, hG0 j hj, tab_set, w64 (n := (0 : Int) + 1) (by omega) (by omega), w64 (n := (j : Int) + 1) (by omega) (by omega)]
    rw [tab_ext n _ (G (j + 1)) (fun x => by rw [hG1 j hj x]; rfl)]
    have h := ga_l3 h0 hl0 hln hn hU G hG0 hG1 hl hlm r k (j + 1) (by omega)
    simp only [Int.natCast_add, Int.natCast_one] at h
    exact h
theorem ga_l4 {n : Nat} (hln : geoL a b c d ≤ n) (hl0 : geoL a b c d ≤ 400) (F : Nat → Int) (hF : ∀ x : Nat, 1 ≤ x → (x : Int) < geoL a b c d → F x = 1) : ∀ (r x : Nat), 1 ≤ x → (x : Int) + r = geoL a b c d →
    ∃ k, craquelurelaw06_GeoApart.l4 k (tab n F) x a b c d = some true
  | 0, x, h1, h2 => ⟨1, by
    simp only [craquelurelaw06_GeoApart.l4, geo_Log.f, Option.bind_some]
    rw [if_neg (by omega)]; rfl⟩
  | r + 1, x, h1, h2 => by
    obtain ⟨k, hk⟩ := ga_l4 hln hl0 F hF r (x + 1) (by omega) (by simp only [Int.natCast_add, Int.natCast_one]; omega)
    refine ⟨k + 1, ?_⟩
    simp only [craquelurelaw06_GeoApart.l4, geo_Log.f, Option.bind_some]
    rw [if_pos (by omega), if_pos (by omega), tab_length, if_pos (by omega), tab_rd n F x (by omega) (by omega), Int.toNat_natCast, hF x h1 (by omega), if_pos rfl, w64 (by omega) (by omega)]
    simp only [Int.natCast_add, Int.natCast_one] at hk
    exact hk
end
/-- What is marked. -/
def mkd (lo hi h2 : Nat) (x : Nat) : Int := if (lo ≤ x ∧ x < hi) ∨ (1 ≤ x ∧ x < h2) then 1 else 0
theorem mul_split (x M : Nat) (h : 1 ≤ x) : (x - 1) * M + M = x * M := by
  obtain ⟨y, rfl⟩ : ∃ y, x = y + 1 := ⟨x - 1, by omega⟩
  rw [Nat.add_sub_cancel, Nat.succ_mul]
/-- One layer. -/
theorem ga_layer {A C n b : Nat} {d : Int} (hok : geoOk A b C d = true) (hln : geoL A b C d ≤ n) (hn : n ≤ 1000) (l s : Nat) (hlA : l ≤ A) (hs : geoB A b C d l = s) (hs0 : 1 ≤ s) (hs1 : ((s + (b + 1 + C) : Nat) : Int) ≤ geoL A b C d)
    (hU : ∀ j : Nat, j < b + 1 + C → geoU A b C d ((s : Int) + j) = ((l : Int) == 0)) (G : Nat → Nat → Int) (hG0 : ∀ j, j < b + 1 + C → G j (s + j) = 0) (hG1 : ∀ j, j < b + 1 + C → ∀ x, G (j + 1) x = if x = s + j then 1 else G j x) (k : Nat) :
    craquelurelaw06_GeoApart.l0 (b + 1 + (C + 1 + (b + 1 + C + 1 + k)) + 1) (tab n (G 0)) l A b C d = craquelurelaw06_GeoApart.l0 k (tab n (G (b + 1 + C))) ((l : Int) + 1) A b C d := by
  obtain ⟨⟨ha0, ha1⟩, ⟨hb0, hb1⟩, ⟨hc0, hc1⟩, hd⟩ := geoOk_parts hok
  obtain ⟨hL, hL0, hL1⟩ := geoL_ok hok
  simp only [craquelurelaw06_GeoApart.l0]
  rw [if_pos (by omega)]
  simp only [geo_Bitmap.f, Option.bind_some]
  rw [hs, show [(s : Int)] = rng s 1 by simp [rng]]
  have h1 := ga_l1 (a := A) (b := b) (c := C) (d := d) hs (by omega) (by omega) hb1 (tab n (G 0)) b (C + 1 + (b + 1 + C + 1 + k)) 1 (Nat.le_refl _) (by omega)
  simp only [Int.natCast_one] at h1
  rw [h1]
  have h2 := ga_l2 (a := A) (b := b) (c := C) (d := d) hs (by omega) (by omega) hb0 hb1 hc1 (tab n (G 0)) C (b + 1 + C + 1 + k) 0 (by omega)
  simp only [Int.toNat_natCast, Nat.add_zero, Int.natCast_zero] at h2
  rw [h2]
  have h3 := ga_l3 (a := A) (b := b) (c := C) (d := d) (l := l) (s := s) (n := n) (L := b + 1 + C) (by omega) (by simpa using hs1) hln hn hU G (by simpa using hG0) (by simpa using hG1) (by omega) (by omega) (b + 1 + C) k 0 (by omega)
  simp only [Int.natCast_zero] at h3
  exact h3
theorem ga_layers {A C n b : Nat} {d : Int} (hok : geoOk A b C d = true) (hln : geoL A b C d ≤ n) (hn : n ≤ 1000) : ∀ (r l : Nat), 1 ≤ l → l + r = A + 1 →
    ∃ k, craquelurelaw06_GeoApart.l0 k (tab n (mkd (1 + A * (b + 1 + C)) (1 + A * (b + 1 + C) + (b + 1 + C)) (1 + (l - 1) * (b + 1 + C)))) l A b C d = some true
  | 0, l, h1, h2 => by
    obtain ⟨⟨ha0, ha1⟩, ⟨hb0, hb1⟩, ⟨hc0, hc1⟩, hd⟩ := geoOk_parts hok
    obtain ⟨hL, hL0, hL1⟩ := geoL_ok hok
    obtain ⟨k, hk⟩ := ga_l4 (a := A) (b := b) (c := C) (d := d) hln hL1 (mkd (1 + A * (b + 1 + C)) (1 + A * (b + 1 + C) + (b + 1 + C)) (1 + (l - 1) * (b + 1 + C))) (fun x hx hx1 => by
      unfold mkd
      rw [if_pos]
      have hl : l - 1 = A := by omega
      rw [hl]
      rw [hL] at hx1
      have e : ((1 + A * (b + 1 + C) + (b + 1 + C) : Nat) : Int) = 1 + ((A : Int) + 1) * (1 + (b : Int) + (C : Int)) := by
        simp only [Int.natCast_add, Int.natCast_mul, Int.natCast_one, Int.add_mul, Int.one_mul]
        rw [show (b : Int) + 1 + (C : Int) = 1 + (b : Int) + (C : Int) by omega]
        omega
      omega) (geoL A b C d - 1).toNat 1 (Nat.le_refl _) (by omega)
    refine ⟨k + 1, ?_⟩
    simp only [craquelurelaw06_GeoApart.l0]
    rw [if_neg (by omega)]
    exact hk
  | r + 1, l, h1, h2 => by
    obtain ⟨⟨ha0, ha1⟩, ⟨hb0, hb1⟩, ⟨hc0, hc1⟩, hd⟩ := geoOk_parts hok
    obtain ⟨hL, hL0, hL1⟩ := geoL_ok hok
    obtain ⟨k, hk⟩ := ga_layers hok hln hn r (l + 1) (by omega) (by omega)
    rw [show l + 1 - 1 = l by omega] at hk
    have hm := mul_split l (b + 1 + C) h1
    have hle : l * (b + 1 + C) ≤ A * (b + 1 + C) := Nat.mul_le_mul_right _ (by omega)
    have e : ((1 + A * (b + 1 + C) + (b + 1 + C) : Nat) : Int) = geoL A b C d := by
      rw [hL]
      simp only [Int.natCast_add, Int.natCast_mul, Int.natCast_one, Int.add_mul, Int.one_mul]
      rw [show (b : Int) + 1 + (C : Int) = 1 + (b : Int) + (C : Int) by omega]
      omega
    have hB0 : geoB A b C d 0 = ((1 + A * (b + 1 + C) : Nat) : Int) := by
      rw [geoB_zero hok]
      simp only [Int.natCast_add, Int.natCast_mul, Int.natCast_one]
      rw [show (b : Int) + 1 + (C : Int) = 1 + (b : Int) + (C : Int) by omega]
    have hs : geoB A b C d l = ((1 + (l - 1) * (b + 1 + C) : Nat) : Int) := by
      rw [geoB_pos hok (by omega) (by omega)]
      simp only [Int.natCast_add, Int.natCast_mul, Int.natCast_one]
      rw [show (b : Int) + 1 + (C : Int) = 1 + (b : Int) + (C : Int) by omega, show ((l - 1 : Nat) : Int) = (l : Int) - 1 by omega]
    obtain ⟨q, hq⟩ : ∃ q, q = (l - 1) * (b + 1 + C) := ⟨_, rfl⟩
    obtain ⟨p, hp⟩ : ∃ p, p = A * (b + 1 + C) := ⟨_, rfl⟩
    rw [← hm] at hle hk
    rw [← hq] at hs hle hk ⊢
    rw [← hp] at e hB0 hle hk ⊢
    have h3 := ga_layer hok hln hn l (1 + q) (by omega) hs (by omega) (by omega) (fun j hj => by
      unfold geoU
      rw [hok, hB0]
      simp only [Bool.true_and]
      rw [show ((l : Int) == 0) = false by simp; omega]
      simp [win]; omega) (fun j => mkd (1 + p) (1 + p + (b + 1 + C)) (1 + q + j)) (fun j hj => by unfold mkd; rw [if_neg (by omega)]) (fun j hj x => by
      unfold mkd
      by_cases h : x = 1 + q + j
      · rw [if_pos (by omega), if_pos h]
      · rw [if_neg h]; congr 1; apply propext; omega) k
    refine ⟨_, h3.trans ?_⟩
    rw [show 1 + q + (b + 1 + C) = 1 + (q + (b + 1 + C)) by omega]
    simpa using hk
theorem ga_true (a b c d : Int) : ∃ k, craquelurelaw06_GeoApart.f k a b c d = some true := by
  by_cases hok : geoOk a b c d = true
  case neg =>
    refine ⟨0, ?_⟩
    unfold craquelurelaw06_GeoApart.f geo_Check.f geo_Total.f geo_Log.f
    simp only [Option.bind_some]
    rw [geoE_bad hok, if_neg (by decide), show geoT a b c d = 0 by unfold geoT; rw [if_neg hok], if_pos rfl, show geoL a b c d = -1 by unfold geoL; rw [if_neg hok], if_pos rfl]; rfl
  obtain ⟨⟨ha0, ha1⟩, ⟨hb0, hb1⟩, ⟨hc0, hc1⟩, hd⟩ := geoOk_parts hok
  obtain ⟨hL, hL0, hL1⟩ := geoL_ok hok
  obtain ⟨A, rfl⟩ : ∃ A : Nat, a = A := ⟨a.toNat, by omega⟩
  obtain ⟨B, rfl⟩ : ∃ A : Nat, b = A := ⟨b.toNat, by omega⟩
  obtain ⟨C, rfl⟩ : ∃ A : Nat, c = A := ⟨c.toNat, by omega⟩
  have hT : geoT A B C d = geoL A B C d + d := by unfold geoT geoL; rw [if_pos hok, if_pos hok]
  obtain ⟨n, hn⟩ : ∃ n : Nat, geoT A B C d = n := ⟨(geoT A B C d).toNat, by omega⟩
  have hln : geoL A B C d ≤ n := by omega
  have hn1 : n ≤ 1000 := by omega
  obtain ⟨k, hk⟩ := ga_layers hok hln hn1 A 1 (Nat.le_refl _) (by omega)
  have e : ((1 + A * (B + 1 + C) + (B + 1 + C) : Nat) : Int) = geoL A B C d := by
    rw [hL]
    simp only [Int.natCast_add, Int.natCast_mul, Int.natCast_one, Int.add_mul, Int.one_mul]
    rw [show (B : Int) + 1 + (C : Int) = 1 + (B : Int) + (C : Int) by omega]
    omega
  have hB0 : geoB A B C d 0 = ((1 + A * (B + 1 + C) : Nat) : Int) := by
    rw [geoB_zero hok]
    simp only [Int.natCast_add, Int.natCast_mul, Int.natCast_one]
    rw [show (B : Int) + 1 + (C : Int) = 1 + (B : Int) + (C : Int) by omega]
  rw [show (1 - 1) * (B + 1 + C) = 0 by simp] at hk
  obtain ⟨p, hp⟩ : ∃ p, p = A * (B + 1 + C) := ⟨_, rfl⟩
  rw [← hp] at e hB0 hk
  have h3 := ga_layer hok hln hn1 0 (1 + p) (by omega) (by simpa using hB0) (by omega) (by omega) (fun j hj => by
    unfold geoU
    rw [hok, hB0, w64 (by omega) (by omega)]
    simp [win]; omega) (fun j => mkd (1 + p) (1 + p + j) 1) (fun j hj => by unfold mkd; rw [if_neg (by omega)]) (fun j hj x => by
    unfold mkd
    by_cases h : x = 1 + p + j
    · rw [if_pos (by omega), if_pos h]
    · rw [if_neg h]; congr 1; apply propext; omega) k
  refine ⟨B + 1 + (C + 1 + (B + 1 + C + 1 + k)) + 1 + 1, ?_⟩
  unfold craquelurelaw06_GeoApart.f geo_Check.f geo_Total.f geo_Log.f
  simp only [Option.bind_some]
  rw [geoE_ok hok, if_pos rfl, hn, if_neg (by omega), if_neg (by omega), w64 (n := (n : Int) - d) (by omega) (by omega), show (geoL A B C d != (n : Int) - d) = false by simp; omega]
  simp only [craquelurelaw06_GeoApart.j0]
  rw [if_neg (by simp), if_pos (by omega), Int.toNat_natCast, if_pos (by omega), tab_zero]
  have e0 : tab n (fun _ => 0) = tab n (mkd (1 + p) (1 + p + 0) 1) := tab_ext n _ _ (fun j => by unfold mkd; rw [if_neg (by omega)])
  rw [e0]
  refine Eq.trans ?_ (h3.trans ?_)
  · simp only [Int.natCast_zero]
  · simpa using hk
theorem l06_Apart (a b c d : Int) (w : World) :
    Calls Try.prog 7 #[.agg #[.int .i64 a, .int .i64 b, .int .i64 c, .int .i64 d]] w fun e w' => e = .returned (.bool true) ∧ Below w.heap.size w w' := by
  obtain ⟨k, hk⟩ := ga_true a b c d
  exact craquelurelaw06_GeoApart.calls k a b c d true w hk
end Go.Proofs.Ytdknolnoimpgeaa.K
