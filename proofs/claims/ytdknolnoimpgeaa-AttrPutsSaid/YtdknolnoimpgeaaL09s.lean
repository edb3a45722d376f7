/- AttrPuts: what was put is got. -/
import Derived.Test.YtdknolnoimpgeaaL09r
import Derived.Test.YtdknolnoimpgeaaX09C
namespace Go.Proofs.Ytdknolnoimpgeaa.K
open Go.RowKit Go.Proofs.YtdknolnoimpgeaaW.PrintWords Go.Proofs.YtdknolnoimpgeaaW.PrintLast Go.Proofs.YtdknolnoimpgeaaW.PrintMore Go.Proofs.Ytdknolnoimpgeaa.X09
set_option linter.unusedVariables false
set_option linter.unusedSimpArgs false
theorem str_sB (r : ByteArray) : strOfNums (sB r) = r := by
  unfold strOfNums sB
  rw [List.map_map]
  have h : (r.data.toList.map ((fun n : Int => UInt8.ofNat n.toNat) ∘ fun x : UInt8 => (x.toNat : Int))) = r.data.toList := by
    conv => rhs; rw [← List.map_id r.data.toList]
    apply List.map_congr_left
    intro x _
    simp
  rw [h]
theorem mid {A M B : List Int} {n m : Nat} (hA : A.length = n) (hM : M.length = m) : ((A ++ M ++ B).drop n).take m = M := by
  subst hA hM
  simp
theorem mid' {A M B : List Int} {n m : Nat} (hA : A.length = n) (hM : n + M.length = m) : ((A ++ M ++ B).take m).drop n = M := by
  subst hA
  rw [List.take_append_of_le_length (by simp; omega), List.take_of_length_le (by simp; omega)]
  simp
theorem rd_mid {A B : List Int} {x : Int} {n : Nat} (h : A.length = n) : rd (A ++ [x] ++ B) (n : Int) = x := by
  subst h
  unfold rd
  rw [Int.toNat_natCast, List.append_assoc, List.getD_eq_getElem?_getD, List.getElem?_append_right (Nat.le_refl _)]
  simp
theorem numG_mid {A B : List Int} {n v : Int} {k m : Nat} (hA : (A.length : Int) = v) (hk : numW k = true) (h0 : 0 ≤ n) (h1 : n < 2 ^ (8 * k)) : (numG (A ++ leB n k ++ B) v k).1 = n := by
  unfold numG
  have ht : numT (A ++ leB n k ++ B) v k = true := by
    unfold numT
    rw [hk]
    simp only [Bool.true_and, Bool.and_eq_true, decide_eq_true_eq, List.length_append, leB_length]
    omega
  rw [if_pos ht]
  have hv : v.toNat = A.length := by omega
  rw [hv, Int.toNat_natCast, mid rfl (leB_length n k)]
  exact leN_leB k n h0 h1
theorem got {h o : Int} {r : ByteArray} {l i g s : Int} (hR : RightP h o r l i g s) : getS (sealS (attrRaw h o r l i g s)) = (h, o, r, l, i, g, s, true) := by
  have hB := (rightB_iff _ _ _ _ _ _ _).2 hR
  have hraw := attrRaw_right hR
  obtain ⟨h1, h2, h3, h4, h5, h6, h7, _⟩ := hR
  have hp := pad24_length h4
  obtain ⟨x, ex⟩ : ∃ x, x = sealS (attrRaw h o r l i g s) := ⟨_, rfl⟩
  have hl : x.length = 64 := by rw [ex]; exact sealS_length _
  have hlen : (attrR h o r l i g s).length = 36 := by
    unfold attrR; simp only [List.length_append, leB_length, hp, pre3, List.length_cons, List.length_nil]
  obtain ⟨Z, hZ⟩ : ∃ Z, x = attrR h o r l i g s ++ Z := by
    rw [ex, hraw]
    unfold sealS seal60
    rw [List.take_of_length_le (by omega), List.append_assoc]
    exact ⟨_, rfl⟩
  have e0 : rd x 0 = h := by rw [hZ]; show h % 256 = h; omega
  have e1 : rd x 1 = o := by rw [hZ]; show o % 256 = o; omega
  have e2 : rd x 2 = r.size := by rw [hZ]; show (r.size : Int) % 256 = r.size; omega
  have e27 : rd x 27 = l := by
    have q : x = (pre3 h o r ++ pad24 r) ++ [l % 256] ++ (leB i 2 ++ leB g 4 ++ leB s 2 ++ Z) := by rw [hZ]; unfold attrR; simp only [List.append_assoc]
    have := rd_mid (A := pre3 h o r ++ pad24 r) (x := l % 256) (B := leB i 2 ++ leB g 4 ++ leB s 2 ++ Z) (n := 27) (by rw [List.length_append, hp]; rfl)
    rw [q, show (27 : Int) = ((27 : Nat) : Int) from rfl, this]; omega
  have e28 : (numG x 28 2).1 = i := by
    have q : x = (pre3 h o r ++ pad24 r ++ [l % 256]) ++ leB i 2 ++ (leB g 4 ++ leB s 2 ++ Z) := by rw [hZ]; unfold attrR; simp only [List.append_assoc]
    rw [q, show (2 : Int) = ((2 : Nat) : Int) from rfl]
    exact numG_mid (m := 0) (by simp only [List.length_append, hp, pre3, List.length_cons, List.length_nil]; rfl) (by decide) h6.1 (by omega)
  have e30 : (numG x 30 4).1 = g := by
    have q : x = (pre3 h o r ++ pad24 r ++ [l % 256] ++ leB i 2) ++ leB g 4 ++ (leB s 2 ++ Z) := by rw [hZ]; unfold attrR; simp only [List.append_assoc]
    rw [q, show (4 : Int) = ((4 : Nat) : Int) from rfl]
    exact numG_mid (m := 0) (by simp only [List.length_append, hp, pre3, leB_length, List.length_cons, List.length_nil]; rfl) (by decide) h7.1 (by omega)
  have e34 : (numG x 34 2).1 = s := by
    have q : x = (pre3 h o r ++ pad24 r ++ [l % 256] ++ leB i 2 ++ leB g 4) ++ leB s 2 ++ Z := by rw [hZ]; rfl
    rw [q, show (2 : Int) = ((2 : Nat) : Int) from rfl]
    exact numG_mid (m := 0) (by simp only [List.length_append, hp, pre3, leB_length, List.length_cons, List.length_nil]; rfl) (by decide) h3.1 (by omega)
  have es : strA x = r := by
    unfold strA
    rw [e2, show (3 + (r.size : Int)).toNat = 3 + r.size by omega]
    have q : x = pre3 h o r ++ sB r ++ ((List.replicate 24 (0 : Int)).drop r.size ++ [l % 256] ++ leB i 2 ++ leB g 4 ++ leB s 2 ++ Z) := by rw [hZ]; unfold attrR pad24; simp only [List.append_assoc]
    rw [q, mid' (n := 3) rfl (by rw [sB_length])]
    exact str_sB r
  rw [← ex]
  unfold getS
  rw [e0, e1, e2, e27, e28, e30, e34, es, if_pos ⟨hl, by omega, hB, ex⟩]
theorem awake31 : craquelurelaw09_awake.f 31 = some true := by decide +kernel
theorem awake30 : craquelurelaw09_awake.f 30 = some true := by decide +kernel
theorem got_nil : getS [] = noA := by unfold getS; rw [if_neg (by simp)]
theorem getS_put {x : List Int} (hk : (getS x).2.2.2.2.2.2.2 = true) : putS (getS x).1 (getS x).2.1 (getS x).2.2.1 (getS x).2.2.2.1 (getS x).2.2.2.2.1 (getS x).2.2.2.2.2.1 (getS x).2.2.2.2.2.2.1 = (x, 0) := by
  unfold getS at hk ⊢
  split
  · rename_i hc
    unfold putS
    dsimp only
    rw [if_pos hc.2.2.1, ← hc.2.2.2]
  · rename_i hc
    rw [if_neg hc] at hk
    cases hk
end Go.Proofs.Ytdknolnoimpgeaa.K
