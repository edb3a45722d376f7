/- AttrPuts: put and got, in plain Lean. -/
import Derived.Test.YtdknolnoimpgeaaL09p
namespace Go.Proofs.Ytdknolnoimpgeaa.K
open Go.RowKit Go.Proofs.YtdknolnoimpgeaaW.PrintWords Go.Proofs.YtdknolnoimpgeaaW.PrintLast Go.Proofs.YtdknolnoimpgeaaW.PrintMore Go.Proofs.Ytdknolnoimpgeaa.X09
set_option linter.unusedVariables false
set_option linter.unusedSimpArgs false
def pre3 (h o : Int) (r : ByteArray) : List Int := [h % 256, o % 256, (r.size : Int) % 256]
def attrRaw (h o : Int) (r : ByteArray) (l i g s : Int) : List Int := numP (numP (numP (numP (pre3 h o r ++ pad24 r) l 1) i 2) g 4) s 2
theorem pre3_byts (h o : Int) (r : ByteArray) : Byts (pre3 h o r) := by
  intro x hx
  simp only [pre3, List.mem_cons, List.not_mem_nil, or_false] at hx
  rcases hx with rfl | rfl | rfl <;> omega
theorem sB_byts (r : ByteArray) : Byts (sB r) := by
  intro x hx
  simp only [sB, List.mem_map] at hx
  obtain ⟨b, _, rfl⟩ := hx
  have := b.toNat_lt
  omega
theorem pad24_byts (r : ByteArray) : Byts (pad24 r) := (sB_byts r).append ((Byts.zeros 24).drop _)
theorem attrRaw_byts (h o : Int) (r : ByteArray) (l i g s : Int) : Byts (attrRaw h o r l i g s) :=
  numP_byts (numP_byts (numP_byts (numP_byts ((pre3_byts h o r).append (pad24_byts r)) _ _) _ _) _ _) _ _
def putS (h o : Int) (r : ByteArray) (l i g s : Int) : List Int × Int := if rightB h o r l i g s = true then (sealS (attrRaw h o r l i g s), 0) else ([], 1)
theorem put_eq (k : Nat) (h o : Int) (r : ByteArray) (l i g s : Int) : attr_Put.f (k + 3) h o r l i g s = some (putS h o r l i g s) := by
  unfold attr_Put.f putS
  rw [right_eq, Option.bind_some]
  by_cases hR : rightB h o r l i g s = true
  case neg => rw [if_neg hR, if_neg hR]
  have h4 := ((rightB_iff _ _ _ _ _ _ _).1 hR).2.2.2.1
  have hp := pad24_length h4
  rw [if_pos hR, if_pos hR, if_pos (by decide)]
  simp only [Option.bind_some]
  have e0 : (pre3 h o r ++ pad24 r).length = 27 := by rw [List.length_append, hp]; rfl
  rw [if_pos (by rw [hp]; simp)]
  unfold num_Put.f
  have e1 := numP_length (pre3 h o r ++ pad24 r) l 1
  have e2 := numP_length (numP (pre3 h o r ++ pad24 r) l 1) i 2
  have e3 := numP_length (numP (numP (pre3 h o r ++ pad24 r) l 1) i 2) g 4
  rw [show ([h % 256, o % 256, (r.size : Int) % 256] ++ pad24 r) = pre3 h o r ++ pad24 r from rfl, if_pos (by omega), Option.bind_some, if_pos (by omega), Option.bind_some, if_pos (by omega), Option.bind_some, if_pos (by omega), Option.bind_some]
  unfold sum_Seal.f
  rw [if_pos (show bytsB (numP (numP (numP (numP (pre3 h o r ++ pad24 r) l 1) i 2) g 4) s 2) = true from bytsB_of (attrRaw_byts h o r l i g s))]
  rfl
theorem numP_yes {l : List Int} {n s : Int} (h : numR n s = true) : numP l n s = l ++ leB n s.toNat := by unfold numP; rw [if_pos h]
theorem leB1 (a : Int) : leB a 1 = [a % 256] := by simp [leB]
def attrR (h o : Int) (r : ByteArray) (l i g s : Int) : List Int := pre3 h o r ++ pad24 r ++ [l % 256] ++ leB i 2 ++ leB g 4 ++ leB s 2
theorem attrRaw_right {h o : Int} {r : ByteArray} {l i g s : Int} (hR : RightP h o r l i g s) : attrRaw h o r l i g s = attrR h o r l i g s := by
  obtain ⟨h1, h2, h3, h4, h5, h6, h7, _⟩ := hR
  unfold attrRaw attrR
  rw [numP_yes (l := pre3 h o r ++ pad24 r) (by simp [numR, numW]; omega), numP_yes (n := i) (by simp [numR, numW]; omega), numP_yes (n := g) (by simp [numR, numW]; omega), numP_yes (n := s) (by simp [numR, numW]; omega)]
  rw [show ((1 : Int).toNat) = 1 from rfl, show ((2 : Int).toNat) = 2 from rfl, show ((4 : Int).toNat) = 4 from rfl, leB1]
theorem pad24_get {r : ByteArray} (h4 : r.size ≤ 24) (j : Nat) (hj : j < 24) : (pad24 r)[j]'(by rw [pad24_length h4]; exact hj) = if j < r.size then bt r (j : Int) else 0 := by
  unfold pad24
  by_cases h : j < r.size
  · rw [if_pos h, List.getElem_append_left (by rw [sB_length]; exact h)]
    unfold sB bt
    simp only [List.getElem_map, Array.getElem_toList, Int.toNat_natCast]
    rw [dif_pos h]
    rfl
  · rw [if_neg h, List.getElem_append_right (by rw [sB_length]; omega)]
    simp only [List.getElem_drop, List.getElem_replicate]
theorem rl0_eq {h o : Int} {r : ByteArray} {l i g s : Int} (hR : RightP h o r l i g s) : ∀ (n k j : Nat), j + n = 24 →
    craquelureref09_Bytes.l0 (n + 1 + k) (pre3 h o r ++ (pad24 r).take j) j h o r l i g s = some (sealS (attrR h o r l i g s))
  | 0, k, j, hj => by
    obtain ⟨h1, h2, h3, h4, h5, h6, h7, _⟩ := hR
    have hp := pad24_length h4
    rw [show 0 + 1 + k = k + 1 by omega]
    simp only [craquelureref09_Bytes.l0]
    rw [if_neg (by omega), List.take_of_length_le (by omega)]
    have e0 : (pre3 h o r ++ pad24 r).length = 27 := by rw [List.length_append, hp]; rfl
    rw [if_pos (by omega)]
    simp only [Option.bind_some]
    unfold craquelureref01_Bytes.f
    rw [if_pos (by omega), Option.bind_some, if_pos (by simp only [List.length_append, leB_length] at e0 ⊢; simp only [List.length_cons, List.length_nil]; omega), if_pos (by omega), Option.bind_some, if_pos (by simp only [List.length_append, leB_length] at e0 ⊢; simp only [List.length_cons, List.length_nil]; omega), if_pos (by omega), Option.bind_some, if_pos (by simp only [List.length_append, leB_length] at e0 ⊢; simp only [List.length_cons, List.length_nil]; omega)]
    unfold craquelureref02_Seal.f
    rw [if_pos ⟨by simp only [List.length_append, leB_length] at e0 ⊢; simp only [List.length_cons, List.length_nil]; omega, bytsB_of (((((pre3_byts h o r).append (pad24_byts r)).append (leB1 l ▸ leB_byts l 1)).append (leB_byts _ _)).append (leB_byts _ _) |>.append (leB_byts _ _))⟩]
    rfl
  | n + 1, k, j, hj => by
    have h4 := hR.2.2.2.1
    have hp := pad24_length h4
    rw [show n + 1 + 1 + k = (n + 1 + k) + 1 by omega]
    simp only [craquelureref09_Bytes.l0]
    have e0 : (pre3 h o r ++ (pad24 r).take j).length = 3 + j := by rw [List.length_append, List.length_take, hp]; simp only [pre3, List.length_cons, List.length_nil]; omega
    have hx : ∀ x, x = (pad24 r)[j]'(by omega) → pre3 h o r ++ (pad24 r).take j ++ [x] = pre3 h o r ++ (pad24 r).take (j + 1) := fun x hx => by
      rw [List.take_succ_eq_append_getElem (by omega), List.append_assoc, hx]
    have hg := pad24_get h4 j (by omega)
    have ih := rl0_eq hR n k (j + 1) (by omega)
    have hw : wrap64 ((j : Int) + 1) = ((j + 1 : Nat) : Int) := by unfold wrap64; omega
    rw [if_pos (show (j : Int) < 24 by omega), hw]
    by_cases hs : (j : Int) < (r.size : Int)
    · rw [if_pos hs, if_pos (show (0 : Int) ≤ (j : Int) by omega), if_pos (by omega), hx _ (by rw [hg, if_pos (by omega)])]
      exact ih
    · rw [if_neg hs, if_pos (by omega), hx _ (by rw [hg, if_neg (by omega)])]
      exact ih
theorem rput_eq (k : Nat) (h o : Int) (r : ByteArray) (l i g s : Int) : craquelureref09_Put.f (k + 25) h o r l i g s = some (putS h o r l i g s) := by
  unfold craquelureref09_Put.f putS
  rw [rright_eq (k + 22), Option.bind_some]
  by_cases hR : rightB h o r l i g s = true
  case neg => rw [if_neg hR, if_neg hR]
  have hP := (rightB_iff _ _ _ _ _ _ _).1 hR
  rw [if_pos hR, if_pos hR, attrRaw_right hP]
  unfold craquelureref09_Bytes.f
  have hh := rl0_eq hP 24 k 0 (by omega)
  rw [List.take_zero, List.append_nil, show 24 + 1 + k = k + 25 by omega] at hh
  simp only [Int.natCast_zero] at hh
  rw [show ([h % 256, o % 256, (r.size : Int) % 256] : List Int) = pre3 h o r from rfl, hh]; rfl
end Go.Proofs.Ytdknolnoimpgeaa.K
