/- AttrPuts: what is got, in plain Lean. -/
import Derived.Test.YtdknolnoimpgeaaL09q
import Derived.Test.YtdknolnoimpgeaaX09B
namespace Go.Proofs.Ytdknolnoimpgeaa.K
open Go.RowKit Go.Proofs.YtdknolnoimpgeaaW.PrintWords Go.Proofs.YtdknolnoimpgeaaW.PrintLast Go.Proofs.YtdknolnoimpgeaaW.PrintMore Go.Proofs.Ytdknolnoimpgeaa.X09
set_option linter.unusedVariables false
set_option linter.unusedSimpArgs false
abbrev AT := Int × Int × ByteArray × Int × Int × Int × Int × Bool
def noA : AT := (0, 0, em, 0, 0, 0, 0, false)
def strA (x : List Int) : ByteArray := strOfNums ((x.take (3 + rd x 2).toNat).drop 3)
def getS (x : List Int) : AT :=
  if x.length = 64 ∧ rd x 2 ≤ 24 ∧ rightB (rd x 0) (rd x 1) (strA x) (rd x 27) (numG x 28 2).1 (numG x 30 4).1 (numG x 34 2).1 = true ∧ x = sealS (attrRaw (rd x 0) (rd x 1) (strA x) (rd x 27) (numG x 28 2).1 (numG x 30 4).1 (numG x 34 2).1)
  then (rd x 0, rd x 1, strA x, rd x 27, (numG x 28 2).1, (numG x 30 4).1, (numG x 34 2).1, true) else noA
theorem rd_byte {x : List Int} (hb : Byts x) (i : Int) : 0 ≤ rd x i ∧ rd x i < 256 := by
  unfold rd
  rw [List.getD_eq_getElem?_getD]
  by_cases h : i.toNat < x.length
  · rw [List.getElem?_eq_getElem h]; exact hb _ (List.getElem_mem h)
  · rw [List.getElem?_eq_none (by omega)]; simp
theorem w64b {x : List Int} (hb : Byts x) (i : Int) : wrap64 (rd x i) = rd x i := by
  have := rd_byte hb i
  unfold wrap64; omega
theorem em_eq : (⟨#[]⟩ : ByteArray) = em := rfl
theorem get_eq (k : Nat) (x : List Int) (hb : Byts x) : attr_Get.f (k + 4) x = some (getS x) := by
  unfold attr_Get.f
  by_cases h64 : x.length = 64
  case neg =>
    rw [if_neg (by omega)]
    simp only [attr_Get.j0, if_true]
    unfold getS; rw [if_neg (fun h => h64 h.1)]; rfl
  rw [if_pos (by omega), if_pos (by omega)]
  have h2 := rd_byte hb 2
  by_cases h24 : rd x 2 > 24
  · rw [decide_eq_true h24]
    simp only [attr_Get.j0, if_true]
    unfold getS; rw [if_neg (fun h => by omega)]; rfl
  rw [decide_eq_false h24]
  simp only [attr_Get.j0, w64b hb]
  have hm : (3 + rd x 2) % 256 = 3 + rd x 2 := by omega
  rw [hm, if_neg (by simp), if_pos (by omega), if_pos (by omega), if_pos (by omega), if_pos (by omega), if_pos (by omega), if_pos (by omega)]
  unfold num_Get.f
  simp only [if_pos (show x.length < 140737488355320 ∧ bytsB x = true from ⟨by omega, bytsB_of hb⟩), Option.bind_some, put_eq]
  rw [show strOfNums ((x.take (3 + rd x 2).toNat).drop 3) = strA x from rfl]
  obtain ⟨a, ea⟩ : ∃ a, a = rightB (rd x 0) (rd x 1) (strA x) (rd x 27) (numG x 28 2).1 (numG x 30 4).1 (numG x 34 2).1 := ⟨_, rfl⟩
  obtain ⟨q, eq⟩ : ∃ q, q = sealS (attrRaw (rd x 0) (rd x 1) (strA x) (rd x 27) (numG x 28 2).1 (numG x 30 4).1 (numG x 34 2).1) := ⟨_, rfl⟩
  have hq : bytsB q = true := by rw [eq]; exact bytsB_of (sealS_byts (attrRaw_byts _ _ _ _ _ _ _))
  unfold getS putS
  rw [← ea, ← eq]
  cases a with
  | false => rw [if_neg (by simp), if_neg (by simp)]; rfl
  | true =>
    rw [if_pos rfl, if_pos rfl]
    unfold bytes_Equal.f
    rw [if_pos ⟨bytsB_of hb, hq⟩, Option.bind_some]
    by_cases hx : x = q
    · rw [decide_eq_true hx, if_pos rfl, if_pos ⟨h64, by omega, rfl, hx⟩]
    · rw [decide_eq_false hx, if_neg (by simp), if_neg (fun h => hx h.2.2.2)]; rfl
theorem rget_eq (k : Nat) (x : List Int) (hb : Byts x) : craquelureref09_Get.f (k + 26) x = some (getS x) := by
  unfold craquelureref09_Get.f
  by_cases h64 : x.length = 64
  case neg =>
    rw [if_neg (by omega)]
    simp only [craquelureref09_Get.j0, if_true]
    unfold getS; rw [if_neg (fun h => h64 h.1)]; rfl
  rw [if_pos (by omega), if_pos (by omega)]
  have h2 := rd_byte hb 2
  rw [w64b hb]
  by_cases h24 : rd x 2 > 24
  · rw [decide_eq_true h24]
    simp only [craquelureref09_Get.j0, if_true]
    unfold getS; rw [if_neg (fun h => by omega)]; rfl
  rw [decide_eq_false h24]
  simp only [craquelureref09_Get.j0, w64b hb]
  have hm : wrap64 (3 + rd x 2) = 3 + rd x 2 := by unfold wrap64; omega
  rw [hm, if_neg (by simp), if_pos (by omega), if_pos (by omega), if_pos (by omega), if_pos (by omega), if_pos (by omega), if_pos (by omega)]
  unfold craquelureref01_Get.f
  simp only [if_pos (show x.length < 140737488355320 ∧ bytsB x = true from ⟨by omega, bytsB_of hb⟩), Option.bind_some]
  rw [rright_eq (k + 22), show strOfNums ((x.take (3 + rd x 2).toNat).drop 3) = strA x from rfl, Option.bind_some]
  unfold getS
  by_cases hR : rightB (rd x 0) (rd x 1) (strA x) (rd x 27) (numG x 28 2).1 (numG x 30 4).1 (numG x 34 2).1 = true
  case neg => rw [if_neg hR, if_neg (fun h => hR h.2.2.1)]; rfl
  have hP := (rightB_iff _ _ _ _ _ _ _).1 hR
  have hbytes : craquelureref09_Bytes.f (k + 25) (rd x 0) (rd x 1) (strA x) (rd x 27) (numG x 28 2).1 (numG x 30 4).1 (numG x 34 2).1 = some (sealS (attrRaw (rd x 0) (rd x 1) (strA x) (rd x 27) (numG x 28 2).1 (numG x 30 4).1 (numG x 34 2).1)) := by
    rw [attrRaw_right hP]
    unfold craquelureref09_Bytes.f
    have hh := rl0_eq hP 24 k 0 (by omega)
    rw [List.take_zero, List.append_nil, show 24 + 1 + k = k + 25 by omega] at hh
    simp only [Int.natCast_zero] at hh
    exact hh
  rw [if_pos hR, hbytes, Option.bind_some]
  unfold craquelureref01_Same.f
  rw [if_pos (by omega), Option.bind_some]
  by_cases hx : x = sealS (attrRaw (rd x 0) (rd x 1) (strA x) (rd x 27) (numG x 28 2).1 (numG x 30 4).1 (numG x 34 2).1)
  · rw [decide_eq_true hx, if_pos rfl, if_pos ⟨h64, by omega, hR, hx⟩]
  · rw [decide_eq_false hx, if_neg (by simp), if_neg (fun h => hx h.2.2.2)]; rfl
end Go.Proofs.Ytdknolnoimpgeaa.K
