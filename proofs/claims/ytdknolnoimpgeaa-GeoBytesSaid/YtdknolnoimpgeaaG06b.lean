/- What the printed Put and Get of chapter 6 compute: the same. -/
import Derived.Test.YtdknolnoimpgeaaG06
import Derived.Test.YtdknolnoimpgeaaX06B
import Derived.Test.YtdknolnoimpgeaaX06C
import Derived.Test.YtdknolnoimpgeaaK06p
namespace Go.Proofs.Ytdknolnoimpgeaa.K
open Go.RowKit Go.Proofs.YtdknolnoimpgeaaW.PrintWords Go.Proofs.YtdknolnoimpgeaaW.PrintLast Go.Proofs.YtdknolnoimpgeaaW.PrintMore Go.Proofs.Ytdknolnoimpgeaa.X06
set_option linter.unusedVariables false
set_option linter.unusedSimpArgs false
theorem gr_Bytes (a b c d : Int) : craquelureref06_Bytes.f a b c d = some (sealS (geoHead a b c d)) := by
  unfold craquelureref06_Bytes.f craquelureref02_Seal.f
  rw [if_pos ⟨by simp, bytsB_of (geoHead_byts a b c d)⟩]; rfl
theorem gr_Put (a b c d : Int) : craquelureref06_Put.f a b c d = some (geoBy a b c d, geoE a b c d) := by
  unfold craquelureref06_Put.f craquelureref06_Check.f geoBy
  rw [Option.bind_some]
  by_cases h : geoOk a b c d = true
  · rw [geoE_ok h, if_pos rfl, gr_Bytes, if_pos h]; rfl
  · rw [geoE_bad h, if_neg (by decide), if_neg h]
theorem rd_drop5 (l : List Int) (i : Int) (h : 0 ≤ i) : rd (l.drop 5) i = rd l (5 + i) := by
  unfold rd
  rw [List.getD_eq_getElem?_getD, List.getD_eq_getElem?_getD, List.getElem?_drop]
  congr 2; omega
theorem geoGet_same (l : List Int) (hb : Byts l) (hl : l.length ≤ 40000) : ∃ r, geo_Get.f l = some r ∧ craquelureref06_Get.f l = some r := by
  unfold geo_Get.f craquelureref06_Get.f
  by_cases h64 : (l.length : Int) < 64
  · rw [if_pos h64, if_pos h64]; exact ⟨_, rfl, rfl⟩
  have hd : (l.drop 5).length = l.length - 5 := List.length_drop
  rw [if_neg h64, if_neg h64, rd_drop5 l 0 (by omega), rd_drop5 l 1 (by omega), rd_drop5 l 2 (by omega), rd_drop5 l 3 (by omega)]
  simp only [Int.reduceAdd]
  rw [if_pos (by omega), if_pos (by omega), if_pos (by omega), if_pos (by omega), if_pos (by omega), if_pos (by omega), if_pos (by omega), if_pos (by omega), if_pos (by omega)]
  obtain ⟨a, ha⟩ : ∃ a, a = wrap64 (rd l 5) := ⟨_, rfl⟩
  obtain ⟨b, hb'⟩ : ∃ a, a = wrap64 (rd l 6) := ⟨_, rfl⟩
  obtain ⟨c, hc⟩ : ∃ a, a = wrap64 (rd l 7) := ⟨_, rfl⟩
  obtain ⟨d, hd'⟩ : ∃ a, a = wrap64 (rd l 8) := ⟨_, rfl⟩
  rw [← ha, ← hb', ← hc, ← hd']
  unfold geo_Put.f geoBy craquelureref06_Check.f
  simp only [Option.bind_some]
  by_cases h : geoOk a b c d = true
  case neg =>
    rw [geoE_bad h, if_neg (by decide), if_neg (by decide)]; exact ⟨_, rfl, rfl⟩
  rw [geoE_ok h, if_pos rfl, if_pos rfl, if_pos h, gr_Bytes]
  unfold geo_Total.f craquelureref06_Total.f
  have hs := sealS_byts (geoHead_byts a b c d)
  have ht := hb.take 64
  simp only [Option.bind_some]
  unfold bytes_Equal.f craquelureref01_Same.f
  rw [if_pos (show (64 : Int) ≤ (l.length : Int) by omega), if_pos (show (64 : Int) ≤ (l.length : Int) by omega), if_pos (show bytsB (sealS (geoHead a b c d)) = true ∧ bytsB (l.take 64) = true from ⟨bytsB_of hs, bytsB_of ht⟩), if_pos (show (l.take 64).length < 140737488355328 by rw [List.length_take]; omega)]
  simp only [Option.bind_some]
  by_cases he : sealS (geoHead a b c d) = l.take 64
  · rw [decide_eq_true he, decide_eq_true he.symm, if_pos rfl]
    by_cases hz : (l.length : Int) = wrap64 (64 * geoT a b c d)
    · rw [if_pos hz]; exact ⟨_, rfl, rfl⟩
    · rw [if_neg hz]; exact ⟨_, rfl, rfl⟩
  · rw [decide_eq_false he, decide_eq_false (fun x => he x.symm)]; exact ⟨_, rfl, rfl⟩
end Go.Proofs.Ytdknolnoimpgeaa.K
