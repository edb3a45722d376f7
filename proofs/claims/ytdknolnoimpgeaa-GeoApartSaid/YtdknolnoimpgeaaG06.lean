/- What the printed walks of geo and of its reference compute: the same as geoE, geoB, geoL, geoP, geoU. -/
import Derived.Test.YtdknolnoimpgeaaR06
import Derived.Test.YtdknolnoimpgeaaX06A
namespace Go.Proofs.Ytdknolnoimpgeaa.K
open Go.RowKit Go.Proofs.YtdknolnoimpgeaaW.PrintWords Go.Proofs.YtdknolnoimpgeaaW.PrintLast Go.Proofs.YtdknolnoimpgeaaW.PrintMore Go.Proofs.Ytdknolnoimpgeaa.X06
set_option linter.unusedVariables false
set_option linter.unusedSimpArgs false
def geoU (a b c d s : Int) : Bool := geoOk a b c d && win s (geoB a b c d 0) (wrap64 (geoL a b c d - 1))
theorem w64 {n : Int} (h0 : -9223372036854775808 ≤ n) (h1 : n ≤ 9223372036854775807) : wrap64 n = n := by unfold wrap64; omega
theorem gp_within (n lo hi : Int) : geo_within.f n lo hi = some (win n lo hi) := by
  unfold geo_within.f win
  by_cases h : lo ≤ n
  · rw [if_pos (by omega)]; simp [h]
  · rw [if_neg (by omega)]; simp [h]
theorem gp_Upper (a b c d s : Int) : geo_Upper.f a b c d s = some (geoU a b c d s) := by
  unfold geo_Upper.f geo_Check.f geo_Bitmap.f geo_Log.f
  simp only [Option.bind_some, gp_within]
  by_cases h : geoOk a b c d = true
  · rw [geoE_ok h, if_pos rfl]; unfold geoU; rw [h]; rfl
  · rw [geoE_bad h, if_neg (by decide)]; unfold geoU; simp [h]
theorem geoB_le {a b c d l : Int} : geoB a b c d l ≤ 400 := by
  by_cases h : geoOk a b c d = true ∧ 0 ≤ l ∧ l ≤ a
  case neg => rw [geoB_bad h]; omega
  obtain ⟨hk, hl0, hl1⟩ := h
  obtain ⟨⟨ha0, ha1⟩, ⟨hb0, hb1⟩, ⟨hc0, hc1⟩, hd⟩ := geoOk_parts hk
  by_cases h0 : l = 0
  · subst h0; rw [geoB_zero hk]; rcases (by omega : a = 1 ∨ a = 2 ∨ a = 3) with rfl | rfl | rfl <;> omega
  · rw [geoB_pos hk (by omega) hl1]; rcases (by omega : l = 1 ∨ l = 2 ∨ l = 3) with rfl | rfl | rfl <;> omega
theorem geoB_ok {a b c d l : Int} (h : ¬ geoB a b c d l < 0) : geoOk a b c d = true := by
  apply Classical.byContradiction; intro hk; rw [geoB_bad (fun x => hk x.1)] at h; omega
theorem gr_Inode (a b c d l n : Int) : craquelureref06_Inode.f a b c d l n = some (geoP a b c d l n 1 b 0) := by
  unfold craquelureref06_Inode.f craquelureref06_Start.f geoP
  simp only [Option.bind_some]
  by_cases h : geoB a b c d l < 0
  · rw [if_pos h, if_pos (show geoB a b c d l < 0 ∨ _ from .inl h)]
  have hk := geoOk_parts (geoB_ok h)
  have hle := @geoB_le a b c d l
  rw [if_neg h]
  by_cases hn : win n 1 b = true
  · have hn' : 1 ≤ n ∧ n ≤ b := by simpa [win] using hn
    rw [if_neg (by omega), if_neg (by omega), if_neg (by simp [hn]; omega), w64 (n := geoB a b c d l + 0) (by omega) (by omega), Int.add_zero]
  · have hn' : ¬ (1 ≤ n ∧ n ≤ b) := by simpa [win] using hn
    rw [if_pos (show geoB a b c d l < 0 ∨ ¬ win n 1 b = true from .inr hn)]
    by_cases h1 : n < 1
    · rw [if_pos h1]
    · rw [if_neg h1, if_pos (by omega)]
theorem gr_Block (a b c d l n : Int) : craquelureref06_Block.f a b c d l n = some (geoP a b c d l n 0 (wrap64 (c - 1)) (wrap64 (1 + b))) := by
  unfold craquelureref06_Block.f craquelureref06_Start.f geoP
  simp only [Option.bind_some]
  by_cases h : geoB a b c d l < 0
  · rw [if_pos h, if_pos (show geoB a b c d l < 0 ∨ _ from .inl h)]
  have hk := geoOk_parts (geoB_ok h)
  have hle := @geoB_le a b c d l
  rw [if_neg h, w64 (n := c - 1) (by omega) (by omega), w64 (n := 1 + b) (by omega) (by omega)]
  by_cases hn : win n 0 (c - 1) = true
  · have hn' : 0 ≤ n ∧ n ≤ c - 1 := by simpa [win] using hn
    rw [if_neg (by omega), if_neg (by omega), if_neg (by simp [hn]; omega), w64 (n := geoB a b c d l + 1) (by omega) (by omega), w64 (n := geoB a b c d l + 1 + b) (by omega) (by omega), w64 (n := geoB a b c d l + (1 + b)) (by omega) (by omega)]
    congr 2; omega
  · have hn' : ¬ (0 ≤ n ∧ n ≤ c - 1) := by simpa [win] using hn
    rw [if_pos (show geoB a b c d l < 0 ∨ ¬ win n 0 (c - 1) = true from .inr hn)]
    by_cases h1 : n < 0
    · rw [if_pos h1]
    · rw [if_neg h1, if_pos (by omega)]
theorem geoL_ok {a b c d : Int} (h : geoOk a b c d = true) : geoL a b c d = 1 + (a + 1) * (1 + b + c) ∧ 8 ≤ geoL a b c d ∧ geoL a b c d ≤ 400 := by
  obtain ⟨⟨ha0, ha1⟩, ⟨hb0, hb1⟩, ⟨hc0, hc1⟩, hd⟩ := geoOk_parts h
  obtain ⟨m0, m1⟩ := small_log ha0 ha1 hb0 hb1 hc0 hc1
  unfold geoL; rw [if_pos h]; omega
theorem gr_Upper (a b c d s : Int) : craquelureref06_Upper.f a b c d s = some (geoU a b c d s) := by
  unfold craquelureref06_Upper.f craquelureref06_Check.f craquelureref06_Start.f craquelureref06_Log.f geoU
  simp only [Option.bind_some]
  by_cases h : geoOk a b c d = true
  · have hL := geoL_ok h
    rw [geoE_ok h, if_pos rfl]
    rw [h, w64 (by omega) (by omega)]
    by_cases h0 : s ≥ geoB a b c d 0
    · rw [if_pos h0]; simp [win, h0]; omega
    · rw [if_neg h0]; simp [win]; omega
  · rw [geoE_bad h, if_neg (by decide)]; simp [h]
theorem geoUpper_walk (a b c d s : Int) (w : World) :
    Calls Try.prog 42 #[geoV a b c d, .int .i64 s] w fun e w' => e = .returned (.bool (geoU a b c d s)) ∧ Below w.heap.size w w' :=
  geo_Upper.calls a b c d s _ w (gp_Upper a b c d s)
theorem rInode_walk (a b c d l n : Int) (w : World) :
    Calls Try.prog 37 #[geoV a b c d, .int .i64 l, .int .i64 n] w fun e w' => e = .returned (.int .i64 (geoP a b c d l n 1 b 0)) ∧ Below w.heap.size w w' :=
  craquelureref06_Inode.calls a b c d l n _ w (gr_Inode a b c d l n)
theorem rBlock_walk (a b c d l n : Int) (w : World) :
    Calls Try.prog 39 #[geoV a b c d, .int .i64 l, .int .i64 n] w fun e w' => e = .returned (.int .i64 (geoP a b c d l n 0 (wrap64 (c - 1)) (wrap64 (1 + b)))) ∧ Below w.heap.size w w' :=
  craquelureref06_Block.calls a b c d l n _ w (gr_Block a b c d l n)
theorem rUpper_walk (a b c d s : Int) (w : World) :
    Calls Try.prog 43 #[geoV a b c d, .int .i64 s] w fun e w' => e = .returned (.bool (geoU a b c d s)) ∧ Below w.heap.size w w' :=
  craquelureref06_Upper.calls a b c d s _ w (gr_Upper a b c d s)
end Go.Proofs.Ytdknolnoimpgeaa.K
