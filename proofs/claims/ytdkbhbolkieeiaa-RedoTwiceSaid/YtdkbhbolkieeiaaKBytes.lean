/- The walk of bytes.Equal. -/
import Derived.Test.YtdkbhbolkieeiaaKC
import Derived.Test.YtdkbhbolkieeiaaKS01
namespace Go.Proofs.Ytdkbhbolkieeiaa.K
open Go.RowKit Go.Proofs.YtdkbhbolkieeiaaW.PrintWords Go.Proofs.YtdkbhbolkieeiaaW.PrintLast Go.Proofs.YtdkbhbolkieeiaaW.PrintMore
set_option linter.unusedVariables false
set_option linter.unusedSimpArgs false
theorem byts_of_wf {l : List Int} (h : ∀ x ∈ l, (Lit.int .u8 x).wf = true) : Byts l := fun x hx => by
  have := h x hx
  have h0 : IntKind.u8.min = 0 := by decide
  have h1 : IntKind.u8.max = 255 := by decide
  simp [Lit.wf, h0, h1] at this
  omega
theorem strOfNums_inj : ∀ {a b : List Int}, Byts a → Byts b → (strOfNums a).toList = (strOfNums b).toList → a = b := by
  intro a b ha hb h
  rw [ByteArray.toList_eq, ByteArray.toList_eq] at h
  simp only [strOfNums] at h
  have h2 := congrArg (List.map fun x : UInt8 => (x.toNat : Int)) h
  have key : ∀ l : List Int, Byts l → (l.map fun n => UInt8.ofNat n.toNat).map (fun x : UInt8 => (x.toNat : Int)) = l := by
    intro l hl
    rw [List.map_map]
    conv => rhs; rw [← List.map_id l]
    apply List.map_congr_left
    intro x hx
    obtain ⟨h0, h1⟩ := hl x hx
    simp only [Function.comp, id]
    have : (UInt8.ofNat x.toNat).toNat = x.toNat % 256 := by simp
    omega
  rwa [key a ha, key b hb] at h2
theorem bEq_same (A1 : Option Addr) (c1 : Nat) (a : List Int) (A2 : Option Addr) (c2 : Nat) (b : List Int) (w : World) (h1 : Kd.C (Kd.int .u8) w A1 a.length a) (h2 : Kd.C (Kd.int .u8) w A2 b.length b) (ha : Byts a) (hb : Byts b) :
    Calls Try.prog 28 #[.slice A1 a.length c1, .slice A2 b.length c2] w fun e w' => e = .returned (.bool (decide (a = b))) ∧ w' = w := by
  have E0 : Aside0 (((strOfNums a).toList == (strOfNums b).toList) = decide (a = b)) := ⟨by
    rw [Bool.eq_iff_iff]
    simp only [beq_iff_eq, decide_eq_true_eq]
    exact ⟨strOfNums_inj ha hb, fun h => by rw [h]⟩⟩
  have hcv3 := Kd.C_string (P := Try.prog) (A := A1) (c := c1) Try.underlying44 Try.underlying5 Try.underlying9 h1
  have hcv4 := Kd.C_string (P := Try.prog) (A := A2) (c := c2) Try.underlying44 Try.underlying5 Try.underlying9 h2
  clear h1 h2
  go_enter Try.func28, Try.ntmps28
  go_wp2
  go_ret
  exact ⟨by rw [← E0.out]; rfl, rfl⟩
theorem bEq_walk (A1 : Option Addr) (c1 : Nat) (a : List Int) (A2 : Option Addr) (c2 : Nat) (b : List Int) (w : World) (h1 : Kd.C (Kd.int .u8) w A1 a.length a) (h2 : Kd.C (Kd.int .u8) w A2 b.length b) (ha : Byts a) (hb : Byts b) :
    Calls Try.prog 28 #[.slice A1 a.length c1, .slice A2 b.length c2] w fun e w' => e = .returned (.bool (decide (a = b))) ∧ Drawn0 w w' :=
  (bEq_same A1 c1 a A2 c2 b w h1 h2 ha hb).mono fun _ _ h => ⟨h.1, by rw [h.2]; exact Drawn0.refl _⟩
/-- Two rows that are the same: in the form that a region's walk wants. -/
theorem bEq_true (A1 : Option Addr) (n1 c1 : Nat) (a : List Int) (A2 : Option Addr) (n2 c2 : Nat) (b : List Int) (w : World) (h1 : Kd.C (Kd.int .u8) w A1 n1 a) (h2 : Kd.C (Kd.int .u8) w A2 n2 b) (ha : Byts a) (hab : a = b) :
    Calls Try.prog 28 #[.slice A1 n1 c1, .slice A2 n2 c2] w fun e w' => e = .returned (.bool true) ∧ w' = w := by
  subst hab
  have e1 := h1.1
  have e2 := h2.1
  subst e1
  rw [← e2] at h2 ⊢
  have := bEq_same A1 c1 a A2 c2 a w h1 h2 ha ha
  rw [decide_eq_true rfl] at this
  exact this
end Go.Proofs.Ytdkbhbolkieeiaa.K
