/- Sectors and pens: the kinds of chapter 5. -/
import Derived.Test.YtdkbhbolkieeiaaKFlat2
import Derived.Test.YtdkbhbolkieeiaaKCopyB
import Derived.Test.YtdkbhbolkieeiaaKBytes
import Derived.Deep.MidRow
namespace Go.Proofs.Ytdkbhbolkieeiaa.K
open Go.RowKit Go.Proofs.YtdkbhbolkieeiaaW.PrintWords Go.Proofs.YtdkbhbolkieeiaaW.PrintLast Go.Proofs.YtdkbhbolkieeiaaW.PrintMore
set_option linter.unusedVariables false
set_option linter.unusedSimpArgs false
/-- A sector's bytes. -/
abbrev Sec := { s : List Int // s.length = 64 }
def Sec.enc (x : Sec) : List Value := x.1.map (Value.int .u8)
theorem Sec.len (x : Sec) : x.enc.length = 64 := by rw [Sec.enc, List.length_map, x.2]
theorem Sec.one (x : Sec) : ∀ u ∈ x.enc, u.oneCell' = true := by
  intro u hu
  obtain ⟨n, _, rfl⟩ := List.mem_map.1 hu
  rfl
abbrev kSec : Kd Sec := Kd.flat 64 Sec.enc Sec.len Sec.one
/-- A write that waits. -/
structure Pen where
  at_ : Int
  b : Sec
def Pen.enc (x : Pen) : List Value := .int .i64 x.at_ :: x.b.enc
theorem Pen.len (x : Pen) : x.enc.length = 65 := by rw [Pen.enc, List.length_cons, Sec.len]
theorem Pen.one (x : Pen) : ∀ u ∈ x.enc, u.oneCell' = true := by
  intro u hu
  rcases List.mem_cons.1 hu with rfl | hu
  · rfl
  · exact Sec.one _ u hu
abbrev kPen : Kd Pen := Kd.flat 65 Pen.enc Pen.len Pen.one
theorem secinfo : (Try.prog.info? 95).map (fun i => (i.zero, i.size, i.bytes)) = some (some (.agg (List.replicate 64 (Value.int .u8 0)).toArray), 64, 64) := by kernel_rfl
theorem peninfo : (Try.prog.info? 117).map (fun i => (i.zero, i.size, i.bytes)) = some (some (.agg (Value.int .i64 0 :: List.replicate 64 (Value.int .u8 0)).toArray), 65, 72) := by kernel_rfl
theorem secsize : (Try.prog.info? 95).map (·.size) = some 64 := by kernel_rfl
theorem pensize : (Try.prog.info? 117).map (·.size) = some 65 := by kernel_rfl
theorem disksize : (Try.prog.info? 110).map (·.size) = some 7 := by kernel_rfl
/-- The first 64 of a list, filled up. -/
def toSec (l : List Int) : Sec := ⟨(l ++ List.replicate 64 0).take 64, by simp⟩
theorem toSec_take {l : List Int} (h : 64 ≤ l.length) : (toSec l).1 = l.take 64 := by
  show (l ++ List.replicate 64 0).take 64 = _
  rw [List.take_append_of_le_length h]
theorem toSec_self {l : List Int} (h : l.length = 64) : (toSec l).1 = l := by
  rw [toSec_take (by omega), List.take_of_length_le (by omega)]
theorem Sec.ext {a b : Sec} (h : a.1 = b.1) : a = b := Subtype.ext h
/-- The sectors of bytes. -/
def secs (l : List Int) : List Sec := (List.range (l.length / 64)).map fun i => toSec (l.drop (64 * i))
theorem secs_length (l : List Int) : (secs l).length = l.length / 64 := by simp [secs]
/-- A byte slice's first 64 bytes, as cells of one block. -/
theorem range_of_C {W : World} {b o n : Nat} {l : List Int} (h : Kd.C (Kd.int .u8) W (some ⟨b, o, none⟩) n l) (hl : 64 ≤ l.length) : W.rangeAt b o (toSec l).enc := by
  intro j v hv
  have hj : j < 64 := by have := (List.getElem?_eq_some_iff.1 hv).1; rw [Sec.len] at this; exact this
  have hn := h.1
  obtain ⟨ad, he, hx⟩ := Kd.at_int h (j : Int) (by omega) (by omega)
  obtain rfl := Option.some.inj he
  rw [Int.toNat_natCast, Addr.add_mid] at hx
  rw [hx, ← hv]
  unfold Sec.enc
  rw [toSec_take hl, List.getElem?_map, List.getElem?_take_of_lt hj]
  unfold rd
  rw [Int.toNat_natCast, List.getD_eq_getElem?_getD, List.getElem?_eq_getElem (by omega)]
  rfl
end Go.Proofs.Ytdkbhbolkieeiaa.K
