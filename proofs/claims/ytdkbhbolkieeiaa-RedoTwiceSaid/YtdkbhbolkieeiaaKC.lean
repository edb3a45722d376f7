/- Words of this project that its walks share. -/
import Derived.Test.YtdkbhbolkieeiaaProg
import Derived.Below
import Derived.Deep.Draws
import Derived.Deep.AppendLies
import Derived.Maps.AppendAt
import Derived.OwnWalk
import Derived.Laws.BytesArg
import Derived.Laws.MakeOwn
import Derived.Laws.OwnMore
import Derived.Deep.OwnRows
import Derived.Tactics
import Derived.Lib.ConvBytes
import Derived.Laws.Slices
import Derived.WalkKit
import Derived.KernelRfl
import Derived.RowKit3
import Derived.Deep.LoopGhost
import Derived.Deep.QuietTactic
import Derived.BigQuiet
import Derived.WideLaws
import Derived.Deep.DeepCutAuto
import Derived.Deep.CutBlock
import Derived.Deep.RegionHeld3
import Derived.Laws.Rows
import Derived.Lib.AppendStr
import Derived.ArgAppend
import Derived.Laws.IdiomCopy
import Derived.OrdersHeld
import Derived.Laws.BitsLemmas
import Derived.RowKit
import Derived.Lib.SliceRun
import Derived.Lib.LazyBuf
import Derived.WalkLawsBesides
import Derived.WalkSpells
import Derived.Test.YtdkbhbolkieeiaaKMo
import Derived.Test.YtdkbhbolkieeiaaWWords
import Derived.Test.YtdkbhbolkieeiaaWLast
import Derived.Test.YtdkbhbolkieeiaaWEqStruct
import Derived.Test.YtdkbhbolkieeiaaWRepsOne
import Derived.Test.YtdkbhbolkieeiaaWSized
namespace Go.Proofs.Ytdkbhbolkieeiaa.K
open Go.RowKit Go.Proofs.YtdkbhbolkieeiaaW.PrintWords Go.Proofs.YtdkbhbolkieeiaaW.PrintLast Go.Proofs.YtdkbhbolkieeiaaW.PrintMore
theorem u8info : (Try.prog.info? 5).map (fun i => (i.zero, i.size, i.bytes)) = some (some (.int .u8 0), 1, 1) := by kernel_rfl
def IsRow (k : IntKind) (w : World) (a : Option Addr) (len cap : Nat) (zs : List Int) : Prop :=
  (a = none ∧ len = 0 ∧ cap = 0 ∧ zs = []) ∨
  ∃ x, a = some x ∧ len ≤ cap ∧ cap ≤ maxLen ∧ zs.length = cap ∧ (∀ i, i < zs.length → w.cell? (x.add i) = some (.int k (zs.getD i 0))) ∧ ∀ n ∈ zs, (Lit.int k n).wf = true
theorem C_nil_len {α : Type} {d : Kd α} {w : World} {n : Nat} {xs : List α} (h : d.C w none n xs) : xs = [] := by
  rcases Nat.eq_zero_or_pos n with h0 | h0
  · exact List.eq_nil_of_length_eq_zero (h.1.trans h0)
  · obtain ⟨ad, he, _⟩ := h.2.2 h0
    cases he
theorem below_undrew {w w' : World} {n : Nat} (h : Below (w.drewN n).heap.size (w.drewN n) w') : Below w.heap.size w w' := ⟨h.os, h.tape, h.output, h.size, h.block⟩
theorem ret_b {a b : Bool} (h : a = b) : Ending.returned (.bool a) = .returned (.bool b) := by rw [h]
theorem C_cell {k : IntKind} {W : World} {g n : Nat} {xs : List Int} (h : Kd.C (Kd.int k) W (some ⟨g, 0, none⟩) n xs) {m : Nat} (hm : m < xs.length) : W.cell? ⟨g, m, none⟩ = some (.int k xs[m]) := by
  have hn := h.1
  obtain ⟨ad, he, hx⟩ := Kd.at_int h (m : Int) (by omega) (by omega)
  obtain rfl := Option.some.inj he
  rw [add_plain, Int.toNat_natCast] at hx
  rw [hx]
  simp [rd, List.getElem?_eq_getElem hm]
theorem addr_add_add (a : Addr) (i j : Nat) : (a.add i).add j = a.add (i + j) := by
  unfold Addr.add
  by_cases hi : i = 0 <;> by_cases hj : j = 0 <;> simp [hi, hj, Nat.add_assoc]
theorem rdOf_get {α : Type} {d : α} {l : List α} {m : Nat} (h : m < l.length) : rdOf d l (m : Int) = l[m] := by
  unfold rdOf
  rw [Int.toNat_natCast]
  simp [List.getElem?_eq_getElem h]
theorem rd_get {l : List Int} {m : Nat} (h : m < l.length) : rd l (m : Int) = l[m] := by simp [rd, List.getElem?_eq_getElem h]
/-- A cut of a row that is read, under a name: xs[lo:hi], xs[lo:], xs[:hi]. -/
theorem cutMid {α : Type} {P : Program} (d : Kd α) (t e : TypeId) {i : TypeInfo} (ht : P.underlying t = some (.slice e)) (hi' : P.info? e = some i) (hsz : i.size = d.sz) (A : Option Addr) (c : Nat) (xs : List α) (lo hi : Nat) (h1 : lo ≤ hi) (h2 : hi ≤ xs.length) (hc : xs.length ≤ c) :
    ∃ A' : Option Addr, (∀ W : World, (Instr.slice t (.slice A xs.length c) (some (.int .i64 lo)) (some (.int .i64 hi)) none).run P W = .ok (.slice A' (hi - lo) (c - lo)) W) ∧
      (∀ w : World, d.C w A xs.length xs → d.C w A' (hi - lo) ((xs.take hi).drop lo)) ∧ hi - lo ≤ c - lo := by
  refine ⟨if c = lo then A else A.map (·.add (lo * d.sz)), fun W => ?_, fun w h => ?_, by omega⟩
  · have := cut_mid (P := P) t e .i64 .i64 ht hi' d.sz hsz A xs.length c (lo : Int) (hi : Int) (by omega) (by omega) (by omega) hc W
    simpa only [Int.toNat_natCast] using this
  · have := Kd.C_mid (c := c) h h1 h2 hc
    have hl : ((xs.take hi).drop lo).length = hi - lo := by simp; omega
    rw [hl] at this
    exact this
theorem cutFrom {α : Type} {P : Program} (d : Kd α) (t e : TypeId) {i : TypeInfo} (ht : P.underlying t = some (.slice e)) (hi' : P.info? e = some i) (hsz : i.size = d.sz) (A : Option Addr) (c : Nat) (xs : List α) (lo : Nat) (h1 : lo ≤ xs.length) (hc : xs.length ≤ c) :
    ∃ A' : Option Addr, (∀ W : World, (Instr.slice t (.slice A xs.length c) (some (.int .i64 lo)) none none).run P W = .ok (.slice A' (xs.length - lo) (c - lo)) W) ∧
      (∀ w : World, d.C w A xs.length xs → d.C w A' (xs.length - lo) (xs.drop lo)) ∧ xs.length - lo ≤ c - lo := by
  refine ⟨if c = lo then A else A.map (·.add (lo * d.sz)), fun W => ?_, fun w h => ?_, by omega⟩
  · have := cut_from (P := P) t e .i64 ht hi' d.sz hsz A xs.length c (lo : Int) (by omega) (by omega) W
    simpa only [Int.toNat_natCast] using this
  · have := Kd.C_drop (c := c) h h1 hc
    rw [List.length_drop] at this
    exact this
theorem cutTo {α : Type} {P : Program} (d : Kd α) (t e : TypeId) {i : TypeInfo} (ht : P.underlying t = some (.slice e)) (hi' : P.info? e = some i) (A : Option Addr) (c : Nat) (xs : List α) (hi : Nat) (h2 : hi ≤ xs.length) (hc : xs.length ≤ c) :
    (∀ W : World, (Instr.slice t (.slice A xs.length c) none (some (.int .i64 hi)) none).run P W = .ok (.slice A hi c) W) ∧
      (∀ w : World, d.C w A xs.length xs → d.C w A hi (xs.take hi)) ∧ hi ≤ c := by
  refine ⟨fun W => ?_, fun w h => ?_, by omega⟩
  · have := cut_to (P := P) t e .i64 ht hi' A xs.length c (hi : Int) (by omega) (by omega) hc W
    simpa only [Int.toNat_natCast] using this
  · have := Kd.C_take h h2
    rw [List.length_take, Nat.min_eq_left h2] at this
    exact this
/-- A byte joined by 'or' above the bytes that are there, on an int. -/
theorem or_i64 {n x : Int} {k : Nat} (h0 : 0 ≤ n) (h1 : n < 2 ^ (8 * k)) (hx : 0 ≤ x) (hx1 : x < 256) (hk : k ≤ 3) : bits .or .i64 n (x * 2 ^ (8 * k)) = n + x * 2 ^ (8 * k) := by
  have hc : bits .or .i64 n (x * 2 ^ (8 * k)) = bits .or .i64 (x * 2 ^ (8 * k)) n := by simp only [bits, BitVec.or_comm]
  have hp : (0 : Int) < 2 ^ (8 * k) := Int.pow_pos (by decide)
  have hle : (2 : Int) ^ (8 * k) ≤ 16777216 := by
    rcases (by omega : k = 0 ∨ k = 1 ∨ k = 2 ∨ k = 3) with rfl | rfl | rfl | rfl <;> decide
  have hxb : 0 ≤ x * 2 ^ (8 * k) ∧ x * 2 ^ (8 * k) ≤ 255 * 16777216 := ⟨Int.mul_nonneg hx (Int.le_of_lt hp), Int.mul_le_mul (by omega) hle (Int.le_of_lt hp) (by decide)⟩
  rw [hc, bits_join .i64 63 (by decide) (fun m m0 m1 => by rw [IntKind.wrap_i64]; omega) (8 * k) _ n hxb.1 (by simp) (by omega) h0 h1 (by omega)]
  omega
end Go.Proofs.Ytdkbhbolkieeiaa.K
