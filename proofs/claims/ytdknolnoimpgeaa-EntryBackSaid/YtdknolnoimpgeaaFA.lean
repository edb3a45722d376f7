/- Walks and plain laws of this claim, merged: KS03, K03, R03, KBlk, KBlk2, KArr, KS01, KBytes, KS02, KF, K02, K01, K02b, KCopy, K03b. -/
import Derived.Test.YtdknolnoimpgeaaKC
import Derived.Shelf.GgClosure.StringsIndexFuncTop
import Derived.Lib.TrimUEq
import Derived.Shelf.Lay
import Derived.Deep.MidRow
import Derived.Great.BuildSlice
import Derived.Deep.WholeRow
import Derived.Laws.CopyOwn
import Derived.Lib.UnsafeStr
import Derived.Laws.FloatArith
import Derived.Laws.ComplexArith
import Derived.StillTailTactics
import Derived.Lib.LazyBuf
namespace Go.Proofs.Ytdknolnoimpgeaa.K
open Go.Lib
set_option linter.unusedVariables false
set_option linter.unusedSimpArgs false
/-- A byte (a rune) that may stand in a name. -/
def letterN (c : Nat) : Bool := (decide (97 ≤ c) && decide (c ≤ 122)) || (decide (48 ≤ c) && decide (c ≤ 57)) || c == 46 || c == 95 || c == 45
theorem letter_ascii {c : Nat} (h : letterN c = true) : c < 128 := by
  simp only [letterN, Bool.or_eq_true, Bool.and_eq_true, decide_eq_true_eq, beq_iff_eq] at h
  omega
/-- A name that may be. -/
def rightN (s : ByteArray) : Bool := decide (1 ≤ s.size) && decide (s.size ≤ 12) && !(decide (s = ⟨#[46]⟩)) && !(decide (s = ⟨#[46, 46]⟩)) && s.data.toList.all (fun b => letterN b.toNat)
theorem decodeN_high (n b0 b1 b2 b3 : Nat) (h : 128 ≤ b0) : 128 ≤ (decodeN n b0 b1 b2 b3).1 := by
  unfold decodeN
  split
  · omega
  split
  · split <;> simp <;> omega
  split
  · split <;> simp <;> omega
  split
  · split <;> simp <;> omega
  · simp
theorem idx_letters (s : ByteArray) : ∀ f pos, s.size ≤ pos + f → decide (idxFuncFrom (fun r => !letterN r) true s f pos < 0) = (s.data.toList.drop pos).all (fun b => letterN b.toNat)
  | 0, pos, h => by
    rw [List.drop_eq_nil_of_le (by have : s.data.toList.length = s.size := by rw [Array.length_toList]; rfl
                                   omega)]
    rfl
  | f + 1, pos, h => by
    have hl : s.data.toList.length = s.size := by rw [Array.length_toList]; rfl
    unfold idxFuncFrom
    by_cases hp : pos < s.size
    · rw [if_pos hp, List.drop_eq_getElem_cons (by omega), List.all_cons]
      have hd := decode_N s pos
      have hb : s.data.toList.getD pos 0 = s.data.toList[pos]'(by omega) := by simp [List.getD, List.getElem?_eq_getElem (show pos < s.data.toList.length by omega)]
      rw [hb] at hd
      obtain ⟨b, hbb⟩ : ∃ b, b = s.data.toList[pos]'(by omega) := ⟨_, rfl⟩
      rw [← hbb] at hd ⊢
      by_cases ha : b.toNat < 128
      · rw [decodeN_ascii _ _ _ _ _ ha] at hd
        rw [hd]
        cases hlet : letterN b.toNat with
        | true =>
          simp only [hlet, Bool.not_true, Bool.false_eq_true, if_false, Bool.true_and]
          exact idx_letters s f (pos + 1) (by omega)
        | false => simp [hlet]
      · have hr : letterN (Utf8.decode s pos).1 = false := by
          cases hq : letterN (Utf8.decode s pos).1 with
          | false => rfl
          | true =>
            have h1 := letter_ascii hq
            have h2 := decodeN_high (s.data.toList.length - pos) b.toNat (s.data.toList.getD (pos + 1) 0).toNat (s.data.toList.getD (pos + 2) 0).toNat (s.data.toList.getD (pos + 3) 0).toNat (by omega)
            rw [hd] at h1
            omega
        have hr2 : letterN b.toNat = false := by
          cases hq : letterN b.toNat with
          | false => rfl
          | true => have := letter_ascii hq; omega
        simp [hr, hr2]
    · rw [if_neg hp, List.drop_eq_nil_of_le (by omega)]
      rfl
theorem idx_right (s : ByteArray) : decide (idxFunc (fun r => !letterN r) true s < 0) = s.data.toList.all (fun b => letterN b.toNat) := by
  have := idx_letters s s.size 0 (by omega)
  rwa [List.drop_zero] at this
end Go.Proofs.Ytdknolnoimpgeaa.K
namespace Go.Proofs.Ytdknolnoimpgeaa.K
open Go.RowKit Go.Shelf Go.Lib Go.Proofs.YtdknolnoimpgeaaW.PrintWords Go.Proofs.YtdknolnoimpgeaaW.PrintLast Go.Proofs.YtdknolnoimpgeaaW.PrintMore
set_option linter.unusedVariables false
set_option linter.unusedSimpArgs false
shelf_lay LaysGw.n15 Ggw 15 at Try as Try.lIF
set_option maxRecDepth 100000 in
theorem letter_walk (c : Nat) (w : World) :
    Calls Try.prog 143 #[.int .i32 c] w fun e w' => e = .returned (.bool (letterN c)) ∧ w' = w := by
  by_cases h1 : (97 : Int) ≤ c <;> by_cases h2 : (c : Int) ≤ 122 <;> by_cases h3 : (48 : Int) ≤ c <;> by_cases h4 : (c : Int) ≤ 57 <;> first | (exfalso; omega) | skip
  all_goals by_cases h5 : (c : Int) = 46
  all_goals by_cases h6 : (c : Int) = 95
  all_goals by_cases h7 : (c : Int) = 45
  all_goals first | (exfalso; omega) | skip
  all_goals first | (have e : letterN c = true := by (simp only [letterN, Bool.or_eq_true, Bool.and_eq_true, decide_eq_true_eq, beq_iff_eq]; omega)) | (have e : letterN c = false := by (rw [← Bool.not_eq_true]; simp only [letterN, Bool.or_eq_true, Bool.and_eq_true, decide_eq_true_eq, beq_iff_eq]; omega))
  all_goals rw [e]
  all_goals clear e
  all_goals
    go_enter Try.func143, Try.ntmps143
    go_wp2
    go_ret
    exact ⟨by first | rfl | simp [h5, h6, h7], rfl⟩
theorem notLetter (w : World) : PredAt Try.prog 142 #[] encR (fun r => !letterN r) w := fun W r _ => by
  unfold FnGives
  go_enter Try.func142, Try.ntmps142
  go_wp2_with (go_at_call 143; refine (letter_walk r _).mono ?_; rintro e w' ⟨rfl, h_⟩; have h_ := h_.symm; subst h_)
  go_ret
  exact ⟨by rfl, 0, rfl⟩
theorem rightN_of {s : ByteArray} (h1 : 1 ≤ s.size) (h2 : s.size ≤ 12) (h3 : ¬ s = ⟨#[46]⟩) (h4 : ¬ s = ⟨#[46, 46]⟩) : rightN s = s.data.toList.all (fun b => letterN b.toNat) := by
  simp [rightN, h1, h2, h3, h4]
theorem str_ne {s : ByteArray} {l : Array UInt8} (h : ¬ s = ⟨l⟩) : (s.toList == l.toList) = false := by
  rw [ByteArray.toList_eq, beq_eq_false_iff_ne]
  intro e
  exact h (by cases s with | mk d => simp only at e; rw [Array.toList_inj.1 e])
theorem right_walk (s : ByteArray) (w : World) :
    Calls Try.prog 114 #[.string s] w fun e w' => e = .returned (.bool (rightN s)) ∧ Below w.heap.size w w' := by
  by_cases h1 : 1 ≤ s.size
  case neg =>
    have E0 : Aside0 (rightN s = false) := ⟨by simp [rightN, h1]⟩
    have h0 : ((s.size : Int) == 0) = true := beq_iff_eq.2 (by omega)
    clear h1
    go_enter Try.func114, Try.ntmps114
    go_wp2
    go_ret
    exact ⟨by rw [E0.out]; rfl, Below.refl _ _⟩
  by_cases h2 : s.size ≤ 12
  case neg =>
    have E0 : Aside0 (rightN s = false) := ⟨by simp [rightN, h2]⟩
    have h0 : ((s.size : Int) == 0) = false := beq_eq_false_iff_ne.2 (by omega)
    have h12 : 12 < s.size := by omega
    clear h1 h2
    go_enter Try.func114, Try.ntmps114
    go_wp2
    go_ret
    exact ⟨by rw [E0.out]; rfl, Below.refl _ _⟩
  by_cases h3 : s = ⟨#[46]⟩
  · subst h3
    go_enter Try.func114, Try.ntmps114
    go_wp2
    go_ret
    exact ⟨by rw [show rightN ⟨#[46]⟩ = false by rfl]; rfl, Below.refl _ _⟩
  by_cases h4 : s = ⟨#[46, 46]⟩
  · subst h4
    go_enter Try.func114, Try.ntmps114
    go_wp2
    go_ret
    exact ⟨by rw [show rightN ⟨#[46, 46]⟩ = false by rfl]; rfl, Below.refl _ _⟩
  have E0 := Aside0.mk (rightN_of h1 h2 h3 h4)
  have q3 : (s.toList == [46]) = false := str_ne h3
  have q4 : (s.toList == [46, 46]) = false := str_ne h4
  clear h3 h4
  have E1 := Aside0.mk (idx_right s)
  have h0 : ((s.size : Int) == 0) = false := beq_eq_false_iff_ne.2 (by omega)
  have WI := Aside0.mk (fun w => Any.strings_IndexFunc Try.lIF 142 #[] (enters_of Try.func142 (by kernel_rfl) rfl) (fun r => !letterN r) s w (notLetter w))
  clear h1
  go_enter Try.func114, Try.ntmps114
  go_wp2_with (go_at_call 141; refine (WI.out _).mono ?_; rintro e w1 ⟨rfl, hb⟩)
  go_ret
  exact ⟨by rw [E0.out, ← E1.out]; rfl, hb⟩
end Go.Proofs.Ytdknolnoimpgeaa.K
namespace Go.Proofs.Ytdknolnoimpgeaa.K
open Go.RowKit Go.Shelf Go.Lib Go.Proofs.YtdknolnoimpgeaaW.PrintWords Go.Proofs.YtdknolnoimpgeaaW.PrintLast Go.Proofs.YtdknolnoimpgeaaW.PrintMore
set_option linter.unusedVariables false
set_option linter.unusedSimpArgs false
set_option maxRecDepth 100000 in
theorem rletter_walk (c : Nat) (w : World) :
    Calls Try.prog 144 #[.int .u8 c] w fun e w' => e = .returned (.bool (letterN c)) ∧ w' = w := by
  by_cases h1 : (97 : Int) ≤ c <;> by_cases h2 : (c : Int) ≤ 122 <;> by_cases h3 : (48 : Int) ≤ c <;> by_cases h4 : (c : Int) ≤ 57 <;> first | (exfalso; omega) | skip
  all_goals by_cases h5 : (c : Int) = 46
  all_goals by_cases h6 : (c : Int) = 95
  all_goals by_cases h7 : (c : Int) = 45
  all_goals first | (exfalso; omega) | skip
  all_goals first | (have e : letterN c = true := by (simp only [letterN, Bool.or_eq_true, Bool.and_eq_true, decide_eq_true_eq, beq_iff_eq]; omega)) | (have e : letterN c = false := by (rw [← Bool.not_eq_true]; simp only [letterN, Bool.or_eq_true, Bool.and_eq_true, decide_eq_true_eq, beq_iff_eq]; omega))
  all_goals rw [e]
  all_goals clear e
  all_goals
    go_enter Try.func144, Try.ntmps144
    go_wp2
    go_ret
    exact ⟨by first | rfl | simp [h5, h6, h7], rfl⟩
set_option maxRecDepth 100000 in
theorem rRight_walk (s : ByteArray) (w : World) :
    Calls Try.prog 115 #[.string s] w fun e w' => e = .returned (.bool (rightN s)) ∧ Below w.heap.size w w' := by
  by_cases h1 : 1 ≤ s.size
  case neg =>
    have E0 : Aside0 (rightN s = false) := ⟨by simp [rightN, h1]⟩
    have h0 : (s.size : Int) < 1 := by omega
    clear h1
    go_enter Try.func115, Try.ntmps115
    go_wp2
    go_ret
    exact ⟨by rw [E0.out]; rfl, Below.refl _ _⟩
  by_cases h2 : s.size ≤ 12
  case neg =>
    have E0 : Aside0 (rightN s = false) := ⟨by simp [rightN, h2]⟩
    have h0 : 1 ≤ s.size := by omega
    have h12 : 12 < s.size := by omega
    clear h1 h2
    go_enter Try.func115, Try.ntmps115
    go_wp2
    go_ret
    exact ⟨by rw [E0.out]; rfl, Below.refl _ _⟩
  by_cases h3 : s = ⟨#[46]⟩
  · subst h3
    go_enter Try.func115, Try.ntmps115
    go_wp2
    go_ret
    exact ⟨by rw [show rightN ⟨#[46]⟩ = false by rfl]; rfl, Below.refl _ _⟩
  by_cases h4 : s = ⟨#[46, 46]⟩
  · subst h4
    go_enter Try.func115, Try.ntmps115
    go_wp2
    go_ret
    exact ⟨by rw [show rightN ⟨#[46, 46]⟩ = false by rfl]; rfl, Below.refl _ _⟩
  have E0 := Aside0.mk (rightN_of h1 h2 h3 h4)
  have q3 : (s.toList == [46]) = false := str_ne h3
  have q4 : (s.toList == [46, 46]) = false := str_ne h4
  have hsl : Aside0 (s.data.toList.length = s.size) := ⟨by rw [Array.length_toList]; rfl⟩
  clear h3 h4
  go_enter Try.func115, Try.ntmps115
  go_wp2
  go_loop [3] (fun v3 => ∃ m : Nat, v3 = .int .i64 m ∧ Aside0 (m ≤ s.size) ∧ Aside0 ((s.data.toList.take m).all (fun b => letterN b.toNat) = true)) (fun i => s.size - (intOf i).toNat)
  case atStart => exact ⟨0, rfl, ⟨Nat.zero_le _⟩, ⟨rfl⟩⟩
  case round =>
    obtain ⟨m, rfl, hm, hall⟩ := hrel
    have hm' := hm.out
    by_cases hlt : m < s.size
    · have hl : m < s.data.toList.length := by rw [hsl.out]; exact hlt
      have e1 : s.data.toList[m] = s[m]'hlt := by simp; rfl
      obtain ⟨q, hq⟩ : ∃ q, letterN (s[m]'hlt).toNat = q := ⟨_, rfl⟩
      have WL := Aside0.mk (fun W => rletter_walk (s[m]'hlt).toNat W)
      rw [hq] at WL
      cases q with
      | true =>
        have HT : Aside0 ((s.data.toList.take (m + 1)).all (fun b => letterN b.toNat) = true) := ⟨by
          rw [List.take_succ_eq_append_getElem hl, List.all_append, hall.out, e1]
          simp [hq]⟩
        clear e1 hl hq
        go_wp2_with (go_at_call 144; (with_reducible refine (WL.out _).mono ?_); rintro e w' ⟨rfl, h_⟩; have h_ := h_.symm; subst h_)
        all_goals exact ⟨⟨m + 1, rfl, ⟨by omega⟩, HT⟩, by simp [intOf]; omega⟩
      | false =>
        have E1 : Aside0 (rightN s = false) := ⟨by
          rw [E0.out, ← Bool.not_eq_true, List.all_eq_true]
          intro h
          have := h (s[m]'hlt) (by rw [← e1]; exact List.getElem_mem hl)
          rw [hq] at this; cases this⟩
        clear e1 hl hq
        go_wp2_with (go_at_call 144; (with_reducible refine (WL.out _).mono ?_); rintro e w' ⟨rfl, h_⟩; have h_ := h_.symm; subst h_)
        all_goals go_ret
        all_goals exact ⟨by rw [E1.out]; rfl, Below.refl _ _⟩
    · have E1 : Aside0 (rightN s = true) := ⟨by
        rw [E0.out]
        have := hall.out
        rwa [List.take_of_length_le (by rw [hsl.out]; omega)] at this⟩
      have hge : s.size ≤ m := by omega
      clear hlt
      go_wp2
      all_goals go_ret
      all_goals exact ⟨by rw [E1.out]; rfl, Below.refl _ _⟩
end Go.Proofs.Ytdknolnoimpgeaa.K
namespace Go.Proofs.YtdknolnoimpgeaaW.PrintWords
open Go.RowKit
theorem wpList_store_blk {P : Program} {ops : Array Oper} {rest : List Oper} {op : Oper} {a : Act} {w : World} {Q : Exit → Act → World → Prop} (hgd : op.guard = none) (hd : op.dst = none) (ty : TypeId) (x y : Operand) (ho : op.op = .store ty x y)
    (g i : Nat) (v : Value) (hx : a.eval x = .pointer (some ⟨g, i, none⟩)) (hy : a.eval y = v) (h1 : v.oneCell' = true) (hi : (P.info? ty).map (·.size) = some 1) {cs : Array Value} {t : TypeId}
    (BK : w.heap[g]? = some (.cells cs t (0, 0))) (hlt : i < cs.size)
    (h : ∀ w1, w1.heap[g]? = some (.cells (cs.setIfInBounds i v) t (0, 0)) → w.grownBy w1 (some g) → wpList P ops Q rest a w1) : wpList P ops Q (op :: rest) a w := by
  refine wpList_plain hgd fun _ hK => ?_
  have hrun : (storeVar ty ⟨g, i, none⟩ v).run P w = .ok () (w.setCell ⟨g, i, none⟩ v) := by
    have hc : v.cells = #[v] := by cases v <;> first | rfl | cases h1
    have hcell : w.cell? ⟨g, i, none⟩ = some cs[i] := by rw [blk_cell BK]; exact Array.getElem?_eq_getElem hlt
    have := run_storeCells_cells (P := P) g i [v] 0 w (fun j hj => by
        have : j = 0 := by simpa using hj
        subst this
        simp [hcell]) (fun j hj => by
        have : j = 0 := by simpa using hj
        subst this
        exact blk_frozen BK _) (fun u hu => by simp at hu; subst hu; exact h1)
    cases hq : P.info? ty with
    | none => simp [hq] at hi
    | some q =>
      have hs : q.size = 1 := by simpa [hq] using hi
      simp only [Nat.add_zero] at this
      simp [storeVar, sizeOf, typeInfo, hq, hc, hs, this]
      rfl
  unfold Oper.wp execOp
  simp only [ho, hx, hy, Instr.storeAt, Instr.sureAddr, Sem.run_bind, Sem.run_pure, Result.andThen_ok, hrun]
  refine hK _ _ ?_
  rw [hd]
  exact h _ (blk_set BK i v) ⟨rfl, rfl, rfl, by simp [World.setCell], fun k _ hk => Below.heap_setCell w ⟨g, i, none⟩ v k (fun e => hk (congrArg some e))⟩
/-- A whole array or struct stored into its block: the world behind it is a letter. -/
theorem wpList_store_rowL {P : Program} {ops : Array Oper} {rest : List Oper} {op : Oper} {a : Act} {w : World} {Q : Exit → Act → World → Prop} (hgd : op.guard = none) (hd : op.dst = none) (ty : TypeId) (x y : Operand) (ho : op.op = .store ty x y)
    (g : Nat) (cells : Array Value) (hx : a.eval x = .pointer (some ⟨g, 0, none⟩)) (hy : a.eval y = .agg cells) (t : TypeId) (old : Array Value) (hg : w.heap[g]? = some (.cells old t (0, 0))) (hi : (P.info? ty).map (·.size) = some cells.size)
    (hold : old.size = cells.size) (h1 : cells.all (·.oneCell') = true)
    (h : ∀ w1, w1.heap[g]? = some (.cells cells t (0, 0)) → w.grownBy w1 (some g) → wpList P ops Q rest a w1) : wpList P ops Q (op :: rest) a w :=
  wpList_store_rowTo hgd ty x y ho hd g cells hx hy t old hg hi hold h1 (h _ (setRow_heap _ _ _ _ _ _ hg) ⟨rfl, rfl, rfl, by simp, fun k _ hk => setRow_other _ _ _ _ (fun e => hk (congrArg some e))⟩)
/-- .. into the block that was made last. -/
theorem wpList_store_newL {P : Program} {ops : Array Oper} {rest : List Oper} {op : Oper} {a : Act} {w0 w : World} {Q : Exit → Act → World → Prop} (hgd : op.guard = none) (hd : op.dst = none) (ty : TypeId) (x y : Operand) (ho : op.op = .store ty x y)
    (cells : Array Value) (t : TypeId) (old : Array Value) (hw : w = w0.alloc (.cells old t (0, 0))) (hx : a.eval x = .pointer (some ⟨w0.heap.size, 0, none⟩)) (hy : a.eval y = .agg cells) (hi : (P.info? ty).map (·.size) = some cells.size)
    (hold : old.size = cells.size) (h1 : cells.all (·.oneCell') = true)
    (h : ∀ w1, w1.heap[w0.heap.size]? = some (.cells cells t (0, 0)) → Below w0.heap.size w0 w1 → wpList P ops Q rest a w1) : wpList P ops Q (op :: rest) a w := by
  subst hw
  refine wpList_store_rowL hgd hd ty x y ho w0.heap.size cells hx hy t old (heap_alloc_new _ _) hi hold h1 fun w1 h1 hg => h w1 h1 ?_
  exact ⟨hg.os, hg.tape, hg.output, Nat.le_trans (by simp) hg.size, fun k hk => (hg.block k (by simp; omega) (fun e => by cases e; omega)).trans (Below.heap_alloc w0 _ k hk)⟩
end Go.Proofs.YtdknolnoimpgeaaW.PrintWords
namespace Go.Proofs.YtdknolnoimpgeaaW.PrintWords
open Go.RowKit
theorem there_of_blk {w : World} {g o n : Nat} {cs : Array Value} {t : TypeId} (BK : w.heap[g]? = some (.cells cs t (0, 0))) (h : o + n ≤ cs.size) : ∀ j, j < n → (w.cell? ⟨g, o + j, none⟩).isSome = true ∧ w.frozen? ⟨g, o + j, none⟩ = false := fun j hj =>
  ⟨by rw [blk_cell BK, Array.getElem?_eq_getElem (show o + j < cs.size by omega)]; rfl, blk_frozen BK _⟩
theorem grown_setCells (w : World) (g o : Nat) (vs : List Value) : w.grownBy (w.setCells g o vs) (some g) := by
  obtain ⟨s1, s2, s3, s4⟩ := setCells_same g vs o w
  exact ⟨s1, s2, s3, by rw [s4]; exact Nat.le_refl _, fun k _ hk => setCells_far _ _ k (fun he => hk (by rw [he]))⟩
/-- A struct stored at offset o of a block. -/
theorem wpList_store_midL {P : Program} {ops : Array Oper} {rest : List Oper} {op : Oper} {a : Act} {w : World} {Q : Exit → Act → World → Prop} (hgd : op.guard = none) (hd : op.dst = none) (ty : TypeId) (x y : Operand) (ho : op.op = .store ty x y)
    (g o : Nat) (vs : List Value) (hx : a.eval x = .pointer (some ⟨g, o, none⟩)) (hy : a.eval y = .agg vs.toArray) (hi : (P.info? ty).map (·.size) = some vs.length) (h1 : ∀ u ∈ vs, u.oneCell' = true)
    {cs : Array Value} {t : TypeId} (BK : w.heap[g]? = some (.cells cs t (0, 0))) (hlt : o + vs.length ≤ cs.size)
    (h : ∀ w1 cs', w1.heap[g]? = some (.cells cs' t (0, 0)) → cs'.size = cs.size → cs'.toList = cs.toList.take o ++ vs ++ cs.toList.drop (o + vs.length) → w.grownBy w1 (some g) → wpList P ops Q rest a w1) : wpList P ops Q (op :: rest) a w := by
  obtain ⟨cs', h2, h3, h4⟩ := setCells_row vs o w cs BK hlt
  refine wpList_store_mid hgd ty x y ho g o vs.toArray hx hy (by have := there_of_blk BK hlt; simpa [World.there] using this) (by simpa using hi) (all_oneCell_toArray h1) ?_
  rw [hd]
  exact h _ cs' h2 h3 h4 (grown_setCells _ _ _ _)
/-- clear(s) of a slice of a block. -/
theorem wpList_clearL {P : Program} {ops : Array Oper} {rest : List Oper} {op : Oper} {a : Act} {w : World} {Q : Exit → Act → World → Prop} (hgd : op.guard = none) (hd : op.dst = none) (t e : TypeId) (x : Operand)
    (ho : op.op = .call { callee := .builtin .clear, args := #[x], argTypes := #[t] }) (ht : P.underlying t = some (.slice e)) {z : Value} {sz : Nat} (hinfo : (P.info? e).map (fun i => i.zero) = some (some z)) (hz : z.cells.size = sz) (hz1 : ∀ u ∈ z.cells.toList, u.oneCell' = true) (hs0 : 0 < sz)
    (g o n c : Nat) (hx : a.eval x = .slice (some ⟨g, o, none⟩) n c) {cs : Array Value} {te : TypeId} (BK : w.heap[g]? = some (.cells cs te (0, 0))) (hlt : o + n * sz ≤ cs.size)
    (h : ∀ w1 cs', w1.heap[g]? = some (.cells cs' te (0, 0)) → cs'.size = cs.size → cs'.toList.take o = cs.toList.take o → cs'.toList.drop (o + n * sz) = cs.toList.drop (o + n * sz) → (∀ j, j < n * sz → cs'.toList[o + j]? = z.cells[j % sz]?) → w.grownBy w1 (some g) → wpList P ops Q rest a w1) : wpList P ops Q (op :: rest) a w := by
  obtain ⟨i0, hi, hz0⟩ := Option.map_eq_some_iff.1 hinfo
  have hzl : (Builtin.zeroCells z.cells n).toList.length = n * sz := by simp [Builtin.zeroCells, hz]
  have hgz : ∀ j, j < n * sz → (Builtin.zeroCells z.cells n).toList[j]? = z.cells[j % sz]? := by
    intro j hj
    have hm : j % sz < z.cells.size := by rw [hz]; exact Nat.mod_lt _ hs0
    simp only [Builtin.zeroCells, Array.toList_map, Array.toList_range, List.getElem?_map]
    rw [List.getElem?_range (by rw [hz]; exact hj)]
    rw [Option.map_some, Array.getElem?_eq_getElem hm, hz, getElem!_pos z.cells _ hm]
  have h1z : ∀ u ∈ (Builtin.zeroCells z.cells n).toList, u.oneCell' = true := by
    intro u hu
    obtain ⟨j, hj, rfl⟩ := List.getElem_of_mem hu
    have h2 := hgz j (by rw [hzl] at hj; exact hj)
    rw [List.getElem?_eq_getElem hj] at h2
    have hm : j % sz < z.cells.size := by rw [hz]; exact Nat.mod_lt _ hs0
    rw [Array.getElem?_eq_getElem hm] at h2
    rw [Option.some.inj h2]
    exact hz1 _ (by simp)
  obtain ⟨cs', h2, h3, h4⟩ := setCells_row (Builtin.zeroCells z.cells n).toList o w cs BK (by rw [hzl]; exact hlt)
  have hrun : (Builtin.clear_ #[t] op.type #[.slice (some ⟨g, o, none⟩) n c]).run P w = .ok (.tuple #[]) (w.setCells g o (Builtin.zeroCells z.cells n).toList) := by
    rcases Nat.eq_zero_or_pos n with rfl | hn
    · have e0 : (Builtin.zeroCells z.cells 0).toList = [] := List.eq_nil_of_length_eq_zero (by rw [hzl]; simp)
      rw [e0]
      simp [Builtin.clear_, run_underlying ht, Result.andThen, World.setCells]
    · have hT := there_of_blk BK (n := n * sz) hlt
      have hst := run_storeCells_cells (P := P) g o (Builtin.zeroCells z.cells n).toList 0 w (fun j hj => by rw [Nat.add_zero]; exact (hT j (by rw [hzl] at hj; exact hj)).1) (fun j hj => by rw [Nat.add_zero]; exact (hT j (by rw [hzl] at hj; exact hj)).2) h1z
      obtain ⟨n', rfl⟩ : ∃ n', n = n' + 1 := ⟨n - 1, by omega⟩
      simp only [Nat.add_zero] at hst
      simp [Builtin.clear_, run_underlying ht, zeroValue, typeInfo, hi, hz0, hst, Result.andThen]
  have hlo : o ≤ cs.toList.length := by rw [Array.length_toList]; omega
  refine wpList_plain hgd fun K hK => ?_
  unfold Oper.wp execOp
  simp only [ho, resolve, invoke, builtin, Sem.run_bind, Sem.run_pure, Result.andThen_ok, List.map_toArray, List.map_cons, List.map_nil, hx, hrun]
  refine hK _ _ ?_
  rw [hd]
  refine h _ cs' h2 h3 ?_ ?_ ?_ (grown_setCells _ _ _ _)
  · rw [h4, List.append_assoc, List.take_append_of_le_length (by simp; omega), List.take_take, Nat.min_self]
  · rw [h4, hzl, List.drop_append_of_le_length (by simp [hzl]; omega), List.drop_eq_nil_of_le (by simp [hzl]; omega), List.nil_append]
  · intro j hj
    rw [h4, List.append_assoc, List.getElem?_append_right (by simp; omega), List.length_take, Nat.min_eq_left hlo, Nat.add_sub_cancel_left, List.getElem?_append_left (by rw [hzl]; exact hj)]
    exact hgz j hj
end Go.Proofs.YtdknolnoimpgeaaW.PrintWords
namespace Go.Proofs.YtdknolnoimpgeaaW.PrintWords
open Go.RowKit
namespace Kd
section
variable {P : Program} {ops : Array Oper} {rest : List Oper} {o : Oper} {a : Act} {Q : Exit → Act → World → Prop} {α : Type}
/-- 'var x [n]T': a row (block type t, the array's) of the zero's cells. -/
theorem R_allocArr (d : Kd α) {w0 W : World} (base : Nat) (hgd : o.guard = none) {N : Tmp} (_hd : o.dst = some N) (t : TypeId) (ho : o.op = .alloc t) {z : Value} {inner : List Value} (hz : (P.info? t).map (·.zero) = some (some z)) (hzc : z.cells = inner.toArray)
    {xs : List α} {ok okp : Nat → Prop} (hrep : Reps (d.M W base okp) d.sz xs inner) (hok : ∀ k, okp k → ok k) (hfresh : ok W.heap.size) (HB : Below base w0 W) (hbase : base ≤ W.heap.size) (hm : xs.length ≤ 9223372036854775807)
    (h : ∀ g w1, base ≤ g → d.R t w1 base ok (.slice (some ⟨g, 0, none⟩) xs.length xs.length) xs → Below base w0 w1 → W.grownBy w1 none → wpList P ops Q rest (a.put o.dst (.pointer (some ⟨g, 0, none⟩))) w1) : wpList P ops Q (o :: rest) a W := by
  obtain ⟨i0, hi, hz0⟩ := Option.map_eq_some_iff.1 hz
  have hrun : (execOp a.eval o).run P W = .ok (.value (.pointer (some ⟨W.heap.size, 0, none⟩))) (W.alloc (.cells inner.toArray t)) := by
    simp [execOp, ho, Instr.alloc, zeroValue, typeInfo, hi, hz0, newVar, newRow, hzc]
  refine event_run hgd hrun (h _ _ hbase ⟨fun k hk => ?_, inner, ?_, ?_⟩ (HB.alloc hbase _) (World.grownBy_alloc W _ none))
  · have : W.heap.size = k := by simpa [Value.ownBlock] using hk
    subst this
    exact hfresh
  · have h2 := World.ownsRow_lit (base := base) (e := t) (size := d.sz) W inner.toArray xs.length hbase (by simpa [maxLen] using hm) (by simpa using hrep.1)
    simpa using h2
  · refine hrep.imp_ (fun p c hp => d.M_mono (fun k hk => ⟨hok k hk.1, fun he => ?_⟩) (M_below (d.M_bound hp) (below_alloc (Below.refl _ _) _)))
    have h3 : k = W.heap.size := by simpa [Value.ownBlock] using he
    have := hk.2.2.1
    omega
/-- copy(v, ys), v a row of scalars whose block's type need not be the elements'. -/
theorem R_copyArr {enc : α → Value} {h1 : ∀ x, (enc x).oneCell' = true} (d : α) {w0 W : World} (base : Nat) (hgd : o.guard = none) (s x : Operand) (t t' e b : TypeId)
    (ho : o.op = .call { callee := .builtin .copy, args := #[s, x], argTypes := #[t, t'] }) (ht : P.underlying t = some (.slice e)) (hinfo : (P.info? e).map (·.size) = some 1)
    (v : Value) (xs ys : List α) (A : Option Addr) (m c : Nat) (ok : Nat → Prop) (hs : a.eval s = v) (hx : a.eval x = .slice A m c)
    (HO : (scalar enc h1).R b W base ok v xs) (HR : (scalar enc h1).C W A m ys) (HB : Below base w0 W) (hbase : base ≤ W.heap.size)
    (h : ∀ w1, (scalar enc h1).R b w1 base ok v (ys.take (min m xs.length) ++ xs.drop (min m xs.length)) → Below base w0 w1 → W.grownBy w1 v.ownBlock → wpList P ops Q rest (a.put o.dst (.int .i64 ((min m xs.length : Nat) : Int))) w1) :
    wpList P ops Q (o :: rest) a W := by
  have hR := reads_of_C (enc := enc) (d := d) (h1 := h1) HR
  have hm : ys.length = m := hR.1
  have hown := own_of_R HO
  have fin : ∀ w1, (Builtin.copy_ #[t, t'] o.type #[v, .slice A m c]).run P W = .ok (goInt ((min m xs.length : Nat) : Int)) w1 → (scalar enc h1).R b w1 base ok v (ys.take (min m xs.length) ++ xs.drop (min m xs.length)) → W.grownBy w1 v.ownBlock → wpList P ops Q (o :: rest) a W := by
    intro w1 hr hrow hg
    refine wpList_plain hgd fun K hK => ?_
    unfold Oper.wp execOp
    simp only [ho, resolve, invoke, builtin, Sem.run_bind, Sem.run_pure, Result.andThen_ok, List.map_toArray, List.map_cons, List.map_nil, hs, hx, hr]
    exact hK _ _ (h w1 hrow (HB.grown hg hbase (own_base hown)) hg)
  rcases Nat.eq_zero_or_pos (min m xs.length) with h0 | hp
  · obtain ⟨A', c', hv⟩ := own_slice hown
    refine fin W ?_ (by rw [h0, List.take_zero, List.drop_zero, List.nil_append]; exact HO) (World.grownBy.refl W _)
    rw [h0, hv]
    exact run_copy_none W t t' o.type e A' A xs.length c' m c ht hinfo h0
  · obtain ⟨ad, hA, hc⟩ := hR.2.2 (by omega)
    rcases hown.2 with ⟨_, hx0⟩ | ⟨g, cap, cur, hv, hb, hh, hnc, hcm, hcs, htake⟩
    · omega
    have hcs1 : cur.size = cap := by omega
    have hsrc : ∀ j u, (encs enc (ys.take (min m xs.length)))[j]? = some u → W.cell? (ad.add j) = some u := by
      intro j u hu
      have hj : j < (ys.take (min m xs.length)).length := by
        rcases Nat.lt_or_ge j (ys.take (min m xs.length)).length with h | h
        · exact h
        · rw [List.getElem?_eq_none (by rw [encs_length]; exact h)] at hu
          cases hu
      have hjm : j < min m xs.length := by rw [List.length_take] at hj; omega
      rw [encs_get (d := d) _ j hj] at hu
      rw [hc j (by omega), ← hu]
      simp [List.getD_eq_getElem?_getD, hjm]
    have hkl : (encs enc (ys.take (min m xs.length))).length = min m xs.length := by rw [encs_length, List.length_take]; omega
    have hr := run_copy_cells (P := P) W t t' o.type e g 0 xs.length cap ad m c (encs enc (ys.take (min m xs.length))) ht hinfo (by rw [hkl]) hsrc
      (fun j hj => by rw [cell_of_row W g _ cur b (0, 0) hh]; simp; omega) (fun j _ => blk_frozen hh _) (by intro u hu; simp only [encs, List.mem_map] at hu; obtain ⟨q, _, rfl⟩ := hu; exact h1 q)
    obtain ⟨cur', h3, h4, h5⟩ := setCells_row (encs enc (ys.take (min m xs.length))) 0 W cur hh (by rw [hkl]; omega)
    obtain ⟨s1, s2, s3, s4⟩ := setCells_same g (encs enc (ys.take (min m xs.length))) 0 W
    refine fin _ (by rw [hv, hA, hr, hkl]) (R_of_own ?_ HO.1) ⟨s1, s2, s3, by rw [s4]; exact Nat.le_refl _, fun k _ hk => setCells_far _ _ k (fun he => hk (by rw [hv, he]; simp [Value.ownBlock]))⟩
    have hln : (ys.take (min m xs.length) ++ xs.drop (min m xs.length)).length = xs.length := by
      rw [List.length_append, List.length_take, List.length_drop]
      omega
    rw [hln]
    refine ⟨by rw [encs_length, hln, Nat.mul_one], .inr ⟨g, cap, cur', hv, hb, h3, hnc, hcm, by rw [h4, hcs], ?_⟩⟩
    rw [h5, List.take_zero, List.nil_append, hkl, Nat.zero_add, encs_append, Nat.mul_one]
    rw [List.take_append, hkl, List.take_of_length_le (by rw [hkl]; omega)]
    congr 1
    have htk : cur.toList.take xs.length = encs enc xs := by rw [← htake, Nat.mul_one]
    have hd : encs enc (xs.drop (min m xs.length)) = (encs enc xs).drop (min m xs.length) := by simp [encs, List.map_drop]
    rw [hd, ← htk, List.drop_take]
theorem cell_freeze (W : World) (p : Addr) (n : Nat) (q : Addr) : (W.freeze p n).cell? q = W.cell? q := by
  unfold World.freeze
  by_cases h0 : n = 0
  · rw [if_pos h0]
  · rw [if_neg h0]
    simp only [World.cell?, Array.getElem?_modify]
    by_cases hk : p.block = q.block
    · rw [if_pos hk]
      cases hq : W.heap[q.block]? with
      | none => rfl
      | some o => cases o <;> rfl
    · rw [if_neg hk]
theorem C_freeze {k : IntKind} {W : World} {A : Option Addr} {n : Nat} {xs : List Int} (h : (Kd.int k).C W A n xs) (p : Addr) (m : Nat) : (Kd.int k).C (W.freeze p m) A n xs := by
  have h1 := reads_of_C (d := (0 : Int)) h
  refine C_of_reads (d := (0 : Int)) ⟨h1.1, h1.2.1, fun hn => ?_⟩
  obtain ⟨ad, e, hc⟩ := h1.2.2 hn
  exact ⟨ad, e, fun j hj => by rw [cell_freeze]; exact hc j hj⟩
/-- '[]byte("constant")': the row's conversion to its own type. -/
theorem C_convOwn {w0 W : World} (base : Nat) (hgd : o.guard = none) {N : Tmp} (_hd : o.dst = some N) (t : TypeId) (x : Operand) (ho : o.op = .convert t t x) (e : TypeId) (ht : P.underlying t = some (.slice e)) (he : P.underlying e = some (.int .u8))
    (A : Option Addr) (n c g : Nat) (hx : a.eval x = .slice A n c) (hA : A = some ⟨g, 0, none⟩) (xs : List Int) (HC : (Kd.int .u8).C W A n xs) (HB : Below base w0 W) (hg : base ≤ g)
    (h : ∀ w1, (Kd.int .u8).C w1 A n xs → Below base w0 w1 → wpList P ops Q rest (a.put o.dst (.slice A n c)) w1) : wpList P ops Q (o :: rest) a W := by
  subst hA
  have hr : ∃ w1, (convert t t (.slice (some ⟨g, 0, none⟩) n c)).run P W = .ok (.slice (some ⟨g, 0, none⟩) n c) w1 ∧ (Kd.int .u8).C w1 (some ⟨g, 0, none⟩) n xs ∧ Below base w0 w1 := by
    cases hs : W.shape? g with
    | none => exact ⟨W, by simp [convert, run_underlying ht, run_underlying he, markStringish, hs], HC, HB⟩
    | some q =>
      obtain ⟨q1, q2⟩ := q
      exact ⟨W.freeze ⟨g, q2, none⟩ 1, by simp [convert, run_underlying ht, run_underlying he, markStringish, hs], C_freeze HC _ _, Lib.below_freeze HB hg 1⟩
  obtain ⟨w1, hr1, hC, hB⟩ := hr
  have hrun : (execOp a.eval o).run P W = .ok (.value (.slice (some ⟨g, 0, none⟩) n c)) w1 := by
    simp [execOp, ho, hx, hr1]
  exact event_run hgd hrun (h w1 hC hB)
end
end Kd
end Go.Proofs.YtdknolnoimpgeaaW.PrintWords
namespace Go.Proofs.Ytdknolnoimpgeaa.K
set_option linter.unusedSimpArgs false
set_option linter.unusedVariables false
/-- Is a size one of a number's? -/
def numW (s : Int) : Bool := s == 1 || s == 2 || s == 4
def numR (n s : Int) : Bool := numW s && decide (0 ≤ n) && decide (n < 2 ^ (8 * s.toNat))
/-- A number's bytes. -/
def leB (a : Int) (k : Nat) : List Int := (List.range k).map fun i => a / 2 ^ (8 * i) % 256
/-- The number of bytes. -/
def leN : List Int → Int
  | [] => 0
  | x :: xs => x + 256 * leN xs
def numT (l : List Int) (i s : Int) : Bool := numW s && decide (0 ≤ i) && decide (i + s ≤ l.length)
def numG (l : List Int) (i s : Int) : Int × Bool := if numT l i s = true then (leN ((l.drop i.toNat).take s.toNat), true) else (0, false)
/-- ys laid over xs from place o on. -/
def setAt (xs : List Int) (o : Nat) (ys : List Int) : List Int := xs.take o ++ ys ++ xs.drop (o + ys.length)
def numP (l : List Int) (n s : Int) : List Int := if numR n s = true then l ++ leB n s.toNat else l
def numS (l : List Int) (i n s : Int) : List Int := if numR n s = true ∧ numT l i s = true then setAt l i.toNat (leB n s.toNat) else l
def Byts (l : List Int) : Prop := ∀ x ∈ l, 0 ≤ x ∧ x < 256
instance (l : List Int) : Decidable (Byts l) := by unfold Byts; infer_instance

theorem numW_cases {s : Int} (h : numW s = true) : s = 1 ∨ s = 2 ∨ s = 4 := by
  unfold numW at h
  simpa [or_assoc] using h
theorem numW_nat {s : Int} (h : numW s = true) : ∃ k : Nat, s = k ∧ 1 ≤ k ∧ k ≤ 4 := by
  rcases numW_cases h with rfl | rfl | rfl
  · exact ⟨1, rfl, by decide, by decide⟩
  · exact ⟨2, rfl, by decide, by decide⟩
  · exact ⟨4, rfl, by decide, by decide⟩
theorem numR_parts {n s : Int} (h : numR n s = true) : numW s = true ∧ 0 ≤ n ∧ n < 2 ^ (8 * s.toNat) := by
  unfold numR at h
  simp only [Bool.and_eq_true, decide_eq_true_eq] at h
  exact ⟨h.1.1, h.1.2, h.2⟩
theorem numT_parts {l : List Int} {i s : Int} (h : numT l i s = true) : numW s = true ∧ 0 ≤ i ∧ i + s ≤ l.length := by
  unfold numT at h
  simp only [Bool.and_eq_true, decide_eq_true_eq] at h
  exact ⟨h.1.1, h.1.2, h.2⟩
theorem leB_length (a : Int) (k : Nat) : (leB a k).length = k := by simp [leB]
theorem leB_zero (a : Int) : leB a 0 = [] := rfl
theorem leB_succ (a : Int) (k : Nat) : leB a (k + 1) = leB a k ++ [a / 2 ^ (8 * k) % 256] := by simp [leB, List.range_succ]
theorem pow_split (k : Nat) : (2 : Int) ^ (8 * (k + 1)) = 256 * 2 ^ (8 * k) := by
  rw [Nat.mul_add, Int.pow_add]
  simp [Int.mul_comm]
theorem pow_pos2 (k : Nat) : (0 : Int) < 2 ^ k := Int.pow_pos (by decide)
theorem div_zero_iff {n p : Int} (hp : 0 < p) (h0 : 0 ≤ n) : n / p = 0 ↔ n < p := by
  constructor
  · intro h
    by_cases g : n < p
    · exact g
    · have := Int.le_ediv_of_mul_le (a := 1) (b := n) hp (by rw [Int.one_mul]; omega)
      rw [h] at this; exact absurd this (by decide)
  · intro h; exact Int.ediv_eq_zero_of_lt h0 h
theorem div_div_pow (a : Int) (k : Nat) : a / 2 ^ (8 * (k + 1)) = a / 256 / 2 ^ (8 * k) := by
  rw [pow_split, Int.ediv_mul_of_nonneg (by decide)]
theorem div_step (a : Int) (k : Nat) : a / 2 ^ (8 * k) / 256 = a / 2 ^ (8 * (k + 1)) := by
  rw [pow_split, Int.mul_comm, Int.ediv_mul_of_nonneg (Int.le_of_lt (pow_pos2 _))]
theorem leB_cons (a : Int) (k : Nat) : leB a (k + 1) = a % 256 :: leB (a / 256) k := by
  induction k with
  | zero => simp [leB, List.range_succ]
  | succ k ih => rw [leB_succ, ih, leB_succ, div_div_pow]; rfl
theorem leB_byts (a : Int) (k : Nat) : Byts (leB a k) := by
  intro x hx
  simp only [leB, List.mem_map] at hx
  obtain ⟨i, _, rfl⟩ := hx
  omega
theorem leN_leB (k : Nat) : ∀ a : Int, 0 ≤ a → a < 2 ^ (8 * k) → leN (leB a k) = a := by
  induction k with
  | zero => intro a h0 h1; simp [leB, leN] at *; omega
  | succ k ih =>
    intro a h0 h1
    rw [leB_cons, leN, ih (a / 256) (by omega) (by rw [pow_split] at h1; omega)]
    omega
theorem leN_snoc (xs : List Int) (x : Int) : leN (xs ++ [x]) = leN xs + x * 2 ^ (8 * xs.length) := by
  induction xs with
  | nil => simp [leN]
  | cons y ys ih =>
    rw [List.cons_append, leN, ih, leN, List.length_cons, pow_split, Int.mul_add, Int.mul_left_comm x 256, Int.add_assoc]
theorem leN_bound (xs : List Int) (h : Byts xs) : 0 ≤ leN xs ∧ leN xs < 2 ^ (8 * xs.length) := by
  induction xs with
  | nil => simp [leN]
  | cons y ys ih =>
    obtain ⟨h0, h1⟩ := ih (fun x hx => h x (List.mem_cons_of_mem _ hx))
    obtain ⟨g0, g1⟩ := h y List.mem_cons_self
    rw [leN, List.length_cons, pow_split]
    omega
theorem setAt_length {xs : List Int} {o : Nat} {ys : List Int} (h : o + ys.length ≤ xs.length) : (setAt xs o ys).length = xs.length := by
  simp [setAt]; omega
theorem setAt_nil (xs : List Int) (o : Nat) : setAt xs o [] = xs := by simp [setAt]
theorem setAt_snoc {xs : List Int} {o : Nat} {ys : List Int} {y : Int} (h : o + ys.length < xs.length) : (setAt xs o ys).set (o + ys.length) y = setAt xs o (ys ++ [y]) := by
  unfold setAt
  have h1 : (xs.take o ++ ys).length = o + ys.length := by simp; omega
  rw [List.set_append_right _ _ (by omega), h1, Nat.sub_self, List.drop_eq_getElem_cons h]
  simp [Nat.add_assoc]
theorem setAt_end (xs ys : List Int) (n : Nat) (hn : ys.length = n) : setAt (xs ++ List.replicate n 0) xs.length ys = xs ++ ys := by
  simp [setAt, hn]
theorem setAt_get (xs : List Int) (o : Nat) (ys : List Int) (h : o + ys.length ≤ xs.length) : ((setAt xs o ys).drop o).take ys.length = ys := by
  unfold setAt
  have h1 : (xs.take o).length = o := by simp; omega
  rw [List.append_assoc, List.drop_append_of_le_length (by omega), List.drop_eq_nil_of_le (by omega), List.nil_append, List.take_append_of_le_length (by omega), List.take_of_length_le (by omega)]
theorem setAt_before (xs : List Int) (o : Nat) (ys : List Int) (h : o + ys.length ≤ xs.length) : (setAt xs o ys).take o = xs.take o := by
  unfold setAt
  have h1 : (xs.take o).length = o := by simp; omega
  rw [List.append_assoc, List.take_append_of_le_length (by omega), List.take_of_length_le (by omega)]
theorem setAt_behind (xs : List Int) (o : Nat) (ys : List Int) (h : o + ys.length ≤ xs.length) : (setAt xs o ys).drop (o + ys.length) = xs.drop (o + ys.length) := by
  unfold setAt
  have h1 : (xs.take o ++ ys).length = o + ys.length := by simp; omega
  rw [List.drop_append_of_le_length (by omega), List.drop_eq_nil_of_le (by omega), List.nil_append]
theorem Byts.append {a b : List Int} (ha : Byts a) (hb : Byts b) : Byts (a ++ b) := fun x hx => (List.mem_append.1 hx).elim (ha x) (hb x)
theorem Byts.take {a : List Int} (ha : Byts a) (n : Nat) : Byts (a.take n) := fun x hx => ha x (List.mem_of_mem_take hx)
theorem Byts.drop {a : List Int} (ha : Byts a) (n : Nat) : Byts (a.drop n) := fun x hx => ha x (List.mem_of_mem_drop hx)
theorem Byts.nil : Byts [] := fun x hx => by cases hx
theorem Byts.zeros (n : Nat) : Byts (List.replicate n 0) := fun x hx => by rw [List.eq_of_mem_replicate hx]; omega
theorem Byts.setAt {a b : List Int} (ha : Byts a) (hb : Byts b) (o : Nat) : Byts (setAt a o b) := ((ha.take o).append hb).append (ha.drop _)
theorem numP_byts {l : List Int} (h : Byts l) (n s : Int) : Byts (numP l n s) := by
  unfold numP; split
  · exact h.append (leB_byts _ _)
  · exact h
theorem numS_byts {l : List Int} (h : Byts l) (i n s : Int) : Byts (numS l i n s) := by
  unfold numS; split
  · exact h.setAt (leB_byts _ _) _
  · exact h
theorem numP_length (l : List Int) (n s : Int) : (numP l n s).length ≤ l.length + 4 ∧ l.length ≤ (numP l n s).length := by
  unfold numP; split
  · next h => obtain ⟨k, rfl, h1, h4⟩ := numW_nat (numR_parts h).1; simp [leB_length]; omega
  · omega
theorem numT_cases (l : List Int) (i s : Int) : (numW s = false ∧ numT l i s = false) ∨ ∃ k : Nat, s = k ∧ 1 ≤ k ∧ k ≤ 4 ∧ numW k = true ∧ ((i < 0 ∧ numT l i k = false) ∨ ∃ j : Nat, i = j ∧ ((l.length < j ∧ numT l j k = false) ∨ (j ≤ l.length ∧ l.length < j + k ∧ numT l j k = false) ∨ (j + k ≤ l.length ∧ numT l j k = true))) := by
  cases hw : numW s with
  | false => exact .inl ⟨rfl, by unfold numT; rw [hw]; rfl⟩
  | true =>
    obtain ⟨k, rfl, h1, h4⟩ := numW_nat hw
    refine .inr ⟨k, rfl, h1, h4, hw, ?_⟩
    by_cases h0 : i < 0
    · exact .inl ⟨h0, by unfold numT; rw [hw]; simp; omega⟩
    · obtain ⟨j, rfl⟩ := Int.eq_ofNat_of_zero_le (show 0 ≤ i by omega)
      refine .inr ⟨j, rfl, ?_⟩
      by_cases hj : l.length < j
      · exact .inl ⟨hj, by unfold numT; rw [hw]; simp; omega⟩
      · by_cases hk : l.length < j + k
        · exact .inr (.inl ⟨by omega, hk, by unfold numT; rw [hw]; simp; omega⟩)
        · exact .inr (.inr ⟨by omega, by unfold numT; rw [hw]; simp; omega⟩)
/-- What was put is got again (P1.2). -/
theorem numG_put {l : List Int} {n s : Int} (h : numR n s = true) : numG (numP l n s) l.length s = (n, true) := by
  obtain ⟨hw, h0, h1⟩ := numR_parts h
  obtain ⟨k, rfl, hk1, hk4⟩ := numW_nat hw
  have e : numP l n k = l ++ leB n k := by unfold numP; rw [if_pos h]; rfl
  have ht : numT (l ++ leB n k) l.length k = true := by
    unfold numT; rw [hw]; simp [leB_length]
  unfold numG
  rw [e, if_pos ht]
  have e2 : ((l ++ leB n k).drop (l.length : Int).toNat).take (k : Int).toNat = leB n k := by rw [Int.toNat_natCast, Int.toNat_natCast, List.drop_left]; exact List.take_of_length_le (by rw [leB_length]; exact Nat.le_refl _)
  rw [e2, leN_leB k n h0 (by simpa using h1)]
/-- What was set is got again (P1.2). -/
theorem numG_set {l : List Int} {i n s : Int} (h : numR n s = true) (ht : numT l i s = true) : numG (numS l i n s) i s = (n, true) := by
  obtain ⟨hw, h0, h1⟩ := numR_parts h
  obtain ⟨_, hi0, hi1⟩ := numT_parts ht
  obtain ⟨k, rfl, hk1, hk4⟩ := numW_nat hw
  obtain ⟨j, rfl⟩ := Int.eq_ofNat_of_zero_le hi0
  have e : numS l j n k = setAt l j (leB n k) := by unfold numS; rw [if_pos ⟨h, ht⟩]; rfl
  have hl : j + (leB n k).length ≤ l.length := by rw [leB_length]; omega
  have ht2 : numT (setAt l j (leB n k)) j k = true := by
    unfold numT; rw [hw, setAt_length hl]; simp; omega
  unfold numG
  rw [e, if_pos ht2]
  have e2 := setAt_get l j (leB n k) hl
  rw [leB_length] at e2
  simp only [Int.toNat_natCast, e2]
  rw [leN_leB k n h0 (by simpa using h1)]
/-- A byte joined by 'or' above the bytes that are there. -/
theorem or_add {n x : Nat} {k : Nat} (h : n < 2 ^ k) : n ||| x * 2 ^ k = n + x * 2 ^ k := by
  have := Nat.two_pow_add_eq_or_of_lt h x
  rw [Nat.mul_comm x, Nat.or_comm, ← this, Nat.add_comm]
end Go.Proofs.Ytdknolnoimpgeaa.K
namespace Go.Proofs.Ytdknolnoimpgeaa.K
open Go.RowKit Go.Proofs.YtdknolnoimpgeaaW.PrintWords Go.Proofs.YtdknolnoimpgeaaW.PrintLast Go.Proofs.YtdknolnoimpgeaaW.PrintMore
set_option linter.unusedVariables false
set_option linter.unusedSimpArgs false
theorem byts_of_wf {l : List Int} (h : ∀ x ∈ l, (Lit.int .u8 x).wf = true) : Byts l := fun x hx => by
  have := h x hx
  have h0 : IntKind.u8.min = 0 := by decide
  have h1 : IntKind.u8.max = 255 := by decide
  simp [Lit.wf, h0, h1] at this
  omega
theorem strOfNums_inj : ∀ {a b : List Int}, Byts a → Byts b → (strOfNums a).toList = (strOfNums b).toList → a = b := by
  intro a b ha hb h
  rw [ByteArray.toList_eq, ByteArray.toList_eq] at h
  simp only [strOfNums] at h
  have h2 := congrArg (List.map fun x : UInt8 => (x.toNat : Int)) h
  have key : ∀ l : List Int, Byts l → (l.map fun n => UInt8.ofNat n.toNat).map (fun x : UInt8 => (x.toNat : Int)) = l := by
    intro l hl
    rw [List.map_map]
    conv => rhs; rw [← List.map_id l]
    apply List.map_congr_left
    intro x hx
    obtain ⟨h0, h1⟩ := hl x hx
    simp only [Function.comp, id]
    have : (UInt8.ofNat x.toNat).toNat = x.toNat % 256 := by simp
    omega
  rwa [key a ha, key b hb] at h2
theorem bEq_same (A1 : Option Addr) (c1 : Nat) (a : List Int) (A2 : Option Addr) (c2 : Nat) (b : List Int) (w : World) (h1 : Kd.C (Kd.int .u8) w A1 a.length a) (h2 : Kd.C (Kd.int .u8) w A2 b.length b) (ha : Byts a) (hb : Byts b) :
    Calls Try.prog 24 #[.slice A1 a.length c1, .slice A2 b.length c2] w fun e w' => e = .returned (.bool (decide (a = b))) ∧ w' = w := by
  have E0 : Aside0 (((strOfNums a).toList == (strOfNums b).toList) = decide (a = b)) := ⟨by
    rw [Bool.eq_iff_iff]
    simp only [beq_iff_eq, decide_eq_true_eq]
    exact ⟨strOfNums_inj ha hb, fun h => by rw [h]⟩⟩
  have hcv3 := Kd.C_string (P := Try.prog) (A := A1) (c := c1) Try.underlying24 Try.underlying5 Try.underlying9 h1
  have hcv4 := Kd.C_string (P := Try.prog) (A := A2) (c := c2) Try.underlying24 Try.underlying5 Try.underlying9 h2
  clear h1 h2
  go_enter Try.func24, Try.ntmps24
  go_wp2
  go_ret
  exact ⟨by rw [← E0.out]; rfl, rfl⟩
theorem bEq_walk (A1 : Option Addr) (c1 : Nat) (a : List Int) (A2 : Option Addr) (c2 : Nat) (b : List Int) (w : World) (h1 : Kd.C (Kd.int .u8) w A1 a.length a) (h2 : Kd.C (Kd.int .u8) w A2 b.length b) (ha : Byts a) (hb : Byts b) :
    Calls Try.prog 24 #[.slice A1 a.length c1, .slice A2 b.length c2] w fun e w' => e = .returned (.bool (decide (a = b))) ∧ Drawn0 w w' :=
  (bEq_same A1 c1 a A2 c2 b w h1 h2 ha hb).mono fun _ _ h => ⟨h.1, by rw [h.2]; exact Drawn0.refl _⟩
/-- Two rows that are the same: in the form that a region's walk wants. -/
theorem bEq_true (A1 : Option Addr) (n1 c1 : Nat) (a : List Int) (A2 : Option Addr) (n2 c2 : Nat) (b : List Int) (w : World) (h1 : Kd.C (Kd.int .u8) w A1 n1 a) (h2 : Kd.C (Kd.int .u8) w A2 n2 b) (ha : Byts a) (hab : a = b) :
    Calls Try.prog 24 #[.slice A1 n1 c1, .slice A2 n2 c2] w fun e w' => e = .returned (.bool true) ∧ w' = w := by
  subst hab
  have e1 := h1.1
  have e2 := h2.1
  subst e1
  rw [← e2] at h2 ⊢
  have := bEq_same A1 c1 a A2 c2 a w h1 h2 ha ha
  rw [decide_eq_true rfl] at this
  exact this
end Go.Proofs.Ytdknolnoimpgeaa.K
namespace Go.Proofs.Ytdknolnoimpgeaa.K
set_option linter.unusedVariables false
def s02step (p : Nat × Nat) (b : Int) : Nat × Nat := ((p.1 + b.toNat) % 65521, (p.2 + (p.1 + b.toNat) % 65521) % 65521)
/-- Both sums. -/
def s02 (l : List Int) : Nat × Nat := l.foldl s02step (1, 0)
theorem s02_snoc (l : List Int) (b : Int) : s02 (l ++ [b]) = s02step (s02 l) b := by simp [s02, List.foldl_append]
theorem s02_take (l : List Int) {m : Nat} (h : m < l.length) : s02 (l.take (m + 1)) = s02step (s02 (l.take m)) l[m] := by
  rw [List.take_succ_eq_append_getElem h, s02_snoc]
theorem s02_lt' (l : List Int) : ∀ p : Nat × Nat, p.1 < 65521 ∧ p.2 < 65521 → (l.foldl s02step p).1 < 65521 ∧ (l.foldl s02step p).2 < 65521 := by
  induction l with
  | nil => exact fun p h => h
  | cons b t ih => exact fun p _ => ih _ ⟨Nat.mod_lt _ (by decide), Nat.mod_lt _ (by decide)⟩
theorem s02_lt (l : List Int) : (s02 l).1 < 65521 ∧ (s02 l).2 < 65521 := s02_lt' l _ ⟨by decide, by decide⟩
def total : List Int → Nat
  | [] => 0
  | b :: t => b.toNat + total t
theorem s02_fst' (l : List Int) : ∀ p : Nat × Nat, p.1 < 65521 → (l.foldl s02step p).1 = (p.1 + total l) % 65521 := by
  induction l with
  | nil => intro p h; simp [total, Nat.mod_eq_of_lt h]
  | cons b t ih =>
    intro p h
    rw [List.foldl_cons, ih _ (Nat.mod_lt _ (by decide))]
    simp only [s02step, total]
    omega
theorem s02_fst (l : List Int) : (s02 l).1 = (1 + total l) % 65521 := s02_fst' l _ (by decide)
theorem total_set : ∀ (l : List Int) (k : Nat) (h : k < l.length) (v : Int), total (l.set k v) + l[k].toNat = total l + v.toNat
  | [], k, h, v => by simp at h
  | b :: t, 0, h, v => by simp [total]; omega
  | b :: t, k + 1, h, v => by
    have := total_set t k (by simpa using h) v
    simp only [List.set_cons_succ, total, List.getElem_cons_succ]
    omega
def of02 (l : List Int) : Nat := (s02 l).1 + 65536 * (s02 l).2
theorem of02_lt (l : List Int) : of02 l < 4294967296 := by
  have := s02_lt l
  unfold of02; omega
def seal60 (l : List Int) : List Int := l.take 60 ++ List.replicate (60 - l.length) 0
def sealS (l : List Int) : List Int := seal60 l ++ leB (of02 (seal60 l)) 4
def sealedS (l : List Int) : Bool := decide (l.length = 64) && decide (l = sealS (l.take 60))
theorem seal60_length (l : List Int) : (seal60 l).length = 60 := by simp [seal60]; omega
theorem sealS_length (l : List Int) : (sealS l).length = 64 := by simp [sealS, seal60_length, leB_length]
theorem seal60_byts {l : List Int} (h : Byts l) : Byts (seal60 l) := (h.take 60).append (Byts.zeros _)
theorem sealS_byts {l : List Int} (h : Byts l) : Byts (sealS l) := (seal60_byts h).append (leB_byts _ _)
theorem numP_seal (l : List Int) : numP (seal60 l) (of02 (seal60 l)) 4 = sealS l := by
  have h := of02_lt (seal60 l)
  have hr : numR (of02 (seal60 l) : Nat) 4 = true := by
    unfold numR
    rw [show numW 4 = true from rfl, show (8 * (4 : Int).toNat) = 32 from rfl]
    simp only [Bool.true_and, Bool.and_eq_true, decide_eq_true_eq]
    omega
  unfold numP sealS
  rw [if_pos hr]; rfl
theorem seal60_self {l : List Int} (h : l.length = 60) : seal60 l = l := by
  unfold seal60
  rw [h, show 60 - 60 = 0 from rfl, List.replicate_zero, List.append_nil, List.take_of_length_le (by omega)]
theorem sealS_take (l : List Int) : (sealS l).take 60 = seal60 l := by
  unfold sealS
  rw [List.take_append_of_le_length (by rw [seal60_length]; omega), List.take_of_length_le (by rw [seal60_length]; omega)]
theorem sealS_seal60 (l : List Int) : sealS (seal60 l) = sealS l := by
  unfold sealS
  rw [seal60_self (seal60_length l)]
theorem sealed_seal (l : List Int) : sealedS (sealS l) = true := by
  unfold sealedS
  rw [sealS_take, sealS_seal60, sealS_length]
  simp
theorem leB4_mod {a b : Int} (h : leB a 4 = leB b 4) : a % 65536 = b % 65536 := by
  rw [leB_cons a, leB_cons (a / 256), leB_cons b, leB_cons (b / 256)] at h
  injection h with h1 h
  injection h with h2 h
  omega
theorem changed_not (l : List Int) (hl : Byts l) {k : Nat} (hk : k < 64) {v : Int} (h0 : 0 ≤ v) (h1 : v < 256) (hv : v ≠ (sealS l)[k]'(by rw [sealS_length]; exact hk)) : sealedS ((sealS l).set k v) = false := by
  have hlen := sealS_length l
  cases hb : sealedS ((sealS l).set k v) with
  | false => rfl
  | true =>
    exfalso
    unfold sealedS at hb
    simp only [Bool.and_eq_true, decide_eq_true_eq] at hb
    obtain ⟨_, he⟩ := hb
    by_cases h60 : 60 ≤ k
    · have ht : ((sealS l).set k v).take 60 = seal60 l := by rw [List.take_set, List.set_eq_of_length_le (by simp [sealS_length]; omega), sealS_take]
      rw [ht, sealS_seal60] at he
      have : ((sealS l).set k v)[k]'(by rw [List.length_set]; omega) = (sealS l)[k]'(by omega) := by congr 1
      rw [List.getElem_set_self] at this
      exact hv this
    · have hk60 : k < (seal60 l).length := by rw [seal60_length]; omega
      have hs : (sealS l).set k v = (seal60 l).set k v ++ leB (of02 (seal60 l)) 4 := by
        unfold sealS
        rw [List.set_append_left _ _ hk60]
      have ht : ((sealS l).set k v).take 60 = (seal60 l).set k v := by
        rw [hs, List.take_append_of_le_length (by simp [seal60_length]), List.take_of_length_le (by simp [seal60_length])]
      rw [ht, hs] at he
      have hse : sealS ((seal60 l).set k v) = (seal60 l).set k v ++ leB (of02 ((seal60 l).set k v)) 4 := by
        unfold sealS
        rw [seal60_self (by rw [List.length_set, seal60_length])]
      rw [hse] at he
      have h4 := leB4_mod (List.append_cancel_left he)
      have hd := total_set (seal60 l) k hk60 v
      have hx : (sealS l)[k]'(by omega) = (seal60 l)[k] := by
        unfold sealS
        rw [List.getElem_append_left hk60]
      rw [hx] at hv
      have hbk := seal60_byts hl _ (List.getElem_mem hk60)
      have e1 := s02_fst (seal60 l)
      have e2 := s02_fst ((seal60 l).set k v)
      have b1 := s02_lt (seal60 l)
      have b2 := s02_lt ((seal60 l).set k v)
      unfold of02 at h4
      omega
end Go.Proofs.Ytdknolnoimpgeaa.K
namespace Go.Proofs.Ytdknolnoimpgeaa.K
open Ieee
/-- The float of a whole number. -/
def fl (n : Nat) : Nat := double.nearest false n 0
theorem floatOfInt_fl (n : Nat) : floatOfInt .f64 (n : Int) = fl n := by
  have h : ¬ ((n : Int) < 0) := by omega
  simp only [floatOfInt, FloatKind.nearest, FloatKind.encode, Format.write, h, decide_false, Int.natAbs_natCast, fl]
  rfl
/-- d is the whole number n, exactly, with b binary digits behind the point. -/
def IsN (d : Datum) (n : Nat) : Prop := ∃ b : Nat, d = .number false (n * 2 ^ b) (-(b : Int))
theorem cut_zero (way : Toward) (n : Nat) : way.cut false n 0 = n := by
  cases way <;> simp [Toward.cut, Nat.mod_one]
theorem cut_exact (way : Toward) (n d : Nat) (hn : n ≠ 0 ∨ d = 0 ∨ True) : way.cut false (n * 2 ^ d) d = n := by
  by_cases h0 : n = 0
  · subst h0
    cases way <;> simp [Toward.cut]
  · have hl : min d ((n * 2 ^ d).log2 + 2) = d := by
      have : d ≤ (n * 2 ^ d).log2 := (Nat.le_log2 (Nat.mul_ne_zero h0 (Nat.ne_of_gt (Nat.two_pow_pos d)))).2 (Nat.le_mul_of_pos_left _ (by omega))
      omega
    have h1 : n * 2 ^ d / 1 <<< d = n := by rw [Nat.one_shiftLeft]; exact Nat.mul_div_cancel _ (Nat.two_pow_pos d)
    have h2 : n * 2 ^ d % 1 <<< d = 0 := by rw [Nat.one_shiftLeft]; exact Nat.mul_mod_left _ _
    have hp : 1 <<< d ≠ 0 := by rw [Nat.one_shiftLeft]; exact Nat.ne_of_gt (Nat.two_pow_pos d)
    unfold Toward.cut
    simp only [hl, h1, h2]
    cases way <;> simp [hp]
theorem log2_mul_pow {n : Nat} (h : n ≠ 0) (b : Nat) : (n * 2 ^ b).log2 = n.log2 + b := by
  have h1 := Nat.log2_self_le h
  have h2 : n < 2 ^ (n.log2 + 1) := Nat.lt_log2_self
  have hne : n * 2 ^ b ≠ 0 := Nat.mul_ne_zero h (Nat.ne_of_gt (Nat.two_pow_pos b))
  apply Nat.le_antisymm
  · apply Nat.le_of_lt_succ
    rw [Nat.log2_lt hne]
    rw [Nat.succ_eq_add_one, show n.log2 + b + 1 = n.log2 + 1 + b by omega, Nat.pow_add]
    exact Nat.mul_lt_mul_of_pos_right h2 (Nat.two_pow_pos b)
  · rw [Nat.le_log2 hne, Nat.pow_add]
    exact Nat.mul_le_mul_right _ h1
/-- The word of an exact number does not hang on its digits behind the point. -/
theorem nearest_exact {n : Nat} (h : n < 2 ^ 52) (b : Nat) : double.nearest false (n * 2 ^ b) (-(b : Int)) = if n = 0 then 0 else (n.log2 + 1022) * 2 ^ 52 + n * 2 ^ (52 - n.log2) := by
  by_cases h0 : n = 0
  · subst h0
    simp [Format.nearest, Format.word]
  · have hne : n * 2 ^ b ≠ 0 := Nat.mul_ne_zero h0 (Nat.ne_of_gt (Nat.two_pow_pos b))
    have hk : n.log2 < 52 := (Nat.log2_lt h0).2 h
    rw [if_neg h0]
    unfold Format.nearest
    rw [if_neg hne, log2_mul_pow h0 b]
    have hlast : max (-(b : Int) + ((n.log2 + b : Nat) : Int) - (double.fractionBits : Nat)) double.leastPlace = (n.log2 : Int) - 52 := by
      have : double.leastPlace = -1074 := by decide
      rw [this, show double.fractionBits = 52 from rfl]
      omega
    dsimp only
    rw [hlast]
    have hkept : Toward.even.cut false ((n * 2 ^ b) <<< (-(b : Int) - ((n.log2 : Int) - 52)).toNat) (((n.log2 : Int) - 52) - -(b : Int)).toNat = n * 2 ^ (52 - n.log2) := by
      by_cases hb : b ≤ 52 - n.log2
      · rw [show (-(b : Int) - ((n.log2 : Int) - 52)).toNat = 52 - n.log2 - b by omega, show (((n.log2 : Int) - 52) - -(b : Int)).toNat = 0 by omega, cut_zero, Nat.shiftLeft_eq, Nat.mul_assoc, ← Nat.pow_add, show b + (52 - n.log2 - b) = 52 - n.log2 by omega]
      · rw [show (-(b : Int) - ((n.log2 : Int) - 52)).toNat = 0 by omega, show (((n.log2 : Int) - 52) - -(b : Int)).toNat = b - (52 - n.log2) by omega, Nat.shiftLeft_zero,
          show n * 2 ^ b = (n * 2 ^ (52 - n.log2)) * 2 ^ (b - (52 - n.log2)) by rw [Nat.mul_assoc, ← Nat.pow_add, show 52 - n.log2 + (b - (52 - n.log2)) = b by omega]]
        exact cut_exact _ _ _ (.inr (.inr trivial))
    rw [hkept]
    have hlp : double.leastPlace = -1074 := by decide
    have hbin : double.binade = 2 ^ 52 := by decide
    have hinf : double.infRung = 2047 * 2 ^ 52 := by decide
    rw [hlp, hbin, hinf, show ((n.log2 : Int) - 52 - -1074).toNat = n.log2 + 1022 by omega]
    have hup : n * 2 ^ (52 - n.log2) < 2 ^ 53 := by
      have h2 : n < 2 ^ (n.log2 + 1) := Nat.lt_log2_self
      have := Nat.mul_lt_mul_of_pos_right h2 (Nat.two_pow_pos (52 - n.log2))
      rwa [← Nat.pow_add, show n.log2 + 1 + (52 - n.log2) = 53 by omega] at this
    simp only [Format.word, Bool.false_eq_true, if_false]
    exact Nat.min_eq_left (by omega)
theorem write_isN {d : Datum} {n : Nat} (h : n < 2 ^ 52) (hd : IsN d n) : double.write d = fl n := by
  obtain ⟨b, rfl⟩ := hd
  have h0 := nearest_exact h 0
  simp only [Nat.pow_zero, Nat.mul_one] at h0
  show double.nearest false (n * 2 ^ b) (-(b : Int)) = double.nearest false n 0
  rw [nearest_exact h b]
  exact h0.symm
theorem read_fl {n : Nat} (h : n < 2 ^ 52) : IsN (double.read (fl n)) n := by
  have h0 := nearest_exact h 0
  simp only [Nat.pow_zero, Nat.mul_one] at h0
  unfold fl
  rw [show (0 : Int) = -((0 : Nat) : Int) from rfl, h0]
  by_cases hn : n = 0
  · subst hn
    rw [if_pos rfl]
    refine ⟨1074, ?_⟩
    generalize (2 : Nat) ^ 1074 = z
    rw [Nat.zero_mul]; decide
  · rw [if_neg hn]
    have hk : n.log2 < 52 := (Nat.log2_lt hn).2 h
    have hlo : 2 ^ 52 ≤ n * 2 ^ (52 - n.log2) := by
      have := Nat.mul_le_mul_right (2 ^ (52 - n.log2)) (Nat.log2_self_le hn)
      rwa [← Nat.pow_add, show n.log2 + (52 - n.log2) = 52 by omega] at this
    have hup : n * 2 ^ (52 - n.log2) < 2 ^ 53 := by
      have h2 : n < 2 ^ (n.log2 + 1) := Nat.lt_log2_self
      have := Nat.mul_lt_mul_of_pos_right h2 (Nat.two_pow_pos (52 - n.log2))
      rwa [← Nat.pow_add, show n.log2 + 1 + (52 - n.log2) = 53 by omega] at this
    refine ⟨52 - n.log2, ?_⟩
    generalize hm : n * 2 ^ (52 - n.log2) = m at *
    unfold Format.read
    have hlp : double.leastPlace = -1074 := by decide
    have hbin : double.binade = 2 ^ 52 := by decide
    have hinf : double.infRung = 2047 * 2 ^ 52 := by decide
    have hsw : double.signWeight = 2 ^ 63 := by decide
    rw [hlp, hbin, hinf, hsw]
    have e1 : ((n.log2 + 1022) * 2 ^ 52 + m) / 2 ^ 63 % 2 = 0 := by omega
    have e2 : ((n.log2 + 1022) * 2 ^ 52 + m) % 2 ^ 63 = (n.log2 + 1022) * 2 ^ 52 + m := by omega
    dsimp only
    rw [e1, e2, if_neg (by omega), if_pos (by omega)]
    congr 1 <;> omega
theorem isN_sum {d e : Datum} {a b : Nat} (hd : IsN d a) (he : IsN e b) : ∃ r, d.sum e = some r ∧ IsN r (a + b) := by
  obtain ⟨i, rfl⟩ := hd
  obtain ⟨j, rfl⟩ := he
  refine ⟨_, rfl, max i j, ?_⟩
  have hb : min (-(i : Int)) (-(j : Int)) = -((max i j : Nat) : Int) := by omega
  have h1 : signed false (a * 2 ^ i) (-(i : Int) - -((max i j : Nat) : Int)).toNat = ((a * 2 ^ max i j : Nat) : Int) := by
    simp only [signed, Bool.false_eq_true, if_false]
    rw [Nat.shiftLeft_eq, Nat.mul_assoc, ← Nat.pow_add, show i + (-(i : Int) - -((max i j : Nat) : Int)).toNat = max i j by omega]
  have h2 : signed false (b * 2 ^ j) (-(j : Int) - -((max i j : Nat) : Int)).toNat = ((b * 2 ^ max i j : Nat) : Int) := by
    simp only [signed, Bool.false_eq_true, if_false]
    rw [Nat.shiftLeft_eq, Nat.mul_assoc, ← Nat.pow_add, show j + (-(j : Int) - -((max i j : Nat) : Int)).toNat = max i j by omega]
  rw [hb, h1, h2, ← Int.natCast_add, ← Nat.add_mul]
  congr 1
  · by_cases hz : ((((a + b) * 2 ^ max i j : Nat) : Int)) = 0
    · simp only [hz, if_true, Bool.and_self]
    · rw [if_neg hz]; exact decide_eq_false (by omega)
theorem isN_diff {d e : Datum} {a b : Nat} (hd : IsN d a) (he : IsN e b) (hle : b ≤ a) : ∃ r, d.sum e.opposite = some r ∧ IsN r (a - b) := by
  obtain ⟨i, rfl⟩ := hd
  obtain ⟨j, rfl⟩ := he
  refine ⟨_, rfl, max i j, ?_⟩
  have hb : min (-(i : Int)) (-(j : Int)) = -((max i j : Nat) : Int) := by omega
  have h1 : signed false (a * 2 ^ i) (-(i : Int) - -((max i j : Nat) : Int)).toNat = ((a * 2 ^ max i j : Nat) : Int) := by
    simp only [signed, Bool.false_eq_true, if_false]
    rw [Nat.shiftLeft_eq, Nat.mul_assoc, ← Nat.pow_add, show i + (-(i : Int) - -((max i j : Nat) : Int)).toNat = max i j by omega]
  have h2 : signed (!false) (b * 2 ^ j) (-(j : Int) - -((max i j : Nat) : Int)).toNat = -((b * 2 ^ max i j : Nat) : Int) := by
    simp only [signed, Bool.not_false, if_true]
    rw [Nat.shiftLeft_eq, Nat.mul_assoc, ← Nat.pow_add, show j + (-(j : Int) - -((max i j : Nat) : Int)).toNat = max i j by omega]
  have h3 : ((a * 2 ^ max i j : Nat) : Int) + -((b * 2 ^ max i j : Nat) : Int) = (((a - b) * 2 ^ max i j : Nat) : Int) := by
    rw [Nat.sub_mul]
    have := Nat.mul_le_mul_right (2 ^ max i j) hle
    omega
  rw [hb, h1, h2, h3]
  congr 1
  · by_cases hz : ((((a - b) * 2 ^ max i j : Nat) : Int)) = 0
    · simp only [hz, if_true, Bool.false_and]
    · rw [if_neg hz]; exact decide_eq_false (by omega)
theorem isN_order {d e : Datum} {a b : Nat} (hd : IsN d a) (he : IsN e b) : d.order e = some (compare (a : Int) (b : Int)) := by
  obtain ⟨i, rfl⟩ := hd
  obtain ⟨j, rfl⟩ := he
  have hb : min (-(i : Int)) (-(j : Int)) = -((max i j : Nat) : Int) := by omega
  have h1 : signed false (a * 2 ^ i) (-(i : Int) - -((max i j : Nat) : Int)).toNat = ((a * 2 ^ max i j : Nat) : Int) := by
    simp only [signed, Bool.false_eq_true, if_false]
    rw [Nat.shiftLeft_eq, Nat.mul_assoc, ← Nat.pow_add, show i + (-(i : Int) - -((max i j : Nat) : Int)).toNat = max i j by omega]
  have h2 : signed false (b * 2 ^ j) (-(j : Int) - -((max i j : Nat) : Int)).toNat = ((b * 2 ^ max i j : Nat) : Int) := by
    simp only [signed, Bool.false_eq_true, if_false]
    rw [Nat.shiftLeft_eq, Nat.mul_assoc, ← Nat.pow_add, show j + (-(j : Int) - -((max i j : Nat) : Int)).toNat = max i j by omega]
  show some (compare _ _) = _
  rw [hb, h1, h2]
  congr 1
  have hp : (0 : Int) < ((2 ^ max i j : Nat) : Int) := by exact_mod_cast Nat.two_pow_pos (max i j)
  simp only [Int.natCast_mul]
  rcases Int.lt_trichotomy (a : Int) (b : Int) with hlt | heq | hgt
  · rw [Int.compare_eq_lt.2 hlt, Int.compare_eq_lt.2 (Int.mul_lt_mul_of_pos_right hlt hp)]
  · rw [heq]; simp
  · rw [Int.compare_eq_gt.2 hgt, Int.compare_eq_gt.2 (Int.mul_lt_mul_of_pos_right hgt hp)]
theorem isN_toInt {d : Datum} {a : Nat} (hd : IsN d a) : d.toInt .zero = some (a : Int) := by
  obtain ⟨i, rfl⟩ := hd
  have h1 : (-(i : Int)).toNat = 0 := by omega
  have h2 : (- -(i : Int)).toNat = i := by omega
  simp only [Datum.toInt, Datum.integral, h1, h2, Nat.shiftLeft_zero]
  rw [cut_exact _ _ _ (.inr (.inr trivial))]
  simp [signed]
/-! the program's operations -/
theorem fl_add {a b : Nat} (ha : a < 2 ^ 51) (hb : b < 2 ^ 51) : floatBits .add .f64 (fl a) (fl b) = some (fl (a + b)) := by
  obtain ⟨r, h1, h2⟩ := isN_sum (read_fl (n := a) (by omega)) (read_fl (n := b) (by omega))
  show double.add (fl a) (fl b) = _
  unfold Format.add
  rw [h1]
  exact congrArg some (write_isN (by omega) h2)
theorem fl_sub {a b : Nat} (ha : a < 2 ^ 51) (hb : b ≤ a) : floatBits .sub .f64 (fl a) (fl b) = some (fl (a - b)) := by
  obtain ⟨r, h1, h2⟩ := isN_diff (read_fl (n := a) (by omega)) (read_fl (n := b) (by omega)) hb
  show double.sub (fl a) (fl b) = _
  unfold Format.sub
  rw [h1]
  exact congrArg some (write_isN (by omega) h2)
theorem fl_order {a b : Nat} (ha : a < 2 ^ 51) (hb : b < 2 ^ 51) : FloatKind.f64.format.order (fl a) (fl b) = some (compare (a : Int) (b : Int)) := isN_order (read_fl (n := a) (by omega)) (read_fl (n := b) (by omega))
theorem fl_toInt {a : Nat} (ha : a < 2 ^ 51) : floatToIntVal .f64 (fl a) .i64 = some (a : Int) := by
  unfold floatToIntVal FloatKind.decode
  have h := isN_toInt (read_fl (n := a) (by omega))
  rw [show FloatKind.f64.format = double from rfl, h]
  dsimp only
  have : IntKind.i64.min ≤ (a : Int) ∧ (a : Int) ≤ IntKind.i64.max := by
    have e1 : IntKind.i64.min = -9223372036854775808 := by decide
    have e2 : IntKind.i64.max = 9223372036854775807 := by decide
    rw [e1, e2]; omega
  rw [if_pos this]
theorem fl_geq {a b : Nat} (ha : a < 2 ^ 51) (hb : b < 2 ^ 51) : ((FloatKind.f64.format.order (fl a) (fl b) == some .gt) || (FloatKind.f64.format.order (fl a) (fl b) == some .eq)) = decide (b ≤ a) := by
  rw [fl_order ha hb]
  rcases Int.lt_trichotomy (a : Int) (b : Int) with hlt | heq | hgt
  · rw [Int.compare_eq_lt.2 hlt]
    rw [decide_eq_false (by omega)]; rfl
  · rw [Int.compare_eq_eq.2 heq]
    rw [decide_eq_true (by omega)]; rfl
  · rw [Int.compare_eq_gt.2 hgt]
    rw [decide_eq_true (by omega)]; rfl
theorem fl_eq {a b : Nat} (ha : a < 2 ^ 51) (hb : b < 2 ^ 51) : (FloatKind.f64.format.order (fl a) (fl b) == some .eq) = decide (a = b) := by
  rw [fl_order ha hb]
  rcases Int.lt_trichotomy (a : Int) (b : Int) with hlt | heq | hgt
  · rw [Int.compare_eq_lt.2 hlt]
    rw [decide_eq_false (by omega)]; rfl
  · rw [Int.compare_eq_eq.2 heq]
    rw [decide_eq_true (by omega)]; rfl
  · rw [Int.compare_eq_gt.2 hgt]
    rw [decide_eq_false (by omega)]; rfl
theorem fl_mod : fl 65521 = 4679237951253643264 := by decide +kernel
theorem fl_one : fl 1 = 4607182418800017408 := by decide +kernel
theorem fl_zero : fl 0 = 0 := by decide +kernel
end Go.Proofs.Ytdknolnoimpgeaa.K
namespace Go.Proofs.Ytdknolnoimpgeaa.K
open Go.RowKit Go.Proofs.YtdknolnoimpgeaaW.PrintWords Go.Proofs.YtdknolnoimpgeaaW.PrintLast Go.Proofs.YtdknolnoimpgeaaW.PrintMore
set_option linter.unusedVariables false
set_option linter.unusedSimpArgs false
theorem wrap_walk (n : Nat) (hn : n < 131042) (w : World) : Calls Try.prog 156 #[.float .f64 (fl n)] w fun e w' => e = .returned (.float .f64 (fl (n % 65521))) ∧ w' = w := by
  have hg := fl_geq (a := n) (b := 65521) (by omega) (by decide)
  rw [fl_mod] at hg
  by_cases h : 65521 ≤ n
  · rw [decide_eq_true h] at hg
    obtain ⟨x, hx⟩ : ∃ x, x = fl n := ⟨_, rfl⟩
    obtain ⟨y, hy⟩ : ∃ y, y = fl (n % 65521) := ⟨_, rfl⟩
    have hs : ∀ t w, (binOp .sub t (.float .f64 x) (.float .f64 4679237951253643264)).run Try.prog w = .ok (.float .f64 y) w := fun t w => run_float_arith w .sub t .f64 _ _ _ (by rw [← fl_mod, hx, hy, show n % 65521 = n - 65521 by omega]; exact fl_sub (by omega) h)
    rw [← hy, ← hx]
    rw [← hx] at hg
    clear hx hy
    go_enter Try.func156, Try.ntmps156
    go_wp2
    go_ret
    exact ⟨rfl, rfl⟩
  · rw [decide_eq_false h] at hg
    obtain ⟨x, hx⟩ : ∃ x, x = fl n := ⟨_, rfl⟩
    rw [show n % 65521 = n by omega, ← hx]
    rw [← hx] at hg
    clear hx
    go_enter Try.func156, Try.ntmps156
    go_wp2
    go_ret
    exact ⟨rfl, rfl⟩
set_option maxRecDepth 100000 in
theorem sums_walk (A : Option Addr) (c : Nat) (l : List Int) (w : World) (hr : Kd.C (Kd.int .u8) w A l.length l) (hb : Byts l) (hl : l.length < 140737488355328) :
    Calls Try.prog 149 #[.slice A l.length c] w fun e w' => e = .returned (.complex .f64 (fl (s02 l).1) (fl (s02 l).2)) ∧ w' = w := by
  have HR := Aside0.mk hr
  have HY := Aside0.mk hb
  have HL := Aside0.mk hl
  clear hr hb
  go_enter Try.func149, Try.ntmps149
  go_wp2
  go_loop [3, 9] (fun v3 v9 => ∃ m : Nat, ∃ f1 f2 : Nat, v3 = .complex .f64 f1 f2 ∧ v9 = .int .i64 m ∧ Aside0 (m ≤ l.length) ∧ Aside0 (f1 = fl (s02 (l.take m)).1) ∧ Aside0 (f2 = fl (s02 (l.take m)).2)) (fun _ i => l.length - (intOf i).toNat)
  case atStart => exact ⟨0, _, _, rfl, rfl, ⟨Nat.zero_le _⟩, ⟨fl_one.symm⟩, ⟨fl_zero.symm⟩⟩
  case round =>
    obtain ⟨m, f1, f2, rfl, rfl, hm, hf1, hf2⟩ := hrel
    have hm' := hm.out
    by_cases hlt : m < l.length
    · obtain ⟨ad, rfl, hx⟩ := Kd.at_int HR.out (m : Int) (by omega) (by omega)
      rw [rd_get hlt, Int.toNat_natCast] at hx
      have hbm := HY.out _ (List.getElem_mem hlt)
      have hst := s02_take l hlt
      have hlt1 := s02_lt (l.take m)
      have hlt2 := s02_lt (l.take (m + 1))
      obtain ⟨p, hp⟩ : ∃ p, p = s02 (l.take m) := ⟨_, rfl⟩
      obtain ⟨q, hq⟩ : ∃ q, q = s02 (l.take (m + 1)) := ⟨_, rfl⟩
      have Q1 : Aside0 (s02 (l.take (m + 1)) = q) := ⟨hq.symm⟩
      obtain ⟨k, hk⟩ : ∃ k : Nat, l[m] = (k : Int) := ⟨l[m].toNat, by omega⟩
      rw [hk] at hx hst hbm
      have h1 := hf1.out
      have h2 := hf2.out
      rw [← hp] at h1 h2 hst hlt1
      rw [← hq] at hst hlt2
      have hs1 : q.1 = (p.1 + k) % 65521 := by rw [hst]; simp [s02step]
      have hs2 : q.2 = (p.2 + q.1) % 65521 := by rw [hs1, hst]; simp [s02step]
      obtain ⟨g1, hg1⟩ : ∃ g1, g1 = fl q.1 := ⟨_, rfl⟩
      obtain ⟨g2, hg2⟩ : ∃ g2, g2 = fl q.2 := ⟨_, rfl⟩
      obtain ⟨fk, hfk⟩ : ∃ fk, fk = fl k := ⟨_, rfl⟩
      obtain ⟨a1, ha1⟩ : ∃ a1, a1 = fl (p.1 + k) := ⟨_, rfl⟩
      obtain ⟨a2, ha2⟩ : ∃ a2, a2 = fl (p.2 + q.1) := ⟨_, rfl⟩
      have hfi : floatOfInt .f64 (k : Int) = fk := by rw [hfk]; exact floatOfInt_fl k
      have hadd1 : ∀ t w, (binOp .add t (.float .f64 f1) (.float .f64 fk)).run Try.prog w = .ok (.float .f64 a1) w := fun t w => run_float_arith w .add t .f64 _ _ _ (by rw [h1, hfk, ha1]; exact fl_add (by omega) (by omega))
      have hadd2 : ∀ t w, (binOp .add t (.float .f64 f2) (.float .f64 g1)).run Try.prog w = .ok (.float .f64 a2) w := fun t w => run_float_arith w .add t .f64 _ _ _ (by rw [h2, hg1, ha2]; exact fl_add (by omega) (by omega))
      have W1 := Aside0.mk (fun w => by have h := wrap_walk (p.1 + k) (by omega) w; rw [← ha1, ← hs1, ← hg1] at h; exact h : ∀ w, Calls Try.prog 156 #[.float .f64 a1] w fun e w' => e = .returned (.float .f64 g1) ∧ w' = w)
      have W2 := Aside0.mk (fun w => by have h := wrap_walk (p.2 + q.1) (by omega) w; rw [← ha2, ← hs2, ← hg2] at h; exact h : ∀ w, Calls Try.prog 156 #[.float .f64 a2] w fun e w' => e = .returned (.float .f64 g2) ∧ w' = w)
      have G1 := Aside0.mk hg1
      have G2 := Aside0.mk hg2
      clear hg1 hg2 ha1 ha2 hfk hs1 hs2 h1 h2 hst hlt1 hlt2 hp hq hk hbm hf1 hf2
      go_wp2_with (first | (go_at_call 156; (with_reducible refine (W1.out _).mono ?_); rintro e w' ⟨rfl, rfl⟩) | (go_at_call 156; (with_reducible refine (W2.out _).mono ?_); rintro e w' ⟨rfl, rfl⟩))
      exact ⟨⟨m + 1, _, _, rfl, rfl, ⟨by omega⟩, ⟨by rw [Q1.out]; exact G1.out⟩, ⟨by rw [Q1.out]; exact G2.out⟩⟩, by simp [intOf]; omega⟩
    · have hmn : m = l.length := by omega
      subst hmn
      have E1 : f1 = fl (s02 l).1 := by rw [hf1.out, List.take_length]
      have E2 : f2 = fl (s02 l).2 := by rw [hf2.out, List.take_length]
      clear hf1 hf2
      subst E1 E2
      go_wp2
      go_ret
      exact ⟨rfl, rfl⟩
theorem or_16 {x y : Nat} (hx : x < 65536) (hy : y < 65536) : bits .or .i64 (x : Int) ((y : Int) * 65536) = ((x + 65536 * y : Nat) : Int) := by
  have hc : bits .or .i64 (x : Int) ((y : Int) * 65536) = bits .or .i64 ((y : Int) * 65536) (x : Int) := by simp only [bits, BitVec.or_comm]
  rw [hc, bits_join .i64 63 (by decide) (fun m m0 m1 => by rw [IntKind.wrap_i64]; omega) 16 _ (x : Int) (by omega) (by simp) (by omega) (by omega) (by omega) (by omega)]
  omega
theorem of_walk (A : Option Addr) (c : Nat) (l : List Int) (w : World) (hr : Kd.C (Kd.int .u8) w A l.length l) (hb : Byts l) (hl : l.length < 140737488355328) :
    Calls Try.prog 132 #[.slice A l.length c] w fun e w' => e = .returned (.int .i64 (of02 l)) ∧ w' = w := by
  have W1 := Aside0.mk (sums_walk A c l w hr hb hl)
  have hlt := s02_lt l
  obtain ⟨x, hx⟩ : ∃ x, x = (s02 l).1 := ⟨_, rfl⟩
  obtain ⟨y, hy⟩ : ∃ y, y = (s02 l).2 := ⟨_, rfl⟩
  have hof : of02 l = x + 65536 * y := by rw [hx, hy]; rfl
  rw [hof]
  rw [← hx, ← hy] at hlt W1
  obtain ⟨f1, hf1⟩ : ∃ f1, f1 = fl x := ⟨_, rfl⟩
  obtain ⟨f2, hf2⟩ : ∃ f2, f2 = fl y := ⟨_, rfl⟩
  rw [← hf1, ← hf2] at W1
  have hc1 : ∀ w, (convert 173 3 (.float .f64 f1)).run Try.prog w = .ok (.int .i64 (x : Int)) w := fun w => run_convert_float_int w _ _ .f64 .i64 _ _ (by rw [Try.underlying173]; rfl) Try.underlying3 (by rw [hf1]; exact fl_toInt (by omega))
  have hc2 : ∀ w, (convert 173 3 (.float .f64 f2)).run Try.prog w = .ok (.int .i64 (y : Int)) w := fun w => run_convert_float_int w _ _ .f64 .i64 _ _ (by rw [Try.underlying173]; rfl) Try.underlying3 (by rw [hf2]; exact fl_toInt (by omega))
  clear hx hy hf1 hf2 hof hr hb
  go_enter Try.func132, Try.ntmps132
  go_wp2_with (go_at_call 149; (with_reducible refine W1.out.mono ?_); rintro e w' ⟨rfl, rfl⟩)
  go_ret
  exact ⟨by rw [← or_16 (by omega) (by omega)]; rfl, rfl⟩
end Go.Proofs.Ytdknolnoimpgeaa.K
namespace Go.Proofs.Ytdknolnoimpgeaa.K
open Go.RowKit Go.Proofs.YtdknolnoimpgeaaW.PrintWords Go.Proofs.YtdknolnoimpgeaaW.PrintLast Go.Proofs.YtdknolnoimpgeaaW.PrintMore
set_option linter.unusedVariables false
set_option linter.unusedSimpArgs false
theorem numW_walk (s : Int) (w : World) : Calls Try.prog 152 #[.int .i64 s] w fun e w' => e = .returned (.bool (numW s)) ∧ Drawn0 w w' := by
  unfold numW
  by_cases h1 : s = 1
  · subst h1; go_enter Try.func152, Try.ntmps152
    go_wp2; go_ret; exact ⟨rfl, Drawn0.refl _⟩
  by_cases h2 : s = 2
  · subst h2; go_enter Try.func152, Try.ntmps152
    go_wp2; go_ret; exact ⟨rfl, Drawn0.refl _⟩
  have b1 : (s == 1) = false := by simpa using h1
  have b2 : (s == 2) = false := by simpa using h2
  clear h1 h2
  go_enter Try.func152, Try.ntmps152
  go_wp2; go_ret; exact ⟨ret_b (by simp [b1, b2]), Drawn0.refl _⟩
theorem numR_walk (n s : Int) (w : World) : Calls Try.prog 135 #[.int .i64 n, .int .i64 s] w fun e w' => e = .returned (.bool (numR n s)) ∧ Drawn0 w w' := by
  by_cases hw : numW s = true
  case neg =>
    have hw' := Bool.eq_false_iff.2 hw
    have e0 : numR n s = false := by unfold numR; rw [hw']; rfl
    have E0 := Aside0.mk e0; have HW := Aside0.mk hw'; clear e0 hw hw'
    go_enter Try.func135, Try.ntmps135
    go_wp2_with (go_at_call 152; refine (numW_walk _ _).mono ?_; rintro e w2 ⟨rfl, ⟨nd, rfl⟩⟩; rw [HW.out])
    go_ret; exact ⟨ret_b E0.out.symm, ⟨⟨nd, rfl⟩⟩⟩
  obtain ⟨k, rfl, hk1, hk4⟩ := numW_nat hw
  have HW := Aside0.mk hw
  by_cases h0 : 0 ≤ n
  case neg =>
    have e0 : numR n k = false := by unfold numR; simp [h0]
    have E0 := Aside0.mk e0
    clear e0 hw
    go_enter Try.func135, Try.ntmps135
    go_wp2_with (go_at_call 152; refine (numW_walk _ _).mono ?_; rintro e w2 ⟨rfl, ⟨nd, rfl⟩⟩; rw [HW.out])
    go_ret; exact ⟨ret_b E0.out.symm, ⟨⟨nd, rfl⟩⟩⟩
  have e0 : numR n k = (n / 2 ^ (8 * k) == 0) := by
    unfold numR
    rw [hw]
    rw [Bool.eq_iff_iff]
    simp [h0, div_zero_iff (pow_pos2 (8 * k)) h0]
  have E0 := Aside0.mk e0
  clear e0 hw
  go_enter Try.func135, Try.ntmps135
  go_wp2_with (go_at_call 152; refine (numW_walk _ _).mono ?_; rintro e w2 ⟨rfl, ⟨nd, rfl⟩⟩; rw [HW.out])
  go_ret; exact ⟨ret_b E0.out.symm, ⟨⟨nd, rfl⟩⟩⟩
theorem numT_walk (A : Option Addr) (c : Nat) (l : List Int) (i s : Int) (w : World) (hl : l.length < 140737488355328) : Calls Try.prog 138 #[.slice A l.length c, .int .i64 i, .int .i64 s] w fun e w' => e = .returned (.bool (numT l i s)) ∧ Drawn0 w w' := by
  by_cases hw : numW s = true
  case neg =>
    have hw' := Bool.eq_false_iff.2 hw
    have e0 : numT l i s = false := by unfold numT; rw [hw']; rfl
    have E0 := Aside0.mk e0; have HW := Aside0.mk hw'; clear e0 hw hw'
    go_enter Try.func138, Try.ntmps138
    go_wp2_with (go_at_call 152; refine (numW_walk _ _).mono ?_; rintro e w2 ⟨rfl, ⟨nd, rfl⟩⟩; rw [HW.out])
    go_ret; exact ⟨ret_b E0.out.symm, ⟨⟨nd, rfl⟩⟩⟩
  obtain ⟨k, rfl, hk1, hk4⟩ := numW_nat hw
  have HW := Aside0.mk hw
  by_cases h0 : 0 ≤ i
  case neg =>
    have e0 : numT l i k = false := by unfold numT; simp [h0]
    have E0 := Aside0.mk e0
    clear e0 hw
    go_enter Try.func138, Try.ntmps138
    go_wp2_with (go_at_call 152; refine (numW_walk _ _).mono ?_; rintro e w2 ⟨rfl, ⟨nd, rfl⟩⟩; rw [HW.out])
    go_ret; exact ⟨ret_b E0.out.symm, ⟨⟨nd, rfl⟩⟩⟩
  obtain ⟨j, rfl⟩ := Int.eq_ofNat_of_zero_le h0
  by_cases h1 : j ≤ l.length
  case neg =>
    have e0 : numT l j k = false := by unfold numT; simp; omega
    have E0 := Aside0.mk e0
    have h2 : l.length < j := by omega
    clear e0 hw h1
    go_enter Try.func138, Try.ntmps138
    go_wp2_with (go_at_call 152; refine (numW_walk _ _).mono ?_; rintro e w2 ⟨rfl, ⟨nd, rfl⟩⟩; rw [HW.out])
    go_ret; exact ⟨ret_b E0.out.symm, ⟨⟨nd, rfl⟩⟩⟩
  have e0 : numT l j k = decide ((k : Int) ≤ l.length - j) := by
    unfold numT; rw [hw, Bool.eq_iff_iff]; simp; omega
  have E0 := Aside0.mk e0
  clear e0 hw
  go_enter Try.func138, Try.ntmps138
  go_wp2_with (go_at_call 152; refine (numW_walk _ _).mono ?_; rintro e w2 ⟨rfl, ⟨nd, rfl⟩⟩; rw [HW.out])
  go_ret; exact ⟨ret_b (by rw [E0.out]), ⟨⟨nd, rfl⟩⟩⟩
theorem numC_walk (A : Option Addr) (c : Nat) (l : List Int) (w : World) (hr : Kd.C (Kd.int .u8) w A l.length l) (hc : l.length ≤ c) (hl : l.length < 140737488355328) :
    Calls Try.prog 120 #[.slice A l.length c] w fun e w' => ∃ v : Value, e = .returned v ∧ Kd.R (Kd.int .u8) 5 w' w.heap.size (fun _ => True) v l ∧ Below w.heap.size w w' := by
  have HR := Aside0.mk hr
  have HL := Aside0.mk hl
  clear hr hc hl
  have HB := Aside0.mk (Below.refl w.heap.size w)
  cases A with
  | none =>
    have e0 := C_nil_len HR.out
    subst e0
    clear HL HR
    have heq := fun W => Lib.run_eql_slice_nil (P := Try.prog) W 24 5 none 0 c 0 0 Try.underlying24
    go_enter Try.func120, Try.ntmps120
    go_wp2
    go_ret
    exact ⟨_, rfl, Kd.R_nil _ _ _ _ _, HB.out⟩
  | some a0 =>
    have heq := fun W => Lib.run_eql_slice_nil (P := Try.prog) W 24 5 (some a0) l.length c 0 0 Try.underlying24
    go_enter Try.func120, Try.ntmps120
    go_wp2_with (first | ((with_reducible refine gate_dst (N := 5) rfl ?_); refine Kd.R_lit (Kd.int .u8) _ 5 ?hg (N := 5) ?hd (xs := ([] : List Int)) (inner := []) (ok := fun _ => True) (okp := fun _ => True) ?hr ?hp (fun _ hk => hk) trivial (Below.refl _ _) (Nat.le_refl _) (by simp) ?_; (case hd => rfl); (case hg => rfl); (case hr => first | (go_simp; done) | (go_simp; rfl)); (case hp => exact (Reps.none _ _)); intro v114 w3 ho4 hb hg_ hnew_; clear hg_ hnew_; have n0_ := Aside0.mk (Kd.R_lower ho4 (below_size (by repeat (first | (with_reducible first | exact HB.out | apply below_alloc | apply pw_below_drewN | apply below_drew1) | exact HB.out)))); have n1_ := Aside0.mk (below_step (by repeat (first | (with_reducible first | exact HB.out | apply below_alloc | apply pw_below_drewN | apply below_drew1) | exact HB.out)) hb); clear HB; have HO1 := n0_; have HB := n1_; clear n0_ n1_; clear hb ho4) | ((with_reducible refine gate_builtin (b := .append) (xs := #[.tmp 5, .tmp 6]) rfl ?_); at_builtin; refine Kd.R_append_rows (Kd.int .u8) (w0 := w) w.heap.size rfl (.tmp 5) (.tmp 6) 24 5 (.int .u8 0) 1 rfl Try.underlying24 u8info rfl (by decide) (by omega) v114 [] l _ _ _ (fun _ => True) (fun _ => False) rfl rfl ?aO ?aR (fun _ _ h => h) (fun _ h => h.elim) ?aF ?aB ?aS ?aL ?_; (case aR => exact (Kd.C_below HR.out (by repeat (first | (with_reducible first | exact HB.out | apply below_alloc | apply pw_below_drewN | apply below_drew1) | exact HB.out)))); (case aB => exact (by repeat (first | (with_reducible first | exact HB.out | apply below_alloc | apply pw_below_drewN | apply below_drew1) | exact HB.out))); (case aF => exact (fun _ _ => trivial)); (case aO => exact (by (with_reducible repeat (first | apply Kd.R_alloc | apply Kd.R_drewN | apply Kd.R_drew)); exact HO1.out)); (case aS => exact (below_size (by repeat (first | (with_reducible first | exact HB.out | apply below_alloc | apply pw_below_drewN | apply below_drew1) | exact HB.out)))); (case aL => have := HL.out; simp; omega); intro v123 w11 ho hb hg hat; have n0_ := Aside0.mk (hb); have n1_ := Aside0.mk (ho); clear HB; clear HO1; have HB := n0_; have HO2 := n1_; clear n0_ n1_; clear ho hb hg hat))
    go_ret
    exact ⟨_, rfl, HO2.out, HB.out⟩
theorem num_lay_walk (w0 w : World) (g o n cap c : Nat) (xs : List Int) (a : Int) (hB : Below w0.heap.size w0 w) (hg : w0.heap.size ≤ g) (hR : Kd.R (Kd.int .u8) 5 w w0.heap.size (fun _ => True) (.slice (some ⟨g, 0, none⟩) xs.length cap) xs) (hn : o + n ≤ xs.length) (h8 : n ≤ 8) :
    Calls Try.prog 136 #[.slice (some ⟨g, o, none⟩) n c, .int .i64 a] w fun e w' => e = .returned (.tuple #[]) ∧ Kd.R (Kd.int .u8) 5 w' w0.heap.size (fun _ => True) (.slice (some ⟨g, 0, none⟩) xs.length cap) (setAt xs o (leB a n)) ∧ Below w0.heap.size w0 w' := by
  have HB := Aside0.mk hB
  have HO := Aside0.mk hR
  clear hB hR
  go_enter Try.func136, Try.ntmps136
  go_wp2
  go_loopw [7] (fun v7 w' => ∃ k : Nat, v7 = .int .i64 k ∧ Aside0 (k ≤ n) ∧ Aside0 (Kd.R (Kd.int .u8) 5 w' w0.heap.size (fun _ => True) (.slice (some ⟨g, 0, none⟩) xs.length cap) (setAt xs o (leB a k))) ∧ Aside0 (Below w0.heap.size w0 w')) (fun i _ => n - (intOf i).toNat)
  case atStart => exact ⟨0, rfl, ⟨Nat.zero_le _⟩, ⟨by rw [leB_zero, setAt_nil]; exact HO.out⟩, HB⟩
  case round =>
    obtain ⟨k, rfl, hk, HO, HB⟩ := hrel
    have hk' := hk.out
    by_cases hlt : k < n
    · have hc := Kd.R_celln 0 HO.out ((o + k : Nat) : Int) (by omega) (by omega)
      obtain ⟨hx, hf⟩ := hc
      simp only [Int.toNat_natCast] at hx hf
      have HP := Kd.R_putg HO.out ((o + k : Nat) : Int) ((a / 2 ^ (8 * k)) % 256)
      have hsn := setAt_snoc (xs := xs) (o := o) (ys := leB a k) (y := a / 2 ^ (8 * k) % 256) (by rw [leB_length]; omega)
      rw [leB_length, ← leB_succ] at hsn
      rw [Int.toNat_natCast, hsn] at HP
      have HP' := Aside0.mk HP
      clear HP hsn
      go_wp2
      exact ⟨⟨k + 1, rfl, ⟨by omega⟩, ⟨HP'.out.1⟩, ⟨below_set HB.out hg⟩⟩, by simp [intOf]; omega⟩
    · have hkn : k = n := by omega
      subst hkn
      go_wp2
      go_end0
      exact ⟨rfl, HO.out, HB.out⟩
set_option maxRecDepth 100000 in
theorem numP_walk (A : Option Addr) (c : Nat) (l : List Int) (n s : Int) (w : World) (hr : Kd.C (Kd.int .u8) w A l.length l) (hc : l.length ≤ c) (hl : l.length < 140737488355320) :
    Calls Try.prog 96 #[.slice A l.length c, .int .i64 n, .int .i64 s] w fun e w' => ∃ v : Value, e = .returned v ∧ Kd.R (Kd.int .u8) 5 w' w.heap.size (fun _ => True) v (numP l n s) ∧ Below w.heap.size w w' := by
  have HR := Aside0.mk hr
  have HC := Aside0.mk hc
  have HL := Aside0.mk hl
  have HB := Aside0.mk (Below.refl w.heap.size w)
  clear hr hc hl
  by_cases hi : numR n s = true
  case neg =>
    have HRi := Aside0.mk (Bool.eq_false_iff.2 hi)
    have E0 : Aside0 (numP l n s = l) := ⟨by unfold numP; rw [if_neg hi]⟩
    clear hi
    go_enter Try.func96, Try.ntmps96
    go_wp2_with (first | (go_at_call 120; refine (numC_walk _ _ l _ (Kd.C_below HR.out (by repeat (first | (with_reducible first | exact HB.out | apply below_alloc | apply pw_below_drewN | apply below_drew1) | exact HB.out))) HC.out (by have := HL.out; omega)).mono ?_; rintro e w1 ⟨v1, rfl, ho, hb⟩; have HO1 := Aside0.mk ho; clear HB; have HB := Aside0.mk hb; clear ho hb) | (go_at_call 135; refine (numR_walk _ _ _).mono ?_; rintro e w2 ⟨rfl, ⟨nd, rfl⟩⟩; rw [HRi.out]))
    go_ret
    exact ⟨_, rfl, by rw [E0.out]; exact (by (with_reducible repeat (first | apply Kd.R_alloc | apply Kd.R_drewN | apply Kd.R_drew)); exact HO1.out), (by repeat (first | (with_reducible first | exact HB.out | apply below_alloc | apply pw_below_drewN | apply below_drew1) | exact HB.out))⟩
  have HRi := Aside0.mk hi
  obtain ⟨k, rfl, hk1, hk4⟩ := numW_nat (numR_parts hi).1
  have E0 : Aside0 (numP l n k = l ++ leB n k) := ⟨by unfold numP; rw [if_pos hi, Int.toNat_natCast]⟩
  clear hi
  go_enter Try.func96, Try.ntmps96
  go_wp2_with (first | (go_at_call 120; refine (numC_walk _ _ l _ (Kd.C_below HR.out (by repeat (first | (with_reducible first | exact HB.out | apply below_alloc | apply pw_below_drewN | apply below_drew1) | exact HB.out))) HC.out (by have := HL.out; omega)).mono ?_; rintro e w1 ⟨v1, rfl, ho, hb⟩; have HO1 := Aside0.mk ho; clear HB; have HB := Aside0.mk hb; clear ho hb) | (go_at_call 135; refine (numR_walk _ _ _).mono ?_; rintro e w2 ⟨rfl, ⟨nd, rfl⟩⟩; rw [HRi.out]) | ((with_reducible refine gate_builtin (b := .append) (xs := #[.tmp 15, .tmp 16]) rfl ?_); at_builtin; refine Kd.R_append_zeros (Kd.int .u8) (w0 := w) w.heap.size rfl (.tmp 15) (.tmp 16) 24 3 5 (.int .u8 0) 1 rfl Try.underlying24 Try.underlying3 u8info rfl (by decide) (by omega) v1 l 0 (k : Int) (fun _ => True) rfl rfl rfl ?aF ?aO (by omega) ?aB ?aS ?aL ?_; (case aB => exact (by repeat (first | (with_reducible first | exact HB.out | apply below_alloc | apply pw_below_drewN | apply below_drew1) | exact HB.out))); (case aF => exact (fun _ _ => trivial)); (case aO => exact (by (with_reducible repeat (first | apply Kd.R_alloc | apply Kd.R_drewN | apply Kd.R_drew)); exact HO1.out)); (case aS => exact (below_size (by repeat (first | (with_reducible first | exact HB.out | apply below_alloc | apply pw_below_drewN | apply below_drew1) | exact HB.out)))); (case aL => have := HL.out; simp; omega); intro v2 w11 ho hb hg hat; have n0_ := Aside0.mk (hb); have n1_ := Aside0.mk (ho); clear HB; clear HO1; have HB := n0_; have HO2 := n1_; clear n0_ n1_; clear ho hb hg hat; obtain ⟨g2, cap2, rfl, hg2, hg2', cells2, hcells2⟩ := Kd.R_form HO2.out (by simp; omega); have HG2 := Aside0.mk hg2; have hle2 := (Kd.R_reads' HO2.out).2.1; simp only [List.length_append, List.length_replicate] at hle2; clear hg2 hg2' hcells2) | (go_at_call 136; refine (num_lay_walk w _ g2 l.length k cap2 _ (l ++ List.replicate k 0) n HB.out HG2.out HO2.out (by simp) (by omega)).mono ?_; rintro e w3 ⟨rfl, ho, hb⟩; have HO3 := Aside0.mk ho; clear HB; have HB := Aside0.mk hb; clear ho hb))
  go_ret
  exact ⟨_, rfl, by rw [E0.out, ← setAt_end l (leB n k) k (leB_length n k)]; simpa using HO3.out, HB.out⟩
set_option maxRecDepth 100000 in
theorem numG_walk (A : Option Addr) (c : Nat) (l : List Int) (i s : Int) (w : World) (hr : Kd.C (Kd.int .u8) w A l.length l) (hc : l.length ≤ c) (hl : l.length < 140737488355320) (hb : Byts l) :
    Calls Try.prog 98 #[.slice A l.length c, .int .i64 i, .int .i64 s] w fun e w' => e = .returned (.tuple #[.int .i64 (numG l i s).1, .bool (numG l i s).2]) ∧ Drawn0 w w' := by
  have HR := Aside0.mk hr
  have HC := Aside0.mk hc
  have HL := Aside0.mk hl
  clear hr hc
  by_cases ht : numT l i s = true
  case neg =>
    have HTh := Aside0.mk (Bool.eq_false_iff.2 ht)
    have E0 : Aside0 (numG l i s = (0, false)) := ⟨by unfold numG; rw [if_neg ht]⟩
    clear ht
    go_enter Try.func98, Try.ntmps98
    go_wp2_with (go_at_call 138; refine (numT_walk _ _ l _ _ _ (by have := HL.out; omega)).mono ?_; rintro e w2 ⟨rfl, ⟨nd2, rfl⟩⟩; rw [HTh.out])
    go_ret2
    exact ⟨by rw [E0.out]; rfl, ⟨⟨_, rfl⟩⟩⟩
  have HTh := Aside0.mk ht
  obtain ⟨hw, hi0, hi1⟩ := numT_parts ht
  obtain ⟨k, rfl, hk1, hk4⟩ := numW_nat hw
  obtain ⟨j, rfl⟩ := Int.eq_ofNat_of_zero_le hi0
  have hi2 : j + k ≤ l.length := by omega
  obtain ⟨i5, hi5, hz5⟩ := Option.map_eq_some_iff.1 u8info
  obtain ⟨A', hrun, hC', _⟩ := cutMid (P := Try.prog) (Kd.int .u8) 24 5 Try.underlying24 hi5 (by simp only [Prod.mk.injEq] at hz5; exact hz5.2.1) A c l j (j + k) (by omega) hi2 HC.out
  have hlen : j + k - j = k := by omega
  rw [hlen] at hrun hC'
  have hC := hC' w HR.out
  clear hC' hlen hi5 hz5
  obtain ⟨ys, hys⟩ : ∃ ys, ys = (l.take (j + k)).drop j := ⟨_, rfl⟩
  rw [← hys] at hC
  have hbys : Byts ys := by rw [hys]; exact (hb.take _).drop _
  have hly : ys.length = k := hC.1
  have E0 : Aside0 (numG l j k = (leN ys, true)) := ⟨by unfold numG; rw [if_pos ht, hys, List.drop_take]; simp⟩
  obtain ⟨ad, rfl, _⟩ := Kd.at_int hC 0 (by omega) (by omega)
  have HCy := Aside0.mk hC
  have HY := Aside0.mk hly
  have HBy := Aside0.mk hbys
  clear hC hys hly hbys ht hw hi0 hi1 hb HR
  simp only [Int.natCast_add] at hrun
  go_enter Try.func98, Try.ntmps98
  go_wp2_with (go_at_call 138; refine (numT_walk _ _ l _ _ _ (by have := HL.out; omega)).mono ?_; rintro e w2 ⟨rfl, ⟨nd2, rfl⟩⟩; rw [HTh.out])
  clear hrun
  go_loop [8, 23] (fun v8 v23 => ∃ m : Nat, v8 = .int .i64 (leN (ys.take m)) ∧ v23 = .int .i64 m ∧ Aside0 (m ≤ k)) (fun _ i => k - (intOf i).toNat)
  case atStart => exact ⟨0, rfl, rfl, ⟨Nat.zero_le _⟩⟩
  case round =>
    obtain ⟨m, rfl, rfl, hm⟩ := hrel
    have hm' := hm.out
    by_cases hlt : m < k
    · obtain ⟨ad', he, hx⟩ := Kd.at_int HCy.out (m : Int) (by omega) (by omega)
      obtain rfl := Option.some.inj he
      have hy := HY.out
      have hxe : rd ys (m : Int) = ys[m] := by simp [rd, List.getElem?_eq_getElem (show m < ys.length by omega)]
      have hsn : leN (ys.take (m + 1)) = leN (ys.take m) + ys[m] * 2 ^ (8 * m) := by
        rw [List.take_succ_eq_append_getElem (by omega), leN_snoc, List.length_take, Nat.min_eq_left (by omega)]
      have hbd := leN_bound (ys.take m) (HBy.out.take m)
      rw [List.length_take, Nat.min_eq_left (by omega)] at hbd
      have hxb := HBy.out ys[m] (List.getElem_mem _)
      rw [hxe, Int.toNat_natCast] at hx
      obtain ⟨x, hxx⟩ : ∃ x, x = ys[m] := ⟨_, rfl⟩
      obtain ⟨n, hnn⟩ : ∃ n, n = leN (ys.take m) := ⟨_, rfl⟩
      obtain ⟨n1, hn1⟩ : ∃ n1, n1 = leN (ys.take (m + 1)) := ⟨_, rfl⟩
      rw [← hxx] at hx hsn hxb
      rw [← hnn] at hsn hbd
      rw [← hn1] at hsn
      rw [← hnn]
      have N1 := Aside0.mk hn1
      have hor := or_i64 hbd.1 hbd.2 hxb.1 hxb.2 (by omega)
      rw [← hsn] at hor
      have hx0 := hxb.1
      have hx1 := hxb.2
      have hwr : wrap64 (x * 2 ^ (8 * m)) = x * 2 ^ (8 * m) := by
        rcases (by omega : m = 0 ∨ m = 1 ∨ m = 2 ∨ m = 3) with rfl | rfl | rfl | rfl <;> (unfold wrap64; simp; omega)
      have HE : Aside0 (bits .or .i64 n (wrap64 (x * 2 ^ (8 * m))) = leN (ys.take (m + 1))) := ⟨by rw [hwr, hor, hn1]⟩
      clear hxx hnn hn1 hsn hbd hxb hxe hy he hor hwr N1
      go_wp2
      exact ⟨⟨m + 1, by rw [HE.out], rfl, ⟨by omega⟩⟩, by simp [intOf]; omega⟩
    · have hkm : m = k := by omega
      subst hkm
      have E1 : Aside0 (ys.take m = ys) := ⟨List.take_of_length_le (by have := HY.out; omega)⟩
      go_wp2
      go_ret2
      exact ⟨by rw [E0.out, E1.out]; rfl, ⟨⟨_, rfl⟩⟩⟩
end Go.Proofs.Ytdknolnoimpgeaa.K
namespace Go.Proofs.Ytdknolnoimpgeaa.K
open Go.RowKit Go.Proofs.YtdknolnoimpgeaaW.PrintWords Go.Proofs.YtdknolnoimpgeaaW.PrintLast Go.Proofs.YtdknolnoimpgeaaW.PrintMore
set_option linter.unusedVariables false
set_option linter.unusedSimpArgs false
theorem arr60 : (Try.prog.info? 155).map (·.zero) = some (some (.agg (Array.replicate 60 (.int .u8 0)))) := by kernel_rfl
theorem rep0 : ∀ (n : Nat) (w : World) (base : Nat) (ok : Nat → Prop), Reps ((Kd.int .u8).M w base ok) 1 (List.replicate n 0) (List.replicate n (.int .u8 0))
  | 0, w, base, ok => Reps.none _ _
  | n + 1, w, base, ok => Reps.one (show Kd.M (Kd.int .u8) _ _ _ 0 [.int .u8 0] from rfl) (rep0 n w base ok)
set_option maxRecDepth 100000 in
theorem seal_walk (A : Option Addr) (c : Nat) (l : List Int) (w : World) (hr : Kd.C (Kd.int .u8) w A l.length l) (hb : Byts l) :
    Calls Try.prog 90 #[.slice A l.length c] w fun e w' => ∃ v : Value, e = .returned v ∧ Kd.R (Kd.int .u8) 5 w' w.heap.size (fun _ => True) v (sealS l) ∧ Below w.heap.size w w' := by
  have HR := Aside0.mk hr
  have HB := Aside0.mk (Below.refl w.heap.size w)
  obtain ⟨s, hs⟩ : ∃ s, s = seal60 l := ⟨_, rfl⟩
  have E0 : Aside0 (l.take (min l.length (List.replicate 60 (0 : Int)).length) ++ (List.replicate 60 (0 : Int)).drop (min l.length (List.replicate 60 (0 : Int)).length) = s) := ⟨by
    rw [hs, List.length_replicate, List.drop_replicate]; unfold seal60
    congr 1
    · rw [Nat.min_comm, ← List.take_take, List.take_length]
    · congr 1; omega⟩
  have hsl : s.length = 60 := by rw [hs]; exact seal60_length l
  have hsb : Byts s := by rw [hs]; exact seal60_byts hb
  have EP : Aside0 (numP s (of02 s) 4 = sealS l) := ⟨by rw [hs]; exact numP_seal l⟩
  have SL := Aside0.mk hsl
  have SB := Aside0.mk hsb
  have hal : Try.prog.arrayLen 155 = 60 := by kernel_rfl
  have hel : Try.prog.elem 155 = 5 := by kernel_rfl
  clear hr hb hs hsl hsb
  go_enter Try.func90, Try.ntmps90
  go_wp2_with (first | ((with_reducible refine gate_dst (N := 3) rfl ?_); refine Kd.R_allocArr (Kd.int .u8) (w0 := w) w.heap.size rfl (N := 3) rfl 155 rfl arr60 (inner := List.replicate 60 (.int .u8 0)) (by kernel_rfl) (xs := List.replicate 60 0) (ok := fun _ => True) (okp := fun _ => True) (rep0 60 _ _ _) (fun _ h => h) trivial (Below.refl _ _) (Nat.le_refl _) (by simp) ?_; intro g1 w1 hg1 ho hb hg_; clear HB hg_; have HB := Aside0.mk hb; have HO1 := Aside0.mk ho; have HG1 := Aside0.mk hg1; clear ho hb hg1; simp only [List.length_replicate] at HO1) | ((with_reducible refine gate_builtin (b := .copy) (xs := #[.tmp 4, .tmp 5]) rfl ?_); refine Kd.R_copyArr (0 : Int) (w0 := w) w.heap.size rfl (.tmp 4) (.tmp 5) 24 24 5 155 rfl Try.underlying24 (by kernel_rfl) _ _ l _ _ _ _ rfl rfl HO1.out (Kd.C_below HR.out HB.out) HB.out HB.out.size ?_; intro w2 ho hb hg_; clear HB hg_; have HB := Aside0.mk hb; rw [E0.out] at ho; have HO2 := Aside0.mk ho; clear ho hb))
  have HR2 : Aside0 (Kd.C (Kd.int .u8) w2 (some ⟨g1, 0, none⟩) s.length s) := ⟨(Kd.R_reads' HO2.out).2.2⟩
  have W1 := Aside0.mk (fun W h => of_walk (some ⟨g1, 0, none⟩) 60 s W h SB.out (by have := SL.out; omega) : ∀ W, Kd.C (Kd.int .u8) W (some ⟨g1, 0, none⟩) s.length s → _)
  have W2 := Aside0.mk (fun W h => numP_walk (some ⟨g1, 0, none⟩) 60 s (of02 s) 4 W h (by have := SL.out; omega) (by have := SL.out; omega) : ∀ W, Kd.C (Kd.int .u8) W (some ⟨g1, 0, none⟩) s.length s → _)
  rw [SL.out] at HR2 W1 W2
  rw [EP.out] at W2
  clear HO2 HO1 HR E0
  refine wp_region_still_tail 3 (by kernel_rfl) (by kernel_rfl) ?_
  simp only [List.take_succ_cons, List.take_zero, List.drop_succ_cons, List.drop_zero]
  repeat still_step
  still_call (W1.out _ HR2.out)
  repeat still_step
  refine wpStill_nil ?_
  change wpList _ _ _ _ _ w2.drew
  clear W1
  go_wp2_with (go_at_call 96; (with_reducible refine (W2.out _ (by first | exact HR2.out | exact Kd.C_drew HR2.out | exact Kd.C_drewN HR2.out _)).mono ?_); rintro e w3 ⟨v3, rfl, ho, hb⟩; have HO3 := Aside0.mk (Kd.R_lower ho (show w.heap.size ≤ w2.heap.size from HB.out.size)); have n1_ : Aside0 (Below w.heap.size w w3) := ⟨below_step (by exact HB.out.drew) hb⟩; clear HB; have HB := n1_; clear n1_ ho hb)
  go_ret
  exact ⟨_, rfl, HO3.out, HB.out⟩
end Go.Proofs.Ytdknolnoimpgeaa.K
namespace Go.Proofs.Ytdknolnoimpgeaa.K
/-- A string's bytes as numbers. -/
def sB (s : ByteArray) : List Int := s.data.toList.map fun x => (x.toNat : Int)
theorem sB_length (s : ByteArray) : (sB s).length = s.size := by unfold sB; rw [List.length_map]; exact Array.length_toList
def pad24 (s : ByteArray) : List Int := sB s ++ (List.replicate 24 (0 : Int)).drop s.size
theorem pad24_length {s : ByteArray} (h : s.size ≤ 24) : (pad24 s).length = 24 := by
  unfold pad24; rw [List.length_append, sB_length, List.length_drop, List.length_replicate]; omega
theorem arr24 : (Try.prog.info? 112).map (·.zero) = some (some (.agg (Array.replicate 24 (.int .u8 0)))) := by kernel_rfl
theorem arr24_len : Try.prog.arrayLen 112 = 24 := by kernel_rfl
theorem arr24_elem : Try.prog.elem 112 = 5 := by kernel_rfl
end Go.Proofs.Ytdknolnoimpgeaa.K
namespace Go.Proofs.YtdknolnoimpgeaaW.PrintWords
open Go.RowKit Go.Proofs.Ytdknolnoimpgeaa.K
namespace Kd
section
variable {P : Program} {ops : Array Oper} {o : Oper} {a : Act} {Q : Exit → Act → World → Prop} {Kc : Act → World → Prop} {E : Prop}
theorem R_copyStr_step {w0 W : World} (base : Nat) (hgd : o.guard = none) (s x : Operand) (t t' e b : TypeId)
    (ho : o.op = .call { callee := .builtin .copy, args := #[s, x], argTypes := #[t, t'] }) (ht : P.underlying t = some (.slice e)) (hinfo : (P.info? e).map (·.size) = some 1)
    (g cap : Nat) (xs : List Int) (y : ByteArray) (ok : Nat → Prop) (hs : a.eval s = .slice (some ⟨g, 0, none⟩) xs.length cap) (hx : a.eval x = .string y) (hle : y.size ≤ xs.length)
    (HO : (Kd.int .u8).R b W base ok (.slice (some ⟨g, 0, none⟩) xs.length cap) xs) (HB : Below base w0 W) (hbase : base ≤ W.heap.size)
    (h : ∀ w1, (Kd.int .u8).R b w1 base ok (.slice (some ⟨g, 0, none⟩) xs.length cap) (sB y ++ xs.drop y.size) → Below base w0 w1 → W.grownBy w1 (some g) → Kc (a.put o.dst (goInt y.size)) w1) :
    if Region.wanted o (yielded ops a.tmps) = true then Oper.wp P o a W Kc Q else E := by
  obtain ⟨i0, hi, hz⟩ := Option.map_eq_some_iff.1 hinfo
  have hown := own_of_R HO
  have hg0 := own_base hown g (by simp [Value.ownBlock])
  rcases hown.2 with ⟨e0, _⟩ | ⟨g1, cap1, cur, hv, hb, hh, hnc, hcm, hcs, htake⟩
  · cases e0
  obtain ⟨rfl, rfl⟩ : g1 = g ∧ cap1 = cap := by injection hv with h1 h2 h3; injection h1 with h1; injection h1 with h1; exact ⟨h1.symm, h3.symm⟩
  have hcs1 : cur.size = cap1 := by omega
  refine Go.step_copy_string (P := P) hgd s x t t' ho e ht (fun w => by simp [Go.sizeOf, typeInfo, hi, hz]) g1 0 xs.length cap1 hs y hx hle
    (fun j hj => by rw [cell_of_row W g1 _ cur b (0, 0) hh]; simp; omega) (fun j _ => blk_frozen hh _) ?_
  have hnl : (y.data.toList.map fun x => Value.int .u8 (x.toNat : Int)).length = y.size := by rw [List.length_map]; exact Array.length_toList
  obtain ⟨cur', h3, h4, h5⟩ := setCells_row (y.data.toList.map fun x => Value.int .u8 (x.toNat : Int)) 0 W cur hh (by rw [hnl]; omega)
  obtain ⟨s1, s2, s3, s4⟩ := setCells_same g1 (y.data.toList.map fun x => Value.int .u8 (x.toNat : Int)) 0 W
  have hgr : W.grownBy (W.setCells g1 0 (y.data.toList.map fun x => Value.int .u8 (x.toNat : Int))) (some g1) := ⟨s1, s2, s3, by rw [s4]; exact Nat.le_refl _, fun k _ hk => setCells_far _ _ k (fun he => hk (by rw [he]))⟩
  have hln : (sB y ++ xs.drop y.size).length = xs.length := by rw [List.length_append, sB_length, List.length_drop]; omega
  refine h _ ?_ (HB.grown hgr hbase (fun k hk => by injection hk with hk; subst hk; exact hg0)) hgr
  have key : (Kd.int .u8).R b (W.setCells g1 0 (y.data.toList.map fun x => Value.int .u8 (x.toNat : Int))) base ok (.slice (some ⟨g1, 0, none⟩) (sB y ++ xs.drop y.size).length cap1) (sB y ++ xs.drop y.size) := by
    refine R_of_own ?_ (fun k hk => HO.1 k (by simpa [Value.ownBlock] using hk))
    refine ⟨by rw [encs_length, Nat.mul_one], .inr ⟨g1, cap1, cur', rfl, hb, h3, by rw [hln]; exact hnc, hcm, by rw [h4, hcs], ?_⟩⟩
    rw [h5, List.take_zero, List.nil_append, hnl, Nat.zero_add, encs_append, hln, Nat.mul_one]
    have e1 : (y.data.toList.map fun x => Value.int .u8 (x.toNat : Int)) = encs (Value.int .u8) (sB y) := by simp [encs, sB]
    rw [e1]
    have htk : cur.toList.take xs.length = encs (Value.int .u8) xs := by rw [← htake, Nat.mul_one]
    have hd : encs (Value.int .u8) (xs.drop y.size) = (encs (Value.int .u8) xs).drop y.size := by simp [encs, List.map_drop]
    rw [List.take_append, encs_length, sB_length, List.take_of_length_le (by rw [encs_length, sB_length]; omega), hd, ← htk, List.drop_take]
  rw [hln] at key
  exact key
end
end Kd
end Go.Proofs.YtdknolnoimpgeaaW.PrintWords
namespace Go.Proofs.YtdknolnoimpgeaaW.PrintWords
open Go.RowKit Go.Proofs.Ytdknolnoimpgeaa.K
theorem upon_copyStr {P : Program} {o : Oper} {a : Act} {W : World} {next : Act → World → Prop} {Q : Exit → Act → World → Prop} (t t' ty e : TypeId) (ht : P.underlying t = some (.slice e)) (hinfo : (P.info? e).map (·.size) = some 1)
    (g off n c : Nat) (y : ByteArray) (hle : y.size ≤ n) {cs : Array Value} {te : TypeId} (BK : W.heap[g]? = some (.cells cs te (0, 0))) (hlt : off + n ≤ cs.size)
    (h : ∀ w1 cs', w1.heap[g]? = some (.cells cs' te (0, 0)) → cs'.size = cs.size → cs'.toList = cs.toList.take off ++ (sB y).map (fun v => Value.int .u8 v) ++ cs.toList.drop (off + y.size) → W.grownBy w1 (some g) → next (a.put o.dst (goInt y.size)) w1) :
    Oper.upon P o a next Q (((Builtin.copy_ #[t, t'] ty #[.slice (some ⟨g, off, none⟩) n c, .string y]).run P W).andThen fun a w' => Result.ok (Next.value a) w') := by
  obtain ⟨i0, hi, hz⟩ := Option.map_eq_some_iff.1 hinfo
  have hl : (y.data.toList.map fun x => Value.int .u8 (x.toNat : Int)).length = y.size := by rw [List.length_map]; exact Array.length_toList
  have he : (sB y).map (fun v => Value.int .u8 v) = y.data.toList.map fun x => Value.int .u8 (x.toNat : Int) := by simp [sB]
  obtain ⟨cs', h2, h3, h4⟩ := setCells_row (y.data.toList.map fun x => Value.int .u8 (x.toNat : Int)) off W cs BK (by rw [hl]; omega)
  have hT := there_of_blk (o := off) (n := y.size) BK (by omega)
  have hrun := Go.run_copy_string (P := P) W t t' ty e g off n c y ht (fun w => by simp [Go.sizeOf, typeInfo, hi, hz]) hle (fun j hj => (hT j hj).1) (fun j hj => (hT j hj).2)
  rw [hrun]
  refine h _ cs' h2 h3 ?_ (grown_setCells _ _ _ _)
  rw [h4, he, hl]
namespace Kd
theorem C_blkInt {k : IntKind} {W : World} {g : Nat} {cs : Array Value} {t : TypeId} {xs : List Int} (BK : W.heap[g]? = some (.cells cs t (0, 0))) (h : cs.toList.take xs.length = xs.map (fun v => Value.int k v)) (hm : xs.length ≤ 9223372036854775807) : (Kd.int k).C W (some ⟨g, 0, none⟩) xs.length xs := by
  refine ⟨rfl, hm, fun _ => ⟨⟨g, 0, none⟩, rfl, fun j p hp => ⟨[.int k p], rfl, rfl, fun i u hu => ?_⟩⟩⟩
  obtain ⟨hj, rfl⟩ := List.getElem?_eq_some_iff.1 hp
  have hi : i = 0 := by have := (List.getElem?_eq_some_iff.1 hu).1; simp at this; exact this
  subst hi
  show W.cell? ((⟨g, 0, none⟩ : Addr).add (j * 1 + 0)) = some u
  rw [add_plain, blk_cell BK, ← hu, Nat.mul_one, Nat.add_zero]
  have h2 : (cs.toList.take xs.length)[j]? = (xs.map (fun v => Value.int k v))[j]? := by rw [h]
  rw [List.getElem?_take_of_lt hj, Array.getElem?_toList] at h2
  rw [h2, List.getElem?_map, List.getElem?_eq_getElem hj]
  rfl
end Kd
end Go.Proofs.YtdknolnoimpgeaaW.PrintWords
namespace Go.Proofs.Ytdknolnoimpgeaa.K
open Go.RowKit Go.Shelf Go.Lib Go.Proofs.YtdknolnoimpgeaaW.PrintWords Go.Proofs.YtdknolnoimpgeaaW.PrintLast Go.Proofs.YtdknolnoimpgeaaW.PrintMore
set_option linter.unusedVariables false
set_option linter.unusedSimpArgs false
def packN (s : ByteArray) : List Int := (s.size : Int) :: (sB s ++ List.replicate (13 - s.size) 0)
theorem packN_length {s : ByteArray} (h : s.size ≤ 13) : (packN s).length = 14 := by
  unfold packN; rw [List.length_cons, List.length_append, sB_length, List.length_replicate]; omega
theorem rightN_size {s : ByteArray} (h : rightN s = true) : 1 ≤ s.size ∧ s.size ≤ 12 := by
  simp only [rightN, Bool.and_eq_true, decide_eq_true_eq] at h
  exact ⟨h.1.1.1.1, h.1.1.1.2⟩
set_option maxRecDepth 100000 in
theorem pack_walk (s : ByteArray) (w : World) (hs : rightN s = true) :
    Calls Try.prog 110 #[.string s] w fun e w' => ∃ A c, e = .returned (.slice A 14 c) ∧ Kd.C (Kd.int .u8) w' A 14 (packN s) ∧ Below w.heap.size w w' := by
  have hsz := (rightN_size hs).2
  have HB := Aside0.mk (Below.refl w.heap.size w)
  have WR := Aside0.mk (fun W => right_walk s W)
  rw [hs] at WR
  clear hs
  go_enter Try.func110, Try.ntmps110
  go_wp2_with (go_at_call 114; (with_reducible refine (WR.out _).mono ?_); rintro e w1 ⟨rfl, hb⟩; have n1_ : Aside0 (Below w.heap.size w w1) := ⟨below_step (by repeat (first | (with_reducible first | exact HB.out | apply below_alloc | apply pw_below_drewN | apply below_drew1) | exact HB.out)) hb⟩; clear HB; have HB := n1_; clear n1_; clear hb)
  refine upon_copyStr _ _ _ 5 Try.underlying24 (by kernel_rfl) _ _ _ _ s (by omega) (heap_alloc_new _ _) (by simp) ?_
  intro w2 cs2 bk2 hs2 hl2 hg2
  have BK2 := Aside0.mk bk2
  have L2 := Aside0.mk hl2
  have HB2 := Aside0.mk (pw_below_grown (below_alloc HB.out _) (some w1.heap.size) (below_alloc HB.out _).size hg2 (fun q hq => by cases hq; exact HB.out.size))
  clear bk2 hl2 hs2 hg2 HB
  go_wp2
  go_ret
  have hlen := packN_length (s := s) (by omega)
  refine ⟨_, ⟨_, rfl⟩, ?_, HB2.out⟩
  have := Kd.C_blkInt (k := .u8) (xs := packN s) BK2.out (by
    rw [hlen, L2.out]
    show List.take 14 ([Value.int .u8 (s.size : Int)] ++ (sB s).map (fun v => Value.int .u8 v) ++ List.drop (1 + s.size) (Value.int .u8 (s.size : Int) :: List.replicate 13 (Value.int .u8 0))) = _
    rw [Nat.add_comm 1, List.drop_succ_cons, List.drop_replicate, List.take_of_length_le (by simp [sB_length]; omega)]
    simp [packN]) (by omega)
  rw [hlen] at this
  exact this
end Go.Proofs.Ytdknolnoimpgeaa.K
