/- Walks and plain laws of this claim, merged: K08e, KS08b, KS08c, R08, R08b, L08, L08c. -/
import Derived.Test.YtdknolnoimpgeaaFC
import Derived.Test.YtdknolnoimpgeaaFB
namespace Go.Proofs.Ytdknolnoimpgeaa.K
open Go.RowKit Go.Shelf Go.Lib Go.Proofs.YtdknolnoimpgeaaW.PrintWords Go.Proofs.YtdknolnoimpgeaaW.PrintLast Go.Proofs.YtdknolnoimpgeaaW.PrintMore
set_option linter.unusedVariables false
set_option linter.unusedSimpArgs false
/-- A block without a slot. -/
def clearE (l : List Int) (slot : Int) : List Int := setAt l (16 * (slot % 4).toNat) (List.replicate 16 0)
theorem clearE_length {l : List Int} {slot : Int} (h : l.length = 64) : (clearE l slot).length = 64 := by
  unfold clearE
  rw [setAt_length (by simp; omega), h]
theorem clearE_byts {l : List Int} {slot : Int} (h : Byts l) : Byts (clearE l slot) := h.setAt (Byts.zeros 16) _
theorem u8zero1 : (Try.prog.info? 5).map (fun i => i.zero) = some (some (.int .u8 0)) := by kernel_rfl
theorem clear_cut (g c' q : Nat) (hc : 64 ≤ c') (hq : q < 4) : ∀ W : World, (Instr.slice 24 (.slice (some ⟨g, 0, none⟩) 64 c') (some (.int .i64 (16 * (q : Int)))) (some (.int .i64 (16 * (q : Int) + 16))) none).run Try.prog W = .ok (.slice (some ⟨g, 16 * q, none⟩) 16 (c' - 16 * q)) W := fun W => by
  obtain ⟨i0, hi0, hz0⟩ := Option.map_eq_some_iff.1 u8info
  have := cut_mid (P := Try.prog) 24 5 .i64 .i64 Try.underlying24 hi0 1 (by simpa using congrArg (fun x => x.2.1) hz0) (some ⟨g, 0, none⟩) 64 c' (16 * (q : Int)) (16 * (q : Int) + 16) (by omega) (by omega) (by omega) (by omega) W
  rw [this]
  have e : (16 * (q : Int)).toNat = 16 * q := by omega
  have e2 : (16 * (q : Int) + 16).toNat = 16 * q + 16 := by omega
  rw [e, e2, if_neg (by omega)]
  simp [Addr.add]
  omega
set_option maxHeartbeats 4000000 in
set_option maxRecDepth 100000 in
theorem clear_walk (A : Option Addr) (c : Nat) (l : List Int) (slot : Int) (w : World) (hr : Kd.C (Kd.int .u8) w A l.length l) (hc : l.length ≤ c) (hl : l.length = 64) (s0 : 0 ≤ slot) (s1 : slot < 16) :
    Calls Try.prog 63 #[.slice A 64 c, .int .i64 slot] w fun e w' => ∃ g c', e = .returned (.slice (some ⟨g, 0, none⟩) 64 c') ∧ w.heap.size ≤ g ∧ 64 ≤ c' ∧ Kd.C (Kd.int .u8) w' (some ⟨g, 0, none⟩) 64 (clearE l slot) ∧ Below w.heap.size w w' := by
  have HR := Aside0.mk hr
  have HB := Aside0.mk (Below.refl w.heap.size w)
  have WC : Aside0 (∀ W, Kd.C (Kd.int .u8) W A l.length l → Calls Try.prog 120 #[.slice A 64 c] W fun e w' => ∃ v : Value, e = .returned v ∧ Kd.R (Kd.int .u8) 5 w' W.heap.size (fun _ => True) v l ∧ Below W.heap.size W w') := ⟨fun W h => by
    have := numC_walk A c l W h hc (by omega)
    rw [hl] at this
    exact this⟩
  obtain ⟨q, hq, hq4⟩ : ∃ q : Nat, slot % 4 = q ∧ q < 4 := ⟨(slot % 4).toNat, by omega, by omega⟩
  have E0 : Aside0 (clearE l slot = setAt l (16 * q) (List.replicate 16 0)) := ⟨by unfold clearE; rw [hq]; rfl⟩
  have hq' : Int.tmod slot 4 = q := by rw [Int.tmod_eq_emod_of_nonneg s0]; exact hq
  have hw : RowKit.wrap64 (16 * (q : Int)) = 16 * (q : Int) := by unfold RowKit.wrap64; omega
  have hw2 : RowKit.wrap64 (16 * (q : Int) + 16) = 16 * (q : Int) + 16 := by unfold RowKit.wrap64; omega
  have HL := Aside0.mk hl
  clear hr hl hq
  go_enter Try.func63, Try.ntmps63
  go_wp2_with (go_at_call 120; go_loud ((with_reducible refine (WC.out _ HR.out).mono ?_); rintro e w1 ⟨v1, rfl, ho, hb⟩; have hcl := blockE_length; obtain ⟨g, c', cs, rfl, hg, hcc, hcm, bk, hcs, htk⟩ := Kd.R_blkS ho (by have := HL.out; omega); have HG := Aside0.mk hg; have HCC := Aside0.mk hcc; have BK := Aside0.mk bk; have HCS := Aside0.mk hcs; have HTK := Aside0.mk htk; have HB1 := Aside0.mk hb; rw [HL.out]; have hc64 : 64 ≤ c' := (by have h1_ := hcc; have h2_ := HL.out; omega); have hcut := clear_cut g c' q hc64 hq4; clear ho hb hg hcc hcm bk hcs htk hcl))
  obtain ⟨w2, cs2, hrun, bk_, hsz_, htl_, hg_⟩ := Kd.run_clearBlk (P := Try.prog) (w := w1) 0 24 5 Try.underlying24 u8zero1 rfl rfl g (16 * q) 16 (c' - 16 * q) BK.out (by have := HCS.out; omega)
  have BK2 := Aside0.mk bk_
  have HT2 := Aside0.mk htl_
  have HB2 := Aside0.mk (pw_below_grown HB1.out (some g) HB1.out.size hg_ (fun k e => by cases e; exact HG.out))
  clear bk_ htl_ hg_
  simp only [hrun, Result.andThen_ok]
  go_wp2
  go_ret
  refine ⟨g, c', rfl, HG.out, hc64, ?_, HB2.out⟩
  have h64 := clearE_length (slot := slot) HL.out
  have := Kd.C_blkInt (k := .u8) (xs := clearE l slot) BK2.out (by
    rw [h64, HT2.out]
    have h1 := HTK.out
    rw [HL.out] at h1
    have := lay_take (vs := List.replicate 16 (Value.int .u8 0)) (o := 16 * q) h1 (by simp; omega) (by rw [Array.length_toList]; have := HCS.out; omega)
    rw [List.length_replicate] at this
    rw [this, E0.out]
    unfold setAt
    simp) (by omega)
  rw [h64] at this
  exact this
end Go.Proofs.Ytdknolnoimpgeaa.K
namespace Go.Proofs.Ytdknolnoimpgeaa.K
open Go.Lib
set_option linter.unusedVariables false
set_option linter.unusedSimpArgs false
theorem unpackN_ok {l : List Int} (h : (unpackN l).2 = true) : rightN (unpackN l).1 = true ∧ packN (unpackN l).1 = l := by
  unfold unpackN at h ⊢
  dsimp only at h ⊢
  split at h
  · rename_i hc
    rw [if_pos hc]
    exact ⟨hc.2.2.1, hc.2.2.2⟩
  · cases h
theorem unpackN_no {l : List Int} (h : (unpackN l).2 = false) : (unpackN l).1 = ByteArray.empty := by
  unfold unpackN at h ⊢
  dsimp only at h ⊢
  split at h
  · cases h
  · rename_i hc
    rw [if_neg hc]
theorem rightN_empty : rightN ByteArray.empty = false := by rfl
theorem rightE_empty (sl ino : Int) : rightE sl ino ByteArray.empty = false := by simp [rightE, rightN_empty]
theorem leB_leN : ∀ xs : List Int, Byts xs → leB (leN xs) xs.length = xs
  | [], _ => rfl
  | x :: xs, h => by
    have hx := h x (by simp)
    have ih := leB_leN xs (fun y hy => h y (by simp [hy]))
    rw [List.length_cons, leB_cons]
    have e : leN (x :: xs) = x + 256 * leN xs := rfl
    rw [e, show (x + 256 * leN xs) % 256 = x by omega, show (x + 256 * leN xs) / 256 = leN xs by omega, ih]
theorem leB_gN {l : List Int} (hb : Byts l) (hl : 2 ≤ l.length) : leB (gN l 0 2) 2 = l.take 2 := by
  have h2 : (l.take 2).length = 2 := by rw [List.length_take]; omega
  have e : gN l 0 2 = leN (l.take 2) := by
    have := gN_two (a := l.take 2) (ys := l.drop 2) (s := 2) h2 rfl
    rw [List.take_append_drop] at this
    exact this
  have := leB_leN (l.take 2) (hb.take 2)
  rw [h2] at this
  rw [e, this]
/-- The document's test is the code's. -/
theorem getE_ref {l : List Int} (hb : Byts l) (hl : l.length = 16) (hne : ¬ l = List.replicate 16 0) (slot : Int) :
    getE l slot = if (unpackN (l.drop 2)).2 = true ∧ rightE slot (gN l 0 2) (unpackN (l.drop 2)).1 = true then (⟨slot, gN l 0 2, (unpackN (l.drop 2)).1⟩, true, true) else (Ent.zero, false, false) := by
  unfold getE
  rw [if_neg (by omega), if_neg hne]
  dsimp only
  cases hu : (unpackN (l.drop 2)).2 with
  | false =>
    rw [unpackN_no hu, rightE_empty]
    simp
  | true =>
    obtain ⟨h1, h2⟩ := unpackN_ok hu
    have he : bytesE (gN l 0 2) (unpackN (l.drop 2)).1 = l := by
      unfold bytesE
      rw [h2, leB_gN hb (by omega), List.take_append_drop]
    simp [he]
end Go.Proofs.Ytdknolnoimpgeaa.K
namespace Go.Proofs.Ytdknolnoimpgeaa.K
open Go.Lib
set_option linter.unusedVariables false
set_option linter.unusedSimpArgs false
def oB : Option Ent → List Int
  | some x => bytesE x.ino x.nm
  | none => List.replicate 16 0
/-- An entry that may lie in the slot. -/
def okO (s : Int) (o : Option Ent) : Prop := ∀ x, o = some x → rightE x.sl x.ino x.nm = true ∧ x.sl = s
def cat4 (f : Nat → Option Ent) : List Int := oB (f 0) ++ (oB (f 1) ++ (oB (f 2) ++ oB (f 3)))
theorem oB_length {s : Int} {o : Option Ent} (h : okO s o) : (oB o).length = 16 := by
  cases o with
  | none => simp [oB]
  | some x => exact bytesE_length (rightE_parts (h x rfl).1).2.2.2.2
theorem oB_byts {s : Int} {o : Option Ent} (h : okO s o) : Byts (oB o) := by
  cases o with
  | none => exact Byts.zeros 16
  | some x => exact bytesE_byts (rightE_parts (h x rfl).1).2.2.2.2
theorem find_ok (l : List Ent) (s : Int) : okO s (l.find? (slotP s)) := fun x hx => slotP_right (List.find?_some hx)
theorem pick_oB (l : List Ent) (s : Int) : pickE l s = oB (l.find? (slotP s)) := by
  unfold pickE
  cases l.find? (slotP s) <;> rfl
theorem blockE_cat (l : List Ent) {k : Int} (k0 : 0 ≤ k) (k1 : k < 4) : blockE l k = cat4 (fun j => l.find? (slotP (4 * k + (j : Int)))) := by
  unfold blockE
  rw [if_pos ⟨k0, k1⟩, blockN_succ, blockN_succ, blockN_succ, blockN_succ]
  simp only [pick_oB]
  unfold cat4
  rw [show blockN l k 0 = [] from rfl]
  simp
section
variable {f : Nat → Option Ent} {k : Int}
theorem cat4_length (hf : ∀ j : Nat, okO (4 * k + (j : Int)) (f j)) : (cat4 f).length = 64 := by
  unfold cat4
  simp only [List.length_append, oB_length (hf 0), oB_length (hf 1), oB_length (hf 2), oB_length (hf 3)]
theorem cat4_byts (hf : ∀ j : Nat, okO (4 * k + (j : Int)) (f j)) : Byts (cat4 f) := (oB_byts (hf 0)).append ((oB_byts (hf 1)).append ((oB_byts (hf 2)).append (oB_byts (hf 3))))
theorem chunk_cat (hf : ∀ j : Nat, okO (4 * k + (j : Int)) (f j)) {j : Nat} (hj : j < 4) : chunkE (cat4 f) j = oB (f j) := by
  have h0 := oB_length (hf 0)
  have h1 := oB_length (hf 1)
  have h2 := oB_length (hf 2)
  have h3 := oB_length (hf 3)
  unfold chunkE cat4
  rcases (by omega : j = 0 ∨ j = 1 ∨ j = 2 ∨ j = 3) with rfl | rfl | rfl | rfl
  · rw [List.drop_zero, List.take_left' h0]
  · rw [List.drop_left' h0, List.take_left' h1]
  · rw [← List.append_assoc, List.drop_left' (by simp; omega), List.take_left' h2]
  · rw [← List.append_assoc, ← List.append_assoc, List.drop_left' (by simp; omega), List.take_of_length_le (by omega)]
end
theorem str_sB8 (r : ByteArray) : strOfNums (sB r) = r := by
  unfold strOfNums sB
  rw [List.map_map]
  have : ((fun n : Int => UInt8.ofNat n.toNat) ∘ fun b : UInt8 => (b.toNat : Int)) = id := by
    funext b; simp
  rw [this, List.map_id]
theorem unpack_pack {s : ByteArray} (h : rightN s = true) : unpackN (packN s) = (s, true) := by
  have hsz := rightN_size h
  have hl := packN_length (s := s) (by omega)
  have e : strOfNums (((packN s).drop 1).take ((packN s).headD 0).toNat) = s := by
    unfold packN
    rw [List.drop_succ_cons, List.drop_zero, List.headD_cons, Int.toNat_natCast, List.take_left' (sB_length s), str_sB8]
  unfold unpackN
  dsimp only
  rw [e, if_pos ⟨hl, by unfold packN; simp; omega, h, rfl⟩]
theorem getE_bytes {sl ino : Int} {nm : ByteArray} (h : rightE sl ino nm = true) {s : Int} (h0 : 0 ≤ s) (h1 : s < 16) : getE (bytesE ino nm) s = (⟨s, ino, nm⟩, true, true) := by
  obtain ⟨p1, p2, p3, p4, p5⟩ := rightE_parts h
  have hl := bytesE_length (ino := ino) p5
  have g : gN (bytesE ino nm) 0 2 = ino := by
    unfold bytesE
    rw [show (2 : Int) = ((2 : Nat) : Int) from rfl, gN_two (leB_length ino 2) rfl, leN_le (by omega) (by omega)]
  have d : (bytesE ino nm).drop 2 = packN nm := by
    unfold bytesE
    rw [List.drop_left' (leB_length ino 2)]
  have ne : ¬ bytesE ino nm = List.replicate 16 0 := fun e => by
    rw [e] at g
    have : gN (List.replicate 16 0) 0 2 = 0 := by decide
    omega
  have hr : rightE s ino nm = true := by simp [rightE, h0, h1, p3, p4, p5]
  unfold getE
  rw [if_neg (by omega), if_neg ne]
  dsimp only
  rw [g, d, unpack_pack p5]
  dsimp only
  rw [if_pos ⟨hr, rfl⟩]
theorem getE_zeros (s : Int) : getE (List.replicate 16 0) s = (Ent.zero, false, true) := by
  unfold getE
  rw [if_neg (by simp), if_pos rfl]
theorem getE_oB {s s' : Int} {o : Option Ent} (h : okO s o) (h0 : 0 ≤ s') (h1 : s' < 16) : (getE (oB o) s').2.2 = true := by
  cases o with
  | none => rw [oB, getE_zeros]
  | some x => rw [oB, getE_bytes (h x rfl).1 h0 h1]
theorem cat4_ok {f : Nat → Option Ent} {k : Int} (hf : ∀ j : Nat, okO (4 * k + (j : Int)) (f j)) : ∀ x : Nat, x < 4 → ∀ s : Int, 0 ≤ s → s < 16 → (getE (chunkE (cat4 f) x) s).2.2 = true := fun x hx s h0 h1 => by
  rw [chunk_cat hf hx]
  exact getE_oB (hf x) h0 h1
theorem ent_one {o : Option Ent} {s : Int} (h : okO s o) (h0 : 0 ≤ s) (h1 : s < 16) : (if (getE (oB o) s).2.1 = true then [(getE (oB o) s).1] else []) = o.toList := by
  cases o with
  | none => rw [oB, getE_zeros]; rfl
  | some x =>
    obtain ⟨hr, hs⟩ := h x rfl
    rw [oB, getE_bytes hr h0 h1, if_pos rfl]
    obtain ⟨a, b, c⟩ := x
    simp only at hs
    subst hs
    rfl
/-- The entries of the block. -/
def list4 (f : Nat → Option Ent) : List Ent := (f 0).toList ++ ((f 1).toList ++ ((f 2).toList ++ (f 3).toList))
theorem parse_cat {f : Nat → Option Ent} {k : Int} (k0 : 0 ≤ k) (k1 : k < 4) (hf : ∀ j : Nat, okO (4 * k + (j : Int)) (f j)) : parseE (cat4 f) k = list4 f := by
  unfold parseE entsE
  rw [show (List.finRange 4).zipIdx = [(0, 0), (1, 1), (2, 2), (3, 3)] by decide]
  simp only [List.flatMap_cons, List.flatMap_nil, List.append_nil]
  unfold list4
  have c (j : Nat) (hj : j < 4) := chunk_cat hf hj
  have e0 : ((0 : Fin 4).val) = 0 := rfl
  have e1 : ((1 : Fin 4).val) = 1 := rfl
  have e2 : ((2 : Fin 4).val) = 2 := rfl
  have e3 : ((3 : Fin 4).val) = 3 := rfl
  rw [e0, e1, e2, e3, c 0 (by decide), c 1 (by decide), c 2 (by decide), c 3 (by decide)]
  rw [ent_one (hf 0) (by omega) (by omega), ent_one (hf 1) (by omega) (by omega), ent_one (hf 2) (by omega) (by omega), ent_one (hf 3) (by omega) (by omega)]
theorem slot_ite {α : Type} (k : Int) (i j : Nat) (a b : α) : (if 4 * k + (i : Int) = 4 * k + (j : Int) then a else b) = if i = j then a else b := by
  by_cases h : i = j
  · subst h; simp
  · rw [if_neg (by omega), if_neg h]
/-- Without the slot q. -/
def without (f : Nat → Option Ent) (q : Nat) : Nat → Option Ent := fun j => if j = q then none else f j
theorem without_ok {f : Nat → Option Ent} {k : Int} (hf : ∀ j : Nat, okO (4 * k + (j : Int)) (f j)) (q : Nat) : ∀ j : Nat, okO (4 * k + (j : Int)) (without f q j) := fun j x hx => by
  unfold without at hx
  split at hx
  · cases hx
  · exact hf j x hx
theorem clear_cat {f : Nat → Option Ent} {k : Int} (hf : ∀ j : Nat, okO (4 * k + (j : Int)) (f j)) {s : Int} {q : Nat} (hq : s % 4 = q) (hq4 : q < 4) : clearE (cat4 f) s = cat4 (without f q) := by
  have h0 := oB_length (hf 0)
  have h1 := oB_length (hf 1)
  have h2 := oB_length (hf 2)
  have h3 := oB_length (hf 3)
  unfold clearE setAt
  rw [hq, Int.toNat_natCast, List.length_replicate]
  have z : oB none = List.replicate 16 0 := rfl
  unfold cat4
  rcases (by omega : q = 0 ∨ q = 1 ∨ q = 2 ∨ q = 3) with rfl | rfl | rfl | rfl
  · simp only [without, if_true, z, Nat.mul_zero, List.take_zero, List.nil_append, Nat.zero_add]
    rw [List.drop_left' h0]; rfl
  · rw [List.take_left' (by simp; omega : (oB (f 0)).length = 16 * 1), ← List.append_assoc (oB (f 0)), List.drop_left' (by simp; omega)]
    simp [without, z]
  · rw [← List.append_assoc (oB (f 0)), List.take_left' (by simp; omega), ← List.append_assoc (oB (f 0) ++ oB (f 1)), List.drop_left' (by simp; omega)]
    simp [without, z]
  · rw [← List.append_assoc (oB (f 0)), ← List.append_assoc (oB (f 0) ++ oB (f 1)), List.take_left' (by simp; omega), List.drop_eq_nil_of_le (by simp; omega)]
    simp [without, z]
theorem toList_filter {o : Option Ent} {s t : Int} (h : okO s o) : o.toList.filter (fun e => !(e.sl == t)) = if s = t then [] else o.toList := by
  cases o with
  | none => simp
  | some x =>
    obtain ⟨_, hs⟩ := h x rfl
    by_cases hst : s = t
    · simp [hs, hst]
    · simp [hs, hst]
theorem list4_without {f : Nat → Option Ent} {k : Int} (hf : ∀ j : Nat, okO (4 * k + (j : Int)) (f j)) {q : Nat} (hq : q < 4) : list4 (without f q) = (list4 f).filter (fun e => !(e.sl == 4 * k + (q : Int))) := by
  unfold list4
  rw [List.filter_append, List.filter_append, List.filter_append, toList_filter (hf 0), toList_filter (hf 1), toList_filter (hf 2), toList_filter (hf 3)]
  simp only [slot_ite]
  rcases (by omega : q = 0 ∨ q = 1 ∨ q = 2 ∨ q = 3) with rfl | rfl | rfl | rfl <;> simp [without]
theorem list4_mem {f : Nat → Option Ent} {x : Ent} (h : x ∈ list4 f) : ∃ j : Nat, j < 4 ∧ f j = some x := by
  unfold list4 at h
  simp only [List.mem_append, Option.mem_toList] at h
  rcases h with h | h | h | h
  · exact ⟨0, by decide, h⟩
  · exact ⟨1, by decide, h⟩
  · exact ⟨2, by decide, h⟩
  · exact ⟨3, by decide, h⟩
theorem toList_find {o : Option Ent} {s t : Int} (h : okO s o) : o.toList.find? (slotP t) = if s = t then o else none := by
  cases o with
  | none => simp
  | some x =>
    obtain ⟨hr, hs⟩ := h x rfl
    subst hs
    by_cases hst : x.sl = t
    · subst hst; simp [slotP, hr]
    · simp [slotP, hst]
theorem find_list4 {f : Nat → Option Ent} {k : Int} (hf : ∀ j : Nat, okO (4 * k + (j : Int)) (f j)) {j : Nat} (hj : j < 4) : (list4 f).find? (slotP (4 * k + (j : Int))) = f j := by
  unfold list4
  rw [List.find?_append, List.find?_append, List.find?_append, toList_find (hf 0), toList_find (hf 1), toList_find (hf 2), toList_find (hf 3)]
  simp only [slot_ite]
  rcases (by omega : j = 0 ∨ j = 1 ∨ j = 2 ∨ j = 3) with rfl | rfl | rfl | rfl <;> simp
theorem block_list4 {f : Nat → Option Ent} {k : Int} (k0 : 0 ≤ k) (k1 : k < 4) (hf : ∀ j : Nat, okO (4 * k + (j : Int)) (f j)) : blockE (list4 f) k = cat4 f := by
  rw [blockE_cat _ k0 k1]
  unfold cat4
  dsimp only
  rw [find_list4 hf (by decide), find_list4 hf (by decide), find_list4 hf (by decide), find_list4 hf (by decide)]
/-- The slots rise. -/
theorem list4_rise {f : Nat → Option Ent} {k : Int} (hf : ∀ j : Nat, okO (4 * k + (j : Int)) (f j)) : (list4 f).Pairwise (fun a b => a.sl < b.sl) := by
  have s (j : Nat) (x : Ent) (h : f j = some x) : x.sl = 4 * k + j := (hf j x h).2
  unfold list4
  have one (o : Option Ent) : o.toList.Pairwise (fun a b : Ent => a.sl < b.sl) := by cases o <;> simp
  refine List.pairwise_append.2 ⟨one _, List.pairwise_append.2 ⟨one _, List.pairwise_append.2 ⟨one _, one _, ?_⟩, ?_⟩, ?_⟩
  · intro a ha b hb
    have h1 := s 2 a (by simpa using ha)
    have h2 := s 3 b (by simpa using hb)
    omega
  · intro a ha b hb
    have h1 := s 1 a (by simpa using ha)
    simp only [List.mem_append, Option.mem_toList] at hb
    rcases hb with hb | hb
    · have h2 := s 2 b hb; omega
    · have h2 := s 3 b hb; omega
  · intro a ha b hb
    have h1 := s 0 a (by simpa using ha)
    simp only [List.mem_append, Option.mem_toList] at hb
    rcases hb with hb | hb | hb
    · have h2 := s 1 b hb; omega
    · have h2 := s 2 b hb; omega
    · have h2 := s 3 b hb; omega
theorem list4_le (f : Nat → Option Ent) : (list4 f).length ≤ 4 := by
  unfold list4
  have one (o : Option Ent) : o.toList.length ≤ 1 := by cases o <;> simp
  have h0 := one (f 0)
  have h1 := one (f 1)
  have h2 := one (f 2)
  have h3 := one (f 3)
  simp only [List.length_append]
  omega
end Go.Proofs.Ytdknolnoimpgeaa.K
namespace Go.Proofs.Ytdknolnoimpgeaa.K
open Go.RowKit Go.Shelf Go.Lib Go.Proofs.YtdknolnoimpgeaaW.PrintWords Go.Proofs.YtdknolnoimpgeaaW.PrintLast Go.Proofs.YtdknolnoimpgeaaW.PrintMore
set_option linter.unusedVariables false
set_option linter.unusedSimpArgs false
set_option maxHeartbeats 4000000 in
set_option maxRecDepth 100000 in
theorem rEBytes_walk (sl ino : Int) (nm : ByteArray) (w0 : World) (h : rightE sl ino nm = true) :
    Calls Try.prog 111 #[.agg #[.int .i64 sl, .int .i64 ino, .string nm]] w0 fun e w' => ∃ A c, e = .returned (.slice A 16 c) ∧ Kd.C (Kd.int .u8) w' A 16 (bytesE ino nm) ∧ Below w0.heap.size w0 w' := by
  obtain ⟨h1, h2, h3, h4, h5⟩ := rightE_parts h
  have hpl := packN_length (s := nm) (by have := (rightN_size h5).2; omega)
  have h16 := Aside0.mk (bytesE_length (ino := ino) h5)
  have WN : Aside0 (∀ W, Calls Try.prog 137 #[.int .i64 ino, .int .i64 2] W fun e w' => ∃ v : Value, e = .returned v ∧ Kd.R (Kd.int .u8) 5 w' W.heap.size (fun _ => True) v (leB ino 2) ∧ Below W.heap.size W w') := ⟨fun W => rB_walk ino 2 W (by omega) (by omega) (by omega)⟩
  have WP : Aside0 (∀ W, Calls Try.prog 140 #[.string nm] W fun e w' => ∃ A c, e = .returned (.slice A (packN nm).length c) ∧ Kd.C (Kd.int .u8) w' A (packN nm).length (packN nm) ∧ Below W.heap.size W w') := ⟨fun W => (rPack_walk nm W h5).mono fun e w' ⟨v, he, ho, hb⟩ => by
    obtain ⟨Ap, cp, rfl⟩ := Kd.R_slice ho
    exact ⟨Ap, cp, he, (Kd.R_reads' ho).2.2, hb⟩⟩
  have hp14 := Aside0.mk hpl
  clear hpl h h1 h2 h3 h4 h5
  go_enter Try.func111, Try.ntmps111
  go_wp2
  obtain ⟨w, hw⟩ : ∃ w, w = w0.alloc (.cells #[.int .i64 sl, .int .i64 ino, .string nm] 62) := ⟨_, rfl⟩
  skip
  rw [← hw]
  have HW := Aside0.mk hw
  have HB := Aside0.mk (Below.refl w.heap.size w)
  have k0 : w.cell? ⟨w0.heap.size, 0, none⟩ = some (.int .i64 sl) := by rw [hw]; go_simp
  have k1 : w.cell? ⟨w0.heap.size, 1, none⟩ = some (.int .i64 ino) := by rw [hw]; go_simp
  have k2 : w.cell? ⟨w0.heap.size, 2, none⟩ = some (.string nm) := by rw [hw]; go_simp
  have hlt0 : w0.heap.size < w.heap.size := by rw [hw]; simp
  clear hw
  have m1 := k1
  have m2 := k2
  have hb1 := HB.out
  go_region_held3 (fun W => W.cell? ⟨w0.heap.size, 1, none⟩ = some (.int .i64 ino) ∧ W.cell? ⟨w0.heap.size, 2, none⟩ = some (.string nm) ∧ Below w.heap.size w W) (first | (exact ⟨pw_cell_below hb19 k1, pw_cell_below hb19 k2, hb19⟩) | (go_split_ands; refine ⟨pw_cell_below hb5 (by assumption), pw_cell_below hb5 (by assumption), below_step (by assumption) hb5⟩) | (go_split_ands; refine ⟨(by assumption), (by assumption), pw_below_drewN (by assumption) _⟩) | (go_split_ands; refine ⟨pw_cell_below (below_alloc (Below.refl _ _) _) (by assumption), pw_cell_below (below_alloc (Below.refl _ _) _) (by assumption), below_alloc (by assumption) _⟩)) (first | (go_at_call 137; go_split_ands; (with_reducible refine (WN.out _).mono ?_); rintro e w5 ⟨v5, rfl, ho5_, hb5⟩; have ho5 := Kd.R_lower ho5_ (below_size (by assumption)); clear ho5_; obtain ⟨A5, c5, rfl⟩ := Kd.R_slice ho5) | (go_at_call 140; go_split_ands; (with_reducible refine (WP.out _).mono ?_); rintro e w6 ⟨A6, c6, rfl, hc6, hb5⟩; have hb6 := hb5) | (go_split_ands; (refine Kd.R_append_rows_step (Kd.int .u8) (w0 := w) w.heap.size (by rfl) (.tmp 5) (.tmp 8) 24 5 (.int .u8 0) 1 (by rfl) Try.underlying24 u8info rfl (by decide) (by omega) _ (leB ino 2) (packN nm) A6 (packN nm).length c6 (fun _ => True) (fun _ => False) (by rfl) (by rfl) ?aO ?aR (fun _ _ h => h) (fun _ h => h.elim) (fun _ _ => trivial) ?aB ?aS ?aL ?_); (case aO => first | exact Kd.R_below ho5 (by first | exact hb6 | exact below_undrew hb6) | exact Kd.R_drew (Kd.R_below ho5 hb6)); (case aR => first | exact hc6 | exact Kd.C_drew hc6); (case aB => assumption); (case aS => exact below_size (by assumption)); (case aL => rw [leB_length, hp14.out]; decide); intro v19 w19 ho19 hb19 hg_ hat_; clear hg_ hat_) | fail)
  obtain ⟨A, c, rfl⟩ := Kd.R_slice ho19
  have HC := Aside0.mk (Kd.R_reads' ho19).2.2
  have HX : Aside0 (Below w0.heap.size w0 w19) := ⟨by have := hb19; rw [HW.out] at this; exact below_step (W := w0.alloc _) (below_alloc (Below.refl _ _) _) this⟩
  clear ho19
  rw [show (leB ino 2 ++ packN nm).length = 16 from h16.out] at HC ⊢
  go_wp2
  go_ret
  exact ⟨A, _, rfl, by first | exact HC.out | exact Kd.C_drew HC.out | exact Kd.C_drewN HC.out _, by first | exact HX.out | exact below_drew1 HX.out | exact pw_below_drewN HX.out _⟩
set_option maxRecDepth 100000 in
theorem rEPut_no (sl ino : Int) (nm : ByteArray) (w : World) (h : rightE sl ino nm = false) :
    Calls Try.prog 55 #[.agg #[.int .i64 sl, .int .i64 ino, .string nm]] w fun e w' => e = .returned (.tuple #[.slice none 0 0, .int .i64 1]) ∧ Below w.heap.size w w' := by
  have HB := Aside0.mk (Below.refl w.heap.size w)
  have WR := Aside0.mk (fun W => rERight_walk sl ino nm W)
  rw [h] at WR
  clear h
  go_enter Try.func55, Try.ntmps55
  go_wp2_with (go_at_call 59; (with_reducible refine (WR.out _).mono ?_); rintro e w1 ⟨rfl, hb⟩; have n1_ : Aside0 (Below w.heap.size w w1) := ⟨below_step (by repeat (first | (with_reducible first | exact HB.out | apply below_alloc | apply pw_below_drewN | apply below_drew1) | exact HB.out)) hb⟩; clear HB; have HB := n1_; clear n1_; clear hb)
  go_ret2
  exact ⟨rfl, (by repeat (first | (with_reducible first | exact HB.out | apply below_alloc | apply pw_below_drewN | apply below_drew1) | exact HB.out))⟩
set_option maxRecDepth 100000 in
theorem rEPut_walk (sl ino : Int) (nm : ByteArray) (w0 : World) (h : rightE sl ino nm = true) :
    Calls Try.prog 55 #[.agg #[.int .i64 sl, .int .i64 ino, .string nm]] w0 fun e w' => ∃ A c, e = .returned (.tuple #[.slice A 16 c, .int .i64 0]) ∧ Kd.C (Kd.int .u8) w' A 16 (bytesE ino nm) ∧ Below w0.heap.size w0 w' := by
  have WR := Aside0.mk (fun W => rERight_walk sl ino nm W)
  have WB := Aside0.mk (fun W => rEBytes_walk sl ino nm W h)
  rw [h] at WR
  clear h
  go_enter Try.func55, Try.ntmps55
  go_wp2_with (go_at_call 59; fail)
  obtain ⟨w, hw⟩ : ∃ w, w = w0.alloc (.cells #[.int .i64 sl, .int .i64 ino, .string nm] 62) := ⟨_, rfl⟩
  skip
  rw [← hw]
  have HW := Aside0.mk hw
  have HB := Aside0.mk (Below.refl w.heap.size w)
  have k0 : w.cell? ⟨w0.heap.size, 0, none⟩ = some (.int .i64 sl) := by rw [hw]; go_simp
  have k1 : w.cell? ⟨w0.heap.size, 1, none⟩ = some (.int .i64 ino) := by rw [hw]; go_simp
  have k2 : w.cell? ⟨w0.heap.size, 2, none⟩ = some (.string nm) := by rw [hw]; go_simp
  have hlt0 : w0.heap.size < w.heap.size := by rw [hw]; simp
  clear hw
  refine (WR.out _).mono ?_
  rintro e w1 ⟨rfl, hb⟩
  have m0 := pw_cell_below hb k0
  have m1 := pw_cell_below hb k1
  have m2 := pw_cell_below hb k2
  have hb1 : Aside0 (Below w0.heap.size w0 w1) := ⟨by have := below_step HB.out hb; rw [HW.out] at this; exact below_step (W := w0.alloc _) (below_alloc (Below.refl _ _) _) this⟩
  clear hb
  go_wp2_with (go_at_call 111; (with_reducible refine (WB.out _).mono ?_); rintro e w2 ⟨A, c, rfl, hc, hb⟩; have HC := Aside0.mk hc; have HX := Aside0.mk (below_step hb1.out hb); clear hb hc)
  go_ret2
  exact ⟨A, _, rfl, HC.out, HX.out⟩
end Go.Proofs.Ytdknolnoimpgeaa.K
namespace Go.Proofs.Ytdknolnoimpgeaa.K
open Go.RowKit Go.Shelf Go.Lib Go.Proofs.YtdknolnoimpgeaaW.PrintWords Go.Proofs.YtdknolnoimpgeaaW.PrintLast Go.Proofs.YtdknolnoimpgeaaW.PrintMore
set_option linter.unusedVariables false
set_option linter.unusedSimpArgs false
theorem wpE_zero : (Value.agg #[.int .i64 0, .int .i64 0, .string ByteArray.empty]).cells = #[.int .i64 0, .int .i64 0, .string ⟨#[]⟩] := rfl
set_option maxHeartbeats 4000000 in
set_option maxRecDepth 100000 in
theorem rEGet_walk (A : Option Addr) (c : Nat) (l : List Int) (slot : Int) (w : World) (hr : Kd.C (Kd.int .u8) w A l.length l) (hb : Byts l) (hcap : l.length ≤ c) (hmax : l.length < 140737488355320) :
    Calls Try.prog 57 #[.slice A l.length c, .int .i64 slot] w fun e w' => e = .returned (.tuple #[.agg #[.int .i64 (getE l slot).1.sl, .int .i64 (getE l slot).1.ino, .string (getE l slot).1.nm], .bool (getE l slot).2.1, .bool (getE l slot).2.2]) ∧ Below w.heap.size w w' := by
  have HB := Aside0.mk (Below.refl w.heap.size w)
  obtain ⟨z, hz⟩ : ∃ z, z = List.replicate (16 : Int).toNat (0 : Int) := ⟨_, rfl⟩
  have hzl : Aside0 (z.length = 16) := ⟨by rw [hz]; rfl⟩
  obtain ⟨b, hbz⟩ : ∃ b, b = decide (l = z) := ⟨_, rfl⟩
  have WS : Aside0 (∀ A2 c2 W, Kd.C (Kd.int .u8) W A l.length l → Kd.C (Kd.int .u8) W A2 z.length z → Calls Try.prog 92 #[.slice A l.length c, .slice A2 16 c2] W fun e w' => e = .returned (.bool b) ∧ Drawn0 W w') := ⟨fun A2 c2 W h1 h2 => by
    have := rSame_walk A c l A2 c2 z W h1 h2 (by omega)
    rw [← hbz, hzl.out] at this
    exact this⟩
  have HR := Aside0.mk hr
  clear hr
  cases b with
  | true =>
    have E0 : Aside0 (getE l slot = (Ent.zero, false, true)) := ⟨by
      have e : l = List.replicate 16 0 := by have := of_decide_eq_true hbz.symm; rw [hz] at this; exact this
      unfold getE
      rw [if_neg (by rw [e]; simp), if_pos e]⟩
    rw [hz] at WS
    clear hbz hz hzl
    go_enter Try.func57, Try.ntmps57
    go_wp2_with (first | ((with_reducible refine gate_dst (N := 13) rfl ?_); refine Kd.R_make (Kd.int .u8) _ 5 rfl (N := 13) rfl 24 _ _ rfl (16) rfl rfl Try.underlying24 (.int .u8 0) 1 u8info rfl (by decide) (by omega) 0 (ok := fun _ => True) (okp := fun _ => True) rfl (fun _ hk => hk) trivial (by omega) (by omega) (Below.refl _ _) (Nat.le_refl _) ?_; intro v5 w5 ho hb hg_ hnew_; clear hg_ hnew_; obtain ⟨g5, c5, rfl, hg5, hl5, _, _⟩ := Kd.R_form ho (by simp); have HG5 := Aside0.mk (Nat.le_trans (below_size (by repeat (first | (with_reducible first | exact HB.out | apply below_alloc | apply pw_below_drewN | apply below_drew1) | exact HB.out))) hg5); clear hg5 hl5; have HO5 := Aside0.mk (Kd.R_lower ho (below_size (by repeat (first | (with_reducible first | exact HB.out | apply below_alloc | apply pw_below_drewN | apply below_drew1) | exact HB.out)))); have n1_ : Aside0 (Below w.heap.size w w5) := ⟨below_step (by repeat (first | (with_reducible first | exact HB.out | apply below_alloc | apply pw_below_drewN | apply below_drew1) | exact HB.out)) hb⟩; clear HB; have HB := n1_; clear n1_; have BK5 : Aside0 (w5.heap[w.heap.size]? = some (.cells #[.int .i64 0, .int .i64 0, .string ⟨#[]⟩] 62 (0, 0))) := ⟨blk_below (heap_alloc_new _ _) hb⟩; clear ho hb) | (go_at_call 92; (with_reducible refine (WS.out (some ⟨g5, 0, none⟩) c5 _ (Kd.C_below HR.out (by repeat (first | (with_reducible first | exact HB.out | apply below_alloc | apply pw_below_drewN | apply below_drew1) | exact HB.out))) (Kd.R_reads' HO5.out).2.2).mono ?_); rintro e w' ⟨rfl, ⟨nd, rfl⟩⟩) | ((with_reducible refine gate_store (p := 4) rfl ?_); go_loud (refine wpList_store_rowL rfl rfl 62 (.tmp 4) (.tmp 15) rfl (w.heap.size) #[.int .i64 0, .int .i64 0, .string ⟨#[]⟩] rfl rfl 62 #[.int .i64 0, .int .i64 0, .string ⟨#[]⟩] (blk_drewN BK5.out _) (by kernel_rfl) rfl (by simp [Value.oneCell']) ?_; intro w7 bk_ hg_)))
    rw [E0.out]
    refine bodyPost_ret (results_row3 rfl _ _ w.heap.size 62 #[.int .i64 0, .int .i64 0, .string ⟨#[]⟩] (0, 0) _ (.bool false) (.bool true) rfl rfl rfl bk_ Try.underlying62 rfl (by kernel_rfl)) rfl ?_
    exact ⟨by rfl, pw_below_grown (pw_below_drewN HB.out _) (some w.heap.size) (pw_below_drewN HB.out _).size hg_ (fun k e => by cases e; exact Nat.le_refl _)⟩
  | false =>
    have hne : Aside0 (¬ l = List.replicate 16 0) := ⟨fun e => by rw [e, hz] at hbz; simp at hbz⟩
    rw [hz] at WS
    by_cases hl : l.length = 16
    case neg =>
      have E0 : Aside0 (getE l slot = (Ent.zero, false, false)) := ⟨by unfold getE; rw [if_pos hl]⟩
      have h14 : ((l.length : Int) != 16) = true := by simp; omega
      clear hbz hz hzl hl hne
      go_enter Try.func57, Try.ntmps57
      go_wp2_with (first | ((with_reducible refine gate_dst (N := 13) rfl ?_); refine Kd.R_make (Kd.int .u8) _ 5 rfl (N := 13) rfl 24 _ _ rfl (16) rfl rfl Try.underlying24 (.int .u8 0) 1 u8info rfl (by decide) (by omega) 0 (ok := fun _ => True) (okp := fun _ => True) rfl (fun _ hk => hk) trivial (by omega) (by omega) (Below.refl _ _) (Nat.le_refl _) ?_; intro v5 w5 ho hb hg_ hnew_; clear hg_ hnew_; obtain ⟨g5, c5, rfl, hg5, hl5, _, _⟩ := Kd.R_form ho (by simp); have HG5 := Aside0.mk (Nat.le_trans (below_size (by repeat (first | (with_reducible first | exact HB.out | apply below_alloc | apply pw_below_drewN | apply below_drew1) | exact HB.out))) hg5); clear hg5 hl5; have HO5 := Aside0.mk (Kd.R_lower ho (below_size (by repeat (first | (with_reducible first | exact HB.out | apply below_alloc | apply pw_below_drewN | apply below_drew1) | exact HB.out)))); have n1_ : Aside0 (Below w.heap.size w w5) := ⟨below_step (by repeat (first | (with_reducible first | exact HB.out | apply below_alloc | apply pw_below_drewN | apply below_drew1) | exact HB.out)) hb⟩; clear HB; have HB := n1_; clear n1_; have BK5 : Aside0 (w5.heap[w.heap.size]? = some (.cells #[.int .i64 0, .int .i64 0, .string ⟨#[]⟩] 62 (0, 0))) := ⟨blk_below (heap_alloc_new _ _) hb⟩; clear ho hb) | (go_at_call 92; (with_reducible refine (WS.out (some ⟨g5, 0, none⟩) c5 _ (Kd.C_below HR.out (by repeat (first | (with_reducible first | exact HB.out | apply below_alloc | apply pw_below_drewN | apply below_drew1) | exact HB.out))) (Kd.R_reads' HO5.out).2.2).mono ?_); rintro e w' ⟨rfl, ⟨nd, rfl⟩⟩) | ((with_reducible refine gate_store (p := 4) rfl ?_); go_loud (refine wpList_store_rowL rfl rfl 62 (.tmp 4) (.tmp 19) rfl (w.heap.size) #[.int .i64 0, .int .i64 0, .string ⟨#[]⟩] rfl rfl 62 #[.int .i64 0, .int .i64 0, .string ⟨#[]⟩] (blk_drewN BK5.out _) (by kernel_rfl) rfl (by simp [Value.oneCell']) ?_; intro w7 bk_ hg_)))
      rw [E0.out]
      refine bodyPost_ret (results_row3 rfl _ _ w.heap.size 62 #[.int .i64 0, .int .i64 0, .string ⟨#[]⟩] (0, 0) _ (.bool false) (.bool false) rfl rfl rfl bk_ Try.underlying62 rfl (by kernel_rfl)) rfl ?_
      exact ⟨by rfl, pw_below_grown (pw_below_drewN HB.out _) (some w.heap.size) (pw_below_drewN HB.out _).size hg_ (fun k e => by cases e; exact Nat.le_refl _)⟩
    have E1 := Aside0.mk (getE_ref hb hl hne.out slot)
    have hl16 := Aside0.mk hl
    have WG : Aside0 (∀ W, Kd.C (Kd.int .u8) W A l.length l → Calls Try.prog 99 #[.slice A 16 c, .int .i64 0, .int .i64 2] W fun e w' => e = .returned (.tuple #[.int .i64 (gN l 0 2), .bool (numG l 0 2).2]) ∧ Drawn0 W w') := ⟨fun W h => by
      have := rG_walk A c l 0 2 W h hmax hb
      rw [hl16.out] at this
      exact this⟩
    obtain ⟨ad, rfl, _⟩ := Kd.at_int HR.out 0 (by omega) (by omega)
    have WU : Aside0 (∀ W, Kd.C (Kd.int .u8) W (some ad) l.length l → Calls Try.prog 113 #[.slice (some ⟨ad.block, ad.off + 2, none⟩) 14 (c - 2)] W fun e w' => e = .returned (.tuple #[.string (unpackN (l.drop 2)).1, .bool (unpackN (l.drop 2)).2]) ∧ Below W.heap.size W w') := ⟨fun W h => by
      have h2 := Kd.C_drop (c := c) (m := 2) h (by rw [hl16.out]; decide) (by rw [hl16.out]; omega)
      have hdl : (l.drop 2).length = 14 := by rw [List.length_drop, hl16.out]
      rw [if_neg (by omega)] at h2
      have := rUnpack_walk _ (c - 2) (l.drop 2) W h2 (fun x hx => hb x (List.mem_of_mem_drop hx)) (by omega)
      rw [hdl] at this
      exact this⟩
    obtain ⟨ino, hino⟩ : ∃ ino, ino = gN l 0 2 := ⟨_, rfl⟩
    obtain ⟨nm, hnm⟩ : ∃ nm, nm = (unpackN (l.drop 2)).1 := ⟨_, rfl⟩
    obtain ⟨ok, hok⟩ : ∃ ok, ok = (unpackN (l.drop 2)).2 := ⟨_, rfl⟩
    rw [← hino] at WG E1
    rw [← hnm, ← hok] at WU E1
    have hcap16 : 16 ≤ c := by omega
    obtain ⟨rt, hrt⟩ : ∃ rt, rt = rightE slot ino nm := ⟨_, rfl⟩
    have WR := Aside0.mk (fun W => rERight_walk slot ino nm W)
    rw [← hrt] at WR E1
    rw [hl] at WS WG WU HR ⊢
    clear hbz hz hzl hl hne hino hnm hok hrt hcap hmax hb
    cases ok with
    | false =>
      have E0 : Aside0 (getE l slot = (Ent.zero, false, false)) := ⟨by rw [E1.out]; simp⟩
      clear E1
      go_enter Try.func57, Try.ntmps57
      go_wp2_with (first | ((with_reducible refine gate_dst (N := 13) rfl ?_); refine Kd.R_make (Kd.int .u8) _ 5 rfl (N := 13) rfl 24 _ _ rfl (16) rfl rfl Try.underlying24 (.int .u8 0) 1 u8info rfl (by decide) (by omega) 0 (ok := fun _ => True) (okp := fun _ => True) rfl (fun _ hk => hk) trivial (by omega) (by omega) (Below.refl _ _) (Nat.le_refl _) ?_; intro v5 w5 ho hb hg_ hnew_; clear hg_ hnew_; obtain ⟨g5, c5, rfl, hg5, hl5, _, _⟩ := Kd.R_form ho (by simp); have HG5 := Aside0.mk (Nat.le_trans (below_size (by repeat (first | (with_reducible first | exact HB.out | apply below_alloc | apply pw_below_drewN | apply below_drew1) | exact HB.out))) hg5); clear hg5 hl5; have HO5 := Aside0.mk (Kd.R_lower ho (below_size (by repeat (first | (with_reducible first | exact HB.out | apply below_alloc | apply pw_below_drewN | apply below_drew1) | exact HB.out)))); have n1_ : Aside0 (Below w.heap.size w w5) := ⟨below_step (by repeat (first | (with_reducible first | exact HB.out | apply below_alloc | apply pw_below_drewN | apply below_drew1) | exact HB.out)) hb⟩; clear HB; have HB := n1_; clear n1_; have BK5 : Aside0 (w5.heap[w.heap.size]? = some (.cells #[.int .i64 0, .int .i64 0, .string ⟨#[]⟩] 62 (0, 0))) := ⟨blk_below (heap_alloc_new _ _) hb⟩; clear ho hb) | (go_at_call 92; (with_reducible refine (WS.out (some ⟨g5, 0, none⟩) c5 _ (Kd.C_below HR.out (by repeat (first | (with_reducible first | exact HB.out | apply below_alloc | apply pw_below_drewN | apply below_drew1) | exact HB.out))) (Kd.R_reads' HO5.out).2.2).mono ?_); rintro e w' ⟨rfl, ⟨nd, rfl⟩⟩) | (go_at_call 99; (with_reducible refine (WG.out _ (Kd.C_below HR.out (by repeat (first | (with_reducible first | exact HB.out | apply below_alloc | apply pw_below_drewN | apply below_drew1) | exact HB.out)))).mono ?_); rintro e w' ⟨rfl, ⟨nd2, rfl⟩⟩) | (go_at_call 113; (with_reducible refine (WU.out _ (Kd.C_below HR.out (by repeat (first | (with_reducible first | exact HB.out | apply below_alloc | apply pw_below_drewN | apply below_drew1) | exact HB.out)))).mono ?_); rintro e w6 ⟨rfl, hb⟩; have BK6 : Aside0 (w6.heap[w.heap.size]? = some (.cells #[.int .i64 0, .int .i64 0, .string ⟨#[]⟩] 62 (0, 0))) := ⟨blk_below (by repeat (first | exact BK5.out | refine blk_drewN ?_ _)) hb⟩; have n1_ : Aside0 (Below w.heap.size w w6) := ⟨below_step (by repeat (first | (with_reducible first | exact HB.out | apply below_alloc | apply pw_below_drewN | apply below_drew1) | exact HB.out)) hb⟩; clear HB; have HB := n1_; clear n1_; clear hb) | (go_at_call 59; (with_reducible refine (WR.out _).mono ?_); rintro e w7 ⟨rfl, hb⟩; have BK7 : Aside0 (w7.heap[w.heap.size]? = some (.cells #[.int .i64 0, .int .i64 0, .string ⟨#[]⟩] 62 (0, 0))) := ⟨blk_below (blk_alloc BK6.out _) hb⟩; have C7 : Aside0 (w7.heap[w6.heap.size]? = some (.cells #[.int .i64 slot, .int .i64 ino, .string nm] 62 (0, 0))) := ⟨blk_below (heap_alloc_new _ _) hb⟩; have y0_ := (blk_cell C7.out 0).trans rfl; have y1_ := (blk_cell C7.out 1).trans rfl; have y2_ := (blk_cell C7.out 2).trans rfl; have n1_ : Aside0 (Below w.heap.size w w7) := ⟨below_step (by repeat (first | (with_reducible first | exact HB.out | apply below_alloc | apply pw_below_drewN | apply below_drew1) | exact HB.out)) hb⟩; clear HB; have HB := n1_; clear n1_; clear hb) | ((with_reducible refine gate_store (p := 4) rfl ?_); go_loud (refine wpList_store_rowL rfl rfl 62 (.tmp 4) (.tmp 42) rfl (w.heap.size) #[.int .i64 0, .int .i64 0, .string ⟨#[]⟩] rfl rfl 62 #[.int .i64 0, .int .i64 0, .string ⟨#[]⟩] (by first | exact BK7.out | exact blk_alloc BK6.out _) (by kernel_rfl) rfl (by simp [Value.oneCell']) ?_; intro w8 bk_ hg_)))
      rw [E0.out]
      refine bodyPost_ret (results_row3 rfl _ _ w.heap.size 62 #[.int .i64 0, .int .i64 0, .string ⟨#[]⟩] (0, 0) _ (.bool false) (.bool false) rfl rfl rfl bk_ Try.underlying62 rfl (by kernel_rfl)) rfl ?_
      exact ⟨by rfl, pw_below_grown (below_alloc HB.out _) (some w.heap.size) ((below_alloc HB.out _)).size hg_ (fun k e => by cases e; exact Nat.le_refl _)⟩
    | true =>
      cases rt with
      | false =>
        have E0 : Aside0 (getE l slot = (Ent.zero, false, false)) := ⟨by rw [E1.out]; simp⟩
        clear E1
        go_enter Try.func57, Try.ntmps57
        go_wp2_with (first | ((with_reducible refine gate_dst (N := 13) rfl ?_); refine Kd.R_make (Kd.int .u8) _ 5 rfl (N := 13) rfl 24 _ _ rfl (16) rfl rfl Try.underlying24 (.int .u8 0) 1 u8info rfl (by decide) (by omega) 0 (ok := fun _ => True) (okp := fun _ => True) rfl (fun _ hk => hk) trivial (by omega) (by omega) (Below.refl _ _) (Nat.le_refl _) ?_; intro v5 w5 ho hb hg_ hnew_; clear hg_ hnew_; obtain ⟨g5, c5, rfl, hg5, hl5, _, _⟩ := Kd.R_form ho (by simp); have HG5 := Aside0.mk (Nat.le_trans (below_size (by repeat (first | (with_reducible first | exact HB.out | apply below_alloc | apply pw_below_drewN | apply below_drew1) | exact HB.out))) hg5); clear hg5 hl5; have HO5 := Aside0.mk (Kd.R_lower ho (below_size (by repeat (first | (with_reducible first | exact HB.out | apply below_alloc | apply pw_below_drewN | apply below_drew1) | exact HB.out)))); have n1_ : Aside0 (Below w.heap.size w w5) := ⟨below_step (by repeat (first | (with_reducible first | exact HB.out | apply below_alloc | apply pw_below_drewN | apply below_drew1) | exact HB.out)) hb⟩; clear HB; have HB := n1_; clear n1_; have BK5 : Aside0 (w5.heap[w.heap.size]? = some (.cells #[.int .i64 0, .int .i64 0, .string ⟨#[]⟩] 62 (0, 0))) := ⟨blk_below (heap_alloc_new _ _) hb⟩; clear ho hb) | (go_at_call 92; (with_reducible refine (WS.out (some ⟨g5, 0, none⟩) c5 _ (Kd.C_below HR.out (by repeat (first | (with_reducible first | exact HB.out | apply below_alloc | apply pw_below_drewN | apply below_drew1) | exact HB.out))) (Kd.R_reads' HO5.out).2.2).mono ?_); rintro e w' ⟨rfl, ⟨nd, rfl⟩⟩) | (go_at_call 99; (with_reducible refine (WG.out _ (Kd.C_below HR.out (by repeat (first | (with_reducible first | exact HB.out | apply below_alloc | apply pw_below_drewN | apply below_drew1) | exact HB.out)))).mono ?_); rintro e w' ⟨rfl, ⟨nd2, rfl⟩⟩) | (go_at_call 113; (with_reducible refine (WU.out _ (Kd.C_below HR.out (by repeat (first | (with_reducible first | exact HB.out | apply below_alloc | apply pw_below_drewN | apply below_drew1) | exact HB.out)))).mono ?_); rintro e w6 ⟨rfl, hb⟩; have BK6 : Aside0 (w6.heap[w.heap.size]? = some (.cells #[.int .i64 0, .int .i64 0, .string ⟨#[]⟩] 62 (0, 0))) := ⟨blk_below (by repeat (first | exact BK5.out | refine blk_drewN ?_ _)) hb⟩; have n1_ : Aside0 (Below w.heap.size w w6) := ⟨below_step (by repeat (first | (with_reducible first | exact HB.out | apply below_alloc | apply pw_below_drewN | apply below_drew1) | exact HB.out)) hb⟩; clear HB; have HB := n1_; clear n1_; clear hb) | (go_at_call 59; (with_reducible refine (WR.out _).mono ?_); rintro e w7 ⟨rfl, hb⟩; have BK7 : Aside0 (w7.heap[w.heap.size]? = some (.cells #[.int .i64 0, .int .i64 0, .string ⟨#[]⟩] 62 (0, 0))) := ⟨blk_below (blk_alloc BK6.out _) hb⟩; have C7 : Aside0 (w7.heap[w6.heap.size]? = some (.cells #[.int .i64 slot, .int .i64 ino, .string nm] 62 (0, 0))) := ⟨blk_below (heap_alloc_new _ _) hb⟩; have y0_ := (blk_cell C7.out 0).trans rfl; have y1_ := (blk_cell C7.out 1).trans rfl; have y2_ := (blk_cell C7.out 2).trans rfl; have n1_ : Aside0 (Below w.heap.size w w7) := ⟨below_step (by repeat (first | (with_reducible first | exact HB.out | apply below_alloc | apply pw_below_drewN | apply below_drew1) | exact HB.out)) hb⟩; clear HB; have HB := n1_; clear n1_; clear hb) | ((with_reducible refine gate_store (p := 4) rfl ?_); go_loud (refine wpList_store_rowL rfl rfl 62 (.tmp 4) (.tmp 42) rfl (w.heap.size) #[.int .i64 0, .int .i64 0, .string ⟨#[]⟩] rfl rfl 62 #[.int .i64 0, .int .i64 0, .string ⟨#[]⟩] (by first | exact BK7.out | exact blk_alloc BK6.out _) (by kernel_rfl) rfl (by simp [Value.oneCell']) ?_; intro w8 bk_ hg_)))
        rw [E0.out]
        refine bodyPost_ret (results_row3 rfl _ _ w.heap.size 62 #[.int .i64 0, .int .i64 0, .string ⟨#[]⟩] (0, 0) _ (.bool false) (.bool false) rfl rfl rfl bk_ Try.underlying62 rfl (by kernel_rfl)) rfl ?_
        exact ⟨by rfl, pw_below_grown HB.out (some w.heap.size) (HB.out).size hg_ (fun k e => by cases e; exact Nat.le_refl _)⟩
      | true =>
        have E0 : Aside0 (getE l slot = (⟨slot, ino, nm⟩, true, true)) := ⟨by rw [E1.out]; simp⟩
        clear E1
        go_enter Try.func57, Try.ntmps57
        go_wp2_with (first | ((with_reducible refine gate_dst (N := 13) rfl ?_); refine Kd.R_make (Kd.int .u8) _ 5 rfl (N := 13) rfl 24 _ _ rfl (16) rfl rfl Try.underlying24 (.int .u8 0) 1 u8info rfl (by decide) (by omega) 0 (ok := fun _ => True) (okp := fun _ => True) rfl (fun _ hk => hk) trivial (by omega) (by omega) (Below.refl _ _) (Nat.le_refl _) ?_; intro v5 w5 ho hb hg_ hnew_; clear hg_ hnew_; obtain ⟨g5, c5, rfl, hg5, hl5, _, _⟩ := Kd.R_form ho (by simp); have HG5 := Aside0.mk (Nat.le_trans (below_size (by repeat (first | (with_reducible first | exact HB.out | apply below_alloc | apply pw_below_drewN | apply below_drew1) | exact HB.out))) hg5); clear hg5 hl5; have HO5 := Aside0.mk (Kd.R_lower ho (below_size (by repeat (first | (with_reducible first | exact HB.out | apply below_alloc | apply pw_below_drewN | apply below_drew1) | exact HB.out)))); have n1_ : Aside0 (Below w.heap.size w w5) := ⟨below_step (by repeat (first | (with_reducible first | exact HB.out | apply below_alloc | apply pw_below_drewN | apply below_drew1) | exact HB.out)) hb⟩; clear HB; have HB := n1_; clear n1_; have BK5 : Aside0 (w5.heap[w.heap.size]? = some (.cells #[.int .i64 0, .int .i64 0, .string ⟨#[]⟩] 62 (0, 0))) := ⟨blk_below (heap_alloc_new _ _) hb⟩; clear ho hb) | (go_at_call 92; (with_reducible refine (WS.out (some ⟨g5, 0, none⟩) c5 _ (Kd.C_below HR.out (by repeat (first | (with_reducible first | exact HB.out | apply below_alloc | apply pw_below_drewN | apply below_drew1) | exact HB.out))) (Kd.R_reads' HO5.out).2.2).mono ?_); rintro e w' ⟨rfl, ⟨nd, rfl⟩⟩) | (go_at_call 99; (with_reducible refine (WG.out _ (Kd.C_below HR.out (by repeat (first | (with_reducible first | exact HB.out | apply below_alloc | apply pw_below_drewN | apply below_drew1) | exact HB.out)))).mono ?_); rintro e w' ⟨rfl, ⟨nd2, rfl⟩⟩) | (go_at_call 113; (with_reducible refine (WU.out _ (Kd.C_below HR.out (by repeat (first | (with_reducible first | exact HB.out | apply below_alloc | apply pw_below_drewN | apply below_drew1) | exact HB.out)))).mono ?_); rintro e w6 ⟨rfl, hb⟩; have BK6 : Aside0 (w6.heap[w.heap.size]? = some (.cells #[.int .i64 0, .int .i64 0, .string ⟨#[]⟩] 62 (0, 0))) := ⟨blk_below (by repeat (first | exact BK5.out | refine blk_drewN ?_ _)) hb⟩; have n1_ : Aside0 (Below w.heap.size w w6) := ⟨below_step (by repeat (first | (with_reducible first | exact HB.out | apply below_alloc | apply pw_below_drewN | apply below_drew1) | exact HB.out)) hb⟩; clear HB; have HB := n1_; clear n1_; clear hb) | (go_at_call 59; (with_reducible refine (WR.out _).mono ?_); rintro e w7 ⟨rfl, hb⟩; have BK7 : Aside0 (w7.heap[w.heap.size]? = some (.cells #[.int .i64 0, .int .i64 0, .string ⟨#[]⟩] 62 (0, 0))) := ⟨blk_below (blk_alloc BK6.out _) hb⟩; have C7 : Aside0 (w7.heap[w6.heap.size]? = some (.cells #[.int .i64 slot, .int .i64 ino, .string nm] 62 (0, 0))) := ⟨blk_below (heap_alloc_new _ _) hb⟩; have y0_ := (blk_cell C7.out 0).trans rfl; have y1_ := (blk_cell C7.out 1).trans rfl; have y2_ := (blk_cell C7.out 2).trans rfl; have n1_ : Aside0 (Below w.heap.size w w7) := ⟨below_step (by repeat (first | (with_reducible first | exact HB.out | apply below_alloc | apply pw_below_drewN | apply below_drew1) | exact HB.out)) hb⟩; clear HB; have HB := n1_; clear n1_; clear hb) | ((with_reducible refine gate_store (p := 4) rfl ?_); go_loud (refine wpList_store_rowL rfl rfl 62 (.tmp 4) (.tmp 43) rfl (w.heap.size) #[.int .i64 slot, .int .i64 ino, .string nm] rfl rfl 62 #[.int .i64 0, .int .i64 0, .string ⟨#[]⟩] (by first | exact BK7.out | exact blk_alloc BK6.out _) (by kernel_rfl) rfl (by simp [Value.oneCell']) ?_; intro w8 bk_ hg_)))
        rw [E0.out]
        refine bodyPost_ret (results_row3 rfl _ _ w.heap.size 62 #[.int .i64 slot, .int .i64 ino, .string nm] (0, 0) _ (.bool true) (.bool true) rfl rfl rfl bk_ Try.underlying62 rfl (by kernel_rfl)) rfl ?_
        exact ⟨by rfl, pw_below_grown HB.out (some w.heap.size) (HB.out).size hg_ (fun k e => by cases e; exact Nat.le_refl _)⟩
end Go.Proofs.Ytdknolnoimpgeaa.K
namespace Go.Proofs.Ytdknolnoimpgeaa.K
open Go.RowKit Go.Shelf Go.Lib Go.Proofs.YtdknolnoimpgeaaW.PrintWords Go.Proofs.YtdknolnoimpgeaaW.PrintLast Go.Proofs.YtdknolnoimpgeaaW.PrintMore
set_option linter.unusedVariables false
set_option linter.unusedSimpArgs false
theorem make_u8 (n : Nat) (hn : n ≤ 100000) : ∃ Zc : Array Value, (∀ W : World, (Instr.makeSlice 24 (.int .i64 (n : Int)) (.int .i64 (n : Int))).run Try.prog W = .ok (.slice (some ⟨W.heap.size, 0, none⟩) n n) (W.alloc (.cells Zc 5))) ∧ ∀ W : World, Kd.C (Kd.int .u8) (W.alloc (.cells Zc 5)) (some ⟨W.heap.size, 0, none⟩) n (List.replicate n 0) := by
  obtain ⟨i0, hi, hzz⟩ := Option.map_eq_some_iff.1 u8info
  simp only [Prod.mk.injEq] at hzz
  obtain ⟨hz0, hz1, hz2⟩ := hzz
  refine ⟨madeCells (Value.int .u8 0).cells n, fun W => ?_, fun W => ?_⟩
  · have hr := run_make (P := Try.prog) W 24 5 i0 (.int .u8 0) Try.underlying24 hi hz0 .i64 .i64 (n : Int) (n : Int) (by omega) (by omega) (by rw [hz2]; omega) (by omega)
    simpa [hz1] using hr
  · have := Kd.C_blkInt (k := .u8) (xs := List.replicate n 0) (heap_alloc_new W (.cells (madeCells (Value.int .u8 0).cells n) 5)) (by
      apply List.ext_getElem
      · simp [size_madeCells]
      · intro i h1 h2
        simp [madeCells, Value.cells, Nat.mod_one]) (by simp; omega)
    rw [List.length_replicate] at this
    exact this
def eA : Ent := ⟨5, 3, ⟨#[97, 98]⟩⟩
def fA (j : Nat) : Option Ent := [eA].find? (slotP (4 * 1 + (j : Int)))
theorem fA_ok (j : Nat) : okO (4 * 1 + (j : Int)) (fA j) := find_ok _ _
theorem blockA : blockE [eA] 1 = cat4 fA := blockE_cat [eA] (by decide) (by decide)
theorem parseA : parseE (cat4 fA) 1 = [eA] := by
  rw [parse_cat (by decide) (by decide) fA_ok]
  decide +kernel
theorem clearA : clearE (cat4 fA) 5 = List.replicate 64 0 := by
  rw [clear_cat fA_ok (q := 1) (by decide) (by decide)]
  decide +kernel
set_option maxHeartbeats 4000000 in
set_option maxRecDepth 100000 in
theorem l08_awake (w : World) : Calls Try.prog 53 #[] w fun e w' => e = .returned (.bool true) ∧ Below w.heap.size w w' := by
  have HB := Aside0.mk (Below.refl w.heap.size w)
  have hl64 := cat4_length fA_ok
  have hby := cat4_byts fA_ok
  obtain ⟨B8, hB8⟩ : ∃ B8, B8 = cat4 fA := ⟨_, rfl⟩
  obtain ⟨Z6, hZ6⟩ : ∃ Z6, Z6 = List.replicate 64 (0 : Int) := ⟨_, rfl⟩
  have WB : Aside0 (∀ g0 W, Kd.C kEnt W (some ⟨g0, 0, none⟩) 1 [eA] → Calls Try.prog 60 #[.slice (some ⟨g0, 0, none⟩) 1 1, .int .i64 1] W fun e w' => ∃ g c', e = .returned (.slice (some ⟨g, 0, none⟩) 64 c') ∧ W.heap.size ≤ g ∧ 64 ≤ c' ∧ Kd.C (Kd.int .u8) w' (some ⟨g, 0, none⟩) 64 B8 ∧ Below W.heap.size W w') := ⟨fun g0 W h => by
    have := block_walk (some ⟨g0, 0, none⟩) 1 [eA] 1 W h (by simp) (by decide) (by decide)
    rw [blockA, ← hB8] at this
    exact this⟩
  have WP : Aside0 (∀ g c W, Kd.C (Kd.int .u8) W (some ⟨g, 0, none⟩) 64 B8 → 64 ≤ c → Calls Try.prog 61 #[.slice (some ⟨g, 0, none⟩) 64 c, .int .i64 1] W fun e w' => ∃ Al cl, e = .returned (.tuple #[.slice Al 1 cl, .slice none 0 0]) ∧ Kd.C kEnt w' Al 1 [eA] ∧ Below W.heap.size W w') := ⟨fun g c W h hc => by
    have := parse_walk g c B8 1 W h (by rw [hB8]; exact hl64) hc (by rw [hB8]; exact hby) (by decide) (by decide) (by rw [hB8]; exact cat4_ok fA_ok)
    refine this.mono ?_
    rintro e w' ⟨vl, rfl, ho, hb⟩
    rw [hB8, parseA] at ho
    obtain ⟨Al, cl, rfl⟩ := Kd.R_slice ho
    exact ⟨Al, cl, rfl, (Kd.R_reads' ho).2.2, hb⟩⟩
  have WG : Aside0 (∀ A c W, Kd.C (Kd.int .u8) W A 16 (List.replicate (16 : Int).toNat (0 : Int)) → 16 ≤ c → Calls Try.prog 56 #[.slice A 16 c, .int .i64 2] W fun e w' => e = .returned (.tuple #[.agg #[.int .i64 0, .int .i64 0, .string ⟨#[]⟩], .bool false, .bool true]) ∧ Below W.heap.size W w') := ⟨fun A c W h hc => by
    have := eGet_walk A c (List.replicate 16 0) 2 W h (Byts.zeros 16) (by simpa using hc)
    rw [getE_zeros] at this
    exact this⟩
  have WC : Aside0 (∀ g c W, Kd.C (Kd.int .u8) W (some ⟨g, 0, none⟩) 64 B8 → 64 ≤ c → Calls Try.prog 63 #[.slice (some ⟨g, 0, none⟩) 64 c, .int .i64 5] W fun e w' => ∃ g c', e = .returned (.slice (some ⟨g, 0, none⟩) 64 c') ∧ W.heap.size ≤ g ∧ 64 ≤ c' ∧ Kd.C (Kd.int .u8) w' (some ⟨g, 0, none⟩) 64 Z6 ∧ Below W.heap.size W w') := ⟨fun g c W h hc => by
    have e64 : B8.length = 64 := by rw [hB8]; exact hl64
    have h' : Kd.C (Kd.int .u8) W (some ⟨g, 0, none⟩) B8.length B8 := by rw [e64]; exact h
    have := clear_walk (some ⟨g, 0, none⟩) c B8 5 W h' (by omega) e64 (by decide) (by decide)
    rw [hB8, clearA, ← hZ6] at this
    exact this⟩
  have WE : Aside0 (∀ A1 c1 A2 c2 W, Kd.C kEnt W A1 1 [eA] → Kd.C kEnt W A2 1 [eA] → Calls Try.prog 67 #[.slice A1 1 c1, .slice A2 1 c2] W fun e w' => e = .returned (.bool true) ∧ Drawn0 W w') := ⟨fun A1 c1 A2 c2 W h1 h2 => by have := eqEn_walk A1 c1 [eA] A2 c2 [eA] W h1 h2 (by simp); simpa using this⟩
  have WQ : Aside0 (∀ A1 c1 A2 c2 W, Kd.C (Kd.int .u8) W A1 64 Z6 → Kd.C (Kd.int .u8) W A2 64 Z6 → Calls Try.prog 24 #[.slice A1 64 c1, .slice A2 64 c2] W fun e w' => e = .returned (.bool true) ∧ w' = W) := ⟨fun A1 c1 A2 c2 W h1 h2 => by
    have z64 : Z6.length = 64 := by rw [hZ6]; rfl
    have := bEq_same A1 c1 Z6 A2 c2 Z6 W (by rw [z64]; exact h1) (by rw [z64]; exact h2) (by rw [hZ6]; exact Byts.zeros 64) (by rw [hZ6]; exact Byts.zeros 64)
    rw [z64] at this
    simpa using this⟩
  obtain ⟨Zc, hmk0, hz8⟩ := make_u8 64 (by decide)
  have hmk : ∀ W : World, (Instr.makeSlice 24 (.int .i64 64) (.int .i64 64)).run Try.prog W = .ok (.slice (some ⟨W.heap.size, 0, none⟩) 64 64) (W.alloc (.cells Zc 5)) := fun W => hmk0 W
  clear hmk0
  have Z8 : ∀ (W : World) (g : Nat), W.heap.size = g → Kd.C (Kd.int .u8) (W.alloc (.cells Zc 5)) (some ⟨g, 0, none⟩) 64 Z6 := fun W g hg => by subst hg; rw [hZ6]; exact hz8 W
  clear hz8
  clear hB8 hZ6 hl64 hby
  go_enter Try.func53, Try.ntmps53
  have HE0 : Aside0 (Kd.C kEnt ((w.alloc (.cells #[.int .i64 5, .int .i64 3, .string ⟨#[97, 98]⟩] 62)).alloc (.cells #[.int .i64 5, .int .i64 3, .string ⟨#[97, 98]⟩] 62)) (some ⟨w.heap.size + 1, 0, none⟩) 1 [eA]) := ⟨Kd.C_blk (heap_at2 (by simp)) rfl (by simp)⟩
  go_wp2_with (first | (go_at_call 60; (with_reducible refine (WB.out _ _ HE0.out).mono ?_); rintro e w1 ⟨g1, c1, rfl, hg1, hc1, hC1, hb⟩; have HC1 := Aside0.mk hC1; have HK1 := Aside0.mk hc1; have EB := Aside0.mk (blk_below (blk_alloc (heap_alloc_new w (.cells #[.int .i64 5, .int .i64 3, .string ⟨#[97, 98]⟩] 62)) (.cells #[.int .i64 5, .int .i64 3, .string ⟨#[97, 98]⟩] 62)) hb); have n1_ : Aside0 (Below w.heap.size w w1) := ⟨below_step (by repeat (first | (with_reducible first | exact HB.out | apply below_alloc | apply pw_below_drewN | apply below_drew1) | exact HB.out)) hb⟩; clear HB; have HB := n1_; clear n1_; clear hg1 hc1 hC1 hb) | (go_at_call 61; (with_reducible refine (WP.out _ _ _ HC1.out HK1.out).mono ?_); rintro e w2 ⟨Al, cl, rfl, hC2, hb⟩; have HC2 := Aside0.mk hC2; have n_ := Aside0.mk (blk_below (by first | exact EB.out | exact blk_drewN EB.out _ | exact blk_alloc EB.out _) hb); clear EB; have EB := n_; clear n_; have n_ := Aside0.mk (Kd.C_below HC1.out (by first | exact hb | exact below_undrew hb)); clear HC1; have HC1 := n_; clear n_; have n1_ : Aside0 (Below w.heap.size w w2) := ⟨below_step (by repeat (first | (with_reducible first | exact HB.out | apply below_alloc | apply pw_below_drewN | apply below_drew1) | exact HB.out)) hb⟩; clear HB; have HB := n1_; clear n1_; clear hC2 hb) | ((with_reducible refine gate_dst (N := 18) rfl ?_); refine Kd.R_make (Kd.int .u8) _ 5 rfl (N := 18) rfl 24 _ _ rfl (16) rfl rfl Try.underlying24 (.int .u8 0) 1 u8info rfl (by decide) (by omega) 0 (ok := fun _ => True) (okp := fun _ => True) rfl (fun _ hk => hk) trivial (by omega) (by omega) (Below.refl _ _) (Nat.le_refl _) ?_; intro v3 w3 ho hb hg_ hnew_; clear hg_ hnew_; obtain ⟨g3, c3, rfl, hg3, hl3, _, _⟩ := Kd.R_form ho (by simp); have HG3 := Aside0.mk (Nat.le_trans (below_size (by repeat (first | (with_reducible first | exact HB.out | apply below_alloc | apply pw_below_drewN | apply below_drew1) | exact HB.out))) hg3); clear hg3 hl3; have HO3 := Aside0.mk (Kd.R_lower ho (below_size (by repeat (first | (with_reducible first | exact HB.out | apply below_alloc | apply pw_below_drewN | apply below_drew1) | exact HB.out)))); have n1_ : Aside0 (Below w.heap.size w w3) := ⟨below_step (by repeat (first | (with_reducible first | exact HB.out | apply below_alloc | apply pw_below_drewN | apply below_drew1) | exact HB.out)) hb⟩; clear HB; have HB := n1_; clear n1_; have n_ := Aside0.mk (blk_below (by first | exact EB.out | exact blk_drewN EB.out _ | exact blk_alloc EB.out _) hb); clear EB; have EB := n_; clear n_; have n_ := Aside0.mk (Kd.C_below HC1.out (by first | exact hb | exact below_undrew hb)); clear HC1; have HC1 := n_; clear n_; have n_ := Aside0.mk (Kd.C_below HC2.out (by first | exact hb | exact below_undrew hb)); clear HC2; have HC2 := n_; clear n_; clear ho hb) | (go_at_call 56; (with_reducible refine (WG.out _ _ _ (Kd.R_reads' HO3.out).2.2 (by have h_ := (Kd.R_reads' HO3.out).2.1; simpa using h_)).mono ?_); rintro e w4 ⟨rfl, hb⟩; have n_ := Aside0.mk (blk_below (by first | exact EB.out | exact blk_drewN EB.out _ | exact blk_alloc EB.out _) hb); clear EB; have EB := n_; clear n_; have n_ := Aside0.mk (Kd.C_below HC1.out (by first | exact hb | exact below_undrew hb)); clear HC1; have HC1 := n_; clear n_; have n_ := Aside0.mk (Kd.C_below HC2.out (by first | exact hb | exact below_undrew hb)); clear HC2; have HC2 := n_; clear n_; have n1_ : Aside0 (Below w.heap.size w w4) := ⟨below_step (by repeat (first | (with_reducible first | exact HB.out | apply below_alloc | apply pw_below_drewN | apply below_drew1) | exact HB.out)) hb⟩; clear HB; have HB := n1_; clear n1_; clear hb))
  have z1 := Kd.C_alloc HC1.out (.cells #[.int .i64 0, .int .i64 0, .string ⟨#[]⟩] 62)
  have z2 := Kd.C_alloc HC2.out (.cells #[.int .i64 0, .int .i64 0, .string ⟨#[]⟩] 62)
  have z3 := below_alloc HB.out (.cells #[.int .i64 0, .int .i64 0, .string ⟨#[]⟩] 62)
  have EB5 := blk_alloc EB.out (.cells #[.int .i64 0, .int .i64 0, .string ⟨#[]⟩] 62)
  obtain ⟨w5, hw5⟩ : ∃ w5, w5 = w4.alloc (.cells #[.int .i64 0, .int .i64 0, .string ⟨#[]⟩] 62) := ⟨_, rfl⟩
  rw [← hw5] at z1 z2 z3 EB5
  refine go_on8 ?_
  rw [← hw5]
  have e0 : w5.cell? ⟨w.heap.size, 0, none⟩ = some (.int .i64 5) := (blk_cell EB5 0).trans rfl
  have e1 : w5.cell? ⟨w.heap.size, 1, none⟩ = some (.int .i64 3) := (blk_cell EB5 1).trans rfl
  have e2 : w5.cell? ⟨w.heap.size, 2, none⟩ = some (.string ⟨#[97, 98]⟩) := (blk_cell EB5 2).trans rfl
  have hlt0 := World.block_lt_of_cell? _ _ e0
  clear hw5 EB EB5 HC1 HC2 HB HO3 HE0
  have HLIT : Aside0 (∀ (W : World) (g : Nat), W.heap.size = g → Kd.C kEnt (W.alloc (.cells #[.int .i64 5, .int .i64 3, .string ⟨#[97, 98]⟩] 62)) (some ⟨g, 0, none⟩) 1 [eA]) := ⟨fun W g hg => by subst hg; exact Kd.C_blk (heap_alloc_new _ _) rfl (by simp)⟩
  go_region_held3 (fun W => W.cell? ⟨w.heap.size, 0, none⟩ = some (.int .i64 5) ∧ W.cell? ⟨w.heap.size, 1, none⟩ = some (.int .i64 3) ∧ W.cell? ⟨w.heap.size, 2, none⟩ = some (.string ⟨#[97, 98]⟩) ∧ Kd.C kEnt W Al 1 [eA] ∧ Kd.C (Kd.int .u8) W (some ⟨g1, 0, none⟩) 64 B8 ∧ Below w.heap.size w W) (first | (go_split_ands; refine ⟨(by (first | (with_reducible assumption) | exact pw_cell_below hb5 (by assumption) | exact pw_cell_below (below_alloc (Below.refl _ _) _) (by assumption) | exact pw_cell_below (pw_below_drewN (Below.refl _ _) _) (by assumption) | exact pw_cell_below (pw_below_drewN (below_alloc (Below.refl _ _) _) _) (by assumption) | exact pw_cell_below (below_drew1 (Below.refl _ _)) (by assumption))), (by (first | (with_reducible assumption) | exact pw_cell_below hb5 (by assumption) | exact pw_cell_below (below_alloc (Below.refl _ _) _) (by assumption) | exact pw_cell_below (pw_below_drewN (Below.refl _ _) _) (by assumption) | exact pw_cell_below (pw_below_drewN (below_alloc (Below.refl _ _) _) _) (by assumption) | exact pw_cell_below (below_drew1 (Below.refl _ _)) (by assumption))), (by (first | (with_reducible assumption) | exact pw_cell_below hb5 (by assumption) | exact pw_cell_below (below_alloc (Below.refl _ _) _) (by assumption) | exact pw_cell_below (pw_below_drewN (Below.refl _ _) _) (by assumption) | exact pw_cell_below (pw_below_drewN (below_alloc (Below.refl _ _) _) _) (by assumption) | exact pw_cell_below (below_drew1 (Below.refl _ _)) (by assumption))), (by (repeat (first | (with_reducible assumption) | (with_reducible refine Kd.C_below ?_ hb5) | (with_reducible refine Kd.C_alloc ?_ _) | (with_reducible refine Kd.C_drewN ?_ _) | (with_reducible refine Kd.C_drew ?_)))), (by (repeat (first | (with_reducible assumption) | (with_reducible refine Kd.C_below ?_ hb5) | (with_reducible refine Kd.C_alloc ?_ _) | (with_reducible refine Kd.C_drewN ?_ _) | (with_reducible refine Kd.C_drew ?_)))), (by (repeat (first | (with_reducible assumption) | (with_reducible refine below_step ?_ hb5) | (with_reducible refine below_alloc ?_ _) | (with_reducible refine pw_below_drewN ?_ _) | (with_reducible refine below_drew1 ?_))))⟩) | (go_split_ands; refine ⟨(by (first | (with_reducible assumption) | assumption | exact pw_cell_below (below_alloc (Below.refl _ _) _) (by assumption) | exact pw_cell_below (pw_below_drewN (Below.refl _ _) _) (by assumption) | exact pw_cell_below (pw_below_drewN (below_alloc (Below.refl _ _) _) _) (by assumption) | exact pw_cell_below (below_drew1 (Below.refl _ _)) (by assumption))), (by (first | (with_reducible assumption) | assumption | exact pw_cell_below (below_alloc (Below.refl _ _) _) (by assumption) | exact pw_cell_below (pw_below_drewN (Below.refl _ _) _) (by assumption) | exact pw_cell_below (pw_below_drewN (below_alloc (Below.refl _ _) _) _) (by assumption) | exact pw_cell_below (below_drew1 (Below.refl _ _)) (by assumption))), (by (first | (with_reducible assumption) | assumption | exact pw_cell_below (below_alloc (Below.refl _ _) _) (by assumption) | exact pw_cell_below (pw_below_drewN (Below.refl _ _) _) (by assumption) | exact pw_cell_below (pw_below_drewN (below_alloc (Below.refl _ _) _) _) (by assumption) | exact pw_cell_below (below_drew1 (Below.refl _ _)) (by assumption))), (by (repeat (first | (with_reducible assumption) | (with_reducible refine Kd.C_alloc ?_ _) | (with_reducible refine Kd.C_drewN ?_ _) | (with_reducible refine Kd.C_drew ?_)))), (by (repeat (first | (with_reducible assumption) | (with_reducible refine Kd.C_alloc ?_ _) | (with_reducible refine Kd.C_drewN ?_ _) | (with_reducible refine Kd.C_drew ?_)))), (by (repeat (first | (with_reducible assumption) | (with_reducible refine below_alloc ?_ _) | (with_reducible refine pw_below_drewN ?_ _) | (with_reducible refine below_drew1 ?_))))⟩)) (first | (go_at_call 67; go_split_ands; (with_reducible refine (WE.out _ _ _ _ _ ?hA ?hB).mono ?_); (case hA => repeat (first | (with_reducible assumption) | ((with_reducible refine HLIT.out _ _ ?_); first | rfl | (simp; done)) | (with_reducible refine Kd.C_below ?_ hb5) | (with_reducible refine Kd.C_alloc ?_ _) | (with_reducible refine Kd.C_drewN ?_ _) | (with_reducible refine Kd.C_drew ?_))); (case hB => repeat (first | (with_reducible assumption) | ((with_reducible refine HLIT.out _ _ ?_); first | rfl | (simp; done)) | (with_reducible refine Kd.C_below ?_ hb5) | (with_reducible refine Kd.C_alloc ?_ _) | (with_reducible refine Kd.C_drewN ?_ _) | (with_reducible refine Kd.C_drew ?_))); rintro e w' ⟨rfl, ⟨nd, rfl⟩⟩) | (go_at_call 63; go_split_ands; (with_reducible refine (WC.out _ _ _ (by assumption) HK1.out).mono ?_); rintro e w6 ⟨g6, c6, rfl, hg6, hc6, hC6, hb5⟩) | (go_at_call 24; go_split_ands; (with_reducible refine (WQ.out _ _ _ _ _ ?hA ?hB).mono ?_); (case hA => repeat (first | (with_reducible assumption) | ((with_reducible refine Z8 _ _ ?_); first | rfl | (simp; done)) | (with_reducible refine Kd.C_below ?_ hb5) | (with_reducible refine Kd.C_alloc ?_ _) | (with_reducible refine Kd.C_drewN ?_ _) | (with_reducible refine Kd.C_drew ?_))); (case hB => repeat (first | (with_reducible assumption) | ((with_reducible refine Z8 _ _ ?_); first | rfl | (simp; done)) | (with_reducible refine Kd.C_below ?_ hb5) | (with_reducible refine Kd.C_alloc ?_ _) | (with_reducible refine Kd.C_drewN ?_ _) | (with_reducible refine Kd.C_drew ?_))); rintro e w' ⟨rfl, h_⟩; have h_ := h_.symm; subst h_) | fail)
  all_goals go_split_ands
  all_goals refine go_on8 ?_
  all_goals go_wp2
  all_goals go_ret
  all_goals exact ⟨by first | rfl | simp, by assumption⟩
end Go.Proofs.Ytdknolnoimpgeaa.K
namespace Go.Proofs.Ytdknolnoimpgeaa.K
open Go.RowKit Go.Shelf Go.Lib Go.Proofs.YtdknolnoimpgeaaW.PrintWords Go.Proofs.YtdknolnoimpgeaaW.PrintLast Go.Proofs.YtdknolnoimpgeaaW.PrintMore
set_option linter.unusedVariables false
set_option linter.unusedSimpArgs false
set_option maxRecDepth 100000 in
theorem delEn0_walk (A : Option Addr) (c : Nat) (p : Ent → Bool) (f : Nat) (lb : Array Value) (w : World)
    (eg : ∀ args w, (callFunc f args).run Try.prog w = .ok (.enter f args) w) (hp : ∀ W x, Below w.heap.size w W → Calls Try.prog f (#[.agg #[.int .i64 x.sl, .int .i64 x.ino, .string x.nm]] ++ lb) W fun e w' => e = .returned (.bool (p x)) ∧ Below W.heap.size W w') :
    Calls Try.prog 64 #[.slice A 0 c, .func (.func f) #[] lb] w fun e w' => e = .returned (.slice A 0 c) ∧ Below w.heap.size w w' := by
  have WI : Aside0 (Calls Try.prog 116 #[.slice A 0 c, .func (.func f) #[] lb] w fun e w' => e = .returned (.int .i64 (idxP p [])) ∧ Below w.heap.size w w') := ⟨idxEn_walk A c [] p f lb w ⟨rfl, by simp, fun h => absurd h (by simp)⟩ (by simp) eg hp⟩
  have HB := Aside0.mk (Below.refl w.heap.size w)
  rw [show idxP p ([] : List Ent) = -1 by rfl] at WI
  clear hp
  go_enter Try.func64, Try.ntmps64
  go_wp2_with (go_at_call 116; (with_reducible refine WI.out.mono ?_); rintro e w1 ⟨rfl, hb⟩; have n1_ : Aside0 (Below w.heap.size w w1) := ⟨below_step (by repeat (first | (with_reducible first | exact HB.out | apply below_alloc | apply pw_below_drewN | apply below_drew1) | exact HB.out)) hb⟩; clear HB; have HB := n1_; clear n1_; clear hb)
  go_ret
  exact ⟨rfl, HB.out⟩
/-- slices.DeleteFunc of a row of one's own, by the law's closure. -/
theorem delY_walk (g c : Nat) (cs : Array Value) (X Y : List Ent) (at_ : Int) (B13 : Nat) (W : World) (hY : Y = X.filter (fun e => !(e.sl == at_))) (bk : W.heap[g]? = some (.cells cs 62 (0, 0))) (hcs : cs.toList.take (X.length * 3) = X.flatMap Ent.enc) (hsz : X.length * 3 ≤ cs.size) (hc : X.length ≤ c) (hL : X.length ≤ 1000000)
    (h13 : W.cell? ⟨B13, 0, none⟩ = some (.int .i64 at_)) (hne : B13 ≠ g) :
    Calls Try.prog 64 #[.slice (some ⟨g, 0, none⟩) X.length c, .func (.func 66) #[] #[.pointer (some ⟨B13, 0, none⟩)]] W fun e w' => e = .returned (.slice (some ⟨g, 0, none⟩) Y.length c) ∧ Kd.C kEnt w' (some ⟨g, 0, none⟩) Y.length Y ∧ W.grownBy w' (some g) := by
  have hlt := World.block_lt_of_cell? _ _ h13
  refine (delEn_walk g c cs X (fun e => e.sl == at_) _ _ W bk hcs hsz hc hL (enters_of Try.func66 (by kernel_rfl) rfl) (fun W' x hg => ?_)).mono ?_
  · exact back1_walk x at_ B13 W' ((World.cell?_of_block (a := ⟨B13, 0, none⟩) (hg.block B13 hlt (fun e => hne (Option.some.inj e)))).trans h13)
  · rintro e w' ⟨rfl, cs', bk', hs', ht', hg⟩
    rw [← hY] at ht' ⊢
    refine ⟨rfl, Kd.C_blk bk' ht' ?_, hg⟩
    have := List.length_filter_le (fun e : Ent => !(e.sl == at_)) X
    rw [← hY] at this
    omega
set_option maxHeartbeats 8000000 in
set_option maxRecDepth 100000 in
theorem l08_Back (A : Option Addr) (c : Nat) (l : List Ent) (wh sq : Int) (w : World) (hr : Kd.C kEnt w A l.length l) (hl : l.length ≤ 9223372036854775807) (p0 : 0 ≤ wh) (p1 : wh ≤ 255) (q0 : 0 ≤ sq) (q1 : sq ≤ 255) :
    Calls Try.prog 11 #[.slice A l.length c, .int .u8 wh, .int .u8 sq] w fun e w' => e = .returned (.bool true) ∧ Below w.heap.size w w' := by
  have HR := Aside0.mk hr
  have HB := Aside0.mk (Below.refl w.heap.size w)
  by_cases h40 : (l.length : Int) ≤ 40
  case neg =>
    clear hr
    go_enter Try.func11, Try.ntmps11
    go_wp2_with (go_at_call 53; (with_reducible refine (l08_awake _).mono ?_); rintro e w9 ⟨rfl, hb⟩; have n1_ : Aside0 (Below w.heap.size w w9) := ⟨below_step (by repeat (first | (with_reducible first | exact HB.out | apply below_alloc | apply pw_below_drewN | apply below_drew1) | exact HB.out)) hb⟩; clear HB; have HB := n1_; clear n1_; clear hb)
    go_ret
    exact ⟨rfl, HB.out⟩
  obtain ⟨k, hk, k0, k1⟩ : ∃ k : Int, Int.tmod wh 4 = k ∧ 0 ≤ k ∧ k < 4 := ⟨wh % 4, by rw [Int.tmod_eq_emod_of_nonneg p0], by omega, by omega⟩
  obtain ⟨q, hq, hq4⟩ : ∃ q : Nat, Int.tmod sq 4 = q ∧ q < 4 := ⟨(sq % 4).toNat, by rw [Int.tmod_eq_emod_of_nonneg q0]; omega, by omega⟩
  obtain ⟨f, hf⟩ : ∃ f : Nat → Option Ent, f = fun (j : Nat) => l.find? (slotP (4 * k + (j : Int))) := ⟨_, rfl⟩
  have okf : ∀ j : Nat, okO (4 * k + (j : Int)) (f j) := fun j => by rw [hf]; exact find_ok _ _
  have hBf : blockE l k = cat4 f := by rw [hf]; exact blockE_cat l k0 k1
  obtain ⟨B, hB⟩ : ∃ B, B = cat4 f := ⟨_, rfl⟩
  obtain ⟨X, hX⟩ : ∃ X, X = list4 f := ⟨_, rfl⟩
  obtain ⟨Y, hY⟩ : ∃ Y, Y = list4 (without f q) := ⟨_, rfl⟩
  have hX4 : X.length ≤ 4 := by rw [hX]; exact list4_le f
  have hY4 : Y.length ≤ 4 := by rw [hY]; exact list4_le _
  have hBl : B.length = 64 := by rw [hB]; exact cat4_length okf
  have hBb : Byts B := by rw [hB]; exact cat4_byts okf
  have FX : Aside0 (∀ m (hm : m < X.length), X[m] ∈ l ∧ ∃ j : Nat, j < 4 ∧ X[m].sl = 4 * k + j) := ⟨fun m hm => by
    have hmem : X[m] ∈ list4 f := by rw [← hX]; exact List.getElem_mem hm
    obtain ⟨j, hj, he⟩ := list4_mem hmem
    refine ⟨?_, j, hj, (okf j _ he).2⟩
    rw [hf] at he
    exact List.mem_of_find?_eq_some he⟩
  have FR : Aside0 (∀ m (hm : m < X.length), ∀ (h0 : 0 < m), (X[m - 1]'(by omega)).sl < X[m].sl) := ⟨fun m hm h0 => by
    have := List.pairwise_iff_getElem.1 (show X.Pairwise (fun a b => a.sl < b.sl) by rw [hX]; exact list4_rise okf) (m - 1) m (by omega) hm (by omega)
    exact this⟩
  have WB : Aside0 (∀ W, Kd.C kEnt W A l.length l → Calls Try.prog 60 #[.slice A l.length c, .int .i64 k] W fun e w' => ∃ g c', e = .returned (.slice (some ⟨g, 0, none⟩) 64 c') ∧ W.heap.size ≤ g ∧ 64 ≤ c' ∧ Kd.C (Kd.int .u8) w' (some ⟨g, 0, none⟩) 64 B ∧ Below W.heap.size W w') := ⟨fun W h => by
    have := block_walk A c l k W h hl k0 k1
    rw [hBf, ← hB] at this
    exact this⟩
  have WB2 : Aside0 (∀ Ax cx W, Kd.C kEnt W Ax X.length X → Calls Try.prog 60 #[.slice Ax X.length cx, .int .i64 k] W fun e w' => ∃ g c', e = .returned (.slice (some ⟨g, 0, none⟩) 64 c') ∧ W.heap.size ≤ g ∧ 64 ≤ c' ∧ Kd.C (Kd.int .u8) w' (some ⟨g, 0, none⟩) 64 B ∧ Below W.heap.size W w') := ⟨fun Ax cx W h => by
    have := block_walk Ax cx X k W h (by omega) k0 k1
    rw [hX, block_list4 k0 k1 okf, ← hB, ← hX] at this
    exact this⟩
  have WP : Aside0 (∀ g c W, Kd.C (Kd.int .u8) W (some ⟨g, 0, none⟩) 64 B → 64 ≤ c → Calls Try.prog 61 #[.slice (some ⟨g, 0, none⟩) 64 c, .int .i64 k] W fun e w' => ∃ Al cl, e = .returned (.tuple #[.slice Al X.length cl, .slice none 0 0]) ∧ Kd.C kEnt w' Al X.length X ∧ X.length ≤ cl ∧ Below W.heap.size W w') := ⟨fun g c W h hc => by
    refine (parse_walk g c B k W h hBl hc hBb k0 k1 (by rw [hB]; exact cat4_ok okf)).mono ?_
    rintro e w' ⟨vl, rfl, ho, hb⟩
    rw [hB, parse_cat k0 k1 okf, ← hX] at ho
    obtain ⟨Al, cl, rfl⟩ := Kd.R_slice ho
    exact ⟨Al, cl, rfl, (Kd.R_reads' ho).2.2, (Kd.R_reads' ho).2.1, hb⟩⟩
  obtain ⟨B2, hB2⟩ : ∃ B2, B2 = cat4 (without f q) := ⟨_, rfl⟩
  have hs4 : (4 * k + (q : Int)) % 4 = q := by omega
  have hB2l : B2.length = 64 := by rw [hB2]; exact cat4_length (without_ok okf q)
  have hB2b : Byts B2 := by rw [hB2]; exact cat4_byts (without_ok okf q)
  have WC : Aside0 (∀ g c W, Kd.C (Kd.int .u8) W (some ⟨g, 0, none⟩) 64 B → 64 ≤ c → Calls Try.prog 63 #[.slice (some ⟨g, 0, none⟩) 64 c, .int .i64 (4 * k + (q : Int))] W fun e w' => ∃ g c', e = .returned (.slice (some ⟨g, 0, none⟩) 64 c') ∧ W.heap.size ≤ g ∧ 64 ≤ c' ∧ Kd.C (Kd.int .u8) w' (some ⟨g, 0, none⟩) 64 B2 ∧ Below W.heap.size W w') := ⟨fun g c W h hc => by
    have h' : Kd.C (Kd.int .u8) W (some ⟨g, 0, none⟩) B.length B := by rw [hBl]; exact h
    have := clear_walk (some ⟨g, 0, none⟩) c B (4 * k + (q : Int)) W h' (by omega) hBl (by omega) (by omega)
    rw [hB, clear_cat okf hs4 hq4, ← hB2] at this
    exact this⟩
  have WP2 : Aside0 (∀ g c W, Kd.C (Kd.int .u8) W (some ⟨g, 0, none⟩) 64 B2 → 64 ≤ c → Calls Try.prog 61 #[.slice (some ⟨g, 0, none⟩) 64 c, .int .i64 k] W fun e w' => ∃ Al cl, e = .returned (.tuple #[.slice Al Y.length cl, .slice none 0 0]) ∧ Kd.C kEnt w' Al Y.length Y ∧ Below W.heap.size W w') := ⟨fun g c W h hc => by
    refine (parse_walk g c B2 k W h hB2l hc hB2b k0 k1 (by rw [hB2]; exact cat4_ok (without_ok okf q))).mono ?_
    rintro e w' ⟨vl, rfl, ho, hb⟩
    rw [hB2, parse_cat k0 k1 (without_ok okf q), ← hY] at ho
    obtain ⟨Al, cl, rfl⟩ := Kd.R_slice ho
    exact ⟨Al, cl, rfl, (Kd.R_reads' ho).2.2, hb⟩⟩
  have hYX : Y = X.filter (fun e => !(e.sl == 4 * k + (q : Int))) := by rw [hY, hX]; exact list4_without okf hq4
  have WQ : Aside0 (∀ A1 c1 A2 c2 W, Kd.C (Kd.int .u8) W A1 64 B → Kd.C (Kd.int .u8) W A2 64 B → Calls Try.prog 24 #[.slice A1 64 c1, .slice A2 64 c2] W fun e w' => e = .returned (.bool true) ∧ w' = W) := ⟨fun A1 c1 A2 c2 W h1 h2 => by
    have := bEq_same A1 c1 B A2 c2 B W (by rw [hBl]; exact h1) (by rw [hBl]; exact h2) hBb hBb
    rw [hBl] at this
    simpa using this⟩
  have WE : Aside0 (∀ A1 c1 A2 c2 W, Kd.C kEnt W A1 Y.length Y → Kd.C kEnt W A2 Y.length Y → Calls Try.prog 67 #[.slice A1 Y.length c1, .slice A2 Y.length c2] W fun e w' => e = .returned (.bool true) ∧ Drawn0 W w') := ⟨fun A1 c1 A2 c2 W h1 h2 => by have := eqEn_walk A1 c1 Y A2 c2 Y W h1 h2 (by omega); simpa using this⟩
  have WK : Aside0 (∀ Ax cx W, Kd.C kEnt W Ax X.length X → X.length ≤ cx → Calls Try.prog 65 #[.slice Ax X.length cx] W fun e w' => ∃ v : Value, e = .returned v ∧ Kd.R kEnt 62 w' W.heap.size (fun _ => True) v X ∧ Below W.heap.size W w') := ⟨fun Ax cx W h hc => cloneEn_walk Ax cx X W h hc (by omega)⟩
  have WN : Aside0 (∀ x W, x ∈ l → Kd.C kEnt W A l.length l → Calls Try.prog 62 #[.slice A l.length c, .agg #[.int .i64 x.sl, .int .i64 x.ino, .string x.nm]] W fun e w' => e = .returned (.bool true) ∧ Below W.heap.size W w') := ⟨fun x W hx h => containsE_walk A c l x W h hl hx⟩
  have HYX := Aside0.mk hYX
  have WD : Aside0 (∀ g c cs B13 W, W.heap[g]? = some (.cells cs 62 (0, 0)) → cs.toList.take (X.length * 3) = X.flatMap Ent.enc → X.length * 3 ≤ cs.size → X.length ≤ c → W.cell? ⟨B13, 0, none⟩ = some (.int .i64 (4 * k + (q : Int))) → B13 ≠ g → Calls Try.prog 64 #[.slice (some ⟨g, 0, none⟩) X.length c, .func (.func 66) #[] #[.pointer (some ⟨B13, 0, none⟩)]] W fun e w' => e = .returned (.slice (some ⟨g, 0, none⟩) Y.length c) ∧ Kd.C kEnt w' (some ⟨g, 0, none⟩) Y.length Y ∧ W.grownBy w' (some g)) :=
    ⟨fun g c cs B13 W bk h1 h2 h3 h4 h5 => delY_walk g c cs X Y (4 * k + (q : Int)) B13 W hYX bk h1 h2 h3 (by omega) h4 h5⟩
  have WD0 : Aside0 (∀ A c B13 W, W.cell? ⟨B13, 0, none⟩ = some (.int .i64 (4 * k + (q : Int))) → Calls Try.prog 64 #[.slice A 0 c, .func (.func 66) #[] #[.pointer (some ⟨B13, 0, none⟩)]] W fun e w' => e = .returned (.slice A 0 c) ∧ Below W.heap.size W w') :=
    ⟨fun A c B13 W h => delEn0_walk A c (fun e => e.sl == 4 * k + (q : Int)) _ _ W (enters_of Try.func66 (by kernel_rfl) rfl) (fun W' x hb => back1_walk x _ B13 W' (pw_cell_below hb h))⟩
  obtain ⟨nX, hnX⟩ : ∃ nX, nX = X.length := ⟨_, rfl⟩
  obtain ⟨nY, hnY⟩ : ∃ nY, nY = Y.length := ⟨_, rfl⟩
  rw [← hnX] at WB2 WP WK WD
  rw [← hnY] at WP2 WE WD
  have HNX := Aside0.mk hnX
  have HNY := Aside0.mk hnY
  have hx4 : nX ≤ 4 := by omega
  have hw4 : RowKit.wrap64 (4 * k) = 4 * k := by unfold RowKit.wrap64; omega
  have hw5 : RowKit.wrap64 (4 * k + (q : Int)) = 4 * k + (q : Int) := by unfold RowKit.wrap64; omega
  clear hr hf okf hBf hB hX hY hX4 hY4 hBl hBb hB2 hs4 hB2l hB2b hYX hnX hnY
  go_enter Try.func11, Try.ntmps11
  go_wp2_with (first | (go_at_call 60; (with_reducible refine (WB.out _ HR.out).mono ?_); rintro e w1 ⟨g1, c1, rfl, hg1, hc1, hC, hb⟩; have HC1 := Aside0.mk hC; have HK1 := Aside0.mk hc1; have n1_ : Aside0 (Below w.heap.size w w1) := ⟨below_step (by repeat (first | (with_reducible first | exact HB.out | apply below_alloc | apply pw_below_drewN | apply below_drew1) | exact HB.out)) hb⟩; clear HB; have HB := n1_; clear n1_; clear hg1 hc1 hC hb) | (go_at_call 61; (with_reducible refine (WP.out _ _ _ HC1.out HK1.out).mono ?_); rintro e w2 ⟨Ax, cx, rfl, hC, hcx, hb⟩; have n_ := Aside0.mk (Kd.C_below HC1.out (by first | exact hb | exact below_undrew hb)); clear HC1; have HC1 := n_; clear n_; have HCX := Aside0.mk hC; have HKX := Aside0.mk hcx; have n1_ : Aside0 (Below w.heap.size w w2) := ⟨below_step (by repeat (first | (with_reducible first | exact HB.out | apply below_alloc | apply pw_below_drewN | apply below_drew1) | exact HB.out)) hb⟩; clear HB; have HB := n1_; clear n1_; clear hC hcx hb))
  have HL2 := Aside0.mk (Kd.C_below HR.out HB.out)
  have HB2 := Aside0.mk HB.out
  clear HB HR
  go_loopw [35] (fun v35 w' => ∃ m : Nat, v35 = .int .i64 m ∧ Aside0 (m ≤ nX) ∧ Aside0 (Below w2.heap.size w2 w')) (fun i _ => nX - (intOf i).toNat)
  case atStart => exact ⟨0, rfl, ⟨Nat.zero_le _⟩, ⟨Below.refl _ _⟩⟩
  case round =>
    obtain ⟨m, rfl, hm, HW⟩ := hrel
    have hm' := hm.out
    by_cases hlt : m < nX
    · have hltX : m < X.length := by rw [← HNX.out]; exact hlt
      obtain ⟨ad, rfl, hx, hxs⟩ := Kd.at_flatA (Kd.C_below HCX.out HW.out) hltX
      obtain ⟨hin, j, hj4, hsl⟩ := FX.out m hltX
      have hrise := FR.out m hltX
      obtain ⟨x, hxx⟩ : ∃ x, x = X[m] := ⟨_, rfl⟩
      rw [← hxx] at hx hxs hin hsl hrise
      have x0 := hx _ rfl
      have x1 := hxs 0 _ rfl
      have x2 := hxs 1 _ rfl
      simp only [Nat.reduceAdd] at x1 x2
      obtain ⟨xs_, xi, xn⟩ := x
      simp only at x0 x1 x2 hsl hrise
      have hquo : Int.tdiv xs_ 4 = k := by rw [Int.tdiv_eq_ediv_of_nonneg (by omega)]; omega
      have hwk : RowKit.wrap64 k = k := by unfold RowKit.wrap64; omega
      have WX := Aside0.mk (fun W => WN.out ⟨xs_, xi, xn⟩ W hin)
      have HLr := Aside0.mk (Kd.C_below HL2.out HW.out)
      rcases Nat.eq_zero_or_pos m with rfl | hm0
      · rw [show ad.add (0 * 3) = ad by simp [Addr.add]] at x0 x1 x2
        clear hx hxs hxx hin hsl hrise
        go_wp2
        obtain ⟨wE, hwE⟩ : ∃ wE, wE = wr.alloc (.cells #[.int .i64 xs_, .int .i64 xi, .string xn] 62) := ⟨_, rfl⟩
        have HWE : Aside0 (Below w2.heap.size w2 wE) := ⟨by rw [hwE]; exact below_alloc HW.out _⟩
        have z1 : Kd.C kEnt wE A l.length l := by rw [hwE]; exact Kd.C_alloc HLr.out _
        have EB : wE.heap[wr.heap.size]? = some (.cells #[.int .i64 xs_, .int .i64 xi, .string xn] 62 (0, 0)) := by rw [hwE]; exact heap_alloc_new _ _
        have e0 : wE.cell? ⟨wr.heap.size, 0, none⟩ = some (.int .i64 xs_) := (blk_cell EB 0).trans rfl
        have e1 : wE.cell? ⟨wr.heap.size, 1, none⟩ = some (.int .i64 xi) := (blk_cell EB 1).trans rfl
        have e2 : wE.cell? ⟨wr.heap.size, 2, none⟩ = some (.string xn) := (blk_cell EB 2).trans rfl
        have z3 := Below.refl wE.heap.size wE
        have hlt0 := World.block_lt_of_cell? _ _ e0
        refine go_on8 ?_
        rw [← hwE]
        clear hwE EB HW HLr x0 x1 x2
        refine start_ (n := 26) (S := fun w' => w'.cell? ⟨wr.heap.size, 0, none⟩ = some (.int .i64 xs_) ∧ w'.cell? ⟨wr.heap.size, 1, none⟩ = some (.int .i64 xi) ∧ w'.cell? ⟨wr.heap.size, 2, none⟩ = some (.string xn)) (ds := []) #[false, false, false, false, false, false, false, false, false, false, false, false, false, false, false, false, false, false, false, false, false, false, false, false, false, false] (by kernel_rfl) rfl rfl ⟨e0, e1, e2⟩ (fun hHeld => ?_)
        refine pure_ (i := 0) (N := some 40) (v := ?_) (a' := ?_) #[true, false, false, false, false, false, false, false, false, false, false, false, false, false, false, false, false, false, false, false, false, false, false, false, false, false] rfl rfl (by kernel_rfl) (fun _ _ _ h => h) (Or.inl ⟨by rfl, ?_⟩) ?_ ?_
        rotate_left
        · intro w'
          go_simp
          with_reducible rfl
        rotate_left
        · simp only [Act.put, List.setIfInBounds_toArray, List.set_cons_zero, List.set_cons_succ, i64_w, i32_w]
          rfl
        refine take_ (i := 1) (N := some 41) (v := ?_) (a' := ?_) #[true, true, false, false, false, false, false, false, false, false, false, false, false, false, false, false, false, false, false, false, false, false, false, false, false, false] rfl rfl (by kernel_rfl) (fun _ _ _ h => h) (Or.inl ⟨by rfl, ?_⟩) hHeld ?_ ?_
        rotate_left
        · rintro w' ⟨s0, s1, s2⟩
          go_simp
          with_reducible rfl
        rotate_left
        · simp only [Act.put, List.setIfInBounds_toArray, List.set_cons_zero, List.set_cons_succ, i64_w, i32_w]
          rfl
        refine one_ (i := 2) (N := some 42) #[true, true, true, false, false, false, false, false, false, false, false, false, false, false, false, false, false, false, false, false, false, false, false, false, false, false] rfl rfl (by kernel_rfl) (by decide) (fun K hK => ?_)
        refine goes_ Try.func62 (by kernel_rfl) rfl #[.slice A l.length c, .agg #[.int .i64 xs_, .int .i64 xi, .string xn]] (by rfl) rfl rfl (by simp only [List.map_toArray, List.map_cons, List.map_nil]; rfl) ?_
        with_reducible refine (WX.out wE.drew (Kd.C_drew z1)).mono ?_
        rintro e w6 ⟨rfl, hb5⟩
        refine ⟨_, rfl, ?_⟩
        refine hK.out _ _ ⟨pw_cell_below hb5 (show wE.drew.cell? _ = _ from e0), pw_cell_below hb5 (show wE.drew.cell? _ = _ from e1), pw_cell_below hb5 (show wE.drew.cell? _ = _ from e2)⟩ (fun hHeld => ?_)
        clear hK K
        refine norm_ (a' := ?_) ?_ ?_
        rotate_left
        · show Act.put _ (some 42) _ = _
          simp only [Act.put, List.setIfInBounds_toArray, List.set_cons_zero, List.set_cons_succ, i64_w, i32_w]
          rfl
        refine pure_ (i := 3) (N := some 43) (v := ?_) (a' := ?_) #[true, true, true, true, false, false, false, false, false, false, false, false, false, false, false, false, false, false, false, false, false, false, false, false, false, false] rfl rfl (by kernel_rfl) (fun _ _ _ h => h) (Or.inl ⟨by rfl, ?_⟩) ?_ ?_
        rotate_left
        · intro w'
          go_simp
          with_reducible rfl
        rotate_left
        · simp only [Act.put, List.setIfInBounds_toArray, List.set_cons_zero, List.set_cons_succ, i64_w, i32_w]
          rfl
        refine pure_ (i := 4) (N := some 44) (v := ?_) (a' := ?_) #[true, true, true, true, true, false, false, false, false, false, false, false, false, false, false, false, false, false, false, false, false, false, false, false, false, false] rfl rfl (by kernel_rfl) (fun _ _ _ h => h) (Or.inl ⟨by rfl, ?_⟩) ?_ ?_
        rotate_left
        · intro w'
          go_simp
          with_reducible rfl
        rotate_left
        · simp only [Act.put, List.setIfInBounds_toArray, List.set_cons_zero, List.set_cons_succ, i64_w, i32_w]
          rfl
        refine pure_ (i := 5) (N := some 45) (v := ?_) (a' := ?_) #[true, true, true, true, true, true, false, false, false, false, false, false, false, false, false, false, false, false, false, false, false, false, false, false, false, false] rfl rfl (by kernel_rfl) (fun _ _ _ h => h) (Or.inl ⟨by rfl, ?_⟩) ?_ ?_
        rotate_left
        · intro w'
          go_simp
          with_reducible rfl
        rotate_left
        · simp only [Act.put, List.setIfInBounds_toArray, List.set_cons_zero, List.set_cons_succ, i64_w, i32_w]
          rfl
        refine pure_ (i := 6) (N := some 46) (v := ?_) (a' := ?_) #[true, true, true, true, true, true, true, false, false, false, false, false, false, false, false, false, false, false, false, false, false, false, false, false, false, false] rfl rfl (by kernel_rfl) (fun _ _ _ h => h) (Or.inl ⟨by rfl, ?_⟩) ?_ ?_
        rotate_left
        · intro w'
          go_simp
          with_reducible rfl
        rotate_left
        · simp only [Act.put, List.setIfInBounds_toArray, List.set_cons_zero, List.set_cons_succ, i64_w, i32_w]
          rfl
        refine pure_ (i := 7) (N := some 47) (v := ?_) (a' := ?_) #[true, true, true, true, true, true, true, true, false, false, false, false, false, false, false, false, false, false, false, false, false, false, false, false, false, false] rfl rfl (by kernel_rfl) (fun _ _ _ h => h) (Or.inl ⟨by rfl, ?_⟩) ?_ ?_
        rotate_left
        · intro w'
          go_simp
          with_reducible rfl
        rotate_left
        · simp only [Act.put, List.setIfInBounds_toArray, List.set_cons_zero, List.set_cons_succ, i64_w, i32_w]
          rfl
        refine pure_ (i := 8) (N := some 48) (v := undef) (a' := ?_) #[true, true, true, true, true, true, true, true, true, false, false, false, false, false, false, false, false, false, false, false, false, false, false, false, false, false] rfl rfl (by kernel_rfl) (fun _ _ _ h => h) (Or.inr ⟨by rfl, rfl⟩) ?_ ?_
        rotate_left
        · simp only [Act.put, List.setIfInBounds_toArray, List.set_cons_zero, List.set_cons_succ, i64_w, i32_w]
          rfl
        refine pure_ (i := 9) (N := some 49) (v := undef) (a' := ?_) #[true, true, true, true, true, true, true, true, true, true, false, false, false, false, false, false, false, false, false, false, false, false, false, false, false, false] rfl rfl (by kernel_rfl) (fun _ _ _ h => h) (Or.inr ⟨by rfl, rfl⟩) ?_ ?_
        rotate_left
        · simp only [Act.put, List.setIfInBounds_toArray, List.set_cons_zero, List.set_cons_succ, i64_w, i32_w]
          rfl
        refine pure_ (i := 10) (N := some 50) (v := undef) (a' := ?_) #[true, true, true, true, true, true, true, true, true, true, true, false, false, false, false, false, false, false, false, false, false, false, false, false, false, false] rfl rfl (by kernel_rfl) (fun _ _ _ h => h) (Or.inr ⟨by rfl, rfl⟩) ?_ ?_
        rotate_left
        · simp only [Act.put, List.setIfInBounds_toArray, List.set_cons_zero, List.set_cons_succ, i64_w, i32_w]
          rfl
        refine pure_ (i := 11) (N := some 51) (v := undef) (a' := ?_) #[true, true, true, true, true, true, true, true, true, true, true, true, false, false, false, false, false, false, false, false, false, false, false, false, false, false] rfl rfl (by kernel_rfl) (fun _ _ _ h => h) (Or.inr ⟨by rfl, rfl⟩) ?_ ?_
        rotate_left
        · simp only [Act.put, List.setIfInBounds_toArray, List.set_cons_zero, List.set_cons_succ, i64_w, i32_w]
          rfl
        refine pure_ (i := 12) (N := some 52) (v := undef) (a' := ?_) #[true, true, true, true, true, true, true, true, true, true, true, true, true, false, false, false, false, false, false, false, false, false, false, false, false, false] rfl rfl (by kernel_rfl) (fun _ _ _ h => h) (Or.inr ⟨by rfl, rfl⟩) ?_ ?_
        rotate_left
        · simp only [Act.put, List.setIfInBounds_toArray, List.set_cons_zero, List.set_cons_succ, i64_w, i32_w]
          rfl
        refine pure_ (i := 13) (N := some 53) (v := undef) (a' := ?_) #[true, true, true, true, true, true, true, true, true, true, true, true, true, true, false, false, false, false, false, false, false, false, false, false, false, false] rfl rfl (by kernel_rfl) (fun _ _ _ h => h) (Or.inr ⟨by rfl, rfl⟩) ?_ ?_
        rotate_left
        · simp only [Act.put, List.setIfInBounds_toArray, List.set_cons_zero, List.set_cons_succ, i64_w, i32_w]
          rfl
        refine pure_ (i := 14) (N := some 54) (v := undef) (a' := ?_) #[true, true, true, true, true, true, true, true, true, true, true, true, true, true, true, false, false, false, false, false, false, false, false, false, false, false] rfl rfl (by kernel_rfl) (fun _ _ _ h => h) (Or.inr ⟨by rfl, rfl⟩) ?_ ?_
        rotate_left
        · simp only [Act.put, List.setIfInBounds_toArray, List.set_cons_zero, List.set_cons_succ, i64_w, i32_w]
          rfl
        refine pure_ (i := 15) (N := some 55) (v := undef) (a' := ?_) #[true, true, true, true, true, true, true, true, true, true, true, true, true, true, true, true, false, false, false, false, false, false, false, false, false, false] rfl rfl (by kernel_rfl) (fun _ _ _ h => h) (Or.inr ⟨by rfl, rfl⟩) ?_ ?_
        rotate_left
        · simp only [Act.put, List.setIfInBounds_toArray, List.set_cons_zero, List.set_cons_succ, i64_w, i32_w]
          rfl
        refine pure_ (i := 16) (N := some 56) (v := undef) (a' := ?_) #[true, true, true, true, true, true, true, true, true, true, true, true, true, true, true, true, true, false, false, false, false, false, false, false, false, false] rfl rfl (by kernel_rfl) (fun _ _ _ h => h) (Or.inr ⟨by rfl, rfl⟩) ?_ ?_
        rotate_left
        · simp only [Act.put, List.setIfInBounds_toArray, List.set_cons_zero, List.set_cons_succ, i64_w, i32_w]
          rfl
        refine pure_ (i := 17) (N := some 57) (v := ?_) (a' := ?_) #[true, true, true, true, true, true, true, true, true, true, true, true, true, true, true, true, true, true, false, false, false, false, false, false, false, false] rfl rfl (by kernel_rfl) (fun _ _ _ h => h) (Or.inl ⟨by rfl, ?_⟩) ?_ ?_
        rotate_left
        · intro w'
          go_simp
          with_reducible rfl
        rotate_left
        · simp only [Act.put, List.setIfInBounds_toArray, List.set_cons_zero, List.set_cons_succ, i64_w, i32_w]
          rfl
        refine pure_ (i := 18) (N := some 58) (v := ?_) (a' := ?_) #[true, true, true, true, true, true, true, true, true, true, true, true, true, true, true, true, true, true, true, false, false, false, false, false, false, false] rfl rfl (by kernel_rfl) (fun _ _ _ h => h) (Or.inl ⟨by rfl, ?_⟩) ?_ ?_
        rotate_left
        · intro w'
          go_simp
          with_reducible rfl
        rotate_left
        · simp only [Act.put, List.setIfInBounds_toArray, List.set_cons_zero, List.set_cons_succ, i64_w, i32_w]
          rfl
        refine pure_ (i := 19) (N := some 59) (v := ?_) (a' := ?_) #[true, true, true, true, true, true, true, true, true, true, true, true, true, true, true, true, true, true, true, true, false, false, false, false, false, false] rfl rfl (by kernel_rfl) (fun _ _ _ h => h) (Or.inl ⟨by rfl, ?_⟩) ?_ ?_
        rotate_left
        · intro w'
          go_simp
          with_reducible rfl
        rotate_left
        · simp only [Act.put, List.setIfInBounds_toArray, List.set_cons_zero, List.set_cons_succ, i64_w, i32_w]
          rfl
        refine pure_ (i := 20) (N := some 60) (v := ?_) (a' := ?_) #[true, true, true, true, true, true, true, true, true, true, true, true, true, true, true, true, true, true, true, true, true, false, false, false, false, false] rfl rfl (by kernel_rfl) (fun _ _ _ h => h) (Or.inl ⟨by rfl, ?_⟩) ?_ ?_
        rotate_left
        · intro w'
          go_simp
          with_reducible rfl
        rotate_left
        · simp only [Act.put, List.setIfInBounds_toArray, List.set_cons_zero, List.set_cons_succ, i64_w, i32_w]
          rfl
        refine pure_ (i := 23) (N := some 63) (v := ?_) (a' := ?_) #[true, true, true, true, true, true, true, true, true, true, true, true, true, true, true, true, true, true, true, true, true, false, false, true, false, false] rfl rfl (by kernel_rfl) (fun _ _ _ h => h) (Or.inl ⟨by rfl, ?_⟩) ?_ ?_
        rotate_left
        · intro w'
          go_simp
          with_reducible rfl
        rotate_left
        · simp only [Act.put, List.setIfInBounds_toArray, List.set_cons_zero, List.set_cons_succ, i64_w, i32_w]
          rfl
        refine take_ (i := 21) (N := some 61) (v := ?_) (a' := ?_) #[true, true, true, true, true, true, true, true, true, true, true, true, true, true, true, true, true, true, true, true, true, true, false, true, false, false] rfl rfl (by kernel_rfl) (fun _ _ _ h => h) (Or.inl ⟨by rfl, ?_⟩) hHeld ?_ ?_
        rotate_left
        · rintro w' ⟨s0, s1, s2⟩
          go_simp
          with_reducible rfl
        rotate_left
        · simp only [Act.put, List.setIfInBounds_toArray, List.set_cons_zero, List.set_cons_succ, i64_w, i32_w]
          rfl
        refine pure_ (i := 22) (N := some 62) (v := ?_) (a' := ?_) #[true, true, true, true, true, true, true, true, true, true, true, true, true, true, true, true, true, true, true, true, true, true, true, true, false, false] rfl rfl (by kernel_rfl) (fun _ _ _ h => h) (Or.inl ⟨by rfl, ?_⟩) ?_ ?_
        rotate_left
        · intro w'
          go_simp
          with_reducible rfl
        rotate_left
        · simp only [Act.put, List.setIfInBounds_toArray, List.set_cons_zero, List.set_cons_succ, i64_w, i32_w]
          rfl
        refine pure_ (i := 24) (N := some 64) (v := ?_) (a' := ?_) #[true, true, true, true, true, true, true, true, true, true, true, true, true, true, true, true, true, true, true, true, true, true, true, true, true, false] rfl rfl (by kernel_rfl) (fun _ _ _ h => h) (Or.inl ⟨by rfl, ?_⟩) ?_ ?_
        rotate_left
        · intro w'
          go_simp
          with_reducible rfl
        rotate_left
        · simp only [Act.put, List.setIfInBounds_toArray, List.set_cons_zero, List.set_cons_succ, i64_w, i32_w]
          rfl
        refine pure_ (i := 25) (N := some 65) (v := ?_) (a' := ?_) #[true, true, true, true, true, true, true, true, true, true, true, true, true, true, true, true, true, true, true, true, true, true, true, true, true, true] rfl rfl (by kernel_rfl) (fun _ _ _ h => h) (Or.inl ⟨by rfl, ?_⟩) ?_ ?_
        rotate_left
        · intro w'
          go_simp
          with_reducible rfl
        rotate_left
        · simp only [Act.put, List.setIfInBounds_toArray, List.set_cons_zero, List.set_cons_succ, i64_w, i32_w]
          rfl
        refine done_ (by kernel_rfl) ?_
        have HW6 := below_step (below_drew1 HWE.out) hb5
        refine go_on8 ?_
        go_wp2
        exact ⟨⟨0 + 1, rfl, ⟨by omega⟩, ⟨HW6⟩⟩, by simp [intOf]; omega⟩
      · obtain ⟨m', rfl⟩ : ∃ m', m = m' + 1 := ⟨m - 1, by omega⟩
        obtain ⟨ad', he', hy, _⟩ := Kd.at_flatA (Kd.C_below HCX.out HW.out) (show m' < X.length by omega)
        cases he'
        have hr' := hrise hm0
        simp only [Nat.add_sub_cancel] at hr'
        obtain ⟨y, hyy⟩ : ∃ y, y = X[m'] := ⟨_, rfl⟩
        rw [← hyy] at hy hr'
        have y0 := hy _ rfl
        obtain ⟨ys_, yi, yn⟩ := y
        simp only at y0 hr'
        clear hx hxs hxx hin hsl hrise hy hyy
        go_wp2
        obtain ⟨wE, hwE⟩ : ∃ wE, wE = wr.alloc (.cells #[.int .i64 xs_, .int .i64 xi, .string xn] 62) := ⟨_, rfl⟩
        have HWE : Aside0 (Below w2.heap.size w2 wE) := ⟨by rw [hwE]; exact below_alloc HW.out _⟩
        have z1 : Kd.C kEnt wE A l.length l := by rw [hwE]; exact Kd.C_alloc HLr.out _
        have EB : wE.heap[wr.heap.size]? = some (.cells #[.int .i64 xs_, .int .i64 xi, .string xn] 62 (0, 0)) := by rw [hwE]; exact heap_alloc_new _ _
        have e0 : wE.cell? ⟨wr.heap.size, 0, none⟩ = some (.int .i64 xs_) := (blk_cell EB 0).trans rfl
        have e1 : wE.cell? ⟨wr.heap.size, 1, none⟩ = some (.int .i64 xi) := (blk_cell EB 1).trans rfl
        have e2 : wE.cell? ⟨wr.heap.size, 2, none⟩ = some (.string xn) := (blk_cell EB 2).trans rfl
        have z3 := Below.refl wE.heap.size wE
        have hlt0 := World.block_lt_of_cell? _ _ e0
        have y1 : wE.cell? (ad.add (m' * 3)) = some (.int .i64 ys_) := by rw [hwE]; exact pw_cell_below (below_alloc (Below.refl _ _) _) y0
        have hsub : RowKit.wrap64 ((m' : Int) + 1 - 1) = (m' : Int) := by unfold RowKit.wrap64; omega
        have hpos : (0 : Int) < (m' : Int) + 1 := by omega
        have hm1 : m' < nX := by omega
        have hposd : decide ((0 : Int) < (m' : Int) + 1) = true := decide_eq_true hpos
        have hge : decide (xs_ ≤ ys_) = false := decide_eq_false (by omega)
        have hsub2 : RowKit.wrap64 (m' : Int) = (m' : Int) := by unfold RowKit.wrap64; omega
        clear y0
        refine go_on8 ?_
        rw [← hwE]
        clear hwE EB HW HLr x0 x1 x2
        refine start_ (n := 26) (S := fun w' => w'.cell? ⟨wr.heap.size, 0, none⟩ = some (.int .i64 xs_) ∧ w'.cell? ⟨wr.heap.size, 1, none⟩ = some (.int .i64 xi) ∧ w'.cell? ⟨wr.heap.size, 2, none⟩ = some (.string xn) ∧ w'.cell? (ad.add (m' * 3)) = some (.int .i64 ys_)) (ds := []) #[false, false, false, false, false, false, false, false, false, false, false, false, false, false, false, false, false, false, false, false, false, false, false, false, false, false] (by kernel_rfl) rfl rfl ⟨e0, e1, e2, y1⟩ (fun hHeld => ?_)
        refine pure_ (i := 0) (N := some 40) (v := ?_) (a' := ?_) #[true, false, false, false, false, false, false, false, false, false, false, false, false, false, false, false, false, false, false, false, false, false, false, false, false, false] rfl rfl (by kernel_rfl) (fun _ _ _ h => h) (Or.inl ⟨by rfl, ?_⟩) ?_ ?_
        rotate_left
        · intro w'
          go_simp
          with_reducible rfl
        rotate_left
        · simp only [Act.put, List.setIfInBounds_toArray, List.set_cons_zero, List.set_cons_succ, i64_w, i32_w]
          rfl
        refine take_ (i := 1) (N := some 41) (v := ?_) (a' := ?_) #[true, true, false, false, false, false, false, false, false, false, false, false, false, false, false, false, false, false, false, false, false, false, false, false, false, false] rfl rfl (by kernel_rfl) (fun _ _ _ h => h) (Or.inl ⟨by rfl, ?_⟩) hHeld ?_ ?_
        rotate_left
        · rintro w' ⟨s0, s1, s2, s3⟩
          go_simp
          with_reducible rfl
        rotate_left
        · simp only [Act.put, List.setIfInBounds_toArray, List.set_cons_zero, List.set_cons_succ, i64_w, i32_w]
          rfl
        refine one_ (i := 2) (N := some 42) #[true, true, true, false, false, false, false, false, false, false, false, false, false, false, false, false, false, false, false, false, false, false, false, false, false, false] rfl rfl (by kernel_rfl) (by decide) (fun K hK => ?_)
        refine goes_ Try.func62 (by kernel_rfl) rfl #[.slice A l.length c, .agg #[.int .i64 xs_, .int .i64 xi, .string xn]] (by rfl) rfl rfl (by simp only [List.map_toArray, List.map_cons, List.map_nil]; rfl) ?_
        with_reducible refine (WX.out wE.drew (Kd.C_drew z1)).mono ?_
        rintro e w6 ⟨rfl, hb5⟩
        refine ⟨_, rfl, ?_⟩
        refine hK.out _ _ ⟨pw_cell_below hb5 (show wE.drew.cell? _ = _ from e0), pw_cell_below hb5 (show wE.drew.cell? _ = _ from e1), pw_cell_below hb5 (show wE.drew.cell? _ = _ from e2), pw_cell_below hb5 (show wE.drew.cell? _ = _ from y1)⟩ (fun hHeld => ?_)
        clear hK K
        refine norm_ (a' := ?_) ?_ ?_
        rotate_left
        · show Act.put _ (some 42) _ = _
          simp only [Act.put, List.setIfInBounds_toArray, List.set_cons_zero, List.set_cons_succ, i64_w, i32_w]
          rfl
        refine pure_ (i := 3) (N := some 43) (v := ?_) (a' := ?_) #[true, true, true, true, false, false, false, false, false, false, false, false, false, false, false, false, false, false, false, false, false, false, false, false, false, false] rfl rfl (by kernel_rfl) (fun _ _ _ h => h) (Or.inl ⟨by rfl, ?_⟩) ?_ ?_
        rotate_left
        · intro w'
          go_simp
          with_reducible rfl
        rotate_left
        · simp only [Act.put, List.setIfInBounds_toArray, List.set_cons_zero, List.set_cons_succ, i64_w, i32_w]
          rfl
        refine pure_ (i := 4) (N := some 44) (v := ?_) (a' := ?_) #[true, true, true, true, true, false, false, false, false, false, false, false, false, false, false, false, false, false, false, false, false, false, false, false, false, false] rfl rfl (by kernel_rfl) (fun _ _ _ h => h) (Or.inl ⟨by rfl, ?_⟩) ?_ ?_
        rotate_left
        · intro w'
          go_simp
          with_reducible rfl
        rotate_left
        · simp only [Act.put, List.setIfInBounds_toArray, List.set_cons_zero, List.set_cons_succ, i64_w, i32_w]
          rfl
        refine pure_ (i := 5) (N := some 45) (v := ?_) (a' := ?_) #[true, true, true, true, true, true, false, false, false, false, false, false, false, false, false, false, false, false, false, false, false, false, false, false, false, false] rfl rfl (by kernel_rfl) (fun _ _ _ h => h) (Or.inl ⟨by rfl, ?_⟩) ?_ ?_
        rotate_left
        · intro w'
          go_simp
          with_reducible rfl
        rotate_left
        · simp only [Act.put, List.setIfInBounds_toArray, List.set_cons_zero, List.set_cons_succ, i64_w, i32_w]
          rfl
        refine pure_ (i := 6) (N := some 46) (v := ?_) (a' := ?_) #[true, true, true, true, true, true, true, false, false, false, false, false, false, false, false, false, false, false, false, false, false, false, false, false, false, false] rfl rfl (by kernel_rfl) (fun _ _ _ h => h) (Or.inl ⟨by rfl, ?_⟩) ?_ ?_
        rotate_left
        · intro w'
          go_simp
          with_reducible rfl
        rotate_left
        · simp only [Act.put, List.setIfInBounds_toArray, List.set_cons_zero, List.set_cons_succ, i64_w, i32_w]
          rfl
        refine pure_ (i := 7) (N := some 47) (v := ?_) (a' := ?_) #[true, true, true, true, true, true, true, true, false, false, false, false, false, false, false, false, false, false, false, false, false, false, false, false, false, false] rfl rfl (by kernel_rfl) (fun _ _ _ h => h) (Or.inl ⟨by rfl, ?_⟩) ?_ ?_
        rotate_left
        · intro w'
          go_simp
          with_reducible rfl
        rotate_left
        · simp only [Act.put, List.setIfInBounds_toArray, List.set_cons_zero, List.set_cons_succ, i64_w, i32_w]
          rfl
        refine pure_ (i := 8) (N := some 48) (v := ?_) (a' := ?_) #[true, true, true, true, true, true, true, true, true, false, false, false, false, false, false, false, false, false, false, false, false, false, false, false, false, false] rfl rfl (by kernel_rfl) (fun _ _ _ h => h) (Or.inl ⟨by rfl, ?_⟩) ?_ ?_
        rotate_left
        · intro w'
          go_simp
          with_reducible rfl
        rotate_left
        · simp only [Act.put, List.setIfInBounds_toArray, List.set_cons_zero, List.set_cons_succ, i64_w, i32_w]
          rfl
        refine pure_ (i := 9) (N := some 49) (v := ?_) (a' := ?_) #[true, true, true, true, true, true, true, true, true, true, false, false, false, false, false, false, false, false, false, false, false, false, false, false, false, false] rfl rfl (by kernel_rfl) (fun _ _ _ h => h) (Or.inl ⟨by rfl, ?_⟩) ?_ ?_
        rotate_left
        · intro w'
          go_simp
          with_reducible rfl
        rotate_left
        · simp only [Act.put, List.setIfInBounds_toArray, List.set_cons_zero, List.set_cons_succ, i64_w, i32_w]
          rfl
        refine pure_ (i := 10) (N := some 50) (v := ?_) (a' := ?_) #[true, true, true, true, true, true, true, true, true, true, true, false, false, false, false, false, false, false, false, false, false, false, false, false, false, false] rfl rfl (by kernel_rfl) (fun _ _ _ h => h) (Or.inl ⟨by rfl, ?_⟩) ?_ ?_
        rotate_left
        · intro w'
          go_simp
          with_reducible rfl
        rotate_left
        · simp only [Act.put, List.setIfInBounds_toArray, List.set_cons_zero, List.set_cons_succ, i64_w, i32_w]
          rfl
        refine pure_ (i := 11) (N := some 51) (v := ?_) (a' := ?_) #[true, true, true, true, true, true, true, true, true, true, true, true, false, false, false, false, false, false, false, false, false, false, false, false, false, false] rfl rfl (by kernel_rfl) (fun _ _ _ h => h) (Or.inl ⟨by rfl, ?_⟩) ?_ ?_
        rotate_left
        · intro w'
          go_simp
          with_reducible rfl
        rotate_left
        · simp only [Act.put, List.setIfInBounds_toArray, List.set_cons_zero, List.set_cons_succ, i64_w, i32_w]
          rfl
        refine pure_ (i := 12) (N := some 52) (v := ?_) (a' := ?_) #[true, true, true, true, true, true, true, true, true, true, true, true, true, false, false, false, false, false, false, false, false, false, false, false, false, false] rfl rfl (by kernel_rfl) (fun _ _ _ h => h) (Or.inl ⟨by rfl, ?_⟩) ?_ ?_
        rotate_left
        · intro w'
          go_simp
          with_reducible rfl
        rotate_left
        · simp only [Act.put, List.setIfInBounds_toArray, List.set_cons_zero, List.set_cons_succ, i64_w, i32_w]
          rfl
        refine pure_ (i := 14) (N := some 54) (v := ?_) (a' := ?_) #[true, true, true, true, true, true, true, true, true, true, true, true, true, false, true, false, false, false, false, false, false, false, false, false, false, false] rfl rfl (by kernel_rfl) (fun _ _ _ h => h) (Or.inl ⟨by rfl, ?_⟩) ?_ ?_
        rotate_left
        · intro w'
          go_simp
          with_reducible rfl
        rotate_left
        · simp only [Act.put, List.setIfInBounds_toArray, List.set_cons_zero, List.set_cons_succ, i64_w, i32_w]
          rfl
        refine take_ (i := 13) (N := some 53) (v := ?_) (a' := ?_) #[true, true, true, true, true, true, true, true, true, true, true, true, true, true, true, false, false, false, false, false, false, false, false, false, false, false] rfl rfl (by kernel_rfl) (fun _ _ _ h => h) (Or.inl ⟨by rfl, ?_⟩) hHeld ?_ ?_
        rotate_left
        · rintro w' ⟨s0, s1, s2, s3⟩
          go_simp
          with_reducible rfl
        rotate_left
        · simp only [Act.put, List.setIfInBounds_toArray, List.set_cons_zero, List.set_cons_succ, i64_w, i32_w]
          rfl
        refine take_ (i := 15) (N := some 55) (v := ?_) (a' := ?_) #[true, true, true, true, true, true, true, true, true, true, true, true, true, true, true, true, false, false, false, false, false, false, false, false, false, false] rfl rfl (by kernel_rfl) (fun _ _ _ h => h) (Or.inl ⟨by rfl, ?_⟩) hHeld ?_ ?_
        rotate_left
        · rintro w' ⟨s0, s1, s2, s3⟩
          go_simp
          with_reducible rfl
        rotate_left
        · simp only [Act.put, List.setIfInBounds_toArray, List.set_cons_zero, List.set_cons_succ, i64_w, i32_w]
          rfl
        refine pure_ (i := 16) (N := some 56) (v := ?_) (a' := ?_) #[true, true, true, true, true, true, true, true, true, true, true, true, true, true, true, true, true, false, false, false, false, false, false, false, false, false] rfl rfl (by kernel_rfl) (fun _ _ _ h => h) (Or.inl ⟨by rfl, ?_⟩) ?_ ?_
        rotate_left
        · intro w'
          go_simp
          with_reducible rfl
        rotate_left
        · simp only [Act.put, List.setIfInBounds_toArray, List.set_cons_zero, List.set_cons_succ, i64_w, i32_w]
          rfl
        refine pure_ (i := 17) (N := some 57) (v := ?_) (a' := ?_) #[true, true, true, true, true, true, true, true, true, true, true, true, true, true, true, true, true, true, false, false, false, false, false, false, false, false] rfl rfl (by kernel_rfl) (fun _ _ _ h => h) (Or.inl ⟨by rfl, ?_⟩) ?_ ?_
        rotate_left
        · intro w'
          go_simp
          with_reducible rfl
        rotate_left
        · simp only [Act.put, List.setIfInBounds_toArray, List.set_cons_zero, List.set_cons_succ, i64_w, i32_w]
          rfl
        refine pure_ (i := 18) (N := some 58) (v := ?_) (a' := ?_) #[true, true, true, true, true, true, true, true, true, true, true, true, true, true, true, true, true, true, true, false, false, false, false, false, false, false] rfl rfl (by kernel_rfl) (fun _ _ _ h => h) (Or.inl ⟨by rfl, ?_⟩) ?_ ?_
        rotate_left
        · intro w'
          go_simp
          with_reducible rfl
        rotate_left
        · simp only [Act.put, List.setIfInBounds_toArray, List.set_cons_zero, List.set_cons_succ, i64_w, i32_w]
          rfl
        refine pure_ (i := 19) (N := some 59) (v := ?_) (a' := ?_) #[true, true, true, true, true, true, true, true, true, true, true, true, true, true, true, true, true, true, true, true, false, false, false, false, false, false] rfl rfl (by kernel_rfl) (fun _ _ _ h => h) (Or.inl ⟨by rfl, ?_⟩) ?_ ?_
        rotate_left
        · intro w'
          go_simp
          with_reducible rfl
        rotate_left
        · simp only [Act.put, List.setIfInBounds_toArray, List.set_cons_zero, List.set_cons_succ, i64_w, i32_w]
          rfl
        refine pure_ (i := 20) (N := some 60) (v := ?_) (a' := ?_) #[true, true, true, true, true, true, true, true, true, true, true, true, true, true, true, true, true, true, true, true, true, false, false, false, false, false] rfl rfl (by kernel_rfl) (fun _ _ _ h => h) (Or.inl ⟨by rfl, ?_⟩) ?_ ?_
        rotate_left
        · intro w'
          go_simp
          with_reducible rfl
        rotate_left
        · simp only [Act.put, List.setIfInBounds_toArray, List.set_cons_zero, List.set_cons_succ, i64_w, i32_w]
          rfl
        refine pure_ (i := 23) (N := some 63) (v := ?_) (a' := ?_) #[true, true, true, true, true, true, true, true, true, true, true, true, true, true, true, true, true, true, true, true, true, false, false, true, false, false] rfl rfl (by kernel_rfl) (fun _ _ _ h => h) (Or.inl ⟨by rfl, ?_⟩) ?_ ?_
        rotate_left
        · intro w'
          go_simp
          with_reducible rfl
        rotate_left
        · simp only [Act.put, List.setIfInBounds_toArray, List.set_cons_zero, List.set_cons_succ, i64_w, i32_w]
          rfl
        refine take_ (i := 21) (N := some 61) (v := ?_) (a' := ?_) #[true, true, true, true, true, true, true, true, true, true, true, true, true, true, true, true, true, true, true, true, true, true, false, true, false, false] rfl rfl (by kernel_rfl) (fun _ _ _ h => h) (Or.inl ⟨by rfl, ?_⟩) hHeld ?_ ?_
        rotate_left
        · rintro w' ⟨s0, s1, s2, s3⟩
          go_simp
          with_reducible rfl
        rotate_left
        · simp only [Act.put, List.setIfInBounds_toArray, List.set_cons_zero, List.set_cons_succ, i64_w, i32_w]
          rfl
        refine pure_ (i := 22) (N := some 62) (v := ?_) (a' := ?_) #[true, true, true, true, true, true, true, true, true, true, true, true, true, true, true, true, true, true, true, true, true, true, true, true, false, false] rfl rfl (by kernel_rfl) (fun _ _ _ h => h) (Or.inl ⟨by rfl, ?_⟩) ?_ ?_
        rotate_left
        · intro w'
          go_simp
          with_reducible rfl
        rotate_left
        · simp only [Act.put, List.setIfInBounds_toArray, List.set_cons_zero, List.set_cons_succ, i64_w, i32_w]
          rfl
        refine pure_ (i := 24) (N := some 64) (v := ?_) (a' := ?_) #[true, true, true, true, true, true, true, true, true, true, true, true, true, true, true, true, true, true, true, true, true, true, true, true, true, false] rfl rfl (by kernel_rfl) (fun _ _ _ h => h) (Or.inl ⟨by rfl, ?_⟩) ?_ ?_
        rotate_left
        · intro w'
          go_simp
          with_reducible rfl
        rotate_left
        · simp only [Act.put, List.setIfInBounds_toArray, List.set_cons_zero, List.set_cons_succ, i64_w, i32_w]
          rfl
        refine pure_ (i := 25) (N := some 65) (v := ?_) (a' := ?_) #[true, true, true, true, true, true, true, true, true, true, true, true, true, true, true, true, true, true, true, true, true, true, true, true, true, true] rfl rfl (by kernel_rfl) (fun _ _ _ h => h) (Or.inl ⟨by rfl, ?_⟩) ?_ ?_
        rotate_left
        · intro w'
          go_simp
          with_reducible rfl
        rotate_left
        · simp only [Act.put, List.setIfInBounds_toArray, List.set_cons_zero, List.set_cons_succ, i64_w, i32_w]
          rfl
        refine done_ (by kernel_rfl) ?_
        have HW6 := below_step (below_drew1 HWE.out) hb5
        clear hpos hsub hsub2 hposd hge hr' y1 e0 e1 e2 z1 z3 hHeld hquo hwk
        refine go_on8 ?_
        go_wp2
        exact ⟨⟨(m' + 1) + 1, rfl, ⟨by omega⟩, ⟨HW6⟩⟩, by simp [intOf]; omega⟩
    · have hge : nX ≤ m := by omega
      have HBr : Aside0 (Below w.heap.size w wr) := ⟨below_step HB2.out HW.out⟩
      have HCr := Aside0.mk (Kd.C_below HC1.out HW.out)
      have HXr := Aside0.mk (Kd.C_below HCX.out HW.out)
      clear HC1 HCX HL2 HB2 HW hm hm'
      obtain ⟨w3, hw3⟩ : ∃ w3, w3 = wr.alloc (.cells #[.int .i64 (4 * k + (q : Int))] 3) := ⟨_, rfl⟩
      have H13 : Aside0 (w3.heap[wr.heap.size]? = some (.cells #[.int .i64 (4 * k + (q : Int))] 3 (0, 0))) := ⟨by rw [hw3]; exact heap_alloc_new _ _⟩
      have HC3 : Aside0 (Kd.C (Kd.int .u8) w3 (some ⟨g1, 0, none⟩) 64 B) := ⟨by rw [hw3]; exact Kd.C_alloc HCr.out _⟩
      have HX3 : Aside0 (Kd.C kEnt w3 Ax nX X) := ⟨by rw [hw3]; exact Kd.C_alloc HXr.out _⟩
      have HB3 : Aside0 (Below w.heap.size w w3) := ⟨by rw [hw3]; exact below_alloc HBr.out _⟩
      have K13 : w3.cell? ⟨wr.heap.size, 0, none⟩ = some (.int .i64 (4 * k + (q : Int))) := (blk_cell H13.out 0).trans rfl
      clear HCr HXr HBr
      go_wp2_with (go_at_call 63; fail)
      refine go_on8 ?_
      rw [← hw3]
      clear hw3
      refine (WC.out _ _ _ HC3.out HK1.out).mono ?_
      rintro e w4 ⟨g4, c4, rfl, hg4, hc4, hC4, hb4⟩
      have HC4 := Aside0.mk hC4
      have HK4 := Aside0.mk hc4
      have H4 := Aside0.mk (blk_below H13.out hb4)
      have HCb4 := Aside0.mk (Kd.C_below HC3.out hb4)
      have HX4 := Aside0.mk (Kd.C_below HX3.out hb4)
      have HB4 := Aside0.mk (below_step HB3.out hb4)
      clear hg4 hc4 hC4 hb4 H13 HC3 HX3 HB3 K13
      rcases Nat.eq_zero_or_pos nX with h0 | hpos
      · have hX0 : X = [] := List.eq_nil_of_length_eq_zero (by rw [← HNX.out]; exact h0)
        have hY0 : Y = [] := by rw [HYX.out, hX0]; rfl
        have hn0 : nY = 0 := by rw [HNY.out, hY0]; rfl
        have CY0 : Aside0 (∀ A W, Kd.C kEnt W A nY Y) := ⟨fun A W => by rw [hn0, hY0]; exact ⟨rfl, by simp, fun h => absurd h (by simp)⟩⟩
        have HN0 := Aside0.mk hn0
        have HX0 := Aside0.mk hX0
        subst h0
        clear hX0 hY0 hn0
        go_wp2_with (first | (go_at_call 61; (with_reducible refine (WP2.out _ _ _ HC4.out HK4.out).mono ?_); rintro e w5 ⟨Ay, cy, rfl, hCy, hb5⟩; have HY5 := Aside0.mk hCy; have H5 := Aside0.mk (blk_below H4.out hb5); have HCb5 := Aside0.mk (Kd.C_below HCb4.out hb5); have HX5 := Aside0.mk (Kd.C_below HX4.out hb5); have HB5 := Aside0.mk (below_step HB4.out hb5); clear hCy hb5) | (go_at_call 65; (with_reducible refine (WK.out _ _ _ HX5.out HKX.out).mono ?_); rintro e w6 ⟨v6, rfl, ho6, hb6⟩; obtain ⟨A6, c6, hv6⟩ := Kd.R_slice ho6; rw [← HNX.out] at hv6; subst hv6; have H6 := Aside0.mk (blk_below H5.out hb6); have HB56 := Aside0.mk hb6; clear ho6 hb6) | (go_at_call 64; (with_reducible refine (WD0.out _ _ _ _ ((blk_cell H6.out 0).trans rfl)).mono ?_); rintro e w7 ⟨rfl, hb7⟩; have hb57 := below_step HB56.out hb7; have HY7 := Aside0.mk (Kd.C_below HY5.out hb57); have HX7 := Aside0.mk (Kd.C_below HX5.out hb57); have HC7 := Aside0.mk (Kd.C_below HCb5.out hb57); have HB7 := Aside0.mk (below_step HB5.out hb57); have HR7 := Aside0.mk (CY0.out A6 w7); rw [HN0.out] at WE HY7 HR7 ⊢; clear hb7 hb57) | (go_at_call 67; (with_reducible refine (WE.out _ _ _ _ _ HY7.out HR7.out).mono ?_); rintro e w' ⟨rfl, ⟨nd, rfl⟩⟩) | (go_at_call 60; (with_reducible refine (WB2.out _ _ _ (Kd.C_drewN HX7.out _)).mono ?_); rintro e w8 ⟨g8, c8, rfl, hg8, hc8, hC8, hb8⟩; have HC8 := Aside0.mk hC8; have HCb8 := Aside0.mk (Kd.C_below (Kd.C_drewN HC7.out _) hb8); have HB8 := Aside0.mk (below_step (pw_below_drewN HB7.out _) hb8); clear hg8 hc8 hC8 hb8) | (go_at_call 24; (with_reducible refine (WQ.out _ _ _ _ _ HC8.out HCb8.out).mono ?_); rintro e w' ⟨rfl, h_⟩; have h_ := h_.symm; subst h_) | (go_at_call 53; (with_reducible refine (l08_awake _).mono ?_); rintro e w9 ⟨rfl, hb9⟩; have HB9 := Aside0.mk (below_step HB8.out hb9); clear hb9))
        go_ret
        exact ⟨by first | rfl | simp, HB9.out⟩
      · go_wp2_with (first | (go_at_call 61; (with_reducible refine (WP2.out _ _ _ HC4.out HK4.out).mono ?_); rintro e w5 ⟨Ay, cy, rfl, hCy, hb5⟩; have HY5 := Aside0.mk hCy; have H5 := Aside0.mk (blk_below H4.out hb5); have HCb5 := Aside0.mk (Kd.C_below HCb4.out hb5); have HX5 := Aside0.mk (Kd.C_below HX4.out hb5); have HB5 := Aside0.mk (below_step HB4.out hb5); clear hCy hb5) | (go_at_call 65; (with_reducible refine (WK.out _ _ _ HX5.out HKX.out).mono ?_); rintro e w6 ⟨v6, rfl, ho6, hb6⟩; obtain ⟨g6, c6, cs6, hv6, hbase6, hlc6, bk6, hsz6, htk6⟩ := Kd.R_blk ho6 (by rw [← HNX.out]; exact hpos); rw [← HNX.out] at hv6; subst hv6; have H6 := Aside0.mk (blk_below H5.out hb6); have HB56 := Aside0.mk hb6; have BK6 := Aside0.mk bk6; have SZ6 := Aside0.mk hsz6; have TK6 := Aside0.mk htk6; have HG6 := Aside0.mk hbase6; have HL6 := Aside0.mk hlc6; clear ho6 hb6 hbase6 hlc6 bk6 hsz6 htk6) | (go_at_call 64; (with_reducible refine (WD.out _ _ _ _ _ BK6.out (by rw [HNX.out]; exact TK6.out) (by have h_ := HL6.out; have h1_ := HNX.out; rw [SZ6.out]; omega) (by rw [HNX.out]; exact HL6.out) ((blk_cell H6.out 0).trans rfl) (by have h1_ := (Array.getElem?_eq_some_iff.1 H5.out).1; have h2_ := HG6.out; omega)).mono ?_); rintro e w7 ⟨rfl, hC7, hg7⟩; have hb57 := HB56.out.grown hg7 HB56.out.size (fun k e => by cases e; exact HG6.out); have HY7 := Aside0.mk (Kd.C_below HY5.out hb57); have HX7 := Aside0.mk (Kd.C_below HX5.out hb57); have HC7 := Aside0.mk (Kd.C_below HCb5.out hb57); have HB7 := Aside0.mk (below_step HB5.out hb57); have HR7 := Aside0.mk hC7; clear hC7 hg7 hb57) | (go_at_call 67; (with_reducible refine (WE.out _ _ _ _ _ HY7.out HR7.out).mono ?_); rintro e w' ⟨rfl, ⟨nd, rfl⟩⟩) | (go_at_call 60; (with_reducible refine (WB2.out _ _ _ (Kd.C_drewN HX7.out _)).mono ?_); rintro e w8 ⟨g8, c8, rfl, hg8, hc8, hC8, hb8⟩; have HC8 := Aside0.mk hC8; have HCb8 := Aside0.mk (Kd.C_below (Kd.C_drewN HC7.out _) hb8); have HB8 := Aside0.mk (below_step (pw_below_drewN HB7.out _) hb8); clear hg8 hc8 hC8 hb8) | (go_at_call 24; (with_reducible refine (WQ.out _ _ _ _ _ HC8.out HCb8.out).mono ?_); rintro e w' ⟨rfl, h_⟩; have h_ := h_.symm; subst h_) | (go_at_call 53; (with_reducible refine (l08_awake _).mono ?_); rintro e w9 ⟨rfl, hb9⟩; have HB9 := Aside0.mk (below_step HB8.out hb9); clear hb9))
        go_ret
        exact ⟨by first | rfl | simp, HB9.out⟩
end Go.Proofs.Ytdknolnoimpgeaa.K
