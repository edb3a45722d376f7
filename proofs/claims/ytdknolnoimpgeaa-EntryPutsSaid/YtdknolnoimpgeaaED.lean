/- Walks and plain laws of this claim, merged: K08e, KS08b, KS08c, R08, R08b, L08, L08b, KOpen. -/
import Derived.Test.YtdknolnoimpgeaaEC
import Derived.Test.YtdknolnoimpgeaaEB
import Derived.Test.YtdknolnoimpgeaaKC
import Derived.Deep.Slices
import Derived.ChangeArms
import Derived.OpenShut
namespace Go.Proofs.Ytdknolnoimpgeaa.K
open Go.RowKit Go.Shelf Go.Lib Go.Proofs.YtdknolnoimpgeaaW.PrintWords Go.Proofs.YtdknolnoimpgeaaW.PrintLast Go.Proofs.YtdknolnoimpgeaaW.PrintMore
set_option linter.unusedVariables false
set_option linter.unusedSimpArgs false
/-- A block without a slot. -/
def clearE (l : List Int) (slot : Int) : List Int := setAt l (16 * (slot % 4).toNat) (List.replicate 16 0)
theorem clearE_length {l : List Int} {slot : Int} (h : l.length = 64) : (clearE l slot).length = 64 := by
  unfold clearE
  rw [setAt_length (by simp; omega), h]
theorem clearE_byts {l : List Int} {slot : Int} (h : Byts l) : Byts (clearE l slot) := h.setAt (Byts.zeros 16) _
theorem u8zero1 : (Try.prog.info? 5).map (fun i => i.zero) = some (some (.int .u8 0)) := by kernel_rfl
theorem clear_cut (g c' q : Nat) (hc : 64 ≤ c') (hq : q < 4) : ∀ W : World, (Instr.slice 24 (.slice (some ⟨g, 0, none⟩) 64 c') (some (.int .i64 (16 * (q : Int)))) (some (.int .i64 (16 * (q : Int) + 16))) none).run Try.prog W = .ok (.slice (some ⟨g, 16 * q, none⟩) 16 (c' - 16 * q)) W := fun W => by
  obtain ⟨i0, hi0, hz0⟩ := Option.map_eq_some_iff.1 u8info
  have := cut_mid (P := Try.prog) 24 5 .i64 .i64 Try.underlying24 hi0 1 (by simpa using congrArg (fun x => x.2.1) hz0) (some ⟨g, 0, none⟩) 64 c' (16 * (q : Int)) (16 * (q : Int) + 16) (by omega) (by omega) (by omega) (by omega) W
  rw [this]
  have e : (16 * (q : Int)).toNat = 16 * q := by omega
  have e2 : (16 * (q : Int) + 16).toNat = 16 * q + 16 := by omega
  rw [e, e2, if_neg (by omega)]
  simp [Addr.add]
  omega
set_option maxHeartbeats 4000000 in
set_option maxRecDepth 100000 in
theorem clear_walk (A : Option Addr) (c : Nat) (l : List Int) (slot : Int) (w : World) (hr : Kd.C (Kd.int .u8) w A l.length l) (hc : l.length ≤ c) (hl : l.length = 64) (s0 : 0 ≤ slot) (s1 : slot < 16) :
    Calls Try.prog 63 #[.slice A 64 c, .int .i64 slot] w fun e w' => ∃ g c', e = .returned (.slice (some ⟨g, 0, none⟩) 64 c') ∧ w.heap.size ≤ g ∧ 64 ≤ c' ∧ Kd.C (Kd.int .u8) w' (some ⟨g, 0, none⟩) 64 (clearE l slot) ∧ Below w.heap.size w w' := by
  have HR := Aside0.mk hr
  have HB := Aside0.mk (Below.refl w.heap.size w)
  have WC : Aside0 (∀ W, Kd.C (Kd.int .u8) W A l.length l → Calls Try.prog 120 #[.slice A 64 c] W fun e w' => ∃ v : Value, e = .returned v ∧ Kd.R (Kd.int .u8) 5 w' W.heap.size (fun _ => True) v l ∧ Below W.heap.size W w') := ⟨fun W h => by
    have := numC_walk A c l W h hc (by omega)
    rw [hl] at this
    exact this⟩
  obtain ⟨q, hq, hq4⟩ : ∃ q : Nat, slot % 4 = q ∧ q < 4 := ⟨(slot % 4).toNat, by omega, by omega⟩
  have E0 : Aside0 (clearE l slot = setAt l (16 * q) (List.replicate 16 0)) := ⟨by unfold clearE; rw [hq]; rfl⟩
  have hq' : Int.tmod slot 4 = q := by rw [Int.tmod_eq_emod_of_nonneg s0]; exact hq
  have hw : RowKit.wrap64 (16 * (q : Int)) = 16 * (q : Int) := by unfold RowKit.wrap64; omega
  have hw2 : RowKit.wrap64 (16 * (q : Int) + 16) = 16 * (q : Int) + 16 := by unfold RowKit.wrap64; omega
  have HL := Aside0.mk hl
  clear hr hl hq
  go_enter Try.func63, Try.ntmps63
  go_wp2_with (go_at_call 120; go_loud ((with_reducible refine (WC.out _ HR.out).mono ?_); rintro e w1 ⟨v1, rfl, ho, hb⟩; have hcl := blockE_length; obtain ⟨g, c', cs, rfl, hg, hcc, hcm, bk, hcs, htk⟩ := Kd.R_blkS ho (by have := HL.out; omega); have HG := Aside0.mk hg; have HCC := Aside0.mk hcc; have BK := Aside0.mk bk; have HCS := Aside0.mk hcs; have HTK := Aside0.mk htk; have HB1 := Aside0.mk hb; rw [HL.out]; have hc64 : 64 ≤ c' := (by have h1_ := hcc; have h2_ := HL.out; omega); have hcut := clear_cut g c' q hc64 hq4; clear ho hb hg hcc hcm bk hcs htk hcl))
  obtain ⟨w2, cs2, hrun, bk_, hsz_, htl_, hg_⟩ := Kd.run_clearBlk (P := Try.prog) (w := w1) 0 24 5 Try.underlying24 u8zero1 rfl rfl g (16 * q) 16 (c' - 16 * q) BK.out (by have := HCS.out; omega)
  have BK2 := Aside0.mk bk_
  have HT2 := Aside0.mk htl_
  have HB2 := Aside0.mk (pw_below_grown HB1.out (some g) HB1.out.size hg_ (fun k e => by cases e; exact HG.out))
  clear bk_ htl_ hg_
  simp only [hrun, Result.andThen_ok]
  go_wp2
  go_ret
  refine ⟨g, c', rfl, HG.out, hc64, ?_, HB2.out⟩
  have h64 := clearE_length (slot := slot) HL.out
  have := Kd.C_blkInt (k := .u8) (xs := clearE l slot) BK2.out (by
    rw [h64, HT2.out]
    have h1 := HTK.out
    rw [HL.out] at h1
    have := lay_take (vs := List.replicate 16 (Value.int .u8 0)) (o := 16 * q) h1 (by simp; omega) (by rw [Array.length_toList]; have := HCS.out; omega)
    rw [List.length_replicate] at this
    rw [this, E0.out]
    unfold setAt
    simp) (by omega)
  rw [h64] at this
  exact this
end Go.Proofs.Ytdknolnoimpgeaa.K
namespace Go.Proofs.Ytdknolnoimpgeaa.K
open Go.Lib
set_option linter.unusedVariables false
set_option linter.unusedSimpArgs false
theorem unpackN_ok {l : List Int} (h : (unpackN l).2 = true) : rightN (unpackN l).1 = true ∧ packN (unpackN l).1 = l := by
  unfold unpackN at h ⊢
  dsimp only at h ⊢
  split at h
  · rename_i hc
    rw [if_pos hc]
    exact ⟨hc.2.2.1, hc.2.2.2⟩
  · cases h
theorem unpackN_no {l : List Int} (h : (unpackN l).2 = false) : (unpackN l).1 = ByteArray.empty := by
  unfold unpackN at h ⊢
  dsimp only at h ⊢
  split at h
  · cases h
  · rename_i hc
    rw [if_neg hc]
theorem rightN_empty : rightN ByteArray.empty = false := by rfl
theorem rightE_empty (sl ino : Int) : rightE sl ino ByteArray.empty = false := by simp [rightE, rightN_empty]
theorem leB_leN : ∀ xs : List Int, Byts xs → leB (leN xs) xs.length = xs
  | [], _ => rfl
  | x :: xs, h => by
    have hx := h x (by simp)
    have ih := leB_leN xs (fun y hy => h y (by simp [hy]))
    rw [List.length_cons, leB_cons]
    have e : leN (x :: xs) = x + 256 * leN xs := rfl
    rw [e, show (x + 256 * leN xs) % 256 = x by omega, show (x + 256 * leN xs) / 256 = leN xs by omega, ih]
theorem leB_gN {l : List Int} (hb : Byts l) (hl : 2 ≤ l.length) : leB (gN l 0 2) 2 = l.take 2 := by
  have h2 : (l.take 2).length = 2 := by rw [List.length_take]; omega
  have e : gN l 0 2 = leN (l.take 2) := by
    have := gN_two (a := l.take 2) (ys := l.drop 2) (s := 2) h2 rfl
    rw [List.take_append_drop] at this
    exact this
  have := leB_leN (l.take 2) (hb.take 2)
  rw [h2] at this
  rw [e, this]
/-- The document's test is the code's. -/
theorem getE_ref {l : List Int} (hb : Byts l) (hl : l.length = 16) (hne : ¬ l = List.replicate 16 0) (slot : Int) :
    getE l slot = if (unpackN (l.drop 2)).2 = true ∧ rightE slot (gN l 0 2) (unpackN (l.drop 2)).1 = true then (⟨slot, gN l 0 2, (unpackN (l.drop 2)).1⟩, true, true) else (Ent.zero, false, false) := by
  unfold getE
  rw [if_neg (by omega), if_neg hne]
  dsimp only
  cases hu : (unpackN (l.drop 2)).2 with
  | false =>
    rw [unpackN_no hu, rightE_empty]
    simp
  | true =>
    obtain ⟨h1, h2⟩ := unpackN_ok hu
    have he : bytesE (gN l 0 2) (unpackN (l.drop 2)).1 = l := by
      unfold bytesE
      rw [h2, leB_gN hb (by omega), List.take_append_drop]
    simp [he]
end Go.Proofs.Ytdknolnoimpgeaa.K
namespace Go.Proofs.Ytdknolnoimpgeaa.K
open Go.Lib
set_option linter.unusedVariables false
set_option linter.unusedSimpArgs false
def oB : Option Ent → List Int
  | some x => bytesE x.ino x.nm
  | none => List.replicate 16 0
/-- An entry that may lie in the slot. -/
def okO (s : Int) (o : Option Ent) : Prop := ∀ x, o = some x → rightE x.sl x.ino x.nm = true ∧ x.sl = s
def cat4 (f : Nat → Option Ent) : List Int := oB (f 0) ++ (oB (f 1) ++ (oB (f 2) ++ oB (f 3)))
theorem oB_length {s : Int} {o : Option Ent} (h : okO s o) : (oB o).length = 16 := by
  cases o with
  | none => simp [oB]
  | some x => exact bytesE_length (rightE_parts (h x rfl).1).2.2.2.2
theorem oB_byts {s : Int} {o : Option Ent} (h : okO s o) : Byts (oB o) := by
  cases o with
  | none => exact Byts.zeros 16
  | some x => exact bytesE_byts (rightE_parts (h x rfl).1).2.2.2.2
theorem find_ok (l : List Ent) (s : Int) : okO s (l.find? (slotP s)) := fun x hx => slotP_right (List.find?_some hx)
theorem pick_oB (l : List Ent) (s : Int) : pickE l s = oB (l.find? (slotP s)) := by
  unfold pickE
  cases l.find? (slotP s) <;> rfl
theorem blockE_cat (l : List Ent) {k : Int} (k0 : 0 ≤ k) (k1 : k < 4) : blockE l k = cat4 (fun j => l.find? (slotP (4 * k + (j : Int)))) := by
  unfold blockE
  rw [if_pos ⟨k0, k1⟩, blockN_succ, blockN_succ, blockN_succ, blockN_succ]
  simp only [pick_oB]
  unfold cat4
  rw [show blockN l k 0 = [] from rfl]
  simp
section
variable {f : Nat → Option Ent} {k : Int}
theorem cat4_length (hf : ∀ j : Nat, okO (4 * k + (j : Int)) (f j)) : (cat4 f).length = 64 := by
  unfold cat4
  simp only [List.length_append, oB_length (hf 0), oB_length (hf 1), oB_length (hf 2), oB_length (hf 3)]
theorem cat4_byts (hf : ∀ j : Nat, okO (4 * k + (j : Int)) (f j)) : Byts (cat4 f) := (oB_byts (hf 0)).append ((oB_byts (hf 1)).append ((oB_byts (hf 2)).append (oB_byts (hf 3))))
theorem chunk_cat (hf : ∀ j : Nat, okO (4 * k + (j : Int)) (f j)) {j : Nat} (hj : j < 4) : chunkE (cat4 f) j = oB (f j) := by
  have h0 := oB_length (hf 0)
  have h1 := oB_length (hf 1)
  have h2 := oB_length (hf 2)
  have h3 := oB_length (hf 3)
  unfold chunkE cat4
  rcases (by omega : j = 0 ∨ j = 1 ∨ j = 2 ∨ j = 3) with rfl | rfl | rfl | rfl
  · rw [List.drop_zero, List.take_left' h0]
  · rw [List.drop_left' h0, List.take_left' h1]
  · rw [← List.append_assoc, List.drop_left' (by simp; omega), List.take_left' h2]
  · rw [← List.append_assoc, ← List.append_assoc, List.drop_left' (by simp; omega), List.take_of_length_le (by omega)]
end
theorem str_sB8 (r : ByteArray) : strOfNums (sB r) = r := by
  unfold strOfNums sB
  rw [List.map_map]
  have : ((fun n : Int => UInt8.ofNat n.toNat) ∘ fun b : UInt8 => (b.toNat : Int)) = id := by
    funext b; simp
  rw [this, List.map_id]
theorem unpack_pack {s : ByteArray} (h : rightN s = true) : unpackN (packN s) = (s, true) := by
  have hsz := rightN_size h
  have hl := packN_length (s := s) (by omega)
  have e : strOfNums (((packN s).drop 1).take ((packN s).headD 0).toNat) = s := by
    unfold packN
    rw [List.drop_succ_cons, List.drop_zero, List.headD_cons, Int.toNat_natCast, List.take_left' (sB_length s), str_sB8]
  unfold unpackN
  dsimp only
  rw [e, if_pos ⟨hl, by unfold packN; simp; omega, h, rfl⟩]
theorem getE_bytes {sl ino : Int} {nm : ByteArray} (h : rightE sl ino nm = true) {s : Int} (h0 : 0 ≤ s) (h1 : s < 16) : getE (bytesE ino nm) s = (⟨s, ino, nm⟩, true, true) := by
  obtain ⟨p1, p2, p3, p4, p5⟩ := rightE_parts h
  have hl := bytesE_length (ino := ino) p5
  have g : gN (bytesE ino nm) 0 2 = ino := by
    unfold bytesE
    rw [show (2 : Int) = ((2 : Nat) : Int) from rfl, gN_two (leB_length ino 2) rfl, leN_le (by omega) (by omega)]
  have d : (bytesE ino nm).drop 2 = packN nm := by
    unfold bytesE
    rw [List.drop_left' (leB_length ino 2)]
  have ne : ¬ bytesE ino nm = List.replicate 16 0 := fun e => by
    rw [e] at g
    have : gN (List.replicate 16 0) 0 2 = 0 := by decide
    omega
  have hr : rightE s ino nm = true := by simp [rightE, h0, h1, p3, p4, p5]
  unfold getE
  rw [if_neg (by omega), if_neg ne]
  dsimp only
  rw [g, d, unpack_pack p5]
  dsimp only
  rw [if_pos ⟨hr, rfl⟩]
theorem getE_zeros (s : Int) : getE (List.replicate 16 0) s = (Ent.zero, false, true) := by
  unfold getE
  rw [if_neg (by simp), if_pos rfl]
theorem getE_oB {s s' : Int} {o : Option Ent} (h : okO s o) (h0 : 0 ≤ s') (h1 : s' < 16) : (getE (oB o) s').2.2 = true := by
  cases o with
  | none => rw [oB, getE_zeros]
  | some x => rw [oB, getE_bytes (h x rfl).1 h0 h1]
theorem cat4_ok {f : Nat → Option Ent} {k : Int} (hf : ∀ j : Nat, okO (4 * k + (j : Int)) (f j)) : ∀ x : Nat, x < 4 → ∀ s : Int, 0 ≤ s → s < 16 → (getE (chunkE (cat4 f) x) s).2.2 = true := fun x hx s h0 h1 => by
  rw [chunk_cat hf hx]
  exact getE_oB (hf x) h0 h1
theorem ent_one {o : Option Ent} {s : Int} (h : okO s o) (h0 : 0 ≤ s) (h1 : s < 16) : (if (getE (oB o) s).2.1 = true then [(getE (oB o) s).1] else []) = o.toList := by
  cases o with
  | none => rw [oB, getE_zeros]; rfl
  | some x =>
    obtain ⟨hr, hs⟩ := h x rfl
    rw [oB, getE_bytes hr h0 h1, if_pos rfl]
    obtain ⟨a, b, c⟩ := x
    simp only at hs
    subst hs
    rfl
/-- The entries of the block. -/
def list4 (f : Nat → Option Ent) : List Ent := (f 0).toList ++ ((f 1).toList ++ ((f 2).toList ++ (f 3).toList))
theorem parse_cat {f : Nat → Option Ent} {k : Int} (k0 : 0 ≤ k) (k1 : k < 4) (hf : ∀ j : Nat, okO (4 * k + (j : Int)) (f j)) : parseE (cat4 f) k = list4 f := by
  unfold parseE entsE
  rw [show (List.finRange 4).zipIdx = [(0, 0), (1, 1), (2, 2), (3, 3)] by decide]
  simp only [List.flatMap_cons, List.flatMap_nil, List.append_nil]
  unfold list4
  have c (j : Nat) (hj : j < 4) := chunk_cat hf hj
  have e0 : ((0 : Fin 4).val) = 0 := rfl
  have e1 : ((1 : Fin 4).val) = 1 := rfl
  have e2 : ((2 : Fin 4).val) = 2 := rfl
  have e3 : ((3 : Fin 4).val) = 3 := rfl
  rw [e0, e1, e2, e3, c 0 (by decide), c 1 (by decide), c 2 (by decide), c 3 (by decide)]
  rw [ent_one (hf 0) (by omega) (by omega), ent_one (hf 1) (by omega) (by omega), ent_one (hf 2) (by omega) (by omega), ent_one (hf 3) (by omega) (by omega)]
theorem slot_ite {α : Type} (k : Int) (i j : Nat) (a b : α) : (if 4 * k + (i : Int) = 4 * k + (j : Int) then a else b) = if i = j then a else b := by
  by_cases h : i = j
  · subst h; simp
  · rw [if_neg (by omega), if_neg h]
/-- Without the slot q. -/
def without (f : Nat → Option Ent) (q : Nat) : Nat → Option Ent := fun j => if j = q then none else f j
theorem without_ok {f : Nat → Option Ent} {k : Int} (hf : ∀ j : Nat, okO (4 * k + (j : Int)) (f j)) (q : Nat) : ∀ j : Nat, okO (4 * k + (j : Int)) (without f q j) := fun j x hx => by
  unfold without at hx
  split at hx
  · cases hx
  · exact hf j x hx
theorem clear_cat {f : Nat → Option Ent} {k : Int} (hf : ∀ j : Nat, okO (4 * k + (j : Int)) (f j)) {s : Int} {q : Nat} (hq : s % 4 = q) (hq4 : q < 4) : clearE (cat4 f) s = cat4 (without f q) := by
  have h0 := oB_length (hf 0)
  have h1 := oB_length (hf 1)
  have h2 := oB_length (hf 2)
  have h3 := oB_length (hf 3)
  unfold clearE setAt
  rw [hq, Int.toNat_natCast, List.length_replicate]
  have z : oB none = List.replicate 16 0 := rfl
  unfold cat4
  rcases (by omega : q = 0 ∨ q = 1 ∨ q = 2 ∨ q = 3) with rfl | rfl | rfl | rfl
  · simp only [without, if_true, z, Nat.mul_zero, List.take_zero, List.nil_append, Nat.zero_add]
    rw [List.drop_left' h0]; rfl
  · rw [List.take_left' (by simp; omega : (oB (f 0)).length = 16 * 1), ← List.append_assoc (oB (f 0)), List.drop_left' (by simp; omega)]
    simp [without, z]
  · rw [← List.append_assoc (oB (f 0)), List.take_left' (by simp; omega), ← List.append_assoc (oB (f 0) ++ oB (f 1)), List.drop_left' (by simp; omega)]
    simp [without, z]
  · rw [← List.append_assoc (oB (f 0)), ← List.append_assoc (oB (f 0) ++ oB (f 1)), List.take_left' (by simp; omega), List.drop_eq_nil_of_le (by simp; omega)]
    simp [without, z]
theorem toList_filter {o : Option Ent} {s t : Int} (h : okO s o) : o.toList.filter (fun e => !(e.sl == t)) = if s = t then [] else o.toList := by
  cases o with
  | none => simp
  | some x =>
    obtain ⟨_, hs⟩ := h x rfl
    by_cases hst : s = t
    · simp [hs, hst]
    · simp [hs, hst]
theorem list4_without {f : Nat → Option Ent} {k : Int} (hf : ∀ j : Nat, okO (4 * k + (j : Int)) (f j)) {q : Nat} (hq : q < 4) : list4 (without f q) = (list4 f).filter (fun e => !(e.sl == 4 * k + (q : Int))) := by
  unfold list4
  rw [List.filter_append, List.filter_append, List.filter_append, toList_filter (hf 0), toList_filter (hf 1), toList_filter (hf 2), toList_filter (hf 3)]
  simp only [slot_ite]
  rcases (by omega : q = 0 ∨ q = 1 ∨ q = 2 ∨ q = 3) with rfl | rfl | rfl | rfl <;> simp [without]
theorem list4_mem {f : Nat → Option Ent} {x : Ent} (h : x ∈ list4 f) : ∃ j : Nat, j < 4 ∧ f j = some x := by
  unfold list4 at h
  simp only [List.mem_append, Option.mem_toList] at h
  rcases h with h | h | h | h
  · exact ⟨0, by decide, h⟩
  · exact ⟨1, by decide, h⟩
  · exact ⟨2, by decide, h⟩
  · exact ⟨3, by decide, h⟩
theorem toList_find {o : Option Ent} {s t : Int} (h : okO s o) : o.toList.find? (slotP t) = if s = t then o else none := by
  cases o with
  | none => simp
  | some x =>
    obtain ⟨hr, hs⟩ := h x rfl
    subst hs
    by_cases hst : x.sl = t
    · subst hst; simp [slotP, hr]
    · simp [slotP, hst]
theorem find_list4 {f : Nat → Option Ent} {k : Int} (hf : ∀ j : Nat, okO (4 * k + (j : Int)) (f j)) {j : Nat} (hj : j < 4) : (list4 f).find? (slotP (4 * k + (j : Int))) = f j := by
  unfold list4
  rw [List.find?_append, List.find?_append, List.find?_append, toList_find (hf 0), toList_find (hf 1), toList_find (hf 2), toList_find (hf 3)]
  simp only [slot_ite]
  rcases (by omega : j = 0 ∨ j = 1 ∨ j = 2 ∨ j = 3) with rfl | rfl | rfl | rfl <;> simp
theorem block_list4 {f : Nat → Option Ent} {k : Int} (k0 : 0 ≤ k) (k1 : k < 4) (hf : ∀ j : Nat, okO (4 * k + (j : Int)) (f j)) : blockE (list4 f) k = cat4 f := by
  rw [blockE_cat _ k0 k1]
  unfold cat4
  dsimp only
  rw [find_list4 hf (by decide), find_list4 hf (by decide), find_list4 hf (by decide), find_list4 hf (by decide)]
/-- The slots rise. -/
theorem list4_rise {f : Nat → Option Ent} {k : Int} (hf : ∀ j : Nat, okO (4 * k + (j : Int)) (f j)) : (list4 f).Pairwise (fun a b => a.sl < b.sl) := by
  have s (j : Nat) (x : Ent) (h : f j = some x) : x.sl = 4 * k + j := (hf j x h).2
  unfold list4
  have one (o : Option Ent) : o.toList.Pairwise (fun a b : Ent => a.sl < b.sl) := by cases o <;> simp
  refine List.pairwise_append.2 ⟨one _, List.pairwise_append.2 ⟨one _, List.pairwise_append.2 ⟨one _, one _, ?_⟩, ?_⟩, ?_⟩
  · intro a ha b hb
    have h1 := s 2 a (by simpa using ha)
    have h2 := s 3 b (by simpa using hb)
    omega
  · intro a ha b hb
    have h1 := s 1 a (by simpa using ha)
    simp only [List.mem_append, Option.mem_toList] at hb
    rcases hb with hb | hb
    · have h2 := s 2 b hb; omega
    · have h2 := s 3 b hb; omega
  · intro a ha b hb
    have h1 := s 0 a (by simpa using ha)
    simp only [List.mem_append, Option.mem_toList] at hb
    rcases hb with hb | hb | hb
    · have h2 := s 1 b hb; omega
    · have h2 := s 2 b hb; omega
    · have h2 := s 3 b hb; omega
theorem list4_le (f : Nat → Option Ent) : (list4 f).length ≤ 4 := by
  unfold list4
  have one (o : Option Ent) : o.toList.length ≤ 1 := by cases o <;> simp
  have h0 := one (f 0)
  have h1 := one (f 1)
  have h2 := one (f 2)
  have h3 := one (f 3)
  simp only [List.length_append]
  omega
end Go.Proofs.Ytdknolnoimpgeaa.K
namespace Go.Proofs.Ytdknolnoimpgeaa.K
open Go.RowKit Go.Shelf Go.Lib Go.Proofs.YtdknolnoimpgeaaW.PrintWords Go.Proofs.YtdknolnoimpgeaaW.PrintLast Go.Proofs.YtdknolnoimpgeaaW.PrintMore
set_option linter.unusedVariables false
set_option linter.unusedSimpArgs false
set_option maxHeartbeats 4000000 in
set_option maxRecDepth 100000 in
theorem rEBytes_walk (sl ino : Int) (nm : ByteArray) (w0 : World) (h : rightE sl ino nm = true) :
    Calls Try.prog 111 #[.agg #[.int .i64 sl, .int .i64 ino, .string nm]] w0 fun e w' => ∃ A c, e = .returned (.slice A 16 c) ∧ Kd.C (Kd.int .u8) w' A 16 (bytesE ino nm) ∧ Below w0.heap.size w0 w' := by
  obtain ⟨h1, h2, h3, h4, h5⟩ := rightE_parts h
  have hpl := packN_length (s := nm) (by have := (rightN_size h5).2; omega)
  have h16 := Aside0.mk (bytesE_length (ino := ino) h5)
  have WN : Aside0 (∀ W, Calls Try.prog 137 #[.int .i64 ino, .int .i64 2] W fun e w' => ∃ v : Value, e = .returned v ∧ Kd.R (Kd.int .u8) 5 w' W.heap.size (fun _ => True) v (leB ino 2) ∧ Below W.heap.size W w') := ⟨fun W => rB_walk ino 2 W (by omega) (by omega) (by omega)⟩
  have WP : Aside0 (∀ W, Calls Try.prog 140 #[.string nm] W fun e w' => ∃ A c, e = .returned (.slice A (packN nm).length c) ∧ Kd.C (Kd.int .u8) w' A (packN nm).length (packN nm) ∧ Below W.heap.size W w') := ⟨fun W => (rPack_walk nm W h5).mono fun e w' ⟨v, he, ho, hb⟩ => by
    obtain ⟨Ap, cp, rfl⟩ := Kd.R_slice ho
    exact ⟨Ap, cp, he, (Kd.R_reads' ho).2.2, hb⟩⟩
  have hp14 := Aside0.mk hpl
  clear hpl h h1 h2 h3 h4 h5
  go_enter Try.func111, Try.ntmps111
  go_wp2
  obtain ⟨w, hw⟩ : ∃ w, w = w0.alloc (.cells #[.int .i64 sl, .int .i64 ino, .string nm] 62) := ⟨_, rfl⟩
  skip
  rw [← hw]
  have HW := Aside0.mk hw
  have HB := Aside0.mk (Below.refl w.heap.size w)
  have k0 : w.cell? ⟨w0.heap.size, 0, none⟩ = some (.int .i64 sl) := by rw [hw]; go_simp
  have k1 : w.cell? ⟨w0.heap.size, 1, none⟩ = some (.int .i64 ino) := by rw [hw]; go_simp
  have k2 : w.cell? ⟨w0.heap.size, 2, none⟩ = some (.string nm) := by rw [hw]; go_simp
  have hlt0 : w0.heap.size < w.heap.size := by rw [hw]; simp
  clear hw
  have m1 := k1
  have m2 := k2
  have hb1 := HB.out
  go_region_held3 (fun W => W.cell? ⟨w0.heap.size, 1, none⟩ = some (.int .i64 ino) ∧ W.cell? ⟨w0.heap.size, 2, none⟩ = some (.string nm) ∧ Below w.heap.size w W) (first | (exact ⟨pw_cell_below hb19 k1, pw_cell_below hb19 k2, hb19⟩) | (go_split_ands; refine ⟨pw_cell_below hb5 (by assumption), pw_cell_below hb5 (by assumption), below_step (by assumption) hb5⟩) | (go_split_ands; refine ⟨(by assumption), (by assumption), pw_below_drewN (by assumption) _⟩) | (go_split_ands; refine ⟨pw_cell_below (below_alloc (Below.refl _ _) _) (by assumption), pw_cell_below (below_alloc (Below.refl _ _) _) (by assumption), below_alloc (by assumption) _⟩)) (first | (go_at_call 137; go_split_ands; (with_reducible refine (WN.out _).mono ?_); rintro e w5 ⟨v5, rfl, ho5_, hb5⟩; have ho5 := Kd.R_lower ho5_ (below_size (by assumption)); clear ho5_; obtain ⟨A5, c5, rfl⟩ := Kd.R_slice ho5) | (go_at_call 140; go_split_ands; (with_reducible refine (WP.out _).mono ?_); rintro e w6 ⟨A6, c6, rfl, hc6, hb5⟩; have hb6 := hb5) | (go_split_ands; (refine Kd.R_append_rows_step (Kd.int .u8) (w0 := w) w.heap.size (by rfl) (.tmp 5) (.tmp 8) 24 5 (.int .u8 0) 1 (by rfl) Try.underlying24 u8info rfl (by decide) (by omega) _ (leB ino 2) (packN nm) A6 (packN nm).length c6 (fun _ => True) (fun _ => False) (by rfl) (by rfl) ?aO ?aR (fun _ _ h => h) (fun _ h => h.elim) (fun _ _ => trivial) ?aB ?aS ?aL ?_); (case aO => first | exact Kd.R_below ho5 (by first | exact hb6 | exact below_undrew hb6) | exact Kd.R_drew (Kd.R_below ho5 hb6)); (case aR => first | exact hc6 | exact Kd.C_drew hc6); (case aB => assumption); (case aS => exact below_size (by assumption)); (case aL => rw [leB_length, hp14.out]; decide); intro v19 w19 ho19 hb19 hg_ hat_; clear hg_ hat_) | fail)
  obtain ⟨A, c, rfl⟩ := Kd.R_slice ho19
  have HC := Aside0.mk (Kd.R_reads' ho19).2.2
  have HX : Aside0 (Below w0.heap.size w0 w19) := ⟨by have := hb19; rw [HW.out] at this; exact below_step (W := w0.alloc _) (below_alloc (Below.refl _ _) _) this⟩
  clear ho19
  rw [show (leB ino 2 ++ packN nm).length = 16 from h16.out] at HC ⊢
  go_wp2
  go_ret
  exact ⟨A, _, rfl, by first | exact HC.out | exact Kd.C_drew HC.out | exact Kd.C_drewN HC.out _, by first | exact HX.out | exact below_drew1 HX.out | exact pw_below_drewN HX.out _⟩
set_option maxRecDepth 100000 in
theorem rEPut_no (sl ino : Int) (nm : ByteArray) (w : World) (h : rightE sl ino nm = false) :
    Calls Try.prog 55 #[.agg #[.int .i64 sl, .int .i64 ino, .string nm]] w fun e w' => e = .returned (.tuple #[.slice none 0 0, .int .i64 1]) ∧ Below w.heap.size w w' := by
  have HB := Aside0.mk (Below.refl w.heap.size w)
  have WR := Aside0.mk (fun W => rERight_walk sl ino nm W)
  rw [h] at WR
  clear h
  go_enter Try.func55, Try.ntmps55
  go_wp2_with (go_at_call 59; (with_reducible refine (WR.out _).mono ?_); rintro e w1 ⟨rfl, hb⟩; have n1_ : Aside0 (Below w.heap.size w w1) := ⟨below_step (by repeat (first | (with_reducible first | exact HB.out | apply below_alloc | apply pw_below_drewN | apply below_drew1) | exact HB.out)) hb⟩; clear HB; have HB := n1_; clear n1_; clear hb)
  go_ret2
  exact ⟨rfl, (by repeat (first | (with_reducible first | exact HB.out | apply below_alloc | apply pw_below_drewN | apply below_drew1) | exact HB.out))⟩
set_option maxRecDepth 100000 in
theorem rEPut_walk (sl ino : Int) (nm : ByteArray) (w0 : World) (h : rightE sl ino nm = true) :
    Calls Try.prog 55 #[.agg #[.int .i64 sl, .int .i64 ino, .string nm]] w0 fun e w' => ∃ A c, e = .returned (.tuple #[.slice A 16 c, .int .i64 0]) ∧ Kd.C (Kd.int .u8) w' A 16 (bytesE ino nm) ∧ Below w0.heap.size w0 w' := by
  have WR := Aside0.mk (fun W => rERight_walk sl ino nm W)
  have WB := Aside0.mk (fun W => rEBytes_walk sl ino nm W h)
  rw [h] at WR
  clear h
  go_enter Try.func55, Try.ntmps55
  go_wp2_with (go_at_call 59; fail)
  obtain ⟨w, hw⟩ : ∃ w, w = w0.alloc (.cells #[.int .i64 sl, .int .i64 ino, .string nm] 62) := ⟨_, rfl⟩
  skip
  rw [← hw]
  have HW := Aside0.mk hw
  have HB := Aside0.mk (Below.refl w.heap.size w)
  have k0 : w.cell? ⟨w0.heap.size, 0, none⟩ = some (.int .i64 sl) := by rw [hw]; go_simp
  have k1 : w.cell? ⟨w0.heap.size, 1, none⟩ = some (.int .i64 ino) := by rw [hw]; go_simp
  have k2 : w.cell? ⟨w0.heap.size, 2, none⟩ = some (.string nm) := by rw [hw]; go_simp
  have hlt0 : w0.heap.size < w.heap.size := by rw [hw]; simp
  clear hw
  refine (WR.out _).mono ?_
  rintro e w1 ⟨rfl, hb⟩
  have m0 := pw_cell_below hb k0
  have m1 := pw_cell_below hb k1
  have m2 := pw_cell_below hb k2
  have hb1 : Aside0 (Below w0.heap.size w0 w1) := ⟨by have := below_step HB.out hb; rw [HW.out] at this; exact below_step (W := w0.alloc _) (below_alloc (Below.refl _ _) _) this⟩
  clear hb
  go_wp2_with (go_at_call 111; (with_reducible refine (WB.out _).mono ?_); rintro e w2 ⟨A, c, rfl, hc, hb⟩; have HC := Aside0.mk hc; have HX := Aside0.mk (below_step hb1.out hb); clear hb hc)
  go_ret2
  exact ⟨A, _, rfl, HC.out, HX.out⟩
end Go.Proofs.Ytdknolnoimpgeaa.K
namespace Go.Proofs.Ytdknolnoimpgeaa.K
open Go.RowKit Go.Shelf Go.Lib Go.Proofs.YtdknolnoimpgeaaW.PrintWords Go.Proofs.YtdknolnoimpgeaaW.PrintLast Go.Proofs.YtdknolnoimpgeaaW.PrintMore
set_option linter.unusedVariables false
set_option linter.unusedSimpArgs false
theorem wpE_zero : (Value.agg #[.int .i64 0, .int .i64 0, .string ByteArray.empty]).cells = #[.int .i64 0, .int .i64 0, .string ⟨#[]⟩] := rfl
set_option maxHeartbeats 4000000 in
set_option maxRecDepth 100000 in
theorem rEGet_walk (A : Option Addr) (c : Nat) (l : List Int) (slot : Int) (w : World) (hr : Kd.C (Kd.int .u8) w A l.length l) (hb : Byts l) (hcap : l.length ≤ c) (hmax : l.length < 140737488355320) :
    Calls Try.prog 57 #[.slice A l.length c, .int .i64 slot] w fun e w' => e = .returned (.tuple #[.agg #[.int .i64 (getE l slot).1.sl, .int .i64 (getE l slot).1.ino, .string (getE l slot).1.nm], .bool (getE l slot).2.1, .bool (getE l slot).2.2]) ∧ Below w.heap.size w w' := by
  have HB := Aside0.mk (Below.refl w.heap.size w)
  obtain ⟨z, hz⟩ : ∃ z, z = List.replicate (16 : Int).toNat (0 : Int) := ⟨_, rfl⟩
  have hzl : Aside0 (z.length = 16) := ⟨by rw [hz]; rfl⟩
  obtain ⟨b, hbz⟩ : ∃ b, b = decide (l = z) := ⟨_, rfl⟩
  have WS : Aside0 (∀ A2 c2 W, Kd.C (Kd.int .u8) W A l.length l → Kd.C (Kd.int .u8) W A2 z.length z → Calls Try.prog 92 #[.slice A l.length c, .slice A2 16 c2] W fun e w' => e = .returned (.bool b) ∧ Drawn0 W w') := ⟨fun A2 c2 W h1 h2 => by
    have := rSame_walk A c l A2 c2 z W h1 h2 (by omega)
    rw [← hbz, hzl.out] at this
    exact this⟩
  have HR := Aside0.mk hr
  clear hr
  cases b with
  | true =>
    have E0 : Aside0 (getE l slot = (Ent.zero, false, true)) := ⟨by
      have e : l = List.replicate 16 0 := by have := of_decide_eq_true hbz.symm; rw [hz] at this; exact this
      unfold getE
      rw [if_neg (by rw [e]; simp), if_pos e]⟩
    rw [hz] at WS
    clear hbz hz hzl
    go_enter Try.func57, Try.ntmps57
    go_wp2_with (first | ((with_reducible refine gate_dst (N := 13) rfl ?_); refine Kd.R_make (Kd.int .u8) _ 5 rfl (N := 13) rfl 24 _ _ rfl (16) rfl rfl Try.underlying24 (.int .u8 0) 1 u8info rfl (by decide) (by omega) 0 (ok := fun _ => True) (okp := fun _ => True) rfl (fun _ hk => hk) trivial (by omega) (by omega) (Below.refl _ _) (Nat.le_refl _) ?_; intro v5 w5 ho hb hg_ hnew_; clear hg_ hnew_; obtain ⟨g5, c5, rfl, hg5, hl5, _, _⟩ := Kd.R_form ho (by simp); have HG5 := Aside0.mk (Nat.le_trans (below_size (by repeat (first | (with_reducible first | exact HB.out | apply below_alloc | apply pw_below_drewN | apply below_drew1) | exact HB.out))) hg5); clear hg5 hl5; have HO5 := Aside0.mk (Kd.R_lower ho (below_size (by repeat (first | (with_reducible first | exact HB.out | apply below_alloc | apply pw_below_drewN | apply below_drew1) | exact HB.out)))); have n1_ : Aside0 (Below w.heap.size w w5) := ⟨below_step (by repeat (first | (with_reducible first | exact HB.out | apply below_alloc | apply pw_below_drewN | apply below_drew1) | exact HB.out)) hb⟩; clear HB; have HB := n1_; clear n1_; have BK5 : Aside0 (w5.heap[w.heap.size]? = some (.cells #[.int .i64 0, .int .i64 0, .string ⟨#[]⟩] 62 (0, 0))) := ⟨blk_below (heap_alloc_new _ _) hb⟩; clear ho hb) | (go_at_call 92; (with_reducible refine (WS.out (some ⟨g5, 0, none⟩) c5 _ (Kd.C_below HR.out (by repeat (first | (with_reducible first | exact HB.out | apply below_alloc | apply pw_below_drewN | apply below_drew1) | exact HB.out))) (Kd.R_reads' HO5.out).2.2).mono ?_); rintro e w' ⟨rfl, ⟨nd, rfl⟩⟩) | ((with_reducible refine gate_store (p := 4) rfl ?_); go_loud (refine wpList_store_rowL rfl rfl 62 (.tmp 4) (.tmp 15) rfl (w.heap.size) #[.int .i64 0, .int .i64 0, .string ⟨#[]⟩] rfl rfl 62 #[.int .i64 0, .int .i64 0, .string ⟨#[]⟩] (blk_drewN BK5.out _) (by kernel_rfl) rfl (by simp [Value.oneCell']) ?_; intro w7 bk_ hg_)))
    rw [E0.out]
    refine bodyPost_ret (results_row3 rfl _ _ w.heap.size 62 #[.int .i64 0, .int .i64 0, .string ⟨#[]⟩] (0, 0) _ (.bool false) (.bool true) rfl rfl rfl bk_ Try.underlying62 rfl (by kernel_rfl)) rfl ?_
    exact ⟨by rfl, pw_below_grown (pw_below_drewN HB.out _) (some w.heap.size) (pw_below_drewN HB.out _).size hg_ (fun k e => by cases e; exact Nat.le_refl _)⟩
  | false =>
    have hne : Aside0 (¬ l = List.replicate 16 0) := ⟨fun e => by rw [e, hz] at hbz; simp at hbz⟩
    rw [hz] at WS
    by_cases hl : l.length = 16
    case neg =>
      have E0 : Aside0 (getE l slot = (Ent.zero, false, false)) := ⟨by unfold getE; rw [if_pos hl]⟩
      have h14 : ((l.length : Int) != 16) = true := by simp; omega
      clear hbz hz hzl hl hne
      go_enter Try.func57, Try.ntmps57
      go_wp2_with (first | ((with_reducible refine gate_dst (N := 13) rfl ?_); refine Kd.R_make (Kd.int .u8) _ 5 rfl (N := 13) rfl 24 _ _ rfl (16) rfl rfl Try.underlying24 (.int .u8 0) 1 u8info rfl (by decide) (by omega) 0 (ok := fun _ => True) (okp := fun _ => True) rfl (fun _ hk => hk) trivial (by omega) (by omega) (Below.refl _ _) (Nat.le_refl _) ?_; intro v5 w5 ho hb hg_ hnew_; clear hg_ hnew_; obtain ⟨g5, c5, rfl, hg5, hl5, _, _⟩ := Kd.R_form ho (by simp); have HG5 := Aside0.mk (Nat.le_trans (below_size (by repeat (first | (with_reducible first | exact HB.out | apply below_alloc | apply pw_below_drewN | apply below_drew1) | exact HB.out))) hg5); clear hg5 hl5; have HO5 := Aside0.mk (Kd.R_lower ho (below_size (by repeat (first | (with_reducible first | exact HB.out | apply below_alloc | apply pw_below_drewN | apply below_drew1) | exact HB.out)))); have n1_ : Aside0 (Below w.heap.size w w5) := ⟨below_step (by repeat (first | (with_reducible first | exact HB.out | apply below_alloc | apply pw_below_drewN | apply below_drew1) | exact HB.out)) hb⟩; clear HB; have HB := n1_; clear n1_; have BK5 : Aside0 (w5.heap[w.heap.size]? = some (.cells #[.int .i64 0, .int .i64 0, .string ⟨#[]⟩] 62 (0, 0))) := ⟨blk_below (heap_alloc_new _ _) hb⟩; clear ho hb) | (go_at_call 92; (with_reducible refine (WS.out (some ⟨g5, 0, none⟩) c5 _ (Kd.C_below HR.out (by repeat (first | (with_reducible first | exact HB.out | apply below_alloc | apply pw_below_drewN | apply below_drew1) | exact HB.out))) (Kd.R_reads' HO5.out).2.2).mono ?_); rintro e w' ⟨rfl, ⟨nd, rfl⟩⟩) | ((with_reducible refine gate_store (p := 4) rfl ?_); go_loud (refine wpList_store_rowL rfl rfl 62 (.tmp 4) (.tmp 19) rfl (w.heap.size) #[.int .i64 0, .int .i64 0, .string ⟨#[]⟩] rfl rfl 62 #[.int .i64 0, .int .i64 0, .string ⟨#[]⟩] (blk_drewN BK5.out _) (by kernel_rfl) rfl (by simp [Value.oneCell']) ?_; intro w7 bk_ hg_)))
      rw [E0.out]
      refine bodyPost_ret (results_row3 rfl _ _ w.heap.size 62 #[.int .i64 0, .int .i64 0, .string ⟨#[]⟩] (0, 0) _ (.bool false) (.bool false) rfl rfl rfl bk_ Try.underlying62 rfl (by kernel_rfl)) rfl ?_
      exact ⟨by rfl, pw_below_grown (pw_below_drewN HB.out _) (some w.heap.size) (pw_below_drewN HB.out _).size hg_ (fun k e => by cases e; exact Nat.le_refl _)⟩
    have E1 := Aside0.mk (getE_ref hb hl hne.out slot)
    have hl16 := Aside0.mk hl
    have WG : Aside0 (∀ W, Kd.C (Kd.int .u8) W A l.length l → Calls Try.prog 99 #[.slice A 16 c, .int .i64 0, .int .i64 2] W fun e w' => e = .returned (.tuple #[.int .i64 (gN l 0 2), .bool (numG l 0 2).2]) ∧ Drawn0 W w') := ⟨fun W h => by
      have := rG_walk A c l 0 2 W h hmax hb
      rw [hl16.out] at this
      exact this⟩
    obtain ⟨ad, rfl, _⟩ := Kd.at_int HR.out 0 (by omega) (by omega)
    have WU : Aside0 (∀ W, Kd.C (Kd.int .u8) W (some ad) l.length l → Calls Try.prog 113 #[.slice (some ⟨ad.block, ad.off + 2, none⟩) 14 (c - 2)] W fun e w' => e = .returned (.tuple #[.string (unpackN (l.drop 2)).1, .bool (unpackN (l.drop 2)).2]) ∧ Below W.heap.size W w') := ⟨fun W h => by
      have h2 := Kd.C_drop (c := c) (m := 2) h (by rw [hl16.out]; decide) (by rw [hl16.out]; omega)
      have hdl : (l.drop 2).length = 14 := by rw [List.length_drop, hl16.out]
      rw [if_neg (by omega)] at h2
      have := rUnpack_walk _ (c - 2) (l.drop 2) W h2 (fun x hx => hb x (List.mem_of_mem_drop hx)) (by omega)
      rw [hdl] at this
      exact this⟩
    obtain ⟨ino, hino⟩ : ∃ ino, ino = gN l 0 2 := ⟨_, rfl⟩
    obtain ⟨nm, hnm⟩ : ∃ nm, nm = (unpackN (l.drop 2)).1 := ⟨_, rfl⟩
    obtain ⟨ok, hok⟩ : ∃ ok, ok = (unpackN (l.drop 2)).2 := ⟨_, rfl⟩
    rw [← hino] at WG E1
    rw [← hnm, ← hok] at WU E1
    have hcap16 : 16 ≤ c := by omega
    obtain ⟨rt, hrt⟩ : ∃ rt, rt = rightE slot ino nm := ⟨_, rfl⟩
    have WR := Aside0.mk (fun W => rERight_walk slot ino nm W)
    rw [← hrt] at WR E1
    rw [hl] at WS WG WU HR ⊢
    clear hbz hz hzl hl hne hino hnm hok hrt hcap hmax hb
    cases ok with
    | false =>
      have E0 : Aside0 (getE l slot = (Ent.zero, false, false)) := ⟨by rw [E1.out]; simp⟩
      clear E1
      go_enter Try.func57, Try.ntmps57
      go_wp2_with (first | ((with_reducible refine gate_dst (N := 13) rfl ?_); refine Kd.R_make (Kd.int .u8) _ 5 rfl (N := 13) rfl 24 _ _ rfl (16) rfl rfl Try.underlying24 (.int .u8 0) 1 u8info rfl (by decide) (by omega) 0 (ok := fun _ => True) (okp := fun _ => True) rfl (fun _ hk => hk) trivial (by omega) (by omega) (Below.refl _ _) (Nat.le_refl _) ?_; intro v5 w5 ho hb hg_ hnew_; clear hg_ hnew_; obtain ⟨g5, c5, rfl, hg5, hl5, _, _⟩ := Kd.R_form ho (by simp); have HG5 := Aside0.mk (Nat.le_trans (below_size (by repeat (first | (with_reducible first | exact HB.out | apply below_alloc | apply pw_below_drewN | apply below_drew1) | exact HB.out))) hg5); clear hg5 hl5; have HO5 := Aside0.mk (Kd.R_lower ho (below_size (by repeat (first | (with_reducible first | exact HB.out | apply below_alloc | apply pw_below_drewN | apply below_drew1) | exact HB.out)))); have n1_ : Aside0 (Below w.heap.size w w5) := ⟨below_step (by repeat (first | (with_reducible first | exact HB.out | apply below_alloc | apply pw_below_drewN | apply below_drew1) | exact HB.out)) hb⟩; clear HB; have HB := n1_; clear n1_; have BK5 : Aside0 (w5.heap[w.heap.size]? = some (.cells #[.int .i64 0, .int .i64 0, .string ⟨#[]⟩] 62 (0, 0))) := ⟨blk_below (heap_alloc_new _ _) hb⟩; clear ho hb) | (go_at_call 92; (with_reducible refine (WS.out (some ⟨g5, 0, none⟩) c5 _ (Kd.C_below HR.out (by repeat (first | (with_reducible first | exact HB.out | apply below_alloc | apply pw_below_drewN | apply below_drew1) | exact HB.out))) (Kd.R_reads' HO5.out).2.2).mono ?_); rintro e w' ⟨rfl, ⟨nd, rfl⟩⟩) | (go_at_call 99; (with_reducible refine (WG.out _ (Kd.C_below HR.out (by repeat (first | (with_reducible first | exact HB.out | apply below_alloc | apply pw_below_drewN | apply below_drew1) | exact HB.out)))).mono ?_); rintro e w' ⟨rfl, ⟨nd2, rfl⟩⟩) | (go_at_call 113; (with_reducible refine (WU.out _ (Kd.C_below HR.out (by repeat (first | (with_reducible first | exact HB.out | apply below_alloc | apply pw_below_drewN | apply below_drew1) | exact HB.out)))).mono ?_); rintro e w6 ⟨rfl, hb⟩; have BK6 : Aside0 (w6.heap[w.heap.size]? = some (.cells #[.int .i64 0, .int .i64 0, .string ⟨#[]⟩] 62 (0, 0))) := ⟨blk_below (by repeat (first | exact BK5.out | refine blk_drewN ?_ _)) hb⟩; have n1_ : Aside0 (Below w.heap.size w w6) := ⟨below_step (by repeat (first | (with_reducible first | exact HB.out | apply below_alloc | apply pw_below_drewN | apply below_drew1) | exact HB.out)) hb⟩; clear HB; have HB := n1_; clear n1_; clear hb) | (go_at_call 59; (with_reducible refine (WR.out _).mono ?_); rintro e w7 ⟨rfl, hb⟩; have BK7 : Aside0 (w7.heap[w.heap.size]? = some (.cells #[.int .i64 0, .int .i64 0, .string ⟨#[]⟩] 62 (0, 0))) := ⟨blk_below (blk_alloc BK6.out _) hb⟩; have C7 : Aside0 (w7.heap[w6.heap.size]? = some (.cells #[.int .i64 slot, .int .i64 ino, .string nm] 62 (0, 0))) := ⟨blk_below (heap_alloc_new _ _) hb⟩; have y0_ := (blk_cell C7.out 0).trans rfl; have y1_ := (blk_cell C7.out 1).trans rfl; have y2_ := (blk_cell C7.out 2).trans rfl; have n1_ : Aside0 (Below w.heap.size w w7) := ⟨below_step (by repeat (first | (with_reducible first | exact HB.out | apply below_alloc | apply pw_below_drewN | apply below_drew1) | exact HB.out)) hb⟩; clear HB; have HB := n1_; clear n1_; clear hb) | ((with_reducible refine gate_store (p := 4) rfl ?_); go_loud (refine wpList_store_rowL rfl rfl 62 (.tmp 4) (.tmp 42) rfl (w.heap.size) #[.int .i64 0, .int .i64 0, .string ⟨#[]⟩] rfl rfl 62 #[.int .i64 0, .int .i64 0, .string ⟨#[]⟩] (by first | exact BK7.out | exact blk_alloc BK6.out _) (by kernel_rfl) rfl (by simp [Value.oneCell']) ?_; intro w8 bk_ hg_)))
      rw [E0.out]
      refine bodyPost_ret (results_row3 rfl _ _ w.heap.size 62 #[.int .i64 0, .int .i64 0, .string ⟨#[]⟩] (0, 0) _ (.bool false) (.bool false) rfl rfl rfl bk_ Try.underlying62 rfl (by kernel_rfl)) rfl ?_
      exact ⟨by rfl, pw_below_grown (below_alloc HB.out _) (some w.heap.size) ((below_alloc HB.out _)).size hg_ (fun k e => by cases e; exact Nat.le_refl _)⟩
    | true =>
      cases rt with
      | false =>
        have E0 : Aside0 (getE l slot = (Ent.zero, false, false)) := ⟨by rw [E1.out]; simp⟩
        clear E1
        go_enter Try.func57, Try.ntmps57
        go_wp2_with (first | ((with_reducible refine gate_dst (N := 13) rfl ?_); refine Kd.R_make (Kd.int .u8) _ 5 rfl (N := 13) rfl 24 _ _ rfl (16) rfl rfl Try.underlying24 (.int .u8 0) 1 u8info rfl (by decide) (by omega) 0 (ok := fun _ => True) (okp := fun _ => True) rfl (fun _ hk => hk) trivial (by omega) (by omega) (Below.refl _ _) (Nat.le_refl _) ?_; intro v5 w5 ho hb hg_ hnew_; clear hg_ hnew_; obtain ⟨g5, c5, rfl, hg5, hl5, _, _⟩ := Kd.R_form ho (by simp); have HG5 := Aside0.mk (Nat.le_trans (below_size (by repeat (first | (with_reducible first | exact HB.out | apply below_alloc | apply pw_below_drewN | apply below_drew1) | exact HB.out))) hg5); clear hg5 hl5; have HO5 := Aside0.mk (Kd.R_lower ho (below_size (by repeat (first | (with_reducible first | exact HB.out | apply below_alloc | apply pw_below_drewN | apply below_drew1) | exact HB.out)))); have n1_ : Aside0 (Below w.heap.size w w5) := ⟨below_step (by repeat (first | (with_reducible first | exact HB.out | apply below_alloc | apply pw_below_drewN | apply below_drew1) | exact HB.out)) hb⟩; clear HB; have HB := n1_; clear n1_; have BK5 : Aside0 (w5.heap[w.heap.size]? = some (.cells #[.int .i64 0, .int .i64 0, .string ⟨#[]⟩] 62 (0, 0))) := ⟨blk_below (heap_alloc_new _ _) hb⟩; clear ho hb) | (go_at_call 92; (with_reducible refine (WS.out (some ⟨g5, 0, none⟩) c5 _ (Kd.C_below HR.out (by repeat (first | (with_reducible first | exact HB.out | apply below_alloc | apply pw_below_drewN | apply below_drew1) | exact HB.out))) (Kd.R_reads' HO5.out).2.2).mono ?_); rintro e w' ⟨rfl, ⟨nd, rfl⟩⟩) | (go_at_call 99; (with_reducible refine (WG.out _ (Kd.C_below HR.out (by repeat (first | (with_reducible first | exact HB.out | apply below_alloc | apply pw_below_drewN | apply below_drew1) | exact HB.out)))).mono ?_); rintro e w' ⟨rfl, ⟨nd2, rfl⟩⟩) | (go_at_call 113; (with_reducible refine (WU.out _ (Kd.C_below HR.out (by repeat (first | (with_reducible first | exact HB.out | apply below_alloc | apply pw_below_drewN | apply below_drew1) | exact HB.out)))).mono ?_); rintro e w6 ⟨rfl, hb⟩; have BK6 : Aside0 (w6.heap[w.heap.size]? = some (.cells #[.int .i64 0, .int .i64 0, .string ⟨#[]⟩] 62 (0, 0))) := ⟨blk_below (by repeat (first | exact BK5.out | refine blk_drewN ?_ _)) hb⟩; have n1_ : Aside0 (Below w.heap.size w w6) := ⟨below_step (by repeat (first | (with_reducible first | exact HB.out | apply below_alloc | apply pw_below_drewN | apply below_drew1) | exact HB.out)) hb⟩; clear HB; have HB := n1_; clear n1_; clear hb) | (go_at_call 59; (with_reducible refine (WR.out _).mono ?_); rintro e w7 ⟨rfl, hb⟩; have BK7 : Aside0 (w7.heap[w.heap.size]? = some (.cells #[.int .i64 0, .int .i64 0, .string ⟨#[]⟩] 62 (0, 0))) := ⟨blk_below (blk_alloc BK6.out _) hb⟩; have C7 : Aside0 (w7.heap[w6.heap.size]? = some (.cells #[.int .i64 slot, .int .i64 ino, .string nm] 62 (0, 0))) := ⟨blk_below (heap_alloc_new _ _) hb⟩; have y0_ := (blk_cell C7.out 0).trans rfl; have y1_ := (blk_cell C7.out 1).trans rfl; have y2_ := (blk_cell C7.out 2).trans rfl; have n1_ : Aside0 (Below w.heap.size w w7) := ⟨below_step (by repeat (first | (with_reducible first | exact HB.out | apply below_alloc | apply pw_below_drewN | apply below_drew1) | exact HB.out)) hb⟩; clear HB; have HB := n1_; clear n1_; clear hb) | ((with_reducible refine gate_store (p := 4) rfl ?_); go_loud (refine wpList_store_rowL rfl rfl 62 (.tmp 4) (.tmp 42) rfl (w.heap.size) #[.int .i64 0, .int .i64 0, .string ⟨#[]⟩] rfl rfl 62 #[.int .i64 0, .int .i64 0, .string ⟨#[]⟩] (by first | exact BK7.out | exact blk_alloc BK6.out _) (by kernel_rfl) rfl (by simp [Value.oneCell']) ?_; intro w8 bk_ hg_)))
        rw [E0.out]
        refine bodyPost_ret (results_row3 rfl _ _ w.heap.size 62 #[.int .i64 0, .int .i64 0, .string ⟨#[]⟩] (0, 0) _ (.bool false) (.bool false) rfl rfl rfl bk_ Try.underlying62 rfl (by kernel_rfl)) rfl ?_
        exact ⟨by rfl, pw_below_grown HB.out (some w.heap.size) (HB.out).size hg_ (fun k e => by cases e; exact Nat.le_refl _)⟩
      | true =>
        have E0 : Aside0 (getE l slot = (⟨slot, ino, nm⟩, true, true)) := ⟨by rw [E1.out]; simp⟩
        clear E1
        go_enter Try.func57, Try.ntmps57
        go_wp2_with (first | ((with_reducible refine gate_dst (N := 13) rfl ?_); refine Kd.R_make (Kd.int .u8) _ 5 rfl (N := 13) rfl 24 _ _ rfl (16) rfl rfl Try.underlying24 (.int .u8 0) 1 u8info rfl (by decide) (by omega) 0 (ok := fun _ => True) (okp := fun _ => True) rfl (fun _ hk => hk) trivial (by omega) (by omega) (Below.refl _ _) (Nat.le_refl _) ?_; intro v5 w5 ho hb hg_ hnew_; clear hg_ hnew_; obtain ⟨g5, c5, rfl, hg5, hl5, _, _⟩ := Kd.R_form ho (by simp); have HG5 := Aside0.mk (Nat.le_trans (below_size (by repeat (first | (with_reducible first | exact HB.out | apply below_alloc | apply pw_below_drewN | apply below_drew1) | exact HB.out))) hg5); clear hg5 hl5; have HO5 := Aside0.mk (Kd.R_lower ho (below_size (by repeat (first | (with_reducible first | exact HB.out | apply below_alloc | apply pw_below_drewN | apply below_drew1) | exact HB.out)))); have n1_ : Aside0 (Below w.heap.size w w5) := ⟨below_step (by repeat (first | (with_reducible first | exact HB.out | apply below_alloc | apply pw_below_drewN | apply below_drew1) | exact HB.out)) hb⟩; clear HB; have HB := n1_; clear n1_; have BK5 : Aside0 (w5.heap[w.heap.size]? = some (.cells #[.int .i64 0, .int .i64 0, .string ⟨#[]⟩] 62 (0, 0))) := ⟨blk_below (heap_alloc_new _ _) hb⟩; clear ho hb) | (go_at_call 92; (with_reducible refine (WS.out (some ⟨g5, 0, none⟩) c5 _ (Kd.C_below HR.out (by repeat (first | (with_reducible first | exact HB.out | apply below_alloc | apply pw_below_drewN | apply below_drew1) | exact HB.out))) (Kd.R_reads' HO5.out).2.2).mono ?_); rintro e w' ⟨rfl, ⟨nd, rfl⟩⟩) | (go_at_call 99; (with_reducible refine (WG.out _ (Kd.C_below HR.out (by repeat (first | (with_reducible first | exact HB.out | apply below_alloc | apply pw_below_drewN | apply below_drew1) | exact HB.out)))).mono ?_); rintro e w' ⟨rfl, ⟨nd2, rfl⟩⟩) | (go_at_call 113; (with_reducible refine (WU.out _ (Kd.C_below HR.out (by repeat (first | (with_reducible first | exact HB.out | apply below_alloc | apply pw_below_drewN | apply below_drew1) | exact HB.out)))).mono ?_); rintro e w6 ⟨rfl, hb⟩; have BK6 : Aside0 (w6.heap[w.heap.size]? = some (.cells #[.int .i64 0, .int .i64 0, .string ⟨#[]⟩] 62 (0, 0))) := ⟨blk_below (by repeat (first | exact BK5.out | refine blk_drewN ?_ _)) hb⟩; have n1_ : Aside0 (Below w.heap.size w w6) := ⟨below_step (by repeat (first | (with_reducible first | exact HB.out | apply below_alloc | apply pw_below_drewN | apply below_drew1) | exact HB.out)) hb⟩; clear HB; have HB := n1_; clear n1_; clear hb) | (go_at_call 59; (with_reducible refine (WR.out _).mono ?_); rintro e w7 ⟨rfl, hb⟩; have BK7 : Aside0 (w7.heap[w.heap.size]? = some (.cells #[.int .i64 0, .int .i64 0, .string ⟨#[]⟩] 62 (0, 0))) := ⟨blk_below (blk_alloc BK6.out _) hb⟩; have C7 : Aside0 (w7.heap[w6.heap.size]? = some (.cells #[.int .i64 slot, .int .i64 ino, .string nm] 62 (0, 0))) := ⟨blk_below (heap_alloc_new _ _) hb⟩; have y0_ := (blk_cell C7.out 0).trans rfl; have y1_ := (blk_cell C7.out 1).trans rfl; have y2_ := (blk_cell C7.out 2).trans rfl; have n1_ : Aside0 (Below w.heap.size w w7) := ⟨below_step (by repeat (first | (with_reducible first | exact HB.out | apply below_alloc | apply pw_below_drewN | apply below_drew1) | exact HB.out)) hb⟩; clear HB; have HB := n1_; clear n1_; clear hb) | ((with_reducible refine gate_store (p := 4) rfl ?_); go_loud (refine wpList_store_rowL rfl rfl 62 (.tmp 4) (.tmp 43) rfl (w.heap.size) #[.int .i64 slot, .int .i64 ino, .string nm] rfl rfl 62 #[.int .i64 0, .int .i64 0, .string ⟨#[]⟩] (by first | exact BK7.out | exact blk_alloc BK6.out _) (by kernel_rfl) rfl (by simp [Value.oneCell']) ?_; intro w8 bk_ hg_)))
        rw [E0.out]
        refine bodyPost_ret (results_row3 rfl _ _ w.heap.size 62 #[.int .i64 slot, .int .i64 ino, .string nm] (0, 0) _ (.bool true) (.bool true) rfl rfl rfl bk_ Try.underlying62 rfl (by kernel_rfl)) rfl ?_
        exact ⟨by rfl, pw_below_grown HB.out (some w.heap.size) (HB.out).size hg_ (fun k e => by cases e; exact Nat.le_refl _)⟩
end Go.Proofs.Ytdknolnoimpgeaa.K
namespace Go.Proofs.Ytdknolnoimpgeaa.K
open Go.RowKit Go.Shelf Go.Lib Go.Proofs.YtdknolnoimpgeaaW.PrintWords Go.Proofs.YtdknolnoimpgeaaW.PrintLast Go.Proofs.YtdknolnoimpgeaaW.PrintMore
set_option linter.unusedVariables false
set_option linter.unusedSimpArgs false
theorem make_u8 (n : Nat) (hn : n ≤ 100000) : ∃ Zc : Array Value, (∀ W : World, (Instr.makeSlice 24 (.int .i64 (n : Int)) (.int .i64 (n : Int))).run Try.prog W = .ok (.slice (some ⟨W.heap.size, 0, none⟩) n n) (W.alloc (.cells Zc 5))) ∧ ∀ W : World, Kd.C (Kd.int .u8) (W.alloc (.cells Zc 5)) (some ⟨W.heap.size, 0, none⟩) n (List.replicate n 0) := by
  obtain ⟨i0, hi, hzz⟩ := Option.map_eq_some_iff.1 u8info
  simp only [Prod.mk.injEq] at hzz
  obtain ⟨hz0, hz1, hz2⟩ := hzz
  refine ⟨madeCells (Value.int .u8 0).cells n, fun W => ?_, fun W => ?_⟩
  · have hr := run_make (P := Try.prog) W 24 5 i0 (.int .u8 0) Try.underlying24 hi hz0 .i64 .i64 (n : Int) (n : Int) (by omega) (by omega) (by rw [hz2]; omega) (by omega)
    simpa [hz1] using hr
  · have := Kd.C_blkInt (k := .u8) (xs := List.replicate n 0) (heap_alloc_new W (.cells (madeCells (Value.int .u8 0).cells n) 5)) (by
      apply List.ext_getElem
      · simp [size_madeCells]
      · intro i h1 h2
        simp [madeCells, Value.cells, Nat.mod_one]) (by simp; omega)
    rw [List.length_replicate] at this
    exact this
def eA : Ent := ⟨5, 3, ⟨#[97, 98]⟩⟩
def fA (j : Nat) : Option Ent := [eA].find? (slotP (4 * 1 + (j : Int)))
theorem fA_ok (j : Nat) : okO (4 * 1 + (j : Int)) (fA j) := find_ok _ _
theorem blockA : blockE [eA] 1 = cat4 fA := blockE_cat [eA] (by decide) (by decide)
theorem parseA : parseE (cat4 fA) 1 = [eA] := by
  rw [parse_cat (by decide) (by decide) fA_ok]
  decide +kernel
theorem clearA : clearE (cat4 fA) 5 = List.replicate 64 0 := by
  rw [clear_cat fA_ok (q := 1) (by decide) (by decide)]
  decide +kernel
set_option maxHeartbeats 4000000 in
set_option maxRecDepth 100000 in
theorem l08_awake (w : World) : Calls Try.prog 53 #[] w fun e w' => e = .returned (.bool true) ∧ Below w.heap.size w w' := by
  have HB := Aside0.mk (Below.refl w.heap.size w)
  have hl64 := cat4_length fA_ok
  have hby := cat4_byts fA_ok
  obtain ⟨B8, hB8⟩ : ∃ B8, B8 = cat4 fA := ⟨_, rfl⟩
  obtain ⟨Z6, hZ6⟩ : ∃ Z6, Z6 = List.replicate 64 (0 : Int) := ⟨_, rfl⟩
  have WB : Aside0 (∀ g0 W, Kd.C kEnt W (some ⟨g0, 0, none⟩) 1 [eA] → Calls Try.prog 60 #[.slice (some ⟨g0, 0, none⟩) 1 1, .int .i64 1] W fun e w' => ∃ g c', e = .returned (.slice (some ⟨g, 0, none⟩) 64 c') ∧ W.heap.size ≤ g ∧ 64 ≤ c' ∧ Kd.C (Kd.int .u8) w' (some ⟨g, 0, none⟩) 64 B8 ∧ Below W.heap.size W w') := ⟨fun g0 W h => by
    have := block_walk (some ⟨g0, 0, none⟩) 1 [eA] 1 W h (by simp) (by decide) (by decide)
    rw [blockA, ← hB8] at this
    exact this⟩
  have WP : Aside0 (∀ g c W, Kd.C (Kd.int .u8) W (some ⟨g, 0, none⟩) 64 B8 → 64 ≤ c → Calls Try.prog 61 #[.slice (some ⟨g, 0, none⟩) 64 c, .int .i64 1] W fun e w' => ∃ Al cl, e = .returned (.tuple #[.slice Al 1 cl, .slice none 0 0]) ∧ Kd.C kEnt w' Al 1 [eA] ∧ Below W.heap.size W w') := ⟨fun g c W h hc => by
    have := parse_walk g c B8 1 W h (by rw [hB8]; exact hl64) hc (by rw [hB8]; exact hby) (by decide) (by decide) (by rw [hB8]; exact cat4_ok fA_ok)
    refine this.mono ?_
    rintro e w' ⟨vl, rfl, ho, hb⟩
    rw [hB8, parseA] at ho
    obtain ⟨Al, cl, rfl⟩ := Kd.R_slice ho
    exact ⟨Al, cl, rfl, (Kd.R_reads' ho).2.2, hb⟩⟩
  have WG : Aside0 (∀ A c W, Kd.C (Kd.int .u8) W A 16 (List.replicate (16 : Int).toNat (0 : Int)) → 16 ≤ c → Calls Try.prog 56 #[.slice A 16 c, .int .i64 2] W fun e w' => e = .returned (.tuple #[.agg #[.int .i64 0, .int .i64 0, .string ⟨#[]⟩], .bool false, .bool true]) ∧ Below W.heap.size W w') := ⟨fun A c W h hc => by
    have := eGet_walk A c (List.replicate 16 0) 2 W h (Byts.zeros 16) (by simpa using hc)
    rw [getE_zeros] at this
    exact this⟩
  have WC : Aside0 (∀ g c W, Kd.C (Kd.int .u8) W (some ⟨g, 0, none⟩) 64 B8 → 64 ≤ c → Calls Try.prog 63 #[.slice (some ⟨g, 0, none⟩) 64 c, .int .i64 5] W fun e w' => ∃ g c', e = .returned (.slice (some ⟨g, 0, none⟩) 64 c') ∧ W.heap.size ≤ g ∧ 64 ≤ c' ∧ Kd.C (Kd.int .u8) w' (some ⟨g, 0, none⟩) 64 Z6 ∧ Below W.heap.size W w') := ⟨fun g c W h hc => by
    have e64 : B8.length = 64 := by rw [hB8]; exact hl64
    have h' : Kd.C (Kd.int .u8) W (some ⟨g, 0, none⟩) B8.length B8 := by rw [e64]; exact h
    have := clear_walk (some ⟨g, 0, none⟩) c B8 5 W h' (by omega) e64 (by decide) (by decide)
    rw [hB8, clearA, ← hZ6] at this
    exact this⟩
  have WE : Aside0 (∀ A1 c1 A2 c2 W, Kd.C kEnt W A1 1 [eA] → Kd.C kEnt W A2 1 [eA] → Calls Try.prog 67 #[.slice A1 1 c1, .slice A2 1 c2] W fun e w' => e = .returned (.bool true) ∧ Drawn0 W w') := ⟨fun A1 c1 A2 c2 W h1 h2 => by have := eqEn_walk A1 c1 [eA] A2 c2 [eA] W h1 h2 (by simp); simpa using this⟩
  have WQ : Aside0 (∀ A1 c1 A2 c2 W, Kd.C (Kd.int .u8) W A1 64 Z6 → Kd.C (Kd.int .u8) W A2 64 Z6 → Calls Try.prog 24 #[.slice A1 64 c1, .slice A2 64 c2] W fun e w' => e = .returned (.bool true) ∧ w' = W) := ⟨fun A1 c1 A2 c2 W h1 h2 => by
    have z64 : Z6.length = 64 := by rw [hZ6]; rfl
    have := bEq_same A1 c1 Z6 A2 c2 Z6 W (by rw [z64]; exact h1) (by rw [z64]; exact h2) (by rw [hZ6]; exact Byts.zeros 64) (by rw [hZ6]; exact Byts.zeros 64)
    rw [z64] at this
    simpa using this⟩
  obtain ⟨Zc, hmk0, hz8⟩ := make_u8 64 (by decide)
  have hmk : ∀ W : World, (Instr.makeSlice 24 (.int .i64 64) (.int .i64 64)).run Try.prog W = .ok (.slice (some ⟨W.heap.size, 0, none⟩) 64 64) (W.alloc (.cells Zc 5)) := fun W => hmk0 W
  clear hmk0
  have Z8 : ∀ (W : World) (g : Nat), W.heap.size = g → Kd.C (Kd.int .u8) (W.alloc (.cells Zc 5)) (some ⟨g, 0, none⟩) 64 Z6 := fun W g hg => by subst hg; rw [hZ6]; exact hz8 W
  clear hz8
  clear hB8 hZ6 hl64 hby
  go_enter Try.func53, Try.ntmps53
  have HE0 : Aside0 (Kd.C kEnt ((w.alloc (.cells #[.int .i64 5, .int .i64 3, .string ⟨#[97, 98]⟩] 62)).alloc (.cells #[.int .i64 5, .int .i64 3, .string ⟨#[97, 98]⟩] 62)) (some ⟨w.heap.size + 1, 0, none⟩) 1 [eA]) := ⟨Kd.C_blk (heap_at2 (by simp)) rfl (by simp)⟩
  go_wp2_with (first | (go_at_call 60; (with_reducible refine (WB.out _ _ HE0.out).mono ?_); rintro e w1 ⟨g1, c1, rfl, hg1, hc1, hC1, hb⟩; have HC1 := Aside0.mk hC1; have HK1 := Aside0.mk hc1; have EB := Aside0.mk (blk_below (blk_alloc (heap_alloc_new w (.cells #[.int .i64 5, .int .i64 3, .string ⟨#[97, 98]⟩] 62)) (.cells #[.int .i64 5, .int .i64 3, .string ⟨#[97, 98]⟩] 62)) hb); have n1_ : Aside0 (Below w.heap.size w w1) := ⟨below_step (by repeat (first | (with_reducible first | exact HB.out | apply below_alloc | apply pw_below_drewN | apply below_drew1) | exact HB.out)) hb⟩; clear HB; have HB := n1_; clear n1_; clear hg1 hc1 hC1 hb) | (go_at_call 61; (with_reducible refine (WP.out _ _ _ HC1.out HK1.out).mono ?_); rintro e w2 ⟨Al, cl, rfl, hC2, hb⟩; have HC2 := Aside0.mk hC2; have n_ := Aside0.mk (blk_below (by first | exact EB.out | exact blk_drewN EB.out _ | exact blk_alloc EB.out _) hb); clear EB; have EB := n_; clear n_; have n_ := Aside0.mk (Kd.C_below HC1.out (by first | exact hb | exact below_undrew hb)); clear HC1; have HC1 := n_; clear n_; have n1_ : Aside0 (Below w.heap.size w w2) := ⟨below_step (by repeat (first | (with_reducible first | exact HB.out | apply below_alloc | apply pw_below_drewN | apply below_drew1) | exact HB.out)) hb⟩; clear HB; have HB := n1_; clear n1_; clear hC2 hb) | ((with_reducible refine gate_dst (N := 18) rfl ?_); refine Kd.R_make (Kd.int .u8) _ 5 rfl (N := 18) rfl 24 _ _ rfl (16) rfl rfl Try.underlying24 (.int .u8 0) 1 u8info rfl (by decide) (by omega) 0 (ok := fun _ => True) (okp := fun _ => True) rfl (fun _ hk => hk) trivial (by omega) (by omega) (Below.refl _ _) (Nat.le_refl _) ?_; intro v3 w3 ho hb hg_ hnew_; clear hg_ hnew_; obtain ⟨g3, c3, rfl, hg3, hl3, _, _⟩ := Kd.R_form ho (by simp); have HG3 := Aside0.mk (Nat.le_trans (below_size (by repeat (first | (with_reducible first | exact HB.out | apply below_alloc | apply pw_below_drewN | apply below_drew1) | exact HB.out))) hg3); clear hg3 hl3; have HO3 := Aside0.mk (Kd.R_lower ho (below_size (by repeat (first | (with_reducible first | exact HB.out | apply below_alloc | apply pw_below_drewN | apply below_drew1) | exact HB.out)))); have n1_ : Aside0 (Below w.heap.size w w3) := ⟨below_step (by repeat (first | (with_reducible first | exact HB.out | apply below_alloc | apply pw_below_drewN | apply below_drew1) | exact HB.out)) hb⟩; clear HB; have HB := n1_; clear n1_; have n_ := Aside0.mk (blk_below (by first | exact EB.out | exact blk_drewN EB.out _ | exact blk_alloc EB.out _) hb); clear EB; have EB := n_; clear n_; have n_ := Aside0.mk (Kd.C_below HC1.out (by first | exact hb | exact below_undrew hb)); clear HC1; have HC1 := n_; clear n_; have n_ := Aside0.mk (Kd.C_below HC2.out (by first | exact hb | exact below_undrew hb)); clear HC2; have HC2 := n_; clear n_; clear ho hb) | (go_at_call 56; (with_reducible refine (WG.out _ _ _ (Kd.R_reads' HO3.out).2.2 (by have h_ := (Kd.R_reads' HO3.out).2.1; simpa using h_)).mono ?_); rintro e w4 ⟨rfl, hb⟩; have n_ := Aside0.mk (blk_below (by first | exact EB.out | exact blk_drewN EB.out _ | exact blk_alloc EB.out _) hb); clear EB; have EB := n_; clear n_; have n_ := Aside0.mk (Kd.C_below HC1.out (by first | exact hb | exact below_undrew hb)); clear HC1; have HC1 := n_; clear n_; have n_ := Aside0.mk (Kd.C_below HC2.out (by first | exact hb | exact below_undrew hb)); clear HC2; have HC2 := n_; clear n_; have n1_ : Aside0 (Below w.heap.size w w4) := ⟨below_step (by repeat (first | (with_reducible first | exact HB.out | apply below_alloc | apply pw_below_drewN | apply below_drew1) | exact HB.out)) hb⟩; clear HB; have HB := n1_; clear n1_; clear hb))
  have z1 := Kd.C_alloc HC1.out (.cells #[.int .i64 0, .int .i64 0, .string ⟨#[]⟩] 62)
  have z2 := Kd.C_alloc HC2.out (.cells #[.int .i64 0, .int .i64 0, .string ⟨#[]⟩] 62)
  have z3 := below_alloc HB.out (.cells #[.int .i64 0, .int .i64 0, .string ⟨#[]⟩] 62)
  have EB5 := blk_alloc EB.out (.cells #[.int .i64 0, .int .i64 0, .string ⟨#[]⟩] 62)
  obtain ⟨w5, hw5⟩ : ∃ w5, w5 = w4.alloc (.cells #[.int .i64 0, .int .i64 0, .string ⟨#[]⟩] 62) := ⟨_, rfl⟩
  rw [← hw5] at z1 z2 z3 EB5
  refine go_on8 ?_
  rw [← hw5]
  have e0 : w5.cell? ⟨w.heap.size, 0, none⟩ = some (.int .i64 5) := (blk_cell EB5 0).trans rfl
  have e1 : w5.cell? ⟨w.heap.size, 1, none⟩ = some (.int .i64 3) := (blk_cell EB5 1).trans rfl
  have e2 : w5.cell? ⟨w.heap.size, 2, none⟩ = some (.string ⟨#[97, 98]⟩) := (blk_cell EB5 2).trans rfl
  have hlt0 := World.block_lt_of_cell? _ _ e0
  clear hw5 EB EB5 HC1 HC2 HB HO3 HE0
  have HLIT : Aside0 (∀ (W : World) (g : Nat), W.heap.size = g → Kd.C kEnt (W.alloc (.cells #[.int .i64 5, .int .i64 3, .string ⟨#[97, 98]⟩] 62)) (some ⟨g, 0, none⟩) 1 [eA]) := ⟨fun W g hg => by subst hg; exact Kd.C_blk (heap_alloc_new _ _) rfl (by simp)⟩
  go_region_held3 (fun W => W.cell? ⟨w.heap.size, 0, none⟩ = some (.int .i64 5) ∧ W.cell? ⟨w.heap.size, 1, none⟩ = some (.int .i64 3) ∧ W.cell? ⟨w.heap.size, 2, none⟩ = some (.string ⟨#[97, 98]⟩) ∧ Kd.C kEnt W Al 1 [eA] ∧ Kd.C (Kd.int .u8) W (some ⟨g1, 0, none⟩) 64 B8 ∧ Below w.heap.size w W) (first | (go_split_ands; refine ⟨(by (first | (with_reducible assumption) | exact pw_cell_below hb5 (by assumption) | exact pw_cell_below (below_alloc (Below.refl _ _) _) (by assumption) | exact pw_cell_below (pw_below_drewN (Below.refl _ _) _) (by assumption) | exact pw_cell_below (pw_below_drewN (below_alloc (Below.refl _ _) _) _) (by assumption) | exact pw_cell_below (below_drew1 (Below.refl _ _)) (by assumption))), (by (first | (with_reducible assumption) | exact pw_cell_below hb5 (by assumption) | exact pw_cell_below (below_alloc (Below.refl _ _) _) (by assumption) | exact pw_cell_below (pw_below_drewN (Below.refl _ _) _) (by assumption) | exact pw_cell_below (pw_below_drewN (below_alloc (Below.refl _ _) _) _) (by assumption) | exact pw_cell_below (below_drew1 (Below.refl _ _)) (by assumption))), (by (first | (with_reducible assumption) | exact pw_cell_below hb5 (by assumption) | exact pw_cell_below (below_alloc (Below.refl _ _) _) (by assumption) | exact pw_cell_below (pw_below_drewN (Below.refl _ _) _) (by assumption) | exact pw_cell_below (pw_below_drewN (below_alloc (Below.refl _ _) _) _) (by assumption) | exact pw_cell_below (below_drew1 (Below.refl _ _)) (by assumption))), (by (repeat (first | (with_reducible assumption) | (with_reducible refine Kd.C_below ?_ hb5) | (with_reducible refine Kd.C_alloc ?_ _) | (with_reducible refine Kd.C_drewN ?_ _) | (with_reducible refine Kd.C_drew ?_)))), (by (repeat (first | (with_reducible assumption) | (with_reducible refine Kd.C_below ?_ hb5) | (with_reducible refine Kd.C_alloc ?_ _) | (with_reducible refine Kd.C_drewN ?_ _) | (with_reducible refine Kd.C_drew ?_)))), (by (repeat (first | (with_reducible assumption) | (with_reducible refine below_step ?_ hb5) | (with_reducible refine below_alloc ?_ _) | (with_reducible refine pw_below_drewN ?_ _) | (with_reducible refine below_drew1 ?_))))⟩) | (go_split_ands; refine ⟨(by (first | (with_reducible assumption) | exact pw_cell_below (Below.refl _ _) (by assumption) | exact pw_cell_below (below_alloc (Below.refl _ _) _) (by assumption) | exact pw_cell_below (pw_below_drewN (Below.refl _ _) _) (by assumption) | exact pw_cell_below (pw_below_drewN (below_alloc (Below.refl _ _) _) _) (by assumption) | exact pw_cell_below (below_drew1 (Below.refl _ _)) (by assumption))), (by (first | (with_reducible assumption) | exact pw_cell_below (Below.refl _ _) (by assumption) | exact pw_cell_below (below_alloc (Below.refl _ _) _) (by assumption) | exact pw_cell_below (pw_below_drewN (Below.refl _ _) _) (by assumption) | exact pw_cell_below (pw_below_drewN (below_alloc (Below.refl _ _) _) _) (by assumption) | exact pw_cell_below (below_drew1 (Below.refl _ _)) (by assumption))), (by (first | (with_reducible assumption) | exact pw_cell_below (Below.refl _ _) (by assumption) | exact pw_cell_below (below_alloc (Below.refl _ _) _) (by assumption) | exact pw_cell_below (pw_below_drewN (Below.refl _ _) _) (by assumption) | exact pw_cell_below (pw_below_drewN (below_alloc (Below.refl _ _) _) _) (by assumption) | exact pw_cell_below (below_drew1 (Below.refl _ _)) (by assumption))), (by (repeat (first | (with_reducible assumption) | (with_reducible refine Kd.C_below ?_ (Below.refl _ _)) | (with_reducible refine Kd.C_alloc ?_ _) | (with_reducible refine Kd.C_drewN ?_ _) | (with_reducible refine Kd.C_drew ?_)))), (by (repeat (first | (with_reducible assumption) | (with_reducible refine Kd.C_below ?_ (Below.refl _ _)) | (with_reducible refine Kd.C_alloc ?_ _) | (with_reducible refine Kd.C_drewN ?_ _) | (with_reducible refine Kd.C_drew ?_)))), (by (repeat (first | (with_reducible assumption) | (with_reducible refine below_step ?_ (Below.refl _ _)) | (with_reducible refine below_alloc ?_ _) | (with_reducible refine pw_below_drewN ?_ _) | (with_reducible refine below_drew1 ?_))))⟩)) (first | (go_at_call 67; go_split_ands; (with_reducible refine (WE.out _ _ _ _ _ ?hA ?hB).mono ?_); (case hA => repeat (first | (with_reducible assumption) | ((with_reducible refine HLIT.out _ _ ?_); first | rfl | (simp; done)) | (with_reducible refine Kd.C_below ?_ hb5) | (with_reducible refine Kd.C_alloc ?_ _) | (with_reducible refine Kd.C_drewN ?_ _) | (with_reducible refine Kd.C_drew ?_))); (case hB => repeat (first | (with_reducible assumption) | ((with_reducible refine HLIT.out _ _ ?_); first | rfl | (simp; done)) | (with_reducible refine Kd.C_below ?_ hb5) | (with_reducible refine Kd.C_alloc ?_ _) | (with_reducible refine Kd.C_drewN ?_ _) | (with_reducible refine Kd.C_drew ?_))); rintro e w' ⟨rfl, ⟨nd, rfl⟩⟩) | (go_at_call 63; go_split_ands; (with_reducible refine (WC.out _ _ _ (by assumption) HK1.out).mono ?_); rintro e w6 ⟨g6, c6, rfl, hg6, hc6, hC6, hb5⟩) | (go_at_call 24; go_split_ands; (with_reducible refine (WQ.out _ _ _ _ _ ?hA ?hB).mono ?_); (case hA => repeat (first | (with_reducible assumption) | ((with_reducible refine Z8 _ _ ?_); first | rfl | (simp; done)) | (with_reducible refine Kd.C_below ?_ hb5) | (with_reducible refine Kd.C_alloc ?_ _) | (with_reducible refine Kd.C_drewN ?_ _) | (with_reducible refine Kd.C_drew ?_))); (case hB => repeat (first | (with_reducible assumption) | ((with_reducible refine Z8 _ _ ?_); first | rfl | (simp; done)) | (with_reducible refine Kd.C_below ?_ hb5) | (with_reducible refine Kd.C_alloc ?_ _) | (with_reducible refine Kd.C_drewN ?_ _) | (with_reducible refine Kd.C_drew ?_))); rintro e w' ⟨rfl, h_⟩; have h_ := h_.symm; subst h_) | fail)
  all_goals go_split_ands
  all_goals refine go_on8 ?_
  all_goals go_wp2
  all_goals go_ret
  all_goals exact ⟨by first | rfl | simp, by assumption⟩
end Go.Proofs.Ytdknolnoimpgeaa.K
namespace Go.Proofs.Ytdknolnoimpgeaa.K
open Go.RowKit Go.Shelf Go.Lib Go.Proofs.YtdknolnoimpgeaaW.PrintWords Go.Proofs.YtdknolnoimpgeaaW.PrintLast Go.Proofs.YtdknolnoimpgeaaW.PrintMore
set_option linter.unusedVariables false
set_option linter.unusedSimpArgs false
set_option maxHeartbeats 8000000 in
set_option maxRecDepth 100000 in
theorem l08_Puts (sl ino : Int) (nm : ByteArray) (A : Option Addr) (c : Nat) (l : List Int) (slot : Int) (w : World) (hr : Kd.C (Kd.int .u8) w A l.length l) (hc : l.length ≤ c) (hb : Byts l) :
    Calls Try.prog 10 #[.agg #[.int .i64 sl, .int .i64 ino, .string nm], .slice A l.length c, .int .i64 slot] w fun e w' => e = .returned (.bool true) ∧ Below w.heap.size w w' := by
  have HR := Aside0.mk hr
  have HB := Aside0.mk (Below.refl w.heap.size w)
  by_cases h0 : l.length ≤ 2000
  case neg =>
    clear hr hc hb
    go_enter Try.func10, Try.ntmps10
    go_wp2_with (go_at_call 53; (with_reducible refine (l08_awake _).mono ?_); rintro e w9 ⟨rfl, hb⟩; have n1_ : Aside0 (Below w.heap.size w w9) := ⟨below_step (by repeat (first | (with_reducible first | exact HB.out | apply below_alloc | apply pw_below_drewN | apply below_drew1) | exact HB.out)) hb⟩; clear HB; have HB := n1_; clear n1_; clear hb)
    go_ret
    exact ⟨rfl, HB.out⟩
  obtain ⟨rt, hrt⟩ : ∃ rt, rt = rightE sl ino nm := ⟨_, rfl⟩
  have WR := Aside0.mk (fun W => eRight_walk sl ino nm W)
  have WS := Aside0.mk (fun W => rERight_walk sl ino nm W)
  rw [← hrt] at WR WS
  obtain ⟨p, er, hp1, hp2, hpb⟩ : ∃ (p : List Int) (er : Int), (∀ W, Calls Try.prog 54 #[.agg #[.int .i64 sl, .int .i64 ino, .string nm]] W fun e w' => ∃ A c, e = .returned (.tuple #[.slice A p.length c, .int .i64 er]) ∧ Kd.C (Kd.int .u8) w' A p.length p ∧ Below W.heap.size W w') ∧
      (∀ W, Calls Try.prog 55 #[.agg #[.int .i64 sl, .int .i64 ino, .string nm]] W fun e w' => ∃ A c, e = .returned (.tuple #[.slice A p.length c, .int .i64 er]) ∧ Kd.C (Kd.int .u8) w' A p.length p ∧ Below W.heap.size W w') ∧ Byts p := by
    cases rt with
    | true =>
      have h16 := bytesE_length (ino := ino) (rightE_parts hrt.symm).2.2.2.2
      refine ⟨bytesE ino nm, 0, fun W => ?_, fun W => ?_, bytesE_byts (rightE_parts hrt.symm).2.2.2.2⟩
      · rw [h16]; exact ePut_walk sl ino nm W hrt.symm
      · rw [h16]; exact rEPut_walk sl ino nm W hrt.symm
    | false =>
      refine ⟨[], 1, fun W => ?_, fun W => ?_, Byts.nil⟩
      · refine (ePut_no sl ino nm W hrt.symm).mono ?_
        rintro e w' ⟨rfl, hb⟩
        exact ⟨none, 0, rfl, Kd.C_nil _ _, hb⟩
      · refine (rEPut_no sl ino nm W hrt.symm).mono ?_
        rintro e w' ⟨rfl, hb⟩
        exact ⟨none, 0, rfl, Kd.C_nil _ _, hb⟩
  obtain ⟨n, hn⟩ : ∃ n, n = p.length := ⟨_, rfl⟩
  have WE : Aside0 (∀ A1 c1 A2 c2 W, Kd.C (Kd.int .u8) W A1 n p → Kd.C (Kd.int .u8) W A2 n p → Calls Try.prog 24 #[.slice A1 n c1, .slice A2 n c2] W fun e w' => e = .returned (.bool true) ∧ w' = W) := ⟨fun A1 c1 A2 c2 W h1 h2 => by
    have := bEq_same A1 c1 p A2 c2 p W (by rw [← hn]; exact h1) (by rw [← hn]; exact h2) hpb hpb
    rw [← hn] at this
    simpa using this⟩
  have WP := Aside0.mk hp1
  have WQ := Aside0.mk hp2
  rw [← hn] at WP WQ
  have WG := Aside0.mk (fun W (h : Kd.C (Kd.int .u8) W A l.length l) => eGet_walk A c l slot W h hb hc)
  have WH := Aside0.mk (fun W (h : Kd.C (Kd.int .u8) W A l.length l) => rEGet_walk A c l slot W h hb hc (by omega))
  obtain ⟨E, hE⟩ : ∃ E, E = getE l slot := ⟨_, rfl⟩
  rw [← hE] at WG WH
  obtain ⟨⟨gsl, gino, gnm⟩, is, ok⟩ := E
  simp only at WG WH
  have q1 := fun w => eqEnt_t w ⟨gsl, gino, gnm⟩
  simp only at q1
  clear hr hc hb hrt hp1 hp2 hpb hn hE
  go_enter Try.func10, Try.ntmps10
  go_wp2_with (first | (go_at_call 54; (with_reducible refine (WP.out _).mono ?_); rintro e w1 ⟨A1, c1, rfl, hC, hb⟩; have BX := Aside0.mk (blk_below (heap_alloc_new w (.cells #[.int .i64 sl, .int .i64 ino, .string nm] 62)) hb); have m0 := (blk_cell BX.out 0).trans rfl; have m1 := (blk_cell BX.out 1).trans rfl; have m2 := (blk_cell BX.out 2).trans rfl; have HC1 := Aside0.mk hC; have n1_ : Aside0 (Below w.heap.size w w1) := ⟨below_step (by repeat (first | (with_reducible first | exact HB.out | apply below_alloc | apply pw_below_drewN | apply below_drew1) | exact HB.out)) hb⟩; clear HB; have HB := n1_; clear n1_; clear hC hb) | (go_at_call 55; (with_reducible refine (WQ.out _).mono ?_); rintro e w2 ⟨A2, c2, rfl, hC, hb⟩; have n_ := Aside0.mk (blk_below (by first | exact BX.out | exact blk_drewN BX.out _ | exact blk_alloc BX.out _) hb); clear BX; have BX := n_; clear n_; have n_ := Aside0.mk (Kd.C_below HC1.out (by first | exact hb | exact below_undrew hb)); clear HC1; have HC1 := n_; clear n_; have HC2 := Aside0.mk hC; have n1_ : Aside0 (Below w.heap.size w w2) := ⟨below_step (by repeat (first | (with_reducible first | exact HB.out | apply below_alloc | apply pw_below_drewN | apply below_drew1) | exact HB.out)) hb⟩; clear HB; have HB := n1_; clear n1_; clear hC hb m0 m1 m2) | (go_at_call 56; (with_reducible refine (WG.out _ (Kd.C_below HR.out (by repeat (first | (with_reducible first | exact HB.out | apply below_alloc | apply pw_below_drewN | apply below_drew1) | exact HB.out)))).mono ?_); rintro e w3 ⟨rfl, hb⟩; have n_ := Aside0.mk (blk_below (by first | exact BX.out | exact blk_drewN BX.out _ | exact blk_alloc BX.out _) hb); clear BX; have BX := n_; clear n_; have n_ := Aside0.mk (Kd.C_below HC1.out (by first | exact hb | exact below_undrew hb)); clear HC1; have HC1 := n_; clear n_; have n_ := Aside0.mk (Kd.C_below HC2.out (by first | exact hb | exact below_undrew hb)); clear HC2; have HC2 := n_; clear n_; have n1_ : Aside0 (Below w.heap.size w w3) := ⟨below_step (by repeat (first | (with_reducible first | exact HB.out | apply below_alloc | apply pw_below_drewN | apply below_drew1) | exact HB.out)) hb⟩; clear HB; have HB := n1_; clear n1_; clear hb) | (go_at_call 57; (with_reducible refine (WH.out _ (Kd.C_below HR.out (by repeat (first | (with_reducible first | exact HB.out | apply below_alloc | apply pw_below_drewN | apply below_drew1) | exact HB.out)))).mono ?_); rintro e w4 ⟨rfl, hb⟩; have BG := Aside0.mk (blk_below (heap_alloc_new w3 (.cells #[.int .i64 gsl, .int .i64 gino, .string gnm] 62)) hb); have n_ := Aside0.mk (blk_below (by first | exact BX.out | exact blk_drewN BX.out _ | exact blk_alloc BX.out _) hb); clear BX; have BX := n_; clear n_; have n_ := Aside0.mk (Kd.C_below (Kd.C_alloc HC1.out _) hb); clear HC1; have HC1 := n_; clear n_; have n_ := Aside0.mk (Kd.C_below (Kd.C_alloc HC2.out _) hb); clear HC2; have HC2 := n_; clear n_; have n1_ : Aside0 (Below w.heap.size w w4) := ⟨below_step (by repeat (first | (with_reducible first | exact HB.out | apply below_alloc | apply pw_below_drewN | apply below_drew1) | exact HB.out)) hb⟩; clear HB; have HB := n1_; clear n1_; clear hb))
  obtain ⟨w5, hw5⟩ : ∃ w5, w5 = w4.alloc (.cells #[.int .i64 gsl, .int .i64 gino, .string gnm] 62) := ⟨_, rfl⟩
  have z1 : Kd.C (Kd.int .u8) w5 A1 n p := by rw [hw5]; exact Kd.C_alloc HC1.out _
  have z2 : Kd.C (Kd.int .u8) w5 A2 n p := by rw [hw5]; exact Kd.C_alloc HC2.out _
  have z3 : Below w.heap.size w w5 := by rw [hw5]; exact below_alloc HB.out _
  have X5 : w5.heap[w.heap.size]? = some (.cells #[.int .i64 sl, .int .i64 ino, .string nm] 62 (0, 0)) := by rw [hw5]; exact blk_alloc BX.out _
  have G5 : w5.heap[w3.heap.size]? = some (.cells #[.int .i64 gsl, .int .i64 gino, .string gnm] 62 (0, 0)) := by rw [hw5]; exact blk_alloc BG.out _
  have H5 : w5.heap[w4.heap.size]? = some (.cells #[.int .i64 gsl, .int .i64 gino, .string gnm] 62 (0, 0)) := by rw [hw5]; exact heap_alloc_new _ _
  refine go_on8 ?_
  rw [← hw5]
  have e0 : w5.cell? ⟨w.heap.size, 0, none⟩ = some (.int .i64 sl) := (blk_cell X5 0).trans rfl
  have e1 : w5.cell? ⟨w.heap.size, 1, none⟩ = some (.int .i64 ino) := (blk_cell X5 1).trans rfl
  have e2 : w5.cell? ⟨w.heap.size, 2, none⟩ = some (.string nm) := (blk_cell X5 2).trans rfl
  have f0 : w5.cell? ⟨w3.heap.size, 0, none⟩ = some (.int .i64 gsl) := (blk_cell G5 0).trans rfl
  have f1 : w5.cell? ⟨w3.heap.size, 1, none⟩ = some (.int .i64 gino) := (blk_cell G5 1).trans rfl
  have f2 : w5.cell? ⟨w3.heap.size, 2, none⟩ = some (.string gnm) := (blk_cell G5 2).trans rfl
  have g0 : w5.cell? ⟨w4.heap.size, 0, none⟩ = some (.int .i64 gsl) := (blk_cell H5 0).trans rfl
  have g1 : w5.cell? ⟨w4.heap.size, 1, none⟩ = some (.int .i64 gino) := (blk_cell H5 1).trans rfl
  have g2 : w5.cell? ⟨w4.heap.size, 2, none⟩ = some (.string gnm) := (blk_cell H5 2).trans rfl
  clear hw5 X5 G5 H5 BX BG HC1 HC2 HB HR WP WQ WG WH
  go_region_held3 (fun W => W.cell? ⟨w.heap.size, 0, none⟩ = some (.int .i64 sl) ∧ W.cell? ⟨w.heap.size, 1, none⟩ = some (.int .i64 ino) ∧ W.cell? ⟨w.heap.size, 2, none⟩ = some (.string nm) ∧ W.cell? ⟨w3.heap.size, 0, none⟩ = some (.int .i64 gsl) ∧ W.cell? ⟨w3.heap.size, 1, none⟩ = some (.int .i64 gino) ∧ W.cell? ⟨w3.heap.size, 2, none⟩ = some (.string gnm) ∧ W.cell? ⟨w4.heap.size, 0, none⟩ = some (.int .i64 gsl) ∧ W.cell? ⟨w4.heap.size, 1, none⟩ = some (.int .i64 gino) ∧ W.cell? ⟨w4.heap.size, 2, none⟩ = some (.string gnm) ∧ Kd.C (Kd.int .u8) W A1 n p ∧ Kd.C (Kd.int .u8) W A2 n p ∧ Below w.heap.size w W) (first | (go_split_ands; refine ⟨(by (first | (with_reducible assumption) | exact pw_cell_below hb5 (by assumption) | exact pw_cell_below (below_alloc (Below.refl _ _) _) (by assumption) | exact pw_cell_below (pw_below_drewN (Below.refl _ _) _) (by assumption) | exact pw_cell_below (pw_below_drewN (below_alloc (Below.refl _ _) _) _) (by assumption) | exact pw_cell_below (below_drew1 (Below.refl _ _)) (by assumption))), (by (first | (with_reducible assumption) | exact pw_cell_below hb5 (by assumption) | exact pw_cell_below (below_alloc (Below.refl _ _) _) (by assumption) | exact pw_cell_below (pw_below_drewN (Below.refl _ _) _) (by assumption) | exact pw_cell_below (pw_below_drewN (below_alloc (Below.refl _ _) _) _) (by assumption) | exact pw_cell_below (below_drew1 (Below.refl _ _)) (by assumption))), (by (first | (with_reducible assumption) | exact pw_cell_below hb5 (by assumption) | exact pw_cell_below (below_alloc (Below.refl _ _) _) (by assumption) | exact pw_cell_below (pw_below_drewN (Below.refl _ _) _) (by assumption) | exact pw_cell_below (pw_below_drewN (below_alloc (Below.refl _ _) _) _) (by assumption) | exact pw_cell_below (below_drew1 (Below.refl _ _)) (by assumption))), (by (first | (with_reducible assumption) | exact pw_cell_below hb5 (by assumption) | exact pw_cell_below (below_alloc (Below.refl _ _) _) (by assumption) | exact pw_cell_below (pw_below_drewN (Below.refl _ _) _) (by assumption) | exact pw_cell_below (pw_below_drewN (below_alloc (Below.refl _ _) _) _) (by assumption) | exact pw_cell_below (below_drew1 (Below.refl _ _)) (by assumption))), (by (first | (with_reducible assumption) | exact pw_cell_below hb5 (by assumption) | exact pw_cell_below (below_alloc (Below.refl _ _) _) (by assumption) | exact pw_cell_below (pw_below_drewN (Below.refl _ _) _) (by assumption) | exact pw_cell_below (pw_below_drewN (below_alloc (Below.refl _ _) _) _) (by assumption) | exact pw_cell_below (below_drew1 (Below.refl _ _)) (by assumption))), (by (first | (with_reducible assumption) | exact pw_cell_below hb5 (by assumption) | exact pw_cell_below (below_alloc (Below.refl _ _) _) (by assumption) | exact pw_cell_below (pw_below_drewN (Below.refl _ _) _) (by assumption) | exact pw_cell_below (pw_below_drewN (below_alloc (Below.refl _ _) _) _) (by assumption) | exact pw_cell_below (below_drew1 (Below.refl _ _)) (by assumption))), (by (first | (with_reducible assumption) | exact pw_cell_below hb5 (by assumption) | exact pw_cell_below (below_alloc (Below.refl _ _) _) (by assumption) | exact pw_cell_below (pw_below_drewN (Below.refl _ _) _) (by assumption) | exact pw_cell_below (pw_below_drewN (below_alloc (Below.refl _ _) _) _) (by assumption) | exact pw_cell_below (below_drew1 (Below.refl _ _)) (by assumption))), (by (first | (with_reducible assumption) | exact pw_cell_below hb5 (by assumption) | exact pw_cell_below (below_alloc (Below.refl _ _) _) (by assumption) | exact pw_cell_below (pw_below_drewN (Below.refl _ _) _) (by assumption) | exact pw_cell_below (pw_below_drewN (below_alloc (Below.refl _ _) _) _) (by assumption) | exact pw_cell_below (below_drew1 (Below.refl _ _)) (by assumption))), (by (first | (with_reducible assumption) | exact pw_cell_below hb5 (by assumption) | exact pw_cell_below (below_alloc (Below.refl _ _) _) (by assumption) | exact pw_cell_below (pw_below_drewN (Below.refl _ _) _) (by assumption) | exact pw_cell_below (pw_below_drewN (below_alloc (Below.refl _ _) _) _) (by assumption) | exact pw_cell_below (below_drew1 (Below.refl _ _)) (by assumption))), (by (repeat (first | (with_reducible assumption) | (with_reducible refine Kd.C_below ?_ hb5) | (with_reducible refine Kd.C_alloc ?_ _) | (with_reducible refine Kd.C_drewN ?_ _) | (with_reducible refine Kd.C_drew ?_)))), (by (repeat (first | (with_reducible assumption) | (with_reducible refine Kd.C_below ?_ hb5) | (with_reducible refine Kd.C_alloc ?_ _) | (with_reducible refine Kd.C_drewN ?_ _) | (with_reducible refine Kd.C_drew ?_)))), (by (repeat (first | (with_reducible assumption) | (with_reducible refine below_step ?_ hb5) | (with_reducible refine below_alloc ?_ _) | (with_reducible refine pw_below_drewN ?_ _) | (with_reducible refine below_drew1 ?_))))⟩) | (go_split_ands; refine ⟨(by (first | (with_reducible assumption) | exact pw_cell_below (Below.refl _ _) (by assumption) | exact pw_cell_below (below_alloc (Below.refl _ _) _) (by assumption) | exact pw_cell_below (pw_below_drewN (Below.refl _ _) _) (by assumption) | exact pw_cell_below (pw_below_drewN (below_alloc (Below.refl _ _) _) _) (by assumption) | exact pw_cell_below (below_drew1 (Below.refl _ _)) (by assumption))), (by (first | (with_reducible assumption) | exact pw_cell_below (Below.refl _ _) (by assumption) | exact pw_cell_below (below_alloc (Below.refl _ _) _) (by assumption) | exact pw_cell_below (pw_below_drewN (Below.refl _ _) _) (by assumption) | exact pw_cell_below (pw_below_drewN (below_alloc (Below.refl _ _) _) _) (by assumption) | exact pw_cell_below (below_drew1 (Below.refl _ _)) (by assumption))), (by (first | (with_reducible assumption) | exact pw_cell_below (Below.refl _ _) (by assumption) | exact pw_cell_below (below_alloc (Below.refl _ _) _) (by assumption) | exact pw_cell_below (pw_below_drewN (Below.refl _ _) _) (by assumption) | exact pw_cell_below (pw_below_drewN (below_alloc (Below.refl _ _) _) _) (by assumption) | exact pw_cell_below (below_drew1 (Below.refl _ _)) (by assumption))), (by (first | (with_reducible assumption) | exact pw_cell_below (Below.refl _ _) (by assumption) | exact pw_cell_below (below_alloc (Below.refl _ _) _) (by assumption) | exact pw_cell_below (pw_below_drewN (Below.refl _ _) _) (by assumption) | exact pw_cell_below (pw_below_drewN (below_alloc (Below.refl _ _) _) _) (by assumption) | exact pw_cell_below (below_drew1 (Below.refl _ _)) (by assumption))), (by (first | (with_reducible assumption) | exact pw_cell_below (Below.refl _ _) (by assumption) | exact pw_cell_below (below_alloc (Below.refl _ _) _) (by assumption) | exact pw_cell_below (pw_below_drewN (Below.refl _ _) _) (by assumption) | exact pw_cell_below (pw_below_drewN (below_alloc (Below.refl _ _) _) _) (by assumption) | exact pw_cell_below (below_drew1 (Below.refl _ _)) (by assumption))), (by (first | (with_reducible assumption) | exact pw_cell_below (Below.refl _ _) (by assumption) | exact pw_cell_below (below_alloc (Below.refl _ _) _) (by assumption) | exact pw_cell_below (pw_below_drewN (Below.refl _ _) _) (by assumption) | exact pw_cell_below (pw_below_drewN (below_alloc (Below.refl _ _) _) _) (by assumption) | exact pw_cell_below (below_drew1 (Below.refl _ _)) (by assumption))), (by (first | (with_reducible assumption) | exact pw_cell_below (Below.refl _ _) (by assumption) | exact pw_cell_below (below_alloc (Below.refl _ _) _) (by assumption) | exact pw_cell_below (pw_below_drewN (Below.refl _ _) _) (by assumption) | exact pw_cell_below (pw_below_drewN (below_alloc (Below.refl _ _) _) _) (by assumption) | exact pw_cell_below (below_drew1 (Below.refl _ _)) (by assumption))), (by (first | (with_reducible assumption) | exact pw_cell_below (Below.refl _ _) (by assumption) | exact pw_cell_below (below_alloc (Below.refl _ _) _) (by assumption) | exact pw_cell_below (pw_below_drewN (Below.refl _ _) _) (by assumption) | exact pw_cell_below (pw_below_drewN (below_alloc (Below.refl _ _) _) _) (by assumption) | exact pw_cell_below (below_drew1 (Below.refl _ _)) (by assumption))), (by (first | (with_reducible assumption) | exact pw_cell_below (Below.refl _ _) (by assumption) | exact pw_cell_below (below_alloc (Below.refl _ _) _) (by assumption) | exact pw_cell_below (pw_below_drewN (Below.refl _ _) _) (by assumption) | exact pw_cell_below (pw_below_drewN (below_alloc (Below.refl _ _) _) _) (by assumption) | exact pw_cell_below (below_drew1 (Below.refl _ _)) (by assumption))), (by (repeat (first | (with_reducible assumption) | (with_reducible refine Kd.C_below ?_ (Below.refl _ _)) | (with_reducible refine Kd.C_alloc ?_ _) | (with_reducible refine Kd.C_drewN ?_ _) | (with_reducible refine Kd.C_drew ?_)))), (by (repeat (first | (with_reducible assumption) | (with_reducible refine Kd.C_below ?_ (Below.refl _ _)) | (with_reducible refine Kd.C_alloc ?_ _) | (with_reducible refine Kd.C_drewN ?_ _) | (with_reducible refine Kd.C_drew ?_)))), (by (repeat (first | (with_reducible assumption) | (with_reducible refine below_step ?_ (Below.refl _ _)) | (with_reducible refine below_alloc ?_ _) | (with_reducible refine pw_below_drewN ?_ _) | (with_reducible refine below_drew1 ?_))))⟩)) (first | (go_at_call 58; go_split_ands; (with_reducible refine (WR.out _).mono ?_); rintro e w6 ⟨rfl, hb5⟩) | (go_at_call 59; go_split_ands; (with_reducible refine (WS.out _).mono ?_); rintro e w6 ⟨rfl, hb5⟩) | (go_at_call 24; go_split_ands; (with_reducible refine (WE.out _ _ _ _ _ (by assumption) (by assumption)).mono ?_); rintro e w' ⟨rfl, h_⟩; have h_ := h_.symm; subst h_) | (go_at_call 53; go_split_ands; (with_reducible refine (l08_awake _).mono ?_); rintro e w6 ⟨rfl, hb5⟩) | fail)
  all_goals go_split_ands
  all_goals refine go_on8 ?_
  all_goals go_wp2
  all_goals go_ret
  all_goals exact ⟨by first | rfl | simp, by assumption⟩
end Go.Proofs.Ytdknolnoimpgeaa.K
namespace Go.Proofs.Ytdknolnoimpgeaa.K
open Go.RowKit Go.Deep Go.Proofs.YtdknolnoimpgeaaW.PrintWords Go.Proofs.YtdknolnoimpgeaaW.PrintLast Go.Proofs.YtdknolnoimpgeaaW.PrintMore
set_option linter.unusedVariables false
set_option linter.unusedSimpArgs false
/-- What reads as data of type t is of this kind, and good. -/
def Opens {α : Type} (P : Program) (d : Kd α) (t : TypeId) (good : α → Prop) : Prop :=
  ∀ (H : Type) (enc : TypeId × Value → H) (w : World) (base : Nat) (spare : Nat → Bool) (held : Bool) (fuel : Nat) (cs : List Value) (x : DataW H × List MemPlace),
    DataW.trod enc P w base spare held fuel t cs = some x → ∃ a, d.K w a cs ∧ good a
theorem opens_int {P : Program} {k : IntKind} {t : TypeId} (ht : P.underlying t = some (.int k)) : Opens P (Kd.int k) t (fun n => (Lit.int k n).wf = true) := by
  intro H enc w base spare held fuel cs x h
  obtain ⟨n, rfl, _, hw⟩ := DataW.trod_int ht h
  exact ⟨n, rfl, hw⟩
theorem opens_bool {P : Program} {t : TypeId} (ht : P.underlying t = some .bool) : Opens P Kd.bool t (fun _ => True) := by
  intro H enc w base spare held fuel cs x h
  obtain ⟨b, rfl, _⟩ := DataW.trod_bool ht h
  exact ⟨b, rfl, trivial⟩
theorem opens_string {P : Program} {t : TypeId} (ht : P.underlying t = some .string) : Opens P Kd.string t (fun s => s.size ≤ maxLen) := by
  intro H enc w base spare held fuel cs x h
  obtain ⟨s, rfl, _, hs⟩ := DataW.trod_string ht h
  exact ⟨s, rfl, hs⟩
theorem opens_mono {α : Type} {P : Program} {d : Kd α} {t : TypeId} {good good' : α → Prop} (h : Opens P d t good) (hg : ∀ a, good a → good' a) : Opens P d t good' := by
  intro H enc w base spare held fuel cs x hx
  obtain ⟨a, hk, hga⟩ := h H enc w base spare held fuel cs x hx
  exact ⟨a, hk, hg a hga⟩
theorem opens_iso {α β : Type} {P : Program} {d : Kd α} {t : TypeId} {good : α → Prop} (f : β → α) (g : α → β) (hfg : ∀ a, f (g a) = a) (h : Opens P d t good) : Opens P (Kd.iso d f) t (fun b => good (f b)) := by
  intro H enc w base spare held fuel cs x hx
  obtain ⟨a, hk, hga⟩ := h H enc w base spare held fuel cs x hx
  refine ⟨g a, ?_, by show good (f (g a)); rw [hfg]; exact hga⟩
  show d.K w (f (g a)) cs
  rw [hfg]
  exact hk
theorem opens_slice {α : Type} {P : Program} {d : Kd α} {t e : TypeId} {good : α → Prop} (ht : P.underlying t = some (.slice e)) (hc : P.cellsOf e = d.sz) (he : Opens P d e good) :
    Opens P (Kd.slice e d) t (fun xs => xs.length ≤ 9223372036854775807 ∧ ∀ x ∈ xs, good x) := by
  intro H enc w base spare held fuel cs x h
  rcases open_slice ht h with ⟨rfl, _⟩ | ⟨a, len, cap, m, n, D, Pl, rfl, hb, hl, hm, hmm, _, hx⟩
  · exact ⟨[], ⟨none, 0, rfl, Nat.le_refl _, Kd.C_nil _ _⟩, by simp, fun x hx => by cases hx⟩
  · have hlm : len ≤ m := by rw [hmm]; split <;> omega
    have key : ∀ k, k ≤ len → ∃ xs : List α, xs.length = k ∧ (∀ y ∈ xs, good y) ∧ ∀ j p, xs[j]? = some p → ∃ c, c.length = d.sz ∧ d.K w p c ∧ ∀ i u, c[i]? = some u → w.cell? (a.add (j * d.sz + i)) = some u := by
      intro k
      induction k with
      | zero => exact fun _ => ⟨[], rfl, fun y hy => (List.not_mem_nil hy).elim, fun j p hj => by simp at hj⟩
      | succ k ih =>
        intro hk
        obtain ⟨xs, h1, h2, h3⟩ := ih (by omega)
        obtain ⟨cs', hcs, htr⟩ := hx k (by omega)
        obtain ⟨y, hy, hg⟩ := he H enc w base spare held n cs' _ htr
        obtain ⟨_, hlen, hcell⟩ := World.cells?_some hcs
        rw [hc] at hlen hcell
        refine ⟨xs ++ [y], by simp [h1], fun z hz => ?_, fun j p hj => ?_⟩
        · rcases List.mem_append.1 hz with hz | hz
          · exact h2 z hz
          · rw [List.mem_singleton.1 hz]; exact hg
        · rcases Nat.lt_or_ge j xs.length with g | g
          · rw [List.getElem?_append_left g] at hj
            exact h3 j p hj
          · rw [List.getElem?_append_right g] at hj
            have hj0 : j - xs.length = 0 := by
              rcases Nat.eq_zero_or_pos (j - xs.length) with h0 | h0
              · exact h0
              · rw [List.getElem?_eq_none (by simp; omega)] at hj; cases hj
            rw [hj0] at hj
            obtain rfl := Option.some.inj hj
            have hjk : j = k := by omega
            subst hjk
            refine ⟨cs', hlen, hy, fun i u hu => ?_⟩
            have hi : i < d.sz := by rw [← hlen]; exact (List.getElem?_eq_some_iff.1 hu).1
            have := hcell i hi
            rw [hu] at this
            rw [← this]
            congr 1
            exact (addr_add_add a (j * d.sz) i).symm
    obtain ⟨xs, h1, h2, h3⟩ := key len (Nat.le_refl _)
    have hmax : cap ≤ 9223372036854775807 := by simpa [maxLen] using hm
    exact ⟨xs, ⟨some a, cap, by rw [h1], by omega, h1.symm ▸ rfl, by omega, fun _ => ⟨a, rfl, h3⟩⟩, by omega, h2⟩
/-- The fields of a struct, one behind the other. -/
def fieldsFrom (P : Program) : List Field → Nat → Nat → Bool
  | [], off, tot => off == tot
  | f :: fs, off, tot => f.offset == off && decide (off + P.cellsOf f.type ≤ tot) && fieldsFrom P fs (off + P.cellsOf f.type) tot
theorem cat_from {P : Program} {cs : List Value} {tot : Nat} (hl : cs.length = tot) : ∀ (fs : List Field) (off : Nat), fieldsFrom P fs off tot = true → fs.flatMap (fun f => (cs.drop f.offset).take (P.cellsOf f.type)) = cs.drop off := by
  intro fs
  induction fs with
  | nil =>
    intro off h
    have : off = tot := by simpa [fieldsFrom] using h
    rw [List.flatMap_nil, List.drop_eq_nil_of_le (by omega)]
  | cons f fs ih =>
    intro off h
    simp only [fieldsFrom, Bool.and_eq_true, beq_iff_eq, decide_eq_true_eq] at h
    obtain ⟨⟨h1, h2⟩, h3⟩ := h
    rw [List.flatMap_cons, ih _ h3, h1, ← List.drop_drop, List.take_append_drop]
def OpensFs {α : Type} (P : Program) (d : Kd α) (fs : List Field) (good : α → Prop) : Prop :=
  ∀ (H : Type) (enc : TypeId × Value → H) (w : World) (base : Nat) (spare : Nat → Bool) (held : Bool) (n : Nat) (g : Field → List Value),
    (∀ f ∈ fs, ∃ x, DataW.trod enc P w base spare held n f.type (g f) = some x) → ∃ a, d.K w a (fs.flatMap g) ∧ good a
theorem opensFs_one {α : Type} {P : Program} {d : Kd α} {f : Field} {t : TypeId} {good : α → Prop} (hf : f.type = t) (h : Opens P d t good) : OpensFs P d [f] good := by
  intro H enc w base spare held n g hx
  obtain ⟨x, hx⟩ := hx f List.mem_cons_self
  rw [hf] at hx
  obtain ⟨a, hk, hg⟩ := h H enc w base spare held n _ _ hx
  exact ⟨a, by simpa using hk, hg⟩
theorem opensFs_cons {α β : Type} {P : Program} {d : Kd α} {d' : Kd β} {f : Field} {t : TypeId} {fs : List Field} {good : α → Prop} {good' : β → Prop} (hf : f.type = t) (h : Opens P d t good) (h' : OpensFs P d' fs good') :
    OpensFs P (Kd.pair d d') (f :: fs) (fun x => good x.1 ∧ good' x.2) := by
  intro H enc w base spare held n g hx
  obtain ⟨x, hx0⟩ := hx f List.mem_cons_self
  rw [hf] at hx0
  obtain ⟨a, hk, hg⟩ := h H enc w base spare held n _ _ hx0
  obtain ⟨b, hk', hg'⟩ := h' H enc w base spare held n g (fun f' hf' => hx f' (List.mem_cons_of_mem _ hf'))
  exact ⟨(a, b), ⟨_, _, by rw [List.flatMap_cons], hk, hk'⟩, hg, hg'⟩
theorem opens_struct {α : Type} {P : Program} {d : Kd α} {t : TypeId} {fs : Array Field} {good : α → Prop} (ht : P.underlying t = some (.struct fs)) (hl : fieldsFrom P fs.toList 0 (P.cellsOf t) = true) (hf : OpensFs P d fs.toList good) :
    Opens P d t good := by
  intro H enc w base spare held fuel cs x h
  obtain ⟨xs, n, _, _, hlen, hxl, hx⟩ := DataW.trod_struct ht h
  obtain ⟨a, hk, hg⟩ := hf H enc w base spare held n (fun f => (cs.drop f.offset).take (P.cellsOf f.type)) (fun f hmem => by
    obtain ⟨i, hi, he⟩ := List.getElem_of_mem hmem
    have hi' : i < fs.size := by simpa using hi
    have := hx i f (by rw [Array.getElem?_eq_getElem hi']; simpa using he)
    rw [List.getElem?_eq_getElem (by omega)] at this
    exact ⟨_, this⟩)
  refine ⟨a, ?_, hg⟩
  rw [cat_from hlen fs.toList 0 hl] at hk
  simpa using hk
end Go.Proofs.Ytdknolnoimpgeaa.K
