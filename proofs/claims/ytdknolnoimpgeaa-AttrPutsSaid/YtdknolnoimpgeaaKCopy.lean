/- copy(row of one's own, string). -/
import Derived.Test.YtdknolnoimpgeaaKArr
import Derived.Test.YtdknolnoimpgeaaK02b
import Derived.Lib.LazyBuf
namespace Go.Proofs.Ytdknolnoimpgeaa.K
/-- A string's bytes as numbers. -/
def sB (s : ByteArray) : List Int := s.data.toList.map fun x => (x.toNat : Int)
theorem sB_length (s : ByteArray) : (sB s).length = s.size := by unfold sB; rw [List.length_map]; exact Array.length_toList
def pad24 (s : ByteArray) : List Int := sB s ++ (List.replicate 24 (0 : Int)).drop s.size
theorem pad24_length {s : ByteArray} (h : s.size ≤ 24) : (pad24 s).length = 24 := by
  unfold pad24; rw [List.length_append, sB_length, List.length_drop, List.length_replicate]; omega
theorem arr24 : (Try.prog.info? 112).map (·.zero) = some (some (.agg (Array.replicate 24 (.int .u8 0)))) := by kernel_rfl
theorem arr24_len : Try.prog.arrayLen 112 = 24 := by kernel_rfl
theorem arr24_elem : Try.prog.elem 112 = 5 := by kernel_rfl
end Go.Proofs.Ytdknolnoimpgeaa.K
namespace Go.Proofs.YtdknolnoimpgeaaW.PrintWords
open Go.RowKit Go.Proofs.Ytdknolnoimpgeaa.K
namespace Kd
section
variable {P : Program} {ops : Array Oper} {o : Oper} {a : Act} {Q : Exit → Act → World → Prop} {Kc : Act → World → Prop} {E : Prop}
theorem R_copyStr_step {w0 W : World} (base : Nat) (hgd : o.guard = none) (s x : Operand) (t t' e b : TypeId)
    (ho : o.op = .call { callee := .builtin .copy, args := #[s, x], argTypes := #[t, t'] }) (ht : P.underlying t = some (.slice e)) (hinfo : (P.info? e).map (·.size) = some 1)
    (g cap : Nat) (xs : List Int) (y : ByteArray) (ok : Nat → Prop) (hs : a.eval s = .slice (some ⟨g, 0, none⟩) xs.length cap) (hx : a.eval x = .string y) (hle : y.size ≤ xs.length)
    (HO : (Kd.int .u8).R b W base ok (.slice (some ⟨g, 0, none⟩) xs.length cap) xs) (HB : Below base w0 W) (hbase : base ≤ W.heap.size)
    (h : ∀ w1, (Kd.int .u8).R b w1 base ok (.slice (some ⟨g, 0, none⟩) xs.length cap) (sB y ++ xs.drop y.size) → Below base w0 w1 → W.grownBy w1 (some g) → Kc (a.put o.dst (goInt y.size)) w1) :
    if Region.wanted o (yielded ops a.tmps) = true then Oper.wp P o a W Kc Q else E := by
  obtain ⟨i0, hi, hz⟩ := Option.map_eq_some_iff.1 hinfo
  have hown := own_of_R HO
  have hg0 := own_base hown g (by simp [Value.ownBlock])
  rcases hown.2 with ⟨e0, _⟩ | ⟨g1, cap1, cur, hv, hb, hh, hnc, hcm, hcs, htake⟩
  · cases e0
  obtain ⟨rfl, rfl⟩ : g1 = g ∧ cap1 = cap := by injection hv with h1 h2 h3; injection h1 with h1; injection h1 with h1; exact ⟨h1.symm, h3.symm⟩
  have hcs1 : cur.size = cap1 := by omega
  refine Go.step_copy_string (P := P) hgd s x t t' ho e ht (fun w => by simp [Go.sizeOf, typeInfo, hi, hz]) g1 0 xs.length cap1 hs y hx hle
    (fun j hj => by rw [cell_of_row W g1 _ cur b (0, 0) hh]; simp; omega) (fun j _ => blk_frozen hh _) ?_
  have hnl : (y.data.toList.map fun x => Value.int .u8 (x.toNat : Int)).length = y.size := by rw [List.length_map]; exact Array.length_toList
  obtain ⟨cur', h3, h4, h5⟩ := setCells_row (y.data.toList.map fun x => Value.int .u8 (x.toNat : Int)) 0 W cur hh (by rw [hnl]; omega)
  obtain ⟨s1, s2, s3, s4⟩ := setCells_same g1 (y.data.toList.map fun x => Value.int .u8 (x.toNat : Int)) 0 W
  have hgr : W.grownBy (W.setCells g1 0 (y.data.toList.map fun x => Value.int .u8 (x.toNat : Int))) (some g1) := ⟨s1, s2, s3, by rw [s4]; exact Nat.le_refl _, fun k _ hk => setCells_far _ _ k (fun he => hk (by rw [he]))⟩
  have hln : (sB y ++ xs.drop y.size).length = xs.length := by rw [List.length_append, sB_length, List.length_drop]; omega
  refine h _ ?_ (HB.grown hgr hbase (fun k hk => by injection hk with hk; subst hk; exact hg0)) hgr
  have key : (Kd.int .u8).R b (W.setCells g1 0 (y.data.toList.map fun x => Value.int .u8 (x.toNat : Int))) base ok (.slice (some ⟨g1, 0, none⟩) (sB y ++ xs.drop y.size).length cap1) (sB y ++ xs.drop y.size) := by
    refine R_of_own ?_ (fun k hk => HO.1 k (by simpa [Value.ownBlock] using hk))
    refine ⟨by rw [encs_length, Nat.mul_one], .inr ⟨g1, cap1, cur', rfl, hb, h3, by rw [hln]; exact hnc, hcm, by rw [h4, hcs], ?_⟩⟩
    rw [h5, List.take_zero, List.nil_append, hnl, Nat.zero_add, encs_append, hln, Nat.mul_one]
    have e1 : (y.data.toList.map fun x => Value.int .u8 (x.toNat : Int)) = encs (Value.int .u8) (sB y) := by simp [encs, sB]
    rw [e1]
    have htk : cur.toList.take xs.length = encs (Value.int .u8) xs := by rw [← htake, Nat.mul_one]
    have hd : encs (Value.int .u8) (xs.drop y.size) = (encs (Value.int .u8) xs).drop y.size := by simp [encs, List.map_drop]
    rw [List.take_append, encs_length, sB_length, List.take_of_length_le (by rw [encs_length, sB_length]; omega), hd, ← htk, List.drop_take]
  rw [hln] at key
  exact key
end
end Kd
end Go.Proofs.YtdknolnoimpgeaaW.PrintWords
