/- The reference's disk in memory (chapter 5). -/
import Derived.Test.YtdknolnoimpgeaaKDev10
import Derived.Test.YtdknolnoimpgeaaKRep
namespace Go.Proofs.Ytdknolnoimpgeaa.K
open Go.RowKit Go.Proofs.YtdknolnoimpgeaaW.PrintWords Go.Proofs.YtdknolnoimpgeaaW.PrintLast Go.Proofs.YtdknolnoimpgeaaW.PrintMore
set_option linter.unusedVariables false
set_option linter.unusedSimpArgs false
/-- A slice of bytes, and where it lies. -/
structure Sl where
  A : Option Addr
  c : Nat
  l : List Int
def Sl.enc (x : Sl) : Value := .slice x.A x.l.length x.c
abbrev kSl : Kd Sl := Kd.scalar Sl.enc (fun _ => rfl)
structure RP where
  at_ : Int
  s : Sl
def RP.enc (x : RP) : List Value := [.int .i64 x.at_, x.s.enc]
theorem RP.len (x : RP) : x.enc.length = 2 := rfl
theorem RP.one (x : RP) : ∀ u ∈ x.enc, u.oneCell' = true := by
  intro u hu
  simp [RP.enc, Sl.enc] at hu
  rcases hu with rfl | rfl <;> rfl
abbrev kRP : Kd RP := Kd.flat 2 RP.enc RP.len RP.one
abbrev TBs : TypeId := 24
abbrev TRP : TypeId := 153
abbrev TRD : TypeId := 99
theorem slinfo : (Try.prog.info? TBs).map (fun i => (i.zero, i.size, i.bytes)) = some (some (.slice none 0 0), 1, 24) := by kernel_rfl
theorem rpinfo : (Try.prog.info? TRP).map (fun i => (i.zero, i.size, i.bytes)) = some (some (.agg #[.int .i64 0, .slice none 0 0]), 2, 32) := by kernel_rfl
/-- The types of a disk's own blocks, and of variables that are disks of the reference. -/
def DT2 (t : TypeId) : Prop := DT t ∨ t = TRD
instance (t : TypeId) : Decidable (DT2 t) := by unfold DT2; infer_instance
/-- What neither a disk's calls nor variables of the reference change. -/
structure DFr2 (base : Nat) (W W' : World) : Prop where
  below : Below base W W'
  keep : ∀ (k : Nat) (cs : Array Value) (t : TypeId) (fr : Nat × Nat), W.heap[k]? = some (Obj.cells cs t fr) → ¬ DT2 t → W'.heap[k]? = some (Obj.cells cs t fr)
theorem DFrame.to2 {base : Nat} {W W' : World} (h : DFrame base W W') : DFr2 base W W' := ⟨h.below, fun k cs t fr hk ht => h.keep k cs t fr hk (fun hd => ht (.inl hd))⟩
theorem DFr2.refl (base : Nat) (W : World) : DFr2 base W W := ⟨Below.refl _ _, fun _ _ _ _ h _ => h⟩
theorem DFr2.trans {base : Nat} {A B C : World} (h : DFr2 base A B) (k : DFr2 base B C) : DFr2 base A C := ⟨h.below.trans k.below, fun i cs t fr hi ht => k.keep i cs t fr (h.keep i cs t fr hi ht) ht⟩
theorem DFr2.of_below {base : Nat} {W W' : World} (hb : base ≤ W.heap.size) (h : Below W.heap.size W W') : DFr2 base W W' := (DFrame.of_below hb h).to2
theorem DFr2.set {base : Nat} {W : World} {g i : Nat} {cs : Array Value} {t : TypeId} (hg : base ≤ g) (bk : W.heap[g]? = some (.cells cs t (0, 0))) (ht : DT2 t) (u : Value) : DFr2 base W (W.setCell ⟨g, i, none⟩ u) :=
  ⟨(Below.refl base W).setCell (p := ⟨g, i, none⟩) hg _, fun k cs' t' fr hk hn => by
    have hne : k ≠ g := fun e => by
      subst e
      rw [bk] at hk
      cases hk
      exact hn ht
    exact (Below.heap_setCell W ⟨g, i, none⟩ u k hne).trans hk⟩
theorem DFr2.grown {base : Nat} {W W' : World} {row : Option Nat} (hs : base ≤ W.heap.size) (hg : W.grownBy W' row) (hr : ∀ g, row = some g → base ≤ g ∧ ∃ cs t, W.heap[g]? = some (.cells cs t (0, 0)) ∧ DT2 t) : DFr2 base W W' :=
  ⟨(Below.refl base W).grown hg hs (fun k e => (hr k e).1), fun k cs t fr hk hn => (hg.block k (Array.getElem?_eq_some_iff.1 hk).1 (fun e => by
    obtain ⟨_, cs', t', hc, ht⟩ := hr k e.symm
    rw [hk] at hc
    cases hc
    exact hn ht)).trans hk⟩
/-- A reading that a disk's calls leave as it is. -/
def Keeps {α : Type} (d : Kd α) (base : Nat) (W : World) (A : Option Addr) (l : List α) : Prop := ∀ W', DFr2 base W W' → d.C W' A l.length l
theorem Keeps.step {α : Type} {d : Kd α} {base : Nat} {W W' : World} {A : Option Addr} {l : List α} (h : Keeps d base W A l) (k : DFr2 base W W') : Keeps d base W' A l := fun W2 q => h W2 (k.trans q)
theorem Keeps.stepD {α : Type} {d : Kd α} {base : Nat} {W W' : World} {A : Option Addr} {l : List α} (h : Keeps d base W A l) (k : DFrame base W W') : Keeps d base W' A l := h.step k.to2
theorem Keeps.toD {α : Type} {d : Kd α} {base : Nat} {W : World} {A : Option Addr} {l : List α} (h : Keeps d base W A l) : ∀ W', DFrame base W W' → d.C W' A l.length l := fun W' k => h W' k.to2
theorem Keeps.now {α : Type} {d : Kd α} {base : Nat} {W : World} {A : Option Addr} {l : List α} (h : Keeps d base W A l) : d.C W A l.length l := h W (DFr2.refl _ _)
theorem Keeps.nil {α : Type} (d : Kd α) (base : Nat) (W : World) : Keeps d base W none [] := fun W' _ => Kd.C_nil d W'
/-- Old data stay. -/
theorem Keeps.old {α : Type} {d : Kd α} {base : Nat} {w W : World} {A : Option Addr} {l : List α} (h : d.C w A l.length l) (hb : Below w.heap.size w W) (hle : w.heap.size ≤ base) : Keeps d base W A l := fun W' hf => Kd.C_below h (hb.trans (hf.below.mono hle))
/-- Rows of other types than the disk's stay. -/
theorem R_keeps {α : Type} {d : Kd α} {e base b : Nat} {W : World} {ok : Nat → Prop} {v : Value} {xs : List α} (h : d.R e W b ok v xs) (hE : ∀ q, q ∈ e :: d.E → ¬ DT2 q) {W' : World} (hf : DFr2 base W W') : d.R e W' b ok v xs := by
  have h1 := Kd.R_bound h
  refine Kd.R_mono (Kd.R_move h1 fun k hk => ?_) (fun k hk => hk.1)
  obtain ⟨_, _, _, q, hq, cells, hc⟩ := hk
  rw [hc, hf.keep k cells q (0, 0) hc (hE q hq)]
theorem Keeps.ofR {α : Type} {d : Kd α} {e base b : Nat} {W : World} {ok : Nat → Prop} {A : Option Addr} {c : Nat} {xs : List α} (h : d.R e W b ok (.slice A xs.length c) xs) (hE : ∀ q, q ∈ e :: d.E → ¬ DT2 q) : Keeps d base W A xs := fun W' hf => by
  obtain ⟨A', c', he, _, hC⟩ := Kd.R_reads (R_keeps h hE hf)
  cases he
  exact hC
/-- The reference's disk. -/
structure RefS where
  safe : List Sl
  wait : List RP
  left : Int
  wr : Int
  fl : Int
  off : Bool
abbrev refA (r : RefS) (vs vw : Value) : Array Value := #[vs, vw, .int .i64 r.left, .int .i64 r.wr, .int .i64 r.fl, .bool r.off]
structure RefD (base : Nat) (W : World) (r : RefS) (vs vw : Value) : Prop where
  fs : ∃ A c, vs = .slice A r.safe.length c ∧ Keeps kSl base W A r.safe
  fw : ∃ A c, vw = .slice A r.wait.length c ∧ Keeps kRP base W A r.wait
  es : ∀ x ∈ r.safe, Keeps (Kd.int .u8) base W x.A x.l
  ew : ∀ q ∈ r.wait, Keeps (Kd.int .u8) base W q.s.A q.s.l
theorem RefD.step {base : Nat} {W W' : World} {r : RefS} {vs vw : Value} (h : RefD base W r vs vw) (k : DFr2 base W W') : RefD base W' r vs vw := by
  obtain ⟨A, c, e, f⟩ := h.fs
  obtain ⟨A2, c2, e2, f2⟩ := h.fw
  exact ⟨⟨A, c, e, f.step k⟩, ⟨A2, c2, e2, f2.step k⟩, fun x hx => (h.es x hx).step k, fun q hq => (h.ew q hq).step k⟩
/-- What is plain of it. -/
structure RefP where
  safe : List (List Int)
  wait : List (Int × List Int)
  left : Int
  wr : Int
  fl : Int
  off : Bool
def RefS.plain (r : RefS) : RefP := ⟨r.safe.map (·.l), r.wait.map (fun q => (q.at_, q.s.l)), r.left, r.wr, r.fl, r.off⟩
end Go.Proofs.Ytdknolnoimpgeaa.K
