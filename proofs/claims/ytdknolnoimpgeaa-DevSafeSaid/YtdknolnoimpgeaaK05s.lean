/- The calls of chapter 5's laws: Step, few, do. -/
import Derived.Test.YtdknolnoimpgeaaL05
import Derived.Test.YtdknolnoimpgeaaKOpen
namespace Go.Proofs.YtdknolnoimpgeaaW.PrintWords
open Go.RowKit Go.Proofs.Ytdknolnoimpgeaa.K
namespace Kd
/-- A kind that is only read. -/
def ofK {α : Type} (sz : Nat) (K : World → α → List Value → Prop) (hl : ∀ {w x cs}, K w x cs → cs.length = sz) (ho : ∀ {w x cs}, K w x cs → ∀ u ∈ cs, u.oneCell' = true) (hb : ∀ {w w1 : World} {x cs}, Below w.heap.size w w1 → K w x cs → K w1 x cs) : Kd α where
  sz := sz
  E := []
  K := K
  M := fun _ _ _ _ _ => False
  K_len := hl
  K_one := ho
  K_below := hb
  K_of_M := fun h => h.elim
  M_mono := fun _ h => h.elim
  M_bound := fun h => h.elim
  M_move := fun _ h => h.elim
  M_lower := fun _ h => h.elim
end Kd
end Go.Proofs.YtdknolnoimpgeaaW.PrintWords
namespace Go.Proofs.Ytdknolnoimpgeaa.K
open Go.RowKit Go.Deep Go.Proofs.YtdknolnoimpgeaaW.PrintWords Go.Proofs.YtdknolnoimpgeaaW.PrintLast Go.Proofs.YtdknolnoimpgeaaW.PrintMore
set_option linter.unusedVariables false
set_option linter.unusedSimpArgs false
structure Slb where
  A : Option Addr
  c : Nat
  l : List Bool
structure Stp where
  do_ : Int
  at_ : Int
  b : Sl
  k : Slb
def Stp.enc (x : Stp) : List Value := [.int .i64 x.do_, .int .i64 x.at_, .slice x.b.A x.b.l.length x.b.c, .slice x.k.A x.k.l.length x.k.c]
structure StpK (w : World) (x : Stp) (cs : List Value) : Prop where
  e : cs = x.enc
  b : Kd.C (Kd.int .u8) w x.b.A x.b.l.length x.b.l
  k : Kd.C Kd.bool w x.k.A x.k.l.length x.k.l
def kStp : Kd Stp := Kd.ofK 4 StpK (fun h => by rw [h.e]; rfl) (fun h u hu => by
    rw [h.e] at hu
    simp [Stp.enc] at hu
    rcases hu with rfl | rfl | rfl | rfl <;> rfl) (fun hb h => ⟨h.e, Kd.C_below h.b hb, Kd.C_below h.k hb⟩)
/-- A call of a list: its cells, and its data. -/
theorem at_stp {W : World} {A : Option Addr} {m : Nat} {xs : List Stp} (h : Kd.C kStp W A m xs) {j : Nat} (hj : j < xs.length) : ∃ ad, A = some ad ∧ (∀ i u, (Stp.enc xs[j])[i]? = some u → W.cell? (ad.add (j * 4 + i)) = some u) ∧ Kd.C (Kd.int .u8) W xs[j].b.A xs[j].b.l.length xs[j].b.l ∧ Kd.C Kd.bool W xs[j].k.A xs[j].k.l.length xs[j].k.l := by
  have hm := h.1
  obtain ⟨ad, he, hx⟩ := h.2.2 (by omega)
  obtain ⟨cs, hl, hk, hc⟩ := hx j xs[j] (List.getElem?_eq_getElem hj)
  have hk : StpK W xs[j] cs := hk
  refine ⟨ad, he, fun i u hu => hc i u (by rw [hk.e]; exact hu), hk.b, hk.k⟩
theorem at_stpA {W : World} {A : Option Addr} {m : Nat} {xs : List Stp} (h : Kd.C kStp W A m xs) {j : Nat} (hj : j < xs.length) : ∃ ad, A = some ad ∧ (∀ u, (Stp.enc xs[j])[0]? = some u → W.cell? (ad.add (j * 4)) = some u) ∧
      ∀ i u, (Stp.enc xs[j])[i + 1]? = some u → W.cell? ⟨(ad.add (j * 4)).block, (ad.add (j * 4)).off + (i + 1), none⟩ = some u := by
  obtain ⟨ad, he, hx, _⟩ := at_stp h hj
  refine ⟨ad, he, fun u hu => hx 0 u hu, fun i u hu => ?_⟩
  have h2 := hx (i + 1) u hu
  rw [← addr_add_add, Addr.add_succ'] at h2
  exact h2
theorem opens_convS {α β : Type} {P : Program} {d : Kd α} {d' : Kd β} {t : TypeId} {good : α → Prop} {good' : β → Prop} (h : Opens P d t good) (hc : ∀ w a cs, d.K w a cs → good a → ∃ b, d'.K w b cs ∧ good' b) : Opens P d' t good' := by
  intro H enc w base spare held fuel cs x hx
  obtain ⟨a, hk, hg⟩ := h H enc w base spare held fuel cs x hx
  exact hc w a cs hk hg
theorem opens_stp : Opens Try.prog kStp 93 (fun x => (Lit.int .i64 x.at_).wf = true ∧ x.b.l.length ≤ 9223372036854775807 ∧ x.k.l.length ≤ 9223372036854775807) :=
  opens_convS (opens_struct Try.underlying93 (by kernel_rfl) (opensFs_cons rfl (opens_int Try.underlying3) (opensFs_cons rfl (opens_int Try.underlying3) (opensFs_cons rfl (opens_slice Try.underlying24 (by kernel_rfl) (opens_int Try.underlying5)) (opensFs_one rfl (opens_slice Try.underlying89 (by kernel_rfl) (opens_bool Try.underlying4))))))) (by
    rintro w ⟨a, b, c, d⟩ cs ⟨c0, d0, e0, u0, c1, d1, e1, u1, c2, d2, e2, ⟨A2, n2, u2, _, C2⟩, ⟨A3, n3, u3, _, C3⟩⟩ ⟨_, g1, g2, g3⟩
    refine ⟨⟨a, b, ⟨A2, n2, c⟩, ⟨A3, n3, d⟩⟩, ⟨?_, C2, C3⟩, g1, g2.1, g3.1⟩
    show cs = _
    rw [e0, u0, e1, u1, e2, u2, u3]; rfl)
end Go.Proofs.Ytdknolnoimpgeaa.K
