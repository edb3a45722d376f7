/- Writes as they come in (chapter 27). -/
import Derived.Test.YtdkbhbolkieeiaaKSl
import Derived.Test.YtdkbhbolkieeiaaKSlO
namespace Go.Proofs.Ytdkbhbolkieeiaa.K
open Go.RowKit Go.Deep Go.Proofs.YtdkbhbolkieeiaaW.PrintWords Go.Proofs.YtdkbhbolkieeiaaW.PrintLast Go.Proofs.YtdkbhbolkieeiaaW.PrintMore
set_option linter.unusedVariables false
set_option linter.unusedSimpArgs false
structure Wr where
  at_ : Int
  s : Sl
def Wr.enc (x : Wr) : List Value := [.int .i64 x.at_, .slice x.s.A x.s.l.length x.s.c]
theorem Wr.len (x : Wr) : x.enc.length = 2 := rfl
theorem Wr.one (x : Wr) : ∀ u ∈ x.enc, u.oneCell' = true := by
  intro u hu
  simp [Wr.enc] at hu
  rcases hu with rfl | rfl <;> rfl
structure WrK (w : World) (x : Wr) (cs : List Value) : Prop where
  e : cs = x.enc
  b : Kd.C (Kd.int .u8) w x.s.A x.s.l.length x.s.l
  c : x.s.l.length ≤ x.s.c
/-- Writes that are read, with their bytes. -/
def kWr : Kd Wr := Kd.ofK 2 WrK (fun h => by rw [h.e]; rfl) (fun h u hu => Wr.one _ u (by rw [h.e] at hu; exact hu)) (fun hb h => ⟨h.e, Kd.C_below h.b hb, h.c⟩)
/-- A reading told by another kind. -/
theorem C_turn {α β : Type} {d : Kd α} {d' : Kd β} (f : β → α) (hs : d'.sz = d.sz) (hc : ∀ w a cs, d.K w a cs → ∃ b, d'.K w b cs ∧ f b = a) {W : World} {A : Option Addr} {n : Nat} {xs : List α} (h : d.C W A n xs) : ∃ ys, d'.C W A n ys ∧ ys.map f = xs := by
  obtain ⟨h1, h2, h3⟩ := h
  rcases Nat.eq_zero_or_pos n with h0 | h0
  · subst h0
    have : xs = [] := List.length_eq_zero_iff.1 h1
    subst this
    exact ⟨[], ⟨rfl, h2, fun h => absurd h (Nat.lt_irrefl 0)⟩, rfl⟩
  obtain ⟨ad, hA, hx⟩ := h3 h0
  have key : ∀ j : Fin xs.length, ∃ b, f b = xs[j] ∧ ∃ cs, cs.length = d'.sz ∧ d'.K W b cs ∧ ∀ i u, cs[i]? = some u → W.cell? (ad.add (j.1 * d'.sz + i)) = some u := fun j => by
    obtain ⟨cs, hl, hk, hcell⟩ := hx j.1 xs[j] (List.getElem?_eq_getElem j.2)
    obtain ⟨b, hb, hf⟩ := hc W _ _ hk
    exact ⟨b, hf, cs, by rw [hs]; exact hl, hb, fun i u hu => by rw [hs]; exact hcell i u hu⟩
  refine ⟨List.ofFn fun j => (key j).choose, ⟨by rw [List.length_ofFn]; exact h1, h2, fun _ => ⟨ad, hA, fun j p hp => ?_⟩⟩, ?_⟩
  · obtain ⟨hj, rfl⟩ := List.getElem?_eq_some_iff.1 hp
    rw [List.length_ofFn] at hj
    have := (key ⟨j, hj⟩).choose_spec.2
    simpa using this
  · apply List.ext_getElem
    · simp
    · intro j h1 h2
      have := (key ⟨j, h2⟩).choose_spec.1
      simpa using this
theorem at_wr {W : World} {A : Option Addr} {m : Nat} {xs : List Wr} (h : Kd.C kWr W A m xs) {j : Nat} (hj : j < xs.length) : ∃ ad, A = some ad ∧ (∀ i u, (Wr.enc xs[j])[i]? = some u → W.cell? (ad.add (j * 2 + i)) = some u) ∧ Kd.C (Kd.int .u8) W xs[j].s.A xs[j].s.l.length xs[j].s.l ∧ xs[j].s.l.length ≤ xs[j].s.c := by
  have hm := h.1
  obtain ⟨ad, he, hx⟩ := h.2.2 (by omega)
  obtain ⟨cs, hl, hk, hc⟩ := hx j xs[j] (List.getElem?_eq_getElem hj)
  have hk : WrK W xs[j] cs := hk
  exact ⟨ad, he, fun i u hu => hc i u (by rw [hk.e]; exact hu), hk.b, hk.c⟩
theorem at_wrA {W : World} {A : Option Addr} {m : Nat} {xs : List Wr} (h : Kd.C kWr W A m xs) {j : Nat} (hj : j < xs.length) : ∃ ad, A = some ad ∧ (∀ u, (Wr.enc xs[j])[0]? = some u → W.cell? (ad.add (j * 2)) = some u) ∧
      ∀ i u, (Wr.enc xs[j])[i + 1]? = some u → W.cell? ⟨(ad.add (j * 2)).block, (ad.add (j * 2)).off + (i + 1), none⟩ = some u := by
  obtain ⟨ad, he, hx, _⟩ := at_wr h hj
  refine ⟨ad, he, fun u hu => hx 0 u hu, fun i u hu => ?_⟩
  have h2 := hx (i + 1) u hu
  rw [← addr_add_add, Addr.add_succ'] at h2
  exact h2
theorem opens_wr : Opens Try.prog kWr 82 (fun x => (Lit.int .i64 x.at_).wf = true ∧ x.s.l.length ≤ 9223372036854775807 ∧ ∀ n ∈ x.s.l, (Lit.int .u8 n).wf = true) :=
  opens_convS (opens_struct Try.underlying82 (by kernel_rfl) (opensFs_cons rfl (opens_int Try.underlying3) (opensFs_one rfl (opens_slice Try.underlying44 (by kernel_rfl) (opens_int Try.underlying5))))) (by
    rintro w ⟨a, b⟩ cs ⟨c0, d0, e0, u0, A2, n2, u2, h2, C2⟩ ⟨g1, g2, g3⟩
    refine ⟨⟨a, ⟨A2, n2, b⟩⟩, ⟨?_, C2, h2⟩, g1, g2, g3⟩
    show cs = _
    rw [e0, u0, u2]; rfl)
end Go.Proofs.Ytdkbhbolkieeiaa.K
