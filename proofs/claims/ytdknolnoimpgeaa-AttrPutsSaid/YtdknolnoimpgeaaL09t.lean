/- AttrPuts: the law. -/
import Derived.Test.YtdknolnoimpgeaaL09s
import Derived.Test.YtdknolnoimpgeaaX09G
namespace Go.Proofs.Ytdknolnoimpgeaa.K
open Go.RowKit Go.Proofs.YtdknolnoimpgeaaW.PrintWords Go.Proofs.YtdknolnoimpgeaaW.PrintLast Go.Proofs.YtdknolnoimpgeaaW.PrintMore Go.Proofs.Ytdknolnoimpgeaa.X09
set_option linter.unusedVariables false
set_option linter.unusedSimpArgs false
theorem putS_byts (h o : Int) (r : ByteArray) (l i g s : Int) : Byts (putS h o r l i g s).1 := by
  unfold putS
  split
  · exact sealS_byts (attrRaw_byts _ _ _ _ _ _ _)
  · intro x hx; cases hx
theorem puts_true (h o : Int) (r : ByteArray) (l i g s : Int) (x : List Int) (hb : Byts x) : craquelurelaw09_AttrPuts.f 32 h o r l i g s x = some true := by
  unfold craquelurelaw09_AttrPuts.f
  by_cases h1 : (x.length : Int) > 2000
  · rw [if_pos h1]; simp only [craquelurelaw09_AttrPuts.j0, awake31, Option.bind_some, if_true]
  rw [if_neg h1]
  by_cases h2 : (r.size : Int) > 100
  · rw [decide_eq_true h2]; simp only [craquelurelaw09_AttrPuts.j0, awake31, Option.bind_some, if_true]
  rw [decide_eq_false h2]
  simp only [craquelurelaw09_AttrPuts.j0, put_eq 28, rput_eq 6, get_eq 27 x hb, rget_eq 5 x hb, right_eq 28, rright_eq 28, Option.bind_some]
  obtain ⟨p, ep⟩ : ∃ p, p = putS h o r l i g s := ⟨_, rfl⟩
  obtain ⟨c, ec⟩ : ∃ c, c = getS x := ⟨_, rfl⟩
  have hpb : Byts p.1 := by rw [ep]; exact putS_byts _ _ _ _ _ _ _
  rw [← ep, ← ec, if_neg (by simp), if_neg (by simp)]
  unfold bytes_Equal.f
  rw [if_pos ⟨bytsB_of hpb, bytsB_of hpb⟩, Option.bind_some, if_pos (by simp), if_pos trivial, if_neg (by simp), show (c.2.2.2.2.2.2.2 != c.2.2.2.2.2.2.2) = false by simp]
  simp only [craquelurelaw09_AttrPuts.j1, get_eq 26 p.1 hpb, put_eq 27, Option.bind_some]
  have hback : c.2.2.2.2.2.2.2 = true → putS c.1 c.2.1 c.2.2.1 c.2.2.2.1 c.2.2.2.2.1 c.2.2.2.2.2.1 c.2.2.2.2.2.2.1 = (x, 0) := fun hk => by
    subst ec; exact getS_put hk
  unfold bytes_Equal.f
  rw [if_neg (by simp)]
  by_cases hR : rightB h o r l i g s = true
  · have hP := (rightB_iff _ _ _ _ _ _ _).1 hR
    have e1 : p.2 = 0 := by rw [ep]; unfold putS; rw [if_pos hR]
    have e2 : p.1 = sealS (attrRaw h o r l i g s) := by rw [ep]; unfold putS; rw [if_pos hR]
    rw [e2, got hP, if_pos e1]
    simp only [beq_self_eq_true, Bool.and_self, if_true]
    by_cases hk : c.2.2.2.2.2.2.2 = true
    · rw [if_pos hk, hback hk, if_pos rfl, if_pos ⟨bytsB_of hb, bytsB_of hb⟩, Option.bind_some, if_pos (by simp), awake30]; rfl
    · rw [if_neg hk, awake30]; rfl
  · have e1 : ¬ p.2 = 0 := by rw [ep]; unfold putS; rw [if_neg hR]; decide
    rw [if_neg e1]
    by_cases hk : c.2.2.2.2.2.2.2 = true
    · rw [if_pos hk, hback hk, if_pos rfl, if_pos ⟨bytsB_of hb, bytsB_of hb⟩, Option.bind_some, if_pos (by simp), awake30]; rfl
    · rw [if_neg hk, awake30]; rfl
theorem l09_Puts (h o : Int) (r : ByteArray) (l i g s : Int) (A : Option Addr) (cp : Nat) (x : List Int) (w : World) (hr : Kd.C (Kd.int .u8) w A x.length x) (hc : x.length ≤ cp) (hb : Byts x) :
    Calls Try.prog 4 #[.agg #[.int .i64 h, .int .i64 o, .string r, .int .i64 l, .int .i64 i, .int .i64 g, .int .i64 s], .slice A x.length cp] w fun e w' => e = .returned (.bool true) ∧ Below w.heap.size w w' :=
  craquelurelaw09_AttrPuts.calls 32 h o r l i g s A cp x w hr hc (puts_true h o r l i g s x hb)
end Go.Proofs.Ytdknolnoimpgeaa.K
