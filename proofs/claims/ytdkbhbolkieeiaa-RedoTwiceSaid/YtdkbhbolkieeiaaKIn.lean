/- A loop's body over an iterator: its regions are walked as everywhere. -/
import Derived.Test.YtdkbhbolkieeiaaKC
import Derived.RangeFuncNested
import Derived.RangeFuncCalls
import Derived.OwnWalkIn
import Derived.TacticsInMore
namespace Go.Proofs.Ytdkbhbolkieeiaa.K
open Go.RowKit
set_option linter.unusedVariables false
set_option linter.unusedSimpArgs false
abbrev RF (l : Nat) : Fence := Fence.wide.inRound l
theorem uponIn_of_upon {P : Program} {l n : Nat} {o : Oper} {a : Act} {next next' : Act → World → Prop} {Q : Exit → Act → World → Prop} (hn : ∀ a w, next a w → next' a w) (hQ : ¬ LetsOut Q) : ∀ (r : Result Next), o.upon P a next Q r → o.uponIn (RF l) n P a next' Q r
  | .ok (.value v) w', h => hn _ _ h
  | .ok .skip w', h => hn _ _ h
  | .ok (.defer d) w', h => hn _ _ h
  | .ok (.enter f args) w', h => by
    refine ⟨fun hd => (by simp [Fence.wide] at hd), CallsIn.inRound l (callsIn_wide.2 (Calls.mono h ?_))⟩
    intro e w2 h2
    cases e with
    | returned v => exact hn _ _ h2
    | panicked ch => exact h2
    | outgrown => exact h2
  | .ok (.row row args) w', h => by
    refine ⟨fun hd => (by simp [Fence.wide] at hd), fun c cs _ => ?_⟩
    obtain ⟨v, w2, hr, hs⟩ := h c cs
    exact ⟨v, w2, hn _ _ hr, stepsIn_wide.2 hs⟩
  | .ok (.round l f tmps assign body) w', h => h.elim
  | .halt (.panic v) w', h => h
theorem wpOpsIn_of_wpOps {P : Program} {l n : Nat} {ops : Array Oper} {Q : Exit → Act → World → Prop} (hQ : ¬ LetsOut Q) (hd : ∀ (i : Nat) o, ops[i]? = some o → ∀ c, o.op ≠ .defer c) : ∀ (is : List Nat) (a : Act) (w : World), wpOps P ops Q is a w → wpOpsIn (RF l) n P ops Q is a w
  | [], a, w, h => h
  | i :: is, a, w, h => by
    simp only [wpOps] at h
    simp only [wpOpsIn]
    cases ho : ops[i]? with
    | none =>
      simp only [ho] at h ⊢
      exact wpOpsIn_of_wpOps hQ hd is a w h
    | some o =>
      simp only [ho] at h ⊢
      by_cases hw : Region.wanted o (yielded ops a.tmps) = true
      · simp only [hw, if_true] at h ⊢
        rcases h with h | h
        · refine ⟨fun _ _ => trivial, ?_⟩
          rw [Oper.semAt_eq _ _ _ (hd i o ho)]
          exact uponIn_of_upon (fun a w => wpOpsIn_of_wpOps hQ hd is a w) hQ _ h
        · exact absurd h.2 hQ
      · simp only [hw, if_false, Bool.false_eq_true] at h ⊢
        exact ⟨fun _ _ => trivial, wpOpsIn_of_wpOps hQ hd is _ w h⟩
def plainOps (l : List Oper) : Bool := l.all fun o => match o.op with | .defer _ => false | _ => true
theorem plainOps_get {l : List Oper} (h : plainOps l = true) (i : Nat) (o : Oper) (ho : l.toArray[i]? = some o) (c : Call) : o.op ≠ .defer c := by
  intro e
  have hm : o ∈ l := by
    rw [List.getElem?_toArray] at ho
    exact List.mem_of_getElem? ho
  have := List.all_eq_true.1 h o hm
  rw [e] at this
  cases this
/-- A straight region of a round's body is walked as one of a function's. -/
theorem wpIn_reg {P : Program} {l n id : Nat} {ops : List Oper} {Q : Exit → Act → World → Prop} {a : Act} {w : World} (hp : plainOps ops = true) (hQ : ¬ LetsOut Q) (h : wpList P ops.toArray Q ops a w) :
    (Code.region id ops.toArray false).wpIn (RF l) n P Q a w := by
  refine wpIn_region (wpOpsIn_of_wpOps hQ (plainOps_get hp) _ a w ?_)
  rw [List.range_eq_range', ← Array.length_toList, wpOps_eq_wpList ops.toArray.toList 0 (by simp)]
  exact h
end Go.Proofs.Ytdkbhbolkieeiaa.K
