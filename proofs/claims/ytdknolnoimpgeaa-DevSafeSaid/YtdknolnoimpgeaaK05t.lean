/- The calls of chapter 5's laws: few. -/
import Derived.Test.YtdknolnoimpgeaaK05s
namespace Go.Proofs.Ytdknolnoimpgeaa.K
open Go.RowKit Go.Proofs.YtdknolnoimpgeaaW.PrintWords Go.Proofs.YtdknolnoimpgeaaW.PrintLast Go.Proofs.YtdknolnoimpgeaaW.PrintMore
set_option linter.unusedVariables false
set_option linter.unusedSimpArgs false
def bigS (x : Stp) : Bool := decide (200 < x.b.l.length) || decide (100 < x.k.l.length)
def fewS (n : Nat) (l : List Stp) : Bool := decide (n ≤ 2000) && (decide (l.length ≤ 60) && !l.any bigS)
set_option maxRecDepth 100000 in
theorem bigS_walk (x : Stp) (W : World) : Calls Try.prog 126 #[.agg #[.int .i64 x.do_, .int .i64 x.at_, .slice x.b.A x.b.l.length x.b.c, .slice x.k.A x.k.l.length x.k.c]] W fun e w' => e = .returned (.bool (bigS x)) ∧ Below W.heap.size W w' := by
  have EB : Aside0 (bigS x = (decide (200 < x.b.l.length) || decide (100 < x.k.l.length))) := ⟨rfl⟩
  obtain ⟨n, hn⟩ : ∃ n, n = x.b.l.length := ⟨_, rfl⟩
  obtain ⟨m, hm⟩ : ∃ n, n = x.k.l.length := ⟨_, rfl⟩
  rw [← hn, ← hm] at EB
  rw [← hn, ← hm]
  clear hn hm
  by_cases h1 : 200 < n
  · have E0 : Aside0 (bigS x = true) := ⟨by rw [EB.out]; simp [h1]⟩
    have hi : (200 : Int) < n := by omega
    go_enter Try.func126, Try.ntmps126
    go_wp2
    go_ret
    exact ⟨by rw [E0.out]; rfl, below_alloc (Below.refl _ _) _⟩
  · have hi : ¬ (200 : Int) < n := by omega
    by_cases h2 : 100 < m
    · have E0 : Aside0 (bigS x = true) := ⟨by rw [EB.out]; simp [h2]⟩
      have hi2 : (100 : Int) < m := by omega
      go_enter Try.func126, Try.ntmps126
      go_wp2
      go_ret
      exact ⟨by rw [E0.out]; rfl, below_alloc (Below.refl _ _) _⟩
    · have E0 : Aside0 (bigS x = false) := ⟨by rw [EB.out]; simp [h1, h2]⟩
      have hi2 : ¬ (100 : Int) < m := by omega
      go_enter Try.func126, Try.ntmps126
      go_wp2
      go_ret
      exact ⟨by rw [E0.out]; rfl, below_alloc (Below.refl _ _) _⟩
set_option maxRecDepth 100000 in
theorem idxStp_walk (A : Option Addr) (c : Nat) (l : List Stp) (p : Stp → Bool) (g : Nat) (lb : Array Value) (w : World) (hr : Kd.C kStp w A l.length l) (hl : l.length ≤ 9223372036854775807)
    (eg : ∀ args w, (callFunc g args).run Try.prog w = .ok (.enter g args) w) (hp : ∀ W x, x ∈ l → Below w.heap.size w W → Calls Try.prog g (#[.agg #[.int .i64 x.do_, .int .i64 x.at_, .slice x.b.A x.b.l.length x.b.c, .slice x.k.A x.k.l.length x.k.c]] ++ lb) W fun e w' => e = .returned (.bool (p x)) ∧ Below W.heap.size W w') :
    Calls Try.prog 148 #[.slice A l.length c, .func (.func g) #[] lb] w fun e w' => e = .returned (.int .i64 (idxP p l)) ∧ Below w.heap.size w w' := by
  have HR := Aside0.mk hr
  have HP := Aside0.mk hp
  have HB := Aside0.mk (Below.refl w.heap.size w)
  clear hr hp
  go_enter Try.func148, Try.ntmps148
  go_wp2
  go_loopw [5, 8] (fun v5 v8 w' => ∃ m : Nat, v8 = .int .i64 m ∧ Aside0 (m ≤ l.length) ∧ Aside0 (∀ j (hj : j < l.length), j < m → p l[j] = false) ∧ Aside0 (Below w.heap.size w w')) (fun _ i _ => l.length - (intOf i).toNat)
  case atStart => exact ⟨0, rfl, ⟨Nat.zero_le _⟩, ⟨fun j hj h => absurd h (by omega)⟩, HB⟩
  case round =>
    clear HB
    obtain ⟨m, rfl, hm, hall, HB⟩ := hrel
    have hm' := hm.out
    by_cases hlt : m < l.length
    · obtain ⟨ad, rfl, hx, hxs⟩ := at_stpA (Kd.C_below HR.out HB.out) hlt
      obtain ⟨x, hxx⟩ : ∃ x, x = l[m] := ⟨_, rfl⟩
      have hxm : x ∈ l := by rw [hxx]; exact List.getElem_mem hlt
      rw [← hxx] at hx hxs
      have x0 := hx _ rfl
      have x1 := hxs 0 _ rfl
      have x2 := hxs 1 _ rfl
      have x3 := hxs 2 _ rfl
      simp only [Nat.reduceAdd] at x1 x2 x3
      have HC := Aside0.mk (HP.out wr x hxm HB.out)
      have HXX := Aside0.mk hxx
      clear hx hxs hxx hxm
      cases hq : p x with
      | true =>
        have E0 : Aside0 (idxP p l = m) := ⟨idxP_hit hlt (by rw [← HXX.out]; exact hq) fun j hj => hall.out j (by omega) hj⟩
        rw [hq] at HC
        clear hq
        go_wp2_with (go_at_fn g; (with_reducible refine HC.out.mono ?_); rintro e w5 ⟨rfl, hb⟩; have n1_ : Aside0 (Below w.heap.size w w5) := ⟨below_step (by repeat (first | (with_reducible first | exact HB.out | apply below_alloc | apply pw_below_drewN | apply below_drew1) | exact HB.out)) hb⟩; clear HB; have HB := n1_; clear n1_; clear hb)
        go_ret
        exact ⟨by rw [E0.out]; rfl, (by repeat (first | (with_reducible first | exact HB.out | apply below_alloc | apply pw_below_drewN | apply below_drew1) | exact HB.out))⟩
      | false =>
        have HA : Aside0 (∀ j (hj : j < l.length), j < m + 1 → p l[j] = false) := ⟨fun j hj h => by
          by_cases hjm : j = m
          · subst hjm; rw [← HXX.out]; exact hq
          · exact hall.out j hj (by omega)⟩
        rw [hq] at HC
        clear hq
        go_wp2_with (go_at_fn g; (with_reducible refine HC.out.mono ?_); rintro e w5 ⟨rfl, hb⟩; have n1_ : Aside0 (Below w.heap.size w w5) := ⟨below_step (by repeat (first | (with_reducible first | exact HB.out | apply below_alloc | apply pw_below_drewN | apply below_drew1) | exact HB.out)) hb⟩; clear HB; have HB := n1_; clear n1_; clear hb)
        exact ⟨⟨m + 1, rfl, ⟨by omega⟩, HA, ⟨(by repeat (first | (with_reducible first | exact HB.out | apply below_alloc | apply pw_below_drewN | apply below_drew1) | exact HB.out))⟩⟩, by simp [intOf]; omega⟩
    · have E0 : Aside0 (idxP p l = -1) := ⟨idxP_miss fun j hj => hall.out j hj (by omega)⟩
      have hge : l.length ≤ m := by omega
      clear hlt
      go_wp2
      go_ret
      exact ⟨by rw [E0.out]; rfl, (by repeat (first | (with_reducible first | exact HB.out | apply below_alloc | apply pw_below_drewN | apply below_drew1) | exact HB.out))⟩
theorem idxP_any {α : Type} {p : α → Bool} {l : List α} : (l.any p = true → 0 ≤ idxP p l) ∧ (l.any p = false → idxP p l = -1) := by
  refine ⟨fun h => ?_, fun h => idxP_miss fun j hj => ?_⟩
  · obtain ⟨x, hx, hp⟩ := List.any_eq_true.1 h
    unfold idxP
    cases hf : l.findIdx? p with
    | some i => exact Int.natCast_nonneg i
    | none => rw [List.findIdx?_eq_none_iff] at hf; rw [hf x hx] at hp; cases hp
  · have := List.any_eq_false.1 h _ (List.getElem_mem hj)
    simpa using this
set_option maxRecDepth 100000 in
theorem conStp_walk (A : Option Addr) (c : Nat) (l : List Stp) (w : World) (hr : Kd.C kStp w A l.length l) (hl : l.length ≤ 9223372036854775807) :
    Calls Try.prog 125 #[.slice A l.length c, .func (.func 126) #[] #[]] w fun e w' => e = .returned (.bool (l.any bigS)) ∧ Below w.heap.size w w' := by
  have WI := Aside0.mk (idxStp_walk A c l bigS 126 #[] w hr hl (enters_of Try.func126 (by kernel_rfl) rfl : ∀ args w, (callFunc 126 args).run Try.prog w = .ok (.enter 126 args) w) (fun W x _ _ => bigS_walk x W))
  obtain ⟨n, hn⟩ : ∃ n, n = l.length := ⟨_, rfl⟩
  cases hb : l.any bigS with
  | true =>
    obtain ⟨i, hi⟩ : ∃ i, i = idxP bigS l := ⟨_, rfl⟩
    have h0 : 0 ≤ i := by rw [hi]; exact idxP_any.1 hb
    rw [← hi, ← hn] at WI
    rw [← hn]
    clear hb hr hl hi hn
    go_enter Try.func125, Try.ntmps125
    go_wp2_with (go_at_call 148; (with_reducible refine WI.out.mono ?_); rintro e w1 ⟨rfl, hb⟩; have HB := Aside0.mk hb; clear hb)
    go_ret
    exact ⟨by first | rfl | simp, HB.out⟩
  | false =>
    have hi : idxP bigS l = -1 := idxP_any.2 hb
    rw [hi, ← hn] at WI
    rw [← hn]
    clear hb hr hl hi hn
    go_enter Try.func125, Try.ntmps125
    go_wp2_with (go_at_call 148; (with_reducible refine WI.out.mono ?_); rintro e w1 ⟨rfl, hb⟩; have HB := Aside0.mk hb; clear hb)
    go_ret
    exact ⟨by first | rfl | simp, HB.out⟩
set_option maxRecDepth 100000 in
theorem few_walk (Ab : Option Addr) (n cb : Nat) (A : Option Addr) (c : Nat) (l : List Stp) (w : World) (hr : Kd.C kStp w A l.length l) (hl : l.length ≤ 9223372036854775807) :
    Calls Try.prog 81 #[.slice Ab n cb, .slice A l.length c] w fun e w' => e = .returned (.bool (fewS n l)) ∧ Below w.heap.size w w' := by
  have EF : Aside0 (fewS n l = (decide (n ≤ 2000) && (decide (l.length ≤ 60) && !l.any bigS))) := ⟨rfl⟩
  have WC := Aside0.mk (conStp_walk A c l w hr hl)
  obtain ⟨m, hm⟩ : ∃ n, n = l.length := ⟨_, rfl⟩
  rw [← hm] at WC EF
  rw [← hm]
  clear hr hl hm
  by_cases h1 : n ≤ 2000
  case neg =>
    have E0 : Aside0 (fewS n l = false) := ⟨by rw [EF.out]; simp [h1]⟩
    have hi : ¬ (n : Int) ≤ 2000 := by omega
    go_enter Try.func81, Try.ntmps81
    go_wp2
    go_ret
    exact ⟨by rw [E0.out]; rfl, Below.refl _ _⟩
  have hi : (n : Int) ≤ 2000 := by omega
  by_cases h2 : m ≤ 60
  case neg =>
    have E0 : Aside0 (fewS n l = false) := ⟨by rw [EF.out]; simp [h2]⟩
    have hi2 : ¬ (m : Int) ≤ 60 := by omega
    go_enter Try.func81, Try.ntmps81
    go_wp2
    go_ret
    exact ⟨by rw [E0.out]; rfl, Below.refl _ _⟩
  have hi2 : (m : Int) ≤ 60 := by omega
  have E0 : Aside0 (fewS n l = !l.any bigS) := ⟨by rw [EF.out]; simp [h1, h2]⟩
  obtain ⟨q, hq⟩ : ∃ q, q = l.any bigS := ⟨_, rfl⟩
  rw [← hq] at WC E0
  clear hq
  go_enter Try.func81, Try.ntmps81
  go_wp2_with (go_at_call 125; (with_reducible refine WC.out.mono ?_); rintro e w1 ⟨rfl, hb⟩; have HB := Aside0.mk hb; clear hb)
  go_ret
  exact ⟨by rw [E0.out]; rfl, HB.out⟩
end Go.Proofs.Ytdknolnoimpgeaa.K
