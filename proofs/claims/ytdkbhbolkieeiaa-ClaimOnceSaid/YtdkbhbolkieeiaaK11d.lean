/- claim.Owner, Valid, Used. -/
import Derived.Test.YtdkbhbolkieeiaaK11c
namespace Go.Proofs.Ytdkbhbolkieeiaa.K
open Go.RowKit Go.Shelf Go.Maps Go.Proofs.YtdkbhbolkieeiaaW.PrintWords Go.Proofs.YtdkbhbolkieeiaaW.PrintLast Go.Proofs.YtdkbhbolkieeiaaW.PrintMore
set_option linter.unusedVariables false
set_option linter.unusedSimpArgs false
/-- What is told of a block's owner. -/
def ownV : Option (Nat × Nat) → Int × Int × Bool
  | none => (0, 0, false)
  | some s => ((s.1 : Int) + 1, (s.2 : Int), true)
set_option maxHeartbeats 2000000 in
set_option maxRecDepth 100000 in
theorem owner_walk (A : Option Addr) (c : Nat) (l : List InoC) (blocks b : Int) (w : World) (hr : Kd.C kInoC w A l.length l) (hl : l.length ≤ 1000000) (hok : ∀ x ∈ l, InoC.ok x) (hb : blocks ≤ 9223372036854775807) (hwf : (Lit.int .i64 b).wf = true) :
    Calls Try.prog 12 #[.slice A l.length c, .int .i64 blocks, .int .i64 b] w fun e w' => e = .returned (.tuple #[.int .i64 (ownV (ownN (ptL l) l.length blocks b)).1, .int .i64 (ownV (ownN (ptL l) l.length blocks b)).2.1, .bool (ownV (ownN (ptL l) l.length blocks b)).2.2]) ∧ Below w.heap.size w w' := by
  have WO := Aside0.mk (owners_walk A c l blocks w hr hl hok hb)
  obtain ⟨f, hf⟩ : ∃ f, f = ownN (ptL l) l.length blocks := ⟨_, rfl⟩
  rw [← hf] at WO
  rw [← hf]
  obtain ⟨n, hn⟩ : ∃ n, n = l.length := ⟨_, rfl⟩
  rw [← hn] at WO
  rw [← hn]
  clear hr hl hok hb hf hn
  cases hfb : f b with
  | none =>
    go_enter Try.func12, Try.ntmps12
    go_wp2_with (first | (go_at_call 51; (with_reducible refine WO.out.mono ?_); rintro e w1 ⟨g, m, rfl, hg, hm, HM, hB⟩) | (at_lookup; go_loud (refine wpList_mlook_no w1 rfl (.tmp 14) (.tmp 15) 74 rfl Try.underlying74 g m f b rfl HM rfl hwf hfb ?_)))
    go_quiet (fail)
    go_wp2
    go_ret3
    exact ⟨by rfl, pw_below_drewN (below_alloc hB _) _⟩
  | some s =>
    go_enter Try.func12, Try.ntmps12
    go_wp2_with (first | (go_at_call 51; (with_reducible refine WO.out.mono ?_); rintro e w1 ⟨g, m, rfl, hg, hm, HM, hB⟩) | (at_lookup; go_loud (refine wpList_mlook_yes w1 rfl (.tmp 14) (.tmp 15) 74 rfl Try.underlying74 g m f b rfl HM rfl hwf s hfb ?_)))
    go_quiet (fail)
    go_wp2
    go_ret3
    exact ⟨by rfl, pw_below_drewN (below_alloc hB _) _⟩
theorem meas_lt {a b c d : Nat} (h1 : a = c) (h2 : b = d) (h : c < d) : a < b := by omega
theorem eqSlot (w : World) (x0 x1 y0 y1 : Int) : (Op.equalIn 10000 72 (.agg #[.int .i64 x0, .int .i64 x1]) (.agg #[.int .i64 y0, .int .i64 y1])).run Try.prog w = .ok (x0 == y0 && x1 == y1) w := by
  refine eqA_of Try.underlying72 (by kernel_rfl) ?_
  refine eqf_cons (by rfl) (by go_simp; rfl) (by go_simp; rfl) (by go_simp) ?_
  exact eqf_last (by rfl) (by go_simp; rfl) (by go_simp; rfl) (by go_simp)
/-- Whether a pointer counts, asked with whole numbers. -/
def validB (pt : Nat → Nat → Int) (n : Nat) (blocks ino k : Int) : Bool := decide (1 ≤ ino ∧ 0 ≤ k ∧ validN pt n blocks ((ino - 1).toNat, k.toNat))
theorem validB_iff {pt : Nat → Nat → Int} {n : Nat} {blocks ino k : Int} : validB pt n blocks ino k = true ↔ ∃ i s, ownN pt n blocks i = some s ∧ (s.1 : Int) + 1 = ino ∧ (s.2 : Int) = k := by
  unfold validB
  rw [decide_eq_true_eq]
  constructor
  · rintro ⟨h1, h2, h3⟩
    exact ⟨_, _, ownN_of_valid h3, by simp; omega, by simp; omega⟩
  · rintro ⟨i, s, h, rfl, rfl⟩
    refine ⟨by omega, by omega, ?_⟩
    have e : (((s.1 : Int) + 1 - 1).toNat, (s.2 : Int).toNat) = s := by
      obtain ⟨a, b⟩ := s
      simp
    rw [e]
    exact (ownN_some.1 h).1
set_option maxHeartbeats 2000000 in
set_option maxRecDepth 100000 in
theorem valid_walk (A : Option Addr) (c : Nat) (l : List InoC) (blocks ino k : Int) (w : World) (hr : Kd.C kInoC w A l.length l) (hl : l.length ≤ 1000000) (hok : ∀ x ∈ l, InoC.ok x) (hb : blocks ≤ 9223372036854775807) :
    Calls Try.prog 14 #[.slice A l.length c, .int .i64 blocks, .int .i64 ino, .int .i64 k] w fun e w' => e = .returned (.bool (validB (ptL l) l.length blocks ino k)) ∧ Below w.heap.size w w' := by
  have WO := Aside0.mk (owners_walk A c l blocks w hr hl hok hb)
  obtain ⟨f, hf⟩ : ∃ f, f = ownN (ptL l) l.length blocks := ⟨_, rfl⟩
  obtain ⟨v, hv⟩ : ∃ v, v = validB (ptL l) l.length blocks ino k := ⟨_, rfl⟩
  have HVI : Aside0 (v = true ↔ ∃ i s, f i = some s ∧ (s.1 : Int) + 1 = ino ∧ (s.2 : Int) = k) := ⟨by rw [hv, hf]; exact validB_iff⟩
  rw [← hf] at WO
  rw [← hv]
  obtain ⟨n, hn⟩ : ∃ n, n = l.length := ⟨_, rfl⟩
  rw [← hn] at WO
  rw [← hn]
  clear hr hl hok hb hf hn hv
  go_enter Try.func14, Try.ntmps14
  go_wp2_with (first | (go_at_call 51; (with_reducible refine WO.out.mono ?_); rintro e w1 ⟨g, m, rfl, hg, hm, HM, hB⟩) | (at_range; go_loud (refine wpList_mrange w1 rfl (.tmp 13) 74 rfl Try.underlying74 g m f rfl HM ?_; intro w2 cnt hrg hb2 hs2)))
  go_frame
  obtain ⟨r, hr⟩ : ∃ r, r = w1.heap.size := ⟨_, rfl⟩
  have HB2 := Aside0.mk (below_step hB hb2)
  have HRG := Aside0.mk hrg
  have HRL : Aside0 (w.heap.size ≤ r) := ⟨by rw [hr]; exact hB.size⟩
  rw [← hr] at HRG ⊢
  clear HM hB hb2 hs2 hrg hr hg hm WO
  go_loopw [15] (fun v15 wr => ∃ L cnt, Aside0 (MapRg wr g r m f L cnt) ∧ Aside0 (∀ i s, f i = some s → L i = false → ¬ ((s.1 : Int) + 1 = ino ∧ (s.2 : Int) = k)) ∧ Aside0 (Below w.heap.size w wr)) (fun v15 wr => wr.rangeLeft g r)
  case atStart => exact ⟨_, _, HRG, ⟨fun i s h h2 => by simp [h] at h2⟩, HB2⟩
  case round =>
    clear HB2 HRG
    obtain ⟨L, cnt, HRG, HALL, HB⟩ := hrel
    go_wp2_with (at_next; go_loud (refine wpList_mnext wr rfl (.tmp 14) rfl g r m f L cnt rfl HRG.out ?_ ?_))
    · intro hc0 hl0
      have E0 : Aside0 (v = false) := ⟨by
        cases hv : v with
        | false => rfl
        | true =>
          obtain ⟨i, s, h1, h2⟩ := HVI.out.1 hv
          exact absurd h2 (HALL.out i s h1 (hl0 i))⟩
      clear hc0 hl0
      go_wp2
      go_ret
      exact ⟨by rw [E0.out]; rfl, HB.out⟩
    · intro i a b w3 cnt1 hwf hL hfs hrg1 hlt hg1 hs1 hen
      have HB1 : Aside0 (Below w.heap.size w w3) := ⟨HB.out.grown hg1 HB.out.size (fun q e => by cases e; exact HRL.out)⟩
      have HRG1 := Aside0.mk hrg1
      have HFS := Aside0.mk hfs
      have HLT := Aside0.mk hlt
      have HMS : Aside0 (w3.rangeLeft g r < wr.rangeLeft g r) := ⟨by rw [hrg1.left_eq, HRG.out.left_eq]; exact hlt⟩
      clear hwf hL hfs hrg1 hlt hg1 hs1
      by_cases he : ((a : Int) + 1 = ino ∧ (b : Int) = k)
      · have E0 : Aside0 (v = true) := ⟨HVI.out.2 ⟨i, (a, b), HFS.out, he⟩⟩
        obtain ⟨rfl, rfl⟩ := he
        have q := fun W => eqSlot W ((a : Int) + 1) (b : Int) ((a : Int) + 1) (b : Int)
        simp only [BEq.rfl, Bool.and_self] at q
        go_wp2
        go_ret
        exact ⟨by rw [E0.out]; rfl, below_alloc HB1.out _⟩
      · have q := fun W => eqSlot W ((a : Int) + 1) (b : Int) ino k
        rw [show (((a : Int) + 1 == ino && (b : Int) == k) = false) by cases h : ((a : Int) + 1 == ino && (b : Int) == k) with | false => rfl | true => rw [Bool.and_eq_true, beq_iff_eq, beq_iff_eq] at h; exact absurd h he] at q
        have HALL1 : Aside0 (∀ j s, f j = some s → (L j && !decide (j = i)) = false → ¬ ((s.1 : Int) + 1 = ino ∧ (s.2 : Int) = k)) := ⟨fun j s h1 h2 => by
          by_cases e : j = i
          · subst e
            rw [HFS.out] at h1
            cases h1
            exact he
          · exact HALL.out j s h1 (by simpa [e] using h2)⟩
        clear he
        go_wp2
        go_roundw
        case rel => exact ⟨_, _, ⟨HRG1.out.kept (World.grownBy_alloc w3 _ none) (by simp) (by simp)⟩, HALL1, ⟨below_alloc HB1.out _⟩⟩
        case measure =>
          have hm2 := (HRG1.out.kept (World.grownBy_alloc w3 (.cells #[.int .i64 ((a : Int) + 1), .int .i64 (b : Int)] 72) none) (by simp) (by simp)).left_eq
          have hm1 := HRG.out.left_eq
          have hlt := HLT.out
          exact meas_lt hm2 hm1 hlt
end Go.Proofs.Ytdkbhbolkieeiaa.K
