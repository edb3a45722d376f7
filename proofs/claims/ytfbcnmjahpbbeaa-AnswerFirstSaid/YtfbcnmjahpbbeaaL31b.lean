/- The law AnswerFirst of chapter 31, walked. -/
import Derived.Test.YtfbcnmjahpbbeaaL31
import Derived.Test.YtfbcnmjahpbbeaaK31g
namespace Go.Proofs.Ytfbcnmjahpbbeaa.K
open Go.RowKit Go.Proofs.YtfbcnmjahpbbeaaW.PrintWords Go.Proofs.YtfbcnmjahpbbeaaW.PrintLast Go.Proofs.YtfbcnmjahpbbeaaW.PrintMore
set_option linter.unusedVariables false
set_option linter.unusedSimpArgs false
theorem least_cl {ys : List Fnd} {f g : Fnd} (hf : f ∈ leastF ys) (hg : g ∈ leastF ys) : f.cl = g.cl := by
  have h1 := (least_mem hf).2 g (least_mem hg).1
  have h2 := (least_mem hg).2 f (least_mem hf).1
  omega
theorem split_sum (p : Fnd → Bool) : ∀ L : List Fnd, (L.filter p).length + (L.filter (fun f => !p f)).length = L.length
  | [] => rfl
  | a :: L => by
    have := split_sum p L
    cases h : p a <;> simp [List.filter_cons, h] <;> omega
set_option maxHeartbeats 8000000 in
set_option maxRecDepth 100000 in
theorem l31_First (mode : Int) (A : Option Addr) (c : Nat) (l : List Ans) (d : Bool) (A2 : Option Addr) (c2 : Nat) (L : List Fnd) (w : World) (hr : Kd.C kAns w A l.length l) (hl : l.length ≤ 9223372036854775807) (hr2 : Kd.C kFnd w A2 L.length L) (hL2 : L.length ≤ 9223372036854775807) :
    Calls Try.prog 14 #[.agg #[.int .i64 mode, .slice A l.length c, .bool d], .slice A2 L.length c2] w fun e w' => e = .returned (.bool true) ∧ Below w.heap.size w w' := by
  have HR := Aside0.mk hr
  have HR2 := Aside0.mk hr2
  have HB := Aside0.mk (Below.refl w.heap.size w)
  have WPS := Aside0.mk (fun W => plainScript_walk mode A c l.length d W)
  by_cases h40 : (l.length : Int) ≤ 40
  case neg =>
    rw [show decide ((l.length : Int) ≤ 40) = false by simpa using h40] at WPS
    clear hr hr2 h40
    go_enter Try.func14, Try.ntmps14
    go_wp2_with (first | (go_at_call 53; (with_reducible refine (WPS.out _).mono ?_); rintro e w1 ⟨rfl, hb⟩; have n1_ : Aside0 (Below w.heap.size w w1) := ⟨below_step (by repeat (first | (with_reducible first | exact HB.out | apply below_alloc | apply pw_below_drewN | apply below_drew1) | exact HB.out)) hb⟩; clear HB; have HB := n1_; clear n1_; clear hb) | (go_at_call 54; refine (l31_awake _).mono ?_; rintro e w9 ⟨rfl, hb⟩; have n1_ : Aside0 (Below w.heap.size w w9) := ⟨below_step (by repeat (first | (with_reducible first | exact HB.out | apply below_alloc | apply pw_below_drewN | apply below_drew1) | exact HB.out)) hb⟩; clear HB; have HB := n1_; clear n1_; clear hb))
    go_ret
    exact ⟨rfl, HB.out⟩
  rw [show decide ((l.length : Int) ≤ 40) = true by simpa using h40] at WPS
  by_cases h60 : L.length ≤ 60
  case neg =>
    have h60' : 60 < L.length := by omega
    clear hr hr2 h40 h60
    go_enter Try.func14, Try.ntmps14
    go_wp2_with (first | (go_at_call 53; (with_reducible refine (WPS.out _).mono ?_); rintro e w1 ⟨rfl, hb⟩; have n1_ : Aside0 (Below w.heap.size w w1) := ⟨below_step (by repeat (first | (with_reducible first | exact HB.out | apply below_alloc | apply pw_below_drewN | apply below_drew1) | exact HB.out)) hb⟩; clear HB; have HB := n1_; clear n1_; clear hb) | (go_at_call 54; refine (l31_awake _).mono ?_; rintro e w9 ⟨rfl, hb⟩; have n1_ : Aside0 (Below w.heap.size w w9) := ⟨below_step (by repeat (first | (with_reducible first | exact HB.out | apply below_alloc | apply pw_below_drewN | apply below_drew1) | exact HB.out)) hb⟩; clear HB; have HB := n1_; clear n1_; clear hb))
    go_ret
    exact ⟨rfl, HB.out⟩
  have hL : L.length ≤ 1000000 := by omega
  have WS := Aside0.mk (fun W h1 h2 => split_walk mode A c l d A2 c2 L W h1 hl h2 hL)
  have WF := Aside0.mk (fun W h1 h2 => first_walk mode A c l d A2 c2 L W h1 hl h2 hL)
  obtain ⟨P, hP⟩ : ∃ P, P = yesP mode l d := ⟨_, rfl⟩
  have hYes : ∀ f W, P f = true → Kd.C kAns W A l.length l → Calls Try.prog 57 #[.agg #[.int .i64 mode, .slice A l.length c, .bool d], .agg #[.int .i64 f.cl, .int .i64 f.la, .int .i64 f.ino, .int .i64 f.sl]] W fun e w' => e = .returned (.bool true) ∧ Below W.heap.size W w' := fun f W hf h => by
    have := yes_walk mode A c l d f W h hl
    rw [← hP, hf] at this
    exact this
  rw [← hP] at WS WF
  obtain ⟨ys, hys⟩ : ∃ ys, ys = L.filter P := ⟨_, rfl⟩
  obtain ⟨ns, hns⟩ : ∃ ns, ns = L.filter (fun f => !P f) := ⟨_, rfl⟩
  have hyl : ys.length ≤ 1000000 := by rw [hys]; exact Nat.le_trans (List.length_filter_le _ _) hL
  have hnl : ns.length ≤ 1000000 := by rw [hns]; exact Nat.le_trans (List.length_filter_le _ _) hL
  have hsum : (ys.length : Int) + (ns.length : Int) = (L.length : Int) := by have := split_sum P L; rw [← hys, ← hns] at this; omega
  rw [← hys] at WS WF
  rw [← hns] at WS
  obtain ⟨fl, hfl⟩ : ∃ fl, fl = leastF ys := ⟨_, rfl⟩
  have hfll : fl.length ≤ 1000000 := by rw [hfl]; exact Nat.le_trans (List.length_filter_le _ _) hyl
  rw [← hfl] at WF
  have hmem : ∀ f ∈ fl, f ∈ ys := fun f hf => by rw [hfl] at hf; exact (least_mem hf).1
  have WY : Aside0 (∀ f W, f ∈ fl → Kd.C kAns W A l.length l → Calls Try.prog 57 #[.agg #[.int .i64 mode, .slice A l.length c, .bool d], .agg #[.int .i64 f.cl, .int .i64 f.la, .int .i64 f.ino, .int .i64 f.sl]] W fun e w' => e = .returned (.bool true) ∧ Below W.heap.size W w') := ⟨fun f W hf => hYes f W (by have := hmem f hf; rw [hys, List.mem_filter] at this; exact this.2)⟩
  have WC : Aside0 (∀ f A c W, f ∈ fl → Kd.C kFnd W A ys.length ys → Calls Try.prog 62 #[.slice A ys.length c, .agg #[.int .i64 f.cl, .int .i64 f.la, .int .i64 f.ino, .int .i64 f.sl]] W fun e w' => e = .returned (.bool true) ∧ Below W.heap.size W w') := ⟨fun f A c W hf h => contains_walk A c ys f W h (by omega) (hmem f hf)⟩
  have CL : Aside0 (∀ f ∈ fl, ∀ g ∈ fl, f.cl = g.cl) := ⟨fun f hf g hg => by rw [hfl] at hf hg; exact least_cl hf hg⟩
  have WX : Aside0 (∀ A c Af cf B W, W.cell? ⟨B, 0, none⟩ = some (.slice Af fl.length cf) → Kd.C kFnd W Af fl.length fl → Kd.C kFnd W A ys.length ys → Calls Try.prog 63 #[.slice A ys.length c, .func (.func 64) #[] #[.pointer (some ⟨B, 0, none⟩)]] W fun e w' => e = .returned (.bool false) ∧ Below W.heap.size W w') := ⟨fun A c Af cf B W h0 h1 h2 => by
    rcases hfc : fl with _ | ⟨f0, r⟩
    · have hy0 : ys = [] := by rw [hfc] at hfl; exact least_nil.1 hfl.symm
      subst hy0
      exact containsF_walk A c [] (fun _ => false) _ _ W h2 (by simp) (by simp) (enters_of Try.func64 (by kernel_rfl) rfl) (fun W x hx => by cases hx)
    · rw [hfc] at h0 h1
      refine containsF_walk A c ys (fun x => decide (x.cl < f0.cl)) _ _ W h2 (by omega) (fun x hx => ?_) (enters_of Try.func64 (by kernel_rfl) rfl) (fun W' x hx hb => afirst1_walk x f0 r Af cf B W' (pw_cell_below hb h0) (Kd.C_below h1 hb))
      have hf0 : f0 ∈ leastF ys := by rw [← hfl, hfc]; simp
      have := (least_mem hf0).2 x hx
      simp; omega⟩
  obtain ⟨b0, hb0⟩ : ∃ b0, ((fl.length : Int) == 0) = b0 := ⟨_, rfl⟩
  have hb1 : ((ys.length : Int) == 0) = b0 := by
    rw [← hb0, hfl]
    rcases hyc : ys with _ | ⟨y0, r⟩
    · rfl
    · have h1 : leastF (y0 :: r) ≠ [] := fun h => by have := least_nil.1 h; cases this
      have h2 : 0 < (leastF (y0 :: r)).length := List.length_pos_iff.2 h1
      have e1 : (((y0 :: r).length : Int) == 0) = false := by simp; omega
      have e2 : (((leastF (y0 :: r)).length : Int) == 0) = false := by simp; omega
      rw [e1, e2]
  have WA := Aside0.mk (fun W => l31_awake W)
  clear hr hr2 h40 hys hns hfl hP hYes hmem
  go_enter Try.func14, Try.ntmps14
  go_wp2_with (first | (go_at_call 53; (with_reducible refine (WPS.out _).mono ?_); rintro e w1 ⟨rfl, hb⟩; have c0 := pw_cell_below hb (show (w.alloc (.cells #[.int .i64 mode, .slice A l.length c, .bool d] 66)).cell? ⟨w.heap.size, 0, none⟩ = some (.int .i64 mode) by go_simp); have c1 := pw_cell_below hb (show (w.alloc (.cells #[.int .i64 mode, .slice A l.length c, .bool d] 66)).cell? ⟨w.heap.size, 1, none⟩ = some (.slice A l.length c) by go_simp); have c2_ := pw_cell_below hb (show (w.alloc (.cells #[.int .i64 mode, .slice A l.length c, .bool d] 66)).cell? ⟨w.heap.size, 2, none⟩ = some (.bool d) by go_simp); have n1_ : Aside0 (Below w.heap.size w w1) := ⟨below_step (by repeat (first | (with_reducible first | exact HB.out | apply below_alloc | apply pw_below_drewN | apply below_drew1) | exact HB.out)) hb⟩; clear HB; have HB := n1_; clear n1_; clear hb) | (go_at_call 55; (with_reducible refine (WS.out _ (Kd.C_below HR.out (by repeat (first | (with_reducible first | exact HB.out | apply below_alloc | apply pw_below_drewN | apply below_drew1) | exact HB.out))) (Kd.C_below HR2.out (by repeat (first | (with_reducible first | exact HB.out | apply below_alloc | apply pw_below_drewN | apply below_drew1) | exact HB.out)))).mono ?_); rintro e w2 ⟨va, vb, rfl, hoa, hob, hb⟩; obtain ⟨Aa, ca, rfl⟩ := Kd.R_slice hoa; obtain ⟨Ab, cb, rfl⟩ := Kd.R_slice hob; have HA := Aside0.mk (Kd.R_reads' hoa).2.2; have d0 := pw_cell_below hb c0; have d1 := pw_cell_below hb c1; have d2 := pw_cell_below hb c2_; have n1_ : Aside0 (Below w.heap.size w w2) := ⟨below_step (by repeat (first | (with_reducible first | exact HB.out | apply below_alloc | apply pw_below_drewN | apply below_drew1) | exact HB.out)) hb⟩; clear HB; have HB := n1_; clear n1_; clear hb hoa hob c0 c1 c2_) | (go_at_call 60; (with_reducible refine (WF.out _ (Kd.C_below HR.out (by repeat (first | (with_reducible first | exact HB.out | apply below_alloc | apply pw_below_drewN | apply below_drew1) | exact HB.out))) (Kd.C_below HR2.out (by repeat (first | (with_reducible first | exact HB.out | apply below_alloc | apply pw_below_drewN | apply below_drew1) | exact HB.out)))).mono ?_); rintro e w3 ⟨Ae, ce, rfl, hce, hb⟩; have n_ := Aside0.mk (Kd.C_below HA.out hb); clear HA; have HA := n_; clear n_; have HF := Aside0.mk hce; have e0 := pw_cell_below hb d0; have e1 := pw_cell_below hb d1; have e2 := pw_cell_below hb d2; have n1_ : Aside0 (Below w.heap.size w w3) := ⟨below_step (by repeat (first | (with_reducible first | exact HB.out | apply below_alloc | apply pw_below_drewN | apply below_drew1) | exact HB.out)) hb⟩; clear HB; have HB := n1_; clear n1_; clear hb hce d0 d1 d2))
  obtain ⟨w7, hw7⟩ : ∃ w7, w7 = w3.alloc (.cells #[.slice Ae fl.length ce] 69) := ⟨_, rfl⟩
  refine go_on2 ?_
  rw [← hw7]
  have up : ∀ {a : Addr} {v : Value}, w3.cell? a = some v → w7.cell? a = some v := fun h => by rw [hw7]; exact pw_cell_below (below_alloc (Below.refl _ _) _) h
  have k0 := up e0
  have k1 := up e1
  have k2 := up e2
  have k7 : w7.cell? ⟨w3.heap.size, 0, none⟩ = some (.slice Ae fl.length ce) := by rw [hw7]; go_simp
  have HR7 : Aside0 (Kd.C kAns w7 A l.length l) := ⟨by rw [hw7]; exact Kd.C_alloc (Kd.C_below HR.out HB.out) _⟩
  have HA7 : Aside0 (Kd.C kFnd w7 Aa ys.length ys) := ⟨by rw [hw7]; exact Kd.C_alloc HA.out _⟩
  have HF7 : Aside0 (Kd.C kFnd w7 Ae fl.length fl) := ⟨by rw [hw7]; exact Kd.C_alloc HF.out _⟩
  have HB0 : Aside0 (Below w.heap.size w w7) := ⟨by rw [hw7]; exact below_alloc HB.out _⟩
  have HB7 := Aside0.mk (Below.refl w7.heap.size w7)
  have hlt7 : w3.heap.size < w7.heap.size := World.block_lt_of_cell? _ _ k7
  have hlt0 : w.heap.size < w7.heap.size := World.block_lt_of_cell? _ _ k0
  clear hw7 up e0 e1 e2 HR HR2 HA HF HB
  go_loopw [47] (fun v47 w' => ∃ m : Nat, v47 = .int .i64 m ∧ Aside0 (m ≤ fl.length) ∧ Aside0 (Below w7.heap.size w7 w')) (fun i _ => fl.length - (intOf i).toNat)
  case atStart => exact ⟨0, rfl, ⟨Nat.zero_le _⟩, HB7⟩
  case round =>
    clear HB7
    obtain ⟨m, rfl, hm, HB7⟩ := hrel
    have hm' := hm.out
    by_cases hlt : m < fl.length
    · obtain ⟨ad, had, hx, hxs⟩ := Kd.at_flatA (Kd.C_below HF7.out HB7.out) hlt
      obtain ⟨ad0, had0, hy, _⟩ := Kd.at_flatA (Kd.C_below HF7.out HB7.out) (show 0 < fl.length by omega)
      rw [had] at had0 k7
      cases had0
      subst had
      have y0 : wr.cell? ad = some (.int .i64 fl[0].cl) := by have := hy _ rfl; rw [Nat.zero_mul] at this; exact this
      obtain ⟨x, hxx⟩ : ∃ x, x = fl[m] := ⟨_, rfl⟩
      have hxf : x ∈ fl := by rw [hxx]; exact List.getElem_mem hlt
      rw [CL.out fl[0] (List.getElem_mem _) x hxf] at y0
      rw [← hxx] at hx hxs
      have x0 := hx _ rfl
      have x1 := hxs 0 _ rfl
      have x2 := hxs 1 _ rfl
      have x3 := hxs 2 _ rfl
      simp only [Nat.reduceAdd] at x1 x2 x3
      have g0 := pw_cell_below HB7.out k0
      have g1 := pw_cell_below HB7.out k1
      have g2 := pw_cell_below HB7.out k2
      have g7 := pw_cell_below HB7.out k7
      have hpos : 0 < fl.length := by omega
      clear hx hxs hxx hy
      go_wp2
      obtain ⟨w5, hw5⟩ : ∃ w5, w5 = wr.alloc (.cells #[.int .i64 x.cl, .int .i64 x.la, .int .i64 x.ino, .int .i64 x.sl] 68) := ⟨_, rfl⟩
      refine go_on2 ?_
      rw [← hw5]
      have up : ∀ {a : Addr} {v : Value}, wr.cell? a = some v → w5.cell? a = some v := fun h => by rw [hw5]; exact pw_cell_below (below_alloc (Below.refl _ _) _) h
      have j0 := up g0
      have j1 := up g1
      have j2 := up g2
      have j7 := up g7
      have ja := up y0
      have i0 : w5.cell? ⟨wr.heap.size, 0, none⟩ = some (.int .i64 x.cl) := by rw [hw5]; go_simp
      have i1 : w5.cell? ⟨wr.heap.size, 1, none⟩ = some (.int .i64 x.la) := by rw [hw5]; go_simp
      have i2 : w5.cell? ⟨wr.heap.size, 2, none⟩ = some (.int .i64 x.ino) := by rw [hw5]; go_simp
      have i3 : w5.cell? ⟨wr.heap.size, 3, none⟩ = some (.int .i64 x.sl) := by rw [hw5]; go_simp
      have c1 : Kd.C kAns w5 A l.length l := by rw [hw5]; exact Kd.C_alloc (Kd.C_below HR7.out HB7.out) _
      have c2 : Kd.C kFnd w5 Aa ys.length ys := by rw [hw5]; exact Kd.C_alloc (Kd.C_below HA7.out HB7.out) _
      have c3 : Below w7.heap.size w7 w5 := by rw [hw5]; exact below_alloc HB7.out _
      clear hw5 up g0 g1 g2 g7 y0 x0 x1 x2 x3
      go_region_held3 (fun W => W.cell? ⟨w.heap.size, 0, none⟩ = some (.int .i64 mode) ∧ W.cell? ⟨w.heap.size, 1, none⟩ = some (.slice A l.length c) ∧ W.cell? ⟨w.heap.size, 2, none⟩ = some (.bool d) ∧ W.cell? ⟨w3.heap.size, 0, none⟩ = some (.slice (some ad) fl.length ce) ∧ W.cell? ⟨wr.heap.size, 0, none⟩ = some (.int .i64 x.cl) ∧ W.cell? ⟨wr.heap.size, 1, none⟩ = some (.int .i64 x.la) ∧ W.cell? ⟨wr.heap.size, 2, none⟩ = some (.int .i64 x.ino) ∧ W.cell? ⟨wr.heap.size, 3, none⟩ = some (.int .i64 x.sl) ∧ W.cell? ad = some (.int .i64 x.cl) ∧ Kd.C kAns W A l.length l ∧ Kd.C kFnd W Aa ys.length ys ∧ Below w7.heap.size w7 W) (first | (go_split_ands; refine ⟨pw_cell_below hb5 (by assumption), pw_cell_below hb5 (by assumption), pw_cell_below hb5 (by assumption), pw_cell_below hb5 (by assumption), pw_cell_below hb5 (by assumption), pw_cell_below hb5 (by assumption), pw_cell_below hb5 (by assumption), pw_cell_below hb5 (by assumption), pw_cell_below hb5 (by assumption), Kd.C_below (by assumption) hb5, Kd.C_below (by assumption) hb5, below_step (by assumption) hb5⟩) | (go_split_ands; refine ⟨(by assumption), (by assumption), (by assumption), (by assumption), (by assumption), (by assumption), (by assumption), (by assumption), (by assumption), Kd.C_drewN (by assumption) _, Kd.C_drewN (by assumption) _, pw_below_drewN (by assumption) _⟩) | (go_split_ands; refine ⟨pw_cell_below (below_alloc (Below.refl _ _) _) (by assumption), pw_cell_below (below_alloc (Below.refl _ _) _) (by assumption), pw_cell_below (below_alloc (Below.refl _ _) _) (by assumption), pw_cell_below (below_alloc (Below.refl _ _) _) (by assumption), pw_cell_below (below_alloc (Below.refl _ _) _) (by assumption), pw_cell_below (below_alloc (Below.refl _ _) _) (by assumption), pw_cell_below (below_alloc (Below.refl _ _) _) (by assumption), pw_cell_below (below_alloc (Below.refl _ _) _) (by assumption), pw_cell_below (below_alloc (Below.refl _ _) _) (by assumption), Kd.C_alloc (by assumption) _, Kd.C_alloc (by assumption) _, below_alloc (by assumption) _⟩)) (first | (go_at_call 57; go_split_ands; (with_reducible refine (WY.out x _ hxf (by assumption)).mono ?_); rintro e w6 ⟨rfl, hb5⟩) | (go_at_call 62; go_split_ands; (with_reducible refine (WC.out x _ _ _ hxf (by assumption)).mono ?_); rintro e w6 ⟨rfl, hb5⟩) | fail)
      all_goals go_split_ands
      all_goals refine go_on2 ?_
      all_goals go_wp2
      all_goals exact ⟨⟨m + 1, rfl, ⟨by omega⟩, ⟨by assumption⟩⟩, by simp [intOf]; omega⟩
    · have hge : fl.length ≤ m := by omega
      have g7 := pw_cell_below HB7.out k7
      have c2 := Kd.C_below HA7.out HB7.out
      have c3 := Kd.C_below HF7.out HB7.out
      have hb7 := HB7.out
      clear hlt
      go_wp2_with (first | (go_at_call 63; go_loud ((with_reducible refine (WX.out _ _ _ _ _ _ (by assumption) (by assumption) (by assumption)).mono ?_); rintro e w8 ⟨rfl, hb8⟩)) | (go_at_call 54; refine (WA.out _).mono ?_; rintro e w9 ⟨rfl, hb9⟩))
      go_ret
      exact ⟨by first | rfl | simp, below_step (below_step (below_step HB0.out hb7) hb8) hb9⟩
end Go.Proofs.Ytfbcnmjahpbbeaa.K
