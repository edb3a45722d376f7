/- Walks and plain laws of this claim, merged: KS05b, R05m, L05c, L05d. -/
import Derived.Test.YtdknolnoimpgeaaGB
namespace Go.Proofs.Ytdknolnoimpgeaa.K
set_option linter.unusedVariables false
set_option linter.unusedSimpArgs false
def laysS (safe : List Sec) (wait : List Pen) : List Sec := wait.foldl (fun S p => S.set p.at_.toNat p.b) safe
def laysR (safe : List Sl) (wait : List RP) : List Sl := wait.foldl (fun S q => S.set q.at_.toNat q.s) safe
theorem layR_eq (r : RefS) : ∀ m, layR r m = laysR r.safe (r.wait.take m)
  | 0 => by simp [layR, laysR]
  | m + 1 => by
    unfold layR
    split
    · rename_i q hq
      obtain ⟨hm, rfl⟩ := List.getElem?_eq_some_iff.1 hq
      rw [layR_eq r m, List.take_succ_eq_append_getElem hm]
      unfold laysR
      rw [List.foldl_append]
      rfl
    · rename_i hq
      have hm := List.getElem?_eq_none_iff.1 hq
      rw [layR_eq r m, List.take_of_length_le hm, List.take_of_length_le (by omega)]
structure RelD (s : DiskS) (r : RefS) : Prop where
  safe : r.safe.map (·.l) = s.safe.map (·.1)
  wait : r.wait.map (fun q => (q.at_, q.s.l)) = s.wait.map (fun p => (p.at_, p.b.1))
  left : r.left = s.left
  off : r.off = s.off
  wr : r.wr = s.wr
  fl : r.fl = s.fl
  now : s.now = laysS s.safe s.wait
theorem RelD.slen {s : DiskS} {r : RefS} (h : RelD s r) : r.safe.length = s.safe.length := by have := congrArg List.length h.safe; simpa using this
theorem RelD.wlen {s : DiskS} {r : RefS} (h : RelD s r) : r.wait.length = s.wait.length := by have := congrArg List.length h.wait; simpa using this
theorem lays_map {wr : List RP} {ws : List Pen} (hw : wr.map (fun q => (q.at_, q.s.l)) = ws.map (fun p => (p.at_, p.b.1))) : ∀ {sr : List Sl} {ss : List Sec}, sr.map (·.l) = ss.map (·.1) → (laysR sr wr).map (·.l) = (laysS ss ws).map (·.1) := by
  induction wr generalizing ws with
  | nil =>
    intro sr ss h
    cases ws with
    | nil => exact h
    | cons p ws => simp at hw
  | cons q wr ih =>
    intro sr ss h
    cases ws with
    | nil => simp at hw
    | cons p ws =>
      simp only [List.map_cons, List.cons.injEq, Prod.mk.injEq] at hw
      obtain ⟨⟨e1, e2⟩, hw⟩ := hw
      refine ih hw ?_
      rw [List.map_set, List.map_set, h, e1, e2]
theorem safes_map {s : DiskS} {r : RefS} (h : RelD s r) (kept : List Bool) : ∀ m, (safeR r kept m).map (·.l) = (safeN s kept m).map (·.1)
  | 0 => h.safe
  | m + 1 => by
    have ih := safes_map h kept m
    have hm : (r.wait.map (fun q => (q.at_, q.s.l)))[m]? = (s.wait.map (fun p => (p.at_, p.b.1)))[m]? := by rw [h.wait]
    rw [List.getElem?_map, List.getElem?_map] at hm
    unfold safeR safeN
    cases hr : r.wait[m]? with
    | none =>
      rw [hr] at hm
      cases hs : s.wait[m]? with
      | none => exact ih
      | some p => rw [hs] at hm; simp at hm
    | some q =>
      rw [hr] at hm
      cases hs : s.wait[m]? with
      | none => rw [hs] at hm; simp at hm
      | some p =>
        rw [hs] at hm
        simp only [Option.map_some, Option.some.injEq, Prod.mk.injEq] at hm
        obtain ⟨e1, e2⟩ := hm
        cases kept.getD m false with
        | false => simpa using ih
        | true =>
          simp only [if_true]
          rw [List.map_set, List.map_set, ih, e1, e2]
theorem layR_get {r : RefS} (hat : ∀ q ∈ r.wait, 0 ≤ q.at_) {i : Nat} (hi : i < r.safe.length) : ∀ m, (layR r m)[i]? = some (lastR r i m)
  | 0 => by simp [layR, lastR, hi]
  | m + 1 => by
    have ih := layR_get hat hi m
    unfold layR lastR
    cases hq : r.wait[m]? with
    | none => exact ih
    | some q =>
      have h0 := hat q (List.mem_of_getElem? hq)
      simp only
      by_cases he : q.at_ = i
      · rw [if_pos he, List.getElem?_set, if_pos (by omega), if_pos (by rw [layR_length]; omega)]
      · rw [if_neg he, List.getElem?_set, if_neg (by omega), ih]
theorem RelD.get {s : DiskS} {r : RefS} (h : RelD s r) (hat : ∀ q ∈ r.wait, 0 ≤ q.at_) {i : Nat} (hi : i < r.safe.length) : (s.now.getD i (toSec [])).1 = (lastR r i r.wait.length).l := by
  have h1 := layR_get hat hi r.wait.length
  have h2 : (layR r r.wait.length).map (·.l) = s.now.map (·.1) := by rw [layR_eq, List.take_length, h.now]; exact lays_map h.wait h.safe
  have h3 : ((layR r r.wait.length).map (·.l))[i]? = (s.now.map (·.1))[i]? := by rw [h2]
  rw [List.getElem?_map, List.getElem?_map, h1] at h3
  cases hn : s.now[i]? with
  | none => rw [hn] at h3; simp at h3
  | some x => rw [hn] at h3; simp at h3; rw [List.getD_eq_getElem?_getD, hn]; exact h3.symm
theorem RelD.arm {s : DiskS} {r : RefS} (h : RelD s r) (n : Int) : RelD (armS s n) { r with left := max n (-1) } := ⟨h.safe, h.wait, rfl, h.off, h.wr, h.fl, h.now⟩
theorem RelD.crash {s : DiskS} {r : RefS} (h : RelD s r) (kept : List Bool) : RelD (crashS s kept) (crashR r kept) := ⟨by
  show (safeR r kept r.wait.length).map (·.l) = (safeN s kept s.wait.length).map (·.1)
  rw [h.wlen]; exact safes_map h kept _, rfl, rfl, rfl, h.wr, h.fl, rfl⟩
theorem RelD.burnNo {s : DiskS} {r : RefS} (h : RelD s r) (hb : burnE s ≠ 0) : RelD (burnS s) { r with off := true } := by
  unfold burnE at hb
  split at hb
  · rename_i hc
    unfold burnS
    split
    · exact ⟨h.safe, h.wait, h.left, rfl, h.wr, h.fl, h.now⟩
    · rename_i hl
      have ho : s.off = true := by rcases hc with hc | hc; exact absurd hc hl; exact hc
      rw [if_pos ho]
      exact ⟨h.safe, h.wait, h.left, ho.symm, h.wr, h.fl, h.now⟩
  · exact absurd rfl hb
theorem burnE_ok {s : DiskS} (hb : burnE s = 0) : s.left ≠ 0 ∧ s.off = false := by
  unfold burnE at hb
  split at hb
  · cases hb
  · rename_i hc
    refine ⟨fun e => hc (.inl e), ?_⟩
    cases ho : s.off with
    | false => rfl
    | true => exact absurd (.inr ho) hc
theorem burnE_no {s : DiskS} (hb : burnE s ≠ 0) : (s.off = true ∨ s.left = 0) ∧ burnE s = 4 := by
  unfold burnE at hb ⊢
  split at hb
  · rename_i hc
    exact ⟨hc.symm, by rw [if_pos hc]⟩
  · exact absurd rfl hb
theorem burnS_left {s : DiskS} (h0 : -1 ≤ s.left) (hb : burnE s = 0) : (burnS s).left = left2 s.left ∧ (burnS s).off = false := by
  obtain ⟨h1, h2⟩ := burnE_ok hb
  unfold burnS left2
  rw [if_neg h1, if_neg (by simp [h2])]
  refine ⟨?_, h2⟩
  show max (s.left - 1) (-1) = _
  split <;> omega
theorem RelD.write {s : DiskS} {r : RefS} (h : RelD s r) {k : Nat} (hw : DiskWf s k) {i : Int} {b : List Int} (ha : atE s i = 0) (hl : b.length = 64) (hb : burnE s = 0) (A : Option Addr) (c : Nat) :
    RelD (writeS s i b) { r with wait := r.wait ++ [⟨i, ⟨A, c, b⟩⟩], left := left2 r.left, wr := r.wr + 1 } := by
  obtain ⟨e1, e2⟩ := burnS_left hw.l0 hb
  unfold writeS
  rw [if_neg (by simpa using ha), if_neg (by simpa using hl), if_neg (by simpa using hb)]
  refine ⟨?_, ?_, ?_, ?_, ?_, ?_, ?_⟩
  · show r.safe.map _ = (burnS s).safe.map _; rw [burnS_safe]; exact h.safe
  · show (r.wait ++ [_]).map _ = (s.wait ++ [_]).map _
    rw [List.map_append, List.map_append, h.wait]
    simp [toSec_self hl]
  · show left2 r.left = (burnS s).left; rw [e1, h.left]
  · show r.off = (burnS s).off; rw [e2, h.off]; exact (burnE_ok hb).2
  · show r.wr + 1 = s.wr + 1; rw [h.wr]
  · show r.fl = (burnS s).fl; rw [burnS_fl]; exact h.fl
  · show s.now.set i.toNat (toSec b) = laysS (burnS s).safe (s.wait ++ [⟨i, toSec b⟩])
    rw [burnS_safe, h.now]
    simp [laysS]
theorem RelD.flush {s : DiskS} {r : RefS} (h : RelD s r) {k : Nat} (hw : DiskWf s k) (hb : burnE s = 0) : RelD (flushS s) (flushR r) := by
  obtain ⟨e1, e2⟩ := burnS_left hw.l0 hb
  unfold flushS
  rw [if_neg (by simpa using hb)]
  refine ⟨?_, rfl, ?_, ?_, ?_, ?_, ?_⟩
  · show (layR r r.wait.length).map _ = s.now.map _
    rw [layR_eq, List.take_length, h.now]
    exact lays_map h.wait h.safe
  · show left2 r.left = (burnS s).left; rw [e1, h.left]
  · show r.off = (burnS s).off; rw [e2, h.off]; exact (burnE_ok hb).2
  · show r.wr = (burnS s).wr; rw [burnS_wr]; exact h.wr
  · show r.fl + 1 = s.fl + 1; rw [h.fl]
  · show (burnS s).now = laysS s.now []
    rw [burnS_now]; rfl
end Go.Proofs.Ytdknolnoimpgeaa.K
namespace Go.Proofs.Ytdknolnoimpgeaa.K
open Go.RowKit Go.Proofs.YtdknolnoimpgeaaW.PrintWords Go.Proofs.YtdknolnoimpgeaaW.PrintLast Go.Proofs.YtdknolnoimpgeaaW.PrintMore
set_option linter.unusedVariables false
set_option linter.unusedSimpArgs false
theorem RefWf.of {s : DiskS} {r : RefS} (h : RelD s r) {k : Nat} (hw : DiskWf s k) (h64 : ∀ x ∈ r.safe, x.l.length = 64) (hw64 : ∀ q ∈ r.wait, q.s.l.length = 64) : RefWf r k := by
  refine ⟨h.left ▸ hw.l0, h.left ▸ hw.l1, h.wr ▸ hw.w0, h.wr ▸ hw.w1, h.fl ▸ hw.f0, h.fl ▸ hw.f1, by rw [h.wlen]; exact hw.wl, fun q hq => ?_, h64, hw64⟩
  have hm : (q.at_, q.s.l) ∈ r.wait.map (fun q => (q.at_, q.s.l)) := List.mem_map.2 ⟨q, hq, rfl⟩
  rw [h.wait] at hm
  obtain ⟨p, hp, e⟩ := List.mem_map.1 hm
  simp only [Prod.mk.injEq] at e
  rw [← e.1, h.slen]
  exact hw.at_ p hp
theorem RelD.s64 {s : DiskS} {r : RefS} (h : RelD s r) : ∀ x ∈ r.safe, x.l.length = 64 := fun x hx => by
  have hm : x.l ∈ r.safe.map (·.l) := List.mem_map.2 ⟨x, hx, rfl⟩
  rw [h.safe] at hm
  obtain ⟨p, hp, e⟩ := List.mem_map.1 hm
  rw [← e]; exact p.2
theorem RelD.w64 {s : DiskS} {r : RefS} (h : RelD s r) : ∀ q ∈ r.wait, q.s.l.length = 64 := fun q hq => by
  have hm : (q.at_, q.s.l) ∈ r.wait.map (fun q => (q.at_, q.s.l)) := List.mem_map.2 ⟨q, hq, rfl⟩
  rw [h.wait] at hm
  obtain ⟨p, hp, e⟩ := List.mem_map.1 hm
  simp only [Prod.mk.injEq] at e
  rw [← e.2]; exact p.b.2
theorem RelD.wf {s : DiskS} {r : RefS} (h : RelD s r) {k : Nat} (hw : DiskWf s k) : RefWf r k := RefWf.of h hw h.s64 h.w64
theorem atE_iff (s : DiskS) (i : Int) : (atE s i = 0 ↔ 0 ≤ i ∧ i < s.safe.length) ∧ (atE s i ≠ 0 → atE s i = 3) := by
  unfold atE
  by_cases h : 0 ≤ i ∧ i < s.safe.length <;> simp [h]
/-- What a call of the reference comes to. -/
def GoPost (base : Nat) (W : World) (s : DiskS) (x : Stp) (e : Ending) (w' : World) : Prop :=
  ∃ (r' : RefS) (vs' vw' : Value) (A : Option Addr) (c : Nat), e = .returned (.tuple #[.agg (refA r' vs' vw'), .slice A (doV s x).length c, .int .i64 (doE s x)]) ∧ Keeps (Kd.int .u8) base w' A (doV s x) ∧ RefD base w' r' vs' vw' ∧ RelD (doS s x) r' ∧ Below W.heap.size W w'
theorem refGo_walk (base : Nat) (s : DiskS) (r : RefS) (vs vw : Value) (x : Stp) (w : World) (h : RefD base w r vs vw) (hbase : base ≤ w.heap.size) (hrel : RelD s r) {k : Nat} (hwf : DiskWf s k) (hk : k ≤ 1000000) (hs : s.safe.length ≤ 1000000)
    (hb : Kd.C (Kd.int .u8) w x.b.A x.b.l.length x.b.l) (hkb : Kd.C Kd.bool w x.k.A x.k.l.length x.k.l) :
    Calls Try.prog 85 #[.agg (refA r vs vw), .agg #[.int .i64 x.do_, .int .i64 x.at_, .slice x.b.A x.b.l.length x.b.c, .slice x.k.A x.k.l.length x.k.c]] w (GoPost base w s x) := by
  obtain ⟨dd, at_, ⟨Ab, cb, lb⟩, ⟨Ak, ck, lk⟩⟩ := x
  simp only at hb hkb
  have hrwf := hrel.wf hwf
  have hsr : r.safe.length ≤ 1000000 := by rw [hrel.slen]; exact hs
  have hl0 := hrwf.l0
  have hl1 := hrwf.l1
  obtain ⟨As, cs, Aw, cw, rfl, rfl⟩ := h.form
  have nilK : ∀ W, Keeps (Kd.int .u8) base W none [] := fun W => Keeps.nil _ _ _
  by_cases c3 : dd = 3
  · subst c3
    have fin : ∀ e w', e = .returned (.tuple #[.agg (refA { r with left := max at_ (-1) } (.slice As r.safe.length cs) (.slice Aw r.wait.length cw)), .slice none 0 0, .int .i64 0]) ∧ Below w.heap.size w w' → GoPost base w s ⟨3, at_, ⟨Ab, cb, lb⟩, ⟨Ak, ck, lk⟩⟩ e w' := fun e w' ⟨he, hB⟩ => by
      refine ⟨{ r with left := max at_ (-1) }, .slice As r.safe.length cs, .slice Aw r.wait.length cw, none, 0, ?_, ?_, ?_, ?_, hB⟩
      · rw [he]; simp [doV, doE]
      · simpa [doV] using nilK w'
      · exact ⟨(h.below hbase hB).fs, (h.below hbase hB).fw, (h.below hbase hB).es, (h.below hbase hB).ew⟩
      · simpa [doS] using hrel.arm at_
    rcases (by omega : at_ < -1 ∨ at_ = -1 ∨ -1 < at_) with hc | hc | hc
    · refine (refGo3a As _ cs Aw _ cw r.left r.wr r.fl r.off at_ Ab lb.length cb Ak lk.length ck w hc).mono fun e w' hx => fin e w' ?_
      rw [show max at_ (-1) = -1 by omega]; exact hx
    · refine (refGo3b As _ cs Aw _ cw r.left r.wr r.fl r.off at_ Ab lb.length cb Ak lk.length ck w hc).mono fun e w' hx => fin e w' ?_
      rw [show max at_ (-1) = -1 by omega]; exact hx
    · refine (refGo3c As _ cs Aw _ cw r.left r.wr r.fl r.off at_ Ab lb.length cb Ak lk.length ck w hc).mono fun e w' hx => fin e w' ?_
      rw [show max at_ (-1) = at_ by omega]; exact hx
  by_cases c4 : dd = 4
  · subst c4
    refine (refGo4 base r _ _ at_ Ab lb.length cb Ak ck lk w h hbase hkb hsr (by have := hrwf.wl; omega) hrwf.at_).mono fun e w' ⟨vs', vw', he, hD, hB⟩ => ?_
    exact ⟨_, vs', vw', none, 0, by rw [he]; simp [doV, doE], by simpa [doV] using nilK w', hD, by simpa [doS] using hrel.crash lk, hB⟩
  -- what is left as it is
  have same : ∀ (E : Int) (e : Ending) (w' : World), doS s ⟨dd, at_, ⟨Ab, cb, lb⟩, ⟨Ak, ck, lk⟩⟩ = s → doV s ⟨dd, at_, ⟨Ab, cb, lb⟩, ⟨Ak, ck, lk⟩⟩ = [] → doE s ⟨dd, at_, ⟨Ab, cb, lb⟩, ⟨Ak, ck, lk⟩⟩ = E →
      e = .returned (.tuple #[.agg (refA r (.slice As r.safe.length cs) (.slice Aw r.wait.length cw)), .slice none 0 0, .int .i64 E]) ∧ Below w.heap.size w w' → GoPost base w s ⟨dd, at_, ⟨Ab, cb, lb⟩, ⟨Ak, ck, lk⟩⟩ e w' := fun E e w' h1 h2 h3 ⟨he, hB⟩ =>
    ⟨r, _, _, none, 0, by rw [he, h2, h3]; rfl, by rw [h2]; exact nilK w', h.below hbase hB, by rw [h1]; exact hrel, hB⟩
  have d3 : (dd == 3) = false := by simpa using c3
  have d4 : (dd == 4) = false := by simpa using c4
  have hns : (r.safe.length : Int) = s.safe.length := by rw [hrel.slen]
  by_cases c2 : dd = 2
  · subst c2
    by_cases hbu : burnE s = 0
    · obtain ⟨hl, ho⟩ := burnE_ok hbu
      refine (refGoFlush base r _ _ at_ Ab lb.length cb Ak lk.length ck w h hbase hrwf hk hsr (by rw [hrel.off]; exact ho) (by rw [hrel.left]; exact hl)).mono fun e w' ⟨vs', vw', he, hD, hB⟩ => ?_
      exact ⟨_, vs', vw', none, 0, by rw [he]; simp [doV, doE, hbu], by simpa [doV] using nilK w', hD, by simpa [doS] using hrel.flush hwf hbu, hB⟩
    · obtain ⟨hl, hE⟩ := burnE_no hbu
      refine (refGoNo2 As _ cs Aw _ cw r.left r.wr r.fl r.off at_ Ab lb.length cb Ak lk.length ck w (by omega) hl1 (by rw [hrel.off, hrel.left]; exact hl) (.inl rfl)).mono fun e w' ⟨he, hB⟩ => ?_
      have hD := h.below hbase hB
      exact ⟨{ r with off := true }, _, _, none, 0, by rw [he]; simp [doV, doE, hE], by simpa [doV] using nilK w', ⟨hD.fs, hD.fw, hD.es, hD.ew⟩, by rw [show doS s ⟨2, at_, ⟨Ab, cb, lb⟩, ⟨Ak, ck, lk⟩⟩ = burnS s by simp [doS, flushS, hbu]]; exact hrel.burnNo hbu, hB⟩
  have d2 : (dd != 2) = true := by simpa using c2
  by_cases hat : atE s at_ = 0
  case neg =>
    have hE3 := (atE_iff s at_).2 hat
    have hS : doS s ⟨dd, at_, ⟨Ab, cb, lb⟩, ⟨Ak, ck, lk⟩⟩ = s := by by_cases c1 : dd = 1 <;> simp [doS, c1, c2, c3, c4, writeS, hat]
    have hV : doV s ⟨dd, at_, ⟨Ab, cb, lb⟩, ⟨Ak, ck, lk⟩⟩ = [] := by by_cases c1 : dd = 1 <;> simp [doV, c1, c2, c3, c4, readV, hat]
    have hE : doE s ⟨dd, at_, ⟨Ab, cb, lb⟩, ⟨Ak, ck, lk⟩⟩ = 3 := by by_cases c1 : dd = 1 <;> simp [doE, c1, c2, c3, c4, readE, writeE, hat]
    have hn : ¬ (0 ≤ at_ ∧ at_ < s.safe.length) := fun hc => hat ((atE_iff s at_).1.2 hc)
    by_cases h0 : at_ < 0
    · exact (refGoNeg As _ cs Aw _ cw r.left r.wr r.fl r.off at_ Ab lb.length cb Ak lk.length ck w dd d3 d4 d2 h0).mono fun e w' hx => same 3 e w' hS hV hE hx
    · exact (refGoBig As _ cs Aw _ cw r.left r.wr r.fl r.off at_ Ab lb.length cb Ak lk.length ck w dd d3 d4 d2 h0 (by omega)).mono fun e w' hx => same 3 e w' hS hV hE hx
  obtain ⟨h0, h1⟩ := (atE_iff s at_).1.1 hat
  by_cases c1 : dd = 1
  · subst c1
    by_cases hbl : lb.length = 64
    case neg =>
      have hS : doS s ⟨1, at_, ⟨Ab, cb, lb⟩, ⟨Ak, ck, lk⟩⟩ = s := by simp [doS, writeS, hat, hbl]
      have hE : doE s ⟨1, at_, ⟨Ab, cb, lb⟩, ⟨Ak, ck, lk⟩⟩ = 1 := by simp [doE, writeE, hat, hbl]
      exact (refGoArg As _ cs Aw _ cw r.left r.wr r.fl r.off at_ Ab lb.length cb Ak lk.length ck w (by omega) (by omega) (by simp; omega)).mono fun e w' hx => same 1 e w' hS (by simp [doV]) hE hx
    by_cases hbu : burnE s = 0
    · obtain ⟨hl, ho⟩ := burnE_ok hbu
      refine (refGoWrite base r _ _ at_ Ab lb cb Ak lk.length ck w h hbase hrwf hk hb (by rw [hrel.off]; exact ho) (by rw [hrel.left]; exact hl) h0 (by omega) hbl).mono fun e w' ⟨A8, c8, vw', he, hD, hB⟩ => ?_
      exact ⟨_, _, vw', none, 0, by rw [he]; simp [doV, doE, writeE, hat, hbl, hbu], by simpa [doV] using nilK w', hD, by simpa [doS] using hrel.write hwf hat hbl hbu A8 c8, hB⟩
    · obtain ⟨hl, hE⟩ := burnE_no hbu
      refine (refGoNo1 As _ cs Aw _ cw r.left r.wr r.fl r.off at_ Ab lb.length cb Ak lk.length ck w (by omega) hl1 (by rw [hrel.off, hrel.left]; exact hl) (.inr ⟨h0, by omega, hbl⟩)).mono fun e w' ⟨he, hB⟩ => ?_
      have hD := h.below hbase hB
      have hS : doS s ⟨1, at_, ⟨Ab, cb, lb⟩, ⟨Ak, ck, lk⟩⟩ = burnS s := by simp [doS, writeS, hat, hbl, hbu]
      exact ⟨{ r with off := true }, _, _, none, 0, by rw [he]; simp [doV, doE, writeE, hat, hbl, hE], by simpa [doV] using nilK w', ⟨hD.fs, hD.fw, hD.es, hD.ew⟩, by rw [hS]; exact hrel.burnNo hbu, hB⟩
  have hS : doS s ⟨dd, at_, ⟨Ab, cb, lb⟩, ⟨Ak, ck, lk⟩⟩ = s := by simp [doS, c1, c2, c3, c4]
  by_cases ho : s.off = true
  · have hV : doV s ⟨dd, at_, ⟨Ab, cb, lb⟩, ⟨Ak, ck, lk⟩⟩ = [] := by simp [doV, c1, c2, c3, c4, readV, hat, ho]
    have hE : doE s ⟨dd, at_, ⟨Ab, cb, lb⟩, ⟨Ak, ck, lk⟩⟩ = 4 := by simp [doE, c1, c2, c3, c4, readE, hat, ho]
    have hro : r.off = true := by rw [hrel.off]; exact ho
    refine (refGoOff As _ cs Aw _ cw r.left r.wr r.fl r.off at_ Ab lb.length cb Ak lk.length ck w dd (by simpa using c1) (by simpa using c1) d3 d4 d2 (by omega) (by omega) hro).mono fun e w' hx => same 4 e w' hS hV hE ?_
    rw [show refA r (.slice As r.safe.length cs) (.slice Aw r.wait.length cw) = #[.slice As r.safe.length cs, .slice Aw r.wait.length cw, .int .i64 r.left, .int .i64 r.wr, .int .i64 r.fl, .bool true] by rw [← hro]]
    exact hx
  · have ho' : s.off = false := by simpa using ho
    obtain ⟨m, rfl⟩ : ∃ m : Nat, at_ = m := ⟨at_.toNat, by omega⟩
    have hV : doV s ⟨dd, m, ⟨Ab, cb, lb⟩, ⟨Ak, ck, lk⟩⟩ = (lastR r m r.wait.length).l := by
      rw [← hrel.get (fun q hq => (hrwf.at_ q hq).1) (by omega)]
      simp [doV, c1, c2, c3, c4, readV, hat, ho']
    have hE : doE s ⟨dd, m, ⟨Ab, cb, lb⟩, ⟨Ak, ck, lk⟩⟩ = 0 := by simp [doE, c1, c2, c3, c4, readE, hat, ho']
    refine (refGoRead base r _ _ dd m Ab lb.length cb Ak lk.length ck w h hbase hrwf hk hsr c1 c2 c3 c4 (by rw [hrel.off]; exact ho') h0 (by omega)).mono fun e w' ⟨v, he, hR, hB⟩ => ?_
    obtain ⟨A, c, rfl⟩ := Kd.R_slice hR
    rw [Int.toNat_natCast] at he hR
    exact ⟨r, _, _, A, c, by rw [he, hV, hE], by rw [hV]; exact Keeps.ofR hR (by decide), h.below hbase hB, by rw [hS]; exact hrel, hB⟩
end Go.Proofs.Ytdknolnoimpgeaa.K
namespace Go.Proofs.Ytdknolnoimpgeaa.K
open Go.RowKit Go.Proofs.YtdknolnoimpgeaaW.PrintWords Go.Proofs.YtdknolnoimpgeaaW.PrintLast Go.Proofs.YtdknolnoimpgeaaW.PrintMore
set_option linter.unusedVariables false
set_option linter.unusedSimpArgs false
theorem bEq_refl (A1 : Option Addr) (n1 c1 : Nat) (A2 : Option Addr) (n2 c2 : Nat) (a : List Int) (w : World) (h1 : Kd.C (Kd.int .u8) w A1 n1 a) (h2 : Kd.C (Kd.int .u8) w A2 n2 a) :
    Calls Try.prog 24 #[.slice A1 n1 c1, .slice A2 n2 c2] w fun e w' => e = .returned (.bool true) ∧ w' = w := by
  have e1 := h1.1
  have e2 := h2.1
  subst e1
  subst e2
  have E0 : Aside0 (((strOfNums a).toList == (strOfNums a).toList) = true) := ⟨by simp⟩
  have hcv3 := Kd.C_string (P := Try.prog) (A := A1) (c := c1) Try.underlying24 Try.underlying5 Try.underlying9 h1
  have hcv4 := Kd.C_string (P := Try.prog) (A := A2) (c := c2) Try.underlying24 Try.underlying5 Try.underlying9 h2
  clear h1 h2
  go_enter Try.func24, Try.ntmps24
  go_wp2
  go_ret
  exact ⟨by rw [← E0.out]; rfl, rfl⟩
/-- What stands of a disk of N sectors behind k calls. -/
def DiskAt (W : World) (base : Nat) (N k : Nat) : Prop := ∃ s, DiskWf s k ∧ s.safe.length = N ∧ DiskOk W base base s
theorem flushS_ok {s : DiskS} (h : burnE s = 0) : (flushS s).now = s.now ∧ (flushS s).safe = s.now ∧ (flushS s).wait = [] := by
  unfold flushS
  rw [if_neg (by simpa using h)]
  exact ⟨burnS_now s, rfl, rfl⟩
theorem flushS_no {s : DiskS} (h : burnE s ≠ 0) : flushS s = burnS s := by unfold flushS; rw [if_pos h]
theorem flushS_len {s : DiskS} {N : Nat} (h : s.now.length = N) (h2 : s.safe.length = N) : (flushS s).safe.length = N := by
  unfold flushS
  split
  · rw [burnS_safe]; exact h2
  · exact h
theorem crashS_len {s : DiskS} {kept : List Bool} : (crashS s kept).safe.length = s.safe.length := safeN_length _ _ _
theorem crashS_none {s : DiskS} {kept : List Bool} (h : s.wait = []) : (crashS s kept).safe = s.safe ∧ (crashS s kept).now = s.safe := by
  unfold crashS
  simp [h, safeN]
theorem doS_len {s : DiskS} {k N : Nat} (h : DiskWf s k) (hN : s.safe.length = N) (x : Stp) : (doS s x).safe.length = N := by
  unfold doS
  split
  · unfold writeS; split; exact hN; split; exact hN; split; rw [burnS_safe]; exact hN; show (burnS s).safe.length = N; rw [burnS_safe]; exact hN
  · split
    · exact flushS_len (h.len.trans hN) hN
    · split
      · exact hN
      · split
        · rw [crashS_len]; exact hN
        · exact hN
theorem secs_wf (b : List Int) : DiskWf ⟨secs b, secs b, [], -1, false, 0, 0⟩ 0 := ⟨rfl, by simp, by simp, by simp, by simp, by simp, by simp, by simp, fun q hq => by cases hq⟩
set_option maxHeartbeats 8000000 in
set_option maxRecDepth 100000 in
theorem l05_Safe (A : Option Addr) (c : Nat) (b : List Int) (Al : Option Addr) (cl : Nat) (l : List Stp) (Ak : Option Addr) (ck : Nat) (kept : List Bool) (w : World) (hb : Kd.C (Kd.int .u8) w A b.length b) (hbc : b.length ≤ c) (hl : Kd.C kStp w Al l.length l) (hll : l.length ≤ 9223372036854775807) (hk : Kd.C Kd.bool w Ak kept.length kept)
    (hg : ∀ x ∈ l, x.at_ ≤ 9223372036854775807 ∧ x.k.l.length ≤ 9223372036854775807) :
    Calls Try.prog 13 #[.slice A b.length c, .slice Al l.length cl, .slice Ak kept.length ck] w fun e w' => e = .returned (.bool true) ∧ Below w.heap.size w w' := by
  have WA := Aside0.mk (fun W => l05_awake W)
  have HB := Aside0.mk (Below.refl w.heap.size w)
  have WF := Aside0.mk (few_walk A b.length c Al cl l w hl hll)
  have HL := Aside0.mk hl
  have HR := Aside0.mk hb
  have HK := Aside0.mk hk
  have HG := Aside0.mk hg
  obtain ⟨n, hn⟩ : ∃ n, n = l.length := ⟨_, rfl⟩
  obtain ⟨nb, hnb⟩ : ∃ n, n = b.length := ⟨_, rfl⟩
  obtain ⟨nk, hnk⟩ : ∃ n, n = kept.length := ⟨_, rfl⟩
  rw [← hn, ← hnb] at WF
  rw [← hn, ← hnb, ← hnk]
  have HN := Aside0.mk hn
  have HNB := Aside0.mk hnb
  have HNK := Aside0.mk hnk
  have HBC : Aside0 (nb ≤ c) := ⟨by omega⟩
  clear hl hb hk hg hll hbc hn hnb hnk
  have AW : Aside0 True := ⟨trivial⟩
  cases hf : fewS nb l with
  | false =>
    rw [hf] at WF
    clear hf
    go_enter Try.func13, Try.ntmps13
    go_wp2_with (first | (go_at_call 81; (with_reducible refine WF.out.mono ?_); rintro e w1 ⟨rfl, hb⟩; have n1_ : Aside0 (Below w.heap.size w w1) := ⟨below_step (by repeat (first | (with_reducible first | exact HB.out | apply below_alloc | apply pw_below_drewN | apply below_drew1) | exact HB.out)) hb⟩; clear HB; have HB := n1_; clear n1_; clear hb) | (go_at_call 80; (with_reducible refine (WA.out _).mono ?_); rintro e w9 ⟨rfl, hb⟩; have n1_ : Aside0 (Below w.heap.size w w9) := ⟨below_step (by repeat (first | (with_reducible first | exact HB.out | apply below_alloc | apply pw_below_drewN | apply below_drew1) | exact HB.out)) hb⟩; clear HB; have HB := n1_; clear n1_; clear hb))
    go_ret
    exact ⟨rfl, HB.out⟩
  | true =>
    rw [hf] at WF
    have hfew : nb ≤ 2000 ∧ l.length ≤ 60 := by
      unfold fewS at hf
      simp only [Bool.and_eq_true, decide_eq_true_eq] at hf
      exact ⟨hf.1, hf.2.1⟩
    have HN60 : Aside0 (n ≤ 60) := ⟨by rw [HN.out]; exact hfew.2⟩
    have HNB2 : Aside0 (nb ≤ 2000) := ⟨hfew.1⟩
    clear hf hfew
    by_cases h100 : nk ≤ 100
    case neg =>
      have hi : (100 : Int) < nk := by omega
      clear h100
      go_enter Try.func13, Try.ntmps13
      go_wp2_with (first | (go_at_call 81; (with_reducible refine WF.out.mono ?_); rintro e w1 ⟨rfl, hb⟩; have n1_ : Aside0 (Below w.heap.size w w1) := ⟨below_step (by repeat (first | (with_reducible first | exact HB.out | apply below_alloc | apply pw_below_drewN | apply below_drew1) | exact HB.out)) hb⟩; clear HB; have HB := n1_; clear n1_; clear hb) | (go_at_call 80; (with_reducible refine (WA.out _).mono ?_); rintro e w9 ⟨rfl, hb⟩; have n1_ : Aside0 (Below w.heap.size w w9) := ⟨below_step (by repeat (first | (with_reducible first | exact HB.out | apply below_alloc | apply pw_below_drewN | apply below_drew1) | exact HB.out)) hb⟩; clear HB; have HB := n1_; clear n1_; clear hb))
      go_ret
      exact ⟨rfl, HB.out⟩
    have hi : ¬ (100 : Int) < nk := by omega
    have WN : Aside0 (∀ W, Below w.heap.size w W → Calls Try.prog 82 #[.slice A nb c] W fun e w' => e = .returned (.pointer (some ⟨W.heap.size, 0, none⟩)) ∧ DiskOk w' W.heap.size W.heap.size ⟨secs b, secs b, [], -1, false, 0, 0⟩ ∧ Below W.heap.size W w') := ⟨fun W h => by
      have h2 := new_walk A c b W (Kd.C_below HR.out h) (by rw [← HNB.out]; exact HBC.out) (by rw [← HNB.out]; have := HNB2.out; omega)
      rw [← HNB.out] at h2
      exact h2⟩
    have HK100 : Aside0 (nk ≤ 100) := ⟨h100⟩
    clear h100
    go_enter Try.func13, Try.ntmps13
    go_wp2_with (first | (go_at_call 81; (with_reducible refine WF.out.mono ?_); rintro e w1 ⟨rfl, hb⟩; have n1_ : Aside0 (Below w.heap.size w w1) := ⟨below_step (by repeat (first | (with_reducible first | exact HB.out | apply below_alloc | apply pw_below_drewN | apply below_drew1) | exact HB.out)) hb⟩; clear HB; have HB := n1_; clear n1_; clear hb) | (go_at_call 82; (with_reducible refine (WN.out _ HB.out).mono ?_); rintro e w2 ⟨rfl, hD, hb⟩; have HD : Aside0 (DiskAt w2 w1.heap.size (b.length / 64) 0) := ⟨_, secs_wf b, secs_length b, hD⟩; have HW1 := Aside0.mk (below_size HB.out); have n1_ : Aside0 (Below w.heap.size w w2) := ⟨below_step (by repeat (first | (with_reducible first | exact HB.out | apply below_alloc | apply pw_below_drewN | apply below_drew1) | exact HB.out)) hb⟩; clear HB; have HB := n1_; clear n1_; clear hb hD))
    go_loopw [27] (fun v27 w' => ∃ m : Nat, v27 = .int .i64 m ∧ Aside0 (m ≤ n) ∧ Aside0 (DiskAt w' w1.heap.size (b.length / 64) m) ∧ Aside0 (Below w.heap.size w w')) (fun i _ => n - (intOf i).toNat)
    case atStart => exact ⟨0, rfl, ⟨Nat.zero_le _⟩, HD, HB⟩
    case round =>
      clear HD HB
      obtain ⟨m, rfl, hm, HD, HB⟩ := hrel
      have hm' := hm.out
      by_cases hlt : m < n
      · obtain ⟨s, hwf, hsl, vs, vn, vw, hD⟩ := HD.out
        have hml : m < l.length := by rw [← HN.out]; exact hlt
        obtain ⟨ad, rfl, hx, hxs⟩ := at_stpA (Kd.C_below HL.out HB.out) hml
        have hxb := (at_stp HL.out hml).choose_spec.2.2.1
        have hxk := (at_stp HL.out hml).choose_spec.2.2.2
        have hxg := HG.out _ (List.getElem_mem hml)
        obtain ⟨x, hxx⟩ : ∃ x, x = l[m] := ⟨_, rfl⟩
        rw [← hxx] at hx hxs hxb hxk hxg
        have x0 := hx _ rfl
        have x1 := hxs 0 _ rfl
        have x2 := hxs 1 _ rfl
        have x3 := hxs 2 _ rfl
        have D := Aside0.mk hD
        have WFS := Aside0.mk hwf
        have HSL := Aside0.mk hsl
        have HXB := Aside0.mk hxb
        have HXK := Aside0.mk hxk
        have HXG := Aside0.mk hxg
        have hn60 := HN60.out
        clear hx hxs hxb hxk hxg hxx hwf hsl hD HD
        go_wp2_with (first | ((with_reducible refine gate_store (p := 9) rfl ?_); go_loud (refine wpList_store_newL (w0 := wr) rfl rfl 93 (.tmp 9) (.tmp 30) rfl #[.int .i64 x.do_, .int .i64 x.at_, .slice x.b.A x.b.l.length x.b.c, .slice x.k.A x.k.l.length x.k.c] 93 #[.int .i64 0, .int .i64 0, .slice none 0 0, .slice none 0 0] rfl (by rfl) (by rfl) (by kernel_rfl) rfl (by simp [Value.oneCell']) ?_; intro w6 bk_ hb; have BK6 := Aside0.mk bk_; clear bk_; have n_ := Aside0.mk (D.out.below hb); clear D; have D := n_; clear n_; have n1_ : Aside0 (Below w.heap.size w w6) := ⟨below_step (by repeat (first | (with_reducible first | exact HB.out | apply below_alloc | apply pw_below_drewN | apply below_drew1) | exact HB.out)) hb⟩; clear HB; have HB := n1_; clear n1_; clear hb; have k0 : w6.cell? ⟨wr.heap.size, 0, none⟩ = some (.int .i64 x.do_) := (blk_cell BK6.out 0).trans rfl; have k1 : w6.cell? ⟨wr.heap.size, 1, none⟩ = some (.int .i64 x.at_) := (blk_cell BK6.out 1).trans rfl; have k2 : w6.cell? ⟨wr.heap.size, 2, none⟩ = some (.slice x.b.A x.b.l.length x.b.c) := (blk_cell BK6.out 2).trans rfl; have k3 : w6.cell? ⟨wr.heap.size, 3, none⟩ = some (.slice x.k.A x.k.l.length x.k.c) := (blk_cell BK6.out 3).trans rfl)) | (go_at_call 83; go_loud (with_reducible refine (do_walk w1.heap.size w1.heap.size s _ _ _ x _ D.out WFS.out (by have h1_ := HN60.out; omega) (Keeps.old HXB.out HB.out HW1.out) (Keeps.old HXK.out HB.out HW1.out) HXG.out.2).mono ?_); go_loud (rintro e w7 ⟨v7, rfl, _, hD, hF⟩; have n_ : Aside0 (Below w.heap.size w w7) := ⟨HB.out.trans (hF.below.mono HW1.out)⟩; clear HB; have HB := n_; clear n_; have HD : Aside0 (DiskAt w7 w1.heap.size (b.length / 64) (m + 1)) := ⟨⟨doS s x, WFS.out.do_ HXG.out.1, doS_len WFS.out HSL.out x, hD⟩⟩; clear hD hF D)))
        exact ⟨⟨m + 1, rfl, ⟨by omega⟩, HD, HB⟩, by simp [intOf]; omega⟩
      · have hmn : m = n := by omega
        subst hmn
        obtain ⟨s, hwf, hsl, vs, vn, vw, hD⟩ := HD.out
        have hm60 := HN60.out
        have hnb := HNB2.out
        have hbl := HNB.out
        have WFS := Aside0.mk (hwf.mono hm60)
        have HSL : Aside0 (s.safe.length ≤ 40) := ⟨by omega⟩
        have HNL : Aside0 (s.now.length ≤ 40) := ⟨by rw [hwf.len]; omega⟩
        have HKB : Aside0 (Keeps Kd.bool w1.heap.size wr Ak kept) := ⟨Keeps.old HK.out HB.out HW1.out⟩
        have HBW : Aside0 (∀ W, DFrame w1.heap.size wr W → Below w.heap.size w W) := ⟨fun W hf => HB.out.trans (hf.below.mono HW1.out)⟩
        have FR := Aside0.mk (DFrame.refl w1.heap.size wr)
        have D := Aside0.mk hD
        have HKN : Aside0 (kept.length ≤ 9223372036854775807) := ⟨by rw [← HNK.out]; have := HK100.out; omega⟩
        clear HD hwf hsl hD HB hm60 hnb hbl hlt hm hm'
        rcases Decidable.em (burnE s = 0) with hbu | hbu
        · have HF : Aside0 (∀ vs vn vw W, DiskR W w1.heap.size w1.heap.size s vs vn vw → Calls Try.prog 72 #[.pointer (some ⟨w1.heap.size, 0, none⟩)] W fun e w' => e = .returned (.int .i64 0) ∧ (∃ vw', DiskR w' w1.heap.size w1.heap.size (flushS s) vs vn vw') ∧ DFrame w1.heap.size W w') := ⟨fun vs vn vw W h => by
            have h2 := devFlush_walk _ _ s vs vn vw W h WFS.out.len WFS.out.l0 WFS.out.l1 WFS.out.f0 (by have := WFS.out.f1; omega)
            rw [hbu] at h2
            exact h2⟩
          have WF1 : Aside0 (DiskWf (flushS s) 61) := ⟨WFS.out.flush⟩
          have HS1 : Aside0 ((flushS s).safe = s.now ∧ (flushS s).now = s.now ∧ (flushS s).wait = []) := ⟨⟨(flushS_ok hbu).2.1, (flushS_ok hbu).1, (flushS_ok hbu).2.2⟩⟩
          obtain ⟨s1, hs1⟩ : ∃ s1, s1 = flushS s := ⟨_, rfl⟩
          rw [← hs1] at HF WF1 HS1
          obtain ⟨X, hX⟩ : ∃ X, X = s.now := ⟨_, rfl⟩
          rw [← hX] at HS1 HNL
          clear hbu hs1 hX
          have HS2 : Aside0 ((crashS s1 kept).safe = X ∧ (crashS s1 kept).now = X ∧ (crashS s1 kept).wait = [] ∧ (crashS s1 kept).off = false) := ⟨by obtain ⟨h1, h2⟩ := crashS_none (kept := kept) HS1.out.2.2; rw [h1, h2, HS1.out.1]; exact ⟨rfl, rfl, rfl, rfl⟩⟩
          have WF2 : Aside0 (DiskWf (crashS s1 kept) 61) := ⟨WF1.out.crash kept⟩
          obtain ⟨s2, hs2⟩ : ∃ s2, s2 = crashS s1 kept := ⟨_, rfl⟩
          have HS3 : Aside0 ((crashS s2 kept).safe = X ∧ (crashS s2 kept).now = X ∧ (crashS s2 kept).wait = [] ∧ (crashS s2 kept).off = false) := ⟨by rw [← hs2] at HS2; obtain ⟨h1, h2⟩ := crashS_none (kept := kept) HS2.out.2.2.1; rw [h1, h2, HS2.out.1]; exact ⟨rfl, rfl, rfl, rfl⟩⟩
          have WC1 : Aside0 (∀ vs vn vw W, DiskR W w1.heap.size w1.heap.size s1 vs vn vw → Keeps Kd.bool w1.heap.size W Ak kept → Calls Try.prog 70 #[.pointer (some ⟨w1.heap.size, 0, none⟩), .slice Ak nk ck] W fun e w' => (∃ v, e = .returned v) ∧ DiskOk w' w1.heap.size w1.heap.size (crashS s1 kept) ∧ DFrame w1.heap.size W w') := ⟨fun vs vn vw W h h2 => by
            have h3 := devCrash_walk _ _ s1 vs vn vw Ak ck kept W h WF1.out.len h2.toD (by have := WF1.out.wl; omega) HKN.out WF1.out.at_
            rw [← HNK.out] at h3
            exact h3⟩
          rw [← hs2] at WC1 HS2 WF2
          clear hs2
          have WC2 : Aside0 (∀ vs vn vw W, DiskR W w1.heap.size w1.heap.size s2 vs vn vw → Keeps Kd.bool w1.heap.size W Ak kept → Calls Try.prog 70 #[.pointer (some ⟨w1.heap.size, 0, none⟩), .slice Ak nk ck] W fun e w' => (∃ v, e = .returned v) ∧ DiskOk w' w1.heap.size w1.heap.size (crashS s2 kept) ∧ DFrame w1.heap.size W w') := ⟨fun vs vn vw W h h2 => by
            have h3 := devCrash_walk _ _ s2 vs vn vw Ak ck kept W h WF2.out.len h2.toD (by have := WF2.out.wl; omega) HKN.out WF2.out.at_
            rw [← HNK.out] at h3
            exact h3⟩
          obtain ⟨s6, hs6⟩ : ∃ s6, s6 = crashS s2 kept := ⟨_, rfl⟩
          rw [← hs6] at WC2 HS3
          clear hs6
          have WB1 : Aside0 (∀ vs vn vw W, DiskR W w1.heap.size w1.heap.size s1 vs vn vw → Calls Try.prog 78 #[.pointer (some ⟨w1.heap.size, 0, none⟩)] W fun e w' => ∃ v : Value, e = .returned v ∧ Kd.R (Kd.int .u8) 5 w' W.heap.size (fun _ => True) v (flatN X) ∧ Below W.heap.size W w') := ⟨fun vs vn vw W h => by
            have h3 := devBytes_walk _ _ s1 vs vn vw W h (by rw [HS1.out.2.1]; have := HNL.out; omega)
            rw [HS1.out.2.1] at h3
            exact h3⟩
          have WB2 : Aside0 (∀ vs vn vw W, DiskR W w1.heap.size w1.heap.size s2 vs vn vw → Calls Try.prog 78 #[.pointer (some ⟨w1.heap.size, 0, none⟩)] W fun e w' => ∃ v : Value, e = .returned v ∧ Kd.R (Kd.int .u8) 5 w' W.heap.size (fun _ => True) v (flatN X) ∧ Below W.heap.size W w') := ⟨fun vs vn vw W h => by
            have h3 := devBytes_walk _ _ s2 vs vn vw W h (by rw [HS2.out.2.1]; have := HNL.out; omega)
            rw [HS2.out.2.1] at h3
            exact h3⟩
          have WB3 : Aside0 (∀ vs vn vw W, DiskR W w1.heap.size w1.heap.size s6 vs vn vw → Calls Try.prog 78 #[.pointer (some ⟨w1.heap.size, 0, none⟩)] W fun e w' => ∃ v : Value, e = .returned v ∧ Kd.R (Kd.int .u8) 5 w' W.heap.size (fun _ => True) v (flatN X) ∧ Below W.heap.size W w') := ⟨fun vs vn vw W h => by
            have h3 := devBytes_walk _ _ s6 vs vn vw W h (by rw [HS3.out.2.1]; have := HNL.out; omega)
            rw [HS3.out.2.1] at h3
            exact h3⟩
          have WB4 : Aside0 (∀ vs vn vw W, DiskR W w1.heap.size w1.heap.size s6 vs vn vw → Calls Try.prog 77 #[.pointer (some ⟨w1.heap.size, 0, none⟩)] W fun e w' => ∃ v : Value, e = .returned v ∧ Kd.R (Kd.int .u8) 5 w' W.heap.size (fun _ => True) v (flatN X) ∧ Below W.heap.size W w') := ⟨fun vs vn vw W h => by
            have h3 := devSafe_walk _ _ s6 vs vn vw W h (by rw [HS3.out.1]; have := HNL.out; omega)
            rw [HS3.out.1] at h3
            exact h3⟩
          have WWA : Aside0 (∀ vs vn vw W, DiskR W w1.heap.size w1.heap.size s6 vs vn vw → Calls Try.prog 76 #[.pointer (some ⟨w1.heap.size, 0, none⟩)] W fun e w' => ∃ v : Value, e = .returned v ∧ Kd.R (Kd.int .i64) 3 w' W.heap.size (fun _ => True) v [] ∧ Below W.heap.size W w') := ⟨fun vs vn vw W h => by
            have h3 := devWaiting_walk _ _ s6 vs vn vw W h (by rw [HS3.out.2.2.1]; decide)
            rw [HS3.out.2.2.1] at h3
            exact h3⟩
          have hoff := HS3.out.2.2.2
          go_wp2_with (first | (go_at_call 72; go_loud (with_reducible refine (HF.out _ _ _ _ D.out).mono ?_); go_loud (rintro e w5 ⟨rfl, ⟨vw5, hD⟩, hF⟩; have D1 := Aside0.mk hD; have n_ := Aside0.mk (FR.out.trans hF); clear FR; have FR := n_; clear n_; have n_ := Aside0.mk (HKB.out.stepD hF); clear HKB; have HKB := n_; clear n_; clear hD hF D)) | (go_at_call 70; go_loud (with_reducible refine (WC1.out _ _ _ _ D1.out HKB.out).mono ?_); go_loud (rintro e w6 ⟨⟨v6, rfl⟩, ⟨vs6, vn6, vw6, hD⟩, hF⟩; have D2 := Aside0.mk hD; have n_ := Aside0.mk (FR.out.trans hF); clear FR; have FR := n_; clear n_; have n_ := Aside0.mk (HKB.out.stepD hF); clear HKB; have HKB := n_; clear n_; (try (have n_ := Aside0.mk (HR1.out.stepD hF); clear HR1; have HR1 := n_; clear n_)); (try (have n_ := Aside0.mk (HR2.out.stepD hF); clear HR2; have HR2 := n_; clear n_)); (try (have n_ := Aside0.mk (HR3.out.stepD hF); clear HR3; have HR3 := n_; clear n_)); (try (have n_ := Aside0.mk (HR4.out.stepD hF); clear HR4; have HR4 := n_; clear n_)); clear hD hF D1)) | (go_at_call 70; go_loud (with_reducible refine (WC2.out _ _ _ _ D2.out HKB.out).mono ?_); go_loud (rintro e w6 ⟨⟨v6, rfl⟩, ⟨vs6, vn6, vw6, hD⟩, hF⟩; have D6 := Aside0.mk hD; have n_ := Aside0.mk (FR.out.trans hF); clear FR; have FR := n_; clear n_; have n_ := Aside0.mk (HKB.out.stepD hF); clear HKB; have HKB := n_; clear n_; (try (have n_ := Aside0.mk (HR1.out.stepD hF); clear HR1; have HR1 := n_; clear n_)); (try (have n_ := Aside0.mk (HR2.out.stepD hF); clear HR2; have HR2 := n_; clear n_)); (try (have n_ := Aside0.mk (HR3.out.stepD hF); clear HR3; have HR3 := n_; clear n_)); (try (have n_ := Aside0.mk (HR4.out.stepD hF); clear HR4; have HR4 := n_; clear n_)); clear hD hF D2)) | (go_at_call 78; go_loud (with_reducible refine (WB1.out _ _ _ _ D1.out).mono ?_); go_loud (rintro e w7 ⟨v7, rfl, ho, hb⟩; obtain ⟨A1, c1, rfl⟩ := Kd.R_slice ho; have hF := DFrame.of_below D1.out.size hb; (try (have n_ := Aside0.mk (HR1.out.stepD hF); clear HR1; have HR1 := n_; clear n_)); (try (have n_ := Aside0.mk (HR2.out.stepD hF); clear HR2; have HR2 := n_; clear n_)); (try (have n_ := Aside0.mk (HR3.out.stepD hF); clear HR3; have HR3 := n_; clear n_)); (try (have n_ := Aside0.mk (HR4.out.stepD hF); clear HR4; have HR4 := n_; clear n_)); have HR1 := Aside0.mk (Keeps.ofR (base := w1.heap.size) ho (by decide)); have n_ := Aside0.mk (D1.out.below hb); clear D1; have D1 := n_; clear n_; have n_ := Aside0.mk (FR.out.trans hF); clear FR; have FR := n_; clear n_; have n_ := Aside0.mk (HKB.out.stepD hF); clear HKB; have HKB := n_; clear n_; clear ho hb hF)) | (go_at_call 78; go_loud (with_reducible refine (WB2.out _ _ _ _ D2.out).mono ?_); go_loud (rintro e w7 ⟨v7, rfl, ho, hb⟩; obtain ⟨A2, c2, rfl⟩ := Kd.R_slice ho; have hF := DFrame.of_below D2.out.size hb; (try (have n_ := Aside0.mk (HR1.out.stepD hF); clear HR1; have HR1 := n_; clear n_)); (try (have n_ := Aside0.mk (HR2.out.stepD hF); clear HR2; have HR2 := n_; clear n_)); (try (have n_ := Aside0.mk (HR3.out.stepD hF); clear HR3; have HR3 := n_; clear n_)); (try (have n_ := Aside0.mk (HR4.out.stepD hF); clear HR4; have HR4 := n_; clear n_)); have HR2 := Aside0.mk (Keeps.ofR (base := w1.heap.size) ho (by decide)); have n_ := Aside0.mk (D2.out.below hb); clear D2; have D2 := n_; clear n_; have n_ := Aside0.mk (FR.out.trans hF); clear FR; have FR := n_; clear n_; have n_ := Aside0.mk (HKB.out.stepD hF); clear HKB; have HKB := n_; clear n_; clear ho hb hF)) | (go_at_call 78; go_loud (with_reducible refine (WB3.out _ _ _ _ D6.out).mono ?_); go_loud (rintro e w7 ⟨v7, rfl, ho, hb⟩; obtain ⟨A3, c3, rfl⟩ := Kd.R_slice ho; have hF := DFrame.of_below D6.out.size hb; (try (have n_ := Aside0.mk (HR1.out.stepD hF); clear HR1; have HR1 := n_; clear n_)); (try (have n_ := Aside0.mk (HR2.out.stepD hF); clear HR2; have HR2 := n_; clear n_)); (try (have n_ := Aside0.mk (HR3.out.stepD hF); clear HR3; have HR3 := n_; clear n_)); (try (have n_ := Aside0.mk (HR4.out.stepD hF); clear HR4; have HR4 := n_; clear n_)); have HR3 := Aside0.mk (Keeps.ofR (base := w1.heap.size) ho (by decide)); have n_ := Aside0.mk (D6.out.below hb); clear D6; have D6 := n_; clear n_; have n_ := Aside0.mk (FR.out.trans hF); clear FR; have FR := n_; clear n_; have n_ := Aside0.mk (HKB.out.stepD hF); clear HKB; have HKB := n_; clear n_; clear ho hb hF)) | (go_at_call 77; go_loud (with_reducible refine (WB4.out _ _ _ _ D6.out).mono ?_); go_loud (rintro e w7 ⟨v7, rfl, ho, hb⟩; obtain ⟨A4, c4, rfl⟩ := Kd.R_slice ho; have hF := DFrame.of_below D6.out.size hb; (try (have n_ := Aside0.mk (HR1.out.stepD hF); clear HR1; have HR1 := n_; clear n_)); (try (have n_ := Aside0.mk (HR2.out.stepD hF); clear HR2; have HR2 := n_; clear n_)); (try (have n_ := Aside0.mk (HR3.out.stepD hF); clear HR3; have HR3 := n_; clear n_)); (try (have n_ := Aside0.mk (HR4.out.stepD hF); clear HR4; have HR4 := n_; clear n_)); have HR4 := Aside0.mk (Keeps.ofR (base := w1.heap.size) ho (by decide)); have n_ := Aside0.mk (D6.out.below hb); clear D6; have D6 := n_; clear n_; have n_ := Aside0.mk (FR.out.trans hF); clear FR; have FR := n_; clear n_; have n_ := Aside0.mk (HKB.out.stepD hF); clear HKB; have HKB := n_; clear n_; clear ho hb hF)) | (go_at_call 24; go_loud (with_reducible refine (bEq_refl _ _ _ _ _ _ _ _ HR2.out.now HR1.out.now).mono ?_); go_loud (rintro e w' ⟨rfl, h_⟩; have h_ := h_.symm; subst h_)) | (go_at_call 24; go_loud (with_reducible refine (bEq_refl _ _ _ _ _ _ _ _ HR3.out.now HR4.out.now).mono ?_); go_loud (rintro e w' ⟨rfl, h_⟩; have h_ := h_.symm; subst h_)) | (go_at_call 76; go_loud (with_reducible refine (WWA.out _ _ _ _ D6.out).mono ?_); go_loud (rintro e w9 ⟨v9, rfl, ho, hb⟩; obtain ⟨A9, c9, rfl⟩ := Kd.R_slice ho; have hF := DFrame.of_below D6.out.size hb; have n_ := Aside0.mk (D6.out.below hb); clear D6; have D6 := n_; clear n_; have n_ := Aside0.mk (FR.out.trans hF); clear FR; have FR := n_; clear n_; have n_ := Aside0.mk (HKB.out.stepD hF); clear HKB; have HKB := n_; clear n_; clear ho hb hF)) | (go_at_call 79; go_loud (with_reducible refine (devOff_walk w1.heap.size w1.heap.size _ _ _ _ _ D6.out).mono ?_); go_loud (rintro e w' ⟨rfl, h_⟩; have h_ := h_.symm; subst h_)) | (go_at_call 80; go_loud ((with_reducible refine (WA.out _).mono ?_); rintro e w10 ⟨rfl, hb⟩; have HZ : Aside0 (Below w.heap.size w w10) := ⟨below_step (HBW.out _ FR.out) hb⟩; clear hb)))
          go_ret
          exact ⟨by rfl, HZ.out⟩
        · have hb0 : (burnE s == 0) = false := by simpa using hbu
          obtain ⟨E, hE⟩ : ∃ E, E = burnE s := ⟨_, rfl⟩
          rw [← hE] at hb0
          have HF : Aside0 (∀ vs vn vw W, DiskR W w1.heap.size w1.heap.size s vs vn vw → Calls Try.prog 72 #[.pointer (some ⟨w1.heap.size, 0, none⟩)] W fun e w' => e = .returned (.int .i64 E) ∧ (∃ vw', DiskR w' w1.heap.size w1.heap.size (burnS s) vs vn vw') ∧ DFrame w1.heap.size W w') := ⟨fun vs vn vw W h => by
            have h2 := devFlush_walk _ _ s vs vn vw W h WFS.out.len WFS.out.l0 WFS.out.l1 WFS.out.f0 (by have := WFS.out.f1; omega)
            rw [flushS_no hbu, ← hE] at h2
            exact h2⟩
          have WF1 : Aside0 (DiskWf (burnS s) 60) := ⟨WFS.out.burn⟩
          obtain ⟨s1, hs1⟩ : ∃ s1, s1 = burnS s := ⟨_, rfl⟩
          rw [← hs1] at HF WF1
          have HS1 : Aside0 ((crashS s1 kept).safe = safeN s1 kept s1.wait.length ∧ (crashS s1 kept).now = safeN s1 kept s1.wait.length ∧ (safeN s1 kept s1.wait.length).length ≤ 40) := ⟨⟨rfl, rfl, by rw [safeN_length, hs1, burnS_safe]; exact HSL.out⟩⟩
          obtain ⟨X, hX⟩ : ∃ X, X = safeN s1 kept s1.wait.length := ⟨_, rfl⟩
          rw [← hX] at HS1
          clear hbu hE hs1 hX
          have WCR : Aside0 (∀ vs vn vw W, DiskR W w1.heap.size w1.heap.size s1 vs vn vw → Keeps Kd.bool w1.heap.size W Ak kept → Calls Try.prog 70 #[.pointer (some ⟨w1.heap.size, 0, none⟩), .slice Ak nk ck] W fun e w' => (∃ v, e = .returned v) ∧ DiskOk w' w1.heap.size w1.heap.size (crashS s1 kept) ∧ DFrame w1.heap.size W w') := ⟨fun vs vn vw W h h2 => by
            have h3 := devCrash_walk _ _ s1 vs vn vw Ak ck kept W h WF1.out.len h2.toD (by have := WF1.out.wl; omega) HKN.out WF1.out.at_
            rw [← HNK.out] at h3
            exact h3⟩
          obtain ⟨s6, hs6⟩ : ∃ s6, s6 = crashS s1 kept := ⟨_, rfl⟩
          have HS6 : Aside0 (s6.safe = X ∧ s6.now = X ∧ s6.wait = [] ∧ s6.off = false) := ⟨by rw [hs6]; exact ⟨HS1.out.1, HS1.out.2.1, rfl, rfl⟩⟩
          rw [← hs6] at WCR
          clear hs6
          have WBY : Aside0 (∀ vs vn vw W, DiskR W w1.heap.size w1.heap.size s6 vs vn vw → Calls Try.prog 78 #[.pointer (some ⟨w1.heap.size, 0, none⟩)] W fun e w' => ∃ v : Value, e = .returned v ∧ Kd.R (Kd.int .u8) 5 w' W.heap.size (fun _ => True) v (flatN X) ∧ Below W.heap.size W w') := ⟨fun vs vn vw W h => by
            have h3 := devBytes_walk _ _ s6 vs vn vw W h (by rw [HS6.out.2.1]; have := HS1.out.2.2; omega)
            rw [HS6.out.2.1] at h3
            exact h3⟩
          have WSA : Aside0 (∀ vs vn vw W, DiskR W w1.heap.size w1.heap.size s6 vs vn vw → Calls Try.prog 77 #[.pointer (some ⟨w1.heap.size, 0, none⟩)] W fun e w' => ∃ v : Value, e = .returned v ∧ Kd.R (Kd.int .u8) 5 w' W.heap.size (fun _ => True) v (flatN X) ∧ Below W.heap.size W w') := ⟨fun vs vn vw W h => by
            have h3 := devSafe_walk _ _ s6 vs vn vw W h (by rw [HS6.out.1]; have := HS1.out.2.2; omega)
            rw [HS6.out.1] at h3
            exact h3⟩
          have WWA : Aside0 (∀ vs vn vw W, DiskR W w1.heap.size w1.heap.size s6 vs vn vw → Calls Try.prog 76 #[.pointer (some ⟨w1.heap.size, 0, none⟩)] W fun e w' => ∃ v : Value, e = .returned v ∧ Kd.R (Kd.int .i64) 3 w' W.heap.size (fun _ => True) v [] ∧ Below W.heap.size W w') := ⟨fun vs vn vw W h => by
            have h3 := devWaiting_walk _ _ s6 vs vn vw W h (by rw [HS6.out.2.2.1]; decide)
            rw [HS6.out.2.2.1] at h3
            exact h3⟩
          have hoff := HS6.out.2.2.2
          go_wp2_with (first | (go_at_call 72; go_loud (with_reducible refine (HF.out _ _ _ _ D.out).mono ?_); go_loud (rintro e w5 ⟨rfl, ⟨vw5, hD⟩, hF⟩; clear D; have D := Aside0.mk hD; have n_ := Aside0.mk (FR.out.trans hF); clear FR; have FR := n_; clear n_; have n_ := Aside0.mk (HKB.out.stepD hF); clear HKB; have HKB := n_; clear n_; clear hD hF)) | (go_at_call 70; go_loud (with_reducible refine (WCR.out _ _ _ _ D.out HKB.out).mono ?_); go_loud (rintro e w6 ⟨⟨v6, rfl⟩, ⟨vs6, vn6, vw6, hD⟩, hF⟩; have D6 := Aside0.mk hD; have n_ := Aside0.mk (FR.out.trans hF); clear FR; have FR := n_; clear n_; have n_ := Aside0.mk (HKB.out.stepD hF); clear HKB; have HKB := n_; clear n_; clear hD hF D)) | (go_at_call 78; go_loud (with_reducible refine (WBY.out _ _ _ _ D6.out).mono ?_); go_loud (rintro e w7 ⟨v7, rfl, ho, hb⟩; obtain ⟨A7, c7, rfl⟩ := Kd.R_slice ho; have HR7 := Aside0.mk (Keeps.ofR (base := w1.heap.size) ho (by decide)); have hF := DFrame.of_below D6.out.size hb; have n_ := Aside0.mk (D6.out.below hb); clear D6; have D6 := n_; clear n_; have n_ := Aside0.mk (FR.out.trans hF); clear FR; have FR := n_; clear n_; have n_ := Aside0.mk (HKB.out.stepD hF); clear HKB; have HKB := n_; clear n_; clear ho hb hF)) | (go_at_call 77; go_loud (with_reducible refine (WSA.out _ _ _ _ D6.out).mono ?_); go_loud (rintro e w8 ⟨v8, rfl, ho, hb⟩; obtain ⟨A8, c8, rfl⟩ := Kd.R_slice ho; have HR8 := Aside0.mk (Keeps.ofR (base := w1.heap.size) ho (by decide)); have hF := DFrame.of_below D6.out.size hb; have n_ := Aside0.mk (D6.out.below hb); clear D6; have D6 := n_; clear n_; have n_ := Aside0.mk (FR.out.trans hF); clear FR; have FR := n_; clear n_; have n_ := Aside0.mk (HKB.out.stepD hF); clear HKB; have HKB := n_; clear n_; have n_ := Aside0.mk (HR7.out.stepD hF); clear HR7; have HR7 := n_; clear n_; clear ho hb hF)) | (go_at_call 24; go_loud (refine (bEq_refl _ _ _ _ _ _ _ _ HR7.out.now HR8.out.now).mono ?_); go_loud (rintro e w' ⟨rfl, h_⟩; have h_ := h_.symm; subst h_)) | (go_at_call 76; go_loud (with_reducible refine (WWA.out _ _ _ _ D6.out).mono ?_); go_loud (rintro e w9 ⟨v9, rfl, ho, hb⟩; obtain ⟨A9, c9, rfl⟩ := Kd.R_slice ho; have hF := DFrame.of_below D6.out.size hb; have n_ := Aside0.mk (D6.out.below hb); clear D6; have D6 := n_; clear n_; have n_ := Aside0.mk (FR.out.trans hF); clear FR; have FR := n_; clear n_; have n_ := Aside0.mk (HKB.out.stepD hF); clear HKB; have HKB := n_; clear n_; clear ho hb hF)) | (go_at_call 79; go_loud (with_reducible refine (devOff_walk w1.heap.size w1.heap.size _ _ _ _ _ D6.out).mono ?_); go_loud (rintro e w' ⟨rfl, h_⟩; have h_ := h_.symm; subst h_)) | (go_at_call 80; go_loud ((with_reducible refine (WA.out _).mono ?_); rintro e w10 ⟨rfl, hb⟩; have HZ : Aside0 (Below w.heap.size w w10) := ⟨below_step (HBW.out _ FR.out) hb⟩; clear hb)))
          go_ret
          exact ⟨by rfl, HZ.out⟩
end Go.Proofs.Ytdknolnoimpgeaa.K
namespace Go.Proofs.Ytdknolnoimpgeaa.K
open Go.RowKit Go.Proofs.YtdknolnoimpgeaaW.PrintWords Go.Proofs.YtdknolnoimpgeaaW.PrintLast Go.Proofs.YtdknolnoimpgeaaW.PrintMore
set_option linter.unusedVariables false
set_option linter.unusedSimpArgs false
theorem waits_eq {s : DiskS} {r : RefS} (h : RelD s r) : waitsR r r.wait.length = s.wait.map (·.at_) := by
  unfold waitsR
  rw [List.take_length]
  have h2 := congrArg (List.map Prod.fst) h.wait
  rw [List.map_map, List.map_map] at h2
  exact h2
theorem flats_eq {s : DiskS} {r : RefS} (h : RelD s r) : flatR r r.safe.length = flatN s.safe := by
  unfold flatR flatN
  rw [List.take_length, List.flatMap_def, List.flatMap_def, h.safe]
theorem lasts_eq {s : DiskS} {r : RefS} (h : RelD s r) {k : Nat} (hw : DiskWf s k) : lastsR r r.safe.length = flatN s.now := by
  unfold lastsR flatN
  rw [List.flatMap_def, List.flatMap_def]
  congr 1
  have hl : r.safe.length = s.now.length := by rw [h.slen, hw.len]
  apply List.ext_getElem
  · simp [hl]
  · intro i h1 h2
    have hi : i < r.safe.length := by simpa using h1
    have hg := h.get (fun q hq => ((h.wf hw).at_ q hq).1) hi
    rw [List.getElem_map, List.getElem_map, List.getElem_range, ← hg, List.getD_eq_getElem?_getD, List.getElem?_eq_getElem (by omega)]
    rfl
theorem secs_chunks (b : List Int) : (secs b).map (·.1) = (List.range (b.length / 64)).map (chunkR b) := by
  unfold secs
  rw [List.map_map]
  refine List.map_congr_left fun i hi => ?_
  have hi := List.mem_range.1 hi
  show (toSec (b.drop (64 * i))).1 = chunkR b i
  rw [toSec_take (by rw [List.length_drop]; omega)]
  rfl
set_option maxHeartbeats 4000000 in
set_option maxRecDepth 100000 in
theorem eqInts_refl (A1 : Option Addr) (n c1 : Nat) (A2 : Option Addr) (n2 c2 : Nat) (a : List Int) (w : World) (h1 : Kd.C (Kd.int .i64) w A1 n a) (h2 : Kd.C (Kd.int .i64) w A2 n2 a) (ha : a.length ≤ 1000000) :
    Calls Try.prog 86 #[.slice A1 n c1, .slice A2 n2 c2] w fun e w' => e = .returned (.bool true) ∧ Below w.heap.size w w' := by
  have e1 := h1.1
  have e2 := h2.1
  have hn2 : n2 = n := by omega
  subst hn2
  have HA := Aside0.mk h1
  have HB := Aside0.mk h2
  have hn6 : n2 ≤ 1000000 := by omega
  clear h1 h2 e1 e2 ha
  go_enter Try.func86, Try.ntmps86
  go_wp2
  go_loopw [13] (fun v5 w' => ∃ m : Nat, v5 = .int .i64 m ∧ Aside0 (m ≤ n2) ∧ Aside0 (∃ d, w' = w.drewN d)) (fun i _ => n2 - (intOf i).toNat)
  case atStart => exact ⟨0, rfl, ⟨Nat.zero_le _⟩, ⟨0, rfl⟩⟩
  case round =>
    obtain ⟨m, rfl, hm, ⟨d, rfl⟩⟩ := hrel
    have hm' := hm.out
    by_cases hlt : m < n2
    · obtain ⟨ad1, rfl, hx⟩ := Kd.at_int HA.out (m : Int) (by omega) (by omega)
      obtain ⟨ad2, rfl, hy⟩ := Kd.at_int HB.out (m : Int) (by omega) (by omega)
      rw [Int.toNat_natCast] at hx hy
      obtain ⟨x, hxx⟩ : ∃ x, x = rd a (m : Int) := ⟨_, rfl⟩
      rw [← hxx] at hx hy
      clear hxx
      go_wp2
      go_quiet (fail)
      go_wp2
      exact ⟨⟨m + 1, rfl, ⟨by omega⟩, ⟨_, rfl⟩⟩, by simp [intOf]; omega⟩
    · have hge : m = n2 := by omega
      subst hge
      go_wp2
      go_ret
      exact ⟨rfl, pw_below_drewN (Below.refl _ _) _⟩
end Go.Proofs.Ytdknolnoimpgeaa.K
