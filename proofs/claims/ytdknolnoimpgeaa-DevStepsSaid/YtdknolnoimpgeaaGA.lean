/- Walks and plain laws of this claim, merged: R05, KRes, R05b, R05c, R05d, R05e, R05f, R05g, R05h, R05i. -/
import Derived.Test.YtdknolnoimpgeaaKS05
import Derived.Test.YtdknolnoimpgeaaKSec
namespace Go.Proofs.Ytdknolnoimpgeaa.K
open Go.RowKit Go.Proofs.YtdknolnoimpgeaaW.PrintWords Go.Proofs.YtdknolnoimpgeaaW.PrintLast Go.Proofs.YtdknolnoimpgeaaW.PrintMore
set_option linter.unusedVariables false
set_option linter.unusedSimpArgs false
set_option maxHeartbeats 4000000 in
set_option maxRecDepth 100000 in
theorem refLay_walk (base : Nat) (A : Option Addr) (c : Nat) (l : List Sl) (at_ : Int) (Ax : Option Addr) (cx : Nat) (lx : List Int) (w : World) (hr : Keeps kSl base w A l) (h0 : 0 ≤ at_) (h1 : at_ < l.length) (hl : l.length ≤ 1000000) :
    Calls Try.prog 131 #[.slice A l.length c, .agg #[.int .i64 at_, .slice Ax lx.length cx]] w fun e w' => ∃ A' c', e = .returned (.slice A' l.length c') ∧ Keeps kSl base w' A' (l.set at_.toNat ⟨Ax, cx, lx⟩) ∧ Below w.heap.size w w' := by
  have HR := Aside0.mk hr.now
  have HB := Aside0.mk (Below.refl w.heap.size w)
  have HL := Aside0.mk hl
  obtain ⟨m, hm⟩ : ∃ m : Nat, at_ = m := ⟨at_.toNat, by omega⟩
  subst hm
  obtain ⟨n, hn⟩ : ∃ n, n = l.length := ⟨_, rfl⟩
  have HN := Aside0.mk hn
  obtain ⟨nx, hnx⟩ : ∃ n, n = lx.length := ⟨_, rfl⟩
  have HNX := Aside0.mk hnx
  have hml : m < n := by omega
  rw [← hn] at HR ⊢
  rw [← hnx]
  clear hr h0 h1 hl hn hnx
  go_enter Try.func131, Try.ntmps131
  go_wp2_with (first | ((with_reducible refine gate_dst (N := 6) rfl ?_); refine Kd.R_lit kSl _ TBs ?hg (N := 6) ?hd (xs := ([] : List Sl)) (inner := []) (ok := fun _ => True) (okp := fun _ => True) ?hr ?hp (fun _ hk => hk) trivial (Below.refl _ _) (Nat.le_refl _) (by simp) ?_; (case hd => rfl); (case hg => rfl); (case hr => first | (go_simp; done) | (go_simp; rfl)); (case hp => exact (Reps.none _ _)); intro v114 w3 ho4 hb hg_ hnew_; have BX := Aside0.mk ((hg_.block w.heap.size (by simp) (by simp)).trans (heap_alloc_new _ _)); clear hg_ hnew_; have n0_ := Aside0.mk (Kd.R_lower ho4 (below_size (by repeat (first | (with_reducible first | exact HB.out | apply below_alloc | apply pw_below_drewN | apply below_drew1) | exact HB.out)))); have n1_ := Aside0.mk (below_step (by repeat (first | (with_reducible first | exact HB.out | apply below_alloc | apply pw_below_drewN | apply below_drew1) | exact HB.out)) hb); clear HB; have HO1 := n0_; have HB := n1_; clear n0_ n1_; clear hb ho4) | ((with_reducible refine gate_builtin (b := .append) (xs := #[.tmp 6, .tmp 7]) rfl ?_); at_builtin; refine Kd.R_append_rows kSl (w0 := w) w.heap.size rfl (.tmp 6) (.tmp 7) 96 TBs (.slice none 0 0) 24 rfl Try.underlying96 slinfo rfl (by decide) (by omega) v114 [] l _ _ _ (fun _ => True) (fun _ => False) rfl rfl ?aO ?aR (fun _ _ h => h) (fun _ h => h.elim) ?aF ?aB ?aS ?aL ?_; (case aR => exact (Kd.C_below HR.out (by repeat (first | (with_reducible first | exact HB.out | apply below_alloc | apply pw_below_drewN | apply below_drew1) | exact HB.out)))); (case aB => exact (by repeat (first | (with_reducible first | exact HB.out | apply below_alloc | apply pw_below_drewN | apply below_drew1) | exact HB.out))); (case aF => exact (fun _ _ => trivial)); (case aO => exact (by (with_reducible repeat (first | apply Kd.R_alloc | apply Kd.R_drewN | apply Kd.R_drew)); exact HO1.out)); (case aS => exact (below_size (by repeat (first | (with_reducible first | exact HB.out | apply below_alloc | apply pw_below_drewN | apply below_drew1) | exact HB.out)))); (case aL => have h1_ := HL.out; have h2_ := HN.out; simp; omega); intro v123 w11 ho hb hg hat; have b_ := Aside0.mk (blk_grown BX.out hg (Kd.R_ne HO1.out BX.out (by decide))); clear BX; have BX := b_; clear b_; have n0_ := Aside0.mk (hb); have n1_ := Aside0.mk (ho); clear HB; clear HO1; have HB := n0_; have HO2 := n1_; clear n0_ n1_; clear ho hb hg hat; obtain ⟨g8, c8, rfl, hg8, hlt8, _⟩ := Kd.R_form HO2.out (by rw [List.nil_append, ← HN.out]; omega); have e8_ : (([] : List Sl) ++ l).length = n := (by rw [List.nil_append]; exact HN.out.symm); rw [e8_] at HO2; rw [e8_]; rw [List.nil_append] at HO2; clear e8_; have hc8 := Kd.R_celln ⟨none, 0, []⟩ HO2.out (m : Int) (by omega) (by omega); have q8 := hc8.1; have z8 := hc8.2; rw [Int.toNat_natCast] at q8 z8; have HP := Aside0.mk (Kd.R_putg HO2.out (m : Int) ⟨Ax, cx, lx⟩); rw [Int.toNat_natCast] at HP; have y0 := (blk_cell BX.out 0).trans rfl; have y1 := (blk_cell BX.out 1).trans rfl; clear hc8 hlt8))
  go_ret
  rw [HN.out] at HP
  refine ⟨_, _, rfl, ?_, below_set HB.out (by assumption)⟩
  rw [Int.toNat_natCast, HNX.out]
  exact Keeps.ofR (c := c8) (e := TBs) (by have h9 := HP.out.1; rw [List.length_set]; exact h9) (by decide)
end Go.Proofs.Ytdknolnoimpgeaa.K
namespace Go.Proofs.Ytdknolnoimpgeaa.K
open Go.RowKit Go.Proofs.YtdknolnoimpgeaaW.PrintWords Go.Proofs.YtdknolnoimpgeaaW.PrintLast Go.Proofs.YtdknolnoimpgeaaW.PrintMore
theorem resRow1 {P : Program} {fn : Func} {p : Tmp} {ty : TypeId} (h : fn.results = #[.cell p ty]) (tmps : Array Value) (w : World) (g : Nat) (t : TypeId) (cs : Array Value) (fr : Nat × Nat) (d : TypeDesc)
    (hp : tmps.getD p undef = .pointer (some ⟨g, 0, none⟩)) (hg : w.heap[g]? = some (.cells cs t fr))
    (hu : P.underlying ty = some d) (hd : (match d with | .struct _ | .array _ _ => true | _ => false) = true) (hi : (P.info? ty).map (·.size) = some cs.size) :
    (results fn tmps).run P w = .ok (.agg cs) w := by
  have hp' : tmps[p]?.getD undef = .pointer (some ⟨g, 0, none⟩) := by simpa using hp
  simp [results, h, hp', asAddr, run_loadVar_row w g t ty cs fr d hg hu hd hi]
theorem resRow2 {P : Program} {fn : Func} {p u : Tmp} {ty : TypeId} (h : fn.results = #[.cell p ty, .tmp u]) (tmps : Array Value) (w : World) (g : Nat) (t : TypeId) (cs : Array Value) (fr : Nat × Nat) (d : TypeDesc) (v : Value)
    (hp : tmps.getD p undef = .pointer (some ⟨g, 0, none⟩)) (hv : tmps.getD u undef = v) (hg : w.heap[g]? = some (.cells cs t fr))
    (hu : P.underlying ty = some d) (hd : (match d with | .struct _ | .array _ _ => true | _ => false) = true) (hi : (P.info? ty).map (·.size) = some cs.size) :
    (results fn tmps).run P w = .ok (.tuple #[.agg cs, v]) w := by
  rw [results_cell_tmp h, hp, hv]
  simp [asAddr, run_loadVar_row w g t ty cs fr d hg hu hd hi]
theorem resRow3 {P : Program} {fn : Func} {p u u2 : Tmp} {ty : TypeId} (h : fn.results = #[.cell p ty, .tmp u, .tmp u2]) (tmps : Array Value) (w : World) (g : Nat) (t : TypeId) (cs : Array Value) (fr : Nat × Nat) (d : TypeDesc) (v v2 : Value)
    (hp : tmps.getD p undef = .pointer (some ⟨g, 0, none⟩)) (hv : tmps.getD u undef = v) (hv2 : tmps.getD u2 undef = v2) (hg : w.heap[g]? = some (.cells cs t fr))
    (hu : P.underlying ty = some d) (hd : (match d with | .struct _ | .array _ _ => true | _ => false) = true) (hi : (P.info? ty).map (·.size) = some cs.size) :
    (results fn tmps).run P w = .ok (.tuple #[.agg cs, v, v2]) w := by
  have hp' : tmps[p]?.getD undef = .pointer (some ⟨g, 0, none⟩) := by simpa using hp
  have hv' : tmps[u]?.getD undef = v := by simpa using hv
  have hv2' : tmps[u2]?.getD undef = v2 := by simpa using hv2
  simp [results, h, hp', hv', hv2', Result.andThen, asAddr, run_loadVar_row w g t ty cs fr d hg hu hd hi]
end Go.Proofs.Ytdknolnoimpgeaa.K
namespace Go.Proofs.Ytdknolnoimpgeaa.K
open Go.RowKit Go.Proofs.YtdknolnoimpgeaaW.PrintWords Go.Proofs.YtdknolnoimpgeaaW.PrintLast Go.Proofs.YtdknolnoimpgeaaW.PrintMore
set_option linter.unusedVariables false
set_option linter.unusedSimpArgs false
def burnR (r : RefS) : RefS := if r.off = true ∨ r.left = 0 then { r with off := true } else if 0 < r.left then { r with left := r.left - 1 } else r
def burnK (r : RefS) : Bool := if r.off = true ∨ r.left = 0 then false else true
set_option maxHeartbeats 2000000 in
set_option maxRecDepth 100000 in
theorem refBurn_walk (As : Option Addr) (ns cs : Nat) (Aw : Option Addr) (nw cw : Nat) (r : RefS) (w : World) (hl0 : -9223372036854775808 ≤ r.left) (hl1 : r.left ≤ 9223372036854775807) :
    Calls Try.prog 130 #[.agg (refA r (.slice As ns cs) (.slice Aw nw cw))] w fun e w' => e = .returned (.tuple #[.agg (refA (burnR r) (.slice As ns cs) (.slice Aw nw cw)), .bool (burnK r)]) ∧ Below w.heap.size w w' := by
  obtain ⟨safe, wait, left, wq, fl, off⟩ := r
  simp only at hl0 hl1
  by_cases h0 : off = true
  · subst h0
    have E0 : Aside0 (burnR ⟨safe, wait, left, wq, fl, true⟩ = ⟨safe, wait, left, wq, fl, true⟩) := ⟨by simp [burnR]⟩
    have E1 : Aside0 (burnK ⟨safe, wait, left, wq, fl, true⟩ = false) := ⟨by simp [burnK]⟩
    go_enter Try.func130, Try.ntmps130
    go_wp2_with (first | ((with_reducible refine gate_store (p := 2) rfl ?_); go_loud (refine wpList_store_rowL rfl rfl TRD (.tmp 2) (.tmp 12) rfl (w.heap.size + 1) #[.slice As ns cs, .slice Aw nw cw, .int .i64 left, .int .i64 wq, .int .i64 fl, .bool true] rfl rfl TRD #[.slice none 0 0, .slice none 0 0, .int .i64 0, .int .i64 0, .int .i64 0, .bool false] (heap_at2 (by simp)) (by kernel_rfl) rfl (by simp [Value.oneCell']) ?_; intro w9 bk_ hg_)))
    refine bodyPost_ret (resRow2 rfl _ _ (w.heap.size + 1) TRD #[.slice As ns cs, .slice Aw nw cw, .int .i64 left, .int .i64 wq, .int .i64 fl, .bool true] (0, 0) _ (.bool false) rfl rfl bk_ Try.underlying99 rfl (by kernel_rfl)) rfl ?_
    rw [E0.out, E1.out]
    refine ⟨rfl, ?_⟩
    exact pw_below_grown (below_alloc (below_alloc (Below.refl _ _) _) _) _ (by simp; omega) hg_ (fun k hk => by cases hk; omega)
  have h0 : off = false := by simpa using h0
  subst h0
  by_cases h1 : left = 0
  · have E0 : Aside0 (burnR ⟨safe, wait, left, wq, fl, false⟩ = ⟨safe, wait, left, wq, fl, true⟩) := ⟨by simp [burnR, h1]⟩
    have E1 : Aside0 (burnK ⟨safe, wait, left, wq, fl, false⟩ = false) := ⟨by simp [burnK, h1]⟩
    have hb0 : (left == 0) = true := by simpa using h1
    clear h1
    go_enter Try.func130, Try.ntmps130
    go_wp2_with (first | ((with_reducible refine gate_store (p := 2) rfl ?_); go_loud (refine wpList_store_rowL rfl rfl TRD (.tmp 2) (.tmp 12) rfl (w.heap.size + 1) #[.slice As ns cs, .slice Aw nw cw, .int .i64 left, .int .i64 wq, .int .i64 fl, .bool true] rfl rfl TRD #[.slice none 0 0, .slice none 0 0, .int .i64 0, .int .i64 0, .int .i64 0, .bool false] (heap_at2 (by simp)) (by kernel_rfl) rfl (by simp [Value.oneCell']) ?_; intro w9 bk_ hg_)))
    refine bodyPost_ret (resRow2 rfl _ _ (w.heap.size + 1) TRD #[.slice As ns cs, .slice Aw nw cw, .int .i64 left, .int .i64 wq, .int .i64 fl, .bool true] (0, 0) _ (.bool false) rfl rfl bk_ Try.underlying99 rfl (by kernel_rfl)) rfl ?_
    rw [E0.out, E1.out]
    refine ⟨rfl, ?_⟩
    exact pw_below_grown (below_alloc (below_alloc (Below.refl _ _) _) _) _ (by simp; omega) hg_ (fun k hk => by cases hk; omega)
  have hb0 : (left == 0) = false := by simpa using h1
  by_cases h2 : 0 < left
  · have E0 : Aside0 (burnR ⟨safe, wait, left, wq, fl, false⟩ = ⟨safe, wait, left - 1, wq, fl, false⟩) := ⟨by simp [burnR, h1, h2]⟩
    have E1 : Aside0 (burnK ⟨safe, wait, left, wq, fl, false⟩ = true) := ⟨by simp [burnK, h1]⟩
    have hw : RowKit.wrap64 (left - 1) = left - 1 := by unfold RowKit.wrap64; omega
    clear h1
    go_enter Try.func130, Try.ntmps130
    go_wp2_with (first | ((with_reducible refine gate_store (p := 2) rfl ?_); go_loud (refine wpList_store_rowL rfl rfl TRD (.tmp 2) (.tmp 20) rfl (w.heap.size + 1) #[.slice As ns cs, .slice Aw nw cw, .int .i64 (left - 1), .int .i64 wq, .int .i64 fl, .bool false] rfl rfl TRD #[.slice none 0 0, .slice none 0 0, .int .i64 0, .int .i64 0, .int .i64 0, .bool false] (heap_at2 (by simp)) (by kernel_rfl) rfl (by simp [Value.oneCell']) ?_; intro w9 bk_ hg_)))
    refine bodyPost_ret (resRow2 rfl _ _ (w.heap.size + 1) TRD #[.slice As ns cs, .slice Aw nw cw, .int .i64 (left - 1), .int .i64 wq, .int .i64 fl, .bool false] (0, 0) _ (.bool true) rfl rfl bk_ Try.underlying99 rfl (by kernel_rfl)) rfl ?_
    rw [E0.out, E1.out]
    refine ⟨rfl, ?_⟩
    exact pw_below_grown (below_alloc (below_alloc (Below.refl _ _) _) _) _ (by simp; omega) hg_ (fun k hk => by cases hk; omega)
  · have E0 : Aside0 (burnR ⟨safe, wait, left, wq, fl, false⟩ = ⟨safe, wait, left, wq, fl, false⟩) := ⟨by simp [burnR, h1, h2]⟩
    have E1 : Aside0 (burnK ⟨safe, wait, left, wq, fl, false⟩ = true) := ⟨by simp [burnK, h1]⟩
    clear h1
    go_enter Try.func130, Try.ntmps130
    go_wp2_with (first | ((with_reducible refine gate_store (p := 2) rfl ?_); go_loud (refine wpList_store_rowL rfl rfl TRD (.tmp 2) (.tmp 20) rfl (w.heap.size + 1) #[.slice As ns cs, .slice Aw nw cw, .int .i64 left, .int .i64 wq, .int .i64 fl, .bool false] rfl rfl TRD #[.slice none 0 0, .slice none 0 0, .int .i64 0, .int .i64 0, .int .i64 0, .bool false] (heap_at2 (by simp)) (by kernel_rfl) rfl (by simp [Value.oneCell']) ?_; intro w9 bk_ hg_)))
    refine bodyPost_ret (resRow2 rfl _ _ (w.heap.size + 1) TRD #[.slice As ns cs, .slice Aw nw cw, .int .i64 left, .int .i64 wq, .int .i64 fl, .bool false] (0, 0) _ (.bool true) rfl rfl bk_ Try.underlying99 rfl (by kernel_rfl)) rfl ?_
    rw [E0.out, E1.out]
    refine ⟨rfl, ?_⟩
    exact pw_below_grown (below_alloc (below_alloc (Below.refl _ _) _) _) _ (by simp; omega) hg_ (fun k hk => by cases hk; omega)

end Go.Proofs.Ytdknolnoimpgeaa.K
namespace Go.Proofs.Ytdknolnoimpgeaa.K
open Go.RowKit Go.Proofs.YtdknolnoimpgeaaW.PrintWords Go.Proofs.YtdknolnoimpgeaaW.PrintLast Go.Proofs.YtdknolnoimpgeaaW.PrintMore
set_option linter.unusedVariables false
set_option linter.unusedSimpArgs false
def safeR (r : RefS) (kept : List Bool) : Nat → List Sl
  | 0 => r.safe
  | m + 1 => match r.wait[m]? with
    | some q => if kept.getD m false = true then (safeR r kept m).set q.at_.toNat q.s else safeR r kept m
    | none => safeR r kept m
theorem safeR_length (r : RefS) (kept : List Bool) : ∀ m, (safeR r kept m).length = r.safe.length
  | 0 => rfl
  | m + 1 => by
    unfold safeR
    split
    · split
      · rw [List.length_set]; exact safeR_length r kept m
      · exact safeR_length r kept m
    · exact safeR_length r kept m
theorem safeR_mem {r : RefS} {kept : List Bool} {x : Sl} : ∀ m, x ∈ safeR r kept m → x ∈ r.safe ∨ ∃ q ∈ r.wait, x = q.s
  | 0, h => .inl h
  | m + 1, h => by
    unfold safeR at h
    split at h
    · rename_i q hq
      split at h
      · rcases List.mem_or_eq_of_mem_set h with h | h
        · exact safeR_mem m h
        · exact .inr ⟨q, List.mem_of_getElem? hq, h⟩
      · exact safeR_mem m h
    · exact safeR_mem m h
def crashR (r : RefS) (kept : List Bool) : RefS := { r with safe := safeR r kept r.wait.length, wait := [], left := -1, off := false }
theorem Keeps.below {α : Type} {d : Kd α} {base : Nat} {W W' : World} {A : Option Addr} {l : List α} (h : Keeps d base W A l) (hle : base ≤ W.heap.size) (hb : Below W.heap.size W W') : Keeps d base W' A l := h.step (DFr2.of_below hle hb)
theorem RefD.below {base : Nat} {W W' : World} {r : RefS} {vs vw : Value} (h : RefD base W r vs vw) (hle : base ≤ W.heap.size) (hb : Below W.heap.size W W') : RefD base W' r vs vw := h.step (DFr2.of_below hle hb)
set_option maxHeartbeats 8000000 in
set_option maxRecDepth 100000 in
theorem refCrash_walk (base : Nat) (r : RefS) (vs vw : Value) (Ak : Option Addr) (ck : Nat) (kept : List Bool) (w : World) (h : RefD base w r vs vw) (hbase : base ≤ w.heap.size) (hk : Kd.C Kd.bool w Ak kept.length kept)
    (hsl : r.safe.length ≤ 1000000) (hwl : r.wait.length ≤ 1000000) (hat : ∀ q ∈ r.wait, 0 ≤ q.at_ ∧ q.at_ < r.safe.length) :
    Calls Try.prog 128 #[.agg (refA r vs vw), .slice Ak kept.length ck] w fun e w' => ∃ vs', e = .returned (.agg (refA (crashR r kept) vs' (.slice none 0 0))) ∧ RefD base w' (crashR r kept) vs' (.slice none 0 0) ∧ Below w.heap.size w w' := by
  obtain ⟨As, cs, rfl, hfs⟩ := h.fs
  obtain ⟨Aw, cw, rfl, hfw⟩ := h.fw
  have HES := Aside0.mk h.es
  have HEW := Aside0.mk h.ew
  have HFS := Aside0.mk hfs
  have HFW := Aside0.mk hfw
  have HK := Aside0.mk hk
  have HAT := Aside0.mk hat
  have HSL := Aside0.mk hsl
  have HBS := Aside0.mk hbase
  have HKL : Aside0 (kept.length ≤ 9223372036854775807) := ⟨Kd.C_max hk⟩
  obtain ⟨safe, wait, left, wq, fl, off⟩ := r
  simp only at hwl
  obtain ⟨n, hn⟩ : ∃ n, n = wait.length := ⟨_, rfl⟩
  obtain ⟨ns, hns⟩ : ∃ n, n = safe.length := ⟨_, rfl⟩
  obtain ⟨nk, hnk⟩ : ∃ n, n = kept.length := ⟨_, rfl⟩
  have HN := Aside0.mk hn
  have HNS := Aside0.mk hns
  have HNK := Aside0.mk hnk
  have hn6 : n ≤ 1000000 := by omega
  have HB := Aside0.mk (Below.refl w.heap.size w)
  simp only [← hns, ← hn, ← hnk]
  clear h hfs hfw hk hat hsl hwl hbase hn hns hnk
  obtain ⟨r, hr⟩ : ∃ r : RefS, r = ⟨safe, wait, left, wq, fl, off⟩ := ⟨_, rfl⟩
  have HRR := Aside0.mk hr
  rw [← hr]
  rw [show refA r (.slice As ns cs) (.slice Aw n cw) = #[.slice As ns cs, .slice Aw n cw, .int .i64 left, .int .i64 wq, .int .i64 fl, .bool off] by rw [hr]]
  clear hr
  go_enter Try.func128, Try.ntmps128
  go_wp2
  go_loopw [5, 6] (fun v5 v6 w' => ∃ (m : Nat) (A' : Option Addr) (c' : Nat), v6 = .int .i64 m ∧ v5 = .slice A' ns c' ∧ Aside0 (m ≤ n) ∧ Aside0 (Keeps kSl base w' A' (safeR r kept m)) ∧ Aside0 (w'.heap[w.heap.size]? = some (.cells #[.slice As ns cs, .slice Aw n cw, .int .i64 left, .int .i64 wq, .int .i64 fl, .bool off] TRD (0, 0))) ∧ Aside0 (w'.heap[w.heap.size + 1]? = some (.cells #[.slice none 0 0, .slice none 0 0, .int .i64 0, .int .i64 0, .int .i64 0, .bool false] TRD (0, 0))) ∧ Aside0 (Below w.heap.size w w')) (fun _ i _ => n - (intOf i).toNat)
  case atStart =>
    refine ⟨0, As, cs, rfl, rfl, ⟨Nat.zero_le _⟩, ⟨?_⟩, ⟨blk_alloc (heap_alloc_new _ _) _⟩, ⟨heap_at2 (by simp)⟩, ⟨below_alloc (below_alloc (Below.refl _ _) _) _⟩⟩
    have h := HFS.out.below HBS.out (below_alloc (below_alloc (Below.refl w.heap.size w) (.cells #[.slice As ns cs, .slice Aw n cw, .int .i64 left, .int .i64 wq, .int .i64 fl, .bool off] TRD)) (.cells #[.slice none 0 0, .slice none 0 0, .int .i64 0, .int .i64 0, .int .i64 0, .bool false] TRD))
    rw [HRR.out]
    exact h
  case round =>
    clear HB
    obtain ⟨m, A', c', rfl, rfl, hm, HS, BX, BZ, HB⟩ := hrel
    have hm' := hm.out
    have y0 := (blk_cell BX.out 0).trans rfl
    have y1 := (blk_cell BX.out 1).trans rfl
    have y3 := (blk_cell BX.out 3).trans rfl
    have y4 := (blk_cell BX.out 4).trans rfl
    by_cases hlt : m < n
    · have hml : m < wait.length := by rw [← HN.out]; exact hlt
      have hxat := HAT.out _ (List.getElem_mem hml)
      have HSN : Aside0 (safeR r kept (m + 1) = if kept.getD m false = true then (safeR r kept m).set wait[m].at_.toNat wait[m].s else safeR r kept m) := ⟨by rw [safeR, HRR.out]; simp only; rw [List.getElem?_eq_getElem hml]⟩
      obtain ⟨ad, rfl, hx, hxs⟩ := Kd.at_flatA (Kd.C_below HFW.out.now HB.out) hml
      obtain ⟨x, hxx⟩ : ∃ x, x = wait[m] := ⟨_, rfl⟩
      rw [← hxx] at hx hxs hxat HSN
      have x0 := hx _ rfl
      have x1 := hxs 0 _ rfl
      have hm6 : (m : Int) + 1 ≤ 1000001 := by omega
      clear hx hxs hxx hml
      by_cases hmk : m < nk
      case neg =>
        have hge : nk ≤ m := by omega
        have E0 : Aside0 (safeR r kept (m + 1) = safeR r kept m) := ⟨by rw [HSN.out, if_neg]; rw [List.getD_eq_getElem?_getD, List.getElem?_eq_none (by rw [← HNK.out]; exact hge)]; simp⟩
        have hge' : ((m : Int) < (nk : Int)) = False := by simp; omega
        clear hmk hge x0 x1 hxat
        go_wp2
        exact ⟨⟨m + 1, A', c', rfl, rfl, ⟨by omega⟩, ⟨by rw [E0.out]; exact HS.out⟩, BX, BZ, HB⟩, by simp [intOf]; omega⟩
      obtain ⟨ak, rfl, hkc⟩ := Kd.at_bool (Kd.C_below HK.out HB.out) (m : Int) (by omega) (by rw [← HNK.out]; omega)
      rw [Int.toNat_natCast, show rdOf false kept (m : Int) = kept.getD m false by unfold rdOf; rw [Int.toNat_natCast]] at hkc
      have hnk6 := HKL.out
      rw [← HNK.out] at hnk6
      cases hkv : kept.getD m false with
      | false =>
        have E0 : Aside0 (safeR r kept (m + 1) = safeR r kept m) := ⟨by rw [HSN.out, hkv]; simp⟩
        rw [hkv] at hkc
        clear hkv
        go_wp2
        exact ⟨⟨m + 1, A', c', rfl, rfl, ⟨by omega⟩, ⟨by rw [E0.out]; exact HS.out⟩, BX, BZ, HB⟩, by simp [intOf]; omega⟩
      | true =>
        have E0 : Aside0 (safeR r kept (m + 1) = (safeR r kept m).set x.at_.toNat x.s) := ⟨by rw [HSN.out, hkv]; simp⟩
        rw [hkv] at hkc
        have hrl : (safeR r kept m).length = ns := by rw [safeR_length, HRR.out]; exact HNS.out.symm
        have WL := Aside0.mk (refLay_walk base A' c' (safeR r kept m) x.at_ x.s.A x.s.c x.s.l wr HS.out hxat.1 (by rw [hrl, HNS.out]; exact hxat.2) (by rw [hrl, HNS.out]; exact HSL.out))
        rw [hrl] at WL
        obtain ⟨xa, hxa⟩ : ∃ xa, xa = x.at_ := ⟨_, rfl⟩
        obtain ⟨xn, hxn⟩ : ∃ xn, xn = x.s.l.length := ⟨_, rfl⟩
        rw [← hxa, ← hxn] at WL
        have x1' : wr.cell? ⟨(ad.add (m * 2)).block, (ad.add (m * 2)).off + (0 + 1), none⟩ = some (.slice x.s.A xn x.s.c) := by rw [hxn]; exact x1
        rw [← hxa] at x0 E0
        clear x1 hkv hrl hxat hxa hxn
        go_wp2_with (go_at_call 131; go_loud (with_reducible refine WL.out.mono ?_); go_loud (rintro e w6 ⟨A6, c6, rfl, hK, hb⟩; have K6 := Aside0.mk hK; have BX6 := Aside0.mk (blk_below BX.out hb); have BZ6 := Aside0.mk (blk_below BZ.out hb); have HB6 := Aside0.mk (below_step HB.out hb); clear hK hb BX BZ HB HS))
        exact ⟨⟨m + 1, A6, c6, rfl, rfl, ⟨by omega⟩, ⟨by rw [E0.out]; exact K6.out⟩, BX6, BZ6, HB6⟩, by simp [intOf]; omega⟩
    · have hmn : m = n := by omega
      subst hmn
      go_wp2_with ((with_reducible refine gate_store (p := 4) rfl ?_); go_loud (refine wpList_store_rowL rfl rfl TRD (.tmp 4) (.tmp 38) rfl (w.heap.size + 1) #[.slice A' ns c', .slice none 0 0, .int .i64 (-1), .int .i64 wq, .int .i64 fl, .bool false] rfl rfl TRD #[.slice none 0 0, .slice none 0 0, .int .i64 0, .int .i64 0, .int .i64 0, .bool false] (BZ.out) (by kernel_rfl) rfl (by simp [Value.oneCell']) ?_; intro w9 bk_ hg_))
      have HBf := pw_below_grown HB.out _ HB.out.size hg_ (fun k hk => by cases hk; omega)
      have hW : base ≤ wr.heap.size := Nat.le_trans HBS.out HB.out.size
      have hF : DFr2 base wr w9 := DFr2.grown hW hg_ (fun k hk => by cases hk; exact ⟨by have := HBS.out; omega, _, _, BZ.out, by decide⟩)
      have hF0 : DFr2 base w w9 := (DFr2.of_below HBS.out HB.out).trans hF
      refine bodyPost_ret (resRow1 rfl _ _ (w.heap.size + 1) TRD #[.slice A' ns c', .slice none 0 0, .int .i64 (-1), .int .i64 wq, .int .i64 fl, .bool false] (0, 0) _ rfl bk_ Try.underlying99 rfl (by kernel_rfl)) rfl ?_
      have hl : (crashR r kept).safe = safeR r kept m := by rw [HRR.out]; simp only [crashR]; rw [← HN.out]
      refine ⟨.slice A' ns c', by rw [HRR.out]; rfl, ⟨⟨A', c', ?_, ?_⟩, ⟨none, 0, rfl, fun W' _ => Kd.C_nil _ _⟩, ?_, fun q hq => by cases hq⟩, HBf⟩
      · rw [hl, safeR_length, HRR.out]; simp only; rw [← HNS.out]
      · rw [hl]; exact HS.out.step hF
      · intro x hx
        rw [hl] at hx
        rcases safeR_mem _ hx with hx | ⟨q, hq, rfl⟩
        · exact (HES.out x (by rw [HRR.out] at hx; exact hx)).step hF0
        · exact (HEW.out q (by rw [HRR.out] at hq; exact hq)).step hF0
end Go.Proofs.Ytdknolnoimpgeaa.K
namespace Go.Proofs.Ytdknolnoimpgeaa.K
open Go.RowKit Go.Proofs.YtdknolnoimpgeaaW.PrintWords Go.Proofs.YtdknolnoimpgeaaW.PrintLast Go.Proofs.YtdknolnoimpgeaaW.PrintMore
set_option linter.unusedVariables false
set_option linter.unusedSimpArgs false
/-- What a sector was written last, of the first m writes. -/
def lastR (r : RefS) (i : Nat) : Nat → Sl
  | 0 => r.safe.getD i ⟨none, 0, []⟩
  | m + 1 => match r.wait[m]? with
    | some q => if q.at_ = i then q.s else lastR r i m
    | none => lastR r i m
theorem lastR_mem {r : RefS} {i : Nat} (hi : i < r.safe.length) : ∀ m, (∃ x ∈ r.safe, lastR r i m = x) ∨ ∃ q ∈ r.wait, lastR r i m = q.s
  | 0 => .inl ⟨r.safe[i], List.getElem_mem hi, by simp [lastR, hi]⟩
  | m + 1 => by
    unfold lastR
    split
    · rename_i q hq
      split
      · exact .inr ⟨q, List.mem_of_getElem? hq, rfl⟩
      · exact lastR_mem hi m
    · exact lastR_mem hi m
/-- A disk of the reference as it may be behind k calls. -/
structure RefWf (r : RefS) (k : Nat) : Prop where
  l0 : -1 ≤ r.left
  l1 : r.left ≤ 9223372036854775807
  w0 : 0 ≤ r.wr
  w1 : r.wr ≤ k
  f0 : 0 ≤ r.fl
  f1 : r.fl ≤ k
  wl : r.wait.length ≤ k
  at_ : ∀ q ∈ r.wait, 0 ≤ q.at_ ∧ q.at_ < r.safe.length
  s64 : ∀ x ∈ r.safe, x.l.length = 64
  w64 : ∀ q ∈ r.wait, q.s.l.length = 64
theorem RefWf.last {r : RefS} {k : Nat} (h : RefWf r k) {i : Nat} (hi : i < r.safe.length) (m : Nat) : (lastR r i m).l.length = 64 := by
  rcases lastR_mem (r := r) hi m with ⟨x, hx, e⟩ | ⟨q, hq, e⟩
  · rw [e]; exact h.s64 x hx
  · rw [e]; exact h.w64 q hq
theorem RefD.last {base : Nat} {W : World} {r : RefS} {vs vw : Value} (h : RefD base W r vs vw) {i : Nat} (hi : i < r.safe.length) (m : Nat) : Keeps (Kd.int .u8) base W (lastR r i m).A (lastR r i m).l := by
  rcases lastR_mem (r := r) hi m with ⟨x, hx, e⟩ | ⟨q, hq, e⟩
  · rw [e]; exact h.es x hx
  · rw [e]; exact h.ew q hq
theorem at_sl {W : World} {A : Option Addr} {n : Nat} {xs : List Sl} (h : Kd.C kSl W A n xs) {j : Nat} (hj : j < xs.length) : ∃ ad, A = some ad ∧ W.cell? (ad.add j) = some xs[j].enc := by
  have hm := h.1
  obtain ⟨ad, he, hx⟩ := h.2.2 (by omega)
  obtain ⟨cs, hl, hk, hc⟩ := hx j xs[j] (List.getElem?_eq_getElem hj)
  have hk : cs = [xs[j].enc] := hk
  subst hk
  have h2 : W.cell? (ad.add (j * 1 + 0)) = some xs[j].enc := hc 0 _ rfl
  rw [Nat.mul_one, Nat.add_zero] at h2
  exact ⟨ad, he, h2⟩
set_option maxHeartbeats 8000000 in
set_option maxRecDepth 100000 in
theorem refLast_walk (base : Nat) (r : RefS) (vs vw : Value) (i : Int) (w : World) (h : RefD base w r vs vw) {k : Nat} (hwf : RefWf r k) (hk : k ≤ 1000000) (h0 : 0 ≤ i) (h1 : i < r.safe.length) (hs : r.safe.length ≤ 1000000) :
    Calls Try.prog 129 #[.agg (refA r vs vw), .int .i64 i] w fun e w' => ∃ v : Value, e = .returned v ∧ Kd.R (Kd.int .u8) 5 w' w.heap.size (fun _ => True) v (lastR r i.toNat r.wait.length).l ∧ Below w.heap.size w w' := by
  obtain ⟨As, cs, rfl, hfs⟩ := h.fs
  obtain ⟨Aw, cw, rfl, hfw⟩ := h.fw
  obtain ⟨j, rfl⟩ : ∃ j : Nat, i = j := ⟨i.toNat, by omega⟩
  have hj : j < r.safe.length := by omega
  rw [Int.toNat_natCast]
  have HR := Aside0.mk h
  have HWF := Aside0.mk hwf
  have HFS := Aside0.mk hfs
  have HFW := Aside0.mk hfw
  have HJ := Aside0.mk hj
  have hwl := hwf.wl
  obtain ⟨n, hn⟩ : ∃ n, n = r.wait.length := ⟨_, rfl⟩
  obtain ⟨ns, hns⟩ : ∃ n, n = r.safe.length := ⟨_, rfl⟩
  have HN := Aside0.mk hn
  have HNS := Aside0.mk hns
  have hn6 : n ≤ 1000000 := by omega
  have hjn : j < ns := by omega
  have HB := Aside0.mk (Below.refl w.heap.size w)
  obtain ⟨safe, wait, left, wq, fl, off⟩ := r
  simp only at hwl hs h1 hj HFS HFW hn hns
  simp only [← hns, ← hn]
  obtain ⟨r, hr⟩ : ∃ r : RefS, r = ⟨safe, wait, left, wq, fl, off⟩ := ⟨_, rfl⟩
  have HRR := Aside0.mk hr
  obtain ⟨ad, rfl, hs0⟩ := at_sl hfs.now hj
  have hX0 : lastR r j 0 = safe[j] := by rw [hr]; simp [lastR, hj]
  rw [← hX0, Sl.enc] at hs0
  have h64 : (lastR r j 0).l.length = 64 := by rw [hr]; exact hwf.last hj 0
  rw [h64] at hs0
  have hlt0 := World.block_lt_of_cell? _ _ hs0
  rw [← hr] at hwf h HR HWF ⊢
  rw [show refA r (.slice (some ad) ns cs) (.slice Aw n cw) = #[.slice (some ad) ns cs, .slice Aw n cw, .int .i64 left, .int .i64 wq, .int .i64 fl, .bool off] by rw [hr]]
  clear h hwf hfs hfw hr hs h1 h0 hwl hn hns hX0 h64 hj
  go_enter Try.func129, Try.ntmps129
  go_wp2
  go_loopw [5, 6] (fun v5 v6 w' => ∃ m : Nat, v6 = .int .i64 m ∧ v5 = .slice (lastR r j m).A 64 (lastR r j m).c ∧ Aside0 (m ≤ n) ∧ Aside0 (w'.heap[w.heap.size]? = some (.cells #[.slice (some ad) ns cs, .slice Aw n cw, .int .i64 left, .int .i64 wq, .int .i64 fl, .bool off] TRD (0, 0))) ∧ Aside0 (Below w.heap.size w w')) (fun _ i _ => n - (intOf i).toNat)
  case atStart => exact ⟨0, rfl, rfl, ⟨Nat.zero_le _⟩, ⟨heap_alloc_new _ _⟩, ⟨below_alloc HB.out _⟩⟩
  case round =>
    clear HB hs0 hlt0
    obtain ⟨m, rfl, rfl, hm, BX, HB⟩ := hrel
    have hm' := hm.out
    have y0 := (blk_cell BX.out 0).trans rfl
    have y1 := (blk_cell BX.out 1).trans rfl
    by_cases hlt : m < n
    · have hml : m < wait.length := by rw [← HN.out]; exact hlt
      obtain ⟨ad2, rfl, hx, hxs⟩ := Kd.at_flatA (Kd.C_below HFW.out.now HB.out) hml
      have HSN : Aside0 (lastR r j (m + 1) = if wait[m].at_ = j then wait[m].s else lastR r j m) := ⟨by rw [lastR, HRR.out]; simp only; rw [List.getElem?_eq_getElem hml]⟩
      have h64 : wait[m].s.l.length = 64 := by have := HWF.out.w64; rw [HRR.out] at this; exact this _ (List.getElem_mem hml)
      obtain ⟨x, hxx⟩ : ∃ x, x = wait[m] := ⟨_, rfl⟩
      rw [← hxx] at hx hxs HSN h64
      have x0 := hx _ rfl
      have x1 := hxs 0 (.slice x.s.A 64 x.s.c) (by rw [RP.enc, Sl.enc, h64]; rfl)
      clear hx hxs hxx hml h64
      by_cases hq : x.at_ = j
      · have E0 : Aside0 (lastR r j (m + 1) = x.s) := ⟨by rw [HSN.out, if_pos hq]⟩
        rw [hq] at x0
        clear hq
        go_wp2
        exact ⟨⟨m + 1, rfl, by rw [E0.out], ⟨by omega⟩, BX, HB⟩, by simp [intOf]; omega⟩
      · have E0 : Aside0 (lastR r j (m + 1) = lastR r j m) := ⟨by rw [HSN.out, if_neg hq]⟩
        have hqb : (x.at_ == (j : Int)) = false := by simpa using hq
        clear hq
        go_wp2
        exact ⟨⟨m + 1, rfl, by rw [E0.out], ⟨by omega⟩, BX, HB⟩, by simp [intOf]; omega⟩
    · have hmn : m = n := by omega
      subst hmn
      have hL : (lastR r j m).l.length = 64 := HWF.out.last (by rw [HRR.out]; exact HJ.out) m
      have HC : Aside0 (Kd.C (Kd.int .u8) w (lastR r j m).A 64 (lastR r j m).l) := ⟨by
        have h2 := HR.out.last (by rw [HRR.out]; exact HJ.out) m (i := j)
        have h3 := h2.now
        rwa [hL] at h3⟩
      obtain ⟨X, hX⟩ : ∃ X, X = lastR r j m := ⟨_, rfl⟩
      have HXE := Aside0.mk hX
      rw [← hX] at HC ⊢
      have HXL : Aside0 (X.l.length = 64) := ⟨by rw [hX]; exact hL⟩
      clear hL hX hlt
      go_wp2_with (first | ((with_reducible refine gate_dst (N := 33) rfl ?_); refine Kd.R_lit (Kd.int .u8) _ 5 ?hg (N := 33) ?hd (xs := ([] : List Int)) (inner := []) (ok := fun _ => True) (okp := fun _ => True) ?hr ?hp (fun _ hk => hk) trivial (Below.refl _ _) (Nat.le_refl _) (by simp) ?_; (case hd => rfl); (case hg => rfl); (case hr => first | (go_simp; done) | (go_simp; rfl)); (case hp => exact (Reps.none _ _)); intro v114 w3 ho4 hb hg_ hnew_; clear hg_ hnew_; have n0_ := Aside0.mk (Kd.R_lower ho4 (below_size (by repeat (first | (with_reducible first | exact HB.out | apply below_alloc | apply pw_below_drewN | apply below_drew1) | exact HB.out)))); have n1_ := Aside0.mk (below_step (by repeat (first | (with_reducible first | exact HB.out | apply below_alloc | apply pw_below_drewN | apply below_drew1) | exact HB.out)) hb); clear HB; have HO1 := n0_; have HB := n1_; clear n0_ n1_; clear hb ho4) | ((with_reducible refine gate_builtin (b := .append) (xs := #[.tmp 33, .tmp 34]) rfl ?_); at_builtin; go_loud (refine Kd.R_append_rows (Kd.int .u8) (w0 := w) w.heap.size rfl (.tmp 33) (.tmp 34) 24 5 (.int .u8 0) 1 rfl Try.underlying24 u8info rfl (by decide) (by omega) v114 [] X.l _ _ _ (fun _ => True) (fun _ => False) rfl rfl ?aO ?aR (fun _ _ h => h) (fun _ h => h.elim) ?aF ?aB ?aS ?aL ?_); (case aR => exact (Kd.C_below HC.out (by repeat (first | (with_reducible first | exact HB.out | apply below_alloc | apply pw_below_drewN | apply below_drew1) | exact HB.out)))); (case aB => exact (by repeat (first | (with_reducible first | exact HB.out | apply below_alloc | apply pw_below_drewN | apply below_drew1) | exact HB.out))); (case aF => exact (fun _ _ => trivial)); (case aO => exact (by (with_reducible repeat (first | apply Kd.R_alloc | apply Kd.R_drewN | apply Kd.R_drew)); exact HO1.out)); (case aS => exact (below_size (by repeat (first | (with_reducible first | exact HB.out | apply below_alloc | apply pw_below_drewN | apply below_drew1) | exact HB.out)))); (case aL => simp); intro v123 w11 ho hb hg hat; have n0_ := Aside0.mk (hb); have n1_ := Aside0.mk (ho); clear HB; clear HO1; have HB := n0_; have HO2 := n1_; clear n0_ n1_; clear ho hb hg hat))
      go_ret
      exact ⟨_, rfl, by rw [← HXE.out]; exact HO2.out, HB.out⟩
end Go.Proofs.Ytdknolnoimpgeaa.K
namespace Go.Proofs.Ytdknolnoimpgeaa.K
open Go.RowKit Go.Proofs.YtdknolnoimpgeaaW.PrintWords Go.Proofs.YtdknolnoimpgeaaW.PrintLast Go.Proofs.YtdknolnoimpgeaaW.PrintMore
set_option linter.unusedVariables false
set_option linter.unusedSimpArgs false
def flatR (r : RefS) (m : Nat) : List Int := (r.safe.take m).flatMap (·.l)
theorem flatR_length {r : RefS} {k : Nat} (h : RefWf r k) : ∀ {m : Nat}, m ≤ r.safe.length → (flatR r m).length = 64 * m := by
  intro m hm
  unfold flatR
  rw [List.length_flatMap, List.map_congr_left (g := fun _ => 64) (fun x hx => h.s64 x (List.mem_of_mem_take hx))]
  rw [List.map_const', List.sum_replicate_nat, List.length_take]
  omega
def lastsR (r : RefS) (m : Nat) : List Int := (List.range m).flatMap fun i => (lastR r i r.wait.length).l
theorem lastsR_length {r : RefS} {k : Nat} (h : RefWf r k) : ∀ {m : Nat}, m ≤ r.safe.length → (lastsR r m).length = 64 * m := by
  intro m hm
  unfold lastsR
  rw [List.length_flatMap, List.map_congr_left (g := fun _ => 64) (fun i hi => h.last (by have := List.mem_range.1 hi; omega) _)]
  rw [List.map_const', List.sum_replicate_nat, List.length_range]
  omega
def waitsR (r : RefS) (m : Nat) : List Int := (r.wait.take m).map (·.at_)
set_option maxHeartbeats 8000000 in
set_option maxRecDepth 100000 in
theorem refSafe_walk (base : Nat) (r : RefS) (vs vw : Value) (w : World) (h : RefD base w r vs vw) {k : Nat} (hwf : RefWf r k) (hk : k ≤ 1000000) (hs : r.safe.length ≤ 1000000) (hbase : base ≤ w.heap.size) :
    Calls Try.prog 88 #[.agg (refA r vs vw)] w fun e w' => ∃ v : Value, e = .returned v ∧ Kd.R (Kd.int .u8) 5 w' w.heap.size (fun _ => True) v (flatR r r.safe.length) ∧ Below w.heap.size w w' := by
  obtain ⟨As, cs, rfl, hfs⟩ := h.fs
  obtain ⟨Aw, cw, rfl, hfw⟩ := h.fw
  have HR := Aside0.mk h
  have HWF := Aside0.mk hwf
  have HFS := Aside0.mk hfs
  have HFW := Aside0.mk hfw
  have HKK := Aside0.mk hk
  have HBS := Aside0.mk hbase
  have HSS := Aside0.mk hs
  have hwl := hwf.wl
  obtain ⟨n, hn⟩ : ∃ n, n = r.wait.length := ⟨_, rfl⟩
  obtain ⟨ns, hns⟩ : ∃ n, n = r.safe.length := ⟨_, rfl⟩
  have HN := Aside0.mk hn
  have HNS := Aside0.mk hns
  have hn6 : n ≤ 1000000 := by omega
  have hns6 : ns ≤ 1000000 := by omega
  have HB := Aside0.mk (Below.refl w.heap.size w)
  obtain ⟨safe, wait, left, wq, fl, off⟩ := r
  simp only at HFS HFW hn hns HN HNS
  simp only [← hns, ← hn]
  obtain ⟨r, hr⟩ : ∃ r : RefS, r = ⟨safe, wait, left, wq, fl, off⟩ := ⟨_, rfl⟩
  have HRR := Aside0.mk hr
  rw [← hr] at HR HWF ⊢
  rw [show refA r (.slice As ns cs) (.slice Aw n cw) = #[.slice As ns cs, .slice Aw n cw, .int .i64 left, .int .i64 wq, .int .i64 fl, .bool off] by rw [hr]]
  clear h hwf hfs hfw hr hwl hn hns hk hs hbase
  go_enter Try.func88, Try.ntmps88
  go_wp2_with ((with_reducible refine gate_dst (N := 5) rfl ?_); refine Kd.R_lit (Kd.int .u8) _ 5 ?hg (N := 5) ?hd (xs := ([] : List Int)) (inner := []) (ok := fun _ => True) (okp := fun _ => True) ?hr ?hp (fun _ hk => hk) trivial (Below.refl _ _) (Nat.le_refl _) (by simp) ?_; (case hd => rfl); (case hg => rfl); (case hr => first | (go_simp; done) | (go_simp; rfl)); (case hp => exact (Reps.none _ _)); intro v114 w3 ho4 hb hg_ hnew_; have BX := Aside0.mk ((hg_.block w.heap.size (by simp) (by simp)).trans (heap_alloc_new _ _)); clear hg_ hnew_; have n0_ := Aside0.mk (Kd.R_lower ho4 (below_size (by repeat (first | (with_reducible first | exact HB.out | apply below_alloc | apply pw_below_drewN | apply below_drew1) | exact HB.out)))); have n1_ := Aside0.mk (below_step (by repeat (first | (with_reducible first | exact HB.out | apply below_alloc | apply pw_below_drewN | apply below_drew1) | exact HB.out)) hb); clear HB; have HO1 := n0_; have HB := n1_; clear n0_ n1_; clear hb ho4)
  obtain ⟨A0, c0, hv0⟩ := Kd.R_slice HO1.out
  subst hv0
  simp only [List.length_nil] at HO1 ⊢
  go_loopw [3, 4] (fun v3 v4 w' => ∃ (m : Nat) (Av : Option Addr) (nv cv : Nat), v4 = .int .i64 m ∧ v3 = .slice Av nv cv ∧ Aside0 (m ≤ ns) ∧ Aside0 (Kd.R (Kd.int .u8) 5 w' w.heap.size (fun _ => True) (.slice Av nv cv) (flatR r m)) ∧ Aside0 (w'.heap[w.heap.size]? = some (.cells #[.slice As ns cs, .slice Aw n cw, .int .i64 left, .int .i64 wq, .int .i64 fl, .bool off] TRD (0, 0))) ∧ Aside0 (Below w.heap.size w w')) (fun _ i _ => ns - (intOf i).toNat)
  case atStart => exact ⟨0, A0, _, c0, rfl, rfl, ⟨Nat.zero_le _⟩, HO1, BX, HB⟩
  case round =>
    clear HB BX HO1
    obtain ⟨m, Av, nv, cv, rfl, rfl, hm, HO, BX, HB⟩ := hrel
    have hm' := hm.out
    have y0 := (blk_cell BX.out 0).trans rfl
    have y1 := (blk_cell BX.out 1).trans rfl
    have y2 := (blk_cell BX.out 2).trans rfl
    have y3 := (blk_cell BX.out 3).trans rfl
    have y4 := (blk_cell BX.out 4).trans rfl
    have y5 := (blk_cell BX.out 5).trans rfl
    by_cases hlt : m < ns
    · have hml : m < safe.length := by rw [← HNS.out]; exact hlt
      obtain ⟨ad, rfl, hx⟩ := at_sl (Kd.C_below HFS.out.now HB.out) hml
      have h64 : safe[m].l.length = 64 := by have := HWF.out.s64; rw [HRR.out] at this; exact this _ (List.getElem_mem hml)
      have HC : Aside0 (Kd.C (Kd.int .u8) w safe[m].A 64 safe[m].l) := ⟨by have h2 := (HR.out.es safe[m] (by rw [HRR.out]; exact List.getElem_mem hml)).now; rwa [h64] at h2⟩
      have HT := Aside0.mk (show flatR r (m + 1) = flatR r m ++ safe[m].l by unfold flatR; rw [HRR.out]; simp only; rw [List.take_succ_eq_append_getElem hml, List.flatMap_append]; simp)
      have HLN : Aside0 ((flatR r m).length = 64 * m) := ⟨flatR_length HWF.out (by rw [HRR.out]; simp only; omega)⟩
      rw [Sl.enc, h64] at hx
      obtain ⟨x, hxx⟩ : ∃ x, x = safe[m] := ⟨_, rfl⟩
      rw [← hxx] at hx HC HT
      clear h64 hxx hml
      go_wp2_with ((with_reducible refine gate_builtin (b := .append) (xs := #[.tmp 13, .tmp 18]) rfl ?_); at_builtin; refine Kd.R_append_rows (Kd.int .u8) (w0 := w) w.heap.size rfl (.tmp 13) (.tmp 18) 24 5 (.int .u8 0) 1 rfl Try.underlying24 u8info rfl (by decide) (by omega) (.slice Av nv cv) (flatR r m) x.l _ _ _ (fun _ => True) (fun _ => False) rfl rfl ?aO ?aR (fun _ _ h => h) (fun _ h => h.elim) ?aF ?aB ?aS ?aL ?_; (case aR => exact (Kd.C_below HC.out (by repeat (first | (with_reducible first | exact HB.out | apply below_alloc | apply pw_below_drewN | apply below_drew1) | exact HB.out)))); (case aB => exact (by repeat (first | (with_reducible first | exact HB.out | apply below_alloc | apply pw_below_drewN | apply below_drew1) | exact HB.out))); (case aF => exact (fun _ _ => trivial)); (case aO => exact (by (with_reducible repeat (first | apply Kd.R_alloc | apply Kd.R_drewN | apply Kd.R_drew)); exact HO.out)); (case aS => exact (below_size (by repeat (first | (with_reducible first | exact HB.out | apply below_alloc | apply pw_below_drewN | apply below_drew1) | exact HB.out)))); (case aL => rw [HLN.out]; omega); intro v1 w11 ho hb hg hat; have b_ := Aside0.mk (blk_grown BX.out hg (Kd.R_ne HO.out BX.out (by decide))); clear BX; have BX := b_; clear b_; have n0_ := Aside0.mk (hb); have n1_ := Aside0.mk (ho); clear HB; clear HO; have HB := n0_; have HO1 := n1_; clear n0_ n1_; clear ho hb hg hat)
      obtain ⟨A1, c1, hv1⟩ := Kd.R_slice HO1.out
      subst hv1
      exact ⟨⟨m + 1, A1, _, c1, rfl, rfl, ⟨by omega⟩, ⟨by rw [HT.out]; exact HO1.out⟩, BX, HB⟩, by simp [intOf]; omega⟩
    · have hmn : m = ns := by omega
      subst hmn
      clear hlt
      go_wp2
      go_ret
      exact ⟨_, rfl, HO.out, HB.out⟩
set_option maxHeartbeats 8000000 in
set_option maxRecDepth 100000 in
theorem refBytes_walk (base : Nat) (r : RefS) (vs vw : Value) (w : World) (h : RefD base w r vs vw) {k : Nat} (hwf : RefWf r k) (hk : k ≤ 1000000) (hs : r.safe.length ≤ 1000000) (hbase : base ≤ w.heap.size) :
    Calls Try.prog 89 #[.agg (refA r vs vw)] w fun e w' => ∃ v : Value, e = .returned v ∧ Kd.R (Kd.int .u8) 5 w' w.heap.size (fun _ => True) v (lastsR r r.safe.length) ∧ Below w.heap.size w w' := by
  obtain ⟨As, cs, rfl, hfs⟩ := h.fs
  obtain ⟨Aw, cw, rfl, hfw⟩ := h.fw
  have HR := Aside0.mk h
  have HWF := Aside0.mk hwf
  have HFS := Aside0.mk hfs
  have HFW := Aside0.mk hfw
  have HKK := Aside0.mk hk
  have HBS := Aside0.mk hbase
  have HSS := Aside0.mk hs
  have hwl := hwf.wl
  obtain ⟨n, hn⟩ : ∃ n, n = r.wait.length := ⟨_, rfl⟩
  obtain ⟨ns, hns⟩ : ∃ n, n = r.safe.length := ⟨_, rfl⟩
  have HN := Aside0.mk hn
  have HNS := Aside0.mk hns
  have hn6 : n ≤ 1000000 := by omega
  have hns6 : ns ≤ 1000000 := by omega
  have HB := Aside0.mk (Below.refl w.heap.size w)
  obtain ⟨safe, wait, left, wq, fl, off⟩ := r
  simp only at HFS HFW hn hns HN HNS
  simp only [← hns, ← hn]
  obtain ⟨r, hr⟩ : ∃ r : RefS, r = ⟨safe, wait, left, wq, fl, off⟩ := ⟨_, rfl⟩
  have HRR := Aside0.mk hr
  rw [← hr] at HR HWF ⊢
  rw [show refA r (.slice As ns cs) (.slice Aw n cw) = #[.slice As ns cs, .slice Aw n cw, .int .i64 left, .int .i64 wq, .int .i64 fl, .bool off] by rw [hr]]
  clear h hwf hfs hfw hr hwl hn hns hk hs hbase
  go_enter Try.func89, Try.ntmps89
  go_wp2_with ((with_reducible refine gate_dst (N := 5) rfl ?_); refine Kd.R_lit (Kd.int .u8) _ 5 ?hg (N := 5) ?hd (xs := ([] : List Int)) (inner := []) (ok := fun _ => True) (okp := fun _ => True) ?hr ?hp (fun _ hk => hk) trivial (Below.refl _ _) (Nat.le_refl _) (by simp) ?_; (case hd => rfl); (case hg => rfl); (case hr => first | (go_simp; done) | (go_simp; rfl)); (case hp => exact (Reps.none _ _)); intro v114 w3 ho4 hb hg_ hnew_; have BX := Aside0.mk ((hg_.block w.heap.size (by simp) (by simp)).trans (heap_alloc_new _ _)); clear hg_ hnew_; have n0_ := Aside0.mk (Kd.R_lower ho4 (below_size (by repeat (first | (with_reducible first | exact HB.out | apply below_alloc | apply pw_below_drewN | apply below_drew1) | exact HB.out)))); have n1_ := Aside0.mk (below_step (by repeat (first | (with_reducible first | exact HB.out | apply below_alloc | apply pw_below_drewN | apply below_drew1) | exact HB.out)) hb); clear HB; have HO1 := n0_; have HB := n1_; clear n0_ n1_; clear hb ho4)
  obtain ⟨A0, c0, hv0⟩ := Kd.R_slice HO1.out
  subst hv0
  simp only [List.length_nil] at HO1 ⊢
  go_loopw [3, 4] (fun v3 v4 w' => ∃ (m : Nat) (Av : Option Addr) (nv cv : Nat), v4 = .int .i64 m ∧ v3 = .slice Av nv cv ∧ Aside0 (m ≤ ns) ∧ Aside0 (Kd.R (Kd.int .u8) 5 w' w.heap.size (fun _ => True) (.slice Av nv cv) (lastsR r m)) ∧ Aside0 (w'.heap[w.heap.size]? = some (.cells #[.slice As ns cs, .slice Aw n cw, .int .i64 left, .int .i64 wq, .int .i64 fl, .bool off] TRD (0, 0))) ∧ Aside0 (Below w.heap.size w w')) (fun _ i _ => ns - (intOf i).toNat)
  case atStart => exact ⟨0, A0, _, c0, rfl, rfl, ⟨Nat.zero_le _⟩, HO1, BX, HB⟩
  case round =>
    clear HB BX HO1
    obtain ⟨m, Av, nv, cv, rfl, rfl, hm, HO, BX, HB⟩ := hrel
    have hm' := hm.out
    have y0 := (blk_cell BX.out 0).trans rfl
    have y1 := (blk_cell BX.out 1).trans rfl
    have y2 := (blk_cell BX.out 2).trans rfl
    have y3 := (blk_cell BX.out 3).trans rfl
    have y4 := (blk_cell BX.out 4).trans rfl
    have y5 := (blk_cell BX.out 5).trans rfl
    by_cases hlt : m < ns
    · have hml : m < safe.length := by rw [← HNS.out]; exact hlt
      have WL := Aside0.mk (refLast_walk base r (.slice As r.safe.length cs) (.slice Aw r.wait.length cw) m wr (by
        exact HR.out.below HBS.out HB.out) HWF.out HKK.out (by omega) (by rw [HRR.out]; simp only; omega) (by rw [HRR.out]; exact HSS.out))
      rw [Int.toNat_natCast, show r.safe.length = ns by rw [HRR.out]; exact HNS.out.symm, show r.wait.length = n by rw [HRR.out]; exact HN.out.symm, show refA r (.slice As ns cs) (.slice Aw n cw) = #[.slice As ns cs, .slice Aw n cw, .int .i64 left, .int .i64 wq, .int .i64 fl, .bool off] by rw [HRR.out]] at WL
      have h64 : (lastR r m n).l.length = 64 := HWF.out.last (by rw [HRR.out]; exact hml) n
      have HT := Aside0.mk (show lastsR r (m + 1) = lastsR r m ++ (lastR r m n).l by unfold lastsR; rw [List.range_succ, List.flatMap_append, show r.wait.length = n by rw [HRR.out]; exact HN.out.symm]; simp)
      have HLN : Aside0 ((lastsR r m).length = 64 * m) := ⟨lastsR_length HWF.out (by rw [HRR.out]; simp only; omega)⟩
      obtain ⟨x, hxx⟩ : ∃ x, x = (lastR r m n).l := ⟨_, rfl⟩
      rw [← hxx] at WL HT h64
      have HX64 := Aside0.mk h64
      clear h64 hxx hml
      go_wp2_with (first | (go_at_call 129; go_loud (with_reducible refine WL.out.mono ?_); go_loud (rintro e w5 ⟨v5, rfl, ho, hb⟩; have n0_ := Aside0.mk (Kd.R_below HO.out hb); clear HO; have HO := n0_; clear n0_; have b_ := Aside0.mk (blk_below BX.out hb); clear BX; have BX := b_; clear b_; obtain ⟨A5, c5, rfl⟩ := Kd.R_slice ho; have HC : Aside0 (Kd.C (Kd.int .u8) w5 A5 64 x) := ⟨by have h_ := (Kd.R_reads' ho).2.2; rwa [HX64.out] at h_⟩; rw [HX64.out]; have n1_ : Aside0 (Below w.heap.size w w5) := ⟨below_step HB.out hb⟩; clear HB; have HB := n1_; clear n1_ ho hb)) | ((with_reducible refine gate_builtin (b := .append) (xs := #[.tmp 13, .tmp 16]) rfl ?_); at_builtin; refine Kd.R_append_rows (Kd.int .u8) (w0 := w) w.heap.size rfl (.tmp 13) (.tmp 16) 24 5 (.int .u8 0) 1 rfl Try.underlying24 u8info rfl (by decide) (by omega) (.slice Av nv cv) (lastsR r m) x _ _ _ (fun _ => True) (fun _ => False) rfl rfl ?aO ?aR (fun _ _ h => h) (fun _ h => h.elim) ?aF ?aB ?aS ?aL ?_; (case aR => exact HC.out); (case aB => exact (by repeat (first | (with_reducible first | exact HB.out | apply below_alloc | apply pw_below_drewN | apply below_drew1) | exact HB.out))); (case aF => exact (fun _ _ => trivial)); (case aO => exact (by (with_reducible repeat (first | apply Kd.R_alloc | apply Kd.R_drewN | apply Kd.R_drew)); exact HO.out)); (case aS => exact (below_size (by repeat (first | (with_reducible first | exact HB.out | apply below_alloc | apply pw_below_drewN | apply below_drew1) | exact HB.out)))); (case aL => rw [HLN.out]; omega); intro v1 w11 ho hb hg hat; have b_ := Aside0.mk (blk_grown BX.out hg (Kd.R_ne HO.out BX.out (by decide))); clear BX; have BX := b_; clear b_; have n0_ := Aside0.mk (hb); have n1_ := Aside0.mk (ho); clear HB; clear HO; have HB := n0_; have HO1 := n1_; clear n0_ n1_; clear ho hb hg hat))
      obtain ⟨A1, c1, hv1⟩ := Kd.R_slice HO1.out
      subst hv1
      exact ⟨⟨m + 1, A1, _, c1, rfl, rfl, ⟨by omega⟩, ⟨by rw [HT.out]; exact HO1.out⟩, BX, HB⟩, by simp [intOf]; omega⟩
    · have hmn : m = ns := by omega
      subst hmn
      clear hlt
      go_wp2
      go_ret
      exact ⟨_, rfl, HO.out, HB.out⟩
set_option maxHeartbeats 8000000 in
set_option maxRecDepth 100000 in
theorem refWaiting_walk (base : Nat) (r : RefS) (vs vw : Value) (w : World) (h : RefD base w r vs vw) {k : Nat} (hwf : RefWf r k) (hk : k ≤ 1000000) (hs : r.safe.length ≤ 1000000) (hbase : base ≤ w.heap.size) :
    Calls Try.prog 87 #[.agg (refA r vs vw)] w fun e w' => ∃ v : Value, e = .returned v ∧ Kd.R (Kd.int .i64) 3 w' w.heap.size (fun _ => True) v (waitsR r r.wait.length) ∧ Below w.heap.size w w' := by
  obtain ⟨As, cs, rfl, hfs⟩ := h.fs
  obtain ⟨Aw, cw, rfl, hfw⟩ := h.fw
  have HR := Aside0.mk h
  have HWF := Aside0.mk hwf
  have HFS := Aside0.mk hfs
  have HFW := Aside0.mk hfw
  have HKK := Aside0.mk hk
  have HBS := Aside0.mk hbase
  have HSS := Aside0.mk hs
  have hwl := hwf.wl
  obtain ⟨n, hn⟩ : ∃ n, n = r.wait.length := ⟨_, rfl⟩
  obtain ⟨ns, hns⟩ : ∃ n, n = r.safe.length := ⟨_, rfl⟩
  have HN := Aside0.mk hn
  have HNS := Aside0.mk hns
  have hn6 : n ≤ 1000000 := by omega
  have hns6 : ns ≤ 1000000 := by omega
  have HB := Aside0.mk (Below.refl w.heap.size w)
  obtain ⟨safe, wait, left, wq, fl, off⟩ := r
  simp only at HFS HFW hn hns HN HNS
  simp only [← hns, ← hn]
  obtain ⟨r, hr⟩ : ∃ r : RefS, r = ⟨safe, wait, left, wq, fl, off⟩ := ⟨_, rfl⟩
  have HRR := Aside0.mk hr
  rw [← hr] at HR HWF ⊢
  rw [show refA r (.slice As ns cs) (.slice Aw n cw) = #[.slice As ns cs, .slice Aw n cw, .int .i64 left, .int .i64 wq, .int .i64 fl, .bool off] by rw [hr]]
  clear h hwf hfs hfw hr hwl hn hns hk hs hbase
  go_enter Try.func87, Try.ntmps87
  go_wp2_with ((with_reducible refine gate_dst (N := 5) rfl ?_); refine Kd.R_lit (Kd.int .i64) _ 3 ?hg (N := 5) ?hd (xs := ([] : List Int)) (inner := []) (ok := fun _ => True) (okp := fun _ => True) ?hr ?hp (fun _ hk => hk) trivial (Below.refl _ _) (Nat.le_refl _) (by simp) ?_; (case hd => rfl); (case hg => rfl); (case hr => first | (go_simp; done) | (go_simp; rfl)); (case hp => exact (Reps.none _ _)); intro v114 w3 ho4 hb hg_ hnew_; have BX := Aside0.mk ((hg_.block w.heap.size (by simp) (by simp)).trans (heap_alloc_new _ _)); clear hg_ hnew_; have n0_ := Aside0.mk (Kd.R_lower ho4 (below_size (by repeat (first | (with_reducible first | exact HB.out | apply below_alloc | apply pw_below_drewN | apply below_drew1) | exact HB.out)))); have n1_ := Aside0.mk (below_step (by repeat (first | (with_reducible first | exact HB.out | apply below_alloc | apply pw_below_drewN | apply below_drew1) | exact HB.out)) hb); clear HB; have HO1 := n0_; have HB := n1_; clear n0_ n1_; clear hb ho4)
  obtain ⟨A0, c0, hv0⟩ := Kd.R_slice HO1.out
  subst hv0
  simp only [List.length_nil] at HO1 ⊢
  go_loopw [3, 4] (fun v3 v4 w' => ∃ (m : Nat) (Av : Option Addr) (nv cv : Nat), v4 = .int .i64 m ∧ v3 = .slice Av nv cv ∧ Aside0 (m ≤ n) ∧ Aside0 (Kd.R (Kd.int .i64) 3 w' w.heap.size (fun _ => True) (.slice Av nv cv) (waitsR r m)) ∧ Aside0 (w'.heap[w.heap.size]? = some (.cells #[.slice As ns cs, .slice Aw n cw, .int .i64 left, .int .i64 wq, .int .i64 fl, .bool off] TRD (0, 0))) ∧ Aside0 (Below w.heap.size w w')) (fun _ i _ => n - (intOf i).toNat)
  case atStart => exact ⟨0, A0, _, c0, rfl, rfl, ⟨Nat.zero_le _⟩, HO1, BX, HB⟩
  case round =>
    clear HB BX HO1
    obtain ⟨m, Av, nv, cv, rfl, rfl, hm, HO, BX, HB⟩ := hrel
    have hm' := hm.out
    have y0 := (blk_cell BX.out 0).trans rfl
    have y1 := (blk_cell BX.out 1).trans rfl
    have y2 := (blk_cell BX.out 2).trans rfl
    have y3 := (blk_cell BX.out 3).trans rfl
    have y4 := (blk_cell BX.out 4).trans rfl
    have y5 := (blk_cell BX.out 5).trans rfl
    by_cases hlt : m < n
    · have hml : m < wait.length := by rw [← HN.out]; exact hlt
      obtain ⟨ad, rfl, hx, hxs⟩ := Kd.at_flatA (Kd.C_below HFW.out.now HB.out) hml
      have HT := Aside0.mk (show waitsR r (m + 1) = waitsR r m ++ [wait[m].at_] by unfold waitsR; rw [HRR.out]; simp only; rw [List.take_succ_eq_append_getElem hml, List.map_append]; simp)
      have HLN : Aside0 (((waitsR r m).length + 1) * 8 ≤ 140737488355328) := ⟨by unfold waitsR; rw [List.length_map, List.length_take, HRR.out]; simp only; omega⟩
      obtain ⟨x, hxx⟩ : ∃ x, x = wait[m] := ⟨_, rfl⟩
      rw [← hxx] at hx HT
      have x0 := hx _ rfl
      clear hxx hml hx hxs
      go_wp2_with ((with_reducible refine gate_builtin (b := .append) (xs := #[.tmp 13, .tmp 20]) rfl ?_); at_builtin; refine Kd.R_append (Kd.int .i64) (w0 := w) w.heap.size rfl (.tmp 13) (.tmp 20) 50 3 (.int .i64 0) 8 rfl Try.underlying50 intinfo rfl (by decide) (by omega) (.slice Av nv cv) (waitsR r m) x.at_ [.int .i64 x.at_] (fun _ => True) (fun _ => False) rfl rfl ?aP (fun _ hk => hk.elim) ?aF ?aO ?aB ?aS ?aL ?_; (case aP => exact rfl); (case aB => exact (by repeat (first | (with_reducible first | exact HB.out | apply below_alloc | apply pw_below_drewN | apply below_drew1) | exact HB.out))); (case aF => exact (fun _ _ => trivial)); (case aO => exact (by (with_reducible repeat (first | apply Kd.R_alloc | apply Kd.R_drewN | apply Kd.R_drew)); exact HO.out)); (case aS => exact (below_size (by repeat (first | (with_reducible first | exact HB.out | apply below_alloc | apply pw_below_drewN | apply below_drew1) | exact HB.out)))); (case aL => exact HLN.out); intro v1 w11 ho hb hg hat; have b_ := Aside0.mk (blk_grown BX.out hg (Kd.R_ne HO.out BX.out (by decide))); clear BX; have BX := b_; clear b_; have n0_ := Aside0.mk (hb); have n1_ := Aside0.mk (ho); clear HB; clear HO; have HB := n0_; have HO1 := n1_; clear n0_ n1_; clear ho hb hg hat)
      obtain ⟨A1, c1, hv1⟩ := Kd.R_slice HO1.out
      subst hv1
      exact ⟨⟨m + 1, A1, _, c1, rfl, rfl, ⟨by omega⟩, ⟨by rw [HT.out]; exact HO1.out⟩, BX, HB⟩, by simp [intOf]; omega⟩
    · have hmn : m = n := by omega
      subst hmn
      clear hlt
      go_wp2
      go_ret
      exact ⟨_, rfl, HO.out, HB.out⟩
end Go.Proofs.Ytdknolnoimpgeaa.K
namespace Go.Proofs.Ytdknolnoimpgeaa.K
open Go.RowKit Go.Proofs.YtdknolnoimpgeaaW.PrintWords Go.Proofs.YtdknolnoimpgeaaW.PrintLast Go.Proofs.YtdknolnoimpgeaaW.PrintMore
set_option linter.unusedVariables false
set_option linter.unusedSimpArgs false
def chunkR (b : List Int) (i : Nat) : List Int := (b.drop (64 * i)).take 64
theorem chunkR_length {b : List Int} {i : Nat} (h : 64 * i + 64 ≤ b.length) : (chunkR b i).length = 64 := by unfold chunkR; rw [List.length_take, List.length_drop]; omega
theorem R_empty (W : World) (t : TypeId) : Kd.R (Kd.int .u8) t (W.alloc (.cells #[] t)) W.heap.size (fun _ => True) (.slice (some ⟨W.heap.size, 0, none⟩) 0 0) [] :=
  Kd.R_of_own ⟨by simp [encs], .inr ⟨W.heap.size, 0, #[], rfl, Nat.le_refl _, heap_alloc_new _ _, Nat.zero_le _, by decide, by simp, by simp [encs]⟩⟩ (fun _ _ => trivial)
/-- A slice of bytes that is a block of bytes from its head on. -/
def U8 (W : World) (x : Sl) : Prop := ∃ (g : Nat) (cs : Array Value), x.A = some ⟨g, 0, none⟩ ∧ W.heap[g]? = some (.cells cs 5 (0, 0)) ∧ cs.toList.take x.l.length = x.l.map (fun v => Value.int .u8 v) ∧ x.l.length ≤ 9223372036854775807
theorem U8.keeps {W : World} {x : Sl} (h : U8 W x) (base : Nat) : Keeps (Kd.int .u8) base W x.A x.l := by
  obtain ⟨g, cs, hA, bk, hc, hl⟩ := h
  rw [hA]
  exact fun W' hf => Kd.C_blkI (hf.keep g cs _ (0, 0) bk (by decide)) hc hl
theorem U8.below {W W' : World} {x : Sl} (h : U8 W x) (hb : Below W.heap.size W W') : U8 W' x := by
  obtain ⟨g, cs, hA, bk, hc, hl⟩ := h
  exact ⟨g, cs, hA, blk_below bk hb, hc, hl⟩
theorem U8.grown {W W' : World} {x : Sl} (h : U8 W x) {row : Option Nat} (hg : W.grownBy W' row) (hn : ∀ g cs, W.heap[g]? = some (.cells cs 5 (0, 0)) → some g ≠ row) : U8 W' x := by
  obtain ⟨g, cs, hA, bk, hc, hl⟩ := h
  exact ⟨g, cs, hA, blk_grown bk hg (fun e => hn g cs bk e), hc, hl⟩
theorem U8.ofR {W : World} {b : Nat} {ok : Nat → Prop} {A : Option Addr} {n c : Nat} {xs : List Int} (h : (Kd.int .u8).R 5 W b ok (.slice A n c) xs) (h0 : 0 < xs.length) : U8 W ⟨A, c, xs⟩ := by
  obtain ⟨g, c', cs, hv, _, hl, hm, bk, _, ht⟩ := Kd.R_blkS h h0
  cases hv
  exact ⟨g, cs, rfl, bk, ht, Nat.le_trans hl hm⟩
theorem U8.set {W : World} {x : Sl} (h : U8 W x) {k t : Nat} {cs0 : Array Value} (bk0 : W.heap[k]? = some (.cells cs0 t (0, 0))) (ht : t ≠ 5) (j : Nat) (u : Value) : U8 (W.setCell ⟨k, j, none⟩ u) x := by
  obtain ⟨g, cs, hA, bk, hc, hl⟩ := h
  refine ⟨g, cs, hA, (Below.heap_setCell W ⟨k, j, none⟩ u g fun e => ?_).trans bk, hc, hl⟩
  have e : g = k := e
  subst e
  rw [bk] at bk0
  simp only [Option.some.injEq, Obj.cells.injEq] at bk0
  exact ht bk0.2.1.symm
/-- The sectors so far, and where they lie. -/
structure NewR (W : World) (b : List Int) (m : Nat) (L : List Sl) : Prop where
  e : L.map (·.l) = (List.range m).map (chunkR b)
  k : ∀ x ∈ L, U8 W x
theorem NewR.len {W : World} {b : List Int} {m : Nat} {L : List Sl} (h : NewR W b m L) : L.length = m := by have := congrArg List.length h.e; simpa using this
set_option maxHeartbeats 8000000 in
set_option maxRecDepth 100000 in
theorem refNew_walk (base : Nat) (A : Option Addr) (c : Nat) (b : List Int) (w : World) (hr : Kd.C (Kd.int .u8) w A b.length b) (hc : b.length ≤ c) (hl : b.length ≤ 1000000) (hbase : base ≤ w.heap.size) :
    Calls Try.prog 84 #[.slice A b.length c] w fun e w' => ∃ (vs : Value) (L : List Sl), e = .returned (.agg (refA ⟨L, [], -1, 0, 0, false⟩ vs (.slice none 0 0))) ∧ L.map (·.l) = (List.range (b.length / 64)).map (chunkR b) ∧ RefD base w' ⟨L, [], -1, 0, 0, false⟩ vs (.slice none 0 0) ∧ Below w.heap.size w w' := by
  have HR := Aside0.mk hr
  have HB := Aside0.mk (Below.refl w.heap.size w)
  have HL := Aside0.mk hl
  have HC := Aside0.mk hc
  have HBS := Aside0.mk hbase
  obtain ⟨n, hn⟩ : ∃ n, n = b.length := ⟨_, rfl⟩
  have HN := Aside0.mk hn
  have hn1 : n ≤ 1000000 := by omega
  obtain ⟨q, hq⟩ : ∃ q, q = n / 64 := ⟨_, rfl⟩
  have HQ := Aside0.mk hq
  have hq1 : q ≤ 20000 := by omega
  have hdiv : ((n : Int).tdiv 64) = (q : Int) := by rw [hq]; exact (Int.natCast_ediv n 64).symm ▸ (Int.tdiv_eq_ediv_of_nonneg (by omega))
  rw [← hn]
  clear hr hc hl hbase hn hq
  go_enter Try.func84, Try.ntmps84
  go_wp2_with ((with_reducible refine gate_store (p := 3) rfl ?_); go_loud (refine wpList_store_rowL rfl rfl TRD (.tmp 3) (.tmp 5) rfl (w.heap.size + 1) #[.slice none 0 0, .slice none 0 0, .int .i64 (-1), .int .i64 0, .int .i64 0, .bool false] rfl rfl TRD #[.slice none 0 0, .slice none 0 0, .int .i64 0, .int .i64 0, .int .i64 0, .bool false] (heap_at2 (by simp)) (by kernel_rfl) rfl (by simp [Value.oneCell']) ?_; intro w5 bk_ hg_; have BX := Aside0.mk bk_; have BZ : Aside0 (w5.heap[w.heap.size]? = some (.cells #[.slice none 0 0, .slice none 0 0, .int .i64 0, .int .i64 0, .int .i64 0, .bool false] TRD (0, 0))) := ⟨(hg_.block w.heap.size (by simp; omega) (by simp)).trans (blk_alloc (heap_alloc_new _ _) _)⟩; have n_ : Aside0 (Below w.heap.size w w5) := ⟨pw_below_grown (below_alloc (below_alloc (Below.refl _ _) _) _) _ (by simp; omega) hg_ (fun k hk => by cases hk; omega)⟩; clear HB; have HB := n_; clear n_ bk_ hg_))
  go_loopw [4] (fun v4 w' => ∃ (m : Nat) (Av : Option Addr) (nv cv : Nat) (L : List Sl), v4 = .int .i64 m ∧ Aside0 (m ≤ q) ∧ Aside0 (Kd.R kSl TBs w' w.heap.size (fun _ => True) (.slice Av nv cv) L) ∧ Aside0 (NewR w' b m L) ∧ Aside0 (w'.heap[w.heap.size + 1]? = some (.cells #[.slice Av nv cv, .slice none 0 0, .int .i64 (-1), .int .i64 0, .int .i64 0, .bool false] TRD (0, 0))) ∧ Aside0 (w'.heap[w.heap.size]? = some (.cells #[.slice none 0 0, .slice none 0 0, .int .i64 0, .int .i64 0, .int .i64 0, .bool false] TRD (0, 0))) ∧ Aside0 (Below w.heap.size w w')) (fun i _ => q - (intOf i).toNat)
  case atStart => exact ⟨0, none, 0, 0, [], rfl, ⟨Nat.zero_le _⟩, ⟨Kd.R_nil _ _ _ _ _⟩, ⟨⟨rfl, fun x hx => by cases hx⟩⟩, BX, BZ, HB⟩
  case round =>
    clear HB BX BZ
    obtain ⟨m, Av, nv, cv, L, rfl, hm, HO, HE, BX, BZ, HB⟩ := hrel
    have hm' := hm.out
    by_cases hlt : m < q
    · have h64 : 64 * m + 64 ≤ n := by have := HQ.out; omega
      obtain ⟨i0, hi0, hz0⟩ := Option.map_eq_some_iff.1 u8info
      obtain ⟨A', hcut, hC', hle⟩ := cutMid (P := Try.prog) (Kd.int .u8) 24 5 Try.underlying24 hi0 (show i0.size = 1 by simpa using congrArg (fun x => x.2.1) hz0) A c b (64 * m) (64 * m + 64) (by omega) (by rw [← HN.out]; exact h64) HC.out
      rw [show 64 * m + 64 - 64 * m = 64 by omega] at hcut hC'
      rw [← HN.out] at hcut
      have HCH : Aside0 (Kd.C (Kd.int .u8) w A' 64 (chunkR b m)) := ⟨by have h2 := hC' w HR.out; rwa [List.drop_take, show 64 * m + 64 - 64 * m = 64 by omega] at h2⟩
      have hw1 : RowKit.wrap64 (64 * (m : Int)) = 64 * (m : Int) := by unfold RowKit.wrap64; omega
      have hw2 : RowKit.wrap64 (64 * (m : Int) + 64) = 64 * (m : Int) + 64 := by unfold RowKit.wrap64; omega
      have hcut2 : ∀ W : World, (Instr.slice 24 (.slice A n c) (some (.int .i64 (64 * (m : Int)))) (some (.int .i64 (64 * (m : Int) + 64))) none).run Try.prog W = .ok (.slice A' 64 (c - 64 * m)) W := fun W => by
        have h_ := hcut W
        rw [show ((64 * m : Nat) : Int) = 64 * (m : Int) by omega, show ((64 * m + 64 : Nat) : Int) = 64 * (m : Int) + 64 by omega] at h_
        exact h_
      clear hcut
      have hm2 : (m : Int) < (n : Int) / 64 := by omega
      clear hC' hi0 hz0 hle
      have HLM : Aside0 (L.length = m) := ⟨HE.out.len⟩
      have HLIM : Aside0 ((L.length + 1) * 24 ≤ 140737488355328) := ⟨by rw [HE.out.len]; omega⟩
      have HCL : Aside0 ((chunkR b m).length = 64) := ⟨chunkR_length (by rw [← HN.out]; exact h64)⟩
      go_wp2
      refine start_ (n := 15) (S := fun w' => w'.cell? ⟨w.heap.size + 1, 0, none⟩ = some (.slice Av nv cv)) (ds := [12, 14]) #[false, false, false, false, false, false, false, false, false, false, false, false, false, false, false] (by kernel_rfl) rfl rfl (((blk_cell (blk_drew BX.out) 0).trans rfl)) (fun hHeld => ?_)
      refine pure_ (i := 0) (N := some 13) (v := ?_) (a' := ?_) #[true, false, false, false, false, false, false, false, false, false, false, false, false, false, false] rfl rfl (by kernel_rfl) (fun _ _ _ h => h) (Or.inl ⟨by rfl, ?_⟩) ?_ ?_
      rotate_left
      · intro w'
        go_simp
        with_reducible rfl
      rotate_left
      · simp only [Act.put, List.setIfInBounds_toArray, List.set_cons_zero, List.set_cons_succ, i64_w, i32_w]
        rfl
      refine pure_ (i := 3) (N := some 16) (v := ?_) (a' := ?_) #[true, false, false, true, false, false, false, false, false, false, false, false, false, false, false] rfl rfl (by kernel_rfl) (fun _ _ _ h => h) (Or.inl ⟨by rfl, ?_⟩) ?_ ?_
      rotate_left
      · intro w'
        go_simp
        with_reducible rfl
      rotate_left
      · simp only [Act.put, List.setIfInBounds_toArray, List.set_cons_zero, List.set_cons_succ, i64_w, i32_w]
        rfl
      refine pure_ (i := 4) (N := some 17) (v := ?_) (a' := ?_) #[true, false, false, true, true, false, false, false, false, false, false, false, false, false, false] rfl rfl (by kernel_rfl) (fun _ _ _ h => h) (Or.inl ⟨by rfl, ?_⟩) ?_ ?_
      rotate_left
      · intro w'
        go_simp
        with_reducible rfl
      rotate_left
      · simp only [Act.put, List.setIfInBounds_toArray, List.set_cons_zero, List.set_cons_succ, i64_w, i32_w]
        rfl
      refine pure_ (i := 5) (N := some 18) (v := ?_) (a' := ?_) #[true, false, false, true, true, true, false, false, false, false, false, false, false, false, false] rfl rfl (by kernel_rfl) (fun _ _ _ h => h) (Or.inl ⟨by rfl, ?_⟩) ?_ ?_
      rotate_left
      · intro w'
        go_simp
        with_reducible rfl
      rotate_left
      · simp only [Act.put, List.setIfInBounds_toArray, List.set_cons_zero, List.set_cons_succ, i64_w, i32_w]
        rfl
      refine pure_ (i := 6) (N := some 19) (v := ?_) (a' := ?_) #[true, false, false, true, true, true, true, false, false, false, false, false, false, false, false] rfl rfl (by kernel_rfl) (fun _ _ _ h => h) (Or.inl ⟨by rfl, ?_⟩) ?_ ?_
      rotate_left
      · intro w'
        go_simp
        with_reducible rfl
      rotate_left
      · simp only [Act.put, List.setIfInBounds_toArray, List.set_cons_zero, List.set_cons_succ, i64_w, i32_w]
        rfl
      refine pure_ (i := 7) (N := some 20) (v := ?_) (a' := ?_) #[true, false, false, true, true, true, true, true, false, false, false, false, false, false, false] rfl rfl (by kernel_rfl) (fun _ _ _ h => h) (Or.inl ⟨by rfl, ?_⟩) ?_ ?_
      rotate_left
      · intro w'
        go_simp
        with_reducible rfl
      rotate_left
      · simp only [Act.put, List.setIfInBounds_toArray, List.set_cons_zero, List.set_cons_succ, i64_w, i32_w]
        rfl
      refine pure_ (i := 8) (N := some 21) (v := ?_) (a' := ?_) #[true, false, false, true, true, true, true, true, true, false, false, false, false, false, false] rfl rfl (by kernel_rfl) (fun _ _ _ h => h) (Or.inl ⟨by rfl, ?_⟩) ?_ ?_
      rotate_left
      · intro w'
        go_simp
        with_reducible rfl
      rotate_left
      · simp only [Act.put, List.setIfInBounds_toArray, List.set_cons_zero, List.set_cons_succ, i64_w, i32_w]
        rfl
      refine pure_ (i := 9) (N := some 22) (v := ?_) (a' := ?_) #[true, false, false, true, true, true, true, true, true, true, false, false, false, false, false] rfl rfl (by kernel_rfl) (fun _ _ _ h => h) (Or.inl ⟨by rfl, ?_⟩) ?_ ?_
      rotate_left
      · intro w'
        go_simp
        with_reducible rfl
      rotate_left
      · simp only [Act.put, List.setIfInBounds_toArray, List.set_cons_zero, List.set_cons_succ, i64_w, i32_w]
        rfl
      refine take_ (i := 1) (N := some 14) (v := ?_) (a' := ?_) #[true, true, false, true, true, true, true, true, true, true, false, false, false, false, false] rfl rfl (by kernel_rfl) (fun _ _ _ h => h) (Or.inl ⟨by rfl, ?_⟩) hHeld ?_ ?_
      rotate_left
      · intro w' s0
        go_simp
        with_reducible rfl
      rotate_left
      · simp only [Act.put, List.setIfInBounds_toArray, List.set_cons_zero, List.set_cons_succ, i64_w, i32_w]
        rfl
      refine one_ (i := 2) (N := some 15) #[true, true, true, true, true, true, true, true, true, true, false, false, false, false, false] rfl rfl (by kernel_rfl) (by decide) (fun K hK => ?_)
      obtain ⟨w6, hw6⟩ : ∃ w6, w6 = wr.drew := ⟨_, rfl⟩
      rw [← hw6] at hHeld ⊢
      have HW6 : Aside0 (Below wr.heap.size wr w6) := ⟨by rw [hw6]; exact below_drew1 (Below.refl _ _)⟩
      have HS6 : Aside0 (w6.heap.size = wr.heap.size) := ⟨by rw [hw6]; rfl⟩
      clear hw6 hHeld
      refine value_ (w1 := ?_) (v := ?_) (by rfl) rfl ?_ ?_
      rotate_left 2
      · go_simp
        constructor
        · rfl
        · rfl
      refine hK.out _ _ (((blk_cell (blk_below BX.out (below_alloc HW6.out _)) 0).trans rfl)) (fun hHeld => ?_)
      clear hK K
      refine norm_ (a' := ?_) ?_ ?_
      rotate_left
      · show Act.put _ (some 15) _ = _
        simp only [Act.put, List.setIfInBounds_toArray, List.set_cons_zero, List.set_cons_succ, i64_w, i32_w]
        rfl
      refine one_ (i := 10) (N := some 23) #[true, true, true, true, true, true, true, true, true, true, true, false, false, false, false] rfl rfl (by kernel_rfl) (by decide) (fun K hK => ?_)
      have HO7 : Aside0 ((Kd.int .u8).R 5 (w6.alloc (.cells #[] 5)) wr.heap.size (fun _ => True) (.slice (some ⟨w6.heap.size, 0, none⟩) 0 0) []) := ⟨by have h_ := R_empty w6 5; rw [HS6.out] at h_ ⊢; exact h_⟩
      have HW7 : Aside0 (Below wr.heap.size wr (w6.alloc (.cells #[] 5))) := ⟨below_alloc HW6.out _⟩
      clear hHeld
      refine Kd.R_append_rows_step (Kd.int .u8) (w0 := wr) wr.heap.size (by rfl) (.tmp 15) (.tmp 22) 24 5 (.int .u8 0) 1 (by rfl) Try.underlying24 u8info rfl (by decide) (by omega) (.slice (some ⟨w6.heap.size, 0, none⟩) 0 0) [] (chunkR b m) A' 64 (c - 64 * m) (fun _ => True) (fun _ => False) (by rfl) (by rfl) HO7.out (Kd.C_below HCH.out (HB.out.trans (HW7.out.mono HB.out.size))) (fun _ _ h => h) (fun _ h => h.elim) (fun _ _ => trivial) HW7.out HW7.out.size (by simp) ?_
      intro v8 w8 ho8 hb8 hg_ hat_
      clear hg_ hat_ HO7 HW7 HW6 HS6
      rw [List.nil_append] at ho8
      obtain ⟨A8, c8, hv8⟩ := Kd.R_slice ho8
      subst hv8
      have HU8 : Aside0 (U8 w8 ⟨A8, c8, chunkR b m⟩) := ⟨U8.ofR ho8 (by rw [HCL.out]; decide)⟩
      rw [HCL.out]
      have HO8 := Aside0.mk (Kd.R_below HO.out hb8)
      have BX8 := Aside0.mk (blk_below BX.out hb8)
      have BZ8 := Aside0.mk (blk_below BZ.out hb8)
      have HE8 : Aside0 (NewR w8 b m L) := ⟨⟨HE.out.e, fun x hx => (HE.out.k x hx).below hb8⟩⟩
      have HB8 := Aside0.mk (below_step HB.out hb8)
      clear ho8 hb8 HO BX BZ HE HB
      refine hK.out _ _ (((blk_cell BX8.out 0).trans rfl)) (fun hHeld => ?_)
      clear hK K
      refine norm_ (a' := ?_) ?_ ?_
      rotate_left
      · show Act.put _ (some 23) _ = _
        simp only [Act.put, List.setIfInBounds_toArray, List.set_cons_zero, List.set_cons_succ, i64_w, i32_w]
        rfl
      refine one_ (i := 11) (N := some 24) #[true, true, true, true, true, true, true, true, true, true, true, true, false, false, false] rfl rfl (by kernel_rfl) (by decide) (fun K hK => ?_)
      clear hHeld
      refine value_ (w1 := ?_) (v := ?_) (by rfl) rfl ?_ ?_
      rotate_left 2
      · go_simp
        constructor
        · rfl
        · rfl
      refine hK.out _ _ (((blk_cell (blk_alloc BX8.out _) 0).trans rfl)) (fun hHeld => ?_)
      clear hK K
      refine norm_ (a' := ?_) ?_ ?_
      rotate_left
      · show Act.put _ (some 24) _ = _
        simp only [Act.put, List.setIfInBounds_toArray, List.set_cons_zero, List.set_cons_succ, i64_w, i32_w]
        rfl
      refine last_ (i := 12) (N := some 25) #[true, true, true, true, true, true, true, true, true, true, true, true, true, false, false] rfl rfl (by kernel_rfl) (by decide) (fun K hK => ?_)
      refine Kd.R_append_step kSl (w0 := w) w.heap.size (by rfl) (.tmp 14) (.tmp 24) 96 TBs (.slice none 0 0) 24 (by rfl) Try.underlying96 slinfo rfl (by decide) (by omega) (.slice Av nv cv) L ⟨A8, c8, chunkR b m⟩ [.slice A8 64 c8] (fun _ => True) (fun _ => False) (by rfl) (by rfl) (by show _ = [Sl.enc _]; rw [Sl.enc, HCL.out]) (fun _ hk => hk.elim) (fun _ _ => trivial) HO8.out HB8.out HB8.out.size HLIM.out ?_
      intro v9 w9 ho9 hb9 hg9 hat9
      have BX9 := Aside0.mk (blk_grown BX8.out hg9 (Kd.R_ne HO8.out BX8.out (by decide)))
      have BZ9 := Aside0.mk (blk_grown BZ8.out hg9 (Kd.R_ne HO8.out BZ8.out (by decide)))
      have HU9 : Aside0 (∀ x ∈ L ++ [(⟨A8, c8, chunkR b m⟩ : Sl)], U8 w9 x) := ⟨fun x hx => by rcases List.mem_append.1 hx with hx | hx; exact (HE8.out.k x hx).grown hg9 (fun g cs bk => Kd.R_ne HO8.out bk (by decide)); rw [List.mem_singleton.1 hx]; exact HU8.out.grown hg9 (fun g cs bk => Kd.R_ne HO8.out bk (by decide))⟩
      have HO9 := Aside0.mk ho9
      have HB9 := Aside0.mk hb9
      have HE9 := Aside0.mk HE8.out.e
      clear ho9 hb9 hg9 hat9 BX8 BZ8 HU8 HO8 HB8 HE8
      have c9 : w9.cell? ⟨w.heap.size + 1, 0, none⟩ = some (.slice Av nv cv) := (blk_cell BX9.out 0).trans rfl
      have f9 := blk_frozen BX9.out 0
      obtain ⟨A9, n9, q9, hv9⟩ : ∃ A n c, v9 = .slice A n c := by obtain ⟨A, c, h⟩ := Kd.R_slice HO9.out; exact ⟨_, _, _, h⟩
      subst hv9
      refine hK.out _ _ ?_
      clear hK K
      refine norm_ (a' := ?_) ?_ ?_
      rotate_left
      · show Act.put _ (some 25) _ = _
        simp only [Act.put, List.setIfInBounds_toArray, List.set_cons_zero, List.set_cons_succ, i64_w, i32_w]
        rfl
      refine pure_ (i := 13) (N := some 26) (v := ?_) (a' := ?_) #[true, true, true, true, true, true, true, true, true, true, true, true, true, true, false] rfl rfl (by kernel_rfl) (fun _ _ _ h => h) (Or.inl ⟨by rfl, ?_⟩) ?_ ?_
      rotate_left
      · intro w'
        go_simp
        with_reducible rfl
      rotate_left
      · simp only [Act.put, List.setIfInBounds_toArray, List.set_cons_zero, List.set_cons_succ, i64_w, i32_w]
        rfl
      refine last_ (i := 14) (N := none) #[true, true, true, true, true, true, true, true, true, true, true, true, true, true, true] rfl rfl (by kernel_rfl) (by decide) (fun K hK => ?_)
      refine skip_ (w1 := ?_) (by rfl) rfl ?_ ?_
      rotate_left
      · go_simp
        rfl
      refine hK.out _ _ ?_
      clear hK K
      refine done_ (by kernel_rfl) ?_
      go_wp2
      refine ⟨⟨m + 1, A9, n9, q9, L ++ [(⟨A8, c8, chunkR b m⟩ : Sl)], rfl, ⟨by omega⟩, ⟨Kd.R_set HO9.out BX9.out (by decide) 0 _⟩, ⟨⟨?_, fun x hx => (HU9.out x hx).set BX9.out (by decide) 0 _⟩⟩, ⟨blk_set BX9.out 0 _⟩, ⟨(Below.heap_setCell w9 ⟨w.heap.size + 1, 0, none⟩ _ w.heap.size (by simp)).trans BZ9.out⟩, ⟨below_set HB9.out (by show _ ≤ w.heap.size + 1; omega)⟩⟩, by simp [intOf]; omega⟩
      rw [List.map_append, HE9.out, List.range_succ, List.map_append]
      rfl
    · have hmq : m = q := by omega
      subst hmq
      have hge : ¬ (m : Int) < (n : Int) / 64 := by have := HQ.out; omega
      have y0 := (blk_cell BX.out 0).trans rfl
      have y1 := (blk_cell BX.out 1).trans rfl
      have y2 := (blk_cell BX.out 2).trans rfl
      have y3 := (blk_cell BX.out 3).trans rfl
      have y4 := (blk_cell BX.out 4).trans rfl
      have y5 := (blk_cell BX.out 5).trans rfl
      clear hlt
      go_wp2_with ((with_reducible refine gate_store (p := 2) rfl ?_); go_loud (refine wpList_store_rowL rfl rfl TRD (.tmp 2) (.tmp 27) rfl (w.heap.size) #[.slice Av nv cv, .slice none 0 0, .int .i64 (-1), .int .i64 0, .int .i64 0, .bool false] rfl rfl TRD #[.slice none 0 0, .slice none 0 0, .int .i64 0, .int .i64 0, .int .i64 0, .bool false] (BZ.out) (by kernel_rfl) rfl (by simp [Value.oneCell']) ?_; intro w9 bk_ hg_))
      have HBf := pw_below_grown HB.out _ HB.out.size hg_ (fun k hk => by cases hk; omega)
      have hW : base ≤ wr.heap.size := Nat.le_trans HBS.out HB.out.size
      have hF : DFr2 base wr w9 := DFr2.grown hW hg_ (fun k hk => by cases hk; exact ⟨HBS.out, _, _, BZ.out, by decide⟩)
      refine bodyPost_ret (resRow1 rfl _ _ w.heap.size TRD #[.slice Av nv cv, .slice none 0 0, .int .i64 (-1), .int .i64 0, .int .i64 0, .bool false] (0, 0) _ rfl bk_ Try.underlying99 rfl (by kernel_rfl)) rfl ?_
      obtain ⟨hnv, _, _⟩ := Kd.R_reads' HO.out
      subst hnv
      refine ⟨.slice Av L.length cv, L, rfl, ?_, ⟨⟨Av, cv, rfl, (Keeps.ofR HO.out (by decide)).step hF⟩, ⟨none, 0, rfl, fun W' _ => Kd.C_nil _ _⟩, fun x hx => ((HE.out.k x hx).keeps base).step hF, fun q hq => by cases hq⟩, HBf⟩
      rw [HE.out.e, HQ.out, HN.out]
end Go.Proofs.Ytdknolnoimpgeaa.K
namespace Go.Proofs.Ytdknolnoimpgeaa.K
open Go.RowKit Go.Proofs.YtdknolnoimpgeaaW.PrintWords Go.Proofs.YtdknolnoimpgeaaW.PrintLast Go.Proofs.YtdknolnoimpgeaaW.PrintMore
set_option linter.unusedVariables false
set_option linter.unusedSimpArgs false
set_option maxHeartbeats 4000000 in
set_option maxRecDepth 100000 in
theorem refGo3a (As : Option Addr) (ns cs : Nat) (Aw : Option Addr) (nw cw : Nat) (left wq fl : Int) (off : Bool) (at_ : Int) (Ab : Option Addr) (nb cb : Nat) (Ak : Option Addr) (nk ck : Nat) (w : World) (h : at_ < -1) :
    Calls Try.prog 85 #[.agg #[.slice As ns cs, .slice Aw nw cw, .int .i64 left, .int .i64 wq, .int .i64 fl, .bool off], .agg #[.int .i64 3, .int .i64 at_, .slice Ab nb cb, .slice Ak nk ck]] w fun e w' => e = .returned (.tuple #[.agg #[.slice As ns cs, .slice Aw nw cw, .int .i64 (-1), .int .i64 wq, .int .i64 fl, .bool off], .slice none 0 0, .int .i64 0]) ∧ Below w.heap.size w w' := by
  have h_ := h
  go_enter Try.func85, Try.ntmps85
  go_wp2_with (first | ((with_reducible refine gate_store (p := 4) rfl ?_); go_loud (refine wpList_store_rowL rfl rfl TRD (.tmp 4) (.tmp 16) rfl (w.heap.size + 1 + 1) #[.slice As ns cs, .slice Aw nw cw, .int .i64 (-1), .int .i64 wq, .int .i64 fl, .bool off] rfl rfl TRD #[.slice none 0 0, .slice none 0 0, .int .i64 0, .int .i64 0, .int .i64 0, .bool false] (heap_at2 (by simp)) (by kernel_rfl) rfl (by simp [Value.oneCell']) ?_; intro w9 bk_ hg_)))
  refine bodyPost_ret (resRow3 rfl _ _ (w.heap.size + 1 + 1) TRD #[.slice As ns cs, .slice Aw nw cw, .int .i64 (-1), .int .i64 wq, .int .i64 fl, .bool off] (0, 0) _ (.slice none 0 0) (.int .i64 0) rfl rfl rfl bk_ Try.underlying99 rfl (by kernel_rfl)) rfl ?_
  exact ⟨rfl, pw_below_grown (below_alloc (below_alloc (below_alloc (Below.refl _ _) _) _) _) _ (by simp; omega) hg_ (fun k hk => by cases hk; omega)⟩

set_option maxHeartbeats 4000000 in
set_option maxRecDepth 100000 in
theorem refGo3b (As : Option Addr) (ns cs : Nat) (Aw : Option Addr) (nw cw : Nat) (left wq fl : Int) (off : Bool) (at_ : Int) (Ab : Option Addr) (nb cb : Nat) (Ak : Option Addr) (nk ck : Nat) (w : World) (h : at_ = -1) :
    Calls Try.prog 85 #[.agg #[.slice As ns cs, .slice Aw nw cw, .int .i64 left, .int .i64 wq, .int .i64 fl, .bool off], .agg #[.int .i64 3, .int .i64 at_, .slice Ab nb cb, .slice Ak nk ck]] w fun e w' => e = .returned (.tuple #[.agg #[.slice As ns cs, .slice Aw nw cw, .int .i64 (-1), .int .i64 wq, .int .i64 fl, .bool off], .slice none 0 0, .int .i64 0]) ∧ Below w.heap.size w w' := by
  subst h
  go_enter Try.func85, Try.ntmps85
  go_wp2_with (first | ((with_reducible refine gate_store (p := 4) rfl ?_); go_loud (refine wpList_store_rowL rfl rfl TRD (.tmp 4) (.tmp 16) rfl (w.heap.size + 1 + 1) #[.slice As ns cs, .slice Aw nw cw, .int .i64 (-1), .int .i64 wq, .int .i64 fl, .bool off] rfl rfl TRD #[.slice none 0 0, .slice none 0 0, .int .i64 0, .int .i64 0, .int .i64 0, .bool false] (heap_at2 (by simp)) (by kernel_rfl) rfl (by simp [Value.oneCell']) ?_; intro w9 bk_ hg_)))
  refine bodyPost_ret (resRow3 rfl _ _ (w.heap.size + 1 + 1) TRD #[.slice As ns cs, .slice Aw nw cw, .int .i64 (-1), .int .i64 wq, .int .i64 fl, .bool off] (0, 0) _ (.slice none 0 0) (.int .i64 0) rfl rfl rfl bk_ Try.underlying99 rfl (by kernel_rfl)) rfl ?_
  exact ⟨rfl, pw_below_grown (below_alloc (below_alloc (below_alloc (Below.refl _ _) _) _) _) _ (by simp; omega) hg_ (fun k hk => by cases hk; omega)⟩

set_option maxHeartbeats 4000000 in
set_option maxRecDepth 100000 in
theorem refGo3c (As : Option Addr) (ns cs : Nat) (Aw : Option Addr) (nw cw : Nat) (left wq fl : Int) (off : Bool) (at_ : Int) (Ab : Option Addr) (nb cb : Nat) (Ak : Option Addr) (nk ck : Nat) (w : World) (h : -1 < at_) :
    Calls Try.prog 85 #[.agg #[.slice As ns cs, .slice Aw nw cw, .int .i64 left, .int .i64 wq, .int .i64 fl, .bool off], .agg #[.int .i64 3, .int .i64 at_, .slice Ab nb cb, .slice Ak nk ck]] w fun e w' => e = .returned (.tuple #[.agg #[.slice As ns cs, .slice Aw nw cw, .int .i64 at_, .int .i64 wq, .int .i64 fl, .bool off], .slice none 0 0, .int .i64 0]) ∧ Below w.heap.size w w' := by
  have hn2 : ¬ at_ < -1 := by omega
  have hn3 : ¬ at_ ≤ -1 := by omega
  go_enter Try.func85, Try.ntmps85
  go_wp2_with (first | ((with_reducible refine gate_store (p := 4) rfl ?_); go_loud (refine wpList_store_rowL rfl rfl TRD (.tmp 4) (.tmp 16) rfl (w.heap.size + 1 + 1) #[.slice As ns cs, .slice Aw nw cw, .int .i64 at_, .int .i64 wq, .int .i64 fl, .bool off] rfl rfl TRD #[.slice none 0 0, .slice none 0 0, .int .i64 0, .int .i64 0, .int .i64 0, .bool false] (heap_at2 (by simp)) (by kernel_rfl) rfl (by simp [Value.oneCell']) ?_; intro w9 bk_ hg_)))
  refine bodyPost_ret (resRow3 rfl _ _ (w.heap.size + 1 + 1) TRD #[.slice As ns cs, .slice Aw nw cw, .int .i64 at_, .int .i64 wq, .int .i64 fl, .bool off] (0, 0) _ (.slice none 0 0) (.int .i64 0) rfl rfl rfl bk_ Try.underlying99 rfl (by kernel_rfl)) rfl ?_
  exact ⟨rfl, pw_below_grown (below_alloc (below_alloc (below_alloc (Below.refl _ _) _) _) _) _ (by simp; omega) hg_ (fun k hk => by cases hk; omega)⟩

set_option maxHeartbeats 4000000 in
set_option maxRecDepth 100000 in
theorem refGoNeg (As : Option Addr) (ns cs : Nat) (Aw : Option Addr) (nw cw : Nat) (left wq fl : Int) (off : Bool) (at_ : Int) (Ab : Option Addr) (nb cb : Nat) (Ak : Option Addr) (nk ck : Nat) (w : World) (dd : Int) (h3 : (dd == 3) = false) (h4 : (dd == 4) = false) (h2 : (dd != 2) = true) (h : at_ < 0) :
    Calls Try.prog 85 #[.agg #[.slice As ns cs, .slice Aw nw cw, .int .i64 left, .int .i64 wq, .int .i64 fl, .bool off], .agg #[.int .i64 dd, .int .i64 at_, .slice Ab nb cb, .slice Ak nk ck]] w fun e w' => e = .returned (.tuple #[.agg #[.slice As ns cs, .slice Aw nw cw, .int .i64 left, .int .i64 wq, .int .i64 fl, .bool off], .slice none 0 0, .int .i64 3]) ∧ Below w.heap.size w w' := by
  have h_ := h
  go_enter Try.func85, Try.ntmps85
  go_wp2_with (first | ((with_reducible refine gate_store (p := 4) rfl ?_); go_loud (refine wpList_store_rowL rfl rfl TRD (.tmp 4) (.tmp 40) rfl (w.heap.size + 1 + 1) #[.slice As ns cs, .slice Aw nw cw, .int .i64 left, .int .i64 wq, .int .i64 fl, .bool off] rfl rfl TRD #[.slice none 0 0, .slice none 0 0, .int .i64 0, .int .i64 0, .int .i64 0, .bool false] (heap_at2 (by simp)) (by kernel_rfl) rfl (by simp [Value.oneCell']) ?_; intro w9 bk_ hg_)))
  refine bodyPost_ret (resRow3 rfl _ _ (w.heap.size + 1 + 1) TRD #[.slice As ns cs, .slice Aw nw cw, .int .i64 left, .int .i64 wq, .int .i64 fl, .bool off] (0, 0) _ (.slice none 0 0) (.int .i64 3) rfl rfl rfl bk_ Try.underlying99 rfl (by kernel_rfl)) rfl ?_
  exact ⟨rfl, pw_below_grown (below_alloc (below_alloc (below_alloc (Below.refl _ _) _) _) _) _ (by simp; omega) hg_ (fun k hk => by cases hk; omega)⟩

set_option maxHeartbeats 4000000 in
set_option maxRecDepth 100000 in
theorem refGoBig (As : Option Addr) (ns cs : Nat) (Aw : Option Addr) (nw cw : Nat) (left wq fl : Int) (off : Bool) (at_ : Int) (Ab : Option Addr) (nb cb : Nat) (Ak : Option Addr) (nk ck : Nat) (w : World) (dd : Int) (h3 : (dd == 3) = false) (h4 : (dd == 4) = false) (h2 : (dd != 2) = true) (h0 : ¬ at_ < 0) (h : (ns : Int) ≤ at_) :
    Calls Try.prog 85 #[.agg #[.slice As ns cs, .slice Aw nw cw, .int .i64 left, .int .i64 wq, .int .i64 fl, .bool off], .agg #[.int .i64 dd, .int .i64 at_, .slice Ab nb cb, .slice Ak nk ck]] w fun e w' => e = .returned (.tuple #[.agg #[.slice As ns cs, .slice Aw nw cw, .int .i64 left, .int .i64 wq, .int .i64 fl, .bool off], .slice none 0 0, .int .i64 3]) ∧ Below w.heap.size w w' := by
  have h_ := h
  go_enter Try.func85, Try.ntmps85
  go_wp2_with (first | ((with_reducible refine gate_store (p := 4) rfl ?_); go_loud (refine wpList_store_rowL rfl rfl TRD (.tmp 4) (.tmp 40) rfl (w.heap.size + 1 + 1) #[.slice As ns cs, .slice Aw nw cw, .int .i64 left, .int .i64 wq, .int .i64 fl, .bool off] rfl rfl TRD #[.slice none 0 0, .slice none 0 0, .int .i64 0, .int .i64 0, .int .i64 0, .bool false] (heap_at2 (by simp)) (by kernel_rfl) rfl (by simp [Value.oneCell']) ?_; intro w9 bk_ hg_)))
  refine bodyPost_ret (resRow3 rfl _ _ (w.heap.size + 1 + 1) TRD #[.slice As ns cs, .slice Aw nw cw, .int .i64 left, .int .i64 wq, .int .i64 fl, .bool off] (0, 0) _ (.slice none 0 0) (.int .i64 3) rfl rfl rfl bk_ Try.underlying99 rfl (by kernel_rfl)) rfl ?_
  exact ⟨rfl, pw_below_grown (below_alloc (below_alloc (below_alloc (Below.refl _ _) _) _) _) _ (by simp; omega) hg_ (fun k hk => by cases hk; omega)⟩

set_option maxHeartbeats 4000000 in
set_option maxRecDepth 100000 in
theorem refGoArg (As : Option Addr) (ns cs : Nat) (Aw : Option Addr) (nw cw : Nat) (left wq fl : Int) (off : Bool) (at_ : Int) (Ab : Option Addr) (nb cb : Nat) (Ak : Option Addr) (nk ck : Nat) (w : World) (h0 : ¬ at_ < 0) (h : ¬ (ns : Int) ≤ at_) (hb : ((nb : Int) != 64) = true) :
    Calls Try.prog 85 #[.agg #[.slice As ns cs, .slice Aw nw cw, .int .i64 left, .int .i64 wq, .int .i64 fl, .bool off], .agg #[.int .i64 1, .int .i64 at_, .slice Ab nb cb, .slice Ak nk ck]] w fun e w' => e = .returned (.tuple #[.agg #[.slice As ns cs, .slice Aw nw cw, .int .i64 left, .int .i64 wq, .int .i64 fl, .bool off], .slice none 0 0, .int .i64 1]) ∧ Below w.heap.size w w' := by
  have h_ := h
  go_enter Try.func85, Try.ntmps85
  go_wp2_with (first | ((with_reducible refine gate_store (p := 4) rfl ?_); go_loud (refine wpList_store_rowL rfl rfl TRD (.tmp 4) (.tmp 50) rfl (w.heap.size + 1 + 1) #[.slice As ns cs, .slice Aw nw cw, .int .i64 left, .int .i64 wq, .int .i64 fl, .bool off] rfl rfl TRD #[.slice none 0 0, .slice none 0 0, .int .i64 0, .int .i64 0, .int .i64 0, .bool false] (heap_at2 (by simp)) (by kernel_rfl) rfl (by simp [Value.oneCell']) ?_; intro w9 bk_ hg_)))
  refine bodyPost_ret (resRow3 rfl _ _ (w.heap.size + 1 + 1) TRD #[.slice As ns cs, .slice Aw nw cw, .int .i64 left, .int .i64 wq, .int .i64 fl, .bool off] (0, 0) _ (.slice none 0 0) (.int .i64 1) rfl rfl rfl bk_ Try.underlying99 rfl (by kernel_rfl)) rfl ?_
  exact ⟨rfl, pw_below_grown (below_alloc (below_alloc (below_alloc (Below.refl _ _) _) _) _) _ (by simp; omega) hg_ (fun k hk => by cases hk; omega)⟩

set_option maxHeartbeats 4000000 in
set_option maxRecDepth 100000 in
theorem refGoOff (As : Option Addr) (ns cs : Nat) (Aw : Option Addr) (nw cw : Nat) (left wq fl : Int) (off : Bool) (at_ : Int) (Ab : Option Addr) (nb cb : Nat) (Ak : Option Addr) (nk ck : Nat) (w : World) (dd : Int) (h1 : (dd == 1) = false) (h1' : (dd != 1) = true) (h3 : (dd == 3) = false) (h4 : (dd == 4) = false) (h2 : (dd != 2) = true) (h0 : ¬ at_ < 0) (h : ¬ (ns : Int) ≤ at_) (ho : off = true) :
    Calls Try.prog 85 #[.agg #[.slice As ns cs, .slice Aw nw cw, .int .i64 left, .int .i64 wq, .int .i64 fl, .bool off], .agg #[.int .i64 dd, .int .i64 at_, .slice Ab nb cb, .slice Ak nk ck]] w fun e w' => e = .returned (.tuple #[.agg #[.slice As ns cs, .slice Aw nw cw, .int .i64 left, .int .i64 wq, .int .i64 fl, .bool true], .slice none 0 0, .int .i64 4]) ∧ Below w.heap.size w w' := by
  subst ho
  go_enter Try.func85, Try.ntmps85
  go_wp2_with (first | ((with_reducible refine gate_store (p := 4) rfl ?_); go_loud (refine wpList_store_rowL rfl rfl TRD (.tmp 4) (.tmp 61) rfl (w.heap.size + 1 + 1) #[.slice As ns cs, .slice Aw nw cw, .int .i64 left, .int .i64 wq, .int .i64 fl, .bool true] rfl rfl TRD #[.slice none 0 0, .slice none 0 0, .int .i64 0, .int .i64 0, .int .i64 0, .bool false] (heap_at2 (by simp)) (by kernel_rfl) rfl (by simp [Value.oneCell']) ?_; intro w9 bk_ hg_)))
  refine bodyPost_ret (resRow3 rfl _ _ (w.heap.size + 1 + 1) TRD #[.slice As ns cs, .slice Aw nw cw, .int .i64 left, .int .i64 wq, .int .i64 fl, .bool true] (0, 0) _ (.slice none 0 0) (.int .i64 4) rfl rfl rfl bk_ Try.underlying99 rfl (by kernel_rfl)) rfl ?_
  exact ⟨rfl, pw_below_grown (below_alloc (below_alloc (below_alloc (Below.refl _ _) _) _) _) _ (by simp; omega) hg_ (fun k hk => by cases hk; omega)⟩

end Go.Proofs.Ytdknolnoimpgeaa.K
namespace Go.Proofs.Ytdknolnoimpgeaa.K
open Go.RowKit Go.Proofs.YtdknolnoimpgeaaW.PrintWords Go.Proofs.YtdknolnoimpgeaaW.PrintLast Go.Proofs.YtdknolnoimpgeaaW.PrintMore
set_option linter.unusedVariables false
set_option linter.unusedSimpArgs false
theorem RefD.form {base : Nat} {W : World} {r : RefS} {vs vw : Value} (h : RefD base W r vs vw) : ∃ As cs Aw cw, vs = .slice As r.safe.length cs ∧ vw = .slice Aw r.wait.length cw := by
  obtain ⟨A, c, e, _⟩ := h.fs
  obtain ⟨A2, c2, e2, _⟩ := h.fw
  exact ⟨A, c, A2, c2, e, e2⟩
set_option maxHeartbeats 4000000 in
set_option maxRecDepth 100000 in
theorem refGo4 (base : Nat) (r : RefS) (vs vw : Value) (at_ : Int) (Ab : Option Addr) (nb cb : Nat) (Ak : Option Addr) (ck : Nat) (kept : List Bool) (w : World) (h : RefD base w r vs vw) (hbase : base ≤ w.heap.size) (hk : Kd.C Kd.bool w Ak kept.length kept)
    (hsl : r.safe.length ≤ 1000000) (hwl : r.wait.length ≤ 1000000) (hat : ∀ q ∈ r.wait, 0 ≤ q.at_ ∧ q.at_ < r.safe.length) :
    Calls Try.prog 85 #[.agg (refA r vs vw), .agg #[.int .i64 4, .int .i64 at_, .slice Ab nb cb, .slice Ak kept.length ck]] w fun e w' => ∃ vs' vw', e = .returned (.tuple #[.agg (refA (crashR r kept) vs' vw'), .slice none 0 0, .int .i64 0]) ∧ RefD base w' (crashR r kept) vs' vw' ∧ Below w.heap.size w w' := by
  obtain ⟨As, cs, Aw, cw, rfl, rfl⟩ := h.form
  obtain ⟨ns, hns⟩ : ∃ n, n = r.safe.length := ⟨_, rfl⟩
  obtain ⟨nw, hnw⟩ : ∃ n, n = r.wait.length := ⟨_, rfl⟩
  rw [← hns, ← hnw] at h ⊢
  obtain ⟨safe, wait, left, wq, fl, off⟩ := r
  obtain ⟨w3, hw3⟩ : ∃ w3, w3 = ((w.alloc (.cells #[.slice As ns cs, .slice Aw nw cw, .int .i64 left, .int .i64 wq, .int .i64 fl, .bool off] TRD)).alloc (.cells #[.int .i64 4, .int .i64 at_, .slice Ab nb cb, .slice Ak kept.length ck] 103)).alloc (.cells #[.slice none 0 0, .slice none 0 0, .int .i64 0, .int .i64 0, .int .i64 0, .bool false] TRD) := ⟨_, rfl⟩
  have hb3 : Below w.heap.size w w3 := by rw [hw3]; exact below_alloc (below_alloc (below_alloc (Below.refl _ _) _) _) _
  have HB3 := Aside0.mk hb3
  have BZ : Aside0 (w3.heap[w.heap.size + 1 + 1]? = some (.cells #[.slice none 0 0, .slice none 0 0, .int .i64 0, .int .i64 0, .int .i64 0, .bool false] TRD (0, 0))) := ⟨by rw [hw3]; exact heap_at2 (by simp)⟩
  have WC := Aside0.mk (refCrash_walk base ⟨safe, wait, left, wq, fl, off⟩ (.slice As ns cs) (.slice Aw nw cw) Ak ck kept w3 (h.below hbase hb3) (Nat.le_trans hbase hb3.size) (Kd.C_below hk hb3) hsl hwl hat)
  obtain ⟨nk, hnk⟩ : ∃ n, n = kept.length := ⟨_, rfl⟩
  have HBS := Aside0.mk hbase
  rw [← hnk] at WC hw3
  rw [← hnk]
  rw [hw3] at WC
  have HW3 := Aside0.mk hw3
  clear h hbase hk hsl hwl hat hns hnw hb3 hnk hw3
  go_enter Try.func85, Try.ntmps85
  go_wp2_with (first | ((with_reducible refine gate_store (p := 4) rfl ?_); go_loud (refine wpList_store_rowL rfl rfl TRD (.tmp 4) (.tmp 23) rfl (w.heap.size + 1 + 1) #[.slice A5 n5 c5, .slice none 0 0, .int .i64 (-1), .int .i64 wq, .int .i64 fl, .bool false] rfl rfl TRD #[.slice none 0 0, .slice none 0 0, .int .i64 0, .int .i64 0, .int .i64 0, .bool false] (BZ5.out) (by kernel_rfl) rfl (by simp [Value.oneCell']) ?_; intro w9 bk_ hg_)) | (go_at_call 128; go_loud (with_reducible refine WC.out.mono ?_); go_loud (rintro e w5 ⟨vs5, rfl, hD, hb⟩; obtain ⟨A5, c5, hv5, _⟩ := hD.fs; obtain ⟨n5, hn5⟩ : ∃ n, n = (crashR ⟨safe, wait, left, wq, fl, off⟩ kept).safe.length := ⟨_, rfl⟩; rw [← hn5] at hv5; subst hv5; have D5 := Aside0.mk hD; rw [← HW3.out] at hb; have BZ5 := Aside0.mk (blk_below BZ.out hb); have HB5 := Aside0.mk (below_step HB3.out hb); rw [show refA (crashR ⟨safe, wait, left, wq, fl, off⟩ kept) (.slice A5 n5 c5) (.slice none 0 0) = #[.slice A5 n5 c5, .slice none 0 0, .int .i64 (-1), .int .i64 wq, .int .i64 fl, .bool false] from rfl]; clear hD hb hn5)))
  refine bodyPost_ret (resRow3 rfl _ _ (w.heap.size + 1 + 1) TRD #[.slice A5 n5 c5, .slice none 0 0, .int .i64 (-1), .int .i64 wq, .int .i64 fl, .bool false] (0, 0) _ (.slice none 0 0) (.int .i64 0) rfl rfl rfl bk_ Try.underlying99 rfl (by kernel_rfl)) rfl ?_

  have hW : base ≤ w5.heap.size := Nat.le_trans HBS.out HB5.out.size
  have hF : DFr2 base w5 w9 := DFr2.grown hW hg_ (fun k hk => by cases hk; exact ⟨by have := HBS.out; omega, _, _, BZ5.out, by decide⟩)
  exact ⟨_, _, rfl, D5.out.step hF, pw_below_grown HB5.out _ HB5.out.size hg_ (fun k hk => by cases hk; omega)⟩
end Go.Proofs.Ytdknolnoimpgeaa.K
namespace Go.Proofs.Ytdknolnoimpgeaa.K
open Go.RowKit Go.Proofs.YtdknolnoimpgeaaW.PrintWords Go.Proofs.YtdknolnoimpgeaaW.PrintLast Go.Proofs.YtdknolnoimpgeaaW.PrintMore
set_option linter.unusedVariables false
set_option linter.unusedSimpArgs false
theorem refBurn_no (As : Option Addr) (ns cs : Nat) (Aw : Option Addr) (nw cw : Nat) (left wq fl : Int) (off : Bool) (w : World) (hl0 : -9223372036854775808 ≤ left) (hl1 : left ≤ 9223372036854775807) (h : off = true ∨ left = 0) :
    Calls Try.prog 130 #[.agg #[.slice As ns cs, .slice Aw nw cw, .int .i64 left, .int .i64 wq, .int .i64 fl, .bool off]] w fun e w' => e = .returned (.tuple #[.agg #[.slice As ns cs, .slice Aw nw cw, .int .i64 left, .int .i64 wq, .int .i64 fl, .bool true], .bool false]) ∧ Below w.heap.size w w' := by
  have h2 := refBurn_walk As ns cs Aw nw cw ⟨[], [], left, wq, fl, off⟩ w hl0 hl1
  have e1 : burnR ⟨[], [], left, wq, fl, off⟩ = ⟨[], [], left, wq, fl, true⟩ := by simp [burnR, h]
  have e2 : burnK ⟨[], [], left, wq, fl, off⟩ = false := by simp [burnK, h]
  rw [e1, e2] at h2
  exact h2
/-- What is left behind a call that comes through. -/
def left2 (left : Int) : Int := if 0 < left then left - 1 else left
theorem refBurn_yes (As : Option Addr) (ns cs : Nat) (Aw : Option Addr) (nw cw : Nat) (left wq fl : Int) (w : World) (hl0 : -9223372036854775808 ≤ left) (hl1 : left ≤ 9223372036854775807) (h : left ≠ 0) :
    Calls Try.prog 130 #[.agg #[.slice As ns cs, .slice Aw nw cw, .int .i64 left, .int .i64 wq, .int .i64 fl, .bool false]] w fun e w' => e = .returned (.tuple #[.agg #[.slice As ns cs, .slice Aw nw cw, .int .i64 (left2 left), .int .i64 wq, .int .i64 fl, .bool false], .bool true]) ∧ Below w.heap.size w w' := by
  have h2 := refBurn_walk As ns cs Aw nw cw ⟨[], [], left, wq, fl, false⟩ w hl0 hl1
  have e1 : burnR ⟨[], [], left, wq, fl, false⟩ = ⟨[], [], left2 left, wq, fl, false⟩ := by unfold left2; by_cases hl : 0 < left <;> simp [burnR, h, hl]
  have e2 : burnK ⟨[], [], left, wq, fl, false⟩ = true := by simp [burnK, h]
  rw [e1, e2] at h2
  exact h2
set_option maxHeartbeats 4000000 in
set_option maxRecDepth 100000 in
theorem refGoNo1 (As : Option Addr) (ns cs : Nat) (Aw : Option Addr) (nw cw : Nat) (left wq fl : Int) (off : Bool) (at_ : Int) (Ab : Option Addr) (nb cb : Nat) (Ak : Option Addr) (nk ck : Nat) (w : World) (hl0 : -9223372036854775808 ≤ left) (hl1 : left ≤ 9223372036854775807) (hno : off = true ∨ left = 0) (hin : (1 : Int) = 2 ∨ (0 ≤ at_ ∧ at_ < ns ∧ nb = 64)) :
    Calls Try.prog 85 #[.agg #[.slice As ns cs, .slice Aw nw cw, .int .i64 left, .int .i64 wq, .int .i64 fl, .bool off], .agg #[.int .i64 1, .int .i64 at_, .slice Ab nb cb, .slice Ak nk ck]] w fun e w' => e = .returned (.tuple #[.agg #[.slice As ns cs, .slice Aw nw cw, .int .i64 left, .int .i64 wq, .int .i64 fl, .bool true], .slice none 0 0, .int .i64 4]) ∧ Below w.heap.size w w' := by
  obtain ⟨w3, hw3⟩ : ∃ w3, w3 = ((w.alloc (.cells #[.slice As ns cs, .slice Aw nw cw, .int .i64 left, .int .i64 wq, .int .i64 fl, .bool off] TRD)).alloc (.cells #[.int .i64 1, .int .i64 at_, .slice Ab nb cb, .slice Ak nk ck] 103)).alloc (.cells #[.slice none 0 0, .slice none 0 0, .int .i64 0, .int .i64 0, .int .i64 0, .bool false] TRD) := ⟨_, rfl⟩
  have hb3 : Below w.heap.size w w3 := by rw [hw3]; exact below_alloc (below_alloc (below_alloc (Below.refl _ _) _) _) _
  have HB3 := Aside0.mk hb3
  have HSZ : Aside0 (w3.heap.size = w.heap.size + 1 + 1 + 1) := ⟨by rw [hw3]; simp⟩
  have BD : Aside0 (w3.heap[w.heap.size]? = some (.cells #[.slice As ns cs, .slice Aw nw cw, .int .i64 left, .int .i64 wq, .int .i64 fl, .bool off] TRD (0, 0))) := ⟨by rw [hw3]; exact blk_alloc (blk_alloc (heap_alloc_new _ _) _) _⟩
  have BS : Aside0 (w3.heap[w.heap.size + 1]? = some (.cells #[.int .i64 1, .int .i64 at_, .slice Ab nb cb, .slice Ak nk ck] 103 (0, 0))) := ⟨by rw [hw3]; exact blk_alloc (heap_at2 (by simp)) _⟩
  have BZ : Aside0 (w3.heap[w.heap.size + 1 + 1]? = some (.cells #[.slice none 0 0, .slice none 0 0, .int .i64 0, .int .i64 0, .int .i64 0, .bool false] TRD (0, 0))) := ⟨by rw [hw3]; exact heap_at2 (by simp)⟩
  have HW3 := Aside0.mk hw3
  clear hb3 hw3
  have WB := Aside0.mk (refBurn_no As ns cs Aw nw cw left wq fl off w3 hl0 hl1 hno)
  rw [HW3.out] at WB
  have h0 : (1 : Int) = 1 → ¬ at_ < 0 := by omega
  have h1 : (1 : Int) = 1 → ¬ (ns : Int) ≤ at_ := by omega
  have h2 : (1 : Int) = 1 → ((nb : Int) != 64) = false := by intro hq; simp; omega
  simp only [forall_const, show ((2 : Int) = 1) = False by decide, false_implies, imp_self] at h0 h1 h2
  clear hno hin
  go_enter Try.func85, Try.ntmps85
  go_wp2_with (first | ((with_reducible refine gate_store (p := 4) rfl ?_); go_loud (refine wpList_store_rowL rfl rfl TRD (.tmp 4) (.tmp 74) rfl (w.heap.size + 1 + 1) #[.slice As ns cs, .slice Aw nw cw, .int .i64 left, .int .i64 wq, .int .i64 fl, .bool true] rfl rfl TRD #[.slice none 0 0, .slice none 0 0, .int .i64 0, .int .i64 0, .int .i64 0, .bool false] (BZ6.out) (by kernel_rfl) rfl (by simp [Value.oneCell']) ?_; intro w9 bk_ hg_)) | (go_at_call 130; go_loud (with_reducible refine WB.out.mono ?_); go_loud (rintro e w5 ⟨rfl, hb⟩; rw [← HW3.out] at hb; have HL5 := Aside0.mk hb; have BD5 := Aside0.mk (blk_below BD.out hb); have BS5 := Aside0.mk (blk_below BS.out hb); have BZ5 := Aside0.mk (blk_below BZ.out hb); have HB5 := Aside0.mk (below_step HB3.out hb); have s0 := (blk_cell BS5.out 0).trans rfl; have s1 := (blk_cell BS5.out 1).trans rfl; have s2 := (blk_cell BS5.out 2).trans rfl; clear hb)) | ((with_reducible refine gate_store (p := 2) rfl ?_); go_loud (refine wpList_store_rowL rfl rfl TRD (.tmp 2) (.tmp 70) rfl (w.heap.size) #[.slice As ns cs, .slice Aw nw cw, .int .i64 left, .int .i64 wq, .int .i64 fl, .bool true] rfl rfl TRD #[.slice As ns cs, .slice Aw nw cw, .int .i64 left, .int .i64 wq, .int .i64 fl, .bool off] (BD5.out) (by kernel_rfl) rfl (by simp [Value.oneCell']) ?_; intro w6 bk_ hg_; have BD6 := Aside0.mk bk_; have BS6 : Aside0 (w6.heap[w.heap.size + 1]? = some (.cells #[.int .i64 1, .int .i64 at_, .slice Ab nb cb, .slice Ak nk ck] 103 (0, 0))) := ⟨(hg_.block (w.heap.size + 1) (Nat.lt_of_lt_of_le (by rw [HSZ.out]; omega) HL5.out.size) (by simp)).trans BS5.out⟩; have BZ6 : Aside0 (w6.heap[w.heap.size + 1 + 1]? = some (.cells #[.slice none 0 0, .slice none 0 0, .int .i64 0, .int .i64 0, .int .i64 0, .bool false] TRD (0, 0))) := ⟨(hg_.block (w.heap.size + 1 + 1) (Nat.lt_of_lt_of_le (by rw [HSZ.out]; omega) HL5.out.size) (by simp; omega)).trans BZ5.out⟩; have HG6 := Aside0.mk hg_; have HB6 := Aside0.mk (pw_below_grown HB5.out _ HB5.out.size hg_ (fun k hk => by cases hk; exact Nat.le_refl _)); clear hg_; have y0 := (blk_cell BD6.out 0).trans rfl; have y1 := (blk_cell BD6.out 1).trans rfl; have y2 := (blk_cell BD6.out 2).trans rfl; have y3 := (blk_cell BD6.out 3).trans rfl; have y4 := (blk_cell BD6.out 4).trans rfl; have y5 := (blk_cell BD6.out 5).trans rfl; have t0 := (blk_cell BS6.out 0).trans rfl; have t1 := (blk_cell BS6.out 1).trans rfl; have t2 := (blk_cell BS6.out 2).trans rfl; clear BD5 BS5 BZ5)))
  refine bodyPost_ret (resRow3 rfl _ _ (w.heap.size + 1 + 1) TRD #[.slice As ns cs, .slice Aw nw cw, .int .i64 left, .int .i64 wq, .int .i64 fl, .bool true] (0, 0) _ (.slice none 0 0) (.int .i64 4) rfl rfl rfl bk_ Try.underlying99 rfl (by kernel_rfl)) rfl ?_
  exact ⟨rfl, pw_below_grown HB6.out _ HB6.out.size hg_ (fun k hk => by cases hk; omega)⟩
set_option maxHeartbeats 4000000 in
set_option maxRecDepth 100000 in
theorem refGoNo2 (As : Option Addr) (ns cs : Nat) (Aw : Option Addr) (nw cw : Nat) (left wq fl : Int) (off : Bool) (at_ : Int) (Ab : Option Addr) (nb cb : Nat) (Ak : Option Addr) (nk ck : Nat) (w : World) (hl0 : -9223372036854775808 ≤ left) (hl1 : left ≤ 9223372036854775807) (hno : off = true ∨ left = 0) (hin : (2 : Int) = 2 ∨ (0 ≤ at_ ∧ at_ < ns ∧ nb = 64)) :
    Calls Try.prog 85 #[.agg #[.slice As ns cs, .slice Aw nw cw, .int .i64 left, .int .i64 wq, .int .i64 fl, .bool off], .agg #[.int .i64 2, .int .i64 at_, .slice Ab nb cb, .slice Ak nk ck]] w fun e w' => e = .returned (.tuple #[.agg #[.slice As ns cs, .slice Aw nw cw, .int .i64 left, .int .i64 wq, .int .i64 fl, .bool true], .slice none 0 0, .int .i64 4]) ∧ Below w.heap.size w w' := by
  obtain ⟨w3, hw3⟩ : ∃ w3, w3 = ((w.alloc (.cells #[.slice As ns cs, .slice Aw nw cw, .int .i64 left, .int .i64 wq, .int .i64 fl, .bool off] TRD)).alloc (.cells #[.int .i64 2, .int .i64 at_, .slice Ab nb cb, .slice Ak nk ck] 103)).alloc (.cells #[.slice none 0 0, .slice none 0 0, .int .i64 0, .int .i64 0, .int .i64 0, .bool false] TRD) := ⟨_, rfl⟩
  have hb3 : Below w.heap.size w w3 := by rw [hw3]; exact below_alloc (below_alloc (below_alloc (Below.refl _ _) _) _) _
  have HB3 := Aside0.mk hb3
  have HSZ : Aside0 (w3.heap.size = w.heap.size + 1 + 1 + 1) := ⟨by rw [hw3]; simp⟩
  have BD : Aside0 (w3.heap[w.heap.size]? = some (.cells #[.slice As ns cs, .slice Aw nw cw, .int .i64 left, .int .i64 wq, .int .i64 fl, .bool off] TRD (0, 0))) := ⟨by rw [hw3]; exact blk_alloc (blk_alloc (heap_alloc_new _ _) _) _⟩
  have BS : Aside0 (w3.heap[w.heap.size + 1]? = some (.cells #[.int .i64 2, .int .i64 at_, .slice Ab nb cb, .slice Ak nk ck] 103 (0, 0))) := ⟨by rw [hw3]; exact blk_alloc (heap_at2 (by simp)) _⟩
  have BZ : Aside0 (w3.heap[w.heap.size + 1 + 1]? = some (.cells #[.slice none 0 0, .slice none 0 0, .int .i64 0, .int .i64 0, .int .i64 0, .bool false] TRD (0, 0))) := ⟨by rw [hw3]; exact heap_at2 (by simp)⟩
  have HW3 := Aside0.mk hw3
  clear hb3 hw3
  have WB := Aside0.mk (refBurn_no As ns cs Aw nw cw left wq fl off w3 hl0 hl1 hno)
  rw [HW3.out] at WB
  have h0 : (2 : Int) = 1 → ¬ at_ < 0 := by omega
  have h1 : (2 : Int) = 1 → ¬ (ns : Int) ≤ at_ := by omega
  have h2 : (2 : Int) = 1 → ((nb : Int) != 64) = false := by intro hq; simp; omega
  simp only [forall_const, show ((2 : Int) = 1) = False by decide, false_implies, imp_self] at h0 h1 h2
  clear hno hin
  go_enter Try.func85, Try.ntmps85
  go_wp2_with (first | ((with_reducible refine gate_store (p := 4) rfl ?_); go_loud (refine wpList_store_rowL rfl rfl TRD (.tmp 4) (.tmp 74) rfl (w.heap.size + 1 + 1) #[.slice As ns cs, .slice Aw nw cw, .int .i64 left, .int .i64 wq, .int .i64 fl, .bool true] rfl rfl TRD #[.slice none 0 0, .slice none 0 0, .int .i64 0, .int .i64 0, .int .i64 0, .bool false] (BZ6.out) (by kernel_rfl) rfl (by simp [Value.oneCell']) ?_; intro w9 bk_ hg_)) | (go_at_call 130; go_loud (with_reducible refine WB.out.mono ?_); go_loud (rintro e w5 ⟨rfl, hb⟩; rw [← HW3.out] at hb; have HL5 := Aside0.mk hb; have BD5 := Aside0.mk (blk_below BD.out hb); have BS5 := Aside0.mk (blk_below BS.out hb); have BZ5 := Aside0.mk (blk_below BZ.out hb); have HB5 := Aside0.mk (below_step HB3.out hb); have s0 := (blk_cell BS5.out 0).trans rfl; have s1 := (blk_cell BS5.out 1).trans rfl; have s2 := (blk_cell BS5.out 2).trans rfl; clear hb)) | ((with_reducible refine gate_store (p := 2) rfl ?_); go_loud (refine wpList_store_rowL rfl rfl TRD (.tmp 2) (.tmp 70) rfl (w.heap.size) #[.slice As ns cs, .slice Aw nw cw, .int .i64 left, .int .i64 wq, .int .i64 fl, .bool true] rfl rfl TRD #[.slice As ns cs, .slice Aw nw cw, .int .i64 left, .int .i64 wq, .int .i64 fl, .bool off] (BD5.out) (by kernel_rfl) rfl (by simp [Value.oneCell']) ?_; intro w6 bk_ hg_; have BD6 := Aside0.mk bk_; have BS6 : Aside0 (w6.heap[w.heap.size + 1]? = some (.cells #[.int .i64 2, .int .i64 at_, .slice Ab nb cb, .slice Ak nk ck] 103 (0, 0))) := ⟨(hg_.block (w.heap.size + 1) (Nat.lt_of_lt_of_le (by rw [HSZ.out]; omega) HL5.out.size) (by simp)).trans BS5.out⟩; have BZ6 : Aside0 (w6.heap[w.heap.size + 1 + 1]? = some (.cells #[.slice none 0 0, .slice none 0 0, .int .i64 0, .int .i64 0, .int .i64 0, .bool false] TRD (0, 0))) := ⟨(hg_.block (w.heap.size + 1 + 1) (Nat.lt_of_lt_of_le (by rw [HSZ.out]; omega) HL5.out.size) (by simp; omega)).trans BZ5.out⟩; have HG6 := Aside0.mk hg_; have HB6 := Aside0.mk (pw_below_grown HB5.out _ HB5.out.size hg_ (fun k hk => by cases hk; exact Nat.le_refl _)); clear hg_; have y0 := (blk_cell BD6.out 0).trans rfl; have y1 := (blk_cell BD6.out 1).trans rfl; have y2 := (blk_cell BD6.out 2).trans rfl; have y3 := (blk_cell BD6.out 3).trans rfl; have y4 := (blk_cell BD6.out 4).trans rfl; have y5 := (blk_cell BD6.out 5).trans rfl; have t0 := (blk_cell BS6.out 0).trans rfl; have t1 := (blk_cell BS6.out 1).trans rfl; have t2 := (blk_cell BS6.out 2).trans rfl; clear BD5 BS5 BZ5)))
  refine bodyPost_ret (resRow3 rfl _ _ (w.heap.size + 1 + 1) TRD #[.slice As ns cs, .slice Aw nw cw, .int .i64 left, .int .i64 wq, .int .i64 fl, .bool true] (0, 0) _ (.slice none 0 0) (.int .i64 4) rfl rfl rfl bk_ Try.underlying99 rfl (by kernel_rfl)) rfl ?_
  exact ⟨rfl, pw_below_grown HB6.out _ HB6.out.size hg_ (fun k hk => by cases hk; omega)⟩
end Go.Proofs.Ytdknolnoimpgeaa.K
