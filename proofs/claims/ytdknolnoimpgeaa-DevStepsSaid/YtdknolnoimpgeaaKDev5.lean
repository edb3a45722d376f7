/- A disk's methods: Waiting. -/
import Derived.Test.YtdknolnoimpgeaaKDev4
namespace Go.Proofs.Ytdknolnoimpgeaa.K
open Go.RowKit Go.Proofs.YtdknolnoimpgeaaW.PrintWords Go.Proofs.YtdknolnoimpgeaaW.PrintLast Go.Proofs.YtdknolnoimpgeaaW.PrintMore
set_option linter.unusedVariables false
set_option linter.unusedSimpArgs false
/-- A pen of a row, whole. -/
theorem load_pen {W : World} {A : Option Addr} {n m : Nat} {xs : List Pen} (h : Kd.C kPen W A n xs) (hm : m < xs.length) : ∃ ad, A = some ad ∧ (Instr.loadAt TPen (.pointer (some (ad.add (m * 65))))).run Try.prog W = .ok (.agg xs[m].enc.toArray) W := by
  obtain ⟨ad, he, hx⟩ := Kd.at_flat h hm
  refine ⟨ad, he, ?_⟩
  have hlc := run_loadCells_list (P := Try.prog) W (ad.add (m * 65)) xs[m].enc (fun j v hv => by rw [addr_add_add]; exact hx j v hv)
  obtain ⟨d, hu, hd⟩ : ∃ d, Try.prog.underlying TPen = some d ∧ d.isRow = true := ⟨_, Try.underlying143, rfl⟩
  have hagg : (isAgg TPen).run Try.prog W = .ok true W := by
    unfold isAgg
    rw [Sem.run_bind, run_underlying hu W]
    cases d <;> simp_all
  obtain ⟨i, hi, hs⟩ := Option.map_eq_some_iff.1 pensize
  rw [Pen.len] at hlc
  simp [Instr.loadAt, Instr.sureAddr, loadVar, Sem.run_bind, hagg, sizeOf, typeInfo, hi, hs, hlc]
theorem intinfo : (Try.prog.info? 3).map (fun i => (i.zero, i.size, i.bytes)) = some (some (.int .i64 0), 1, 8) := by kernel_rfl
theorem wpList_load_run {P : Program} {ops : Array Oper} {rest : List Oper} {op : Oper} {a : Act} {W : World} {Q : Exit → Act → World → Prop} {v u : Value} (hgd : op.guard = none) (ty : TypeId) (x : Operand) (ho : op.op = .load ty x) (hx : a.eval x = v)
    (h : (Instr.loadAt ty v).run P W = .ok u W) (hk : wpList P ops Q rest (a.put op.dst u) W) : wpList P ops Q (op :: rest) a W :=
  wpList_plain hgd fun _ hK => by
    unfold Oper.wp
    rw [exec_load ho hx h]
    exact hK _ _ hk
set_option maxRecDepth 100000 in
theorem devWaiting_nil (W : World) : Calls Try.prog 76 #[.pointer none] W fun e w' => e = .returned (.slice none 0 0) ∧ w' = W := by
  go_enter Try.func76, Try.ntmps76
  go_wp2
  go_ret
  exact ⟨rfl, rfl⟩
set_option maxHeartbeats 4000000 in
set_option maxRecDepth 100000 in
theorem devWaiting_walk (base p : Nat) (s : DiskS) (vs vn vw : Value) (w : World) (h : DiskR w base p s vs vn vw) (hl : s.wait.length ≤ 1000000) :
    Calls Try.prog 76 #[.pointer (some ⟨p, 0, none⟩)] w fun e w' => ∃ v : Value, e = .returned v ∧ Kd.R (Kd.int .i64) 3 w' w.heap.size (fun _ => True) v (s.wait.map (·.at_)) ∧ Below w.heap.size w w' := by
  have HR0 := h.wait
  have b0 : w.cell? ⟨p, 2, none⟩ = some vw := (blk_cell h.blk 2).trans rfl
  obtain ⟨A, c, hv⟩ := Kd.R_slice HR0
  subst hv
  have HR := Aside0.mk (Kd.R_reads' HR0).2.2
  have HB := Aside0.mk (Below.refl w.heap.size w)
  obtain ⟨l, hl0⟩ : ∃ l, l = s.wait := ⟨_, rfl⟩
  rw [← hl0] at HR b0 hl ⊢
  have HL := Aside0.mk hl
  obtain ⟨n, hn⟩ : ∃ n, n = l.length := ⟨_, rfl⟩
  rw [← hn] at HR b0
  have HN := Aside0.mk hn
  have hn1 : n ≤ 1000000 := by omega
  clear h HR0 hl hn hl0
  go_enter Try.func76, Try.ntmps76
  go_wp2
  go_loopw [3, 13] (fun v3 v13 w' => ∃ (m : Nat) (Av : Option Addr) (nv cv : Nat), v13 = .int .i64 m ∧ v3 = .slice Av nv cv ∧ Aside0 (m ≤ n) ∧ Aside0 (Kd.R (Kd.int .i64) 3 w' w.heap.size (fun _ => True) (.slice Av nv cv) ((l.take m).map (·.at_))) ∧ Aside0 (Below w.heap.size w w')) (fun _ i _ => n - (intOf i).toNat)
  case atStart => exact ⟨0, _, _, _, rfl, rfl, ⟨Nat.zero_le _⟩, ⟨Kd.R_nil _ _ _ _ _⟩, HB⟩
  case round =>
    clear HB
    obtain ⟨m, Av, nv, cv, rfl, rfl, hm, HO, HB⟩ := hrel
    have hm' := hm.out
    by_cases hlt : m < n
    · have hml : m < l.length := by rw [← HN.out]; exact hlt
      obtain ⟨ad, rfl, hld⟩ := load_pen (Kd.C_below HR.out HB.out) hml
      have HT := Aside0.mk (show (l.take (m + 1)).map (·.at_) = (l.take m).map (·.at_) ++ [l[m].at_] by rw [List.take_succ_eq_append_getElem hml, List.map_append]; rfl)
      obtain ⟨x, hxx⟩ : ∃ x, x = l[m] := ⟨_, rfl⟩
      rw [← hxx] at hld HT
      have HLX : Aside0 ((((l.take m).map (·.at_)).length + 1) * 8 ≤ 140737488355328) := ⟨by rw [List.length_map, List.length_take]; have := HL.out; omega⟩
      have HX1 : Aside0 (x.enc.toArray.all (·.oneCell') = true) := ⟨all_oneCell_toArray (Pen.one x)⟩
      have HX2 : Aside0 (x.enc.toArray.size = 65) := ⟨by simp [Pen.len]⟩
      clear hxx hml
      go_wp2_with (first | ((with_reducible refine gate_dst (N := 16) rfl ?_); refine wpList_load_run rfl TPen (.tmp 15) rfl rfl hld ?_) | ((with_reducible refine gate_store (p := 5) rfl ?_); go_loud (refine wpList_store_newL (w0 := wr) rfl rfl TPen (.tmp 5) (.tmp 16) rfl x.enc.toArray TPen _ rfl (by rfl) (by rfl) (by rw [HX2.out]; exact pensize) (by rw [HX2.out]; rfl) HX1.out ?_; intro w6 bk_ hb_; have HO6 := Aside0.mk (Kd.R_below HO.out hb_); have HB6 := Aside0.mk (below_step HB.out hb_); have k0 : w6.cell? ⟨wr.heap.size, 0, none⟩ = some (.int .i64 x.at_) := (blk_cell bk_ 0).trans rfl; clear HO HB bk_ hb_ hld; have HO := HO6; have HB := HB6; clear HO6 HB6)) | ((with_reducible refine gate_builtin (b := .append) (xs := #[.tmp 17, .tmp 20]) rfl ?_); at_builtin; refine Kd.R_append (Kd.int .i64) (w0 := w) w.heap.size rfl (.tmp 17) (.tmp 20) 50 3 (.int .i64 0) 8 rfl Try.underlying50 intinfo rfl (by decide) (by omega) (.slice Av nv cv) ((l.take m).map (·.at_)) x.at_ [.int .i64 x.at_] (fun _ => True) (fun _ => False) rfl rfl ?aP (fun _ hk => hk.elim) ?aF ?aO ?aB ?aS ?aL ?_; (case aP => exact rfl); (case aB => exact (by repeat (first | (with_reducible first | exact HB.out | apply below_alloc | apply pw_below_drewN | apply below_drew1) | exact HB.out))); (case aF => exact (fun _ _ => trivial)); (case aO => exact (by (with_reducible repeat (first | apply Kd.R_alloc | apply Kd.R_drewN | apply Kd.R_drew)); exact HO.out)); (case aS => exact (below_size (by repeat (first | (with_reducible first | exact HB.out | apply below_alloc | apply pw_below_drewN | apply below_drew1) | exact HB.out)))); (case aL => exact HLX.out); intro v1 w11 ho hb hg hat; have n0_ := Aside0.mk (hb); have n1_ := Aside0.mk (ho); clear HB; clear HO; have HB := n0_; have HO1 := n1_; clear n0_ n1_; clear ho hb hg hat))
      obtain ⟨A1, c1, hv1⟩ := Kd.R_slice HO1.out
      subst hv1
      refine ⟨⟨m + 1, A1, _, c1, rfl, rfl, ⟨by omega⟩, ⟨by rw [HT.out]; exact HO1.out⟩, HB⟩, by simp [intOf]; omega⟩
    · have hmn : m = n := by omega
      subst hmn
      have e0 : l.take m = l := List.take_of_length_le (by rw [← HN.out]; exact Nat.le_refl _)
      rw [e0] at HO
      go_wp2
      go_ret
      exact ⟨_, rfl, HO.out, HB.out⟩
end Go.Proofs.Ytdknolnoimpgeaa.K
