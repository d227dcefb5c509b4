/- A part of what stands under the laws of this seat: an abstract evaluator that is proved sound, and contracts of functions by it. No condition beside those that stand in each statement. -/
import Derived.Test.YtejnpiielcbkkaaGreatZM1
import Derived.Test.YtejnpiielcbkkaaGreatZM2
import Derived.Test.YtejnpiielcbkkaaGreatZU14
import Derived.Below
set_option linter.unusedVariables false
set_option linter.unusedSimpArgs false
section
set_option maxRecDepth 100000
set_option maxHeartbeats 4000000
namespace Go.Proofs.YtejnpiielcbkkaaGreat.E
/-! ### The marks of a program -/
theorem tk_eq {α : Type} {t : List α} {n : Nat} (h : t.length = n) : t.take n = t ∧ n ≤ t.length ∧ t.length ≤ n := ⟨by rw [← h, List.take_length], by omega, by omega⟩
theorem adv_bound {α : Type} {w : α → Nat} {k : Int} {xs : List α} {n : Nat} (hw : ∀ x ∈ xs, w x ≤ n) : adv w k xs ≤ k + (xs.length * n : Nat) := by
 have : ∀ xs : List α, (∀ x ∈ xs, w x ≤ n) → (xs.map w).sum ≤ xs.length * n := by
  intro xs; induction xs with
  | nil => intro _; simp
  | cons x xs ih =>
   intro h
   have h1 := h x (List.mem_cons_self ..)
   have h2 := ih (fun y hy => h y (List.mem_cons_of_mem _ hy))
   simp only [List.map_cons, List.sum_cons, List.length_cons, Nat.add_mul, Nat.one_mul]
   omega
 have := this xs hw
 unfold adv; omega
theorem wI_sum (xs : List Int) : (xs.map wI).sum = xs.length := by
 have := adv_int 0 xs
 unfold adv at this
 omega
theorem wSt_sum (xs : List ByteArray) : (xs.map wSt).sum ≤ xs.length := by
 have := adv_bound (w := wSt) (k := 0) (xs := xs) (n := 1) (fun _ _ => Nat.le_refl _)
 unfold adv at this
 omega
theorem wEn_sum (xs : List Entry) : (xs.map wEntry).sum ≤ xs.length * 3 := by
 have := adv_bound (w := wEntry) (k := 0) (xs := xs) (n := 3) (fun _ _ => Nat.le_refl _)
 unfold adv at this
 omega
theorem adP_bd {p : Prgm} (h : smProgram p) (k : Int) : adv wProcess (adv wMonitor (adv wNode k p.nodes) p.monitors) p.processes ≤ k + 17592186044416 := by
 obtain ⟨⟨h1, h1'⟩, ⟨h2, h2'⟩, ⟨h3, h3'⟩⟩ := h
 have a1 := adv_bound (w := wNode) (k := k) (xs := p.nodes) (n := 1048581) (fun x hx => by have := (h1' x hx).2.2.2; simp only [wNode, wI_sum]; omega)
 have a2 := adv_bound (w := wMonitor) (k := adv wNode k p.nodes) (xs := p.monitors) (n := 5242881) (fun x hx => by
  have b1 := (h2' x hx).2.1.1
  have b2 := (h2' x hx).2.2.1.1
  have b3 := (h2' x hx).2.2.2.1
  have c1 := wSt_sum x.vars
  have c2 := wSt_sum x.queues
  have c3 := wEn_sum x.entries
  simp only [wMonitor]; omega)
 have a3 := adv_bound (w := wProcess) (k := adv wMonitor (adv wNode k p.nodes) p.monitors) (xs := p.processes) (n := 2097154) (fun x hx => by
  have b1 := (h3' x hx).2.1.1
  have b2 := (h3' x hx).2.2.1
  have c1 := wSt_sum x.uses
  have c2 := wSt_sum x.vars
  simp only [wProcess]; omega)
 have m1 := Nat.mul_le_mul_right 1048581 h1
 have m2 := Nat.mul_le_mul_right 5242881 h2
 have m3 := Nat.mul_le_mul_right 2097154 h3
 omega
theorem heldProgram_ok (t1 : List Node) (t2 : List Monitor) (t3 : List Process) (k a1 a2 a3 : Int) (h1 : 0 ≤ a1) (h2 : 0 ≤ a2) (h3 : 0 ≤ a3)
  (c1 : CallOk Tryz.prog 41 [.one (.ro 6 (nodesD t1)), .one (iV k)] (.s (.one (iV a1))) [none, none]) (c2 : CallOk Tryz.prog 42 [.one (.ro 4 (monitorsD t2)), .one (iV a1)] (.s (.one (iV a2))) [none, none]) (c3 : CallOk Tryz.prog 43 [.one (.ro 4 (processsD t3)), .one (iV a2)] (.s (.one (iV a3))) [none, none]) :
  CallOk Tryz.prog 9 [.agg (programR ⟨t1, t2, t3⟩), .one (iV k)] (.s (.one (iV a3))) [none, none] := by
 have d1 : decide (a1 < 0) = false := decide_eq_false (by omega)
 have d2 : decide (a2 < 0) = false := decide_eq_false (by omega)
 have d3 : decide (a3 < 0) = false := decide_eq_false (by omega)
 refine cOh 40 (hBd Tryz.func9 rfl (by kernel_rfl) ?_)
 simp (disch := omega) only [go_sem, Tryz.ntmps9, Tryz.results9]
 exact wk
theorem marksP_ok (x : Prgm) (k : Int) (hk : 0 ≤ k) (hk2 : k ≤ 1125899906842624) (h : smProgram x) : ∃ (a1 a2 a3 : Int) (t1 : List Node) (t2 : List Monitor) (t3 : List Process), CallOk Tryz.prog 38 [.one (.own 6 (nodesT x.nodes)), .one (iV k)] (.s (.one (iV a1))) [some (.own 6 (nodesT t1)), none] ∧ CallOk Tryz.prog 39 [.one (.own 4 (monitorsT x.monitors)), .one (iV a1)] (.s (.one (iV a2))) [some (.own 4 (monitorsT t2)), none] ∧ CallOk Tryz.prog 40 [.one (.own 4 (processsT x.processes)), .one (iV a2)] (.s (.one (iV a3))) [some (.own 4 (processsT t3)), none] ∧ CallOk Tryz.prog 9 [.agg (programR ⟨t1, t2, t3⟩), .one (iV k)] (.s (.one (iV a3))) [none, none] ∧ t1.take x.nodes.length = t1 ∧ x.nodes.length ≤ t1.length ∧ t1.length ≤ x.nodes.length ∧ t2.take x.monitors.length = t2 ∧ x.monitors.length ≤ t2.length ∧ t2.length ≤ x.monitors.length ∧ t3.take x.processes.length = t3 ∧ x.processes.length ≤ t3.length ∧ t3.length ≤ x.processes.length ∧ 0 ≤ a3 ∧ a3 ≤ k + 17592186044416 := by
 have hb := adP_bd h k
 have h1 := adv_le wNode k x.nodes
 have h2 := adv_le wMonitor (adv wNode k x.nodes) x.monitors
 have h3 := adv_le wProcess (adv wMonitor (adv wNode k x.nodes) x.monitors) x.processes
 have c1 := markNodeS_ok x.nodes k hk (by omega)
 have c2 := markMonitorS_ok x.monitors (adv wNode k x.nodes) (by omega) (by omega)
 have c3 := markProcessS_ok x.processes (adv wMonitor (adv wNode k x.nodes) x.monitors) (by omega) (by omega)
 have e1 := heldNodeS_ok x.nodes k hk (by omega)
 have e2 := heldMonitorS_ok x.monitors (adv wNode k x.nodes) (by omega) (by omega)
 have e3 := heldProcessS_ok x.processes (adv wMonitor (adv wNode k x.nodes) x.monitors) (by omega) (by omega)
 have l1 := tk_eq (mkL_len fNode wNode x.nodes k)
 have l2 := tk_eq (mkL_len fMonitor wMonitor x.monitors (adv wNode k x.nodes))
 have l3 := tk_eq (mkL_len fProcess wProcess x.processes (adv wMonitor (adv wNode k x.nodes) x.monitors))
 have e := heldProgram_ok _ _ _ _ _ _ _ (by omega) (by omega) (by omega) e1 e2 e3
 exact ⟨_, _, _, _, _, _, c1, c2, c3, e, l1.1, l1.2.1, l1.2.2, l2.1, l2.2.1, l2.2.2, l3.1, l3.2.1, l3.2.2, by omega, hb⟩
/-! What is read is small. -/
theorem smP_sm {p : Prgm} (h : SmP p) : smProgram p := by
 refine ⟨⟨Nat.le_trans h.nodes.1 (by omega), h.nodes.2⟩, ⟨Nat.le_trans h.monitors.1 (by omega), fun y hy => ?_⟩, ⟨Nat.le_trans h.processes.1 (by omega), fun y hy => ?_⟩⟩
 ·obtain ⟨g1, g2, g3, g4, g5⟩ := h.monitors.2 y hy
  exact ⟨g1, ⟨Nat.le_trans g2.1 (by omega), g2.2⟩, ⟨Nat.le_trans g3.1 (by omega), g3.2⟩, ⟨Nat.le_trans g4 (by omega), g5⟩⟩
 ·obtain ⟨g1, g2, g3⟩ := h.processes.2 y hy
  exact ⟨g1, ⟨Nat.le_trans g2.1 (by omega), g2.2⟩, ⟨Nat.le_trans g3.1 (by omega), g3.2⟩⟩
theorem smZ : smProgram programZ := ⟨⟨Nat.zero_le _, fun y hy => absurd hy (by simp [programZ])⟩, ⟨Nat.zero_le _, fun y hy => absurd hy (by simp [programZ])⟩, ⟨Nat.zero_le _, fun y hy => absurd hy (by simp [programZ])⟩⟩
theorem readS_sm (z : ByteArray) (hz : z.size ≤ 1048576) : smProgram (readS progS z).1 := by
 have sg := signsOf_sg z
 unfold readS
 split
 ·exact smZ
 ·unfold outS
  split
  ·split <;> exact smZ
  ·split
   ·exact smZ
   ·exact smP_sm (smP_out hz sg)
/-- What a contract of a law of one argument promises, as_ the rows ask it. -/
theorem law_one {P : Program} {f : FuncId} {W : World} {u1 : Value} {a1 : A1} (hc : CallOk P f [a1] (.s (.one (bV true))) [none]) (hv1 : relA1 (fun b => b < W.heap.size) W [] a1 u1 fz) :
  Calls P f #[u1] W fun e W' => e = .returned (.bool true) ∧ Go.RowKit.Below W.heap.size W W' := by
 refine (hc.2 (fun b => b < W.heap.size) W [u1] fz ⟨fz, fz, hv1, rfl, rfl⟩ ⟨fun b => by simp [fz], fun b hb => by simp [fz] at hb, fun b hb => hb, inv_all _ _⟩).mono ?_
 rintro e W' ⟨u, R', F1, F2, rfl, g1, -, -, g4⟩
 obtain ⟨rfl, -⟩ : u = .bool true ∧ _ := g1
 exact ⟨rfl, g4.os, g4.tape, g4.output, g4.size, fun k hk => g4.same k hk rfl⟩
theorem str_rel1 {w : World} {s : ByteArray} {R : Nat → Prop} : relA1 R w [] (.one (sV s)) (.string s) fz := ⟨rfl, rfl, by trivial⟩
end Go.Proofs.YtejnpiielcbkkaaGreat.E
end
section
set_option maxRecDepth 100000
set_option maxHeartbeats 4000000
namespace Go.Proofs.YtejnpiielcbkkaaGreat.E
theorem lawRead_ok (z : ByteArray) : CallOk Tryz.prog 3 [.one (sV z)] (.s (.one (bV true))) [none] := by
 cases q0 : decide ((1048576 : Int) < (z.size : Int))
 rotate_left
 ·
  refine cOh 40 (hBd Tryz.func3 rfl (by kernel_rfl) ?_)
  simp (disch := omega) only [go_sem, Tryz.ntmps3, Tryz.results3]
  exact wk
 have hz : z.size ≤ 1048576 := by have := of_decide_eq_false q0; omega
 have cS := sReadProgram_ok z hz
 have cI := iReadProgram_ok z hz
 have sm := readS_sm z hz
 rw [read_both z hz] at cI
 obtain ⟨⟨P, ft⟩, hP⟩ : ∃ x, readS progS z = x := ⟨_, rfl⟩
 rw [hP] at cS cI sm
 dsimp only at cS cI sm
 clear hP
 have md := sm_mdProgram sm
 have heq := eqProgram_ok P md
 obtain ⟨a1, a2, a3, t1, t2, t3, c1, c2, c3, ch, pe1, pl1, pu1, pe2, pl2, pu2, pe3, pl3, pu3, pz, pq⟩ := marksP_ok P 1 (by omega) (by omega) sm
 have bn := sm.1.1
 have bm := sm.2.1.1
 have bp := sm.2.2.1
 have d3 : decide (a3 < 0) = false := decide_eq_false (by omega)
 clear sm md
 obtain ⟨nodes, monitors, processes⟩ := P
 dsimp only at c1 c2 c3 pe1 pl1 pu1 pe2 pl2 pu2 pe3 pl3 pu3 bn bm bp
 refine cOh 40 (hBd Tryz.func3 rfl (by kernel_rfl) ?_)
 simp (disch := omega) only [go_sem, Tryz.ntmps3, Tryz.results3]
 repeat' (first | (with_reducible first | refine i_seq ?_) | ((first | (with_reducible first | refine iBk ?_ | refine iRQ (fun Q' hQ => ?_) | (refine Imp.go hQ ?_; clear hQ) | refine aLr ?_) | ((with_reducible refine i_condT ?_ ?_); (focus (simp only [go_sem, *]; done))) | ((with_reducible refine i_condF ?_ ?_); (focus (simp only [go_sem, *]; done))) | ((with_reducible first | refine rOg (fun h => ?_) (fun h => ?_) | refine i_cond (by simp only [go_sem, *] <;> rfl) (fun h => ?_) (fun h => ?_)) <;> (try simp only [nqA, nqB, nqC, reduceCtorEq] at h) <;> (try have h' := odT h) <;> (try (have hz : (_ : Int) = (_ : Int) := h'; clear hz h')) <;> (try have h' := odF h) <;> (try have h' := inB_t h) <;> (try (exfalso; omega))) | ((first | ((with_reducible first | refine hcO 40 true (cS) ?_ ?_ ?_ ?_ ?_ | refine hcO 40 true (cI) ?_ ?_ ?_ ?_ ?_ | refine hcO 40 true (heq) ?_ ?_ ?_ ?_ ?_); iterate 4 (focus (simp (disch := omega) only [go_sem, q0, d3, bne_self_eq_false, pe1, pe2, pe3, reduceCtorEq, nLo]; done))) | ((with_reducible refine hcO 40 true (ch) ?_ ?_ ?_ ?_ ?_); iterate 4 (focus (simp (disch := omega) only [go_sem, q0, d3, bne_self_eq_false, pe1, pe2, pe3, reduceCtorEq, nLo]; done))) | ((with_reducible refine hcO 40 true (c1) ?_ ?_ ?_ ?_ ?_); iterate 4 (focus (simp (disch := omega) only [go_sem, q0, d3, bne_self_eq_false, pe1, pe2, pe3, reduceCtorEq, nLo]; done))) | ((with_reducible refine hcO 40 true (c2) ?_ ?_ ?_ ?_ ?_); iterate 4 (focus (simp (disch := omega) only [go_sem, q0, d3, bne_self_eq_false, pe1, pe2, pe3, reduceCtorEq, nLo]; done))) | ((with_reducible refine hcO 40 true (c3) ?_ ?_ ?_ ?_ ?_); iterate 4 (focus (simp (disch := omega) only [go_sem, q0, d3, bne_self_eq_false, pe1, pe2, pe3, reduceCtorEq, nLo]; done)))); simp only [go_sem, q0, d3, bne_self_eq_false, pe1, pe2, pe3, reduceCtorEq]; refine aLr ?_)) <;> (try simp (disch := omega) only [go_sem, q0, d3, bne_self_eq_false, pe1, pe2, pe3, reduceCtorEq, *])) | (refine hBd (f := 8) Tryz.func8 rfl (by kernel_rfl) ?_; simp (disch := omega) only [go_sem, Tryz.ntmps8, Tryz.results8, q0, d3, bne_self_eq_false, pe1, pe2, pe3, reduceCtorEq]))
 all_goals (try simp (disch := omega) only [EndK, go_sem, q0, d3, bne_self_eq_false, pe1, pe2, pe3, reduceCtorEq, nLo, *])
end Go.Proofs.YtejnpiielcbkkaaGreat.E
end
