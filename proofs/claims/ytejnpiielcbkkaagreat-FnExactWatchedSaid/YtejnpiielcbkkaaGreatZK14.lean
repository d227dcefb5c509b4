/- A part of what stands under the laws of this seat: an abstract evaluator that is proved sound, and contracts of functions by it. No condition beside those that stand in each statement. -/
import Derived.Test.YtejnpiielcbkkaaGreatZK12
set_option linter.unusedVariables false
set_option linter.unusedSimpArgs false
set_option maxRecDepth 100000
set_option maxHeartbeats 4000000
namespace Go.Proofs.YtejnpiielcbkkaaGreat.E
def contM (m : Machine) (i n : Int) : Machine := unlockM (tellM (setG m (n.tdiv 2) (continueAt (gateAt m (n.tdiv 2)) (n.tmod 2)).1) (procM m i) 4 (n.tdiv 2)) (continueAt (gateAt m (n.tdiv 2)) (n.tmod 2)).2
def delayM (m : Machine) (i n : Int) : Machine :=
  if (delayIn (gateAt m (n.tdiv 2)) (n.tmod 2)).2.2 = true then unlockM (holdM (tellM (setG m (n.tdiv 2) (delayIn (gateAt m (n.tdiv 2)) (n.tmod 2)).1) (procM m i) 3 (n.tdiv 2)) i) (delayIn (gateAt m (n.tdiv 2)) (n.tmod 2)).2.1
  else tellM (setG m (n.tdiv 2) (delayIn (gateAt m (n.tdiv 2)) (n.tmod 2)).1) (procM m i) 8 3
theorem iGate_cont (m : Machine) (i n : Int) (hm : mdMachine m) (hm1 : mdMachine (tellM (setG m (n.tdiv 2) (continueAt (gateAt m (n.tdiv 2)) (n.tmod 2)).1) (procM m i) 4 (n.tdiv 2))) (h0 : 0 ≤ i) (h1 : i < m.cores.length) (hn : 0 ≤ n) (hn2 : n ≤ 4194303) (hg : n.tdiv 2 < (m.kernel.gates.length : Int)) :
    CallOk Tryz.prog 211 [.one (.box (machineT m)), .one (iV i), .one (iV 4), .one (iV n)] (.tup []) [some (.box (machineT (contM m i n))), none, none, none] := by
  have ed := Int.tdiv_eq_ediv_of_nonneg (b := 2) hn
  have hd0 : 0 ≤ n.tdiv 2 := by omega
  have hd1 : n.tdiv 2 ≤ n := by omega
  clear ed
  obtain ⟨hi, hme, ⟨hc, hcs⟩, hk, hin, hev, hevs⟩ := hm
  obtain ⟨⟨hg1, hg2⟩, hk1⟩ := hk
  obtain ⟨hi', hme', ⟨hc', hcs'⟩, hk', hin', hev', hevs'⟩ := hm1
  have hgm : mdGate (gateAt m (n.tdiv 2)) := md_gate hg2 (n.tdiv 2).toNat
  have hgl : (n.tdiv 2).toNat < m.kernel.gates.length := by omega
  have hil : i.toNat < m.cores.length := by omega
  have hev2 : (setG m (n.tdiv 2) (continueAt (m.kernel.gates.getD (n.tdiv 2).toNat gateZ) (n.tmod 2)).1).events.length ≤ 137438953472 := by show m.events.length ≤ _; omega
  cases hnx : decide (0 ≤ (continueAt (m.kernel.gates.getD (n.tdiv 2).toNat gateZ) (n.tmod 2)).2) <;> cases hmm : decide ((0 : Int) < (m.mem.length : Int))
  all_goals have hnx1 := hnx
  all_goals have hmm1 := hmm
  all_goals (first | replace hnx1 := fun k => wake_neg (k := k) hnx1 | skip)
  all_goals (first | replace hmm1 := set_none hmm1 | have hmz := of_decide_eq_true hmm)
  all_goals
   refine callOk_of_hcallF 40 ?_
   simp (disch := omega) only [go_sem]
   refine hcall_names (names_at 0 0 (machineT m) rfl (by with_reducible rfl) (by simp (disch := omega) only [go_sem])) ?_
   simp (disch := omega) only [go_sem]
   refine hcall_names (names_at 5 ((n.tdiv 2).toNat) (gateT (m.kernel.gates.getD (n.tdiv 2).toNat gateZ)) rfl (by with_reducible rfl) (by simp (disch := omega) only [go_sem])) ?_
   simp (disch := omega) only [go_sem]
   refine hcall_of_body Tryz.func211 rfl (by kernel_rfl) ?_
   simp (disch := omega) only [go_sem, Tryz.ntmps211, Tryz.results211]
   have x1 := @procM.eq_1
   have x2 := @gateAt.eq_1
   have x3 := @setG.eq_1
   have x4 := @tellM.eq_1
   have x5 := @contM.eq_1
   have x6 := @unlockM.eq_1
   have x7 := @List.set_set.{0}
   have x8 : HF 0 4 := ⟨⟩
   have x9 : HF 1 5 := ⟨⟩
   have x10 : HF 2 7 := ⟨⟩
   have x11 := iContinueAt_ok (m.kernel.gates.getD (n.tdiv 2).toNat gateZ) (n.tmod 2) hgm
   have x12 := iTell_ok (setG m (n.tdiv 2) (continueAt (m.kernel.gates.getD (n.tdiv 2).toNat gateZ) (n.tmod 2)).1) (m.cores.getD i.toNat coreZ).process 4 (n.tdiv 2) hev2
   have x13 := iWake_ok (tellM (setG m (n.tdiv 2) (continueAt (m.kernel.gates.getD (n.tdiv 2).toNat gateZ) (n.tmod 2)).1) (m.cores.getD i.toNat coreZ).process 4 (n.tdiv 2)).kernel (continueAt (m.kernel.gates.getD (n.tdiv 2).toNat gateZ) (n.tmod 2)).2 hk'
   exact wkfi
end Go.Proofs.YtejnpiielcbkkaaGreat.E
