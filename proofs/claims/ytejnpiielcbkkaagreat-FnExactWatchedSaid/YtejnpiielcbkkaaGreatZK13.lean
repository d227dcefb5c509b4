/- A part of what stands under the laws of this seat: an abstract evaluator that is proved sound, and contracts of functions by it. No condition beside those that stand in each statement. -/
import Derived.Test.YtejnpiielcbkkaaGreatZK12
set_option linter.unusedVariables false
set_option linter.unusedSimpArgs false
set_option maxRecDepth 100000
set_option maxHeartbeats 4000000
namespace Go.Proofs.YtejnpiielcbkkaaGreat.E
def enterM (m : Machine) (i n : Int) : Machine :=
  if (arrive (gateAt m n) (procM m i)).2 = true then unlockM (tellM (setG m n (arrive (gateAt m n) (procM m i)).1) (procM m i) 1 n) (-1)
  else unlockM (holdM (tellM (setG m n (arrive (gateAt m n) (procM m i)).1) (procM m i) 1 n) i) (-1)
theorem iGate_enter (m : Machine) (i n : Int) (hm : mdMachine m) (hm1 : mdMachine (tellM (setG m n (arrive (gateAt m n) (procM m i)).1) (procM m i) 1 n)) (h0 : 0 ≤ i) (h1 : i < m.cores.length) (hn : 0 ≤ n) (hn2 : n ≤ 4194303) (hg : n < (m.kernel.gates.length : Int)) :
    CallOk Tryz.prog 211 [.one (.box (machineT m)), .one (iV i), .one (iV 1), .one (iV n)] (.tup []) [some (.box (machineT (enterM m i n))), none, none, none] := by
  have hcc := iHoldCore_ok (tellM (setG m n (arrive (gateAt m n) (procM m i)).1) (procM m i) 1 n) i hm1 h0 h1
  obtain ⟨hi, hme, ⟨hc, hcs⟩, hk, hin, hev, hevs⟩ := hm
  obtain ⟨⟨hg1, hg2⟩, hk1⟩ := hk
  have hgm : mdGate (gateAt m n) := md_gate hg2 n.toNat
  have hgl : n.toNat < m.kernel.gates.length := by omega
  have hil : i.toNat < m.cores.length := by omega
  have hev2 : (setG m n (arrive (gateAt m n) (procM m i)).1).events.length ≤ 137438953472 := by show m.events.length ≤ _; omega
  clear hm1
  cases hnx : (arrive (m.kernel.gates.getD n.toNat gateZ) (m.cores.getD i.toNat coreZ).process).2 <;> cases hmm : decide ((0 : Int) < (m.mem.length : Int))
  all_goals have hwk := fun k => wake_neg (k := k) (p := -1) rfl
  all_goals have hmm1 := hmm
  all_goals (first | replace hmm1 := set_none hmm1 | have hmz := of_decide_eq_true hmm)
  all_goals
   refine callOk_of_hcallF 40 ?_
   simp (disch := omega) only [go_sem]
   refine hcall_names (names_at 0 0 (machineT m) rfl (by with_reducible rfl) (by simp (disch := omega) only [go_sem])) ?_
   simp (disch := omega) only [go_sem]
   refine hcall_names (names_at 5 n.toNat (gateT (m.kernel.gates.getD n.toNat gateZ)) rfl (by with_reducible rfl) (by simp (disch := omega) only [go_sem])) ?_
   simp (disch := omega) only [go_sem]
   refine hcall_of_body Tryz.func211 rfl (by kernel_rfl) ?_
   simp (disch := omega) only [go_sem, Tryz.ntmps211, Tryz.results211]
   have x1 := @procM.eq_1
   have x2 := @gateAt.eq_1
   have x3 := @setG.eq_1
   have x4 := @tellM.eq_1
   have x5 := @holdM.eq_1
   have x6 := @enterM.eq_1
   have x7 := @unlockM.eq_1
   have x8 := @List.set_set.{0}
   have x9 : HF 0 4 := ⟨⟩
   have x10 : HF 1 5 := ⟨⟩
   have x11 : HF 2 7 := ⟨⟩
   have x12 := iArrive_ok (m.kernel.gates.getD n.toNat gateZ) (m.cores.getD i.toNat coreZ).process hgm
   have x13 := iTell_ok (setG m n (arrive (m.kernel.gates.getD n.toNat gateZ) (m.cores.getD i.toNat coreZ).process).1) (m.cores.getD i.toNat coreZ).process 1 n hev2
   exact wkfi
end Go.Proofs.YtejnpiielcbkkaaGreat.E
