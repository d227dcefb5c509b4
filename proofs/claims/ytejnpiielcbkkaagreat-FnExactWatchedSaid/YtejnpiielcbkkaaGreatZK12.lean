/- A part of what stands under the laws of this seat: an abstract evaluator that is proved sound, and contracts of functions by it. No condition beside those that stand in each statement. -/
import Derived.Test.YtejnpiielcbkkaaGreatZK10
set_option linter.unusedVariables false
set_option linter.unusedSimpArgs false
set_option maxRecDepth 100000
set_option maxHeartbeats 4000000
namespace Go.Proofs.YtejnpiielcbkkaaGreat.E
/-! ### A call of a gate -/
def setG (m : Machine) (n : Int) (g : Gate) : Machine := ⟨m.image, m.mem, m.cores, ⟨m.kernel.gates.set n.toNat g, m.kernel.ready, m.kernel.saved, m.kernel.over⟩, m.input, m.events, m.stopped⟩
def unlockM (m : Machine) (nx : Int) : Machine := ⟨m.image, m.mem.set 0 0, m.cores, wake m.kernel nx, m.input, m.events, m.stopped⟩
abbrev procM (m : Machine) (i : Int) : Int := (m.cores.getD i.toNat coreZ).process
abbrev gateAt (m : Machine) (n : Int) : Gate := m.kernel.gates.getD n.toNat gateZ
theorem wake_neg {k : Kernel} {p : Int} (h : decide (0 ≤ p) = false) : wake k p = k := by
  have := of_decide_eq_false h
  rw [wake, if_neg]
  rintro ⟨h1, -⟩
  have := inB_t h1
  omega
theorem set_none {xs : List Int} (h : decide ((0 : Int) < (xs.length : Int)) = false) : xs.set 0 0 = xs := by
  have := of_decide_eq_false h
  have : xs = [] := List.eq_nil_of_length_eq_zero (by omega)
  rw [this]; rfl
def leaveM (m : Machine) (i n : Int) : Machine := unlockM (tellM (setG m n (leave (gateAt m n)).1) (procM m i) 2 n) (leave (gateAt m n)).2
theorem iGate_out (m : Machine) (i k n : Int) (hm : mdMachine m) (h0 : 0 ≤ i) (h1 : i < m.cores.length) (hk : k = 1 ∨ k = 2) (hn : 0 ≤ n) (hn2 : n ≤ 4194303) (hg : (m.kernel.gates.length : Int) ≤ n) :
    CallOk Tryz.prog 211 [.one (.box (machineT m)), .one (iV i), .one (iV k), .one (iV n)] (.tup []) [some (.box (machineT (tellM m (procM m i) 8 4))), none, none, none] := by
  obtain ⟨hi, hme, ⟨hc, hcs⟩, hk, hin, hev, hevs⟩ := hm
  obtain ⟨⟨hg1, hg2⟩, hk1⟩ := hk
  have hil : i.toNat < m.cores.length := by omega
  rcases ‹k = 1 ∨ k = 2› with rfl | rfl
  all_goals
    refine callOk_of_hcallF 40 ?_
    simp (disch := omega) only [go_sem]
    refine hcall_names (names_at 0 0 (machineT m) rfl (by with_reducible rfl) (by simp (disch := omega) only [go_sem])) ?_
    simp (disch := omega) only [go_sem]
    refine hcall_of_body Tryz.func211 rfl (by kernel_rfl) ?_
    simp (disch := omega) only [go_sem, Tryz.ntmps211, Tryz.results211]
    have x1 := @procM.eq_1
    have x2 : HF 0 4 := ⟨⟩
    have x3 : HF 1 5 := ⟨⟩
    have x4 : HF 2 7 := ⟨⟩
    have x5 := iTell_ok m (m.cores.getD i.toNat coreZ).process 8 4 (by omega)
    exact wkfi
theorem iGate_leave (m : Machine) (i n : Int) (hm : mdMachine m) (hm1 : mdMachine (tellM (setG m n (leave (gateAt m n)).1) (procM m i) 2 n)) (h0 : 0 ≤ i) (h1 : i < m.cores.length) (hn : 0 ≤ n) (hn2 : n ≤ 4194303) (hg : n < (m.kernel.gates.length : Int)) :
    CallOk Tryz.prog 211 [.one (.box (machineT m)), .one (iV i), .one (iV 2), .one (iV n)] (.tup []) [some (.box (machineT (leaveM m i n))), none, none, none] := by
  obtain ⟨hi, hme, ⟨hc, hcs⟩, hk, hin, hev, hevs⟩ := hm
  obtain ⟨⟨hg1, hg2⟩, hk1⟩ := hk
  obtain ⟨hi', hme', ⟨hc', hcs'⟩, hk', hin', hev', hevs'⟩ := hm1
  have hgm : mdGate (gateAt m n) := md_gate hg2 n.toNat
  have hgl : n.toNat < m.kernel.gates.length := by omega
  have hil : i.toNat < m.cores.length := by omega
  have hev2 : (setG m n (leave (gateAt m n)).1).events.length ≤ 137438953472 := by show m.events.length ≤ _; omega
  cases hnx : decide (0 ≤ (leave (m.kernel.gates.getD n.toNat gateZ)).2) <;> cases hmm : decide ((0 : Int) < (m.mem.length : Int))
  all_goals have hnx1 := hnx
  all_goals have hmm1 := hmm
  all_goals (first | replace hnx1 := fun k => wake_neg (k := k) hnx1 | skip)
  all_goals (first | replace hmm1 := set_none hmm1 | have hmz := of_decide_eq_true hmm)
  all_goals
   refine callOk_of_hcallF 40 ?_
   simp (disch := omega) only [go_sem]
   refine hcall_names (names_at 0 0 (machineT m) rfl (by with_reducible rfl) (by simp (disch := omega) only [go_sem])) ?_
   simp (disch := omega) only [go_sem]
   refine hcall_names (names_at 5 n.toNat (gateT (m.kernel.gates.getD n.toNat gateZ)) rfl (by with_reducible rfl) (by simp (disch := omega) only [go_sem])) ?_
   simp (disch := omega) only [go_sem]
   refine hcall_of_body Tryz.func211 rfl (by kernel_rfl) ?_
   simp (disch := omega) only [go_sem, Tryz.ntmps211, Tryz.results211]
   have x1 := @procM.eq_1
   have x2 := @gateAt.eq_1
   have x3 := @setG.eq_1
   have x4 := @tellM.eq_1
   have x5 := @leaveM.eq_1
   have x6 := @unlockM.eq_1
   have x7 := @List.set_set.{0}
   have x8 : HF 0 4 := ⟨⟩
   have x9 : HF 1 5 := ⟨⟩
   have x10 : HF 2 7 := ⟨⟩
   have x11 := iLeave_ok (m.kernel.gates.getD n.toNat gateZ) hgm
   have x12 := iTell_ok (setG m n (leave (m.kernel.gates.getD n.toNat gateZ)).1) (m.cores.getD i.toNat coreZ).process 2 n hev2
   have x13 := iWake_ok (tellM (setG m n (leave (m.kernel.gates.getD n.toNat gateZ)).1) (m.cores.getD i.toNat coreZ).process 2 n).kernel (leave (m.kernel.gates.getD n.toNat gateZ)).2 hk'
   exact wkfi
end Go.Proofs.YtejnpiielcbkkaaGreat.E
