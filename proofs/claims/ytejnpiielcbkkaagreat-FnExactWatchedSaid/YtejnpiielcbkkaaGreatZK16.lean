/- A part of what stands under the laws of this seat: an abstract evaluator that is proved sound, and contracts of functions by it. No condition beside those that stand in each statement. -/
import Derived.Test.YtejnpiielcbkkaaGreatZK14
set_option linter.unusedVariables false
set_option linter.unusedSimpArgs false
section
set_option maxRecDepth 100000
set_option maxHeartbeats 4000000
namespace Go.Proofs.YtejnpiielcbkkaaGreat.E
theorem iGate_out2 (m : Machine) (i k n : Int) (hm : mdMachine m) (h0 : 0 ≤ i) (h1 : i < m.cores.length) (hk : k = 3 ∨ k = 4) (hn : 0 ≤ n) (hn2 : n ≤ 4194303) (hg : (m.kernel.gates.length : Int) ≤ n.tdiv 2) :
    CallOk Tryz.prog 211 [.one (.box (machineT m)), .one (iV i), .one (iV k), .one (iV n)] (.tup []) [some (.box (machineT (tellM m (procM m i) 8 4))), none, none, none] := by
  have ed := Int.tdiv_eq_ediv_of_nonneg (b := 2) hn
  have hd0 : 0 ≤ n.tdiv 2 := by omega
  have hd1 : n.tdiv 2 ≤ n := by omega
  clear ed
  obtain ⟨hi, hme, ⟨hc, hcs⟩, hk, hin, hev, hevs⟩ := hm
  obtain ⟨⟨hg1, hg2⟩, hk1⟩ := hk
  have hil : i.toNat < m.cores.length := by omega
  rcases ‹k = 3 ∨ k = 4› with rfl | rfl
  all_goals
    refine callOk_of_hcallF 40 ?_
    simp (disch := omega) only [go_sem]
    refine hcall_names (names_at 0 0 (machineT m) rfl (by with_reducible rfl) (by simp (disch := omega) only [go_sem])) ?_
    simp (disch := omega) only [go_sem]
    refine hcall_of_body Tryz.func211 rfl (by kernel_rfl) ?_
    simp (disch := omega) only [go_sem, Tryz.ntmps211, Tryz.results211]
    have x1 := @procM.eq_1
    have x2 : HF 0 4 := ⟨⟩
    have x3 : HF 1 5 := ⟨⟩
    have x4 : HF 2 7 := ⟨⟩
    have x5 := iTell_ok m (m.cores.getD i.toNat coreZ).process 8 4 (by omega)
    exact wkfi
end Go.Proofs.YtejnpiielcbkkaaGreat.E
end
section
set_option maxRecDepth 100000
set_option maxHeartbeats 4000000
namespace Go.Proofs.YtejnpiielcbkkaaGreat.E
/-! ### Picks -/
def badPick (n : Int) : Bool := decide (n < 0)
theorem badPick_ok (n : Int) : CallOk Tryz.prog 142 [.one (iV n)] (.s (.one (bV (badPick n)))) [none] := by
  refine callOk_of_hcall 40 (hcall_of_body Tryz.func142 rfl (by kernel_rfl) ?_)
  simp (disch := omega) only [go_sem, Tryz.ntmps142, Tryz.results142]
  have x1 := @badPick.eq_1
  exact wk
def picksOk (xs : List Int) (most : Int) : Bool := if decide ((xs.length : Int) ≤ most) = true then !xs.any badPick else false
theorem iPicksOk_ok (xs : List Int) (most : Int) (hs : xs.length ≤ 1099511627776) : CallOk Tryz.prog 64 [.one (.ro 1 (intsD xs)), .one (iV most)] (.s (.one (bV (picksOk xs most)))) [none, none] := by
  cases h1 : decide ((xs.length : Int) ≤ most) <;> cases h2 : xs.any badPick
  all_goals
    refine callOk_of_hcall 40 (hcall_of_body Tryz.func64 rfl (by kernel_rfl) ?_)
    simp (disch := omega) only [go_sem, Tryz.ntmps64, Tryz.results64]
    have x1 := @picksOk.eq_1
    have x2 := hasF_ok 142 badPick badPick_ok xs hs
    exact wk
end Go.Proofs.YtejnpiielcbkkaaGreat.E
end
