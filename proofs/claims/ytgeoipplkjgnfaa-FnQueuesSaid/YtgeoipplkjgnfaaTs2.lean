import Derived.Test.YtgeoipplkjgnfaaProg
import Derived.Test.YtgeoipplkjgnfaaEng21
set_option linter.unusedVariables false
set_option linter.unusedSimpArgs false
namespace Go.Proofs.Ytgeoipplkjgnfaa.E
theorem ti40 : ti Try.prog 40 = some ⟨.st [(0, 1, false), (1, 1, false), (2, 1, false)], 3, 56, true, [.int .i64 0, .slice none 0 0, .slice none 0 0]⟩ := by kernel_rfl
theorem ti29 : ti Try.prog 29 = some ⟨.sl 3, 1, 24, false, [.slice none 0 0]⟩ := by kernel_rfl
theorem ti3 : ti Try.prog 3 = some ⟨.int .i64, 1, 8, false, [.int .i64 0]⟩ := by kernel_rfl
theorem ni29 : notInt Try.prog 29 = true := by kernel_rfl
attribute [go_sem] ti40 ti29 ti3 ni29
structure Gate where
  owner : Int
  waits : List Int
  queues : List Int
def gateT (g : Gate) : List T := [iV g.owner, .own 1 (intsT g.waits), .own 1 (intsT g.queues)]
def gateR (g : Gate) : List T := [iV g.owner, .ro 1 (intsD g.waits), .ro 1 (intsD g.queues)]
def smGate (g : Gate) : Prop := g.waits.length ≤ 1099511627776 ∧ g.queues.length ≤ 1099511627776
set_option maxRecDepth 100000 in
theorem copyGate_ok (g : Gate) (hg : smGate g) : CallOk Try.prog 68 [.agg (gateR g)] (.s (.agg (gateT g))) [none] := by
  obtain ⟨h1, h2⟩ := hg
  refine callOk_of_hcall 40 (hcall_of_body Try.func68 rfl (by kernel_rfl) ?_)
  simp (disch := omega) only [go_sem, Try.ntmps68, Try.results68, gateR]
  refine i_seq (i_region (aL_run ?_))
  simp (disch := omega) only [go_sem]
  refine i_seq (i_region (aL_run ?_))
  simp (disch := omega) only [go_sem]
  refine i_seq (i_region (aL_run ?_))
  simp (disch := omega) only [go_sem]
  refine i_seq (i_region (aL_run ?_))
  simp (disch := omega) only [go_sem]
  simp (disch := omega) only [go_sem, EndK, gateT]
attribute [go_sem] gateR gateT
end Go.Proofs.Ytgeoipplkjgnfaa.E
