import Derived.Test.YtgeoipplkjgnfaaGt4
set_option linter.unusedVariables false
set_option linter.unusedSimpArgs false
set_option maxRecDepth 100000
namespace Go.Proofs.Ytgeoipplkjgnfaa.E
theorem ti125 : ti Try.prog 125 = some ⟨.ptr, 1, 8, false, [.pointer none]⟩ := by kernel_rfl
theorem ni125 : notInt Try.prog 125 = true := by kernel_rfl
attribute [go_sem] ti125 ni125
attribute [go_sem] List.length_drop
def nextG (g : Gate) : Gate :=
  if decide ((0 : Int) < (g.waits.length : Int)) = true then ⟨g.waits.getD 0 0, g.waits.drop 1, g.queues⟩ else ⟨-1, g.waits, g.queues⟩
theorem specNext_ok (g : Gate) (hg : smGate g) : CallOk Try.prog 80 [.one (.box (gateT g))] (.s (.one (iV (nextG g).owner))) [some (.box (gateT (nextG g)))] := by
  obtain ⟨h1, h2⟩ := id hg
  refine callOk_of_hcall 40 (hcall_of_body Try.func80 rfl (by kernel_rfl) ?_)
  simp (disch := omega) only [go_sem, Try.ntmps80, Try.results80]
  repeat' (first
    | (with_reducible refine i_seq ?_)
    | ((with_reducible refine i_block ?_); (try simp (disch := omega) only [go_sem, nextG, *]))
    | ((with_reducible refine i_regionQ (fun Q' hQ => ?_)); (try simp (disch := omega) only [go_sem, nextG, *]))
    | ((with_reducible refine Imp.go hQ ?_); clear hQ; (try simp (disch := omega) only [go_sem, nextG, *]))
    | ((with_reducible refine resOk_g (fun h => ?_) (fun h => ?_)) <;> (try simp only [Bool.not_eq_eq_eq_not, Bool.not_true, Bool.not_false, reduceCtorEq] at h) <;> (try have h' := of_decide_eq_true h) <;> (try (have hz : (_ : Int) = (_ : Int) := h'; clear hz h')) <;> (try have h' := of_decide_eq_false h) <;> (try have h' := inB_t h) <;> (try (exfalso; omega)) <;> (try simp (disch := omega) only [go_sem, nextG, *]))
    | (((with_reducible refine i_condT ?_ ?_); (focus (simp only [go_sem, *]; done))) <;> (try simp (disch := omega) only [go_sem, nextG, *]))
    | (((with_reducible refine i_condF ?_ ?_); (focus (simp only [go_sem, *]; done))) <;> (try simp (disch := omega) only [go_sem, nextG, *]))
    | ((with_reducible refine i_cond (by simp only [go_sem, *] <;> rfl) (fun h => ?_) (fun h => ?_)) <;> (try simp only [Bool.not_eq_eq_eq_not, Bool.not_true, Bool.not_false, reduceCtorEq] at h) <;> (try have h' := of_decide_eq_true h) <;> (try (have hz : (_ : Int) = (_ : Int) := h'; clear hz h')) <;> (try have h' := of_decide_eq_false h) <;> (try have h' := inB_t h) <;> (try (exfalso; omega)) <;> (try simp (disch := omega) only [go_sem, nextG, *])))
  all_goals (try simp (disch := omega) only [EndK, go_sem, nextG, natLe_ok, *])
  all_goals trace_state
end Go.Proofs.Ytgeoipplkjgnfaa.E
