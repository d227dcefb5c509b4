import Derived.Test.YtgeoipplkjgnfaaGt7c
import Derived.Test.YtgeoipplkjgnfaaEng26
set_option linter.unusedVariables false
set_option linter.unusedSimpArgs false
set_option maxRecDepth 100000
set_option maxHeartbeats 4000000
namespace Go.Proofs.Ytgeoipplkjgnfaa.E
theorem specCopy_ok (g : Gate) (hg : smGate g) : CallOk Try.prog 76 [.agg (gateR g)] (.s (.agg (gateT g))) [none] := by
  obtain ⟨h1, h2⟩ := id hg
  refine callOk_of_hcall 40 (hcall_of_body Try.func76 rfl (by kernel_rfl) ?_)
  simp (disch := omega) only [go_sem, Try.ntmps76, Try.results76]
  repeat' (first
    | (with_reducible refine i_seq ?_)
    | ((with_reducible refine i_block ?_); (try simp (disch := omega) only [go_sem, *]))
    | ((with_reducible refine i_regionQ (fun Q' hQ => ?_)); (try simp (disch := omega) only [go_sem, *]))
    | ((with_reducible refine Imp.go hQ ?_); clear hQ; (try simp (disch := omega) only [go_sem, *]))
    | ((with_reducible refine resOk_g (fun h => ?_) (fun h => ?_)) <;> (try simp only [Bool.not_eq_eq_eq_not, Bool.not_true, Bool.not_false, reduceCtorEq] at h) <;> (try have h' := of_decide_eq_true h) <;> (try (have hz : (_ : Int) = (_ : Int) := h'; clear hz h')) <;> (try have h' := of_decide_eq_false h) <;> (try have h' := inB_t h) <;> (try (exfalso; omega)) <;> (try simp (disch := omega) only [go_sem, *]))
    | (((with_reducible refine i_condT ?_ ?_); (focus (simp only [go_sem, *]; done))) <;> (try simp (disch := omega) only [go_sem, *]))
    | (((with_reducible refine i_condF ?_ ?_); (focus (simp only [go_sem, *]; done))) <;> (try simp (disch := omega) only [go_sem, *]))
    | ((with_reducible refine i_cond (by simp only [go_sem, *] <;> rfl) (fun h => ?_) (fun h => ?_)) <;> (try simp only [Bool.not_eq_eq_eq_not, Bool.not_true, Bool.not_false, reduceCtorEq] at h) <;> (try have h' := of_decide_eq_true h) <;> (try (have hz : (_ : Int) = (_ : Int) := h'; clear hz h')) <;> (try have h' := of_decide_eq_false h) <;> (try have h' := inB_t h) <;> (try (exfalso; omega)) <;> (try simp (disch := omega) only [go_sem, *]))
    | (with_reducible refine i_th (id := 1) (.ho [0, 1, 3, 4, 7, 8] (altm 2 [8, 4, 1] [true, true, true] (altm 5 [8, 1] [true, false, true] (opm 6 [8, 1] [true, true] (opm 9 [1] [false, true] (opm 10 [] [false] (opm 11 [] [] (.stop))))) (altm 6 [8, 4, 1] [true, true, true] (opm 5 [8, 1] [true, false, true] (opm 9 [1] [false, true] (opm 10 [] [false] (opm 11 [] [] (.stop))))) (.stop))) (altm 6 [8, 4, 1] [true, true, true] (opm 2 [8, 4, 1] [true, true, true] (opm 5 [8, 1] [true, false, true] (opm 9 [1] [false, true] (opm 10 [] [false] (opm 11 [] [] (.stop)))))) (.stop)))) mixedT (by kernel_rfl) (fun Q' hQ => ?_))
    | (with_reducible exact th_none)
    | ((with_reducible refine th_stop ?_ ?_) <;> (try simp (disch := omega) only [go_sem, *]))
    | ((with_reducible refine th_ho ?_); (try simp (disch := omega) only [go_sem, *]))
    | ((with_reducible refine th_opm ?_ (by kernel_rfl) (aL_run ?_)) <;> (try simp (disch := omega) only [go_sem, *]))
    | ((with_reducible refine th_altm ?_ (by kernel_rfl) (aL_run ?_) ?_) <;> (try simp (disch := omega) only [go_sem, *])))
  all_goals (try simp (disch := omega) only [EndK, go_sem, natLe_ok, *])
  all_goals trace_state
end Go.Proofs.Ytgeoipplkjgnfaa.E
