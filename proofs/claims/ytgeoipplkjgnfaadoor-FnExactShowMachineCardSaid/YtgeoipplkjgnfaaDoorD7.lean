import Derived.Test.YtgeoipplkjgnfaaDoorD6
set_option linter.unusedVariables false
set_option linter.unusedSimpArgs false
namespace Go.Proofs.YtgeoipplkjgnfaaDoor.E
open Go.RowKit
/-! What the rows of the door ask. -/
theorem inv_laid {W : World} (h : Base W) : Inv (fun b => b < W.heap.size) W := fun w' hs hh => by
  unfold Base Lib.TabIs World.var? at *
  cases hg : Tryd.prog.globalNamed "internal/strconv.uint64pow10" with
  | none => simp [hg] at h
  | some g =>
    simp only [hg, Option.bind_some] at h ⊢
    have hlt : g < W.heap.size := by
      rcases Nat.lt_or_ge g W.heap.size with h' | h'
      · exact h'
      · rw [Array.getElem?_eq_none h'] at h; simp at h
    rw [hh g hlt]
    exact h
theorem tab_of {P : Program} {W : World} {name : String} {k : IntKind} {zs : List Int} {rest : List (String × DataW Unit)} {ps : List MemPlace} {g : Nat} {t e : TypeId} {n : Nat}
    (hg : P.globalNamed name = some g) (hty : (P.globals[g]?).map (·.type) = some t) (ht : P.underlying t = some (.array n e)) (he : P.underlying e = some (.int k)) (hce : P.cellsOf e = 1) (hct : P.cellsOf t = n)
    (h : DataW.LaidVars P W ((name, Lib.tabData k zs) :: rest) ps) : Lib.TabIs P W name k zs := by
  obtain ⟨g', t', cs, fuel, p, q, hg', ht', hvar, hd, _, _⟩ := h
  obtain rfl := Option.some.inj (hg.symm.trans hg')
  obtain rfl := Option.some.inj (hty.symm.trans ht')
  unfold Lib.TabIs
  rw [hvar, ← Lib.cells_of_tab ht he hce hct hd]
theorem base_of {W : World} {ps : List MemPlace} (h : DataW.LaidVars Tryd.prog W [("internal/strconv.uint64pow10", Lib.tabData .u64 Lib.pow10Tab)] ps) : Base W := by
  refine tab_of (g := 0) (t := 115) (e := 108) (n := 20) (by kernel_rfl) (by kernel_rfl) (by kernel_rfl) (by kernel_rfl) (by kernel_rfl) (by kernel_rfl) h
theorem base_laid {W : World} {a b : String × DataW Unit} {d : DataW Unit} (h : laidMet Tryd.prog [a, b, ("internal/strconv.uint64pow10", d)] W) (hd : d = Lib.tabData .u64 Lib.pow10Tab := by rfl) : Base W := by
  subst hd
  obtain ⟨ps, ⟨_, _, _, _, _, q, _, _, _, _, ⟨_, _, _, _, _, q2, _, _, _, _, h3, _⟩, _⟩, _⟩ := h
  exact base_of h3
/-- What a contract of a law promises, as_ the rows ask it. -/
theorem law_agg {P : Program} {f : FuncId} {W : World} {c : Array Value} {ts : List T} (hc : CallOk P f [.agg ts] (.s (.one (bV true))) [none]) (hv : relA1 (fun b => b < W.heap.size) W [] (.agg ts) (.agg c) fz) (hi : Inv (fun b => b < W.heap.size) W) :
    Calls P f #[.agg c] W fun e W' => e = .returned (.bool true) ∧ Below W.heap.size W W' := by
  refine (hc.2 (fun b => b < W.heap.size) W [.agg c] fz ⟨fz, fz, hv, rfl, rfl⟩ ⟨fun b => by simp [fz], fun b hb => by simp [fz] at hb, fun b hb => hb, hi⟩).mono ?_
  rintro e W' ⟨u, R', F1, F2, rfl, g1, -, -, g4⟩
  obtain ⟨rfl, -⟩ : u = .bool true ∧ _ := g1
  exact ⟨rfl, g4.os, g4.tape, g4.output, g4.size, fun k hk => g4.same k hk rfl⟩
end Go.Proofs.YtgeoipplkjgnfaaDoor.E
