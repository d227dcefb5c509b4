/- A part of what stands under the laws of this seat: an abstract evaluator that is proved sound, and contracts of functions by it. No condition beside those that stand in each statement. -/
import Derived.Test.YtejnpiielcbkkaaGreatZM3
import Derived.Test.YtejnpiielcbkkaaGreatZK19
import Derived.Test.YtejnpiielcbkkaaGreatZA2
set_option linter.unusedVariables false
set_option linter.unusedSimpArgs false
section
set_option maxRecDepth 100000
set_option maxHeartbeats 4000000
namespace Go.Proofs.YtejnpiielcbkkaaGreat.E
theorem advI_bd {b : Nat} {xs : List Int} (k : Int) (h : xs.length ≤ b) : adv wI k xs ≤ k + b := by rw [adv_int]; omega
theorem advB_bd {b : Nat} {xs : List Bool} (k : Int) (h : xs.length ≤ b) : adv wB k xs ≤ k + b := by
  have := adv_bound (w := wB) (k := k) (xs := xs) (n := 1) (fun _ _ => Nat.le_refl _)
  omega
theorem advE_bd {b : Nat} {xs : List Event} (k : Int) (h : xs.length ≤ b) : adv wEv k xs ≤ k + 3 * b := by
  have := adv_bound (w := wEv) (k := k) (xs := xs) (n := 3) (fun _ _ => Nat.le_refl _)
  omega
theorem advC_bd {b : Nat} {xs : List Core} (k : Int) (h : xs.length ≤ 1048576) (hx : ∀ y ∈ xs, bdC b y) : adv wC k xs ≤ k + 1048576 * (b + 2 : Nat) := by
  have h1 := adv_bound (w := wC) (k := k) (xs := xs) (n := b + 2) (fun x hx' => by have := hx x hx'; simp only [wC, wI_sum]; unfold bdC at this; omega)
  have h2 := Nat.mul_le_mul_right (b + 2) h
  omega
theorem advG_bd {b : Nat} {xs : List Gate} (k : Int) (h : xs.length ≤ 1048576) (hx : ∀ y ∈ xs, bdG b y) : adv wG k xs ≤ k + 1048576 * (1 + b + b : Nat) := by
  have h1 := adv_bound (w := wG) (k := k) (xs := xs) (n := 1 + b + b) (fun x hx' => by have := hx x hx'; simp only [wG, wI_sum]; unfold bdG at this; omega)
  have h2 := Nat.mul_le_mul_right (1 + b + b) h
  omega
theorem adM_bdk {b : Nat} {m : Machine} {k : Int} (hk : k ≤ 1125899906842624) (hb : b ≤ 34359738368) (hm : bdM b m) : adM k m ≤ 1152921504606846976 := by
  obtain ⟨⟨h1, h2⟩, h3, ⟨h4, h4'⟩, ⟨⟨h5, h5'⟩, h6, ⟨h7, h7'⟩, h8⟩, h9, h10⟩ := hm
  have a1 := advI_bd k h1
  have a2 : adIm k m.image ≤ _ := advI_bd (adv wI k m.image.text) h2
  have a3 : ad1 k m ≤ _ := advI_bd (adIm k m.image) h3
  have a4 : ad2 k m ≤ _ := advC_bd (ad1 k m) h4 h4'
  have a5 := advG_bd (ad2 k m) h5 h5'
  have a6 := advI_bd (adv wG (ad2 k m) m.kernel.gates) h6
  have a7 := advC_bd (adv wI (adv wG (ad2 k m) m.kernel.gates) m.kernel.ready) h7 h7'
  have a8 : ad3 k m ≤ _ := advB_bd (adv wC (adv wI (adv wG (ad2 k m) m.kernel.gates) m.kernel.ready) m.kernel.saved) h8
  have a9 : ad4 k m ≤ _ := advI_bd (ad3 k m) h9
  have a10 : adM k m ≤ _ := advE_bd (ad4 k m) h10
  omega
theorem adM_bd {b : Nat} {m : Machine} (hb : b ≤ 34359738368) (hm : bdM b m) : adM 1 m ≤ 1152921504606846976 := adM_bdk (by omega) hb hm
end Go.Proofs.YtejnpiielcbkkaaGreat.E
end
section
set_option maxRecDepth 100000
set_option maxHeartbeats 4000000
namespace Go.Proofs.YtejnpiielcbkkaaGreat.E
theorem tk_eq {α : Type} {t : List α} {n : Nat} (h : t.length = n) : t.take n = t ∧ n ≤ t.length ∧ t.length ≤ n := ⟨by rw [← h, List.take_length], by omega, by omega⟩
theorem marks_ok (x : Machine) (k : Int) (hk : 0 ≤ k) (ha : adM k x ≤ 1152921504606846976) : ∃ (a1 a2 a3 a4 a5 a6 a7 a8 a9 a10 : Int) (t1 : List Int) (t2 : List Int) (t3 : List Int) (t4 : List Core) (t5 : List Gate) (t6 : List Int) (t7 : List Core) (t8 : List Bool) (t9 : List Int) (t10 : List Event), CallOk Tryz.prog 20 [.one (.own 1 (intsT x.image.text)), .one (iV k)] (.s (.one (iV a1))) [some (.own 1 (intsT t1)), none] ∧ CallOk Tryz.prog 20 [.one (.own 1 (intsT x.image.starts)), .one (iV a1)] (.s (.one (iV a2))) [some (.own 1 (intsT t2)), none] ∧ CallOk Tryz.prog 20 [.one (.own 1 (intsT x.mem)), .one (iV a2)] (.s (.one (iV a3))) [some (.own 1 (intsT t3)), none] ∧ CallOk Tryz.prog 72 [.one (.own 3 (coresT x.cores)), .one (iV a3)] (.s (.one (iV a4))) [some (.own 3 (coresT t4)), none] ∧ CallOk Tryz.prog 155 [.one (.own 3 (gatesT x.kernel.gates)), .one (iV a4)] (.s (.one (iV a5))) [some (.own 3 (gatesT t5)), none] ∧ CallOk Tryz.prog 20 [.one (.own 1 (intsT x.kernel.ready)), .one (iV a5)] (.s (.one (iV a6))) [some (.own 1 (intsT t6)), none] ∧ CallOk Tryz.prog 72 [.one (.own 3 (coresT x.kernel.saved)), .one (iV a6)] (.s (.one (iV a7))) [some (.own 3 (coresT t7)), none] ∧ CallOk Tryz.prog 156 [.one (.own 1 (boolsT x.kernel.over)), .one (iV a7)] (.s (.one (iV a8))) [some (.own 1 (boolsT t8)), none] ∧ CallOk Tryz.prog 20 [.one (.own 1 (intsT x.input)), .one (iV a8)] (.s (.one (iV a9))) [some (.own 1 (intsT t9)), none] ∧ CallOk Tryz.prog 74 [.one (.own 3 (eventsT x.events)), .one (iV a9)] (.s (.one (iV a10))) [some (.own 3 (eventsT t10)), none] ∧ t1.take x.image.text.length = t1 ∧ x.image.text.length ≤ t1.length ∧ t1.length ≤ x.image.text.length ∧ t2.take x.image.starts.length = t2 ∧ x.image.starts.length ≤ t2.length ∧ t2.length ≤ x.image.starts.length ∧ t3.take x.mem.length = t3 ∧ x.mem.length ≤ t3.length ∧ t3.length ≤ x.mem.length ∧ t4.take x.cores.length = t4 ∧ x.cores.length ≤ t4.length ∧ t4.length ≤ x.cores.length ∧ t5.take x.kernel.gates.length = t5 ∧ x.kernel.gates.length ≤ t5.length ∧ t5.length ≤ x.kernel.gates.length ∧ t6.take x.kernel.ready.length = t6 ∧ x.kernel.ready.length ≤ t6.length ∧ t6.length ≤ x.kernel.ready.length ∧ t7.take x.kernel.saved.length = t7 ∧ x.kernel.saved.length ≤ t7.length ∧ t7.length ≤ x.kernel.saved.length ∧ t8.take x.kernel.over.length = t8 ∧ x.kernel.over.length ≤ t8.length ∧ t8.length ≤ x.kernel.over.length ∧ t9.take x.input.length = t9 ∧ x.input.length ≤ t9.length ∧ t9.length ≤ x.input.length ∧ t10.take x.events.length = t10 ∧ x.events.length ≤ t10.length ∧ t10.length ≤ x.events.length ∧ 0 ≤ a10 ∧ a10 ≤ 1152921504606846976 ∧ CallOk Tryz.prog 21 [.agg (machineR ⟨⟨t1, t2, x.image.size⟩, t3, t4, ⟨t5, t6, t7, t8⟩, t9, t10, x.stopped⟩), .one (iV k)] (.s (.one (iV a10))) [none, none] := by
  obtain ⟨h1, h2, h3, h4, h5, h6⟩ := adM_le k x
  obtain ⟨i1, i2⟩ := adIm_le k x.image
  obtain ⟨j1, j2, j3, j4⟩ := adK_le (ad2 k x) x.kernel
  have j5 : adK (ad2 k x) x.kernel = ad3 k x := rfl
  rw [j5] at j4
  have c1 : CallOk Tryz.prog 20 [.one (.own 1 (intsT x.image.text)), .one (iV k)] (.s (.one (iV (adv wI k x.image.text)))) [some (.own 1 (intsT (mkL fI wI k x.image.text))), none] := markIntS_ok x.image.text k (by omega) (Int.le_trans (Int.le_of_eq (show _ = (adv wI k x.image.text) from rfl)) (by omega))
  have l1 := tk_eq (mkL_len fI wI x.image.text k)
  have c2 : CallOk Tryz.prog 20 [.one (.own 1 (intsT x.image.starts)), .one (iV (adv wI k x.image.text))] (.s (.one (iV (adIm k x.image)))) [some (.own 1 (intsT (mkL fI wI (adv wI k x.image.text) x.image.starts))), none] := markIntS_ok x.image.starts (adv wI k x.image.text) (by omega) (Int.le_trans (Int.le_of_eq (show _ = (adIm k x.image) from rfl)) (by omega))
  have l2 := tk_eq (mkL_len fI wI x.image.starts (adv wI k x.image.text))
  have c3 : CallOk Tryz.prog 20 [.one (.own 1 (intsT x.mem)), .one (iV (adIm k x.image))] (.s (.one (iV (ad1 k x)))) [some (.own 1 (intsT (mkL fI wI (adIm k x.image) x.mem))), none] := markIntS_ok x.mem (adIm k x.image) (by omega) (Int.le_trans (Int.le_of_eq (show _ = (ad1 k x) from rfl)) (by omega))
  have l3 := tk_eq (mkL_len fI wI x.mem (adIm k x.image))
  have c4 : CallOk Tryz.prog 72 [.one (.own 3 (coresT x.cores)), .one (iV (ad1 k x))] (.s (.one (iV (ad2 k x)))) [some (.own 3 (coresT (mkL fC wC (ad1 k x) x.cores))), none] := markCoreS_ok x.cores (ad1 k x) (by omega) (Int.le_trans (Int.le_of_eq (show _ = (ad2 k x) from rfl)) (by omega))
  have l4 := tk_eq (mkL_len fC wC x.cores (ad1 k x))
  have c5 : CallOk Tryz.prog 155 [.one (.own 3 (gatesT x.kernel.gates)), .one (iV (ad2 k x))] (.s (.one (iV (adv wG (ad2 k x) x.kernel.gates)))) [some (.own 3 (gatesT (mkL fG wG (ad2 k x) x.kernel.gates))), none] := markGateS_ok x.kernel.gates (ad2 k x) (by omega) (Int.le_trans (Int.le_of_eq (show _ = (adv wG (ad2 k x) x.kernel.gates) from rfl)) (by omega))
  have l5 := tk_eq (mkL_len fG wG x.kernel.gates (ad2 k x))
  have c6 : CallOk Tryz.prog 20 [.one (.own 1 (intsT x.kernel.ready)), .one (iV (adv wG (ad2 k x) x.kernel.gates))] (.s (.one (iV (adv wI (adv wG (ad2 k x) x.kernel.gates) x.kernel.ready)))) [some (.own 1 (intsT (mkL fI wI (adv wG (ad2 k x) x.kernel.gates) x.kernel.ready))), none] := markIntS_ok x.kernel.ready (adv wG (ad2 k x) x.kernel.gates) (by omega) (Int.le_trans (Int.le_of_eq (show _ = (adv wI (adv wG (ad2 k x) x.kernel.gates) x.kernel.ready) from rfl)) (by omega))
  have l6 := tk_eq (mkL_len fI wI x.kernel.ready (adv wG (ad2 k x) x.kernel.gates))
  have c7 : CallOk Tryz.prog 72 [.one (.own 3 (coresT x.kernel.saved)), .one (iV (adv wI (adv wG (ad2 k x) x.kernel.gates) x.kernel.ready))] (.s (.one (iV (adv wC (adv wI (adv wG (ad2 k x) x.kernel.gates) x.kernel.ready) x.kernel.saved)))) [some (.own 3 (coresT (mkL fC wC (adv wI (adv wG (ad2 k x) x.kernel.gates) x.kernel.ready) x.kernel.saved))), none] := markCoreS_ok x.kernel.saved (adv wI (adv wG (ad2 k x) x.kernel.gates) x.kernel.ready) (by omega) (Int.le_trans (Int.le_of_eq (show _ = (adv wC (adv wI (adv wG (ad2 k x) x.kernel.gates) x.kernel.ready) x.kernel.saved) from rfl)) (by omega))
  have l7 := tk_eq (mkL_len fC wC x.kernel.saved (adv wI (adv wG (ad2 k x) x.kernel.gates) x.kernel.ready))
  have c8 : CallOk Tryz.prog 156 [.one (.own 1 (boolsT x.kernel.over)), .one (iV (adv wC (adv wI (adv wG (ad2 k x) x.kernel.gates) x.kernel.ready) x.kernel.saved))] (.s (.one (iV (ad3 k x)))) [some (.own 1 (boolsT (mkL fB wB (adv wC (adv wI (adv wG (ad2 k x) x.kernel.gates) x.kernel.ready) x.kernel.saved) x.kernel.over))), none] := markBoolS_ok x.kernel.over (adv wC (adv wI (adv wG (ad2 k x) x.kernel.gates) x.kernel.ready) x.kernel.saved) (by omega) (Int.le_trans (Int.le_of_eq (show _ = (ad3 k x) from rfl)) (by omega))
  have l8 := tk_eq (mkL_len fB wB x.kernel.over (adv wC (adv wI (adv wG (ad2 k x) x.kernel.gates) x.kernel.ready) x.kernel.saved))
  have c9 : CallOk Tryz.prog 20 [.one (.own 1 (intsT x.input)), .one (iV (ad3 k x))] (.s (.one (iV (ad4 k x)))) [some (.own 1 (intsT (mkL fI wI (ad3 k x) x.input))), none] := markIntS_ok x.input (ad3 k x) (by omega) (Int.le_trans (Int.le_of_eq (show _ = (ad4 k x) from rfl)) (by omega))
  have l9 := tk_eq (mkL_len fI wI x.input (ad3 k x))
  have c10 : CallOk Tryz.prog 74 [.one (.own 3 (eventsT x.events)), .one (iV (ad4 k x))] (.s (.one (iV (adM k x)))) [some (.own 3 (eventsT (mkL fEv wEv (ad4 k x) x.events))), none] := markEventS_ok x.events (ad4 k x) (by omega) (Int.le_trans (Int.le_of_eq (show _ = (adM k x) from rfl)) (by omega))
  have l10 := tk_eq (mkL_len fEv wEv x.events (ad4 k x))
  exact ⟨_, _, _, _, _, _, _, _, _, _, _, _, _, _, _, _, _, _, _, _, c1, c2, c3, c4, c5, c6, c7, c8, c9, c10, l1.1, l1.2.1, l1.2.2, l2.1, l2.2.1, l2.2.2, l3.1, l3.2.1, l3.2.2, l4.1, l4.2.1, l4.2.2, l5.1, l5.2.1, l5.2.2, l6.1, l6.2.1, l6.2.2, l7.1, l7.2.1, l7.2.2, l8.1, l8.2.1, l8.2.2, l9.1, l9.2.1, l9.2.2, l10.1, l10.2.1, l10.2.2, by omega, ha, heldMachine_ok x k hk (by omega)⟩
end Go.Proofs.YtejnpiielcbkkaaGreat.E
end
