/- A part of what stands under the laws of this seat: an abstract evaluator that is proved sound, and contracts of functions by it. No condition beside those that stand in each statement. -/
import Derived.Test.YtejnpiielcbkkaaGreatZT9
import Derived.Test.YtejnpiielcbkkaaGreatZK23
set_option linter.unusedVariables false
set_option linter.unusedSimpArgs false
section
set_option maxRecDepth 100000
set_option maxHeartbeats 4000000
namespace Go.Proofs.YtejnpiielcbkkaaGreat.E
theorem iWatched_no (p : Prgm) (m : Machine) (picks : List Int) (hm : mdMachine m) (hs : picks.length ≤ 1099511627776) (h : picksOk picks 600 = false ∨ ((m.cores.length : Int) == 0) = true) :
    CallOk Tryz.prog 16 [.agg (programR p), .agg (machineR m), .one (.ro 1 (intsD picks))] (.tup [.agg (machineT m), .one (iV (-1))]) [none, none, none] := by
  have hcs : m.cores.length ≤ 68719476736 := hm.2.2.1.1
  cases h1 : picksOk picks 600 <;> cases h2 : ((m.cores.length : Int) == 0)
  case true.false => rw [h1, h2] at h; simp at h
  all_goals
    refine callOk_of_hcall 40 (hcall_of_body Tryz.func16 rfl (by kernel_rfl) ?_)
    simp (disch := omega) only [go_sem, Tryz.ntmps16, Tryz.results16]
    have x1 := copyMachine_ok m hm
    have x2 := iPicksOk_ok picks 600 hs
    exact wk
theorem iWatched_yes (p : Prgm) (m : Machine) (picks : List Int) (b : Nat) (hsp : smProgram p) (hb : 8 ≤ b) (hb2 : b ≤ 17179869184) (hm : bdM b m) (h1 : picksOk picks 600 = true) (h2 : ((m.cores.length : Int) == 0) = false) (hs : picks.length ≤ 1048576) :
    CallOk Tryz.prog 16 [.agg (programR p), .agg (machineR m), .one (.ro 1 (intsD picks))] (.tup [.agg (machineT (runP (m.cores.length : Int) m picks)), .one (iV (wN p (m.cores.length : Int) m picks picks.length))]) [none, none, none] := by
  have hmm : mdMachine m := bdM_md (by omega) hm
  have hcs : m.cores.length ≤ 68719476736 := hmm.2.2.1.1
  have hcz : (m.cores.length : Int) ≠ 0 := by simpa using h2
  have hcp : 1 ≤ (m.cores.length : Int) := by omega
  have hr0 : runP (m.cores.length : Int) m [] = m := rfl
  have hw0 := wN_zero p (m.cores.length : Int) m picks
  refine callOk_of_hcall 40 (hcall_of_body Tryz.func16 rfl (by kernel_rfl) ?_)
  simp (disch := omega) only [go_sem, Tryz.ntmps16, Tryz.results16]
  have x1 := copyMachine_ok m hmm
  have x2 := iPicksOk_ok picks 600 (by omega)
  refine wkc ?_
  refine i_loop (α := {k : Nat // k ≤ picks.length}) (fun k => ⟨mkEnv 52 [(2, .one (.ro 1 (intsD picks))), (3, .one (.ptr 0 0 0)), (4, .one (.ptr 1 0 0)), (6, .one (.ptr 2 0 0)), (8, .one (.ptr 3 0 0)), (9, .one (iV (wN p (m.cores.length : Int) m picks k.1))), (25, .one (.ro 1 (intsD picks))), (26, .one (iV picks.length)), (27, .one (iV k.1))], [.live 3 [programR p], .live 12 [machineR m], .live 12 [[.v (.slice none 0 0), .v (.slice none 0 0), .v (.int .i64 0), .v (.slice none 0 0), .v (.slice none 0 0), .v (.slice none 0 0), .v (.slice none 0 0), .v (.slice none 0 0), .v (.slice none 0 0), .v (.slice none 0 0), .v (.slice none 0 0), .v (.bool false)]], .live 12 [[.ref 4 0 (runP (m.cores.length : Int) m (picks.take k.1)).image.text.length, .ref 5 0 (runP (m.cores.length : Int) m (picks.take k.1)).image.starts.length, iV (runP (m.cores.length : Int) m (picks.take k.1)).image.size, .ref 6 0 (runP (m.cores.length : Int) m (picks.take k.1)).mem.length, .ref 7 0 (runP (m.cores.length : Int) m (picks.take k.1)).cores.length, .ref 8 0 (runP (m.cores.length : Int) m (picks.take k.1)).kernel.gates.length, .ref 9 0 (runP (m.cores.length : Int) m (picks.take k.1)).kernel.ready.length, .ref 10 0 (runP (m.cores.length : Int) m (picks.take k.1)).kernel.saved.length, .ref 11 0 (runP (m.cores.length : Int) m (picks.take k.1)).kernel.over.length, .ref 12 0 (runP (m.cores.length : Int) m (picks.take k.1)).input.length, .ref 13 0 (runP (m.cores.length : Int) m (picks.take k.1)).events.length, bV (runP (m.cores.length : Int) m (picks.take k.1)).stopped]], .live 1 (intsT (runP (m.cores.length : Int) m (picks.take k.1)).image.text), .live 1 (intsT (runP (m.cores.length : Int) m (picks.take k.1)).image.starts), .live 1 (intsT (runP (m.cores.length : Int) m (picks.take k.1)).mem), .live 3 (coresT (runP (m.cores.length : Int) m (picks.take k.1)).cores), .live 3 (gatesT (runP (m.cores.length : Int) m (picks.take k.1)).kernel.gates), .live 1 (intsT (runP (m.cores.length : Int) m (picks.take k.1)).kernel.ready), .live 3 (coresT (runP (m.cores.length : Int) m (picks.take k.1)).kernel.saved), .live 1 (boolsT (runP (m.cores.length : Int) m (picks.take k.1)).kernel.over), .live 1 (intsT (runP (m.cores.length : Int) m (picks.take k.1)).input), .live 3 (eventsT (runP (m.cores.length : Int) m (picks.take k.1)).events)]⟩) (fun k => picks.length - k.1) ⟨0, by omega⟩ ?_ ?_
  ·
    first | (refine weak_canon [2, 3, 4, 6, 8, 9, 25, 26, 27] [0, 1, 2, 13, 3, 4, 5, 6, 7, 8, 9, 10, 11, 12] ?_ ?_ ?_ <;> (simp (disch := omega) only [go_sem, hr0, hw0, Int.natCast_zero, Int.cast_ofNat_Int, List.take_zero, machineR, machineT, programR]; done)) | (refine weak_canon [2, 3, 4, 6, 8, 9, 25, 26, 27] [0, 1, 2, 13, 3, 4, 5, 6, 7, 8, 9, 10, 11, 12] ?_ ?_ ?_ <;> (try (simp (disch := omega) only [go_sem, hr0, hw0, Int.natCast_zero, Int.cast_ofNat_Int, List.take_zero, machineR, machineT, programR])) <;> trace_state)
  rintro ⟨k, hk⟩
  by_cases hkl : k < picks.length
  · have hbk := runP_bd (n := (m.cores.length : Int)) hb hm (picks.take k)
    have htk : (picks.take k).length ≤ 1048576 := by rw [List.length_take]; omega
    have hst := iStep_ok (runP (m.cores.length : Int) m (picks.take k)) ((picks.getD k 0).tmod (m.cores.length : Int)) _ (by omega) (by omega) hbk
    have htr := iTouchRight_ok p (runP (m.cores.length : Int) m (picks.take k)) ((picks.getD k 0).tmod (m.cores.length : Int)) hsp (bdM_md (by omega) hbk)
    have e := runP_one (n := (m.cores.length : Int)) (m := m) hkl
    have hwl := wN_le p (m.cores.length : Int) m picks k
    rw [e] at hst
    cases hq : touchRight p (runP (m.cores.length : Int) m (picks.take k)) ((picks.getD k 0).tmod (m.cores.length : Int))
    · have hw := wN_no hq
      rw [hq] at htr
      have hw' : ((wN p (m.cores.length : Int) m picks k : Nat) : Int) + 1 = ((wN p (m.cores.length : Int) m picks (k + 1) : Nat) : Int) := by rw [hw]; omega
      clear hw hq e
      simp (disch := omega) only [go_sem]
      refine wkc ?_
      all_goals refine ⟨⟨k + 1, by omega⟩, ?_, by simp only; omega⟩
      all_goals
        first | (refine weak_canon [2, 3, 4, 6, 8, 9, 25, 26, 27] [0, 1, 2, 3, 14, 15, 16, 17, 18, 19, 20, 21, 22, 23] ?_ ?_ ?_ <;> (simp (disch := omega) only [go_sem, hw', machineR, machineT, programR]; done)) | (refine weak_canon [2, 3, 4, 6, 8, 9, 25, 26, 27] [0, 1, 2, 3, 14, 15, 16, 17, 18, 19, 20, 21, 22, 23] ?_ ?_ ?_ <;> (try (simp (disch := omega) only [go_sem, hw', machineR, machineT, programR])) <;> trace_state)
    · have hw := wN_yes hq
      rw [hq] at htr
      clear hq e
      simp (disch := omega) only [go_sem]
      refine wkc ?_
      all_goals refine ⟨⟨k + 1, by omega⟩, ?_, by simp only; omega⟩
      all_goals
        first | (refine weak_canon [2, 3, 4, 6, 8, 9, 25, 26, 27] [0, 1, 2, 3, 14, 15, 16, 17, 18, 19, 20, 21, 22, 23] ?_ ?_ ?_ <;> (simp (disch := omega) only [go_sem, hw, machineR, machineT, programR]; done)) | (refine weak_canon [2, 3, 4, 6, 8, 9, 25, 26, 27] [0, 1, 2, 3, 14, 15, 16, 17, 18, 19, 20, 21, 22, 23] ?_ ?_ ?_ <;> (try (simp (disch := omega) only [go_sem, hw, machineR, machineT, programR])) <;> trace_state)
  · have ek : picks.take k = picks := List.take_of_length_le (by omega)
    have ek2 : k = picks.length := by omega
    subst ek2
    simp (disch := omega) only [go_sem]
    exact wk
end Go.Proofs.YtejnpiielcbkkaaGreat.E
end
section
set_option maxRecDepth 100000
set_option maxHeartbeats 4000000
namespace Go.Proofs.YtejnpiielcbkkaaGreat.E
theorem sWatched_no (p : Prgm) (m : Machine) (picks : List Int) (hm : mdMachine m) (hs : picks.length ≤ 1099511627776) (h : sPicks m picks = false) :
    CallOk Tryz.prog 12 [.agg (programR p), .agg (machineR m), .one (.ro 1 (intsD picks))] (.tup [.agg (machineT m), .one (iV (-1))]) [none, none, none] := by
  have hp := sPicks_ok m picks hm hs
  rw [h] at hp
  refine callOk_of_hcall 40 (hcall_of_body Tryz.func12 rfl (by kernel_rfl) ?_)
  simp (disch := omega) only [go_sem, Tryz.ntmps12, Tryz.results12]
  have x1 : HT 8 (.fr [0, 1, 2, 3, 4, 5, 6, 7, 8] (.stop)) := ⟨⟩
  have x2 := l21Copy_ok m hm
  exact wk
theorem sWatched_yes (p : Prgm) (m : Machine) (picks : List Int) (b : Nat) (hsp : smProgram p) (hb : 8 ≤ b) (hb2 : b ≤ 17179869184) (hm : bdM b m) (h : sPicks m picks = true) (hc0 : 0 < (m.cores.length : Int)) (hs : picks.length ≤ 1048576) :
    CallOk Tryz.prog 12 [.agg (programR p), .agg (machineR m), .one (.ro 1 (intsD picks))] (.tup [.agg (machineT (runP (m.cores.length : Int) m picks)), .one (iV (wN p (m.cores.length : Int) m picks picks.length))]) [none, none, none] := by
  have hmm : mdMachine m := bdM_md (by omega) hm
  have hcs : m.cores.length ≤ 68719476736 := hmm.2.2.1.1
  have hr0 : runP (m.cores.length : Int) m [] = m := rfl
  have hw0 := wN_zero p (m.cores.length : Int) m picks
  have hp := sPicks_ok m picks hmm (by omega)
  rw [h] at hp
  refine callOk_of_hcall 40 (hcall_of_body Tryz.func12 rfl (by kernel_rfl) ?_)
  simp (disch := omega) only [go_sem, Tryz.ntmps12, Tryz.results12]
  have x1 : HT 8 (.fr [0, 1, 2, 3, 4, 5, 6, 7, 8] (.stop)) := ⟨⟩
  have x2 := l21Copy_ok m hmm
  refine wkc ?_
  refine i_loop (α := {k : Nat // k ≤ picks.length}) (fun k => ⟨mkEnv 44 [(2, .one (.ro 1 (intsD picks))), (3, .one (.ptr 0 0 0)), (4, .one (.ptr 1 0 0)), (6, .one (.ptr 2 0 0)), (8, .one (.ptr 3 0 0)), (9, .one (iV (wN p (m.cores.length : Int) m picks k.1))), (10, .one (iV k.1))], [.live 3 [programR p], .live 12 [machineR m], .live 12 [[.v (.slice none 0 0), .v (.slice none 0 0), .v (.int .i64 0), .v (.slice none 0 0), .v (.slice none 0 0), .v (.slice none 0 0), .v (.slice none 0 0), .v (.slice none 0 0), .v (.slice none 0 0), .v (.slice none 0 0), .v (.slice none 0 0), .v (.bool false)]], .live 12 [[.ref 4 0 (runP (m.cores.length : Int) m (picks.take k.1)).image.text.length, .ref 5 0 (runP (m.cores.length : Int) m (picks.take k.1)).image.starts.length, iV (runP (m.cores.length : Int) m (picks.take k.1)).image.size, .ref 6 0 (runP (m.cores.length : Int) m (picks.take k.1)).mem.length, .ref 7 0 (runP (m.cores.length : Int) m (picks.take k.1)).cores.length, .ref 8 0 (runP (m.cores.length : Int) m (picks.take k.1)).kernel.gates.length, .ref 9 0 (runP (m.cores.length : Int) m (picks.take k.1)).kernel.ready.length, .ref 10 0 (runP (m.cores.length : Int) m (picks.take k.1)).kernel.saved.length, .ref 11 0 (runP (m.cores.length : Int) m (picks.take k.1)).kernel.over.length, .ref 12 0 (runP (m.cores.length : Int) m (picks.take k.1)).input.length, .ref 13 0 (runP (m.cores.length : Int) m (picks.take k.1)).events.length, bV (runP (m.cores.length : Int) m (picks.take k.1)).stopped]], .live 1 (intsT (runP (m.cores.length : Int) m (picks.take k.1)).image.text), .live 1 (intsT (runP (m.cores.length : Int) m (picks.take k.1)).image.starts), .live 1 (intsT (runP (m.cores.length : Int) m (picks.take k.1)).mem), .live 3 (coresT (runP (m.cores.length : Int) m (picks.take k.1)).cores), .live 3 (gatesT (runP (m.cores.length : Int) m (picks.take k.1)).kernel.gates), .live 1 (intsT (runP (m.cores.length : Int) m (picks.take k.1)).kernel.ready), .live 3 (coresT (runP (m.cores.length : Int) m (picks.take k.1)).kernel.saved), .live 1 (boolsT (runP (m.cores.length : Int) m (picks.take k.1)).kernel.over), .live 1 (intsT (runP (m.cores.length : Int) m (picks.take k.1)).input), .live 3 (eventsT (runP (m.cores.length : Int) m (picks.take k.1)).events)]⟩) (fun k => picks.length - k.1) ⟨0, by omega⟩ ?_ ?_
  ·
    first | (refine weak_canon [2, 3, 4, 6, 8, 9, 10] [0, 1, 2, 13, 3, 4, 5, 6, 7, 8, 9, 10, 11, 12] ?_ ?_ ?_ <;> (simp (disch := omega) only [go_sem, hr0, hw0, Int.natCast_zero, Int.cast_ofNat_Int, List.take_zero, machineR, machineT, programR]; done)) | (refine weak_canon [2, 3, 4, 6, 8, 9, 10] [0, 1, 2, 13, 3, 4, 5, 6, 7, 8, 9, 10, 11, 12] ?_ ?_ ?_ <;> (try (simp (disch := omega) only [go_sem, hr0, hw0, Int.natCast_zero, Int.cast_ofNat_Int, List.take_zero, machineR, machineT, programR])) <;> trace_state)
  rintro ⟨k, hk⟩
  by_cases hkl : k < picks.length
  · have hbk := runP_bd (n := (m.cores.length : Int)) hb hm (picks.take k)
    have htk : (picks.take k).length ≤ 1048576 := by rw [List.length_take]; omega
    have hst := sStep_ok (runP (m.cores.length : Int) m (picks.take k)) ((picks.getD k 0).tmod (m.cores.length : Int)) _ (by omega) (by omega) hbk
    have htr := sTouchRight_ok p (runP (m.cores.length : Int) m (picks.take k)) ((picks.getD k 0).tmod (m.cores.length : Int)) hsp (bdM_md (by omega) hbk)
    have e := runP_one (n := (m.cores.length : Int)) (m := m) hkl
    have hcl := runP_cores (m.cores.length : Int) m (picks.take k)
    have hwl := wN_le p (m.cores.length : Int) m picks k
    have hwy := wN_yes (p := p) (n := (m.cores.length : Int)) (m := m) (picks := picks) (k := k)
    have hwn := wN_no (p := p) (n := (m.cores.length : Int)) (m := m) (picks := picks) (k := k)
    rw [e] at hst
    obtain ⟨M2, hM2⟩ : ∃ M2, runP (m.cores.length : Int) m (picks.take (k + 1)) = M2 := ⟨_, rfl⟩
    obtain ⟨B, hB⟩ : ∃ B, (stepM (runP (m.cores.length : Int) m (picks.take k)) ((picks.getD k 0).tmod (m.cores.length : Int))).2 = B := ⟨_, rfl⟩
    rw [hB, hM2] at hst
    clear e htk hbk hB
    obtain ⟨W1, hW1⟩ : ∃ W1, wN p (m.cores.length : Int) m picks k = W1 := ⟨_, rfl⟩
    obtain ⟨W2, hW2⟩ : ∃ W2, wN p (m.cores.length : Int) m picks (k + 1) = W2 := ⟨_, rfl⟩
    obtain ⟨Q, hQ⟩ : ∃ Q, touchRight p (runP (m.cores.length : Int) m (picks.take k)) ((picks.getD k 0).tmod (m.cores.length : Int)) = Q := ⟨_, rfl⟩
    obtain ⟨M, hM⟩ : ∃ M, runP (m.cores.length : Int) m (picks.take k) = M := ⟨_, rfl⟩
    rw [hQ] at htr
    rw [hQ, hW1, hW2] at hwy hwn
    rw [hW1] at hwl
    rw [hM] at hst hcl htr
    rw [← hcl] at hst htr
    have hl1 : 0 < (M.cores.length : Int) := by omega
    have hl2 : M.cores.length ≤ 68719476736 := by omega
    have hl3 : (M.cores.length : Int) ≠ 0 := by omega
    simp only [hM, hW1]
    clear hcl hQ
    cases Q
    · have hw' : ((W1 : Nat) : Int) + 1 = ((W2 : Nat) : Int) := by rw [hwn rfl]; omega
      clear hwn hwy
      simp (disch := omega) only [go_sem]
      clear hM hW1
      have x1 : HT 8 (.fr [0, 1, 2, 3, 4, 5, 6, 7, 8] (.stop)) := ⟨⟩
      refine wkc ?_
      all_goals refine ⟨⟨k + 1, by omega⟩, ?_, by simp only; omega⟩
      all_goals
        simp only [hM2, hW2]
        refine weak_names (names_at 3 0 (machineT M2) rfl (by with_reducible rfl) (by simp (disch := omega) only [go_sem])) ?_
        simp (disch := omega) only [go_sem]
        first | (refine weak_canon [2, 3, 4, 6, 8, 9, 10] [0, 1, 2, 3, 14, 15, 16, 17, 18, 19, 20, 21, 22, 23] ?_ ?_ ?_ <;> (simp (disch := omega) only [go_sem, hw', machineR, machineT, programR]; done)) | (refine weak_canon [2, 3, 4, 6, 8, 9, 10] [0, 1, 2, 3, 14, 15, 16, 17, 18, 19, 20, 21, 22, 23] ?_ ?_ ?_ <;> (try (simp (disch := omega) only [go_sem, hw', machineR, machineT, programR])) <;> trace_state)
    · have hw := hwy rfl
      subst hw
      clear hwn hwy
      simp (disch := omega) only [go_sem]
      clear hM hW1
      have x1 : HT 8 (.fr [0, 1, 2, 3, 4, 5, 6, 7, 8] (.stop)) := ⟨⟩
      refine wkc ?_
      all_goals refine ⟨⟨k + 1, by omega⟩, ?_, by simp only; omega⟩
      all_goals
        simp only [hM2, hW2]
        refine weak_names (names_at 3 0 (machineT M2) rfl (by with_reducible rfl) (by simp (disch := omega) only [go_sem])) ?_
        simp (disch := omega) only [go_sem]
        first | (refine weak_canon [2, 3, 4, 6, 8, 9, 10] [0, 1, 2, 3, 14, 15, 16, 17, 18, 19, 20, 21, 22, 23] ?_ ?_ ?_ <;> (simp (disch := omega) only [go_sem, machineR, machineT, programR]; done)) | (refine weak_canon [2, 3, 4, 6, 8, 9, 10] [0, 1, 2, 3, 14, 15, 16, 17, 18, 19, 20, 21, 22, 23] ?_ ?_ ?_ <;> (try (simp (disch := omega) only [go_sem, machineR, machineT, programR])) <;> trace_state)
  · have ek : picks.take k = picks := List.take_of_length_le (by omega)
    have ek2 : k = picks.length := by omega
    subst ek2
    simp (disch := omega) only [go_sem]
    have x1 : HT 8 (.fr [0, 1, 2, 3, 4, 5, 6, 7, 8] (.stop)) := ⟨⟩
    exact wk
end Go.Proofs.YtejnpiielcbkkaaGreat.E
end
section
set_option maxRecDepth 100000
set_option maxHeartbeats 4000000
namespace Go.Proofs.YtejnpiielcbkkaaGreat.E
theorem runP_bd600 {m : Machine} {n : Int} {picks : List Int} (h : bdM 1048576 m) (hp : picks.length ≤ 1048576) : bdM 17179869184 (runP n m picks) := by
  have h1 := runP_bd (n := n) (by omega) h picks
  exact bdM_le (by omega) h1
theorem watched_both (p : Prgm) (m : Machine) (picks : List Int) (hsp : smProgram p) (hbd : bdM 1048576 m) (hpl : picks.length ≤ 1048576) : ∃ (R : Machine) (n : Int), CallOk Tryz.prog 12 [.agg (programR p), .agg (machineR m), .one (.ro 1 (intsD picks))] (.tup [.agg (machineT R), .one (iV n)]) [none, none, none] ∧ CallOk Tryz.prog 16 [.agg (programR p), .agg (machineR m), .one (.ro 1 (intsD picks))] (.tup [.agg (machineT R), .one (iV n)]) [none, none, none] ∧ bdM 17179869184 R := by
  have hmm := bdM_md (by omega) hbd
  have hsp' := sPicks_is m picks
  cases hz : sPicks m picks
  · refine ⟨m, -1, sWatched_no p m picks hmm (by omega) hz, iWatched_no p m picks hmm (by omega) ?_, bdM_le (by omega) hbd⟩
    rw [hz] at hsp'
    unfold runMachine at hsp'
    cases h1 : picksOk picks 600
    · exact .inl rfl
    · rw [h1, if_neg (by simp)] at hsp'
      cases h2 : ((m.cores.length : Int) == 0)
      · rw [h2, if_neg (by simp)] at hsp'; cases hsp'
      · exact .inr rfl
  · rw [hz] at hsp'
    unfold runMachine at hsp'
    have h1 : picksOk picks 600 = true := by
      cases h1 : picksOk picks 600
      · rw [h1, if_pos rfl] at hsp'; cases hsp'
      · rfl
    have h2 : ((m.cores.length : Int) == 0) = false := by
      cases h2 : ((m.cores.length : Int) == 0)
      · rfl
      · rw [h1, if_neg (by simp), h2, if_pos rfl] at hsp'; cases hsp'
    have h3 : 0 < (m.cores.length : Int) := by
      have := beq_eq_false_iff_ne.1 h2
      omega
    exact ⟨runP (m.cores.length : Int) m picks, _, sWatched_yes p m picks 1048576 hsp (by omega) (by omega) hbd hz h3 hpl, iWatched_yes p m picks 1048576 hsp (by omega) (by omega) hbd h1 h2 hpl, runP_bd600 hbd hpl⟩
end Go.Proofs.YtejnpiielcbkkaaGreat.E
end
