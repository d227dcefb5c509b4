/- A part of what stands under the laws of this seat: an abstract evaluator that is proved sound, and contracts of functions by it. No condition beside those that stand in each statement. -/
import Derived.Test.YtejnpiielcbkkaaGreatZA1
import Derived.Test.YtejnpiielcbkkaaGreatZE2
import Derived.Test.YtejnpiielcbkkaaGreatZK5
set_option linter.unusedVariables false
set_option linter.unusedSimpArgs false
section
set_option maxRecDepth 100000
set_option maxHeartbeats 4000000
namespace Go.Proofs.YtejnpiielcbkkaaGreat.E
/-! ### What mark writes: in turn, from a number on -/
section
variable {α : Type} (f : Int → α → α) (w : α → Nat)
def adv (k : Int) (xs : List α) : Int := k + (((xs.map w).sum : Nat) : Int)
def mkL : Int → List α → List α
  | _, [] => []
  | k, x :: xs => f k x :: mkL (k + (w x : Int)) xs
theorem adv_nil (k : Int) : adv w k [] = k := by simp [adv]
theorem adv_cons (k : Int) (x : α) (xs : List α) : adv w k (x :: xs) = adv w (k + (w x : Int)) xs := by simp [adv]; omega
theorem adv_app (k : Int) (xs ys : List α) : adv w k (xs ++ ys) = adv w (adv w k xs) ys := by simp [adv]; omega
theorem adv_le (k : Int) (xs : List α) : k ≤ adv w k xs := by unfold adv; omega
theorem adv_take_le (k : Int) (xs : List α) (j : Nat) : adv w k (xs.take j) ≤ adv w k xs := by
  have := adv_le w (adv w k (xs.take j)) (xs.drop j)
  rwa [← adv_app, List.take_append_drop] at this
theorem mkL_len : ∀ (xs : List α) (k : Int), (mkL f w k xs).length = xs.length
  | [], _ => rfl
  | x :: xs, k => by simp [mkL, mkL_len xs]
theorem mkL_app : ∀ (xs ys : List α) (k : Int), mkL f w k (xs ++ ys) = mkL f w k xs ++ mkL f w (adv w k xs) ys
  | [], ys, k => by simp [mkL, adv_nil]
  | x :: xs, ys, k => by simp [mkL, mkL_app xs ys, adv_cons]
theorem take_one {xs : List α} {j : Nat} (z : α) (h : j < xs.length) : xs.take (j + 1) = xs.take j ++ [xs.getD j z] := by
  rw [List.take_succ_eq_append_getElem h]; simp [h]
theorem adv_one {xs : List α} {j : Nat} (z : α) (k : Int) (h : j < xs.length) : adv w k (xs.take (j + 1)) = adv w k (xs.take j) + (w (xs.getD j z) : Int) := by
  rw [take_one z h, adv_app, adv_cons, adv_nil]
def mixL (k : Int) (xs : List α) (j : Nat) : List α := mkL f w k (xs.take j) ++ xs.drop j
theorem mixL_len {k : Int} {xs : List α} {j : Nat} : (mixL f w k xs j).length = xs.length := by
  simp only [mixL, List.length_append, mkL_len, List.length_take, List.length_drop]; omega
theorem mixL_zero (k : Int) (xs : List α) : mixL f w k xs 0 = xs := by simp [mixL, mkL]
theorem mixL_end {k : Int} {xs : List α} {j : Nat} (h : xs.length ≤ j) : mixL f w k xs j = mkL f w k xs := by
  rw [mixL, List.take_of_length_le h, List.drop_of_length_le h, List.append_nil]
theorem adv_end {k : Int} {xs : List α} {j : Nat} (h : xs.length ≤ j) : adv w k (xs.take j) = adv w k xs := by rw [List.take_of_length_le h]
theorem mixL_get {k : Int} {xs : List α} {j : Nat} (z : α) (h : j < xs.length) : (mixL f w k xs j).getD j z = xs.getD j z := by
  have h1 : (mkL f w k (xs.take j)).length = j := by rw [mkL_len, List.length_take]; omega
  simp only [mixL, List.getD_eq_getElem?_getD]
  rw [List.getElem?_append_right (by omega), h1, Nat.sub_self, List.getElem?_drop]; rfl
theorem mixL_set {k : Int} {xs : List α} {j : Nat} (z : α) (h : j < xs.length) : (mixL f w k xs j).set j (f (adv w k (xs.take j)) (xs.getD j z)) = mixL f w k xs (j + 1) := by
  have h1 : (mkL f w k (xs.take j)).length = j := by rw [mkL_len, List.length_take]; omega
  have h2 : xs.drop j = xs.getD j z :: xs.drop (j + 1) := by rw [List.drop_eq_getElem_cons h]; simp [h]
  unfold mixL
  rw [List.set_append_right _ _ (by omega), h1, Nat.sub_self, h2, List.set_cons_zero, take_one z h, mkL_app]
  simp [mkL]
theorem mkL_get {k : Int} {xs : List α} {j : Nat} (z : α) (h : j < xs.length) : (mkL f w k xs).getD j z = f (adv w k (xs.take j)) (xs.getD j z) := by
  have h1 : (mkL f w k (xs.take j)).length = j := by rw [mkL_len, List.length_take]; omega
  have h2 : xs = xs.take j ++ (xs.getD j z :: xs.drop (j + 1)) := by
    conv => lhs; rw [← List.take_append_drop j xs, List.drop_eq_getElem_cons h]
    simp [h]
  have e : mkL f w k xs = mkL f w k (xs.take j) ++ (f (adv w k (xs.take j)) (xs.getD j z) :: mkL f w (adv w k (xs.take j) + (w (xs.getD j z) : Int)) (xs.drop (j + 1))) := by
    conv => lhs; rw [h2]
    rw [mkL_app]; rfl
  rw [e, List.getD_eq_getElem?_getD, List.getElem?_append_right (by omega), h1, Nat.sub_self]; rfl
end
/-! Whole numbers. -/
abbrev fI : Int → Int → Int := fun k _ => k
abbrev wI : Int → Nat := fun _ => 1
theorem adv_int (k : Int) (xs : List Int) : adv wI k xs = k + xs.length := by
  have : ∀ xs : List Int, (xs.map wI).sum = xs.length := by
    intro xs; induction xs with
    | nil => rfl
    | cons x xs ih => simp only [List.map_cons, List.sum_cons, ih, List.length_cons, wI]; omega
  simp only [adv, this]
theorem markIntS_ok (xs : List Int) (k : Int) (hk : 0 ≤ k) (ha : adv wI k xs ≤ 4611686018427387904) : CallOk Tryz.prog 20 [.one (.own 1 (intsT xs)), .one (iV k)] (.s (.one (iV (adv wI k xs)))) [some (.own 1 (intsT (mkL fI wI k xs))), none] := by
  have hz := mixL_zero fI wI k xs
  have hz1 : adv wI k (xs.take 0) = k := by simp [adv_nil]
  have hs : xs.length ≤ 4611686018427387904 := by rw [adv_int] at ha; omega
  refine callOk_of_hcall 40 (hcall_of_body Tryz.func20 rfl (by kernel_rfl) ?_)
  simp (disch := omega) only [go_sem, Tryz.ntmps20, Tryz.results20]
  refine wkc ?_
  refine i_loop (α := {j : Nat // j ≤ xs.length}) (fun j => ⟨mkEnv 19 [(0, .one (.ref 0 0 xs.length)), (1, .one (iV (adv wI k (xs.take j.1)))), (5, .one (iV j.1))], [.live 1 (intsT (mixL fI wI k xs j.1))]⟩) (fun j => xs.length - j.1) ⟨0, by omega⟩ ?_ ?_
  · first | (refine weak_canon [0, 1, 5] [] ?_ ?_ ?_ <;> (simp (disch := omega) only [go_sem, hz, hz1, adv_nil]; done)) | (refine weak_canon [0, 1, 5] [] ?_ ?_ ?_ <;> (try (simp (disch := omega) only [go_sem, hz, hz1, adv_nil])) <;> trace_state)
  rintro ⟨j, hj⟩
  have hml := mixL_len fI wI (k := k) (xs := xs) (j := j)
  have ha1 := adv_take_le wI k xs j
  have ha2 := adv_le wI k (xs.take j)
  simp (disch := omega) only [go_sem]
  repeat' (first | (with_reducible first | refine i_seq ?_) | ((first | (with_reducible first | refine i_block ?_ | refine i_regionQ (fun Q' hQ => ?_) | (refine Imp.go hQ ?_; clear hQ)) | ((with_reducible refine i_condT ?_ ?_); (focus (simp only [go_sem, *]; done))) | ((with_reducible refine i_condF ?_ ?_); (focus (simp only [go_sem, *]; done))) | ((with_reducible first | refine resOk_g (fun h => ?_) (fun h => ?_) | refine i_cond (by simp only [go_sem, *] <;> rfl) (fun h => ?_) (fun h => ?_)) <;> (try simp only [Bool.not_eq_eq_eq_not, Bool.not_true, Bool.not_false, reduceCtorEq] at h) <;> (try have h' := of_decide_eq_true h) <;> (try (have hz : (_ : Int) = (_ : Int) := h'; clear hz h')) <;> (try have h' := of_decide_eq_false h) <;> (try have h' := inB_t h) <;> (try (exfalso; omega)))) <;> (try simp (disch := omega) only [go_sem, *])))
  all_goals (try simp (disch := omega) only [EndK, go_sem, natLe_ok, *])
  all_goals by_cases hjl : j < xs.length
  all_goals (try (exfalso; omega))
  · have e : (mixL fI wI k xs j).set j (adv wI k (xs.take j)) = mixL fI wI k xs (j + 1) := mixL_set fI wI (k := k) (0 : Int) hjl
    have e2 := adv_one wI (0 : Int) k hjl
    have e3 : adv wI k (xs.take j) + 1 = adv wI k (xs.take (j + 1)) := e2.symm
    refine ⟨⟨j + 1, by omega⟩, ?_, by simp only; omega⟩
    first | (refine weak_canon [0, 1, 5] [] ?_ ?_ ?_ <;> (simp (disch := omega) only [go_sem, e, e3]; done)) | (refine weak_canon [0, 1, 5] [] ?_ ?_ ?_ <;> (try (simp (disch := omega) only [go_sem, e, e3])) <;> trace_state)
  all_goals simp only [mixL_end fI wI (k := k) (xs := xs) (j := j) (by omega), adv_end wI (k := k) (xs := xs) (j := j) (by omega), ← mkL_len fI wI xs k, List.take_length]
  all_goals (first | exact ⟨trivial, trivial⟩ | exact ⟨trivial, rfl⟩ | trace_state)
theorem heldIntS_ok (xs : List Int) (k : Int) (hk : 0 ≤ k) (ha : adv wI k xs ≤ 4611686018427387904) : CallOk Tryz.prog 76 [.one (.ro 1 (intsD (mkL fI wI k xs))), .one (iV k)] (.s (.one (iV (adv wI k xs)))) [none, none] := by
  have hz1 : adv wI k (xs.take 0) = k := by simp [adv_nil]
  have hs : xs.length ≤ 4611686018427387904 := by rw [adv_int] at ha; omega
  have hl := mkL_len fI wI xs k
  refine callOk_of_hcall 40 (hcall_of_body Tryz.func76 rfl (by kernel_rfl) ?_)
  simp (disch := omega) only [go_sem, Tryz.ntmps76, Tryz.results76]
  refine wkc ?_
  refine i_loop (α := {j : Nat // j ≤ xs.length}) (fun j => ⟨mkEnv 21 [(0, .one (.ro 1 (intsD (mkL fI wI k xs)))), (1, .one (iV (adv wI k (xs.take j.1)))), (5, .one (iV j.1))], []⟩) (fun j => xs.length - j.1) ⟨0, by omega⟩ ?_ ?_
  · first | (refine weak_canon [0, 1, 5] [] ?_ ?_ ?_ <;> (simp (disch := omega) only [go_sem, hz1, adv_nil]; done)) | trace_state
  rintro ⟨j, hj⟩
  have ha1 := adv_take_le wI k xs j
  have ha2 := adv_le wI k (xs.take j)
  by_cases hjl : j < xs.length
  · have e3 : adv wI k (xs.take j) + 1 = adv wI k (xs.take (j + 1)) := (adv_one wI (0 : Int) k hjl).symm
    have e4 : (mkL fI wI k xs).getD j 0 = adv wI k (xs.take j) := mkL_get fI wI (k := k) (0 : Int) hjl
    simp (disch := omega) only [go_sem]
    refine wkc ?_
    refine ⟨⟨j + 1, by omega⟩, ?_, by simp only; omega⟩
    first | (refine weak_canon [0, 1, 5] [] ?_ ?_ ?_ <;> (simp (disch := omega) only [go_sem, e3]; done)) | trace_state
  · have e5 := adv_end wI (k := k) (xs := xs) (j := j) (by omega)
    simp (disch := omega) only [go_sem]
    exact wk
theorem getD_set_self {α : Type} {xs : List α} {k : Nat} {x z : α} (h : k < xs.length) : (xs.set k x).getD k z = x := by simp [h]
theorem adv_len {α : Type} {w : α → Nat} {k : Int} {xs : List α} (hw : ∀ x, 1 ≤ w x) : k + xs.length ≤ adv w k xs := by
  have : ∀ xs : List α, xs.length ≤ (xs.map w).sum := by
    intro xs; induction xs with
    | nil => simp
    | cons x xs ih => simp only [List.map_cons, List.sum_cons, List.length_cons]; have := hw x; omega
  have := this xs
  unfold adv; omega
end Go.Proofs.YtejnpiielcbkkaaGreat.E
end
section
set_option maxRecDepth 100000
set_option maxHeartbeats 4000000
namespace Go.Proofs.YtejnpiielcbkkaaGreat.E
abbrev fB : Int → Bool → Bool := fun k _ => (k.tmod 3 == 0)
abbrev wB : Bool → Nat := fun _ => 1
abbrev fEv : Int → Event → Event := fun k _ => ⟨k, k + 1, k + 2⟩
abbrev wEv : Event → Nat := fun _ => 3
theorem eventsT_set' (xs : List Event) (k : Nat) (p q r : Int) : (eventsT xs).set k [.v (.int .i64 p), .v (.int .i64 q), .v (.int .i64 r)] = eventsT (xs.set k ⟨p, q, r⟩) := by simp [eventsT, List.map_set, eventT]
attribute [go_sem] eventsT_set'
theorem eventsT_getset {xs : List Event} {j : Nat} {x : Event} (h : j < xs.length) : (eventsT (xs.set j x))[j]? = some (eventT x) := by simp [eventsT, h]
theorem coresT_getset {xs : List Core} {j : Nat} {x : Core} (h : j < xs.length) : (coresT (xs.set j x))[j]? = some (coreT x) := by simp [coresT, h]
theorem gatesT_getset {xs : List Gate} {j : Nat} {x : Gate} (h : j < xs.length) : (gatesT (xs.set j x))[j]? = some (gateT x) := by simp [gatesT, h]
attribute [go_sem] eventsT_getset coresT_getset gatesT_getset
theorem markBoolS_ok (xs : List Bool) (k : Int) (hk : 0 ≤ k) (ha : adv wB k xs ≤ 4611686018427387904) : CallOk Tryz.prog 156 [.one (.own 1 (boolsT xs)), .one (iV k)] (.s (.one (iV (adv wB k xs)))) [some (.own 1 (boolsT (mkL fB wB k xs))), none] := by
  have hz := mixL_zero fB wB k xs
  have hs : xs.length ≤ 4611686018427387904 := by have := adv_len (w := wB) (k := k) (xs := xs) (fun x => by simp only [wB]; omega); omega
  refine callOk_of_hcall 40 (hcall_of_body Tryz.func156 rfl (by kernel_rfl) ?_)
  simp (disch := omega) only [go_sem, Tryz.ntmps156, Tryz.results156]
  refine wkc ?_
  refine i_loop (α := {j : Nat // j ≤ xs.length}) (fun j => ⟨mkEnv 21 [(0, .one (.ref 0 0 xs.length)), (1, .one (iV (adv wB k (xs.take j.1)))), (5, .one (iV j.1))], [.live 1 (boolsT (mixL fB wB k xs j.1))]⟩) (fun j => xs.length - j.1) ⟨0, by omega⟩ ?_ ?_
  · first | (refine weak_canon [0, 1, 5] [] ?_ ?_ ?_ <;> (simp (disch := omega) only [go_sem, hz, adv_nil]; done)) | (refine weak_canon [0, 1, 5] [] ?_ ?_ ?_ <;> (try (simp (disch := omega) only [go_sem, hz, adv_nil])) <;> trace_state)
  rintro ⟨j, hj⟩
  have hml := mixL_len fB wB (k := k) (xs := xs) (j := j)
  have ha1 := adv_take_le wB k xs j
  have ha2 := adv_le wB k (xs.take j)
  by_cases hjl : j < xs.length
  · have e := mixL_set fB wB (k := k) false hjl
    have e2 := adv_one wB false k hjl
    have e4 := mixL_get fB wB (k := k) false hjl
    have ha3 := adv_take_le wB k xs (j + 1)
    simp only [fB, wB] at e2 ha3
    simp only [fB] at e
    simp (disch := omega) only [go_sem]
    refine wkc ?_
    all_goals refine ⟨⟨j + 1, by omega⟩, ?_, by simp only; omega⟩
    all_goals first | (refine weak_canon [0, 1, 5] [] ?_ ?_ ?_ <;> (simp (disch := omega) only [go_sem, e, e2]; done)) | (refine weak_canon [0, 1, 5] [] ?_ ?_ ?_ <;> (try (simp (disch := omega) only [go_sem, e, e2])) <;> trace_state)
  · have e5 := adv_end wB (k := k) (xs := xs) (j := j) (by omega)
    have e6 := mixL_end fB wB (k := k) (xs := xs) (j := j) (by omega)
    have e7 : (mkL fB wB k xs).take xs.length = mkL fB wB k xs := by rw [← mkL_len fB wB xs k, List.take_length]
    have e8 : xs.length ≤ (mkL fB wB k xs).length := by rw [mkL_len]; exact Nat.le_refl _
    simp (disch := omega) only [go_sem]
    exact wk
theorem heldBoolS_ok (xs : List Bool) (k : Int) (hk : 0 ≤ k) (ha : adv wB k xs ≤ 4611686018427387904) : CallOk Tryz.prog 158 [.one (.ro 1 (boolsD (mkL fB wB k xs))), .one (iV k)] (.s (.one (iV (adv wB k xs)))) [none, none] := by
  have hs : xs.length ≤ 4611686018427387904 := by have := adv_len (w := wB) (k := k) (xs := xs) (fun x => by simp only [wB]; omega); omega
  have hl := mkL_len fB wB xs k
  refine callOk_of_hcall 40 (hcall_of_body Tryz.func158 rfl (by kernel_rfl) ?_)
  simp (disch := omega) only [go_sem, Tryz.ntmps158, Tryz.results158]
  refine wkc ?_
  refine i_loop (α := {j : Nat // j ≤ xs.length}) (fun j => ⟨mkEnv 23 [(0, .one (.ro 1 (boolsD (mkL fB wB k xs)))), (1, .one (iV (adv wB k (xs.take j.1)))), (5, .one (iV j.1))], []⟩) (fun j => xs.length - j.1) ⟨0, by omega⟩ ?_ ?_
  · first | (refine weak_canon [0, 1, 5] [] ?_ ?_ ?_ <;> (simp (disch := omega) only [go_sem, adv_nil]; done)) | trace_state
  rintro ⟨j, hj⟩
  have ha1 := adv_take_le wB k xs j
  have ha2 := adv_le wB k (xs.take j)
  by_cases hjl : j < xs.length
  · have e2 := adv_one wB false k hjl
    have e4 := mkL_get fB wB (k := k) false hjl
    have ha3 := adv_take_le wB k xs (j + 1)
    simp only [fB, wB] at e2 ha3 e4
    simp (disch := omega) only [go_sem]
    refine wkc ?_
    all_goals refine ⟨⟨j + 1, by omega⟩, ?_, by simp only; omega⟩
    all_goals first | (refine weak_canon [0, 1, 5] [] ?_ ?_ ?_ <;> (simp (disch := omega) only [go_sem, e2]; done)) | (refine weak_canon [0, 1, 5] [] ?_ ?_ ?_ <;> (try (simp (disch := omega) only [go_sem, e2])) <;> trace_state)
  · have e5 := adv_end wB (k := k) (xs := xs) (j := j) (by omega)
    simp (disch := omega) only [go_sem]
    exact wk
theorem markEventS_ok (xs : List Event) (k : Int) (hk : 0 ≤ k) (ha : adv wEv k xs ≤ 4611686018427387904) : CallOk Tryz.prog 74 [.one (.own 3 (eventsT xs)), .one (iV k)] (.s (.one (iV (adv wEv k xs)))) [some (.own 3 (eventsT (mkL fEv wEv k xs))), none] := by
  have hz := mixL_zero fEv wEv k xs
  have hs : xs.length ≤ 4611686018427387904 := by have := adv_len (w := wEv) (k := k) (xs := xs) (fun x => by simp only [wEv]; omega); omega
  refine callOk_of_hcall 40 (hcall_of_body Tryz.func74 rfl (by kernel_rfl) ?_)
  simp (disch := omega) only [go_sem, Tryz.ntmps74, Tryz.results74]
  refine wkc ?_
  refine i_loop (α := {j : Nat // j ≤ xs.length}) (fun j => ⟨mkEnv 34 [(0, .one (.ref 0 0 xs.length)), (1, .one (iV (adv wEv k (xs.take j.1)))), (5, .one (iV j.1))], [.live 3 (eventsT (mixL fEv wEv k xs j.1))]⟩) (fun j => xs.length - j.1) ⟨0, by omega⟩ ?_ ?_
  · first | (refine weak_canon [0, 1, 5] [] ?_ ?_ ?_ <;> (simp (disch := omega) only [go_sem, hz, adv_nil]; done)) | (refine weak_canon [0, 1, 5] [] ?_ ?_ ?_ <;> (try (simp (disch := omega) only [go_sem, hz, adv_nil])) <;> trace_state)
  rintro ⟨j, hj⟩
  have hml := mixL_len fEv wEv (k := k) (xs := xs) (j := j)
  have ha1 := adv_take_le wEv k xs j
  have ha2 := adv_le wEv k (xs.take j)
  by_cases hjl : j < xs.length
  · have e := mixL_set fEv wEv (k := k) eventZ hjl
    have e2 := adv_one wEv eventZ k hjl
    have e4 := mixL_get fEv wEv (k := k) eventZ hjl
    have ha3 := adv_take_le wEv k xs (j + 1)
    simp only [fEv, wEv] at e2 ha3
    simp only [fEv] at e
    simp (disch := omega) only [go_sem]
    repeat' (first | (with_reducible first | refine i_seq ?_) | ((first | (with_reducible first | refine i_block ?_ | refine i_regionQ (fun Q' hQ => ?_) | (refine Imp.go hQ ?_; clear hQ)) | ((with_reducible refine i_condT ?_ ?_); (focus (simp only [go_sem, *]; done))) | ((with_reducible refine i_condF ?_ ?_); (focus (simp only [go_sem, *]; done))) | ((with_reducible first | refine resOk_g (fun h => ?_) (fun h => ?_) | refine i_cond (by simp only [go_sem, *] <;> rfl) (fun h => ?_) (fun h => ?_)) <;> (try simp only [Bool.not_eq_eq_eq_not, Bool.not_true, Bool.not_false, reduceCtorEq] at h) <;> (try have h' := of_decide_eq_true h) <;> (try (have hz : (_ : Int) = (_ : Int) := h'; clear hz h')) <;> (try have h' := of_decide_eq_false h) <;> (try have h' := inB_t h) <;> (try (exfalso; omega)))) <;> (try simp (disch := omega) only [go_sem, List.set_set, getD_set_self, e4, Int.add_assoc, Int.reduceAdd, *])))
    all_goals (try simp (disch := omega) only [EndK, go_sem, List.set_set, getD_set_self, e4, Int.add_assoc, Int.reduceAdd, natLe_ok, *])
    all_goals refine ⟨⟨j + 1, by omega⟩, ?_, by simp only; omega⟩
    all_goals first | (refine weak_canon [0, 1, 5] [] ?_ ?_ ?_ <;> (simp (disch := omega) only [go_sem, e, e2, Int.add_assoc, Int.reduceAdd]; done)) | (refine weak_canon [0, 1, 5] [] ?_ ?_ ?_ <;> (try (simp (disch := omega) only [go_sem, e, e2, Int.add_assoc, Int.reduceAdd])) <;> trace_state)
  · have e5 := adv_end wEv (k := k) (xs := xs) (j := j) (by omega)
    have e6 := mixL_end fEv wEv (k := k) (xs := xs) (j := j) (by omega)
    have e7 : (mkL fEv wEv k xs).take xs.length = mkL fEv wEv k xs := by rw [← mkL_len fEv wEv xs k, List.take_length]
    have e8 : xs.length ≤ (mkL fEv wEv k xs).length := by rw [mkL_len]; exact Nat.le_refl _
    simp (disch := omega) only [go_sem]
    exact wk
theorem heldEventS_ok (xs : List Event) (k : Int) (hk : 0 ≤ k) (ha : adv wEv k xs ≤ 4611686018427387904) : CallOk Tryz.prog 79 [.one (.ro 3 (eventsD (mkL fEv wEv k xs))), .one (iV k)] (.s (.one (iV (adv wEv k xs)))) [none, none] := by
  have hs : xs.length ≤ 4611686018427387904 := by have := adv_len (w := wEv) (k := k) (xs := xs) (fun x => by simp only [wEv]; omega); omega
  have hl := mkL_len fEv wEv xs k
  refine callOk_of_hcall 40 (hcall_of_body Tryz.func79 rfl (by kernel_rfl) ?_)
  simp (disch := omega) only [go_sem, Tryz.ntmps79, Tryz.results79]
  refine wkc ?_
  refine i_loop (α := {j : Nat // j ≤ xs.length}) (fun j => ⟨mkEnv 40 [(0, .one (.ro 3 (eventsD (mkL fEv wEv k xs)))), (1, .one (iV (adv wEv k (xs.take j.1)))), (5, .one (iV j.1))], []⟩) (fun j => xs.length - j.1) ⟨0, by omega⟩ ?_ ?_
  · first | (refine weak_canon [0, 1, 5] [] ?_ ?_ ?_ <;> (simp (disch := omega) only [go_sem, adv_nil]; done)) | trace_state
  rintro ⟨j, hj⟩
  have ha1 := adv_take_le wEv k xs j
  have ha2 := adv_le wEv k (xs.take j)
  by_cases hjl : j < xs.length
  · have e2 := adv_one wEv eventZ k hjl
    have e4 := mkL_get fEv wEv (k := k) eventZ hjl
    have ha3 := adv_take_le wEv k xs (j + 1)
    simp only [fEv, wEv] at e2 ha3 e4
    simp (disch := omega) only [go_sem]
    repeat' (first | (with_reducible first | refine i_seq ?_) | ((first | (with_reducible first | refine i_block ?_ | refine i_regionQ (fun Q' hQ => ?_) | (refine Imp.go hQ ?_; clear hQ)) | ((with_reducible refine i_condT ?_ ?_); (focus (simp only [go_sem, *]; done))) | ((with_reducible refine i_condF ?_ ?_); (focus (simp only [go_sem, *]; done))) | ((with_reducible first | refine resOk_g (fun h => ?_) (fun h => ?_) | refine i_cond (by simp only [go_sem, *] <;> rfl) (fun h => ?_) (fun h => ?_)) <;> (try simp only [Bool.not_eq_eq_eq_not, Bool.not_true, Bool.not_false, reduceCtorEq] at h) <;> (try have h' := of_decide_eq_true h) <;> (try (have hz : (_ : Int) = (_ : Int) := h'; clear hz h')) <;> (try have h' := of_decide_eq_false h) <;> (try have h' := inB_t h) <;> (try (exfalso; omega)))) <;> (try simp (disch := omega) only [go_sem, bne_self_eq_false, e4, Int.add_assoc, Int.reduceAdd, *])))
    all_goals (try simp (disch := omega) only [EndK, go_sem, bne_self_eq_false, e4, Int.add_assoc, Int.reduceAdd, natLe_ok, *])
    all_goals refine ⟨⟨j + 1, by omega⟩, ?_, by simp only; omega⟩
    all_goals first | (refine weak_canon [0, 1, 5] [] ?_ ?_ ?_ <;> (simp (disch := omega) only [go_sem, e2, Int.add_assoc, Int.reduceAdd]; done)) | (refine weak_canon [0, 1, 5] [] ?_ ?_ ?_ <;> (try (simp (disch := omega) only [go_sem, e2, Int.add_assoc, Int.reduceAdd])) <;> trace_state)
  · have e5 := adv_end wEv (k := k) (xs := xs) (j := j) (by omega)
    simp (disch := omega) only [go_sem]
    exact wk
end Go.Proofs.YtejnpiielcbkkaaGreat.E
end
