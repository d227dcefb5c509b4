import Derived.Test.YtgeoipplkjgnfaaDoorEng21
import Derived.Orders
set_option linter.unusedVariables false
set_option linter.unusedSimpArgs false
namespace Go.Proofs.YtgeoipplkjgnfaaDoor.E
/-- Every order a drawn region may take. -/
def ords (md : Region.Mode) (ops : Array Oper) : Nat → Array Bool → List (List Nat)
  | 0, _ => [[]]
  | n + 1, listed => match Region.ready md ops listed with
    | [] => [[]]
    | r :: rs => (r :: rs).flatMap fun i => (ords md ops n (listed.setIfInBounds i true)).map (i :: ·)
theorem ords_mem (md : Region.Mode) (ops : Array Oper) : ∀ (fuel t : Nat) (listed : Array Bool), Region.linearise.go md ops fuel t listed [] ∈ ords md ops fuel listed := by
  intro fuel
  induction fuel with
  | zero => intro t listed; simp [Region.linearise.go, ords]
  | succ fuel ih =>
    intro t listed
    simp only [Region.linearise.go, ords]
    change (match (Region.ready md ops listed)[t % (Region.ready md ops listed).length]? with
      | some i => Region.linearise.go md ops fuel (t / (Region.ready md ops listed).length) (listed.setIfInBounds i true) [i]
      | none => [].reverse) ∈ _
    cases hr : Region.ready md ops listed with
    | nil => simp
    | cons x xs =>
      have hlt : t % (x :: xs).length < (x :: xs).length := Nat.mod_lt _ (by simp)
      rw [List.getElem?_eq_getElem hlt]
      simp only
      rw [linearise_go_acc, List.reverse_singleton, List.singleton_append]
      exact List.mem_flatMap.2 ⟨_, List.getElem_mem hlt, List.mem_map.2 ⟨_, ih _ _, rfl⟩⟩
def allO (f : List Nat → Prop) : List (List Nat) → Prop
  | [] => True
  | o :: os => f o ∧ allO f os
theorem allO_mem {f : List Nat → Prop} : ∀ {L : List (List Nat)}, allO f L → ∀ o ∈ L, f o
  | [], _, o, h => by cases h
  | x :: xs, h, o, ho => by
    rcases List.mem_cons.1 ho with e | ho
    · rw [e]; exact h.1
    · exact allO_mem h.2 o ho
def pickOps (ops : Array Oper) : List Nat → List Oper
  | [] => []
  | i :: r => match ops[i]? with
    | some o => o :: pickOps ops r
    | none => pickOps ops r
theorem pickOps_nil (ops : Array Oper) : pickOps ops [] = [] := by rw [pickOps]
theorem pickOps_hit {ops : Array Oper} {i : Nat} {o : Oper} {r : List Nat} (h : ops[i]? = some o) : pickOps ops (i :: r) = o :: pickOps ops r := by rw [pickOps, h]
theorem pickOps_cons (ops : List Oper) (i : Nat) (r : List Nat) : pickOps ops.toArray (i :: r) = (ops[i]?).toList ++ pickOps ops.toArray r := by
  rw [pickOps, List.getElem?_toArray]; cases ops[i]? <;> rfl
variable {P : Program}
theorem aOps_pick {ops : Array Oper} {Q : St → Prop} : ∀ (is : List Nat) (s : St), aL P ops Q (pickOps ops is) s → aOps P ops Q is s
  | [], s, h => by rw [pickOps_nil] at h; exact h
  | i :: r, s, h => by
    simp only [aOps]
    cases ho : ops[i]? with
    | none =>
      simp only [pickOps, ho] at h
      exact aOps_pick r s h
    | some o =>
      rw [pickOps_hit ho] at h
      simp only [aL] at h ⊢
      have key : ∀ s, aL P ops Q (pickOps ops r) s → aOps P ops Q r s := fun s h => aOps_pick r s h
      have keyO : ∀ s, aOp P o s (aL P ops Q (pickOps ops r)) → aOp P o s (aOps P ops Q r) := by
        intro s h
        unfold aOp at h ⊢
        split at h
        · exact h.mono fun r H hh => key _ hh
        · split at h
          · exact key _ h
          · exact h.elim
      cases hg : o.guard with
      | none =>
        rw [hg] at h
        exact keyO _ h
      | some q =>
        obtain ⟨j, want⟩ := q
        rw [hg] at h
        simp only at h ⊢
        split at h
        · rename_i b hb
          try simp only [hb]
          exact ⟨fun hw => keyO _ (h.1 hw), fun hw => key _ (h.2 hw)⟩
        · exact h.elim
theorem i_regionD {k id : Nat} {Q : Ex → St → Prop} {s : St} {ops : Array Oper} (L : List (List Nat)) (hm : P.follows .mixedOrders = true) (hL : ords .any ops ops.size (Array.replicate ops.size false) = L)
    (h : allO (fun o => aL P ops (Q .normal) (pickOps ops o) s) L) : aCode P k (.region id ops true) Q s := by
  simp only [aCode, if_true]
  intro t
  refine aOps_pick _ _ (allO_mem h _ ?_)
  rw [← hL]
  simp only [Region.schedule, hm, Bool.true_or, if_true]
  exact ords_mem .any ops ops.size t _
/-- The rest of a walk, hidden while a region is evaluated. -/
def Imp (K Q : St → Prop) : Prop := ∀ s, K s → Q s
theorem Imp.go {K Q : St → Prop} {s : St} (h : Imp K Q) (hk : K s) : Q s := h s hk
theorem i_regionQ {k id : Nat} {Q : Ex → St → Prop} {s : St} {ops : Array Oper} (h : ∀ Q' : St → Prop, Imp (Q .normal) Q' → resOk P ops Q' (runL P ops ops.toList s)) : aCode P k (.region id ops false) Q s := i_region (aL_run (h _ fun _ h => h))
theorem i_condT {k : Nat} {Q : Ex → St → Prop} {s : St} {cc : Operand} {x y : Code} (hb : bool? (ev s cc) = some true) (h : aCode P k x Q s) : aCode P k (.cond cc x y) Q s := i_cond hb (fun _ => h) (fun h => by cases h)
theorem i_condF {k : Nat} {Q : Ex → St → Prop} {s : St} {cc : Operand} {x y : Code} (hb : bool? (ev s cc) = some false) (h : aCode P k y Q s) : aCode P k (.cond cc x y) Q s := i_cond hb (fun h => by cases h) (fun _ => h)
theorem take_app1 {α : Type} (xs : List α) (x : α) : (xs ++ [x]).take (xs.length + 1) = xs ++ [x] := List.take_of_length_le (by simp)
theorem take_app {α : Type} (xs ys : List α) : (xs ++ ys).take (xs.length + ys.length) = xs ++ ys := List.take_of_length_le (by simp)
theorem take_drop_all {α : Type} (xs : List α) (n : Nat) : (xs.drop n).take (xs.length - n) = xs.drop n := List.take_of_length_le (by simp)
theorem natLe_ok {a b : Nat} (h : a ≤ b) : (a ≤ b) = True := eq_true h
attribute [go_sem] take_drop_all Int.toNat_one Int.toNat_zero List.drop_drop
attribute [go_sem] Nat.sub_zero beq_self_eq_true bne_self_eq_false take_app1 take_app
attribute [go_sem] pickOps_nil pickOps_cons Option.toList_some Option.toList_none
end Go.Proofs.YtgeoipplkjgnfaaDoor.E
