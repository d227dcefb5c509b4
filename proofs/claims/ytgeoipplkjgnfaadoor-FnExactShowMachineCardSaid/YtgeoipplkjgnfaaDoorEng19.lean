/- The abstract memory: regions done in a row, and what is needed no more forgotten. No condition beside those that stand in each statement. -/
import Derived.Test.YtgeoipplkjgnfaaDoorEng18
import Derived.KernelRfl
set_option linter.unusedVariables false
set_option linter.unusedSimpArgs false
namespace Go.Proofs.YtgeoipplkjgnfaaDoor.E
variable {P : Program} {R R' : Nat → Prop} {w w' : World} {M M' : List Loc} {c : Array Value}

/-! ### Regions -/
inductive Res where
  | done (s : St)
  | call (f : FuncId) (avs : List A1) (dst : Option Tmp) (os : List Oper) (s : St)
  | stuck
def exec1 (P : Program) (o : Oper) (os : List Oper) (s : St) (k : St → Res) : Res := match callOf s o.op with
  | some (f, avs) => .call f avs o.dst os s
  | none => match astep P s o.op with
    | some (av, H') => k ⟨putE s.env o.dst av, H'⟩
    | none => .stuck
def runL (P : Program) (all : Array Oper) : List Oper → St → Res
  | [], s => .done s
  | o :: os, s => match o.guard with
    | none => exec1 P o os s (runL P all os)
    | some (j, want) => match guardOf all s j want with
      | some b => if b = want then exec1 P o os s (runL P all os) else runL P all os ⟨putE s.env o.dst (.tup []), s.H⟩
      | none => .stuck
def aL (P : Program) (all : Array Oper) (Q : St → Prop) : List Oper → St → Prop
  | [], s => Q s
  | o :: os, s => match o.guard with
    | none => aOp P o s (aL P all Q os)
    | some (j, want) => match guardOf all s j want with
      | some b => (b = want → aOp P o s (aL P all Q os)) ∧ (b ≠ want → aL P all Q os ⟨putE s.env o.dst (.tup []), s.H⟩)
      | none => False
def resOk (P : Program) (all : Array Oper) (Q : St → Prop) : Res → Prop
  | .done s => Q s
  | .call f avs dst os s => HCall P f avs s.H fun ret H' => aL P all Q os ⟨putE s.env dst ret, H'⟩
  | .stuck => False
theorem exec1_ok {all : Array Oper} {Q : St → Prop} {o : Oper} {os : List Oper} {s : St} (h : resOk P all Q (exec1 P o os s (runL P all os))) (ih : ∀ s, resOk P all Q (runL P all os s) → aL P all Q os s) : aOp P o s (aL P all Q os) := by
  unfold exec1 at h
  unfold aOp
  split at h
  · rename_i f avs hc
    rw [hc]
    exact h
  · rename_i hc
    rw [hc]
    split at h
    · rename_i av H' hs
      simp only [hs]
      exact ih _ h
    · exact h.elim
theorem aL_run {all : Array Oper} {Q : St → Prop} : ∀ {l : List Oper} {s : St}, resOk P all Q (runL P all l s) → aL P all Q l s
  | [], s, h => h
  | o :: os, s, h => by
    unfold runL at h
    unfold aL
    cases hg : o.guard with
    | none =>
      rw [hg] at h
      exact exec1_ok h fun s h => aL_run h
    | some q =>
      obtain ⟨j, want⟩ := q
      rw [hg] at h
      dsimp only at h ⊢
      split at h
      · rename_i b hb
        try simp only [hb]
        split at h
        · rename_i hbw
          exact ⟨fun _ => exec1_ok h fun s h => aL_run h, fun hn => absurd hbw hn⟩
        · rename_i hbw
          exact ⟨fun hn => absurd hn hbw, fun _ => aL_run h⟩
      · exact h.elim
theorem aOps_aL {all : Array Oper} {Q : St → Prop} : ∀ (n k : Nat) (s : St), k + n = all.size → aL P all Q (all.toList.drop k) s → aOps P all Q (List.range' k n) s
  | 0, k, s, hk, h => by
    rw [List.drop_of_length_le (by simp; omega)] at h
    exact h
  | n + 1, k, s, hk, h => by
    have hlt : k < all.toList.length := by simp; omega
    rw [List.drop_eq_getElem_cons hlt] at h
    simp only [List.range'_succ, aOps]
    have he : all[k]? = some all.toList[k] := by
      rw [← Array.getElem?_toList, List.getElem?_eq_getElem hlt]
    rw [he]
    simp only [aL] at h ⊢
    have key : ∀ s, aL P all Q (all.toList.drop (k + 1)) s → aOps P all Q (List.range' (k + 1) n) s := fun s h => aOps_aL n (k + 1) s (by omega) h
    have keyO : ∀ o s, aOp P o s (aL P all Q (all.toList.drop (k + 1))) → aOp P o s (aOps P all Q (List.range' (k + 1) n)) := by
      intro o s h
      unfold aOp at h ⊢
      split at h
      · exact h.mono fun r H hh => key _ hh
      · split at h
        · exact key _ h
        · exact h.elim
    cases hg : all.toList[k].guard with
    | none =>
      rw [hg] at h
      exact keyO _ _ h
    | some q =>
      obtain ⟨j, want⟩ := q
      rw [hg] at h
      simp only at h ⊢
      split at h
      · rename_i b hb
        try simp only [hb]
        exact ⟨fun hw => keyO _ _ (h.1 hw), fun hw => key _ (h.2 hw)⟩
      · exact h.elim
section rules
variable {k : Nat} {Q : Ex → St → Prop} {s : St}
theorem i_region {id : Nat} {ops : Array Oper} (h : aL P ops (Q .normal) ops.toList s) : aCode P k (.region id ops false) Q s := by
  have := aOps_aL (P := P) (all := ops) (Q := Q .normal) ops.size 0 s (by omega) (by simpa using h)
  simp only [aCode, Bool.false_eq_true, if_false]
  rwa [List.range_eq_range']
theorem i_seq {x y : Code} (h : aCode P k x (fun e s' => match e with | .normal => aCode P k y Q s' | .exit i => Q (.exit i) s' | .ret => Q .ret s') s) : aCode P k (.seq x y) Q s := h
theorem i_cond {cc : Operand} {x y : Code} {b : Bool} (hb : bool? (ev s cc) = some b) (h1 : b = true → aCode P k x Q s) (h2 : b = false → aCode P k y Q s) : aCode P k (.cond cc x y) Q s := by
  simp only [aCode, hb]
  exact ⟨h1, h2⟩
theorem i_block {id : Nat} {x : Code} (h : aCode P k x (fun e s' => match e with | .normal => Q .normal s' | .exit i => if i = id then Q .normal s' else Q (.exit i) s' | .ret => Q .ret s') s) : aCode P k (.block id x) Q s := h
theorem i_scope {x : Code} (h : aCode P k x Q s) : aCode P k (.scope x) Q s := h
theorem i_loop {x : Code} {α : Type} (S : α → St) (m : α → Nat) (x0 : α) (h0 : Weak k s (S x0)) (h : ∀ x', aCode P k x (fun e s' => match e with | .normal => ∃ x2, Weak k s' (S x2) ∧ m x2 < m x' | .exit i => Q (.exit i) s' | .ret => Q .ret s') (S x')) : aCode P k (.loop x) Q s := ⟨α, S, m, ⟨x0, h0⟩, h⟩
end rules
end Go.Proofs.YtgeoipplkjgnfaaDoor.E
