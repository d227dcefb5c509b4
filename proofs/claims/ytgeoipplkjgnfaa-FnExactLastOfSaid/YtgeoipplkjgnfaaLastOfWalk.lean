/- The call of FnExactLastOf returns true: the walk with the plain law. Condition: the list is read from memory. -/
import Derived.Test.YtgeoipplkjgnfaaLastOfPure
import Derived.Test.YtgeoipplkjgnfaaOpens
namespace Go.Proofs.Ytgeoipplkjgnfaa
open Go.RowKit Go.Proofs.Ytgeoipplkjgnfaa.PFnExactLastOf Go.Proofs.YtgeoipplkjgnfaaW.PrintWords Go.Proofs.Ytgeoipplkjgnfaa.Lib

instance : Inhabited S111 := ⟨⟨0, 0, 0⟩⟩
theorem LastOfOpens.event : Opens Try.prog 111 k111 (fun x => (Lit.int .i64 x.f0).wf = true ∧ (Lit.int .i64 x.f1).wf = true ∧ (Lit.int .i64 x.f2).wf = true) :=
  Opens.struct Try.underlying111 (by kernel_rfl) (fun x : S111 => (x.f0, x.f1, x.f2)) (fun y => ⟨y.1, y.2.1, y.2.2⟩) (fun _ => rfl)
    (OpensFs.cons rfl (by kernel_rfl) (Opens.int Try.underlying3) (OpensFs.cons rfl (by kernel_rfl) (Opens.int Try.underlying3) (OpensFs.one rfl (by kernel_rfl) (Opens.int Try.underlying3))))
theorem LastOfOpens.events : Opens Try.prog 22 (Kd.slice 111 k111) (fun xs => ∀ x ∈ xs, (Lit.int .i64 x.f0).wf = true ∧ (Lit.int .i64 x.f1).wf = true ∧ (Lit.int .i64 x.f2).wf = true) :=
  Opens.slice 111 Try.underlying22 (by kernel_rfl) LastOfOpens.event

theorem FnExactLastOfW.walk (W : World) (A : Option Addr) (len cap : Nat) (y : List S111) (hK : (Kd.slice 111 k111).K W y [.slice A len cap]) {Q : Prop} (_ : Q) (a : Int) (_ : (Lit.int .i64 a).wf = true) :
    Calls Try.prog 3 #[.slice A len cap, .int .i64 a] W fun e w' => e = .returned (.bool true) ∧ Below W.heap.size W w' := by
  obtain ⟨A', c, e, hl, hC⟩ := hK
  simp only [List.cons.injEq, Value.slice.injEq, and_true] at e
  obtain ⟨rfl, rfl, rfl⟩ := e
  obtain ⟨k, hk⟩ := LastOfPure.pure y a hC.2.1
  exact laws_FnExactLastOf.calls k A cap y a true W hC hl hk
end Go.Proofs.Ytgeoipplkjgnfaa
