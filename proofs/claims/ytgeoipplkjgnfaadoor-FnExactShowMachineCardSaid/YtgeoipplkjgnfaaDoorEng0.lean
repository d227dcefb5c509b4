/- What holds in every world of a run: here, that a table of the library lies as its text lays it. -/
import Derived.Test.YtgeoipplkjgnfaaDoorProg
import Derived.Lib.LaidTab
import Derived.Lib.AppendIntMem
import Derived.Calls
import Derived.Below
namespace Go.Proofs.YtgeoipplkjgnfaaDoor.E
def Base (w : World) : Prop := Lib.TabIs Tryd.prog w "internal/strconv.uint64pow10" .u64 Lib.pow10Tab
def Inv (R : Nat → Prop) (w : World) : Prop := ∀ w' : World, w.heap.size ≤ w'.heap.size → (∀ b, R b → w'.heap[b]? = w.heap[b]?) → Base w'
theorem Inv.here {R : Nat → Prop} {w : World} (h : Inv R w) : Base w := h w (Nat.le_refl _) fun _ _ => rfl
theorem Inv.mono {R R' : Nat → Prop} {w w' : World} (h : Inv R w) (hR : ∀ b, R b → R' b) (hs : w.heap.size ≤ w'.heap.size) (hh : ∀ b, R b → w'.heap[b]? = w.heap[b]?) : Inv R' w' :=
  fun w2 h2 h3 => h w2 (Nat.le_trans hs h2) fun b hb => (h3 b (hR b hb)).trans (hh b hb)
end Go.Proofs.YtgeoipplkjgnfaaDoor.E
