import Derived.Test.YtgeoipplkjgnfaaGt19
import Derived.Deep.Slices
import Derived.ChangeArms
import Derived.DataReads
import Derived.Below
set_option linter.unusedVariables false
set_option linter.unusedSimpArgs false
namespace Go.Proofs.Ytgeoipplkjgnfaa.E
/-! From what stands in memory to what the contracts speak of, for a law of one list of bytes. -/
theorem bytes_rows {R : Nat → Prop} {w : World} {c : Array Value} : ∀ (xs : List Int) (o : Nat), (∀ j, j < xs.length → c[o + j]? = some (.int .u8 (xs.getD j 0))) → relDRows R w c 1 (bytesD xs) o
  | [], o, h => by simp [bytesD, relDRows]
  | x :: xs, o, h => by
    simp only [bytesD, List.map_cons, relDRows, relDRow]
    refine ⟨rfl, ⟨⟨_, by simpa using h 0 (by simp), rfl, rfl⟩, trivial⟩, ?_⟩
    refine bytes_rows xs (o + 1) fun j hj => ?_
    have := h (j + 1) (by simp; omega)
    rw [show o + 1 + j = o + (j + 1) by omega, this]
    simp
theorem cell_raw {w : World} {a : Addr} {v : Value} (h : w.cell? a = some v) : a.spot = none ∧ ∃ c e q, w.heap[a.block]? = some (.cells c e q) ∧ c[a.off]? = some v := by
  unfold World.cell? at h
  split at h
  · rename_i c e q hb
    split at h
    · cases h
    · rename_i hs
      refine ⟨by cases hh : a.spot <;> simp_all, c, e, q, hb, h⟩
  · cases h
theorem bytes_open {H : Type} {enc : TypeId × Value → H} {P : Program} {w : World} {base : Nat} {spare : Nat → Bool} {held : Bool} {fuel : Nat} {t e : TypeId} {v : Value} {x : DataW H × List MemPlace}
    (ht : P.underlying t = some (.slice e)) (he : P.underlying e = some (.int .u8)) (hc : P.cellsOf e = 1) (h : DataW.trod enc P w base spare held fuel t [v] = some x) :
    ∃ xs : List Int, relA1 (fun b => b < w.heap.size) w [] (.one (.ro 1 (bytesD xs))) v fz := by
  rcases Go.Deep.open_slice1 ht hc h with ⟨hv, -⟩ | ⟨a, len, cap, m, n, V, D, Pl, hv, -, hl, -, hm, -, hx⟩
  · obtain rfl : v = .slice none 0 0 := by simpa using hv
    exact ⟨[], ⟨none, 0, rfl, by simp [bytesD], .inl rfl⟩, rfl⟩
  · obtain rfl : v = .slice (some a) len cap := by simpa using hv
    have hlm : len ≤ m := by rw [hm]; split <;> omega
    have hV : ∀ i, i < len → ∃ z, V i = .int .u8 z := fun i hi => by
      obtain ⟨z, hz, -⟩ := DataW.trod_int he (hx i (by omega)).2
      exact ⟨z, by simpa using hz⟩
    let z : Nat → Int := fun i => match V i with
      | .int _ y => y
      | _ => 0
    have hz : ∀ i, i < len → V i = .int .u8 (z i) := fun i hi => by
      obtain ⟨y, hy⟩ := hV i hi
      show V i = .int .u8 (match V i with | .int _ y => y | _ => 0)
      rw [hy]
    refine ⟨(List.range len).map z, ⟨some a, cap, by simp [bytesD], by simpa [bytesD] using hl, ?_⟩, rfl⟩
    by_cases h0 : len = 0
    · left; simp [bytesD, h0]
    · right
      have c0 := (hx 0 (by omega)).1
      rw [show a.add 0 = a from rfl] at c0
      obtain ⟨hs, c, e', q, hb, -⟩ := cell_raw c0
      refine ⟨a.block, a.off, c, e', q, by cases a; simp_all, ?_, hb, ?_⟩
      · have := Array.getElem?_eq_some_iff.1 hb
        exact this.1
      · refine bytes_rows _ _ fun j hj => ?_
        have hj' : j < len := by simpa using hj
        have cj := (hx j (by omega)).1
        have hadd : (a.add j).block = a.block ∧ (a.add j).off = a.off + j := by
          unfold Addr.add; split <;> simp_all
        obtain ⟨-, c', e2, q2, hb', hc'⟩ := cell_raw cj
        rw [hadd.1, hb] at hb'
        simp only [Option.some.injEq, Obj.cells.injEq] at hb'
        rw [← hb'.1, hadd.2] at hc'
        rw [hc', hz j hj']
        simp [hj']
/-- What a contract of a law promises, as the rows ask it. -/
theorem law_bytes {P : Program} {f : FuncId} {W : World} {v : Value} {xs : List Int} (hc : CallOk P f [.one (.ro 1 (bytesD xs))] (.s (.one (bV true))) [none]) (hv : relA1 (fun b => b < W.heap.size) W [] (.one (.ro 1 (bytesD xs))) v fz) :
    Calls P f #[v] W fun e W' => e = .returned (.bool true) ∧ RowKit.Below W.heap.size W W' := by
  refine (hc.2 (fun b => b < W.heap.size) W [v] fz ⟨fz, fz, hv, rfl, rfl⟩ ⟨fun b => by simp [fz], fun b hb => by simp [fz] at hb, fun b hb => hb⟩).mono ?_
  rintro e W' ⟨u, R', F1, F2, rfl, g1, -, -, g4⟩
  obtain ⟨rfl, -⟩ : u = .bool true ∧ _ := g1
  exact ⟨rfl, g4.os, g4.tape, g4.output, g4.size, fun k hk => g4.same k hk rfl⟩
end Go.Proofs.Ytgeoipplkjgnfaa.E
