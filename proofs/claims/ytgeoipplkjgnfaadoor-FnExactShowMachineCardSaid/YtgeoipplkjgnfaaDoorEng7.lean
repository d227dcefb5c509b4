/- The abstract memory: lists made, cut and grown. No condition beside those that stand in each statement. -/
import Derived.Test.YtgeoipplkjgnfaaDoorEng6
import Derived.Laws.MakeOwn
import Derived.Laws.BytesString
set_option linter.unusedVariables false
set_option linter.unusedSimpArgs false
namespace Go.Proofs.YtgeoipplkjgnfaaDoor.E
variable {P : Program} {R R' : Nat → Prop} {w w' : World} {M M' : List Loc} {c : Array Value}

theorem idx_some {i : Int} {n k : Nat} (h : idx i n = some k) : i = (k : Int) ∧ k < n := by
  unfold idx at h
  split at h
  · simp only [Option.some.injEq] at h; omega
  · simp at h
theorem bnds_some {lo hi : Int} {n a b : Nat} (h : bnds lo hi n = some (a, b)) : lo = (a : Int) ∧ hi = (b : Int) ∧ a ≤ b ∧ b ≤ n := by
  unfold bnds at h
  split at h
  · simp only [Option.some.injEq, Prod.mk.injEq] at h; omega
  · simp at h
theorem heap_sz {H : List AObj} {F : FP} {l sz : Nat} {rows : List (List T)} {L : Loc} (hH : relHeap R w M H M F) (hl : H[l]? = some (.live sz rows)) (hL : M[l]? = some L) : L.sz = sz := by
  obtain ⟨L', F1, F2, hL', -, hobj, -⟩ := relHeap_get hH hl
  rw [hL] at hL'
  simp only [Option.some.injEq] at hL'
  subst hL'
  exact hobj.1
theorem indexAt_sound {H : List AObj} {F : FP} {i : Int} {k : IntKind} {t t' : T} {u : Value} {ty e : TypeId} {j : TypeInfo} (h : doIndexAddr H j.size i t = some t') (hd : P.underlying ty = some (.slice e)) (hj : P.info? e = some j) (hr : relT R w M t u fz) (hH : relHeap R w M H M F) :
    ∃ v, (Instr.indexAt ty u (.int k i)).run P w = .ok v w ∧ relT R w M t' v fz := by
  unfold doIndexAddr at h
  split at h
  · rename_i l off len
    split at h
    · rename_i sz rows kk hrows hidx
      split at h
      · rename_i hsz
        simp only [Option.some.injEq] at h
        subst h
        obtain ⟨rfl, hlt⟩ := idx_some hidx
        simp only [relT] at hr
        obtain ⟨-, L, a, cap, hL, rfl, hcap, hroom, ha⟩ := hr
        have hsz2 := heap_sz hH (rowsAt_some hrows) hL
        have ha2 := ha.resolve_left (by omega)
        subst ha2
        refine ⟨.pointer (some ⟨L.b, L.o + off * L.sz + kk * j.size, none⟩), ?_, ?_⟩
        · simp [Instr.indexAt, asIntOf, run_underlying hd, run_size hj, hlt, Addr.add_lit]
        · simp only [relT]
          exact ⟨trivial, L, hL, by rw [hsz2, hsz, Nat.add_mul, Nat.add_zero, Nat.add_assoc]⟩
      · simp at h
    · simp at h
  · rename_i sz rows
    split at h
    · rename_i kk hidx
      split at h
      · rename_i row hrow
        split at h
        · rename_i hsz
          simp only [Option.some.injEq] at h
          subst h hsz
          obtain ⟨rfl, hlt⟩ := idx_some hidx
          simp only [relT, relD] at hr
          obtain ⟨⟨a, cap, rfl, hcap, hx⟩, -⟩ := hr
          rcases hx with rfl | ⟨b, o, c, e', q, rfl, hR, hb, hrr⟩
          · simp at hlt
          obtain ⟨g1, g2⟩ := relDRows_get hrr hrow
          refine ⟨.pointer (some ⟨b, o + kk * j.size, none⟩), ?_, ?_⟩
          · simp [Instr.indexAt, asIntOf, run_underlying hd, run_size hj, hlt, Addr.add_lit]
          · simp only [relT]
            exact ⟨trivial, b, o + kk * j.size, c, e', q, rfl, hR, hb, g2⟩
        · simp at h
      · simp at h
    · simp at h
  · simp at h
/-- A bound that is told, or not. -/
def relB (d : Int) : Option Value → Int → Prop
  | none, i => i = d
  | some v, i => ∃ k, v = .int k i
theorem run_bounds {isS : Bool} {len cap : Nat} {lo hi : Option Value} {a b : Nat} (hlo : relB 0 lo (a : Int)) (hhi : relB len hi (b : Int)) (h1 : a ≤ b) (h2 : b ≤ cap) :
    (Instr.sliceBounds isS len cap lo hi none).run P w = .ok (a, b, cap) w := by
  have hb : ∀ (k : IntKind) (y : Nat) (n : Nat) (code : BoundsCode), n ≤ y → (Instr.sliceBound (.int k (n : Int)) y code).run P w = .ok n w := fun k y n code h => by
    rw [run_sliceBound w k n y code (by omega) (by omega)]
    simp
  cases lo with
  | none =>
    have : a = 0 := by simpa [relB] using hlo
    subst this
    cases hi with
    | none =>
      have : b = len := by
        simp only [relB] at hhi
        omega
      subst this
      simp [Instr.sliceBounds]
    | some v =>
      obtain ⟨k, rfl⟩ := hhi
      simp [Instr.sliceBounds, hb, h2]
  | some u =>
    obtain ⟨k, rfl⟩ := hlo
    cases hi with
    | none =>
      have : b = len := by
        simp only [relB] at hhi
        omega
      subst this
      simp [Instr.sliceBounds, hb, h1]
    | some v =>
      obtain ⟨k, rfl⟩ := hhi
      simp [Instr.sliceBounds, hb, h1, h2]
theorem sliceAt_sound {H : List AObj} {F : FP} {lo hi : Int} {vlo vhi : Option Value} {t t' : T} {u : Value} {ty e : TypeId} {j : TypeInfo} (h : doSlice H j.size lo hi t = some t') (hd : P.underlying ty = some (.slice e)) (hj : P.info? e = some j) (hr : relT R w M t u fz) (hH : relHeap R w M H M F)
    (hlo : relB 0 vlo lo) (hhi : ∀ n, lenT t = some n → relB n vhi hi) :
    ∃ v, (Instr.sliceAt ty u vlo vhi none).run P w = .ok v w ∧ relT R w M t' v fz := by
  unfold doSlice at h
  split at h
  · split at h
    · rename_i x hb
      obtain ⟨a, b⟩ := x
      simp only [Option.some.injEq] at h
      subst h
      obtain ⟨rfl, rfl, h1, h2⟩ := bnds_some hb
      simp only [relT] at hr
      obtain ⟨rfl, -, -⟩ := hr
      have hb := run_bounds (P := P) (w := w) (isS := true) hlo (hhi 0 rfl) h1 h2
      refine ⟨.slice none 0 0, ?_, by simp [relT, scal]⟩
      have h0 : a = 0 := by omega
      have h00 : b = 0 := by omega
      subst h0 h00
      simp only [Instr.sliceAt, Sem.run_bind, run_underlying hd, Result.andThen_ok, Instr.slice, hb, run_size hj]
      rfl
    · simp at h
  · rename_i sz rows
    split at h
    · rename_i a b hb
      split at h
      · rename_i hsz
        simp only [Option.some.injEq] at h
        subst h hsz
        obtain ⟨rfl, rfl, h1, h2⟩ := bnds_some hb
        simp only [relT, relD] at hr
        obtain ⟨⟨ad, cap, rfl, hcap, hx⟩, -⟩ := hr
        have hb := run_bounds (P := P) (w := w) (isS := true) hlo (hhi rows.length rfl) h1 (Nat.le_trans h2 hcap)
        refine ⟨.slice (if cap = a then ad else ad.map (·.add (a * j.size))) (b - a) (cap - a), ?_, ?_⟩
        · simp only [Instr.sliceAt, Sem.run_bind, run_underlying hd, Result.andThen_ok, Instr.slice, hb, run_size hj]
          rfl
        · simp only [relT, relD]
          refine ⟨⟨_, _, by congr 1; simp; omega, by simp; omega, ?_⟩, trivial⟩
          by_cases hz : (rows.take b).drop a = []
          · exact .inl hz
          · right
            have hlen : a < b := by
              by_cases hab : a < b
              · exact hab
              · exact absurd (by simp; omega) hz
            rcases hx with rfl | ⟨bb, o, c, e', q, rfl, hR, hbb, hrr⟩
            · simp at hz
            refine ⟨bb, o + a * j.size, c, e', q, ?_, hR, hbb, relDRows_drop a (relDRows_take b hrr)⟩
            rw [if_neg (by omega)]
            simp [Addr.add_lit]
      · simp at h
    · simp at h
  · rename_i l off len
    split at h
    · rename_i sz rows a b hrows hb
      split at h
      · rename_i hsz
        simp only [Option.some.injEq] at h
        subst h
        obtain ⟨rfl, rfl, h1, h2⟩ := bnds_some hb
        simp only [relT] at hr
        obtain ⟨-, L, ad, cap, hL, rfl, hcap, hroom, ha⟩ := hr
        have hsz2 := heap_sz hH (rowsAt_some hrows) hL
        have hb := run_bounds (P := P) (w := w) (isS := true) hlo (hhi len rfl) h1 (Nat.le_trans h2 hcap)
        refine ⟨.slice (if cap = a then ad else ad.map (·.add (a * j.size))) (b - a) (cap - a), ?_, ?_⟩
        · simp only [Instr.sliceAt, Sem.run_bind, run_underlying hd, Result.andThen_ok, Instr.slice, hb, run_size hj]
          rfl
        · simp only [relT]
          refine ⟨trivial, L, _, _, hL, rfl, by omega, by omega, ?_⟩
          by_cases hz : cap = a
          · exact .inl (by omega)
          · right
            rw [if_neg hz, ha.resolve_left (by omega)]
            simp only [Option.map_some, Addr.add_lit]
            rw [hsz2, hsz, Nat.add_mul, Nat.add_assoc]
      · simp at h
    · simp at h
  · simp at h
theorem sliceAtS_sound {lo hi : Int} {vlo vhi : Option Value} {t t' : T} {u : Value} {ty : TypeId} (h : doSliceS lo hi t = some t') (hd : P.underlying ty = some .string) (hr : relT R w M t u fz)
    (hlo : relB 0 vlo lo) (hhi : ∀ n, lenT t = some n → relB n vhi hi) :
    ∃ v, (Instr.sliceAt ty u vlo vhi none).run P w = .ok v w ∧ relT R w M t' v fz := by
  unfold doSliceS at h
  split at h
  · rename_i s
    split at h
    · rename_i a b hb
      simp only [Option.some.injEq] at h
      subst h
      obtain ⟨rfl, rfl, h1, h2⟩ := bnds_some hb
      simp only [relT] at hr
      obtain ⟨rfl, -, -⟩ := hr
      have hb := run_bounds (P := P) (w := w) (isS := false) hlo (hhi s.size rfl) h1 h2
      refine ⟨.string (s.extract a b), ?_, by simp [relT, scal]⟩
      simp [Instr.sliceAt, Sem.run_bind, run_underlying hd, Result.andThen_ok, Instr.slice, hb]
    · simp at h
  · simp at h
end Go.Proofs.YtgeoipplkjgnfaaDoor.E
