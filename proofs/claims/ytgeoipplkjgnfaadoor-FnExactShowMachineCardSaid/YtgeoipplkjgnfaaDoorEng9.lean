/- The abstract memory: append, conversions, numbers. No condition beside those that stand in each statement. -/
import Derived.Test.YtgeoipplkjgnfaaDoorEng8
set_option linter.unusedVariables false
set_option linter.unusedSimpArgs false
namespace Go.Proofs.YtgeoipplkjgnfaaDoor.E
variable {P : Program} {R R' : Nat → Prop} {w w' : World} {M M' : List Loc} {c : Array Value}

def notInt (P : Program) (t : TypeId) : Bool := match P.underlying t with
  | some (.int _) => false
  | some _ => true
  | none => false
theorem notInt_run {t : TypeId} (h : notInt P t = true) (w : World) : ∃ d, P.underlying t = some d ∧ ∀ k, d ≠ .int k := by
  unfold notInt at h
  split at h
  · simp at h
  · rename_i d h1 h2
    exact ⟨d, h2, fun k hk => h1 k hk⟩
  · simp at h
theorem append_room {ty tx t3 e : TypeId} {j : TypeInfo} (hd : P.underlying ty = some (.slice e)) (hj : P.info? e = some j) (hx : notInt P tx = true) {base : Option Addr} {len cap m : Nat} {x : Value} {news : List Value} {w1 : World}
    (hlen : (Builtin.lenOf x).run P w = .ok m w) (hf : (Builtin.firstCells j.size m x).run P w = .ok news.toArray w) (hroom : len + m ≤ cap)
    (hst : ∀ a, base = some a → (storeCells (a.add (len * j.size)) news).run P w = .ok () w1) (hno : base = none → w1 = w) :
    (Builtin.append_ #[ty, tx] t3 #[.slice base len cap, x]).run P w = .ok (.slice base (len + m) cap) w1 := by
  obtain ⟨d, hd2, hk⟩ := notInt_run hx w
  have hm : (match d with | .int _ => true | _ => false) = false := by
    cases d <;> first | rfl | exact absurd rfl (hk _)
  cases base with
  | none =>
    have := hno rfl
    subst this
    simp [Builtin.append_, run_underlying hd, run_underlying hd2, run_size hj, hm, hlen, hroom, hf]
  | some a =>
    have hs := hst a rfl
    simp [Builtin.append_, run_underlying hd, run_underlying hd2, run_size hj, hm, hlen, hroom, hf, hs]
theorem append_grow {ty tx t3 e : TypeId} {j : TypeInfo} {z : Value} (hd : P.underlying ty = some (.slice e)) (hj : P.info? e = some j) (hz : j.zero = some z) (hx : notInt P tx = true) {base : Option Addr} {len cap m : Nat} {x : Value} {olds news : List Value}
    (hlen : (Builtin.lenOf x).run P w = .ok m w) (hf : (Builtin.firstCells j.size m x).run P w.drew = .ok news.toArray w.drew) (ho : (Builtin.firstCells j.size len (.slice base len cap)).run P w.drew = .ok olds.toArray w.drew)
    (hroom : ¬ len + m ≤ cap) (hby : 1 ≤ j.bytes) (hb : (len + m) * j.bytes ≤ 140737488355328) :
    ∃ cap' : Nat, len + m ≤ cap' ∧ (Builtin.append_ #[ty, tx] t3 #[.slice base len cap, x]).run P w = .ok (.slice (some ⟨w.heap.size, 0, none⟩) (len + m) cap') (w.drew.alloc (.cells (olds.toArray ++ news.toArray ++ Builtin.zeroCells z.cells (cap' - (len + m))) e)) := by
  obtain ⟨d, hd2, hk⟩ := notInt_run hx w
  have hm : (match d with | .int _ => true | _ => false) = false := by
    cases d <;> first | rfl | exact absurd rfl (hk _)
  have h48 : ¬ (281474976710656 < Builtin.nextslicecap (len + m) cap * j.bytes) := by
    have := growslice_fits (need := len + m) (old := cap) (bytes := j.bytes) (by omega) hb
    omega
  have h63 : len + m ≤ 140737488355328 := by
    have : (len + m) * 1 ≤ (len + m) * j.bytes := Nat.mul_le_mul_left _ hby
    omega
  have hbz : ¬ j.bytes = 0 := by omega
  refine ⟨grownCap w (len + m) cap e, grownCap_ge w (len + m) cap e, ?_⟩
  simp [Builtin.append_, run_underlying hd, run_underlying hd2, run_size hj, run_zero hj hz, typeInfo, hj, hm, hlen, hroom, Question.forced, hf, ho, h48, hbz, newRow, grownCap]
  congr 2
  apply Array.ext'
  simp
theorem drew_heap (w : World) : w.drew.heap = w.heap := rfl
theorem append_sound {H H' : List AObj} {F : FP} {s x : T} {us ux : Value} {av : AV} {ty tx t3 e : TypeId} {i : TI} (h : doAppend H i s x = some (av, H')) (he : ti P e = some i) (hd : P.underlying ty = some (.slice e)) (hx : notInt P tx = true) (hsz : 0 < i.size) (hby : 1 ≤ i.bytes) (hzl : i.zero.length = i.size)
    (hs : relT R w M s us fz) (hux : relT R w M x ux fz) (hH : relHeap R w M H M F) (hg : Good R w F) :
    ∃ v w' N F', (Builtin.append_ #[ty, tx] t3 #[us, ux]).run P w = .ok v w' ∧ relAV R w' (M ++ N) av v fz ∧ relHeap R w' (M ++ N) H' (M ++ N) F' ∧ Good R w' F' ∧ Fr R w F R w' F' := by
  obtain ⟨d, j, z, hd', hj, hz', hkk, hsj, hbj, ha, hzz⟩ := ti_some he
  unfold doAppend at h
  split at h
  · -- nothing yet
    rename_i a b hrb hra
    split at h
    · rename_i hc
      obtain ⟨hflat, hbytes⟩ := hc
      have hbytes := leB_le hbytes
      simp only [Option.some.injEq, Prod.mk.injEq] at h
      obtain ⟨rfl, rfl⟩ := h
      simp only [relT] at hs
      obtain ⟨rfl, -, -⟩ := hs
      obtain ⟨cs, Fb, c1, c2, -, c4, c5⟩ := rowsOf_sound (P := P) hsz hrb hux hH
      have hFb := flat_F hflat c2
      subst hFb
      rw [hsj] at c5
      by_cases h0 : b.length = 0
      · have hb0 : b = [] := List.eq_nil_of_length_eq_zero h0
        subst hb0
        have hr := append_room (P := P) (w := w) (w1 := w) (t3 := t3) (base := none) (len := 0) (cap := 0) hd hj hx (c4 w) (c5 w rfl) (by simp) (fun a ha => by simp at ha) (fun _ => rfl)
        refine ⟨_, w, [⟨0, 0, i.size, 0⟩], fa F fz, hr, ?_, relHeap_push (relHeap_mono (fun _ h => h) (prefix_self M _) (fun _ _ => rfl) hH) ⟨rfl, .inl ⟨rfl, rfl, rfl⟩⟩, by rw [fa_z]; exact hg, by rw [fa_z]; exact Fr.refl _ _ _⟩
        simp only [relAV, relA1, relT]
        exact ⟨trivial, ⟨0, 0, i.size, 0⟩, none, 0, by rw [relHeap_len hH]; simp, rfl, by simp, by simp, .inl rfl⟩
      · obtain ⟨cap', hcap, hr⟩ := append_grow (P := P) (w := w) (t3 := t3) (base := none) (len := 0) (cap := 0) (olds := []) hd hj hz' hx (c4 w) (c5 w.drew rfl) (by simp [Builtin.firstCells]) (by omega) (by omega) (by rw [← hbj, Nat.zero_add]; exact hbytes)
        have hzs : z.cells.size = i.size := by rw [← hzl, hzz]; simp
        have hcs : (#[] ++ cs.toArray ++ Builtin.zeroCells z.cells (cap' - (0 + b.length)) : Array Value).size = cap' * i.size := by
          simp only [Array.size_append, Array.size_empty, List.size_toArray, c1, size_zeroCells, hzs, List.length_nil, Nat.zero_add]
          rw [← Nat.add_mul]
          congr 1
          omega
        obtain ⟨q1, q2, q3, q4⟩ := newObj_sound (w := w) (R := R) (M := M) (H := H) (F := F) (Fn := fz) (cs := #[] ++ cs.toArray ++ Builtin.zeroCells z.cells (cap' - (0 + b.length))) (e := e) (lo := 0) (hi := 0) (sz := i.size) (room := cap') (rows := b) (w1 := w.drew.alloc (.cells (#[] ++ cs.toArray ++ Builtin.zeroCells z.cells (cap' - (0 + b.length))) e)) rfl hH (by rw [fa_z]; exact hg) (.inl (Nat.le_refl _)) (relTRows_shift (fun k hk => by
          simp only [Nat.zero_add]
          rw [Array.getElem?_append, if_pos (by simp [c1]; omega)]
          simp) c2) (by omega) (by rw [hcs]; exact Nat.le_refl _)
        rw [fa_z] at q3
        refine ⟨_, _, [⟨w.heap.size, 0, i.size, cap'⟩], _, hr, ?_, q1, q2, q3⟩
        simp only [relAV, relA1, relT]
        exact ⟨trivial, ⟨w.heap.size, 0, i.size, cap'⟩, some ⟨w.heap.size, 0, none⟩, cap', by rw [relHeap_len hH]; simp, by simp, by omega, by simp, .inr (by simp)⟩
    · simp at h
  · -- a list of one's own
    rename_i l off len a b hrb hra
    split at h
    · rename_i hc
      obtain ⟨hflat, hbytes, hap⟩ := hc
      have hbytes := leB_le hbytes
      simp only [Option.some.injEq, Prod.mk.injEq] at h
      obtain ⟨rfl, rfl⟩ := h
      obtain ⟨cs, Fb, c1, c2, -, c4, c5⟩ := rowsOf_sound (P := P) hsz hrb hux hH
      have hFb := flat_F hflat c2
      subst hFb
      obtain ⟨os, Fo, o1, o2, o3, o4, o5⟩ := rowsOf_sound (P := P) hsz hra hs hH
      rw [hsj] at c5 o5
      have hs0 := hs
      simp only [relT] at hs
      obtain ⟨-, L, ad, cap, hL, rfl, hcap, hroom, had⟩ := hs
      -- what a is
      simp only [rowsOf] at hra
      split at hra
      · rename_i sz rs hrows
        split at hra
        · rename_i hc2
          obtain ⟨hsz2, hle⟩ := hc2
          have hle := leB_le hle
          simp only [Option.some.injEq] at hra
          subst hra
          have hl := rowsAt_some hrows
          have halen : ((rs.drop off).take len).length = len := by simp; omega
          obtain ⟨L', F1, F2, hL', rfl, hobj, hput⟩ := relHeap_get hH hl
          rw [hL] at hL'
          simp only [Option.some.injEq] at hL'
          subst hL'
          obtain ⟨hLs, hobj⟩ := hobj
          by_cases hroom2 : len + b.length ≤ cap
          · by_cases hc0 : cap = 0
            · subst hc0
              have hb0 : b = [] := List.eq_nil_of_length_eq_zero (by omega)
              have ha0 : (rs.drop off).take len = [] := List.eq_nil_of_length_eq_zero (by omega)
              have hlen0 : len = 0 := by omega
              subst hb0 hlen0
              have hcs0 : cs = [] := List.eq_nil_of_length_eq_zero (by simpa using c1)
              subst hcs0
              have hr := append_room (P := P) (w := w) (w1 := w) (t3 := t3) (base := ad) (len := 0) (cap := 0) hd hj hx (c4 w) (c5 w rfl) (by simp) (fun a _ => rfl) (fun _ => rfl)
              have hH0 := hput R w M .dead fz (fun _ h => h) (List.prefix_refl M) (fun _ _ => rfl) rfl
              refine ⟨_, w, [⟨0, 0, i.size, 0⟩], fa (fa fz F2) fz, hr, ?_, relHeap_push (relHeap_mono (fun _ h => h) (prefix_self M _) (fun _ _ => rfl) hH0) ⟨rfl, .inl ⟨by simp, rfl, rfl⟩⟩, hg.le (fun b => by simp only [fa, fz]; omega), (Fr.refl _ _ _).le (fun b => by simp only [fa, fz]; omega)⟩
              simp only [relAV, relA1, relT]
              exact ⟨trivial, ⟨0, 0, i.size, 0⟩, ad, 0, by rw [relHeap_len hH]; simp, by simp, by simp, by simp, .inl rfl⟩
            · have had2 := had.resolve_left hc0
              subst had2
              rcases hobj with ⟨rfl, hr0, -⟩ | ⟨c, F', hB, hrm, hR, rfl⟩
              · omega
              obtain ⟨e', lo, hi, hblk, hfr, hext⟩ := hB
              rw [hLs, hsz2] at hext hR
              have hone := hg.one L.b
              simp only [fa, fd_self] at hone
              have hF'0 : F' L.b = 0 := by omega
              have hF20 : F2 L.b = 0 := by omega
              have hRb : ¬ R L.b := (hg.own L.b (by simp [fa, fd_self]; omega)).1
              have hmul : (off + cap) * i.size ≤ L.room * i.size := Nat.mul_le_mul_right _ (by omega)
              have hmul2 : (len + b.length) * i.size ≤ cap * i.size := Nat.mul_le_mul_right _ hroom2
              rw [Nat.add_mul] at hmul hmul2
              obtain ⟨w', c', r1, r2, r3, r4, r5, r6⟩ := run_put (P := P) (b := L.b) (o := L.o + off * i.size + len * i.size) (e := e') (lo := lo) (hi := hi) cs 0 w c hblk hfr (by rw [c1]; omega) (by
                intro v hv
                obtain ⟨k, hk, rfl⟩ := List.getElem_of_mem hv
                have hk2 : k < b.length * i.size := by omega
                have hrow : k / i.size < b.length := Nat.div_lt_of_lt_mul (by rw [Nat.mul_comm]; exact hk2)
                obtain ⟨G1, G2, -, g1, g2, -⟩ := relTRows_get c2 (List.getElem?_eq_getElem hrow)
                obtain ⟨u, g3, g4⟩ := relTRow_one g2 (k % i.size) (by rw [g1]; exact Nat.mod_lt _ hsz)
                rw [Nat.zero_add, Nat.mul_comm, Nat.div_add_mod] at g3
                simp only [List.getElem?_toArray, List.getElem?_eq_getElem hk, Option.some.injEq] at g3
                rw [g3]
                exact g4)
              simp only [Nat.add_zero] at r4 r5
              rw [c1] at r5
              have hsame : ∀ (G : FP), G L.b = 0 → ∀ b, R b ∨ 1 ≤ G b → w'.heap[b]? = w.heap[b]? := fun G hG b hb => r6.other b (by rintro rfl; rcases hb with hb | hb; exact hRb hb; omega)
              have hsplit : rs = rs.take off ++ (((rs.drop off).take len) ++ rs.drop (off + len)) := by
                rw [← List.drop_drop, List.take_append_drop, List.take_append_drop]
              rw [hsplit, relTRows_append] at hR
              obtain ⟨Fa, Fb', g1, g2, rfl⟩ := hR
              rw [relTRows_append] at g2
              obtain ⟨Fs, Fc, g3, g4, rfl⟩ := g2
              have htk : (rs.take off).length = off := by simp; omega
              rw [htk] at g3
              have hr := append_room (P := P) (w := w) (w1 := w') (t3 := t3) (base := some ⟨L.b, L.o + off * L.sz, none⟩) (len := len) (cap := cap) hd hj hx (c4 w) (c5 w rfl) hroom2 (fun a ha => by
                simp only [Option.some.injEq] at ha
                subst ha
                rw [Addr.add_lit, hLs, hsz2, ← hsj]
                exact r1) (fun h => by simp at h)
              have hH0 := hput R w' M .dead fz (fun _ h => h) (List.prefix_refl M) (hsame F2 hF20) rfl
              have hFs0 : Fs L.b = 0 := by simp only [fa] at hF'0; omega
              have hnew : relTRows R w' M c' i.size ((rs.drop off).take len ++ b) (L.o + off * i.size) (fa Fs fz) := by
                rw [relTRows_append, halen]
                refine ⟨Fs, fz, relTRows_same (fun k _ hk => r5 k (.inl (by rw [halen] at hk; omega))) (relTRows_mono (fun _ h => h) (List.prefix_refl M) c i.size _ _ Fs (hsame Fs hFs0) g3), ?_, rfl⟩
                refine relTRows_mono (fun _ h => h) (List.prefix_refl M) c' i.size _ _ fz (hsame fz rfl) (relTRows_shift (fun k hk => ?_) c2)
                rw [r4 k (by omega), Nat.zero_add]
                simp
              refine ⟨_, w', [⟨L.b, L.o + off * i.size, i.size, cap⟩], fa (fa fz F2) (fa (fd L.b) (fa Fs fz)), hr, ?_, relHeap_push (relHeap_mono (fun _ h => h) (prefix_self M _) (fun _ _ => rfl) hH0) ⟨rfl, .inr ⟨c', _, ⟨e', lo, hi, r2, by rw [r3]; exact hfr, by rw [r3]; simp only; omega⟩, by simp only [List.length_append, halen]; exact hroom2, relTRows_mono (fun _ h => h) (prefix_self M _) c' i.size _ _ _ (fun _ _ => rfl) hnew, rfl⟩⟩, ?_, ?_⟩
              · simp only [relAV, relA1, relT]
                exact ⟨trivial, ⟨L.b, L.o + off * i.size, i.size, cap⟩, some ⟨L.b, L.o + off * L.sz, none⟩, cap, by rw [relHeap_len hH]; simp, by rw [halen], by rw [halen]; exact hroom2, by simp, .inr (by simp [hLs, hsz2])⟩
              · refine (r6.good (by simp only [fa, fd_self]; omega) hg).le (fun x => ?_)
                simp only [fa, fz]
                omega
              · refine (r6.fr (F := fa (fa (fd L.b) (fa Fa (fa Fs Fc))) F2) (by simp [fa, fd_self]; omega)).le (fun x => ?_)
                simp only [fa, fz]
                omega
          · obtain ⟨cap', hcap2, hr⟩ := append_grow (P := P) (w := w) (t3 := t3) (base := ad) (len := len) (cap := cap) (olds := os) hd hj hz' hx (c4 w) (c5 w.drew rfl) (by
              have := o5 w.drew rfl
              rw [halen] at this
              exact this) hroom2 (by omega) (by rw [← hbj, ← halen]; exact hbytes)
            have hzs : z.cells.size = i.size := by rw [← hzl, hzz]; simp
            rw [halen] at o1
            have hcs : (os.toArray ++ cs.toArray ++ Builtin.zeroCells z.cells (cap' - (len + b.length)) : Array Value).size = cap' * i.size := by
              simp only [Array.size_append, List.size_toArray, c1, o1, size_zeroCells, hzs]
              rw [← Nat.add_mul, ← Nat.add_mul]
              congr 1
              omega
            have hH0 := hput R w M .dead fz (fun _ h => h) (List.prefix_refl M) (fun _ _ => rfl) rfl
            rw [z_fa] at hH0
            -- what of the old object moves
            have hmove : ∃ Fs : FP, relTRows R w M os.toArray i.size ((rs.drop off).take len) 0 Fs ∧ ∀ b, Fs b ≤ F1 b := by
              by_cases hlen0 : len = 0
              · subst hlen0
                exact ⟨fz, by simp [relTRows], fun b => Nat.zero_le _⟩
              · rcases hobj with ⟨rfl, hr0, -⟩ | ⟨c, F', hB, hrm, hR, rfl⟩
                · simp at hle; omega
                have had2 := had.resolve_left (by omega)
                subst had2
                obtain ⟨e', lo, hi, hblk, hfr, hext⟩ := hB
                rw [hLs, hsz2] at hR
                have hsplit : rs = rs.take off ++ (((rs.drop off).take len) ++ rs.drop (off + len)) := by
                  rw [← List.drop_drop, List.take_append_drop, List.take_append_drop]
                rw [hsplit, relTRows_append] at hR
                obtain ⟨Fa, Fb', g1, g2, rfl⟩ := hR
                rw [relTRows_append] at g2
                obtain ⟨Fs, Fc, g3, g4, rfl⟩ := g2
                have htk : (rs.take off).length = off := by simp; omega
                rw [htk] at g3
                have hne : (rs.drop off).take len ≠ [] := by
                  intro h
                  rw [h] at halen
                  simp at halen
                  omega
                have hsz3 := relTRows_size hsz hne g3
                rw [halen] at hsz3
                have hf2 := run_firstCells_some (P := P) w i.size len ⟨L.b, L.o + off * L.sz, none⟩ len cap ((c.toList.drop (L.o + off * L.sz)).take (len * i.size)) (by rw [hLs, hsz2]; simp; omega) (cells_at hblk)
                have ho5 := o5 w rfl
                rw [halen, ← hsj, hf2] at ho5
                simp only [Result.ok.injEq, and_true] at ho5
                refine ⟨Fs, ?_, fun b => by simp only [fa]; omega⟩
                rw [← ho5]
                refine relTRows_shift (fun k hk => ?_) g3
                rw [halen] at hk
                rw [Nat.zero_add, hLs, hsz2]
                simp [hk]
            obtain ⟨Fs, m1, m2⟩ := hmove
            obtain ⟨q1, q2, q3, q4⟩ := newObj_sound (w := w) (R := R) (M := M) (H := H.set l .dead) (F := F2) (Fn := fa Fs fz) (cs := os.toArray ++ cs.toArray ++ Builtin.zeroCells z.cells (cap' - (len + b.length))) (e := e) (lo := 0) (hi := 0) (sz := i.size) (room := cap') (rows := (rs.drop off).take len ++ b) (w1 := w.drew.alloc (.cells (os.toArray ++ cs.toArray ++ Builtin.zeroCells z.cells (cap' - (len + b.length))) e)) rfl hH0 (hg.le (fun x => by have := m2 x; simp only [fa, fz]; omega)) (.inl (Nat.le_refl _)) (by
              rw [relTRows_append, halen]
              refine ⟨Fs, fz, relTRows_shift (fun k hk => ?_) m1, relTRows_shift (fun k hk => ?_) c2, rfl⟩
              · rw [halen] at hk
                simp only [Nat.zero_add]
                rw [Array.getElem?_append, if_pos (by simp [o1, c1]; omega), Array.getElem?_append, if_pos (by simp [o1]; omega)]
              · simp only [Nat.zero_add]
                rw [Array.getElem?_append, if_pos (by simp [o1, c1]; omega), Array.getElem?_append, if_neg (by simp [o1])]
                simp [o1]) (by rw [List.length_append, halen]; exact hcap2) (by rw [hcs]; exact Nat.le_refl _)
            refine ⟨_, _, [⟨w.heap.size, 0, i.size, cap'⟩], _, hr, ?_, q1, q2, ?_⟩
            · simp only [relAV, relA1, relT]
              exact ⟨trivial, ⟨w.heap.size, 0, i.size, cap'⟩, some ⟨w.heap.size, 0, none⟩, cap', by rw [relHeap_len hH]; simp, by rw [halen], by rw [halen]; exact hcap2, by simp, .inr (by simp)⟩
            · refine Fr.trans ((Fr.refl R w (fa F1 F2)).le (F' := fa F2 (fa Fs fz)) (fun x => by have := m2 x; simp only [fa, fz]; omega)) q3
        · simp at hra
      · simp at hra
    · simp at h
  · simp at h
end Go.Proofs.YtgeoipplkjgnfaaDoor.E
