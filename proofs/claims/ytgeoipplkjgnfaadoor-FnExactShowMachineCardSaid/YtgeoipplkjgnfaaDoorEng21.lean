/- The abstract memory: the words by which a region is reckoned. No condition beside those that stand in each statement. -/
import Derived.Test.YtgeoipplkjgnfaaDoorEng20
set_option linter.unusedVariables false
set_option linter.unusedSimpArgs false
namespace Go.Proofs.YtgeoipplkjgnfaaDoor.E
abbrev bV (b : Bool) : T := .v (.bool b)
abbrev iV (n : Int) : T := .v (.int .i64 n)
abbrev sV (s : ByteArray) : T := .v (.string s)
abbrev nilV : Value := .slice none 0 0

def runG (P : Program) (all : Array Oper) (b want : Bool) (o : Oper) (os : List Oper) (s : St) : Res := if b = want then exec1 P o os s (runL P all os) else runL P all os ⟨putE s.env o.dst (.tup []), s.H⟩
theorem runL_nil (P : Program) (all : Array Oper) (s : St) : runL P all [] s = .done s := by rw [runL.eq_def]
theorem runL_none (P : Program) (all : Array Oper) (a1 : Option Tmp) (a2 : Op) (a3 : TypeId) (a4 : String) (a5 : Array Edge) (os : List Oper) (s : St) : runL P all (⟨a1, a2, a3, a4, a5, none⟩ :: os) s = exec1 P ⟨a1, a2, a3, a4, a5, none⟩ os s (runL P all os) := by rw [runL.eq_def]
theorem runL_guard (P : Program) (all : Array Oper) (a1 : Option Tmp) (a2 : Op) (a3 : TypeId) (a4 : String) (a5 : Array Edge) (j : Nat) (want : Bool) (os : List Oper) (s : St) : runL P all (⟨a1, a2, a3, a4, a5, some (j, want)⟩ :: os) s = match guardOf all s j want with
    | some b => runG P all b want ⟨a1, a2, a3, a4, a5, some (j, want)⟩ os s
    | none => .stuck := by rw [runL.eq_def]; rfl
theorem runG_tt (P : Program) (all : Array Oper) (o : Oper) (os : List Oper) (s : St) : runG P all true true o os s = exec1 P o os s (runL P all os) := by rw [runG, if_pos rfl]
theorem runG_ff (P : Program) (all : Array Oper) (o : Oper) (os : List Oper) (s : St) : runG P all false false o os s = exec1 P o os s (runL P all os) := by rw [runG, if_pos rfl]
theorem runG_tf (P : Program) (all : Array Oper) (o : Oper) (os : List Oper) (s : St) : runG P all true false o os s = runL P all os ⟨putE s.env o.dst (.tup []), s.H⟩ := by rw [runG, if_neg (by simp)]
theorem runG_ft (P : Program) (all : Array Oper) (o : Oper) (os : List Oper) (s : St) : runG P all false true o os s = runL P all os ⟨putE s.env o.dst (.tup []), s.H⟩ := by rw [runG, if_neg (by simp)]
theorem resOk_g {P : Program} {all : Array Oper} {Q : St → Prop} {b want : Bool} {o : Oper} {os : List Oper} {s : St} (h1 : b = want → resOk P all Q (exec1 P o os s (runL P all os))) (h2 : b = !want → resOk P all Q (runL P all os ⟨putE s.env o.dst (.tup []), s.H⟩)) : resOk P all Q (runG P all b want o os s) := by
  unfold runG
  by_cases h : b = want
  · rw [if_pos h]; exact h1 h
  · rw [if_neg h]; exact h2 (by cases b <;> cases want <;> simp_all)
theorem exec1_mk (P : Program) (a1 : Option Tmp) (a2 : Op) (a3 : TypeId) (a4 : String) (a5 : Array Edge) (a6 : Option (Nat × Bool)) (os : List Oper) (s : St) (k : St → Res) : exec1 P ⟨a1, a2, a3, a4, a5, a6⟩ os s k = match callOf s a2 with
  | some (f, avs) => .call f avs a1 os s
  | none => match astep P s a2 with
    | some (av, H') => k ⟨putE s.env a1 av, H'⟩
    | none => .stuck := by rw [exec1]; rfl
theorem resOk_done (P : Program) (all : Array Oper) (Q : St → Prop) (s : St) : resOk P all Q (.done s) = Q s := by rw [resOk]
theorem resOk_call (P : Program) (all : Array Oper) (Q : St → Prop) (f : FuncId) (avs : List A1) (dst : Option Tmp) (os : List Oper) (s : St) : resOk P all Q (.call f avs dst os s) = HCall P f avs s.H fun ret H' => aL P all Q os ⟨putE s.env dst ret, H'⟩ := by rw [resOk]
theorem resOk_stuck (P : Program) (all : Array Oper) (Q : St → Prop) : resOk P all Q .stuck = False := by rw [resOk]
attribute [go_sem] runL_nil runL_none runL_guard runG_tt runG_ff runG_tf runG_ft exec1_mk callOf guardOf guard? astep ev cv putE scal resOk_done resOk_call resOk_stuck one? a1? int? bool? val? guardOf mkOne aparts caps bnd? vals abuiltin aconv cells1 ofCells doLoad doStore doIndexAddr doField lenT doSlice doSliceS rowsOf apart doAppend byteOf bytesOf isOwn nameT nameRow rowsAt splice fillA rowsA ofD amax aminmax aun isNil
attribute [go_sem] nameA1 nameAL nameAV takeAL takeA1 takeRow takeT ownish lookAL lookA1 lookRow lookT isRo lookRowBy lookRowsBy backAL noRoAV noRoA1 noRoO noRo noRoRow noRoRows fitAV fitA1 fitAL fitOs closedT closedRow closedRows onRet aRes resA retOf
attribute [go_sem] refsT refsRow refsRows renT renRow renRows refsObj renObj refsA1 refsAV renAV pick slotRefs canonH okNames okKeep
attribute [go_sem] List.set_cons_zero List.set_cons_succ List.getD_cons_zero List.getD_cons_succ List.getElem?_toArray List.getElem?_cons_zero List.getElem?_cons_succ List.getElem?_nil Option.bind_some if_false if_true Bool.false_eq_true reduceCtorEq List.append_nil List.nil_append List.cons_append List.length_nil List.length_cons List.map_cons List.map_nil List.take_zero List.take_succ_cons List.drop_zero List.drop_succ_cons List.take_nil List.drop_nil List.all_cons List.all_nil List.any_cons List.any_nil Nat.reduceAdd Nat.reduceSub Nat.reduceMul Nat.reduceLeDiff Nat.reduceLT Nat.reduceEqDiff Nat.zero_add Nat.add_zero and_true true_and and_self Bool.and_true Bool.true_and Bool.and_self Bool.or_false Bool.false_or Bool.or_true Bool.true_or Bool.not_true Bool.not_false List.replicate List.getElem?_set_self decide_true decide_false eq_self List.length_append List.length_map List.length_set List.foldr ite_self not_true_eq_false not_false_eq_true Option.some.injEq imp_self forall_const true_implies false_implies List.toList_toArray List.size_toArray true_or or_true false_or or_false or_self and_false false_and Bool.and_false Bool.false_and Bool.not_eq_true Bool.not_eq_false Bool.not_not

/-! The same, said by cases, so that nothing is reckoned ahead of its time. -/
def fitRef (n : Nat) (H : List AObj) (l off len sz' : Nat) (rows' : List (List T)) : Option AObj → Prop × List AObj
  | some (.live sz rows) => (sz = sz' ∧ off + len ≤ rows.length ∧ (fitRows n (H.set l .dead) ((rows.drop off).take len) rows').1, (fitRows n (H.set l .dead) ((rows.drop off).take len) rows').2)
  | _ => (False, H)
def fitPtr (n : Nat) (H : List AObj) (l : Nat) (row' : List T) : Option AObj → Prop × List AObj
  | some (.live sz [row]) => (sz = row'.length ∧ (fitRow n (H.set l .dead) row row').1, (fitRow n (H.set l .dead) row row').2)
  | _ => (False, H)
def fitRows2 (n : Nat) (H : List AObj) : List (List T) → List (List T) → Prop × List AObj
  | r :: rs, r' :: rs' => ((fitRow n H r r').1 ∧ (fitRows n (fitRow n H r r').2 rs rs').1, (fitRows n (fitRow n H r r').2 rs rs').2)
  | _, _ => (False, H)
section
variable (n : Nat) (H : List AObj)
theorem fitT_ref (l off len sz' : Nat) (rows' : List (List T)) : fitT (n + 1) H (.ref l off len) (.own sz' rows') = fitRef n H l off len sz' rows' (H[l]?) := by
  rw [fitT.eq_def]
  simp only
  rcases H[l]? with _ | (_ | ⟨sz, rows⟩) <;> rfl
theorem fitT_ptr (l : Nat) (row' : List T) : fitT (n + 1) H (.ptr l 0 0) (.box row') = fitPtr n H l row' (H[l]?) := by
  rw [fitT.eq_def]
  simp only
  rcases H[l]? with _ | (_ | ⟨sz, _ | ⟨row, _ | ⟨r2, rs⟩⟩⟩) <;> rfl
theorem fitT_vo (x : Value) (sz : Nat) (rows' : List (List T)) : fitT (n + 1) H (.v x) (.own sz rows') = (isNil x = true ∧ rows' = [], H) := by rw [fitT.eq_def]
theorem fitT_vr (x : Value) (sz : Nat) (rows' : List (List D)) : fitT (n + 1) H (.v x) (.ro sz rows') = (isNil x = true ∧ rows' = [], H) := by rw [fitT.eq_def]
theorem fitT_vv (x y : Value) : fitT (n + 1) H (.v x) (.v y) = (closedT (.v x) = true ∧ x = y, H) := by simp [fitT]
theorem fitT_rr (sz sz' : Nat) (rows rows' : List (List D)) : fitT (n + 1) H (.ro sz rows) (.ro sz' rows') = (sz = sz' ∧ rows = rows', H) := by simp [fitT, closedT]
theorem fitT_oo (sz sz' : Nat) (rows rows' : List (List T)) : fitT (n + 1) H (.own sz rows) (.own sz' rows') = (closedRows rows = true ∧ sz = sz' ∧ rows = rows', H) := by simp [fitT, closedT]
theorem fitRow_nil : fitRow (n + 1) H [] [] = (True, H) := by rw [fitRow.eq_def]
theorem fitRow_cons (t t' : T) (ts ts' : List T) : fitRow (n + 1) H (t :: ts) (t' :: ts') = ((fitT n H t t').1 ∧ (fitRow n (fitT n H t t').2 ts ts').1, (fitRow n (fitT n H t t').2 ts ts').2) := by rw [fitRow.eq_def]
theorem fitRows_eq (rows rows' : List (List T)) : fitRows (n + 1) H rows rows' = if closedRows rows = true then (rows = rows', H) else fitRows2 n H rows rows' := by
  rw [fitRows.eq_def]
  simp only
  split
  · rfl
  · unfold fitRows2
    cases rows <;> cases rows' <;> rfl
def lookRef (n : Nat) (H : List AObj) (off len sz' : Nat) (rows' : List (List D)) : Option AObj → Prop
  | some (.live sz rows) => sz = sz' ∧ off + len ≤ rows.length ∧ lookRowsBy (lookD n H) ((rows.drop off).take len) rows'
  | _ => False
theorem lookD_vv (x y : Value) : lookD (n + 1) H (.v x) (.v y) = (x = y) := by rw [lookD.eq_def]
theorem lookD_vl (x : Value) (sz : Nat) (rows : List (List D)) : lookD (n + 1) H (.v x) (.l sz rows) = (isNil x = true ∧ rows = []) := by rw [lookD.eq_def]
theorem lookD_rl (sz sz' : Nat) (rows rows' : List (List D)) : lookD (n + 1) H (.ro sz rows) (.l sz' rows') = (sz = sz' ∧ rows = rows') := by rw [lookD.eq_def]
theorem lookD_ol (sz sz' : Nat) (rows : List (List T)) (rows' : List (List D)) : lookD (n + 1) H (.own sz rows) (.l sz' rows') = (sz = sz' ∧ lookRowsBy (lookD n H) rows rows') := by rw [lookD.eq_def]
theorem lookD_ref (l off len sz' : Nat) (rows' : List (List D)) : lookD (n + 1) H (.ref l off len) (.l sz' rows') = lookRef n H off len sz' rows' (H[l]?) := by
  rw [lookD.eq_def]
  simp only
  rcases H[l]? with _ | (_ | ⟨sz, rows⟩) <;> rfl
end
def backRef (H : List AObj) (l sz : Nat) (rows : List (List T)) : Option AObj → Prop × List AObj
  | some (.live sz0 _) => (sz0 = sz, H.set l (.live sz rows))
  | _ => (False, H)
def backPtr (H : List AObj) (l : Nat) (row : List T) : Option AObj → Prop × List AObj
  | some (.live sz0 (_ :: _)) => (sz0 = row.length, H.set l (.live sz0 [row]))
  | _ => (False, H)
theorem back1_ref (H0 H : List AObj) (l len sz : Nat) (rows : List (List T)) : back1 H0 H (.one (.ref l 0 len)) (some (.own sz rows)) = backRef H l sz rows (H0[l]?) := by
  rw [back1.eq_def]
  simp only
  rcases H0[l]? with _ | (_ | ⟨sz, rows⟩) <;> rfl
theorem back1_ptr (H0 H : List AObj) (l : Nat) (row : List T) : back1 H0 H (.one (.ptr l 0 0)) (some (.box row)) = backPtr H l row (H0[l]?) := by
  rw [back1.eq_def]
  simp only
  rcases H0[l]? with _ | (_ | ⟨sz, _ | ⟨row, rs⟩⟩) <;> rfl
theorem back1_none (H0 H : List AObj) (a : A1) : back1 H0 H a none = (True, H) := by
  unfold back1
  split <;> simp_all
theorem fitRows2_cons (n : Nat) (H : List AObj) (r r' : List T) (rs rs' : List (List T)) : fitRows2 n H (r :: rs) (r' :: rs') = ((fitRow n H r r').1 ∧ (fitRows n (fitRow n H r r').2 rs rs').1, (fitRows n (fitRow n H r r').2 rs rs').2) := rfl
attribute [go_sem] fitRef fitPtr fitRows2_cons fitT_ref fitT_ptr fitT_vo fitT_vr fitT_vv fitT_rr fitT_oo fitRow_nil fitRow_cons fitRows_eq lookRef lookD_vv lookD_vl lookD_rl lookD_ol lookD_ref backRef backPtr back1_ref back1_ptr back1_none

/-- The slots that a loop keeps. -/
def mkEnv (n : Nat) : List (Nat × A1) → List AV
  | [] => List.replicate n (.s .any)
  | (j, a) :: r => (mkEnv n r).set j (.s a)
theorem keepEnv_hit (f : Nat → Nat) (a : AV) (as_ : List AV) (i : Nat) (ss : List Nat) : keepEnv f (a :: as_) i (i :: ss) = renAV f a :: keepEnv f as_ (i + 1) ss := by
  rw [keepEnv.eq_def]
  simp
theorem keepEnv_miss (f : Nat → Nat) (a : AV) (as_ : List AV) (i s : Nat) (ss : List Nat) (h : i < s) : keepEnv f (a :: as_) i (s :: ss) = .s .any :: keepEnv f as_ (i + 1) (s :: ss) := by
  rw [keepEnv.eq_def]
  simp only
  rw [if_neg (by omega)]
theorem keepEnv_end (f : Nat → Nat) (a : AV) (as_ : List AV) (i : Nat) : keepEnv f (a :: as_) i [] = .s .any :: keepEnv f as_ (i + 1) [] := by rw [keepEnv.eq_def]
theorem keepEnv_nil (f : Nat → Nat) (i : Nat) (ss : List Nat) : keepEnv f [] i ss = [] := by rw [keepEnv.eq_def]
theorem idxOf_hit (a : Nat) (as_ : List Nat) : (a :: as_).idxOf a = 0 := by simp
theorem idxOf_miss (a b : Nat) (as_ : List Nat) (h : b ≠ a) : (b :: as_).idxOf a = as_.idxOf a + 1 := by
  have hb : (b == a) = false := by simpa using h
  simp [List.idxOf_cons, hb]
theorem newName_low (k : Nat) (keep : List Nat) (l : Nat) (h : l < k) : newName k keep l = l := by simp [newName, h]
theorem newName_high (k : Nat) (keep : List Nat) (l : Nat) (h : k ≤ l) : newName k keep l = k + keep.idxOf l := by
  simp only [newName]
  rw [if_neg (by omega)]
attribute [go_sem] mkEnv keepEnv_hit keepEnv_miss keepEnv_end keepEnv_nil idxOf_hit idxOf_miss newName_low newName_high List.contains_cons List.contains_nil Nat.reduceBEq Nat.reduceBneDiff
theorem resOk_if {P : Program} {all : Array Oper} {Q : St → Prop} {b want : Bool} {x y : Res} (h1 : b = want → resOk P all Q x) (h2 : b = !want → resOk P all Q y) : resOk P all Q (if b = want then x else y) := by
  by_cases h : b = want
  · rw [if_pos h]; exact h1 h
  · rw [if_neg h]; exact h2 (by cases b <;> cases want <;> simp_all)
section
variable (P : Program) (k : Nat) (Q : Ex → St → Prop) (s : St)
theorem aC_skip : aCode P k .skip Q s = Q .normal s := by rw [aCode.eq_def]
theorem aC_exit (id : Nat) : aCode P k (.exit id) Q s = Q (.exit id) s := by rw [aCode.eq_def]
theorem aC_ret : aCode P k .ret Q s = Q .ret s := by rw [aCode.eq_def]
end
attribute [go_sem] aC_skip aC_exit aC_ret iV bV sV Int.natCast_add Int.cast_ofNat_Int Int.toNat_natCast
theorem ab_add (k : IntKind) (a b : Int) : abin .add (.int k a) (.int k b) = some (.int k (k.wrap (a + b))) := by simp [abin]
theorem ab_sub (k : IntKind) (a b : Int) : abin .sub (.int k a) (.int k b) = some (.int k (k.wrap (a - b))) := by simp [abin]
theorem ab_mul (k : IntKind) (a b : Int) : abin .mul (.int k a) (.int k b) = some (.int k (k.wrap (a * b))) := by simp [abin]
theorem ab_quo (k : IntKind) (a b : Int) (h : b ≠ 0) : abin .quo (.int k a) (.int k b) = some (.int k (k.wrap (a.tdiv b))) := by simp [abin, h]
theorem ab_rem (k : IntKind) (a b : Int) (h : b ≠ 0) : abin .rem (.int k a) (.int k b) = some (.int k (a.tmod b)) := by simp [abin, h]
theorem ab_eql (k : IntKind) (a b : Int) : abin .eql (.int k a) (.int k b) = some (.bool (a == b)) := by simp [abin]
theorem ab_neq (k : IntKind) (a b : Int) : abin .neq (.int k a) (.int k b) = some (.bool (a != b)) := by simp [abin]
theorem ab_lss (k : IntKind) (a b : Int) : abin .lss (.int k a) (.int k b) = some (.bool (decide (a < b))) := by simp [abin]
theorem ab_leq (k : IntKind) (a b : Int) : abin .leq (.int k a) (.int k b) = some (.bool (decide (a ≤ b))) := by simp [abin]
theorem ab_gtr (k : IntKind) (a b : Int) : abin .gtr (.int k a) (.int k b) = some (.bool (decide (b < a))) := by simp [abin]
theorem ab_geq (k : IntKind) (a b : Int) : abin .geq (.int k a) (.int k b) = some (.bool (decide (b ≤ a))) := by simp [abin]
theorem ab_and (k : IntKind) (a b : Int) : abin .and (.int k a) (.int k b) = some (.int k (k.wrap (BitVec.ofInt k.bits a &&& BitVec.ofInt k.bits b).toNat)) := by simp [abin]
theorem ab_xor (k : IntKind) (a b : Int) : abin .xor (.int k a) (.int k b) = some (.int k (k.wrap (BitVec.ofInt k.bits a ^^^ BitVec.ofInt k.bits b).toNat)) := by simp [abin]
theorem ab_shl (k k' : IntKind) (a b : Int) (h : 0 ≤ b) : abin .shl (.int k a) (.int k' b) = some (.int k (k.wrap (a * 2 ^ (min b.toNat k.bits)))) := by simp [abin, h]
theorem ab_shr (k k' : IntKind) (a b : Int) (h : 0 ≤ b) : abin .shr (.int k a) (.int k' b) = some (.int k (a.fdiv (2 ^ (min b.toNat k.bits)))) := by simp [abin, h]
theorem ab_cat (x y : ByteArray) (h : x.size + y.size ≤ 9223372036854775807) : abin .add (.string x) (.string y) = some (.string (x ++ y)) := by simp [abin, h]
theorem ab_seq (x y : ByteArray) : abin .eql (.string x) (.string y) = some (.bool (seq x y)) := rfl
theorem ab_sne (x y : ByteArray) : abin .neq (.string x) (.string y) = some (.bool (!seq x y)) := rfl
theorem abT_int (P : Program) (t : TypeId) (op : BinOp) (k k' : IntKind) (a b : Int) : abinT P t op (.int k a) (.int k' b) = abin op (.int k a) (.int k' b) := by cases op <;> rfl
theorem abT_str (P : Program) (t : TypeId) (op : BinOp) (a b : ByteArray) : abinT P t op (.string a) (.string b) = abin op (.string a) (.string b) := by cases op <;> rfl
theorem abT_beq (P : Program) (t : TypeId) (x y : Bool) : abinT P t .eql (.bool x) (.bool y) = if isBoolT P t = true then some (.bool (x == y)) else none := rfl
theorem abT_bne (P : Program) (t : TypeId) (x y : Bool) : abinT P t .neq (.bool x) (.bool y) = if isBoolT P t = true then some (.bool (x != y)) else none := rfl
theorem wrap64 {x : Int} (h : -9223372036854775808 ≤ x) (h' : x ≤ 9223372036854775807) : IntKind.i64.wrap x = x := by rw [IntKind.wrap_i64]; omega
attribute [go_sem] ab_add ab_sub ab_mul ab_quo ab_rem ab_eql ab_neq ab_lss ab_leq ab_gtr ab_geq ab_and ab_xor ab_shl ab_shr ab_cat ab_seq ab_sne abT_int abT_str abT_beq abT_bne isBoolT wrap64 idx_ok bnds_ok leB_ok leI_ok Nat.le_refl

/-- Lists of whole numbers. -/
def intsT (xs : List Int) : List (List T) := xs.map fun n => [iV n]
def intsD (xs : List Int) : List (List D) := xs.map fun n => [D.v (.int .i64 n)]
def strsT (xs : List ByteArray) : List (List T) := xs.map fun n => [sV n]
def strsD (xs : List ByteArray) : List (List D) := xs.map fun n => [D.v (.string n)]
theorem closed_map {α : Type} {f : α → List T} (h : ∀ x, closedRow (f x) = true) : ∀ xs : List α, closedRows (xs.map f) = true
  | [] => rfl
  | x :: xs => by simp [closedRows, h x, closed_map h xs]
theorem noRo_map {α : Type} {f : α → List T} (h : ∀ x, noRoRow (f x) = true) : ∀ xs : List α, noRoRows (xs.map f) = true
  | [] => rfl
  | x :: xs => by simp [noRoRows, h x, noRo_map h xs]
theorem flat_map {α : Type} {f : α → List T} (h : ∀ x, ((f x).all fun t => !isOwn t) = true) (xs : List α) : flat (xs.map f) = true := by
  simp only [flat, List.all_map, List.all_eq_true]
  intro x _
  exact h x
theorem closedRows_app : ∀ xs ys : List (List T), closedRows (xs ++ ys) = (closedRows xs && closedRows ys)
  | [], ys => by simp [closedRows]
  | x :: xs, ys => by simp [closedRows, closedRows_app xs ys, Bool.and_assoc]
theorem noRoRows_app : ∀ xs ys : List (List T), noRoRows (xs ++ ys) = (noRoRows xs && noRoRows ys)
  | [], ys => by simp [noRoRows]
  | x :: xs, ys => by simp [noRoRows, noRoRows_app xs ys, Bool.and_assoc]
theorem closedRows_set : ∀ (xs : List (List T)) (k : Nat) (r : List T), closedRows xs = true → closedRow r = true → closedRows (xs.set k r) = true
  | [], k, r, h, hr => by simp [closedRows]
  | x :: xs, 0, r, h, hr => by simp only [closedRows, Bool.and_eq_true] at h; simp [closedRows, hr, h.2]
  | x :: xs, k + 1, r, h, hr => by simp only [closedRows, Bool.and_eq_true] at h; simp [closedRows, h.1, closedRows_set xs k r h.2 hr]
theorem closedRows_iff : ∀ {xs : List (List T)}, closedRows xs = true ↔ ∀ r ∈ xs, closedRow r = true
  | [] => by simp [closedRows]
  | x :: xs => by simp [closedRows, closedRows_iff]
theorem closedRows_sub {xs ys : List (List T)} (hs : ∀ r ∈ ys, r ∈ xs) (h : closedRows xs = true) : closedRows ys = true :=
  closedRows_iff.2 fun r hr => closedRows_iff.1 h r (hs r hr)
theorem flat_nil : flat [] = true := rfl
theorem flat_cons (r : List T) (rs : List (List T)) : flat (r :: rs) = ((r.all fun t => !isOwn t) && flat rs) := rfl
theorem flat_app (rs ss : List (List T)) : flat (rs ++ ss) = (flat rs && flat ss) := by simp [flat]
attribute [go_sem] flat_nil flat_cons flat_app
theorem intsT_closed (xs : List Int) : closedRows (intsT xs) = true := closed_map (fun _ => rfl) xs
theorem intsT_noRo (xs : List Int) : noRoRows (intsT xs) = true := noRo_map (fun _ => rfl) xs
theorem intsT_flat (xs : List Int) : flat (intsT xs) = true := flat_map (fun _ => rfl) xs
theorem intsT_len (xs : List Int) : (intsT xs).length = xs.length := by simp [intsT]
theorem intsD_len (xs : List Int) : (intsD xs).length = xs.length := by simp [intsD]
theorem intsD_ofD (xs : List Int) : (intsD xs).map (·.map ofD) = intsT xs := by simp [intsD, intsT, ofD]
theorem intsT_take (xs : List Int) (n : Nat) : (intsT xs).take n = intsT (xs.take n) := by simp [intsT, List.map_take]
theorem intsT_drop (xs : List Int) (n : Nat) : (intsT xs).drop n = intsT (xs.drop n) := by simp [intsT, List.map_drop]
theorem intsD_take (xs : List Int) (n : Nat) : (intsD xs).take n = intsD (xs.take n) := by simp [intsD, List.map_take]
theorem intsD_drop (xs : List Int) (n : Nat) : (intsD xs).drop n = intsD (xs.drop n) := by simp [intsD, List.map_drop]
theorem intsT_get {xs : List Int} {k : Nat} (h : k < xs.length) : (intsT xs)[k]? = some [iV (xs.getD k 0)] := by simp [intsT, h]
theorem intsD_get {xs : List Int} {k : Nat} (h : k < xs.length) : (intsD xs)[k]? = some [D.v (.int .i64 (xs.getD k 0))] := by simp [intsD, h]
theorem intsT_set (xs : List Int) (k : Nat) (n : Int) : (intsT xs).set k [iV n] = intsT (xs.set k n) := by simp [intsT, List.map_set]
theorem intsT_app1 (xs : List Int) (n : Int) : intsT xs ++ [[iV n]] = intsT (xs ++ [n]) := by simp [intsT]
theorem intsT_app (xs ys : List Int) : intsT xs ++ intsT ys = intsT (xs ++ ys) := by simp [intsT]
theorem intsT_look {n : Nat} {H : List AObj} (xs : List Int) : lookRowsBy (lookD (n + 1) H) (intsT xs) (intsD xs) := lookRowsBy_map fun x _ => by simp [lookRowBy, lookD]
attribute [go_sem] intsT_closed intsT_noRo intsT_flat intsT_len intsD_len intsD_ofD intsT_take intsT_drop intsD_take intsD_drop intsT_get intsD_get intsT_set intsT_app1 intsT_app intsT_look List.take_length
end Go.Proofs.YtgeoipplkjgnfaaDoor.E
