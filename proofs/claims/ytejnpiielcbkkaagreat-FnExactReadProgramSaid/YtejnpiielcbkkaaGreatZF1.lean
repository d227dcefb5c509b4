/- A part of what stands under the laws of this seat: an abstract evaluator that is proved sound, and contracts of functions by it. No condition beside those that stand in each statement. -/
import Derived.Test.YtejnpiielcbkkaaGreatZA1
set_option linter.unusedVariables false
set_option linter.unusedSimpArgs false
section
set_option maxRecDepth 100000
set_option maxHeartbeats 4000000
namespace Go.Proofs.YtejnpiielcbkkaaGreat.E
theorem ti157 : ti Tryz.prog 157 = some ⟨.st [(0, 1, false), (1, 1, false), (2, 1, false), (3, 1, false), (4, 1, false), (5, 1, false)], 6, 88, true, [.int .i64 0, .int .i64 0, .string { data := { toList := [] } }, .string { data := { toList := [] } }, .string { data := { toList := [] } }, .slice none 0 0]⟩ := by kernel_rfl
theorem ni157 : notInt Tryz.prog 157 = true := by kernel_rfl
theorem ti139 : ti Tryz.prog 139 = some ⟨.st [(0, 1, false), (1, 1, false), (2, 1, false), (3, 1, false), (4, 1, false), (5, 1, false)], 6, 88, true, [.int .i64 0, .int .i64 0, .string { data := { toList := [] } }, .string { data := { toList := [] } }, .string { data := { toList := [] } }, .slice none 0 0]⟩ := by kernel_rfl
theorem ni139 : notInt Tryz.prog 139 = true := by kernel_rfl
theorem ti32 : ti Tryz.prog 32 = some ⟨.sl 157, 1, 24, false, [.slice none 0 0]⟩ := by kernel_rfl
theorem ni32 : notInt Tryz.prog 32 = true := by kernel_rfl
theorem ti22 : ti Tryz.prog 22 = some ⟨.sl 139, 1, 24, false, [.slice none 0 0]⟩ := by kernel_rfl
theorem ni22 : notInt Tryz.prog 22 = true := by kernel_rfl
attribute [go_sem] ti157 ni157 ti139 ni139 ti32 ni32 ti22 ni22
structure Node where
  kind : Int
  num : Int
  name : ByteArray
  more : ByteArray
  to : ByteArray
  kids : List Int
def nodeT (x : Node) : List T := [iV x.kind, iV x.num, sV x.name, sV x.more, sV x.to, .own 1 (intsT x.kids)]
def nodeR (x : Node) : List T := [iV x.kind, iV x.num, sV x.name, sV x.more, sV x.to, .ro 1 (intsD x.kids)]
attribute [go_sem] nodeT nodeR
def nodeD (x : Node) : List D := [D.v (.int .i64 x.kind), D.v (.int .i64 x.num), D.v (.string x.name), D.v (.string x.more), D.v (.string x.to), .l 1 (intsD x.kids)]
attribute [go_sem] nodeD
def nodeZ : Node := ⟨0, 0, ByteArray.empty, ByteArray.empty, ByteArray.empty, []⟩
def smNode (x : Node) : Prop := x.name.size ≤ 1048576 ∧ x.more.size ≤ 1048576 ∧ x.to.size ≤ 1048576 ∧ x.kids.length ≤ 1048576
def mdNode (x : Node) : Prop := x.name.size ≤ 1048576 ∧ x.more.size ≤ 1048576 ∧ x.to.size ≤ 1048576 ∧ x.kids.length ≤ 1099511627776
theorem sm_mdNode {x : Node} (h : smNode x) : mdNode x := ⟨h.1, h.2.1, h.2.2.1, Nat.le_trans h.2.2.2 (by omega)⟩
theorem eqNode_ok (x : Node) (hs : mdNode x) : CallOk Tryz.prog 110 [.agg (nodeR x), .agg (nodeR x)] (.s (.one (bV true))) [none, none] := by
 obtain ⟨hs0, hs1, hs2, hs3⟩ := hs
 refine cOh 40 (hBd Tryz.func110 rfl (by kernel_rfl) ?_)
 simp (disch := omega) only [go_sem, Tryz.ntmps110, Tryz.results110]
 have x1 := @seq_self
 have x2 := @Bool.not_true
 have x3 := eqIntS_ok x.kids hs3
 exact wk
/-! Lists of it. -/
instance : Inhabited Node := ⟨nodeZ⟩
def nodesT (xs : List Node) : List (List T) := xs.map nodeT
def nodesD (xs : List Node) : List (List D) := xs.map nodeD
theorem nodesT_nil : nodesT [] = [] := rfl
theorem nodesT_len (xs : List Node) : (nodesT xs).length = xs.length := by simp [nodesT]
theorem nodesD_len (xs : List Node) : (nodesD xs).length = xs.length := by simp [nodesD]
theorem nodesD_get {xs : List Node} {k : Nat} (h : k < xs.length) : (nodesD xs)[k]? = some (nodeD (xs.getD k nodeZ)) := by simp [nodesD, h]
theorem nodesT_get {xs : List Node} {k : Nat} (h : k < xs.length) : (nodesT xs)[k]? = some (nodeT (xs.getD k nodeZ)) := by simp [nodesT, h]
theorem nodesT_take (xs : List Node) (n : Nat) : (nodesT xs).take n = nodesT (xs.take n) := by simp [nodesT, List.map_take]
theorem nodesD_take (xs : List Node) (n : Nat) : (nodesD xs).take n = nodesD (xs.take n) := by simp [nodesD, List.map_take]
theorem nodesT_closed (xs : List Node) : closedRows (nodesT xs) = true := closed_map (fun x => by simp [nodeT, closedRow, closedT, isNil, intsT_closed]) xs
theorem nodesT_noRo (xs : List Node) : noRoRows (nodesT xs) = true := noRo_map (fun x => by simp [nodeT, noRoRow, noRo, isNil, intsT_noRo]) xs
theorem nodesT_look {n : Nat} {H : List AObj} (xs : List Node) : lookRowsBy (lookD (n + 2) H) (nodesT xs) (nodesD xs) := lookRowsBy_map fun x _ => ⟨rfl, ⟨rfl, ⟨rfl, ⟨rfl, ⟨rfl, ⟨⟨rfl, intsT_look _⟩, trivial⟩⟩⟩⟩⟩⟩
attribute [go_sem] nodesT_nil nodesT_len nodesD_len nodesD_get nodesT_get nodesT_take nodesD_take nodesT_closed nodesT_noRo nodesT_look
def nodeMix (xs : List Node) (k : Nat) : List (List T) := nodesT (xs.take k) ++ List.replicate (xs.length - k) [iV 0, iV 0, .v (.string { data := { toList := [] } }), .v (.string { data := { toList := [] } }), .v (.string { data := { toList := [] } }), .v nilV]
theorem nodeMix_refs (xs : List Node) (k : Nat) : refsRows (nodeMix xs k) = [] := by
 rw [nodeMix, refsRows_app, closed_refsRows _ (nodesT_closed _), refs_repl rfl]; rfl
theorem nodeMix_ren (f : Nat → Nat) (xs : List Node) (k : Nat) : renRows f (nodeMix xs k) = nodeMix xs k := by
 rw [nodeMix, renRows_app, closed_renRows f _ (nodesT_closed _), ren_repl rfl]
attribute [go_sem] nodeMix_refs nodeMix_ren
theorem eqNodeS_ok (xs : List Node) (hs : xs.length ≤ 68719476736 ∧ ∀ y ∈ xs, mdNode y) : CallOk Tryz.prog 35 [.one (.ro 6 (nodesD xs)), .one (.ro 6 (nodesD xs))] (.s (.one (bV true))) [none, none] := by
 obtain ⟨hs, hs1⟩ := hs
 refine cOh 40 (hBd Tryz.func35 rfl (by kernel_rfl) ?_)
 simp (disch := omega) only [go_sem, Tryz.ntmps35, Tryz.results35]
 have x1 : HT 6 (.fr [0, 1, 2, 3, 4, 5, 6, 7] (.op [8] (.fr [9] (.stop)))) := ⟨⟩
 refine wkc ?_
 refine i_loop (α := {k : Nat // k ≤ xs.length}) (fun k => ⟨mkEnv 27 [(0, .one (.ro 6 (nodesD xs))), (1, .one (.ro 6 (nodesD xs))), (5, .one (iV k.1))], []⟩) (fun k => xs.length - k.1) ⟨0, by omega⟩ ?_ ?_
 ·exact wc [0, 1, 5] []
 rintro ⟨k, hk⟩
 simp (disch := omega) only [go_sem]
 by_cases hkl : k < xs.length
 ·have hsk := hs1 (xs.getD k nodeZ) (by simp [hkl])
  have x1 : HT 6 (.fr [0, 1, 2, 3, 4, 5, 6, 7] (.op [8] (.fr [9] (.stop)))) := ⟨⟩
  have x2 := eqNode_ok (xs.getD k nodeZ) hsk
  refine wkc ?_
  refine ⟨⟨k + 1, by omega⟩, ?_, by simp only; omega⟩
  exact wc [0, 1, 5] []
 ·
  have x1 : HT 6 (.fr [0, 1, 2, 3, 4, 5, 6, 7] (.op [8] (.fr [9] (.stop)))) := ⟨⟩
  exact wk
end Go.Proofs.YtejnpiielcbkkaaGreat.E
end
section
set_option maxRecDepth 100000
set_option maxHeartbeats 4000000
namespace Go.Proofs.YtejnpiielcbkkaaGreat.E
theorem ti246 : ti Tryz.prog 246 = some ⟨.st [(0, 1, false), (1, 1, false), (2, 1, false)], 3, 40, true, [.string { data := { toList := [] } }, .string { data := { toList := [] } }, .int .i64 0]⟩ := by kernel_rfl
theorem ni246 : notInt Tryz.prog 246 = true := by kernel_rfl
theorem ti133 : ti Tryz.prog 133 = some ⟨.st [(0, 1, false), (1, 1, false), (2, 1, false)], 3, 40, true, [.string { data := { toList := [] } }, .string { data := { toList := [] } }, .int .i64 0]⟩ := by kernel_rfl
theorem ni133 : notInt Tryz.prog 133 = true := by kernel_rfl
theorem ti159 : ti Tryz.prog 159 = some ⟨.sl 246, 1, 24, false, [.slice none 0 0]⟩ := by kernel_rfl
theorem ni159 : notInt Tryz.prog 159 = true := by kernel_rfl
theorem ti75 : ti Tryz.prog 75 = some ⟨.sl 133, 1, 24, false, [.slice none 0 0]⟩ := by kernel_rfl
theorem ni75 : notInt Tryz.prog 75 = true := by kernel_rfl
attribute [go_sem] ti246 ni246 ti133 ni133 ti159 ni159 ti75 ni75
structure Entry where
  name : ByteArray
  param : ByteArray
  body : Int
def entryT (x : Entry) : List T := [sV x.name, sV x.param, iV x.body]
def entryR (x : Entry) : List T := [sV x.name, sV x.param, iV x.body]
attribute [go_sem] entryT entryR
def entryD (x : Entry) : List D := [D.v (.string x.name), D.v (.string x.param), D.v (.int .i64 x.body)]
attribute [go_sem] entryD
def entryZ : Entry := ⟨ByteArray.empty, ByteArray.empty, 0⟩
def smEntry (x : Entry) : Prop := x.name.size ≤ 1048576 ∧ x.param.size ≤ 1048576
def mdEntry (x : Entry) : Prop := x.name.size ≤ 1048576 ∧ x.param.size ≤ 1048576
theorem sm_mdEntry {x : Entry} (h : smEntry x) : mdEntry x := ⟨h.1, h.2⟩
theorem eqEntry_ok (x : Entry) (hs : mdEntry x) : CallOk Tryz.prog 227 [.agg (entryR x), .agg (entryR x)] (.s (.one (bV true))) [none, none] := by
 obtain ⟨hs0, hs1⟩ := hs
 refine cOh 40 (hBd Tryz.func227 rfl (by kernel_rfl) ?_)
 simp (disch := omega) only [go_sem, Tryz.ntmps227, Tryz.results227]
 have x1 := @seq_self
 have x2 := @Bool.not_true
 exact wk
/-! Lists of it. -/
instance : Inhabited Entry := ⟨entryZ⟩
def entrysT (xs : List Entry) : List (List T) := xs.map entryT
def entrysD (xs : List Entry) : List (List D) := xs.map entryD
theorem entrysT_nil : entrysT [] = [] := rfl
theorem entrysT_len (xs : List Entry) : (entrysT xs).length = xs.length := by simp [entrysT]
theorem entrysD_len (xs : List Entry) : (entrysD xs).length = xs.length := by simp [entrysD]
theorem entrysD_get {xs : List Entry} {k : Nat} (h : k < xs.length) : (entrysD xs)[k]? = some (entryD (xs.getD k entryZ)) := by simp [entrysD, h]
theorem entrysT_get {xs : List Entry} {k : Nat} (h : k < xs.length) : (entrysT xs)[k]? = some (entryT (xs.getD k entryZ)) := by simp [entrysT, h]
theorem entrysT_take (xs : List Entry) (n : Nat) : (entrysT xs).take n = entrysT (xs.take n) := by simp [entrysT, List.map_take]
theorem entrysD_take (xs : List Entry) (n : Nat) : (entrysD xs).take n = entrysD (xs.take n) := by simp [entrysD, List.map_take]
theorem entrysT_closed (xs : List Entry) : closedRows (entrysT xs) = true := closed_map (fun x => by simp [entryT, closedRow, closedT, isNil]) xs
theorem entrysT_noRo (xs : List Entry) : noRoRows (entrysT xs) = true := noRo_map (fun x => by simp [entryT, noRoRow, noRo, isNil]) xs
theorem entrysT_flat (xs : List Entry) : flat (entrysT xs) = true := flat_map (fun x => by simp [entryT, isOwn]) xs
attribute [go_sem] entrysT_flat
theorem entrysT_look {n : Nat} {H : List AObj} (xs : List Entry) : lookRowsBy (lookD (n + 1) H) (entrysT xs) (entrysD xs) := lookRowsBy_map fun x _ => ⟨rfl, ⟨rfl, ⟨rfl, trivial⟩⟩⟩
attribute [go_sem] entrysT_nil entrysT_len entrysD_len entrysD_get entrysT_get entrysT_take entrysD_take entrysT_closed entrysT_noRo entrysT_look
def entryMix (xs : List Entry) (k : Nat) : List (List T) := entrysT (xs.take k) ++ List.replicate (xs.length - k) [.v (.string { data := { toList := [] } }), .v (.string { data := { toList := [] } }), iV 0]
theorem entryMix_refs (xs : List Entry) (k : Nat) : refsRows (entryMix xs k) = [] := by
 rw [entryMix, refsRows_app, closed_refsRows _ (entrysT_closed _), refs_repl rfl]; rfl
theorem entryMix_ren (f : Nat → Nat) (xs : List Entry) (k : Nat) : renRows f (entryMix xs k) = entryMix xs k := by
 rw [entryMix, renRows_app, closed_renRows f _ (entrysT_closed _), ren_repl rfl]
attribute [go_sem] entryMix_refs entryMix_ren
theorem eqEntryS_ok (xs : List Entry) (hs : xs.length ≤ 68719476736 ∧ ∀ y ∈ xs, mdEntry y) : CallOk Tryz.prog 181 [.one (.ro 3 (entrysD xs)), .one (.ro 3 (entrysD xs))] (.s (.one (bV true))) [none, none] := by
 obtain ⟨hs, hs1⟩ := hs
 refine cOh 40 (hBd Tryz.func181 rfl (by kernel_rfl) ?_)
 simp (disch := omega) only [go_sem, Tryz.ntmps181, Tryz.results181]
 have x1 : HT 6 (.fr [0, 1, 2, 3, 4, 5, 6, 7] (.op [8] (.fr [9] (.stop)))) := ⟨⟩
 refine wkc ?_
 refine i_loop (α := {k : Nat // k ≤ xs.length}) (fun k => ⟨mkEnv 27 [(0, .one (.ro 3 (entrysD xs))), (1, .one (.ro 3 (entrysD xs))), (5, .one (iV k.1))], []⟩) (fun k => xs.length - k.1) ⟨0, by omega⟩ ?_ ?_
 ·exact wc [0, 1, 5] []
 rintro ⟨k, hk⟩
 simp (disch := omega) only [go_sem]
 by_cases hkl : k < xs.length
 ·have hsk := hs1 (xs.getD k entryZ) (by simp [hkl])
  have x1 : HT 6 (.fr [0, 1, 2, 3, 4, 5, 6, 7] (.op [8] (.fr [9] (.stop)))) := ⟨⟩
  have x2 := eqEntry_ok (xs.getD k entryZ) hsk
  refine wkc ?_
  refine ⟨⟨k + 1, by omega⟩, ?_, by simp only; omega⟩
  exact wc [0, 1, 5] []
 ·
  have x1 : HT 6 (.fr [0, 1, 2, 3, 4, 5, 6, 7] (.op [8] (.fr [9] (.stop)))) := ⟨⟩
  exact wk
end Go.Proofs.YtejnpiielcbkkaaGreat.E
end
section
set_option maxRecDepth 100000
set_option maxHeartbeats 4000000
namespace Go.Proofs.YtejnpiielcbkkaaGreat.E
theorem ti161 : ti Tryz.prog 161 = some ⟨.st [(0, 1, false), (1, 1, false), (2, 1, false), (3, 1, false)], 4, 88, true, [.string { data := { toList := [] } }, .slice none 0 0, .slice none 0 0, .slice none 0 0]⟩ := by kernel_rfl
theorem ni161 : notInt Tryz.prog 161 = true := by kernel_rfl
theorem ti77 : ti Tryz.prog 77 = some ⟨.st [(0, 1, false), (1, 1, false), (2, 1, false), (3, 1, false)], 4, 88, true, [.string { data := { toList := [] } }, .slice none 0 0, .slice none 0 0, .slice none 0 0]⟩ := by kernel_rfl
theorem ni77 : notInt Tryz.prog 77 = true := by kernel_rfl
theorem ti33 : ti Tryz.prog 33 = some ⟨.sl 161, 1, 24, false, [.slice none 0 0]⟩ := by kernel_rfl
theorem ni33 : notInt Tryz.prog 33 = true := by kernel_rfl
theorem ti23 : ti Tryz.prog 23 = some ⟨.sl 77, 1, 24, false, [.slice none 0 0]⟩ := by kernel_rfl
theorem ni23 : notInt Tryz.prog 23 = true := by kernel_rfl
attribute [go_sem] ti161 ni161 ti77 ni77 ti33 ni33 ti23 ni23
structure Monitor where
  name : ByteArray
  vars : List ByteArray
  queues : List ByteArray
  entries : List Entry
def monitorT (x : Monitor) : List T := [sV x.name, .own 1 (strsT x.vars), .own 1 (strsT x.queues), .own 3 (entrysT x.entries)]
def monitorR (x : Monitor) : List T := [sV x.name, .ro 1 (strsD x.vars), .ro 1 (strsD x.queues), .ro 3 (entrysD x.entries)]
attribute [go_sem] monitorT monitorR
def monitorD (x : Monitor) : List D := [D.v (.string x.name), .l 1 (strsD x.vars), .l 1 (strsD x.queues), .l 3 (entrysD x.entries)]
attribute [go_sem] monitorD
def moZ : Monitor := ⟨ByteArray.empty, [], [], []⟩
def smMonitor (x : Monitor) : Prop := x.name.size ≤ 1048576 ∧ (x.vars.length ≤ 1048576 ∧ ∀ y ∈ x.vars, ByteArray.size y ≤ 1048576) ∧ (x.queues.length ≤ 1048576 ∧ ∀ y ∈ x.queues, ByteArray.size y ≤ 1048576) ∧ (x.entries.length ≤ 1048576 ∧ ∀ y ∈ x.entries, smEntry y)
def mdMonitor (x : Monitor) : Prop := x.name.size ≤ 1048576 ∧ (x.vars.length ≤ 1099511627776 ∧ ∀ y ∈ x.vars, ByteArray.size y ≤ 1048576) ∧ (x.queues.length ≤ 1099511627776 ∧ ∀ y ∈ x.queues, ByteArray.size y ≤ 1048576) ∧ (x.entries.length ≤ 68719476736 ∧ ∀ y ∈ x.entries, mdEntry y)
theorem sm_mdMonitor {x : Monitor} (h : smMonitor x) : mdMonitor x := ⟨h.1, ⟨Nat.le_trans h.2.1.1 (by omega), h.2.1.2⟩, ⟨Nat.le_trans h.2.2.1.1 (by omega), h.2.2.1.2⟩, ⟨Nat.le_trans h.2.2.2.1 (by omega), fun y hy => sm_mdEntry (h.2.2.2.2 y hy)⟩⟩
theorem eqMonitor_ok (x : Monitor) (hs : mdMonitor x) : CallOk Tryz.prog 111 [.agg (monitorR x), .agg (monitorR x)] (.s (.one (bV true))) [none, none] := by
 obtain ⟨hs0, hs1, hs2, hs3⟩ := hs
 refine cOh 40 (hBd Tryz.func111 rfl (by kernel_rfl) ?_)
 simp (disch := omega) only [go_sem, Tryz.ntmps111, Tryz.results111]
 have x1 := @seq_self
 have x2 := @Bool.not_true
 have x3 := eqStringS_ok x.vars hs1
 have x4 : HC 1 _ := ⟨eqStringS_ok x.queues hs2⟩
 have x5 := eqEntryS_ok x.entries hs3
 exact wk
/-! Lists of it. -/
instance : Inhabited Monitor := ⟨moZ⟩
def monitorsT (xs : List Monitor) : List (List T) := xs.map monitorT
def monitorsD (xs : List Monitor) : List (List D) := xs.map monitorD
theorem monitorsT_nil : monitorsT [] = [] := rfl
theorem monitorsT_len (xs : List Monitor) : (monitorsT xs).length = xs.length := by simp [monitorsT]
theorem monitorsD_len (xs : List Monitor) : (monitorsD xs).length = xs.length := by simp [monitorsD]
theorem monitorsD_get {xs : List Monitor} {k : Nat} (h : k < xs.length) : (monitorsD xs)[k]? = some (monitorD (xs.getD k moZ)) := by simp [monitorsD, h]
theorem monitorsT_get {xs : List Monitor} {k : Nat} (h : k < xs.length) : (monitorsT xs)[k]? = some (monitorT (xs.getD k moZ)) := by simp [monitorsT, h]
theorem monitorsT_take (xs : List Monitor) (n : Nat) : (monitorsT xs).take n = monitorsT (xs.take n) := by simp [monitorsT, List.map_take]
theorem monitorsD_take (xs : List Monitor) (n : Nat) : (monitorsD xs).take n = monitorsD (xs.take n) := by simp [monitorsD, List.map_take]
theorem monitorsT_closed (xs : List Monitor) : closedRows (monitorsT xs) = true := closed_map (fun x => by simp [monitorT, closedRow, closedT, isNil, strsT_closed, entrysT_closed]) xs
theorem monitorsT_noRo (xs : List Monitor) : noRoRows (monitorsT xs) = true := noRo_map (fun x => by simp [monitorT, noRoRow, noRo, isNil, strsT_noRo, entrysT_noRo]) xs
theorem monitorsT_look {n : Nat} {H : List AObj} (xs : List Monitor) : lookRowsBy (lookD (n + 2) H) (monitorsT xs) (monitorsD xs) := lookRowsBy_map fun x _ => ⟨rfl, ⟨⟨rfl, strsT_look _⟩, ⟨⟨rfl, strsT_look _⟩, ⟨⟨rfl, entrysT_look _⟩, trivial⟩⟩⟩⟩
attribute [go_sem] monitorsT_nil monitorsT_len monitorsD_len monitorsD_get monitorsT_get monitorsT_take monitorsD_take monitorsT_closed monitorsT_noRo monitorsT_look
def monitorMix (xs : List Monitor) (k : Nat) : List (List T) := monitorsT (xs.take k) ++ List.replicate (xs.length - k) [.v (.string { data := { toList := [] } }), .v nilV, .v nilV, .v nilV]
theorem monitorMix_refs (xs : List Monitor) (k : Nat) : refsRows (monitorMix xs k) = [] := by
 rw [monitorMix, refsRows_app, closed_refsRows _ (monitorsT_closed _), refs_repl rfl]; rfl
theorem monitorMix_ren (f : Nat → Nat) (xs : List Monitor) (k : Nat) : renRows f (monitorMix xs k) = monitorMix xs k := by
 rw [monitorMix, renRows_app, closed_renRows f _ (monitorsT_closed _), ren_repl rfl]
attribute [go_sem] monitorMix_refs monitorMix_ren
theorem eqMonitorS_ok (xs : List Monitor) (hs : xs.length ≤ 68719476736 ∧ ∀ y ∈ xs, mdMonitor y) : CallOk Tryz.prog 36 [.one (.ro 4 (monitorsD xs)), .one (.ro 4 (monitorsD xs))] (.s (.one (bV true))) [none, none] := by
 obtain ⟨hs, hs1⟩ := hs
 refine cOh 40 (hBd Tryz.func36 rfl (by kernel_rfl) ?_)
 simp (disch := omega) only [go_sem, Tryz.ntmps36, Tryz.results36]
 have x1 : HT 6 (.fr [0, 1, 2, 3, 4, 5, 6, 7] (.op [8] (.fr [9] (.stop)))) := ⟨⟩
 refine wkc ?_
 refine i_loop (α := {k : Nat // k ≤ xs.length}) (fun k => ⟨mkEnv 27 [(0, .one (.ro 4 (monitorsD xs))), (1, .one (.ro 4 (monitorsD xs))), (5, .one (iV k.1))], []⟩) (fun k => xs.length - k.1) ⟨0, by omega⟩ ?_ ?_
 ·exact wc [0, 1, 5] []
 rintro ⟨k, hk⟩
 simp (disch := omega) only [go_sem]
 by_cases hkl : k < xs.length
 ·have hsk := hs1 (xs.getD k moZ) (by simp [hkl])
  have x1 : HT 6 (.fr [0, 1, 2, 3, 4, 5, 6, 7] (.op [8] (.fr [9] (.stop)))) := ⟨⟩
  have x2 := eqMonitor_ok (xs.getD k moZ) hsk
  refine wkc ?_
  refine ⟨⟨k + 1, by omega⟩, ?_, by simp only; omega⟩
  exact wc [0, 1, 5] []
 ·
  have x1 : HT 6 (.fr [0, 1, 2, 3, 4, 5, 6, 7] (.op [8] (.fr [9] (.stop)))) := ⟨⟩
  exact wk
end Go.Proofs.YtejnpiielcbkkaaGreat.E
end
section
set_option maxRecDepth 100000
set_option maxHeartbeats 4000000
namespace Go.Proofs.YtejnpiielcbkkaaGreat.E
theorem ti163 : ti Tryz.prog 163 = some ⟨.st [(0, 1, false), (1, 1, false), (2, 1, false), (3, 1, false)], 4, 72, true, [.string { data := { toList := [] } }, .slice none 0 0, .slice none 0 0, .int .i64 0]⟩ := by kernel_rfl
theorem ni163 : notInt Tryz.prog 163 = true := by kernel_rfl
theorem ti80 : ti Tryz.prog 80 = some ⟨.st [(0, 1, false), (1, 1, false), (2, 1, false), (3, 1, false)], 4, 72, true, [.string { data := { toList := [] } }, .slice none 0 0, .slice none 0 0, .int .i64 0]⟩ := by kernel_rfl
theorem ni80 : notInt Tryz.prog 80 = true := by kernel_rfl
theorem ti34 : ti Tryz.prog 34 = some ⟨.sl 163, 1, 24, false, [.slice none 0 0]⟩ := by kernel_rfl
theorem ni34 : notInt Tryz.prog 34 = true := by kernel_rfl
theorem ti24 : ti Tryz.prog 24 = some ⟨.sl 80, 1, 24, false, [.slice none 0 0]⟩ := by kernel_rfl
theorem ni24 : notInt Tryz.prog 24 = true := by kernel_rfl
attribute [go_sem] ti163 ni163 ti80 ni80 ti34 ni34 ti24 ni24
structure Process where
  name : ByteArray
  uses : List ByteArray
  vars : List ByteArray
  body : Int
def processT (x : Process) : List T := [sV x.name, .own 1 (strsT x.uses), .own 1 (strsT x.vars), iV x.body]
def processR (x : Process) : List T := [sV x.name, .ro 1 (strsD x.uses), .ro 1 (strsD x.vars), iV x.body]
attribute [go_sem] processT processR
def processD (x : Process) : List D := [D.v (.string x.name), .l 1 (strsD x.uses), .l 1 (strsD x.vars), D.v (.int .i64 x.body)]
attribute [go_sem] processD
def prZ : Process := ⟨ByteArray.empty, [], [], 0⟩
def smProcess (x : Process) : Prop := x.name.size ≤ 1048576 ∧ (x.uses.length ≤ 1048576 ∧ ∀ y ∈ x.uses, ByteArray.size y ≤ 1048576) ∧ (x.vars.length ≤ 1048576 ∧ ∀ y ∈ x.vars, ByteArray.size y ≤ 1048576)
def mdProcess (x : Process) : Prop := x.name.size ≤ 1048576 ∧ (x.uses.length ≤ 1099511627776 ∧ ∀ y ∈ x.uses, ByteArray.size y ≤ 1048576) ∧ (x.vars.length ≤ 1099511627776 ∧ ∀ y ∈ x.vars, ByteArray.size y ≤ 1048576)
theorem sm_mdProcess {x : Process} (h : smProcess x) : mdProcess x := ⟨h.1, ⟨Nat.le_trans h.2.1.1 (by omega), h.2.1.2⟩, ⟨Nat.le_trans h.2.2.1 (by omega), h.2.2.2⟩⟩
theorem eqProcess_ok (x : Process) (hs : mdProcess x) : CallOk Tryz.prog 112 [.agg (processR x), .agg (processR x)] (.s (.one (bV true))) [none, none] := by
 obtain ⟨hs0, hs1, hs2⟩ := hs
 refine cOh 40 (hBd Tryz.func112 rfl (by kernel_rfl) ?_)
 simp (disch := omega) only [go_sem, Tryz.ntmps112, Tryz.results112]
 have x1 := @seq_self
 have x2 := @Bool.not_true
 have x3 := eqStringS_ok x.uses hs1
 have x4 : HC 1 _ := ⟨eqStringS_ok x.vars hs2⟩
 exact wk
/-! Lists of it. -/
instance : Inhabited Process := ⟨prZ⟩
def processsT (xs : List Process) : List (List T) := xs.map processT
def processsD (xs : List Process) : List (List D) := xs.map processD
theorem processsT_nil : processsT [] = [] := rfl
theorem processsT_len (xs : List Process) : (processsT xs).length = xs.length := by simp [processsT]
theorem processsD_len (xs : List Process) : (processsD xs).length = xs.length := by simp [processsD]
theorem processsD_get {xs : List Process} {k : Nat} (h : k < xs.length) : (processsD xs)[k]? = some (processD (xs.getD k prZ)) := by simp [processsD, h]
theorem processsT_get {xs : List Process} {k : Nat} (h : k < xs.length) : (processsT xs)[k]? = some (processT (xs.getD k prZ)) := by simp [processsT, h]
theorem processsT_take (xs : List Process) (n : Nat) : (processsT xs).take n = processsT (xs.take n) := by simp [processsT, List.map_take]
theorem processsD_take (xs : List Process) (n : Nat) : (processsD xs).take n = processsD (xs.take n) := by simp [processsD, List.map_take]
theorem processsT_closed (xs : List Process) : closedRows (processsT xs) = true := closed_map (fun x => by simp [processT, closedRow, closedT, isNil, strsT_closed]) xs
theorem processsT_noRo (xs : List Process) : noRoRows (processsT xs) = true := noRo_map (fun x => by simp [processT, noRoRow, noRo, isNil, strsT_noRo]) xs
theorem processsT_look {n : Nat} {H : List AObj} (xs : List Process) : lookRowsBy (lookD (n + 2) H) (processsT xs) (processsD xs) := lookRowsBy_map fun x _ => ⟨rfl, ⟨⟨rfl, strsT_look _⟩, ⟨⟨rfl, strsT_look _⟩, ⟨rfl, trivial⟩⟩⟩⟩
attribute [go_sem] processsT_nil processsT_len processsD_len processsD_get processsT_get processsT_take processsD_take processsT_closed processsT_noRo processsT_look
def processMix (xs : List Process) (k : Nat) : List (List T) := processsT (xs.take k) ++ List.replicate (xs.length - k) [.v (.string { data := { toList := [] } }), .v nilV, .v nilV, iV 0]
theorem processMix_refs (xs : List Process) (k : Nat) : refsRows (processMix xs k) = [] := by
 rw [processMix, refsRows_app, closed_refsRows _ (processsT_closed _), refs_repl rfl]; rfl
theorem processMix_ren (f : Nat → Nat) (xs : List Process) (k : Nat) : renRows f (processMix xs k) = processMix xs k := by
 rw [processMix, renRows_app, closed_renRows f _ (processsT_closed _), ren_repl rfl]
attribute [go_sem] processMix_refs processMix_ren
theorem eqProcessS_ok (xs : List Process) (hs : xs.length ≤ 68719476736 ∧ ∀ y ∈ xs, mdProcess y) : CallOk Tryz.prog 37 [.one (.ro 4 (processsD xs)), .one (.ro 4 (processsD xs))] (.s (.one (bV true))) [none, none] := by
 obtain ⟨hs, hs1⟩ := hs
 refine cOh 40 (hBd Tryz.func37 rfl (by kernel_rfl) ?_)
 simp (disch := omega) only [go_sem, Tryz.ntmps37, Tryz.results37]
 have x1 : HT 6 (.fr [0, 1, 2, 3, 4, 5, 6, 7] (.op [8] (.fr [9] (.stop)))) := ⟨⟩
 refine wkc ?_
 refine i_loop (α := {k : Nat // k ≤ xs.length}) (fun k => ⟨mkEnv 27 [(0, .one (.ro 4 (processsD xs))), (1, .one (.ro 4 (processsD xs))), (5, .one (iV k.1))], []⟩) (fun k => xs.length - k.1) ⟨0, by omega⟩ ?_ ?_
 ·exact wc [0, 1, 5] []
 rintro ⟨k, hk⟩
 simp (disch := omega) only [go_sem]
 by_cases hkl : k < xs.length
 ·have hsk := hs1 (xs.getD k prZ) (by simp [hkl])
  have x1 : HT 6 (.fr [0, 1, 2, 3, 4, 5, 6, 7] (.op [8] (.fr [9] (.stop)))) := ⟨⟩
  have x2 := eqProcess_ok (xs.getD k prZ) hsk
  refine wkc ?_
  refine ⟨⟨k + 1, by omega⟩, ?_, by simp only; omega⟩
  exact wc [0, 1, 5] []
 ·
  have x1 : HT 6 (.fr [0, 1, 2, 3, 4, 5, 6, 7] (.op [8] (.fr [9] (.stop)))) := ⟨⟩
  exact wk
end Go.Proofs.YtejnpiielcbkkaaGreat.E
end
section
set_option maxRecDepth 100000
set_option maxHeartbeats 4000000
namespace Go.Proofs.YtejnpiielcbkkaaGreat.E
theorem ti36 : ti Tryz.prog 36 = some ⟨.st [(0, 1, false), (1, 1, false), (2, 1, false)], 3, 72, true, [.slice none 0 0, .slice none 0 0, .slice none 0 0]⟩ := by kernel_rfl
theorem ni36 : notInt Tryz.prog 36 = true := by kernel_rfl
theorem ti26 : ti Tryz.prog 26 = some ⟨.st [(0, 1, false), (1, 1, false), (2, 1, false)], 3, 72, true, [.slice none 0 0, .slice none 0 0, .slice none 0 0]⟩ := by kernel_rfl
theorem ni26 : notInt Tryz.prog 26 = true := by kernel_rfl
attribute [go_sem] ti36 ni36 ti26 ni26
structure Prgm where
  nodes : List Node
  monitors : List Monitor
  processes : List Process
def programT (x : Prgm) : List T := [.own 6 (nodesT x.nodes), .own 4 (monitorsT x.monitors), .own 4 (processsT x.processes)]
def programR (x : Prgm) : List T := [.ro 6 (nodesD x.nodes), .ro 4 (monitorsD x.monitors), .ro 4 (processsD x.processes)]
attribute [go_sem] programT programR
def programD (x : Prgm) : List D := [.l 6 (nodesD x.nodes), .l 4 (monitorsD x.monitors), .l 4 (processsD x.processes)]
attribute [go_sem] programD
def programZ : Prgm := ⟨[], [], []⟩
def smProgram (x : Prgm) : Prop := (x.nodes.length ≤ 1048576 ∧ ∀ y ∈ x.nodes, smNode y) ∧ (x.monitors.length ≤ 1048576 ∧ ∀ y ∈ x.monitors, smMonitor y) ∧ (x.processes.length ≤ 1048576 ∧ ∀ y ∈ x.processes, smProcess y)
def mdProgram (x : Prgm) : Prop := (x.nodes.length ≤ 68719476736 ∧ ∀ y ∈ x.nodes, mdNode y) ∧ (x.monitors.length ≤ 68719476736 ∧ ∀ y ∈ x.monitors, mdMonitor y) ∧ (x.processes.length ≤ 68719476736 ∧ ∀ y ∈ x.processes, mdProcess y)
theorem sm_mdProgram {x : Prgm} (h : smProgram x) : mdProgram x := ⟨⟨Nat.le_trans h.1.1 (by omega), fun y hy => sm_mdNode (h.1.2 y hy)⟩, ⟨Nat.le_trans h.2.1.1 (by omega), fun y hy => sm_mdMonitor (h.2.1.2 y hy)⟩, ⟨Nat.le_trans h.2.2.1 (by omega), fun y hy => sm_mdProcess (h.2.2.2 y hy)⟩⟩
theorem eqProgram_ok (x : Prgm) (hs : mdProgram x) : CallOk Tryz.prog 7 [.agg (programR x), .agg (programR x)] (.s (.one (bV true))) [none, none] := by
 obtain ⟨hs0, hs1, hs2⟩ := hs
 refine cOh 40 (hBd Tryz.func7 rfl (by kernel_rfl) ?_)
 simp (disch := omega) only [go_sem, Tryz.ntmps7, Tryz.results7]
 have x1 := @seq_self
 have x2 := @Bool.not_true
 have x3 := eqNodeS_ok x.nodes hs0
 have x4 := eqMonitorS_ok x.monitors hs1
 have x5 := eqProcessS_ok x.processes hs2
 exact wk
end Go.Proofs.YtejnpiielcbkkaaGreat.E
end
