/-
  entry.Right over this translation: what it answers of any entry. Condition: the entry's numbers are of their kinds. By an AI agent (the cases printed by wip/genright.py).
-/
import Derived.Test.YtbjbgdnjcppjhaaGreatDoorFit
import Derived.Test.YtbjbgdnjcppjhaaGreatDoorRightF
import Derived.BigQuiet
namespace Go.Proofs.YtbjbgdnjcppjhaaGreatDoor
open Go.RowKit Go.Sort
set_option linter.unusedVariables false
set_option linter.unusedSimpArgs false

/-- the cells of a row of fields -/
def fldsCells : List Fld → List Value
  | [] => []
  | f :: r => .string ⟨#[f.1]⟩ :: .bool f.2.1 :: .bool f.2.2 :: fldsCells r
theorem fldsCells_at : ∀ (l : List Fld) (i : Nat) (h : i < l.length), (fldsCells l)[i * 3]? = some (.string ⟨#[l[i].1]⟩) ∧ (fldsCells l)[i * 3 + 1]? = some (.bool l[i].2.1) ∧ (fldsCells l)[i * 3 + 2]? = some (.bool l[i].2.2)
  | f :: r, 0, _ => ⟨rfl, rfl, rfl⟩
  | f :: r, i + 1, h => by
    have ih := fldsCells_at r i (by simpa using h)
    have e : (i + 1) * 3 = i * 3 + 1 + 1 + 1 := by omega
    simp only [fldsCells, e, List.getElem?_cons_succ, List.getElem_cons_succ]
    exact ih
theorem flds_new (w : World) (l : List Fld) (t : TypeId) : FldsAt (w.alloc (.cells (fldsCells l).toArray t)) w.heap.size l := fun i h => by
  have := fldsCells_at l i h
  simpa using this

theorem emptyB (s : ByteArray) : (!s.toList.isEmpty) = !decide (s.size = 0) := by
  rw [ByteArray.toList_eq]
  have : s.size = s.data.toList.length := rfl
  rw [this]
  cases s.data.toList <;> simp
theorem sizeB (s : ByteArray) : decide ((s.size : Int) ≤ 64) = decide (s.size ≤ 64) := by
  rw [decide_eq_decide]; omega
theorem neB (a b : Int) : (a != b) = !decide (a = b) := by
  rw [Bool.eq_iff_iff]; simp
theorem eqB (a b : Int) : (a == b) = decide (a = b) := by
  rw [Bool.eq_iff_iff]; simp

set_option maxRecDepth 100000 in
set_option maxHeartbeats 4000000 in
theorem right_c1l1 (term index kind client seq block many node level : Int) (data old : ByteArray) (hbl : 0 ≤ block) (hmn : 0 ≤ many) (w : World) (hok : entOk kind = true) (ht : 0 < term) (hi : 0 < index) (hc : 0 < client) (hlv : (level == 1) = true) (r : Bool) (hr0 : fitB (entL kind) [(99, true, true), (98, decide (0 < block), smallB block), (109, decide (0 < many), smallB many), (110, node != 0, nodeB node), (108, level != 0, true), (100, !data.toList.isEmpty, decide ((data.size : Int) ≤ 64)), (111, !old.toList.isEmpty, decide ((old.size : Int) ≤ 64))] = r) :
    Calls Tryz.prog 35 #[.agg #[.int .u64 term, .int .u64 index, .int .i64 kind, .int .u64 client, .int .u64 seq, .int .u64 block, .int .u64 many, .int .i64 node, .int .i64 level, .string data, .string old]] w fun x w' => x = .returned (.bool r) ∧ Below w.heap.size w w' := by
  have hF := fields_any kind
  rw [hok] at hF
  clear hok
  have hr := Lib.hid hr0
  clear hr0
  go_enter Tryz.func35, Tryz.ntmps35
  go_wp2_with fail
  refine (hF _).mono ?_
  rintro e w1 ⟨rfl, hb1⟩
  obtain ⟨hc1, hf1⟩ := bcell hb1
  go_wp2_with fail
  have d0 := cell_regrown (show w1.cell? ⟨w.heap.size, 0, none⟩ = some (.int .u64 term) by rw [hc1 _ _ (by simp)]; simp)
  have d1 := cell_regrown (show w1.cell? ⟨w.heap.size, 1, none⟩ = some (.int .u64 index) by rw [hc1 _ _ (by simp)]; simp)
  have d3 := cell_regrown (show w1.cell? ⟨w.heap.size, 3, none⟩ = some (.int .u64 client) by rw [hc1 _ _ (by simp)]; simp)
  have d4 := cell_regrown (show w1.cell? ⟨w.heap.size, 4, none⟩ = some (.int .u64 seq) by rw [hc1 _ _ (by simp)]; simp)
  have d5 := cell_regrown (show w1.cell? ⟨w.heap.size, 5, none⟩ = some (.int .u64 block) by rw [hc1 _ _ (by simp)]; simp)
  have d6 := cell_regrown (show w1.cell? ⟨w.heap.size, 6, none⟩ = some (.int .u64 many) by rw [hc1 _ _ (by simp)]; simp)
  have d7 := cell_regrown (show w1.cell? ⟨w.heap.size, 7, none⟩ = some (.int .i64 node) by rw [hc1 _ _ (by simp)]; simp)
  have d8 := cell_regrown (show w1.cell? ⟨w.heap.size, 8, none⟩ = some (.int .i64 level) by rw [hc1 _ _ (by simp)]; simp)
  have d9 := cell_regrown (show w1.cell? ⟨w.heap.size, 9, none⟩ = some (.string data) by rw [hc1 _ _ (by simp)]; simp)
  have d10 := cell_regrown (show w1.cell? ⟨w.heap.size, 10, none⟩ = some (.string old) by rw [hc1 _ _ (by simp)]; simp)
  clear hc1 hf1
  refine wp_region_segs 78 (by kernel_rfl) (by rfl) ?_
  simp only [List.append_eq, List.cons_append, List.nil_append]
  refine seg_as w1 0 12 11 66 (R := rightOps) (by kernel_rfl) rightSeg1 ?_ (by rfl)
  simp only [List.drop_zero, List.take_succ_cons, List.take_zero]
  repeat (go_big_quiet_step (fail))
  refine wpQuiet_nil ?_
  intro w2 hw2
  refine any_move (i := 12) (.string ⟨(entL kind).toArray⟩) (by rfl) (by rfl) (by rfl) (by kernel_rfl) (fun _ _ _ h => h) (by rfl) (by rfl) ?_
  simp only [Act.put, List.setIfInBounds_toArray, List.set_cons_zero, List.set_cons_succ]
  refine seg_as w1 13 61 74 4 (R := rightOps) (by kernel_rfl) rightSeg2 ?_ (by rfl) w2 hw2
  simp only [List.drop_succ_cons, List.drop_zero, List.take_succ_cons, List.take_zero]
  repeat (go_big_quiet_step (first | (go_at_call 65; exact meet_same fun W => small_any _ W (by assumption)) | (go_at_call 44; exact meet_same fun W => node_any _ W)))
  refine wpQuiet_nil ?_
  intro w3 hw3
  obtain ⟨p3, hw3⟩ := hw3
  have hb3 := below_regrown w1 p3.d p3.os
  rw [← hw3] at hb3
  clear hw3 d0 d1 d3 d4 d5 d6 d7 d8 d9 d10
  refine tail_at 74 4 (by kernel_rfl) ?_
  simp only [List.drop_succ_cons, List.drop_zero, List.take_succ_cons, List.take_zero]
  go_wp2_with fail
  have hfit := fit_any (entL kind) [(99, true, true), (98, decide (0 < block), smallB block), (109, decide (0 < many), smallB many), (110, node != 0, nodeB node), (108, level != 0, true), (100, !data.toList.isEmpty, decide ((data.size : Int) ≤ 64)), (111, !old.toList.isEmpty, decide ((old.size : Int) ≤ 64))] w3.heap.size 7 _ (flds_new w3 [(99, true, true), (98, decide (0 < block), smallB block), (109, decide (0 < many), smallB many), (110, node != 0, nodeB node), (108, level != 0, true), (100, !data.toList.isEmpty, decide ((data.size : Int) ≤ 64)), (111, !old.toList.isEmpty, decide ((old.size : Int) ≤ 64))] 83) (by simp) (by simp)
  rw [hr.out] at hfit
  refine hfit.mono ?_
  clear hfit
  rintro e w4 ⟨rfl, hb4⟩
  go_wp2_with fail
  refine NoPanic.normal ?_
  go_wp2_with fail
  go_ret
  have hb5 := ((Below.refl w.heap.size w).alloc (Nat.le_refl _) _).trans (hb1.mono (by simp))
  have hb6 := (Below.refl w3.heap.size w3).alloc (Nat.le_refl _) _ |>.trans (hb4.mono (by simp))
  exact ⟨rfl, (hb5.trans (hb3.mono hb5.size)).trans (hb6.mono (hb5.trans (hb3.mono hb5.size)).size)⟩

set_option maxRecDepth 100000 in
set_option maxHeartbeats 4000000 in
theorem right_c1l0 (term index kind client seq block many node level : Int) (data old : ByteArray) (hbl : 0 ≤ block) (hmn : 0 ≤ many) (w : World) (hok : entOk kind = true) (ht : 0 < term) (hi : 0 < index) (hc : 0 < client) (hlv : (level == 1) = false) (r : Bool) (hr0 : fitB (entL kind) [(99, true, true), (98, decide (0 < block), smallB block), (109, decide (0 < many), smallB many), (110, node != 0, nodeB node), (108, level != 0, level == 2), (100, !data.toList.isEmpty, decide ((data.size : Int) ≤ 64)), (111, !old.toList.isEmpty, decide ((old.size : Int) ≤ 64))] = r) :
    Calls Tryz.prog 35 #[.agg #[.int .u64 term, .int .u64 index, .int .i64 kind, .int .u64 client, .int .u64 seq, .int .u64 block, .int .u64 many, .int .i64 node, .int .i64 level, .string data, .string old]] w fun x w' => x = .returned (.bool r) ∧ Below w.heap.size w w' := by
  have hF := fields_any kind
  rw [hok] at hF
  clear hok
  have hr := Lib.hid hr0
  clear hr0
  go_enter Tryz.func35, Tryz.ntmps35
  go_wp2_with fail
  refine (hF _).mono ?_
  rintro e w1 ⟨rfl, hb1⟩
  obtain ⟨hc1, hf1⟩ := bcell hb1
  go_wp2_with fail
  have d0 := cell_regrown (show w1.cell? ⟨w.heap.size, 0, none⟩ = some (.int .u64 term) by rw [hc1 _ _ (by simp)]; simp)
  have d1 := cell_regrown (show w1.cell? ⟨w.heap.size, 1, none⟩ = some (.int .u64 index) by rw [hc1 _ _ (by simp)]; simp)
  have d3 := cell_regrown (show w1.cell? ⟨w.heap.size, 3, none⟩ = some (.int .u64 client) by rw [hc1 _ _ (by simp)]; simp)
  have d4 := cell_regrown (show w1.cell? ⟨w.heap.size, 4, none⟩ = some (.int .u64 seq) by rw [hc1 _ _ (by simp)]; simp)
  have d5 := cell_regrown (show w1.cell? ⟨w.heap.size, 5, none⟩ = some (.int .u64 block) by rw [hc1 _ _ (by simp)]; simp)
  have d6 := cell_regrown (show w1.cell? ⟨w.heap.size, 6, none⟩ = some (.int .u64 many) by rw [hc1 _ _ (by simp)]; simp)
  have d7 := cell_regrown (show w1.cell? ⟨w.heap.size, 7, none⟩ = some (.int .i64 node) by rw [hc1 _ _ (by simp)]; simp)
  have d8 := cell_regrown (show w1.cell? ⟨w.heap.size, 8, none⟩ = some (.int .i64 level) by rw [hc1 _ _ (by simp)]; simp)
  have d9 := cell_regrown (show w1.cell? ⟨w.heap.size, 9, none⟩ = some (.string data) by rw [hc1 _ _ (by simp)]; simp)
  have d10 := cell_regrown (show w1.cell? ⟨w.heap.size, 10, none⟩ = some (.string old) by rw [hc1 _ _ (by simp)]; simp)
  clear hc1 hf1
  refine wp_region_segs 78 (by kernel_rfl) (by rfl) ?_
  simp only [List.append_eq, List.cons_append, List.nil_append]
  refine seg_as w1 0 12 11 66 (R := rightOps) (by kernel_rfl) rightSeg1 ?_ (by rfl)
  simp only [List.drop_zero, List.take_succ_cons, List.take_zero]
  repeat (go_big_quiet_step (fail))
  refine wpQuiet_nil ?_
  intro w2 hw2
  refine any_move (i := 12) (.string ⟨(entL kind).toArray⟩) (by rfl) (by rfl) (by rfl) (by kernel_rfl) (fun _ _ _ h => h) (by rfl) (by rfl) ?_
  simp only [Act.put, List.setIfInBounds_toArray, List.set_cons_zero, List.set_cons_succ]
  refine seg_as w1 13 61 74 4 (R := rightOps) (by kernel_rfl) rightSeg2 ?_ (by rfl) w2 hw2
  simp only [List.drop_succ_cons, List.drop_zero, List.take_succ_cons, List.take_zero]
  repeat (go_big_quiet_step (first | (go_at_call 65; exact meet_same fun W => small_any _ W (by assumption)) | (go_at_call 44; exact meet_same fun W => node_any _ W)))
  refine wpQuiet_nil ?_
  intro w3 hw3
  obtain ⟨p3, hw3⟩ := hw3
  have hb3 := below_regrown w1 p3.d p3.os
  rw [← hw3] at hb3
  clear hw3 d0 d1 d3 d4 d5 d6 d7 d8 d9 d10
  refine tail_at 74 4 (by kernel_rfl) ?_
  simp only [List.drop_succ_cons, List.drop_zero, List.take_succ_cons, List.take_zero]
  go_wp2_with fail
  have hfit := fit_any (entL kind) [(99, true, true), (98, decide (0 < block), smallB block), (109, decide (0 < many), smallB many), (110, node != 0, nodeB node), (108, level != 0, level == 2), (100, !data.toList.isEmpty, decide ((data.size : Int) ≤ 64)), (111, !old.toList.isEmpty, decide ((old.size : Int) ≤ 64))] w3.heap.size 7 _ (flds_new w3 [(99, true, true), (98, decide (0 < block), smallB block), (109, decide (0 < many), smallB many), (110, node != 0, nodeB node), (108, level != 0, level == 2), (100, !data.toList.isEmpty, decide ((data.size : Int) ≤ 64)), (111, !old.toList.isEmpty, decide ((old.size : Int) ≤ 64))] 83) (by simp) (by simp)
  rw [hr.out] at hfit
  refine hfit.mono ?_
  clear hfit
  rintro e w4 ⟨rfl, hb4⟩
  go_wp2_with fail
  refine NoPanic.normal ?_
  go_wp2_with fail
  go_ret
  have hb5 := ((Below.refl w.heap.size w).alloc (Nat.le_refl _) _).trans (hb1.mono (by simp))
  have hb6 := (Below.refl w3.heap.size w3).alloc (Nat.le_refl _) _ |>.trans (hb4.mono (by simp))
  exact ⟨rfl, (hb5.trans (hb3.mono hb5.size)).trans (hb6.mono (hb5.trans (hb3.mono hb5.size)).size)⟩

set_option maxRecDepth 100000 in
set_option maxHeartbeats 4000000 in
theorem right_c0l1 (term index kind client seq block many node level : Int) (data old : ByteArray) (hbl : 0 ≤ block) (hmn : 0 ≤ many) (w : World) (hok : entOk kind = true) (ht : 0 < term) (hi : 0 < index) (hc : decide (0 < client) = false) (hlv : (level == 1) = true) (r : Bool) (hr0 : fitB (entL kind) [(99, decide (0 < seq), false), (98, decide (0 < block), smallB block), (109, decide (0 < many), smallB many), (110, node != 0, nodeB node), (108, level != 0, true), (100, !data.toList.isEmpty, decide ((data.size : Int) ≤ 64)), (111, !old.toList.isEmpty, decide ((old.size : Int) ≤ 64))] = r) :
    Calls Tryz.prog 35 #[.agg #[.int .u64 term, .int .u64 index, .int .i64 kind, .int .u64 client, .int .u64 seq, .int .u64 block, .int .u64 many, .int .i64 node, .int .i64 level, .string data, .string old]] w fun x w' => x = .returned (.bool r) ∧ Below w.heap.size w w' := by
  have hF := fields_any kind
  rw [hok] at hF
  clear hok
  have hr := Lib.hid hr0
  clear hr0
  go_enter Tryz.func35, Tryz.ntmps35
  go_wp2_with fail
  refine (hF _).mono ?_
  rintro e w1 ⟨rfl, hb1⟩
  obtain ⟨hc1, hf1⟩ := bcell hb1
  go_wp2_with fail
  have d0 := cell_regrown (show w1.cell? ⟨w.heap.size, 0, none⟩ = some (.int .u64 term) by rw [hc1 _ _ (by simp)]; simp)
  have d1 := cell_regrown (show w1.cell? ⟨w.heap.size, 1, none⟩ = some (.int .u64 index) by rw [hc1 _ _ (by simp)]; simp)
  have d3 := cell_regrown (show w1.cell? ⟨w.heap.size, 3, none⟩ = some (.int .u64 client) by rw [hc1 _ _ (by simp)]; simp)
  have d4 := cell_regrown (show w1.cell? ⟨w.heap.size, 4, none⟩ = some (.int .u64 seq) by rw [hc1 _ _ (by simp)]; simp)
  have d5 := cell_regrown (show w1.cell? ⟨w.heap.size, 5, none⟩ = some (.int .u64 block) by rw [hc1 _ _ (by simp)]; simp)
  have d6 := cell_regrown (show w1.cell? ⟨w.heap.size, 6, none⟩ = some (.int .u64 many) by rw [hc1 _ _ (by simp)]; simp)
  have d7 := cell_regrown (show w1.cell? ⟨w.heap.size, 7, none⟩ = some (.int .i64 node) by rw [hc1 _ _ (by simp)]; simp)
  have d8 := cell_regrown (show w1.cell? ⟨w.heap.size, 8, none⟩ = some (.int .i64 level) by rw [hc1 _ _ (by simp)]; simp)
  have d9 := cell_regrown (show w1.cell? ⟨w.heap.size, 9, none⟩ = some (.string data) by rw [hc1 _ _ (by simp)]; simp)
  have d10 := cell_regrown (show w1.cell? ⟨w.heap.size, 10, none⟩ = some (.string old) by rw [hc1 _ _ (by simp)]; simp)
  clear hc1 hf1
  refine wp_region_segs 78 (by kernel_rfl) (by rfl) ?_
  simp only [List.append_eq, List.cons_append, List.nil_append]
  refine seg_as w1 0 12 11 66 (R := rightOps) (by kernel_rfl) rightSeg1 ?_ (by rfl)
  simp only [List.drop_zero, List.take_succ_cons, List.take_zero]
  repeat (go_big_quiet_step (fail))
  refine wpQuiet_nil ?_
  intro w2 hw2
  refine any_move (i := 12) (.string ⟨(entL kind).toArray⟩) (by rfl) (by rfl) (by rfl) (by kernel_rfl) (fun _ _ _ h => h) (by rfl) (by rfl) ?_
  simp only [Act.put, List.setIfInBounds_toArray, List.set_cons_zero, List.set_cons_succ]
  refine seg_as w1 13 61 74 4 (R := rightOps) (by kernel_rfl) rightSeg2 ?_ (by rfl) w2 hw2
  simp only [List.drop_succ_cons, List.drop_zero, List.take_succ_cons, List.take_zero]
  repeat (go_big_quiet_step (first | (go_at_call 65; exact meet_same fun W => small_any _ W (by assumption)) | (go_at_call 44; exact meet_same fun W => node_any _ W)))
  refine wpQuiet_nil ?_
  intro w3 hw3
  obtain ⟨p3, hw3⟩ := hw3
  have hb3 := below_regrown w1 p3.d p3.os
  rw [← hw3] at hb3
  clear hw3 d0 d1 d3 d4 d5 d6 d7 d8 d9 d10
  refine tail_at 74 4 (by kernel_rfl) ?_
  simp only [List.drop_succ_cons, List.drop_zero, List.take_succ_cons, List.take_zero]
  go_wp2_with fail
  have hfit := fit_any (entL kind) [(99, decide (0 < seq), false), (98, decide (0 < block), smallB block), (109, decide (0 < many), smallB many), (110, node != 0, nodeB node), (108, level != 0, true), (100, !data.toList.isEmpty, decide ((data.size : Int) ≤ 64)), (111, !old.toList.isEmpty, decide ((old.size : Int) ≤ 64))] w3.heap.size 7 _ (flds_new w3 [(99, decide (0 < seq), false), (98, decide (0 < block), smallB block), (109, decide (0 < many), smallB many), (110, node != 0, nodeB node), (108, level != 0, true), (100, !data.toList.isEmpty, decide ((data.size : Int) ≤ 64)), (111, !old.toList.isEmpty, decide ((old.size : Int) ≤ 64))] 83) (by simp) (by simp)
  rw [hr.out] at hfit
  refine hfit.mono ?_
  clear hfit
  rintro e w4 ⟨rfl, hb4⟩
  go_wp2_with fail
  refine NoPanic.normal ?_
  go_wp2_with fail
  go_ret
  have hb5 := ((Below.refl w.heap.size w).alloc (Nat.le_refl _) _).trans (hb1.mono (by simp))
  have hb6 := (Below.refl w3.heap.size w3).alloc (Nat.le_refl _) _ |>.trans (hb4.mono (by simp))
  exact ⟨rfl, (hb5.trans (hb3.mono hb5.size)).trans (hb6.mono (hb5.trans (hb3.mono hb5.size)).size)⟩

set_option maxRecDepth 100000 in
set_option maxHeartbeats 4000000 in
theorem right_c0l0 (term index kind client seq block many node level : Int) (data old : ByteArray) (hbl : 0 ≤ block) (hmn : 0 ≤ many) (w : World) (hok : entOk kind = true) (ht : 0 < term) (hi : 0 < index) (hc : decide (0 < client) = false) (hlv : (level == 1) = false) (r : Bool) (hr0 : fitB (entL kind) [(99, decide (0 < seq), false), (98, decide (0 < block), smallB block), (109, decide (0 < many), smallB many), (110, node != 0, nodeB node), (108, level != 0, level == 2), (100, !data.toList.isEmpty, decide ((data.size : Int) ≤ 64)), (111, !old.toList.isEmpty, decide ((old.size : Int) ≤ 64))] = r) :
    Calls Tryz.prog 35 #[.agg #[.int .u64 term, .int .u64 index, .int .i64 kind, .int .u64 client, .int .u64 seq, .int .u64 block, .int .u64 many, .int .i64 node, .int .i64 level, .string data, .string old]] w fun x w' => x = .returned (.bool r) ∧ Below w.heap.size w w' := by
  have hF := fields_any kind
  rw [hok] at hF
  clear hok
  have hr := Lib.hid hr0
  clear hr0
  go_enter Tryz.func35, Tryz.ntmps35
  go_wp2_with fail
  refine (hF _).mono ?_
  rintro e w1 ⟨rfl, hb1⟩
  obtain ⟨hc1, hf1⟩ := bcell hb1
  go_wp2_with fail
  have d0 := cell_regrown (show w1.cell? ⟨w.heap.size, 0, none⟩ = some (.int .u64 term) by rw [hc1 _ _ (by simp)]; simp)
  have d1 := cell_regrown (show w1.cell? ⟨w.heap.size, 1, none⟩ = some (.int .u64 index) by rw [hc1 _ _ (by simp)]; simp)
  have d3 := cell_regrown (show w1.cell? ⟨w.heap.size, 3, none⟩ = some (.int .u64 client) by rw [hc1 _ _ (by simp)]; simp)
  have d4 := cell_regrown (show w1.cell? ⟨w.heap.size, 4, none⟩ = some (.int .u64 seq) by rw [hc1 _ _ (by simp)]; simp)
  have d5 := cell_regrown (show w1.cell? ⟨w.heap.size, 5, none⟩ = some (.int .u64 block) by rw [hc1 _ _ (by simp)]; simp)
  have d6 := cell_regrown (show w1.cell? ⟨w.heap.size, 6, none⟩ = some (.int .u64 many) by rw [hc1 _ _ (by simp)]; simp)
  have d7 := cell_regrown (show w1.cell? ⟨w.heap.size, 7, none⟩ = some (.int .i64 node) by rw [hc1 _ _ (by simp)]; simp)
  have d8 := cell_regrown (show w1.cell? ⟨w.heap.size, 8, none⟩ = some (.int .i64 level) by rw [hc1 _ _ (by simp)]; simp)
  have d9 := cell_regrown (show w1.cell? ⟨w.heap.size, 9, none⟩ = some (.string data) by rw [hc1 _ _ (by simp)]; simp)
  have d10 := cell_regrown (show w1.cell? ⟨w.heap.size, 10, none⟩ = some (.string old) by rw [hc1 _ _ (by simp)]; simp)
  clear hc1 hf1
  refine wp_region_segs 78 (by kernel_rfl) (by rfl) ?_
  simp only [List.append_eq, List.cons_append, List.nil_append]
  refine seg_as w1 0 12 11 66 (R := rightOps) (by kernel_rfl) rightSeg1 ?_ (by rfl)
  simp only [List.drop_zero, List.take_succ_cons, List.take_zero]
  repeat (go_big_quiet_step (fail))
  refine wpQuiet_nil ?_
  intro w2 hw2
  refine any_move (i := 12) (.string ⟨(entL kind).toArray⟩) (by rfl) (by rfl) (by rfl) (by kernel_rfl) (fun _ _ _ h => h) (by rfl) (by rfl) ?_
  simp only [Act.put, List.setIfInBounds_toArray, List.set_cons_zero, List.set_cons_succ]
  refine seg_as w1 13 61 74 4 (R := rightOps) (by kernel_rfl) rightSeg2 ?_ (by rfl) w2 hw2
  simp only [List.drop_succ_cons, List.drop_zero, List.take_succ_cons, List.take_zero]
  repeat (go_big_quiet_step (first | (go_at_call 65; exact meet_same fun W => small_any _ W (by assumption)) | (go_at_call 44; exact meet_same fun W => node_any _ W)))
  refine wpQuiet_nil ?_
  intro w3 hw3
  obtain ⟨p3, hw3⟩ := hw3
  have hb3 := below_regrown w1 p3.d p3.os
  rw [← hw3] at hb3
  clear hw3 d0 d1 d3 d4 d5 d6 d7 d8 d9 d10
  refine tail_at 74 4 (by kernel_rfl) ?_
  simp only [List.drop_succ_cons, List.drop_zero, List.take_succ_cons, List.take_zero]
  go_wp2_with fail
  have hfit := fit_any (entL kind) [(99, decide (0 < seq), false), (98, decide (0 < block), smallB block), (109, decide (0 < many), smallB many), (110, node != 0, nodeB node), (108, level != 0, level == 2), (100, !data.toList.isEmpty, decide ((data.size : Int) ≤ 64)), (111, !old.toList.isEmpty, decide ((old.size : Int) ≤ 64))] w3.heap.size 7 _ (flds_new w3 [(99, decide (0 < seq), false), (98, decide (0 < block), smallB block), (109, decide (0 < many), smallB many), (110, node != 0, nodeB node), (108, level != 0, level == 2), (100, !data.toList.isEmpty, decide ((data.size : Int) ≤ 64)), (111, !old.toList.isEmpty, decide ((old.size : Int) ≤ 64))] 83) (by simp) (by simp)
  rw [hr.out] at hfit
  refine hfit.mono ?_
  clear hfit
  rintro e w4 ⟨rfl, hb4⟩
  go_wp2_with fail
  refine NoPanic.normal ?_
  go_wp2_with fail
  go_ret
  have hb5 := ((Below.refl w.heap.size w).alloc (Nat.le_refl _) _).trans (hb1.mono (by simp))
  have hb6 := (Below.refl w3.heap.size w3).alloc (Nat.le_refl _) _ |>.trans (hb4.mono (by simp))
  exact ⟨rfl, (hb5.trans (hb3.mono hb5.size)).trans (hb6.mono (hb5.trans (hb3.mono hb5.size)).size)⟩

set_option maxRecDepth 100000 in
set_option maxHeartbeats 4000000 in
theorem right_no1 (term index kind client seq block many node level : Int) (data old : ByteArray) (hbl : 0 ≤ block) (hmn : 0 ≤ many) (w : World) (hok : entOk kind = false)  :
    Calls Tryz.prog 35 #[.agg #[.int .u64 term, .int .u64 index, .int .i64 kind, .int .u64 client, .int .u64 seq, .int .u64 block, .int .u64 many, .int .i64 node, .int .i64 level, .string data, .string old]] w fun x w' => x = .returned (.bool false) ∧ Below w.heap.size w w' := by
  have hF := fields_any kind
  rw [hok] at hF
  clear hok
  go_enter Tryz.func35, Tryz.ntmps35
  go_wp2_with fail
  refine (hF _).mono ?_
  rintro e w1 ⟨rfl, hb1⟩
  obtain ⟨hc1, hf1⟩ := bcell hb1
  go_wp2_with fail
  have d0 := cell_regrown (show w1.cell? ⟨w.heap.size, 0, none⟩ = some (.int .u64 term) by rw [hc1 _ _ (by simp)]; simp)
  have d1 := cell_regrown (show w1.cell? ⟨w.heap.size, 1, none⟩ = some (.int .u64 index) by rw [hc1 _ _ (by simp)]; simp)
  clear hc1 hf1
  refine wp_region_segs 78 (by kernel_rfl) (by rfl) ?_
  simp only [List.append_eq, List.cons_append, List.nil_append]
  refine seg_as w1 0 78 77 0 (R := rightOps) (by kernel_rfl) rightSeg3 ?_ (by rfl)
  simp only [List.drop_zero, List.take_succ_cons, List.take_zero]
  repeat (go_big_quiet_step (fail))
  refine wpQuiet_nil ?_
  intro w3 hw3
  obtain ⟨p3, hw3⟩ := hw3
  have hb3 := below_regrown w1 p3.d p3.os
  rw [← hw3] at hb3
  clear hw3 d0 d1
  refine wpAny_done (by kernel_rfl) ?_ 0
  refine NoPanic.normal ?_
  go_wp2_with fail
  go_ret
  have hb5 := ((Below.refl w.heap.size w).alloc (Nat.le_refl _) _).trans (hb1.mono (by simp))
  exact ⟨rfl, hb5.trans (hb3.mono hb5.size)⟩

set_option maxRecDepth 100000 in
set_option maxHeartbeats 4000000 in
theorem right_no2 (term index kind client seq block many node level : Int) (data old : ByteArray) (hbl : 0 ≤ block) (hmn : 0 ≤ many) (w : World) (hok : entOk kind = true) (ht : decide (0 < term) = false) :
    Calls Tryz.prog 35 #[.agg #[.int .u64 term, .int .u64 index, .int .i64 kind, .int .u64 client, .int .u64 seq, .int .u64 block, .int .u64 many, .int .i64 node, .int .i64 level, .string data, .string old]] w fun x w' => x = .returned (.bool false) ∧ Below w.heap.size w w' := by
  have hF := fields_any kind
  rw [hok] at hF
  clear hok
  go_enter Tryz.func35, Tryz.ntmps35
  go_wp2_with fail
  refine (hF _).mono ?_
  rintro e w1 ⟨rfl, hb1⟩
  obtain ⟨hc1, hf1⟩ := bcell hb1
  go_wp2_with fail
  have d0 := cell_regrown (show w1.cell? ⟨w.heap.size, 0, none⟩ = some (.int .u64 term) by rw [hc1 _ _ (by simp)]; simp)
  have d1 := cell_regrown (show w1.cell? ⟨w.heap.size, 1, none⟩ = some (.int .u64 index) by rw [hc1 _ _ (by simp)]; simp)
  clear hc1 hf1
  refine wp_region_segs 78 (by kernel_rfl) (by rfl) ?_
  simp only [List.append_eq, List.cons_append, List.nil_append]
  refine seg_as w1 0 78 77 0 (R := rightOps) (by kernel_rfl) rightSeg3 ?_ (by rfl)
  simp only [List.drop_zero, List.take_succ_cons, List.take_zero]
  repeat (go_big_quiet_step (fail))
  refine wpQuiet_nil ?_
  intro w3 hw3
  obtain ⟨p3, hw3⟩ := hw3
  have hb3 := below_regrown w1 p3.d p3.os
  rw [← hw3] at hb3
  clear hw3 d0 d1
  refine wpAny_done (by kernel_rfl) ?_ 0
  refine NoPanic.normal ?_
  go_wp2_with fail
  go_ret
  have hb5 := ((Below.refl w.heap.size w).alloc (Nat.le_refl _) _).trans (hb1.mono (by simp))
  exact ⟨rfl, hb5.trans (hb3.mono hb5.size)⟩

set_option maxRecDepth 100000 in
set_option maxHeartbeats 4000000 in
theorem right_no3 (term index kind client seq block many node level : Int) (data old : ByteArray) (hbl : 0 ≤ block) (hmn : 0 ≤ many) (w : World) (hok : entOk kind = true) (ht : 0 < term) (hi : decide (0 < index) = false) :
    Calls Tryz.prog 35 #[.agg #[.int .u64 term, .int .u64 index, .int .i64 kind, .int .u64 client, .int .u64 seq, .int .u64 block, .int .u64 many, .int .i64 node, .int .i64 level, .string data, .string old]] w fun x w' => x = .returned (.bool false) ∧ Below w.heap.size w w' := by
  have hF := fields_any kind
  rw [hok] at hF
  clear hok
  go_enter Tryz.func35, Tryz.ntmps35
  go_wp2_with fail
  refine (hF _).mono ?_
  rintro e w1 ⟨rfl, hb1⟩
  obtain ⟨hc1, hf1⟩ := bcell hb1
  go_wp2_with fail
  have d0 := cell_regrown (show w1.cell? ⟨w.heap.size, 0, none⟩ = some (.int .u64 term) by rw [hc1 _ _ (by simp)]; simp)
  have d1 := cell_regrown (show w1.cell? ⟨w.heap.size, 1, none⟩ = some (.int .u64 index) by rw [hc1 _ _ (by simp)]; simp)
  clear hc1 hf1
  refine wp_region_segs 78 (by kernel_rfl) (by rfl) ?_
  simp only [List.append_eq, List.cons_append, List.nil_append]
  refine seg_as w1 0 78 77 0 (R := rightOps) (by kernel_rfl) rightSeg3 ?_ (by rfl)
  simp only [List.drop_zero, List.take_succ_cons, List.take_zero]
  repeat (go_big_quiet_step (fail))
  refine wpQuiet_nil ?_
  intro w3 hw3
  obtain ⟨p3, hw3⟩ := hw3
  have hb3 := below_regrown w1 p3.d p3.os
  rw [← hw3] at hb3
  clear hw3 d0 d1
  refine wpAny_done (by kernel_rfl) ?_ 0
  refine NoPanic.normal ?_
  go_wp2_with fail
  go_ret
  have hb5 := ((Below.refl w.heap.size w).alloc (Nat.le_refl _) _).trans (hb1.mono (by simp))
  exact ⟨rfl, hb5.trans (hb3.mono hb5.size)⟩

/-- entry.Right (P4.1) -/
theorem right_any (e : Ent) (h : e.wf) (w : World) : Calls Tryz.prog 35 #[e.val] w fun x w' => x = .returned (.bool (rightB e)) ∧ Below w.heap.size w w' := by
  obtain ⟨term, index, kind, client, seq, block, many, node, level, data, old⟩ := e
  have hbl : 0 ≤ block := h.block.1
  have hmn : 0 ≤ many := h.many.1
  simp only [Ent.val, Ent.cells]
  cases hok : entOk kind
  · have e1 : rightB ⟨term, index, kind, client, seq, block, many, node, level, data, old⟩ = false := by simp [rightB, hok]
    rw [e1]
    exact right_no1 _ _ _ _ _ _ _ _ _ _ _ hbl hmn w hok
  · by_cases ht : 0 < term
    · by_cases hi : 0 < index
      · by_cases hc : 0 < client
        · cases hl : level == 1
          · have hl' : ¬ level = 1 := by simpa using hl
            have e2 : rightB ⟨term, index, kind, client, seq, block, many, node, level, data, old⟩ = fitB (entL kind) [(99, true, true), (98, decide (0 < block), smallB block), (109, decide (0 < many), smallB many), (110, node != 0, nodeB node), (108, level != 0, level == 2), (100, !data.toList.isEmpty, decide ((data.size : Int) ≤ 64)), (111, !old.toList.isEmpty, decide ((old.size : Int) ≤ 64))] := by
              simp only [rightB, Ent.flds, hok, decide_eq_true ht, decide_eq_true hi, decide_eq_true hc, decide_eq_false hl', Bool.true_or, Bool.false_or, Bool.true_and, Bool.and_true, emptyB, sizeB, neB, eqB]
            rw [e2]
            exact right_c1l0 term index kind client seq block many node level data old hbl hmn w hok ht hi hc hl _ rfl
          · have hl' : level = 1 := by simpa using hl
            have e2 : rightB ⟨term, index, kind, client, seq, block, many, node, level, data, old⟩ = fitB (entL kind) [(99, true, true), (98, decide (0 < block), smallB block), (109, decide (0 < many), smallB many), (110, node != 0, nodeB node), (108, level != 0, true), (100, !data.toList.isEmpty, decide ((data.size : Int) ≤ 64)), (111, !old.toList.isEmpty, decide ((old.size : Int) ≤ 64))] := by
              simp only [rightB, Ent.flds, hok, decide_eq_true ht, decide_eq_true hi, decide_eq_true hc, decide_eq_true hl', Bool.true_or, Bool.false_or, Bool.true_and, Bool.and_true, emptyB, sizeB, neB, eqB]
            rw [e2]
            exact right_c1l1 term index kind client seq block many node level data old hbl hmn w hok ht hi hc hl _ rfl
        · cases hl : level == 1
          · have hl' : ¬ level = 1 := by simpa using hl
            have e2 : rightB ⟨term, index, kind, client, seq, block, many, node, level, data, old⟩ = fitB (entL kind) [(99, decide (0 < seq), false), (98, decide (0 < block), smallB block), (109, decide (0 < many), smallB many), (110, node != 0, nodeB node), (108, level != 0, level == 2), (100, !data.toList.isEmpty, decide ((data.size : Int) ≤ 64)), (111, !old.toList.isEmpty, decide ((old.size : Int) ≤ 64))] := by
              simp only [rightB, Ent.flds, hok, decide_eq_true ht, decide_eq_true hi, decide_eq_false hc, decide_eq_false hl', Bool.true_or, Bool.false_or, Bool.true_and, Bool.and_true, emptyB, sizeB, neB, eqB]
            rw [e2]
            exact right_c0l0 term index kind client seq block many node level data old hbl hmn w hok ht hi (decide_eq_false hc) hl _ rfl
          · have hl' : level = 1 := by simpa using hl
            have e2 : rightB ⟨term, index, kind, client, seq, block, many, node, level, data, old⟩ = fitB (entL kind) [(99, decide (0 < seq), false), (98, decide (0 < block), smallB block), (109, decide (0 < many), smallB many), (110, node != 0, nodeB node), (108, level != 0, true), (100, !data.toList.isEmpty, decide ((data.size : Int) ≤ 64)), (111, !old.toList.isEmpty, decide ((old.size : Int) ≤ 64))] := by
              simp only [rightB, Ent.flds, hok, decide_eq_true ht, decide_eq_true hi, decide_eq_false hc, decide_eq_true hl', Bool.true_or, Bool.false_or, Bool.true_and, Bool.and_true, emptyB, sizeB, neB, eqB]
            rw [e2]
            exact right_c0l1 term index kind client seq block many node level data old hbl hmn w hok ht hi (decide_eq_false hc) hl _ rfl
      · have e1 : rightB ⟨term, index, kind, client, seq, block, many, node, level, data, old⟩ = false := by simp [rightB, hi]
        rw [e1]
        exact right_no3 _ _ _ _ _ _ _ _ _ _ _ hbl hmn w hok ht (decide_eq_false hi)
    · have e1 : rightB ⟨term, index, kind, client, seq, block, many, node, level, data, old⟩ = false := by simp [rightB, ht]
      rw [e1]
      exact right_no2 _ _ _ _ _ _ _ _ _ _ _ hbl hmn w hok (decide_eq_false ht)

end Go.Proofs.YtbjbgdnjcppjhaaGreatDoor
