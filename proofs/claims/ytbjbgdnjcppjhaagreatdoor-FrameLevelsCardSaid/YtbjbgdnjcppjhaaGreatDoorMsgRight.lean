/-
  entry.MsgRight over this translation. Condition: the entries' numbers are of their kinds; at most 2^20 entries. By an AI agent (the cases printed by wip/genmsg.py).
-/
import Derived.Test.YtbjbgdnjcppjhaaGreatDoorFuncs
import Derived.Test.YtbjbgdnjcppjhaaGreatDoorMsgRightF
import Derived.BigQuiet
namespace Go.Proofs.YtbjbgdnjcppjhaaGreatDoor
open Go.RowKit Go.Sort
set_option linter.unusedVariables false
set_option linter.unusedSimpArgs false

theorem lenB (n : Nat) : decide (0 < (n : Int)) = decide (0 < n) := by rw [decide_eq_decide]; omega
theorem sizeB2 (s : ByteArray) : decide ((s.size : Int) ≤ 16384) = decide (s.size ≤ 16384) := by rw [decide_eq_decide]; omega

set_option maxRecDepth 100000 in
set_option maxHeartbeats 4000000 in
theorem msgRight_no1 (m : Msg) (sa : Option Addr) (sc : Nat) (w : World) (hok : msgOk m.kind = false) :
    Calls Tryz.prog 13 #[.agg #[.int .i64 m.kind, .int .i64 m.frm, .int .i64 m.to, .int .u64 m.term, .int .u64 m.index, .int .u64 m.prev, .int .u64 m.commit, .int .u64 m.mark, .bool m.ok, .slice sa m.entries.length sc, .string m.snap]] w fun x w' => x = .returned (.bool false) ∧ Below w.heap.size w w' := by
  have hF := msgFields_any m.kind
  rw [hok] at hF
  clear hok
  go_enter Tryz.func13, Tryz.ntmps13
  go_wp2_with fail
  refine (hF _).mono ?_
  rintro e w1 ⟨rfl, hb1⟩
  obtain ⟨hc1, hf1⟩ := bcell hb1
  go_wp2_with fail
  have d0 := cell_regrown (show w1.cell? ⟨w.heap.size, 0, none⟩ = some (.int .i64 m.kind) by rw [hc1 _ _ (by simp)]; simp)
  have d1 := cell_regrown (show w1.cell? ⟨w.heap.size, 1, none⟩ = some (.int .i64 m.frm) by rw [hc1 _ _ (by simp)]; simp)
  have d2 := cell_regrown (show w1.cell? ⟨w.heap.size, 2, none⟩ = some (.int .i64 m.to) by rw [hc1 _ _ (by simp)]; simp)
  have d4 := cell_regrown (show w1.cell? ⟨w.heap.size, 4, none⟩ = some (.int .u64 m.index) by rw [hc1 _ _ (by simp)]; simp)
  have d5 := cell_regrown (show w1.cell? ⟨w.heap.size, 5, none⟩ = some (.int .u64 m.prev) by rw [hc1 _ _ (by simp)]; simp)
  have d6 := cell_regrown (show w1.cell? ⟨w.heap.size, 6, none⟩ = some (.int .u64 m.commit) by rw [hc1 _ _ (by simp)]; simp)
  have d7 := cell_regrown (show w1.cell? ⟨w.heap.size, 7, none⟩ = some (.int .u64 m.mark) by rw [hc1 _ _ (by simp)]; simp)
  have d8 := cell_regrown (show w1.cell? ⟨w.heap.size, 8, none⟩ = some (.bool m.ok) by rw [hc1 _ _ (by simp)]; simp)
  have d9 := cell_regrown (show w1.cell? ⟨w.heap.size, 9, none⟩ = some (.slice sa m.entries.length sc) by rw [hc1 _ _ (by simp)]; simp)
  have d10 := cell_regrown (show w1.cell? ⟨w.heap.size, 10, none⟩ = some (.string m.snap) by rw [hc1 _ _ (by simp)]; simp)
  clear hc1 hf1 hF
  refine wp_region_segs 59 (by kernel_rfl) (by rfl) ?_
  refine seg_as w1 0 59 58 0 (R := msgRightOps) (by kernel_rfl) msgRightSeg3 ?_ (by rfl)
  simp only [List.drop_zero, List.take_succ_cons, List.take_zero]
  repeat (go_big_quiet_step (fail))
  refine wpQuiet_nil ?_
  intro w3 hw3
  obtain ⟨p3, hw3⟩ := hw3
  have hb3 := below_regrown w1 p3.d p3.os
  rw [← hw3] at hb3
  clear hw3 d0 d1 d2 d4 d5 d6 d7 d8 d9 d10
  refine wpAny_done (by kernel_rfl) ?_ 0
  refine NoPanic.normal ?_
  go_wp2_with fail
  go_ret
  have hb5 := ((Below.refl w.heap.size w).alloc (Nat.le_refl _) _).trans (hb1.mono (by simp))
  exact ⟨rfl, hb5.trans (hb3.mono hb5.size)⟩

set_option maxRecDepth 100000 in
set_option maxHeartbeats 4000000 in
theorem msgRight_no2 (m : Msg) (sa : Option Addr) (sc : Nat) (w : World) (hok : msgOk m.kind = true) (hf : nodeB m.frm = false) :
    Calls Tryz.prog 13 #[.agg #[.int .i64 m.kind, .int .i64 m.frm, .int .i64 m.to, .int .u64 m.term, .int .u64 m.index, .int .u64 m.prev, .int .u64 m.commit, .int .u64 m.mark, .bool m.ok, .slice sa m.entries.length sc, .string m.snap]] w fun x w' => x = .returned (.bool false) ∧ Below w.heap.size w w' := by
  have hF := msgFields_any m.kind
  have hnf := fun W => node_any m.frm W
  rw [hf] at hnf
  rw [hok] at hF
  clear hok
  go_enter Tryz.func13, Tryz.ntmps13
  go_wp2_with fail
  refine (hF _).mono ?_
  rintro e w1 ⟨rfl, hb1⟩
  obtain ⟨hc1, hf1⟩ := bcell hb1
  go_wp2_with fail
  have d0 := cell_regrown (show w1.cell? ⟨w.heap.size, 0, none⟩ = some (.int .i64 m.kind) by rw [hc1 _ _ (by simp)]; simp)
  have d1 := cell_regrown (show w1.cell? ⟨w.heap.size, 1, none⟩ = some (.int .i64 m.frm) by rw [hc1 _ _ (by simp)]; simp)
  have d2 := cell_regrown (show w1.cell? ⟨w.heap.size, 2, none⟩ = some (.int .i64 m.to) by rw [hc1 _ _ (by simp)]; simp)
  have d4 := cell_regrown (show w1.cell? ⟨w.heap.size, 4, none⟩ = some (.int .u64 m.index) by rw [hc1 _ _ (by simp)]; simp)
  have d5 := cell_regrown (show w1.cell? ⟨w.heap.size, 5, none⟩ = some (.int .u64 m.prev) by rw [hc1 _ _ (by simp)]; simp)
  have d6 := cell_regrown (show w1.cell? ⟨w.heap.size, 6, none⟩ = some (.int .u64 m.commit) by rw [hc1 _ _ (by simp)]; simp)
  have d7 := cell_regrown (show w1.cell? ⟨w.heap.size, 7, none⟩ = some (.int .u64 m.mark) by rw [hc1 _ _ (by simp)]; simp)
  have d8 := cell_regrown (show w1.cell? ⟨w.heap.size, 8, none⟩ = some (.bool m.ok) by rw [hc1 _ _ (by simp)]; simp)
  have d9 := cell_regrown (show w1.cell? ⟨w.heap.size, 9, none⟩ = some (.slice sa m.entries.length sc) by rw [hc1 _ _ (by simp)]; simp)
  have d10 := cell_regrown (show w1.cell? ⟨w.heap.size, 10, none⟩ = some (.string m.snap) by rw [hc1 _ _ (by simp)]; simp)
  clear hc1 hf1 hF
  refine wp_region_segs 59 (by kernel_rfl) (by rfl) ?_
  refine seg_as w1 0 59 58 0 (R := msgRightOps) (by kernel_rfl) msgRightSeg3 ?_ (by rfl)
  simp only [List.drop_zero, List.take_succ_cons, List.take_zero]
  repeat (go_big_quiet_step ((go_at_call 44; exact meet_same fun W => hnf W)))
  refine wpQuiet_nil ?_
  intro w3 hw3
  obtain ⟨p3, hw3⟩ := hw3
  have hb3 := below_regrown w1 p3.d p3.os
  rw [← hw3] at hb3
  clear hw3 d0 d1 d2 d4 d5 d6 d7 d8 d9 d10
  refine wpAny_done (by kernel_rfl) ?_ 0
  refine NoPanic.normal ?_
  go_wp2_with fail
  go_ret
  have hb5 := ((Below.refl w.heap.size w).alloc (Nat.le_refl _) _).trans (hb1.mono (by simp))
  exact ⟨rfl, hb5.trans (hb3.mono hb5.size)⟩

set_option maxRecDepth 100000 in
set_option maxHeartbeats 4000000 in
theorem msgRight_no3 (m : Msg) (sa : Option Addr) (sc : Nat) (w : World) (hok : msgOk m.kind = true) (hf : nodeB m.frm = true) (ht : nodeB m.to = false) :
    Calls Tryz.prog 13 #[.agg #[.int .i64 m.kind, .int .i64 m.frm, .int .i64 m.to, .int .u64 m.term, .int .u64 m.index, .int .u64 m.prev, .int .u64 m.commit, .int .u64 m.mark, .bool m.ok, .slice sa m.entries.length sc, .string m.snap]] w fun x w' => x = .returned (.bool false) ∧ Below w.heap.size w w' := by
  have hF := msgFields_any m.kind
  have hnf := fun W => node_any m.frm W
  rw [hf] at hnf
  have hnt := fun W => node_any m.to W
  rw [ht] at hnt
  rw [hok] at hF
  clear hok
  go_enter Tryz.func13, Tryz.ntmps13
  go_wp2_with fail
  refine (hF _).mono ?_
  rintro e w1 ⟨rfl, hb1⟩
  obtain ⟨hc1, hf1⟩ := bcell hb1
  go_wp2_with fail
  have d0 := cell_regrown (show w1.cell? ⟨w.heap.size, 0, none⟩ = some (.int .i64 m.kind) by rw [hc1 _ _ (by simp)]; simp)
  have d1 := cell_regrown (show w1.cell? ⟨w.heap.size, 1, none⟩ = some (.int .i64 m.frm) by rw [hc1 _ _ (by simp)]; simp)
  have d2 := cell_regrown (show w1.cell? ⟨w.heap.size, 2, none⟩ = some (.int .i64 m.to) by rw [hc1 _ _ (by simp)]; simp)
  have d4 := cell_regrown (show w1.cell? ⟨w.heap.size, 4, none⟩ = some (.int .u64 m.index) by rw [hc1 _ _ (by simp)]; simp)
  have d5 := cell_regrown (show w1.cell? ⟨w.heap.size, 5, none⟩ = some (.int .u64 m.prev) by rw [hc1 _ _ (by simp)]; simp)
  have d6 := cell_regrown (show w1.cell? ⟨w.heap.size, 6, none⟩ = some (.int .u64 m.commit) by rw [hc1 _ _ (by simp)]; simp)
  have d7 := cell_regrown (show w1.cell? ⟨w.heap.size, 7, none⟩ = some (.int .u64 m.mark) by rw [hc1 _ _ (by simp)]; simp)
  have d8 := cell_regrown (show w1.cell? ⟨w.heap.size, 8, none⟩ = some (.bool m.ok) by rw [hc1 _ _ (by simp)]; simp)
  have d9 := cell_regrown (show w1.cell? ⟨w.heap.size, 9, none⟩ = some (.slice sa m.entries.length sc) by rw [hc1 _ _ (by simp)]; simp)
  have d10 := cell_regrown (show w1.cell? ⟨w.heap.size, 10, none⟩ = some (.string m.snap) by rw [hc1 _ _ (by simp)]; simp)
  clear hc1 hf1 hF
  refine wp_region_segs 59 (by kernel_rfl) (by rfl) ?_
  refine seg_as w1 0 59 58 0 (R := msgRightOps) (by kernel_rfl) msgRightSeg3 ?_ (by rfl)
  simp only [List.drop_zero, List.take_succ_cons, List.take_zero]
  repeat (go_big_quiet_step ((first | (go_at_call 44; with_reducible exact meet_same fun W => hnf W) | (go_at_call 44; exact meet_same fun W => hnt W))))
  refine wpQuiet_nil ?_
  intro w3 hw3
  obtain ⟨p3, hw3⟩ := hw3
  have hb3 := below_regrown w1 p3.d p3.os
  rw [← hw3] at hb3
  clear hw3 d0 d1 d2 d4 d5 d6 d7 d8 d9 d10
  refine wpAny_done (by kernel_rfl) ?_ 0
  refine NoPanic.normal ?_
  go_wp2_with fail
  go_ret
  have hb5 := ((Below.refl w.heap.size w).alloc (Nat.le_refl _) _).trans (hb1.mono (by simp))
  exact ⟨rfl, hb5.trans (hb3.mono hb5.size)⟩

set_option maxRecDepth 100000 in
set_option maxHeartbeats 4000000 in
theorem msgRight_long (m : Msg) (sa : Option Addr) (sc : Nat) (w : World) (hn : m.entries.length ≤ 1048576) (hok : msgOk m.kind = true) (hf : nodeB m.frm = true) (ht : nodeB m.to = true) (h64 : decide ((m.entries.length : Int) ≤ 64) = false) (r : Bool) (hr0 : fitB (msgL m.kind) [(105, decide (0 < m.index), true), (112, decide (0 < m.prev), true), (116, decide (0 < m.commit), true), (107, decide (0 < m.mark), true), (121, m.ok, true), (101, decide (0 < m.entries.length), false), (115, !m.snap.toList.isEmpty, decide ((m.snap.size : Int) ≤ 16384))] = r) :
    Calls Tryz.prog 13 #[.agg #[.int .i64 m.kind, .int .i64 m.frm, .int .i64 m.to, .int .u64 m.term, .int .u64 m.index, .int .u64 m.prev, .int .u64 m.commit, .int .u64 m.mark, .bool m.ok, .slice sa m.entries.length sc, .string m.snap]] w fun x w' => x = .returned (.bool r) ∧ Below w.heap.size w w' := by
  have hF := msgFields_any m.kind
  have hnf := fun W => node_any m.frm W
  rw [hf] at hnf
  have hnt := fun W => node_any m.to W
  rw [ht] at hnt
  have hr := Lib.hid hr0
  clear hr0
  rw [hok] at hF
  clear hok
  go_enter Tryz.func13, Tryz.ntmps13
  go_wp2_with fail
  refine (hF _).mono ?_
  rintro e w1 ⟨rfl, hb1⟩
  obtain ⟨hc1, hf1⟩ := bcell hb1
  go_wp2_with fail
  have d0 := cell_regrown (show w1.cell? ⟨w.heap.size, 0, none⟩ = some (.int .i64 m.kind) by rw [hc1 _ _ (by simp)]; simp)
  have d1 := cell_regrown (show w1.cell? ⟨w.heap.size, 1, none⟩ = some (.int .i64 m.frm) by rw [hc1 _ _ (by simp)]; simp)
  have d2 := cell_regrown (show w1.cell? ⟨w.heap.size, 2, none⟩ = some (.int .i64 m.to) by rw [hc1 _ _ (by simp)]; simp)
  have d4 := cell_regrown (show w1.cell? ⟨w.heap.size, 4, none⟩ = some (.int .u64 m.index) by rw [hc1 _ _ (by simp)]; simp)
  have d5 := cell_regrown (show w1.cell? ⟨w.heap.size, 5, none⟩ = some (.int .u64 m.prev) by rw [hc1 _ _ (by simp)]; simp)
  have d6 := cell_regrown (show w1.cell? ⟨w.heap.size, 6, none⟩ = some (.int .u64 m.commit) by rw [hc1 _ _ (by simp)]; simp)
  have d7 := cell_regrown (show w1.cell? ⟨w.heap.size, 7, none⟩ = some (.int .u64 m.mark) by rw [hc1 _ _ (by simp)]; simp)
  have d8 := cell_regrown (show w1.cell? ⟨w.heap.size, 8, none⟩ = some (.bool m.ok) by rw [hc1 _ _ (by simp)]; simp)
  have d9 := cell_regrown (show w1.cell? ⟨w.heap.size, 9, none⟩ = some (.slice sa m.entries.length sc) by rw [hc1 _ _ (by simp)]; simp)
  have d10 := cell_regrown (show w1.cell? ⟨w.heap.size, 10, none⟩ = some (.string m.snap) by rw [hc1 _ _ (by simp)]; simp)
  clear hc1 hf1 hF
  refine wp_region_segs 59 (by kernel_rfl) (by rfl) ?_
  refine seg_as w1 0 12 11 47 (R := msgRightOps) (by kernel_rfl) msgRightSeg1 ?_ (by rfl)
  simp only [List.drop_zero, List.take_succ_cons, List.take_zero]
  repeat (go_big_quiet_step (first | (go_at_call 44; with_reducible exact meet_same fun W => hnf W) | (go_at_call 44; exact meet_same fun W => hnt W)))
  refine wpQuiet_nil ?_
  intro w2 hw2
  refine any_move (i := 12) (.string ⟨(msgL m.kind).toArray⟩) (by rfl) (by rfl) (by rfl) (by kernel_rfl) (fun _ _ _ h => h) (by rfl) (by rfl) ?_
  simp only [Act.put, List.setIfInBounds_toArray, List.set_cons_zero, List.set_cons_succ]
  refine seg_as w1 13 42 55 4 (R := msgRightOps) (by kernel_rfl) msgRightSeg2 ?_ (by rfl) w2 hw2
  simp only [List.drop_succ_cons, List.drop_zero, List.take_succ_cons, List.take_zero]
  repeat (go_big_quiet_step (fail))
  refine wpQuiet_nil ?_
  intro w3 hw3
  obtain ⟨p3, hw3⟩ := hw3
  have hb3 := below_regrown w1 p3.d p3.os
  rw [← hw3] at hb3
  clear hw3 hw2 d0 d1 d2 d4 d5 d6 d7 d8 d9 d10
  refine tail_at 55 4 (by kernel_rfl) ?_
  simp only [List.drop_succ_cons, List.drop_zero, List.take_succ_cons, List.take_zero]
  go_wp2_with fail
  have hfit := fit_any (msgL m.kind) [(105, decide (0 < m.index), true), (112, decide (0 < m.prev), true), (116, decide (0 < m.commit), true), (107, decide (0 < m.mark), true), (121, m.ok, true), (101, decide (0 < m.entries.length), false), (115, !m.snap.toList.isEmpty, decide ((m.snap.size : Int) ≤ 16384))] w3.heap.size 7 _ (flds_new w3 [(105, decide (0 < m.index), true), (112, decide (0 < m.prev), true), (116, decide (0 < m.commit), true), (107, decide (0 < m.mark), true), (121, m.ok, true), (101, decide (0 < m.entries.length), false), (115, !m.snap.toList.isEmpty, decide ((m.snap.size : Int) ≤ 16384))] 83) (by simp) (by simp)
  rw [hr.out] at hfit
  refine hfit.mono ?_
  clear hfit
  rintro e w4 ⟨rfl, hb4⟩
  go_wp2_with fail
  refine NoPanic.normal ?_
  go_wp2_with fail
  go_ret
  have hb5 := ((Below.refl w.heap.size w).alloc (Nat.le_refl _) _).trans (hb1.mono (by simp))
  have hb6 := (Below.refl w3.heap.size w3).alloc (Nat.le_refl _) _ |>.trans (hb4.mono (by simp))
  exact ⟨rfl, (hb5.trans (hb3.mono hb5.size)).trans (hb6.mono (hb5.trans (hb3.mono hb5.size)).size)⟩

set_option maxRecDepth 100000 in
set_option maxHeartbeats 4000000 in
theorem msgRight_short (m : Msg) (sa : Option Addr) (sc : Nat) (w : World) (hn : m.entries.length ≤ 1048576) (hok : msgOk m.kind = true) (hf : nodeB m.frm = true) (ht : nodeB m.to = true) (h64 : decide ((m.entries.length : Int) ≤ 64) = true) (a : Bool) (hcon : ∀ W, Below w.heap.size w W → Calls Tryz.prog 46 #[.slice sa m.entries.length sc, .func (.func 47) #[] #[]] W fun x w' => x = .returned (.bool a) ∧ Below W.heap.size W w') (r : Bool) (hr0 : fitB (msgL m.kind) [(105, decide (0 < m.index), true), (112, decide (0 < m.prev), true), (116, decide (0 < m.commit), true), (107, decide (0 < m.mark), true), (121, m.ok, true), (101, decide (0 < m.entries.length), !a), (115, !m.snap.toList.isEmpty, decide ((m.snap.size : Int) ≤ 16384))] = r) :
    Calls Tryz.prog 13 #[.agg #[.int .i64 m.kind, .int .i64 m.frm, .int .i64 m.to, .int .u64 m.term, .int .u64 m.index, .int .u64 m.prev, .int .u64 m.commit, .int .u64 m.mark, .bool m.ok, .slice sa m.entries.length sc, .string m.snap]] w fun x w' => x = .returned (.bool r) ∧ Below w.heap.size w w' := by
  have hF := msgFields_any m.kind
  have hnf := fun W => node_any m.frm W
  rw [hf] at hnf
  have hnt := fun W => node_any m.to W
  rw [ht] at hnt
  have hr := Lib.hid hr0
  clear hr0
  rw [hok] at hF
  clear hok
  go_enter Tryz.func13, Tryz.ntmps13
  go_wp2_with fail
  refine (hF _).mono ?_
  rintro e w1 ⟨rfl, hb1⟩
  obtain ⟨hc1, hf1⟩ := bcell hb1
  go_wp2_with fail
  have d0 := cell_regrown (show w1.cell? ⟨w.heap.size, 0, none⟩ = some (.int .i64 m.kind) by rw [hc1 _ _ (by simp)]; simp)
  have d1 := cell_regrown (show w1.cell? ⟨w.heap.size, 1, none⟩ = some (.int .i64 m.frm) by rw [hc1 _ _ (by simp)]; simp)
  have d2 := cell_regrown (show w1.cell? ⟨w.heap.size, 2, none⟩ = some (.int .i64 m.to) by rw [hc1 _ _ (by simp)]; simp)
  have d4 := cell_regrown (show w1.cell? ⟨w.heap.size, 4, none⟩ = some (.int .u64 m.index) by rw [hc1 _ _ (by simp)]; simp)
  have d5 := cell_regrown (show w1.cell? ⟨w.heap.size, 5, none⟩ = some (.int .u64 m.prev) by rw [hc1 _ _ (by simp)]; simp)
  have d6 := cell_regrown (show w1.cell? ⟨w.heap.size, 6, none⟩ = some (.int .u64 m.commit) by rw [hc1 _ _ (by simp)]; simp)
  have d7 := cell_regrown (show w1.cell? ⟨w.heap.size, 7, none⟩ = some (.int .u64 m.mark) by rw [hc1 _ _ (by simp)]; simp)
  have d8 := cell_regrown (show w1.cell? ⟨w.heap.size, 8, none⟩ = some (.bool m.ok) by rw [hc1 _ _ (by simp)]; simp)
  have d9 := cell_regrown (show w1.cell? ⟨w.heap.size, 9, none⟩ = some (.slice sa m.entries.length sc) by rw [hc1 _ _ (by simp)]; simp)
  have d10 := cell_regrown (show w1.cell? ⟨w.heap.size, 10, none⟩ = some (.string m.snap) by rw [hc1 _ _ (by simp)]; simp)
  clear hc1 hf1 hF
  refine wp_region_segs 59 (by kernel_rfl) (by rfl) ?_
  refine seg_as w1 0 12 11 47 (R := msgRightOps) (by kernel_rfl) msgRightSeg1 ?_ (by rfl)
  simp only [List.drop_zero, List.take_succ_cons, List.take_zero]
  repeat (go_big_quiet_step (first | (go_at_call 44; with_reducible exact meet_same fun W => hnf W) | (go_at_call 44; exact meet_same fun W => hnt W)))
  refine wpQuiet_nil ?_
  intro w2 hw2
  refine any_move (i := 12) (.string ⟨(msgL m.kind).toArray⟩) (by rfl) (by rfl) (by rfl) (by kernel_rfl) (fun _ _ _ h => h) (by rfl) (by rfl) ?_
  simp only [Act.put, List.setIfInBounds_toArray, List.set_cons_zero, List.set_cons_succ]
  refine seg_as w1 13 42 55 4 (R := msgRightOps) (by kernel_rfl) msgRightSeg2 ?_ (by rfl) w2 hw2
  simp only [List.drop_succ_cons, List.drop_zero, List.take_succ_cons, List.take_zero]
  repeat (go_big_quiet_step ((go_at_call 46; exact meetB fun W hb => hcon W ((((Below.refl w.heap.size w).alloc (Nat.le_refl _) _).trans (hb1.mono (by simp))).trans (hb.mono (((Below.refl w.heap.size w).alloc (Nat.le_refl _) _).trans (hb1.mono (by simp))).size)))))
  refine wpQuiet_nil ?_
  intro w3 hw3
  obtain ⟨p3, hw3⟩ := hw3
  have hb3 := below_regrown w1 p3.d p3.os
  rw [← hw3] at hb3
  clear hw3 hw2 d0 d1 d2 d4 d5 d6 d7 d8 d9 d10
  refine tail_at 55 4 (by kernel_rfl) ?_
  simp only [List.drop_succ_cons, List.drop_zero, List.take_succ_cons, List.take_zero]
  go_wp2_with fail
  have hfit := fit_any (msgL m.kind) [(105, decide (0 < m.index), true), (112, decide (0 < m.prev), true), (116, decide (0 < m.commit), true), (107, decide (0 < m.mark), true), (121, m.ok, true), (101, decide (0 < m.entries.length), !a), (115, !m.snap.toList.isEmpty, decide ((m.snap.size : Int) ≤ 16384))] w3.heap.size 7 _ (flds_new w3 [(105, decide (0 < m.index), true), (112, decide (0 < m.prev), true), (116, decide (0 < m.commit), true), (107, decide (0 < m.mark), true), (121, m.ok, true), (101, decide (0 < m.entries.length), !a), (115, !m.snap.toList.isEmpty, decide ((m.snap.size : Int) ≤ 16384))] 83) (by simp) (by simp)
  rw [hr.out] at hfit
  refine hfit.mono ?_
  clear hfit
  rintro e w4 ⟨rfl, hb4⟩
  go_wp2_with fail
  refine NoPanic.normal ?_
  go_wp2_with fail
  go_ret
  have hb5 := ((Below.refl w.heap.size w).alloc (Nat.le_refl _) _).trans (hb1.mono (by simp))
  have hb6 := (Below.refl w3.heap.size w3).alloc (Nat.le_refl _) _ |>.trans (hb4.mono (by simp))
  exact ⟨rfl, (hb5.trans (hb3.mono hb5.size)).trans (hb6.mono (hb5.trans (hb3.mono hb5.size)).size)⟩

theorem allB (l : List Ent) : l.all rightB = !(l.any fun e => !rightB e) := by
  induction l with
  | nil => rfl
  | cons x r ih => simp only [List.all_cons, List.any_cons, ih, Bool.not_or, Bool.not_not]

/-- entry.MsgRight (P4.2) -/
theorem msgRight_any (m : Msg) (s : Value) (he : ∀ e ∈ m.entries, e.wf) (hn : m.entries.length ≤ 1048576) (w : World) (hs : EntsAt w s m.entries) :
    Calls Tryz.prog 13 #[.agg (m.cells s)] w fun x w' => x = .returned (.bool (msgRightB m)) ∧ Below w.heap.size w w' := by
  obtain ⟨sa, sc, hs1, _⟩ := id hs
  simp only [Msg.cells]
  rw [hs1]
  cases hok : msgOk m.kind
  · rw [show msgRightB m = false by simp [msgRightB, hok]]
    exact msgRight_no1 m sa sc w hok
  · cases hf : nodeB m.frm
    · rw [show msgRightB m = false by simp [msgRightB, hf]]
      exact msgRight_no2 m sa sc w hok hf
    · cases ht : nodeB m.to
      · rw [show msgRightB m = false by simp [msgRightB, ht]]
        exact msgRight_no3 m sa sc w hok hf ht
      · by_cases h64 : m.entries.length ≤ 64
        · refine msgRight_short m sa sc w hn hok hf ht (decide_eq_true (by omega)) (m.entries.any fun e => !rightB e) (fun W hb => hs1 ▸ containsEnt_any _ (fun e => !rightB e) m.entries s wrong_enters (fun e h W => wrong_any e (he e h) W) hn W (hs.below hb)) _ ?_
          unfold msgRightB Msg.flds
          rw [hok, hf, ht, allB, show decide (m.entries.length ≤ 64) = true from decide_eq_true h64, emptyB, sizeB2]
          rfl
        · refine msgRight_long m sa sc w hn hok hf ht (decide_eq_false (by omega)) _ ?_
          unfold msgRightB Msg.flds
          rw [hok, hf, ht, show decide (m.entries.length ≤ 64) = false from decide_eq_false h64, emptyB, sizeB2]
          rfl

end Go.Proofs.YtbjbgdnjcppjhaaGreatDoor
