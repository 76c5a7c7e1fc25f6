/-
  first.Put over this translation, by an entry. Conditions: the entry is right and small. By an AI agent.
-/
import Derived.Test.YtbjbgdnjcppjhaaGreatDoorFirPut
namespace Go.Proofs.YtbjbgdnjcppjhaaGreatDoor
open Go.RowKit
set_option linter.unusedVariables false
set_option linter.unusedSimpArgs false

theorem ent_nat (e : Ent) (h : Small e) : e = ⟨(e.term.toNat : Nat), (e.index.toNat : Nat), (e.kind.toNat : Nat), (e.client.toNat : Nat), (e.seq.toNat : Nat), (e.block.toNat : Nat), (e.many.toNat : Nat), (e.node.toNat : Nat), (e.level.toNat : Nat), ⟨e.data.data.toList.toArray⟩, ⟨e.old.data.toList.toArray⟩⟩ := by
  obtain ⟨⟨a0, a1⟩, ⟨b0, b1⟩, ⟨c0, c1⟩, ⟨d0, d1⟩, ⟨e0, e1⟩, ⟨f0, f1⟩, ⟨g0, g1⟩, ⟨i0, i1⟩, ⟨j0, j1⟩, hd, ho⟩ := h
  rw [Int.toNat_of_nonneg (show 0 ≤ e.term by omega), Int.toNat_of_nonneg (show 0 ≤ e.index by omega), Int.toNat_of_nonneg c0, Int.toNat_of_nonneg d0, Int.toNat_of_nonneg e0, Int.toNat_of_nonneg f0, Int.toNat_of_nonneg g0, Int.toNat_of_nonneg i0, Int.toNat_of_nonneg j0]
theorem firstPut_any (e : Ent) (h : Small e) (hr : rightB e = true) (hl : levelI e.kind = 1) (w : World) :
    Calls Tryz.prog 19 #[e.val] w fun x w' => x = .returned (.tuple #[.string ⟨(putF e).toArray⟩, .bool true]) ∧ Below w.heap.size w w' := by
  have he := ent_nat e h
  have hwf := h.wf
  have hk0 := h.kind.1
  rw [he] at hwf hr
  obtain ⟨⟨a0, a1⟩, ⟨b0, b1⟩, ⟨c0, c1⟩, ⟨d0, d1⟩, ⟨e0, e1⟩, ⟨f0, f1⟩, ⟨g0, g1⟩, ⟨i0, i1⟩, ⟨j0, j1⟩, hd, ho⟩ := h
  have hput := firstPut_nat e.term.toNat e.index.toNat e.kind.toNat e.client.toNat e.seq.toNat e.block.toNat e.many.toNat e.node.toNat e.level.toNat e.data.data.toList e.old.data.toList (by omega) (by omega) (by omega) (by omega) (by omega) (by omega) (by omega) (by omega) (by omega) hd hwf hr (by rw [Int.toNat_of_nonneg hk0]; exact hl) w
  have hv : e.val = .agg #[.int .u64 (e.term.toNat : Nat), .int .u64 (e.index.toNat : Nat), .int .i64 (e.kind.toNat : Nat), .int .u64 (e.client.toNat : Nat), .int .u64 (e.seq.toNat : Nat), .int .u64 (e.block.toNat : Nat), .int .u64 (e.many.toNat : Nat), .int .i64 (e.node.toNat : Nat), .int .i64 (e.level.toNat : Nat), .string ⟨e.data.data.toList.toArray⟩, .string ⟨e.old.data.toList.toArray⟩] := by
    conv => lhs; rw [he]
    rfl
  have hp : putF e = fixL 1 e.kind.toNat ++ (([e.term.toNat, e.index.toNat, e.client.toNat, e.seq.toNat].flatMap (fixL 8)) ++ (fixL 4 e.block.toNat ++ (fixL 4 e.many.toNat ++ (([e.node.toNat, e.level.toNat, e.data.data.toList.length].flatMap (fixL 1)) ++ (e.data.data.toList ++ List.replicate (66 - e.data.data.toList.length) 0))))) := by
    have hdl : e.data.data.toList.length = e.data.size := rfl
    rw [hdl]
    simp only [putF, List.flatMap_cons, List.flatMap_nil, List.append_nil, List.append_assoc]
  rw [hv, hp]
  exact hput

set_option maxRecDepth 100000 in
set_option maxHeartbeats 2000000 in
theorem firstPut_two (e : Ent) (h : Small e) (hr : rightB e = true) (hl : levelI e.kind = 2) (w : World) :
    Calls Tryz.prog 19 #[e.val] w fun x w' => x = .returned (.tuple #[.string ⟨#[]⟩, .bool false]) ∧ Below w.heap.size w w' := by
  have hright := fun W => right_any e h.wf W
  have hlevel := fun W => level_any e W
  rw [hr] at hright
  rw [hl] at hlevel
  have hbox := heap_alloc_new w (.cells e.cells EntT)
  clear h hr hl
  obtain ⟨x0, x1, x2, x3, x4, x5, x6, x7, x8, x9, x10⟩ := e
  simp only [Ent.val, Ent.cells] at hright hlevel hbox ⊢
  have HR := Lib.hid hright
  have HL := Lib.hid hlevel
  have HBOX := Lib.hid hbox
  clear hright hlevel hbox
  go_enter Tryz.func19, Tryz.ntmps19
  go_wp2_with fail
  refine (HR.out _).mono ?_
  rintro x w1 ⟨rfl, hb1⟩
  have hbx := (hb1.block w.heap.size (by simp)).trans HBOX.out
  have HB1 := Lib.hid (((Below.refl _ _).alloc (Nat.le_refl _) _).trans (hb1.mono (by simp)) : Below w.heap.size w w1)
  have c0 : w1.cell? ⟨w.heap.size, 0, none⟩ = some (.int .u64 x0) := Lib.cell_of_heap hbx 0
  have c1 : w1.cell? ⟨w.heap.size, 1, none⟩ = some (.int .u64 x1) := Lib.cell_of_heap hbx 1
  have c2 : w1.cell? ⟨w.heap.size, 2, none⟩ = some (.int .i64 x2) := Lib.cell_of_heap hbx 2
  have c3 : w1.cell? ⟨w.heap.size, 3, none⟩ = some (.int .u64 x3) := Lib.cell_of_heap hbx 3
  have c4 : w1.cell? ⟨w.heap.size, 4, none⟩ = some (.int .u64 x4) := Lib.cell_of_heap hbx 4
  have c5 : w1.cell? ⟨w.heap.size, 5, none⟩ = some (.int .u64 x5) := Lib.cell_of_heap hbx 5
  have c6 : w1.cell? ⟨w.heap.size, 6, none⟩ = some (.int .u64 x6) := Lib.cell_of_heap hbx 6
  have c7 : w1.cell? ⟨w.heap.size, 7, none⟩ = some (.int .i64 x7) := Lib.cell_of_heap hbx 7
  have c8 : w1.cell? ⟨w.heap.size, 8, none⟩ = some (.int .i64 x8) := Lib.cell_of_heap hbx 8
  have c9 : w1.cell? ⟨w.heap.size, 9, none⟩ = some (.string x9) := Lib.cell_of_heap hbx 9
  have c10 : w1.cell? ⟨w.heap.size, 10, none⟩ = some (.string x10) := Lib.cell_of_heap hbx 10
  clear hb1 HR hbx
  go_wp2_with fail
  refine (HL.out _).mono ?_
  rintro x w2 ⟨rfl, hb2⟩
  have HB2 := Lib.hid (HB1.out.trans (hb2.mono HB1.out.size) : Below w.heap.size w w2)
  clear hb2 HL c0 c1 c2 c3 c4 c5 c6 c7 c8 c9 c10
  go_wp2_with fail
  go_ret2
  exact ⟨rfl, HB2.out⟩

end Go.Proofs.YtbjbgdnjcppjhaaGreatDoor
