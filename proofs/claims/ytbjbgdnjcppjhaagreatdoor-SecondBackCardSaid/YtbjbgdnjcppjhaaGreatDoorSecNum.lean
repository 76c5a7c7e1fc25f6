/-
  second.none, number[uint64], number[int]: a field over a number, by the cell that its pointer names. Conditions: as each theorem says. By an AI agent.
-/
import Derived.Test.YtbjbgdnjcppjhaaGreatDoorVarText
import Derived.Test.YtbjbgdnjcppjhaaGreatDoorSecQ
import Derived.Laws.EntriesVeiled
import Derived.Test.YtbjbgdnjcppjhaaGreatDoorRegion
namespace Go.Proofs.YtbjbgdnjcppjhaaGreatDoor
open Go.RowKit Go.Sort
set_option linter.unusedVariables false
set_option linter.unusedSimpArgs false

set_option maxHeartbeats 1000000 in
theorem none_any (z : Bool) (s : ByteArray) (w : World) :
    Calls Tryz.prog 100 #[.bool z, .string s] w fun x w' => x = .returned (.string (if z then ⟨#[]⟩ else s)) ∧ w' = w := by
  cases z
  · go_enter Tryz.func100, Tryz.ntmps100
    go_wp2_with fail
    go_ret
    exact ⟨rfl, by first | rfl | trivial⟩
  · go_enter Tryz.func100, Tryz.ntmps100
    go_wp2_with fail
    go_ret
    exact ⟨rfl, by first | rfl | trivial⟩

/-- the box of a pointer -/
def PtrAt (w : World) (c e o : Nat) (t : TypeId) : Prop := w.heap[c]? = some (.cells #[.pointer (some ⟨e, o, none⟩)] t (0, 0))

set_option maxRecDepth 100000 in
set_option maxHeartbeats 1000000 in
theorem numU_make (e o : Nat) (w : World) :
    Calls Tryz.prog 68 #[.pointer (some ⟨e, o, none⟩)] w fun x w' => x = .returned (.agg #[.func (.func 102) #[] #[.pointer (some ⟨w.heap.size, 0, none⟩)], .func (.func 103) #[] #[.pointer (some ⟨w.heap.size, 0, none⟩)]]) ∧ PtrAt w' w.heap.size e o 122 ∧ Below w.heap.size w w' ∧ w.heap.size < w'.heap.size := by
  go_enter Tryz.func68, Tryz.ntmps68
  go_wp2_with fail
  have hz := heap_alloc_new (w.alloc (.cells #[.pointer (some ⟨e, o, none⟩)] 122)) (.cells #[.func (.func 102) #[] #[.pointer (some ⟨w.heap.size, 0, none⟩)], .func (.func 103) #[] #[.pointer (some ⟨w.heap.size, 0, none⟩)]] 117)
  simp only [World.size_alloc] at hz
  refine bodyPost_ret (results_cell_row rfl _ _ (w.heap.size + 1) 117 _ (0, 0) _ rfl hz Tryz.underlying117 rfl (by kernel_rfl)) rfl ?_
  refine ⟨rfl, ?_, ((Below.refl _ _).alloc (Nat.le_refl _) _).alloc (by simp) _, by simp; omega⟩
  unfold PtrAt
  rw [Below.heap_alloc _ _ _ (by simp)]
  exact heap_alloc_new w _

set_option maxRecDepth 100000 in
set_option maxHeartbeats 1000000 in
theorem numI_make (e o : Nat) (w : World) :
    Calls Tryz.prog 67 #[.pointer (some ⟨e, o, none⟩)] w fun x w' => x = .returned (.agg #[.func (.func 99) #[] #[.pointer (some ⟨w.heap.size, 0, none⟩)], .func (.func 101) #[] #[.pointer (some ⟨w.heap.size, 0, none⟩)]]) ∧ PtrAt w' w.heap.size e o 120 ∧ Below w.heap.size w w' ∧ w.heap.size < w'.heap.size := by
  go_enter Tryz.func67, Tryz.ntmps67
  go_wp2_with fail
  have hz := heap_alloc_new (w.alloc (.cells #[.pointer (some ⟨e, o, none⟩)] 120)) (.cells #[.func (.func 99) #[] #[.pointer (some ⟨w.heap.size, 0, none⟩)], .func (.func 101) #[] #[.pointer (some ⟨w.heap.size, 0, none⟩)]] 117)
  simp only [World.size_alloc] at hz
  refine bodyPost_ret (results_cell_row rfl _ _ (w.heap.size + 1) 117 _ (0, 0) _ rfl hz Tryz.underlying117 rfl (by kernel_rfl)) rfl ?_
  refine ⟨rfl, ?_, ((Below.refl _ _).alloc (Nat.le_refl _) _).alloc (by simp) _, by simp; omega⟩
  unfold PtrAt
  rw [Below.heap_alloc _ _ _ (by simp)]
  exact heap_alloc_new w _

set_option maxRecDepth 100000 in
set_option maxHeartbeats 2000000 in
theorem numU_put (c e o n : Nat) (t : TypeId) (hn : n < 18446744073709551616) (w : World) (hp : PtrAt w c e o t) (hcell : w.cell? ⟨e, o, none⟩ = some (.int .u64 n)) :
    Calls Tryz.prog 102 #[.pointer (some ⟨c, 0, none⟩)] w fun x w' => x = .returned (.string ⟨(numL n).toArray⟩) ∧ Below w.heap.size w w' := by
  have hc : w.cell? ⟨c, 0, none⟩ = some (.pointer (some ⟨e, o, none⟩)) := Lib.cell_of_heap hp 0
  have g0 := cell_regrown hc
  have g1 := cell_regrown hcell
  have hput := fun W => put_any n hn W
  have hnone : ∀ W, Calls Tryz.prog 100 #[.bool ((n : Int) == 0), .string ⟨(varL n).toArray⟩] W fun x W' => x = .returned (.string ⟨(numL n).toArray⟩) ∧ W = W' := fun W => (none_any _ _ W).mono fun x w' ⟨h1, h2⟩ => ⟨by
    rw [h1]
    unfold numL
    by_cases h : n = 0
    · subst h; rfl
    · rw [if_neg h, show ((n : Int) == 0) = false from beq_eq_false_iff_ne.2 (by omega)]; rfl, h2.symm⟩
  generalize varL n = v at *
  generalize numL n = r at *
  clear hp
  go_enter Tryz.func102, Tryz.ntmps102
  go_wp2_with fail
  refine wp_region_quiet_below (by kernel_rfl) (by kernel_rfl) ?_
  repeat (go_big_quiet_step (first | (go_at_call 66; exact meetB fun U hb => hput U) | (go_at_call 100; exact meet_same hnone)))
  refine wpQuiet_nil ?_
  intro u hu
  obtain ⟨p, hu⟩ := hu
  have hbu := below_regrown w p.d p.os
  rw [← hu] at hbu
  clear hu g0 g1 hput hnone
  go_wp2_with fail
  go_ret
  exact ⟨rfl, hbu⟩

set_option maxRecDepth 100000 in
set_option maxHeartbeats 2000000 in
theorem numI_put (c e o n : Nat) (t : TypeId) (hn : n ≤ 9223372036854775807) (w : World) (hp : PtrAt w c e o t) (hcell : w.cell? ⟨e, o, none⟩ = some (.int .i64 n)) :
    Calls Tryz.prog 99 #[.pointer (some ⟨c, 0, none⟩)] w fun x w' => x = .returned (.string ⟨(numL n).toArray⟩) ∧ Below w.heap.size w w' := by
  have hc : w.cell? ⟨c, 0, none⟩ = some (.pointer (some ⟨e, o, none⟩)) := Lib.cell_of_heap hp 0
  have g0 := cell_regrown hc
  have g1 := cell_regrown hcell
  have hput := fun W => put_any n (by omega) W
  have hnone : ∀ W, Calls Tryz.prog 100 #[.bool ((n : Int) == 0), .string ⟨(varL n).toArray⟩] W fun x W' => x = .returned (.string ⟨(numL n).toArray⟩) ∧ W = W' := fun W => (none_any _ _ W).mono fun x w' ⟨h1, h2⟩ => ⟨by
    rw [h1]
    unfold numL
    by_cases h : n = 0
    · subst h; rfl
    · rw [if_neg h, show ((n : Int) == 0) = false from beq_eq_false_iff_ne.2 (by omega)]; rfl, h2.symm⟩
  generalize varL n = v at *
  generalize numL n = r at *
  clear hp
  go_enter Tryz.func99, Tryz.ntmps99
  go_wp2_with fail
  refine wp_region_quiet_below (by kernel_rfl) (by kernel_rfl) ?_
  repeat (go_big_quiet_step (first | (go_at_call 66; exact meetB fun U hb => hput U) | (go_at_call 100; exact meet_same hnone)))
  refine wpQuiet_nil ?_
  intro u hu
  obtain ⟨p, hu⟩ := hu
  have hbu := below_regrown w p.d p.os
  rw [← hu] at hbu
  clear hu g0 g1 hput hnone
  go_wp2_with fail
  go_ret
  exact ⟨rfl, hbu⟩

end Go.Proofs.YtbjbgdnjcppjhaaGreatDoor
