/-
  second.text, second.flag: a field over a text, over a bool: what they answer, and both closures of each. Conditions: as each theorem says. By an AI agent.
-/
import Derived.Test.YtbjbgdnjcppjhaaGreatDoorSecTake
namespace Go.Proofs.YtbjbgdnjcppjhaaGreatDoor
open Go.RowKit Go.Sort
set_option linter.unusedVariables false
set_option linter.unusedSimpArgs false

set_option maxRecDepth 100000 in
set_option maxHeartbeats 1000000 in
theorem text_make (e o : Nat) (w : World) :
    Calls Tryz.prog 69 #[.pointer (some ⟨e, o, none⟩)] w fun x w' => x = .returned (.agg #[.func (.func 104) #[] #[.pointer (some ⟨w.heap.size, 0, none⟩)], .func (.func 106) #[] #[.pointer (some ⟨w.heap.size, 0, none⟩)]]) ∧ PtrAt w' w.heap.size e o 124 ∧ Below w.heap.size w w' ∧ w.heap.size < w'.heap.size := by
  go_enter Tryz.func69, Tryz.ntmps69
  go_wp2_with fail
  have hz := heap_alloc_new (w.alloc (.cells #[.pointer (some ⟨e, o, none⟩)] 124)) (.cells #[.func (.func 104) #[] #[.pointer (some ⟨w.heap.size, 0, none⟩)], .func (.func 106) #[] #[.pointer (some ⟨w.heap.size, 0, none⟩)]] 117)
  simp only [World.size_alloc] at hz
  refine bodyPost_ret (results_cell_row rfl _ _ (w.heap.size + 1) 117 _ (0, 0) _ rfl hz Tryz.underlying117 rfl (by kernel_rfl)) rfl ?_
  refine ⟨rfl, ?_, ((Below.refl _ _).alloc (Nat.le_refl _) _).alloc (by simp) _, by simp; omega⟩
  unfold PtrAt
  rw [Below.heap_alloc _ _ _ (by simp)]
  exact heap_alloc_new w _

set_option maxRecDepth 100000 in
set_option maxHeartbeats 1000000 in
theorem flag_make (e o : Nat) (w : World) :
    Calls Tryz.prog 71 #[.pointer (some ⟨e, o, none⟩)] w fun x w' => x = .returned (.agg #[.func (.func 108) #[] #[.pointer (some ⟨w.heap.size, 0, none⟩)], .func (.func 109) #[] #[.pointer (some ⟨w.heap.size, 0, none⟩)]]) ∧ PtrAt w' w.heap.size e o 128 ∧ Below w.heap.size w w' ∧ w.heap.size < w'.heap.size := by
  go_enter Tryz.func71, Tryz.ntmps71
  go_wp2_with fail
  have hz := heap_alloc_new (w.alloc (.cells #[.pointer (some ⟨e, o, none⟩)] 128)) (.cells #[.func (.func 108) #[] #[.pointer (some ⟨w.heap.size, 0, none⟩)], .func (.func 109) #[] #[.pointer (some ⟨w.heap.size, 0, none⟩)]] 117)
  simp only [World.size_alloc] at hz
  refine bodyPost_ret (results_cell_row rfl _ _ (w.heap.size + 1) 117 _ (0, 0) _ rfl hz Tryz.underlying117 rfl (by kernel_rfl)) rfl ?_
  refine ⟨rfl, ?_, ((Below.refl _ _).alloc (Nat.le_refl _) _).alloc (by simp) _, by simp; omega⟩
  unfold PtrAt
  rw [Below.heap_alloc _ _ _ (by simp)]
  exact heap_alloc_new w _

set_option maxRecDepth 100000 in
set_option maxHeartbeats 2000000 in
theorem text_put (c e o : Nat) (d : List UInt8) (t : TypeId) (hs : d.length ≤ 1099511627776) (w : World) (hp : PtrAt w c e o t) (hcell : w.cell? ⟨e, o, none⟩ = some (.string ⟨d.toArray⟩)) :
    Calls Tryz.prog 104 #[.pointer (some ⟨c, 0, none⟩)] w fun x w' => x = .returned (.string ⟨(textF d).toArray⟩) ∧ Below w.heap.size w w' := by
  have hc : w.cell? ⟨c, 0, none⟩ = some (.pointer (some ⟨e, o, none⟩)) := Lib.cell_of_heap hp 0
  have g0 := cell_regrown hc
  have g1 := cell_regrown hcell
  have hput := fun W => textPut_any d hs W
  have hnone : ∀ W, Calls Tryz.prog 100 #[.bool d.isEmpty, .string ⟨(varL d.length ++ d).toArray⟩] W fun x W' => x = .returned (.string ⟨(textF d).toArray⟩) ∧ W = W' := fun W => (none_any _ _ W).mono fun x w' ⟨h1, h2⟩ => ⟨by
    rw [h1]
    unfold textF
    cases d with
    | nil => rfl
    | cons a l => rw [if_neg (by simp)]; rfl, h2.symm⟩
  generalize varL d.length ++ d = v at *
  generalize textF d = r at *
  clear hp
  go_enter Tryz.func104, Tryz.ntmps104
  go_wp2_with fail
  refine wp_region_quiet_below (by kernel_rfl) (by kernel_rfl) ?_
  repeat (go_big_quiet_step (first | (go_at_call 105; exact meetB fun U hb => hput U) | (go_at_call 100; exact meet_same hnone)))
  refine wpQuiet_nil ?_
  intro u hu
  obtain ⟨p, hu⟩ := hu
  have hbu := below_regrown w p.d p.os
  rw [← hu] at hbu
  clear hu g0 g1 hput hnone
  go_wp2_with fail
  go_ret
  exact ⟨rfl, hbu⟩

set_option maxRecDepth 100000 in
set_option maxHeartbeats 2000000 in
theorem flag_put (c e o : Nat) (b : Bool) (t : TypeId) (w : World) (hp : PtrAt w c e o t) (hcell : w.cell? ⟨e, o, none⟩ = some (.bool b)) :
    Calls Tryz.prog 108 #[.pointer (some ⟨c, 0, none⟩)] w fun x w' => x = .returned (.string ⟨(flagL b).toArray⟩) ∧ Below w.heap.size w w' := by
  have hc : w.cell? ⟨c, 0, none⟩ = some (.pointer (some ⟨e, o, none⟩)) := Lib.cell_of_heap hp 0
  clear hp
  cases b
  · go_enter Tryz.func108, Tryz.ntmps108
    go_wp2_with fail
    refine (none_any true _ _).mono ?_
    rintro x w1 ⟨rfl, rfl⟩
    go_wp2_with fail
    go_ret
    exact ⟨rfl, Below.refl _ _⟩
  · go_enter Tryz.func108, Tryz.ntmps108
    go_wp2_with fail
    refine (none_any false _ _).mono ?_
    rintro x w1 ⟨rfl, rfl⟩
    go_wp2_with fail
    go_ret
    exact ⟨rfl, Below.refl _ _⟩

end Go.Proofs.YtbjbgdnjcppjhaaGreatDoor
