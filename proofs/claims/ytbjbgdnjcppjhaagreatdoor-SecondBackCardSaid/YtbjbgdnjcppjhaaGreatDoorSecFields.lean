/-
  second.fields: the list of the fields of an entry, over the block that they name. No condition. (Printed by wip/genfields.py.) By an AI agent.
-/
import Derived.Test.YtbjbgdnjcppjhaaGreatDoorSecText
import Derived.Test.YtbjbgdnjcppjhaaGreatDoorHeld
namespace Go.Proofs.YtbjbgdnjcppjhaaGreatDoor
open Go.RowKit Go.Sort
set_option linter.unusedVariables false
set_option linter.unusedSimpArgs false

/-- a kind of field: how it is put, how it is taken, what its box is -/
abbrev FK := FuncId × FuncId × TypeId
def fk_numU : FK := (102, 103, 122)
def fk_numI : FK := (99, 101, 120)
def fk_text : FK := (104, 106, 124)
def fk_flag : FK := (108, 109, 128)
def fk_ents : FK := (110, 111, 130)
def entKs : List (FK × Nat) := [(fk_numI, 2), (fk_numU, 0), (fk_numU, 1), (fk_numU, 3), (fk_numU, 4), (fk_numU, 5), (fk_numU, 6), (fk_numI, 7), (fk_numI, 8), (fk_text, 9), (fk_text, 10)]
def entK (k : Nat) : FK × Nat := entKs.getD k (fk_numI, 0)
def msgKs : List (FK × Nat) := [(fk_numI, 0), (fk_numI, 1), (fk_numI, 2), (fk_numU, 3), (fk_numU, 4), (fk_numU, 5), (fk_numU, 6), (fk_numU, 7), (fk_flag, 8), (fk_text, 10), (fk_ents, 9)]
def msgK (k : Nat) : FK × Nat := msgKs.getD k (fk_numI, 0)
/-- the fields' list lies in the block L; their boxes, from base on, name the block e -/
structure TagsAt (w : World) (L base e : Nat) (K : Nat → FK × Nat) (C : Nat → Nat) : Prop where
  put : ∀ k, k < 11 → w.cell? ⟨L, k * 2, none⟩ = some (.func (.func (K k).1.1) #[] #[.pointer (some ⟨C k, 0, none⟩)])
  take : ∀ k, k < 11 → w.cell? ⟨L, k * 2 + 1, none⟩ = some (.func (.func (K k).1.2.1) #[] #[.pointer (some ⟨C k, 0, none⟩)])
  ptr : ∀ k, k < 11 → PtrAt w (C k) e (K k).2 (K k).1.2.2
  box : ∀ k, k < 11 → base ≤ C k ∧ C k < w.heap.size
  list : base ≤ L ∧ L < w.heap.size
theorem PtrAt.below {w w' : World} {c e o : Nat} {t : TypeId} (h : PtrAt w c e o t) (hb : Below w.heap.size w w') : PtrAt w' c e o t := (hb.block c (Array.getElem?_eq_some_iff.1 h).1).trans h


set_option maxRecDepth 100000 in
set_option maxHeartbeats 8000000 in
theorem sec_fields_any (e : Nat) (w : World) : Calls Tryz.prog 37 #[.pointer (some ⟨e, 0, none⟩)] w fun x w' => ∃ L C, x = .returned (.slice (some ⟨L, 0, none⟩) 11 11) ∧ TagsAt w' L w.heap.size e entK C ∧ Below w.heap.size w w' := by
  go_enter Tryz.func37, Tryz.ntmps37
  go_wp2_with fail
  refine region_D (fun _ => True) [] 46 (by kernel_rfl) (by rfl) ?_
  refine takeD (i := 0) (v := .pointer (some ⟨e, 0, none⟩)) (by rfl) (by kernel_rfl) (fun _ _ _ h => h) (by rfl) (fun u hu => by go_simp) trivial ?_
  simp only [Act.put, List.setIfInBounds_toArray, List.set_cons_zero, List.set_cons_succ]
  refine takeD (i := 1) (v := .pointer (some ⟨e, 0, none⟩)) (by rfl) (by kernel_rfl) (fun _ _ _ h => h) (by rfl) (fun u hu => by go_simp) trivial ?_
  simp only [Act.put, List.setIfInBounds_toArray, List.set_cons_zero, List.set_cons_succ]
  refine takeD (i := 2) (v := .pointer (some ⟨e, 2, none⟩)) (by rfl) (by kernel_rfl) (fun _ _ _ h => h) (by rfl) (fun u hu => by go_simp) trivial ?_
  simp only [Act.put, List.setIfInBounds_toArray, List.set_cons_zero, List.set_cons_succ]
  refine takeD (i := 4) (v := .pointer (some ⟨e, 0, none⟩)) (by rfl) (by kernel_rfl) (fun _ _ _ h => h) (by rfl) (fun u hu => by go_simp) trivial ?_
  simp only [Act.put, List.setIfInBounds_toArray, List.set_cons_zero, List.set_cons_succ]
  refine takeD (i := 5) (v := .pointer (some ⟨e, 0, none⟩)) (by rfl) (by kernel_rfl) (fun _ _ _ h => h) (by rfl) (fun u hu => by go_simp) trivial ?_
  simp only [Act.put, List.setIfInBounds_toArray, List.set_cons_zero, List.set_cons_succ]
  refine takeD (i := 6) (v := .pointer (some ⟨e, 0, none⟩)) (by rfl) (by kernel_rfl) (fun _ _ _ h => h) (by rfl) (fun u hu => by go_simp) trivial ?_
  simp only [Act.put, List.setIfInBounds_toArray, List.set_cons_zero, List.set_cons_succ]
  refine takeD (i := 8) (v := .pointer (some ⟨e, 0, none⟩)) (by rfl) (by kernel_rfl) (fun _ _ _ h => h) (by rfl) (fun u hu => by go_simp) trivial ?_
  simp only [Act.put, List.setIfInBounds_toArray, List.set_cons_zero, List.set_cons_succ]
  refine takeD (i := 9) (v := .pointer (some ⟨e, 0, none⟩)) (by rfl) (by kernel_rfl) (fun _ _ _ h => h) (by rfl) (fun u hu => by go_simp) trivial ?_
  simp only [Act.put, List.setIfInBounds_toArray, List.set_cons_zero, List.set_cons_succ]
  refine takeD (i := 10) (v := .pointer (some ⟨e, 1, none⟩)) (by rfl) (by kernel_rfl) (fun _ _ _ h => h) (by rfl) (fun u hu => by go_simp) trivial ?_
  simp only [Act.put, List.setIfInBounds_toArray, List.set_cons_zero, List.set_cons_succ]
  refine takeD (i := 12) (v := .pointer (some ⟨e, 0, none⟩)) (by rfl) (by kernel_rfl) (fun _ _ _ h => h) (by rfl) (fun u hu => by go_simp) trivial ?_
  simp only [Act.put, List.setIfInBounds_toArray, List.set_cons_zero, List.set_cons_succ]
  refine takeD (i := 13) (v := .pointer (some ⟨e, 0, none⟩)) (by rfl) (by kernel_rfl) (fun _ _ _ h => h) (by rfl) (fun u hu => by go_simp) trivial ?_
  simp only [Act.put, List.setIfInBounds_toArray, List.set_cons_zero, List.set_cons_succ]
  refine takeD (i := 14) (v := .pointer (some ⟨e, 3, none⟩)) (by rfl) (by kernel_rfl) (fun _ _ _ h => h) (by rfl) (fun u hu => by go_simp) trivial ?_
  simp only [Act.put, List.setIfInBounds_toArray, List.set_cons_zero, List.set_cons_succ]
  refine takeD (i := 16) (v := .pointer (some ⟨e, 0, none⟩)) (by rfl) (by kernel_rfl) (fun _ _ _ h => h) (by rfl) (fun u hu => by go_simp) trivial ?_
  simp only [Act.put, List.setIfInBounds_toArray, List.set_cons_zero, List.set_cons_succ]
  refine takeD (i := 17) (v := .pointer (some ⟨e, 0, none⟩)) (by rfl) (by kernel_rfl) (fun _ _ _ h => h) (by rfl) (fun u hu => by go_simp) trivial ?_
  simp only [Act.put, List.setIfInBounds_toArray, List.set_cons_zero, List.set_cons_succ]
  refine takeD (i := 18) (v := .pointer (some ⟨e, 4, none⟩)) (by rfl) (by kernel_rfl) (fun _ _ _ h => h) (by rfl) (fun u hu => by go_simp) trivial ?_
  simp only [Act.put, List.setIfInBounds_toArray, List.set_cons_zero, List.set_cons_succ]
  refine takeD (i := 20) (v := .pointer (some ⟨e, 0, none⟩)) (by rfl) (by kernel_rfl) (fun _ _ _ h => h) (by rfl) (fun u hu => by go_simp) trivial ?_
  simp only [Act.put, List.setIfInBounds_toArray, List.set_cons_zero, List.set_cons_succ]
  refine takeD (i := 21) (v := .pointer (some ⟨e, 0, none⟩)) (by rfl) (by kernel_rfl) (fun _ _ _ h => h) (by rfl) (fun u hu => by go_simp) trivial ?_
  simp only [Act.put, List.setIfInBounds_toArray, List.set_cons_zero, List.set_cons_succ]
  refine takeD (i := 22) (v := .pointer (some ⟨e, 5, none⟩)) (by rfl) (by kernel_rfl) (fun _ _ _ h => h) (by rfl) (fun u hu => by go_simp) trivial ?_
  simp only [Act.put, List.setIfInBounds_toArray, List.set_cons_zero, List.set_cons_succ]
  refine takeD (i := 24) (v := .pointer (some ⟨e, 0, none⟩)) (by rfl) (by kernel_rfl) (fun _ _ _ h => h) (by rfl) (fun u hu => by go_simp) trivial ?_
  simp only [Act.put, List.setIfInBounds_toArray, List.set_cons_zero, List.set_cons_succ]
  refine takeD (i := 25) (v := .pointer (some ⟨e, 0, none⟩)) (by rfl) (by kernel_rfl) (fun _ _ _ h => h) (by rfl) (fun u hu => by go_simp) trivial ?_
  simp only [Act.put, List.setIfInBounds_toArray, List.set_cons_zero, List.set_cons_succ]
  refine takeD (i := 26) (v := .pointer (some ⟨e, 6, none⟩)) (by rfl) (by kernel_rfl) (fun _ _ _ h => h) (by rfl) (fun u hu => by go_simp) trivial ?_
  simp only [Act.put, List.setIfInBounds_toArray, List.set_cons_zero, List.set_cons_succ]
  refine takeD (i := 28) (v := .pointer (some ⟨e, 0, none⟩)) (by rfl) (by kernel_rfl) (fun _ _ _ h => h) (by rfl) (fun u hu => by go_simp) trivial ?_
  simp only [Act.put, List.setIfInBounds_toArray, List.set_cons_zero, List.set_cons_succ]
  refine takeD (i := 29) (v := .pointer (some ⟨e, 0, none⟩)) (by rfl) (by kernel_rfl) (fun _ _ _ h => h) (by rfl) (fun u hu => by go_simp) trivial ?_
  simp only [Act.put, List.setIfInBounds_toArray, List.set_cons_zero, List.set_cons_succ]
  refine takeD (i := 30) (v := .pointer (some ⟨e, 7, none⟩)) (by rfl) (by kernel_rfl) (fun _ _ _ h => h) (by rfl) (fun u hu => by go_simp) trivial ?_
  simp only [Act.put, List.setIfInBounds_toArray, List.set_cons_zero, List.set_cons_succ]
  refine takeD (i := 32) (v := .pointer (some ⟨e, 0, none⟩)) (by rfl) (by kernel_rfl) (fun _ _ _ h => h) (by rfl) (fun u hu => by go_simp) trivial ?_
  simp only [Act.put, List.setIfInBounds_toArray, List.set_cons_zero, List.set_cons_succ]
  refine takeD (i := 33) (v := .pointer (some ⟨e, 0, none⟩)) (by rfl) (by kernel_rfl) (fun _ _ _ h => h) (by rfl) (fun u hu => by go_simp) trivial ?_
  simp only [Act.put, List.setIfInBounds_toArray, List.set_cons_zero, List.set_cons_succ]
  refine takeD (i := 34) (v := .pointer (some ⟨e, 8, none⟩)) (by rfl) (by kernel_rfl) (fun _ _ _ h => h) (by rfl) (fun u hu => by go_simp) trivial ?_
  simp only [Act.put, List.setIfInBounds_toArray, List.set_cons_zero, List.set_cons_succ]
  refine takeD (i := 36) (v := .pointer (some ⟨e, 0, none⟩)) (by rfl) (by kernel_rfl) (fun _ _ _ h => h) (by rfl) (fun u hu => by go_simp) trivial ?_
  simp only [Act.put, List.setIfInBounds_toArray, List.set_cons_zero, List.set_cons_succ]
  refine takeD (i := 37) (v := .pointer (some ⟨e, 0, none⟩)) (by rfl) (by kernel_rfl) (fun _ _ _ h => h) (by rfl) (fun u hu => by go_simp) trivial ?_
  simp only [Act.put, List.setIfInBounds_toArray, List.set_cons_zero, List.set_cons_succ]
  refine takeD (i := 38) (v := .pointer (some ⟨e, 9, none⟩)) (by rfl) (by kernel_rfl) (fun _ _ _ h => h) (by rfl) (fun u hu => by go_simp) trivial ?_
  simp only [Act.put, List.setIfInBounds_toArray, List.set_cons_zero, List.set_cons_succ]
  refine takeD (i := 40) (v := .pointer (some ⟨e, 0, none⟩)) (by rfl) (by kernel_rfl) (fun _ _ _ h => h) (by rfl) (fun u hu => by go_simp) trivial ?_
  simp only [Act.put, List.setIfInBounds_toArray, List.set_cons_zero, List.set_cons_succ]
  refine takeD (i := 41) (v := .pointer (some ⟨e, 0, none⟩)) (by rfl) (by kernel_rfl) (fun _ _ _ h => h) (by rfl) (fun u hu => by go_simp) trivial ?_
  simp only [Act.put, List.setIfInBounds_toArray, List.set_cons_zero, List.set_cons_succ]
  refine takeD (i := 42) (v := .pointer (some ⟨e, 10, none⟩)) (by rfl) (by kernel_rfl) (fun _ _ _ h => h) (by rfl) (fun u hu => by go_simp) trivial ?_
  simp only [Act.put, List.setIfInBounds_toArray, List.set_cons_zero, List.set_cons_succ]
  refine oneD (i := 3) (by rfl) (by kernel_rfl) (by rfl) ?_
  go_simp
  refine (numI_make e 2 _).mono ?_
  rintro _ u1 ⟨rfl, p0, b0, l0⟩
  try simp only [Act.put, List.setIfInBounds_toArray, List.set_cons_zero, List.set_cons_succ]
  refine oneD (i := 7) (by rfl) (by kernel_rfl) (by rfl) ?_
  go_simp
  refine (numU_make e 0 _).mono ?_
  rintro _ u2 ⟨rfl, p1, b1, l1⟩
  try simp only [Act.put, List.setIfInBounds_toArray, List.set_cons_zero, List.set_cons_succ]
  refine oneD (i := 11) (by rfl) (by kernel_rfl) (by rfl) ?_
  go_simp
  refine (numU_make e 1 _).mono ?_
  rintro _ u3 ⟨rfl, p2, b2, l2⟩
  try simp only [Act.put, List.setIfInBounds_toArray, List.set_cons_zero, List.set_cons_succ]
  refine oneD (i := 15) (by rfl) (by kernel_rfl) (by rfl) ?_
  go_simp
  refine (numU_make e 3 _).mono ?_
  rintro _ u4 ⟨rfl, p3, b3, l3⟩
  try simp only [Act.put, List.setIfInBounds_toArray, List.set_cons_zero, List.set_cons_succ]
  refine oneD (i := 19) (by rfl) (by kernel_rfl) (by rfl) ?_
  go_simp
  refine (numU_make e 4 _).mono ?_
  rintro _ u5 ⟨rfl, p4, b4, l4⟩
  try simp only [Act.put, List.setIfInBounds_toArray, List.set_cons_zero, List.set_cons_succ]
  refine oneD (i := 23) (by rfl) (by kernel_rfl) (by rfl) ?_
  go_simp
  refine (numU_make e 5 _).mono ?_
  rintro _ u6 ⟨rfl, p5, b5, l5⟩
  try simp only [Act.put, List.setIfInBounds_toArray, List.set_cons_zero, List.set_cons_succ]
  refine oneD (i := 27) (by rfl) (by kernel_rfl) (by rfl) ?_
  go_simp
  refine (numU_make e 6 _).mono ?_
  rintro _ u7 ⟨rfl, p6, b6, l6⟩
  try simp only [Act.put, List.setIfInBounds_toArray, List.set_cons_zero, List.set_cons_succ]
  refine oneD (i := 31) (by rfl) (by kernel_rfl) (by rfl) ?_
  go_simp
  refine (numI_make e 7 _).mono ?_
  rintro _ u8 ⟨rfl, p7, b7, l7⟩
  try simp only [Act.put, List.setIfInBounds_toArray, List.set_cons_zero, List.set_cons_succ]
  refine oneD (i := 35) (by rfl) (by kernel_rfl) (by rfl) ?_
  go_simp
  refine (numI_make e 8 _).mono ?_
  rintro _ u9 ⟨rfl, p8, b8, l8⟩
  try simp only [Act.put, List.setIfInBounds_toArray, List.set_cons_zero, List.set_cons_succ]
  refine oneD (i := 39) (by rfl) (by kernel_rfl) (by rfl) ?_
  go_simp
  refine (text_make e 9 _).mono ?_
  rintro _ u10 ⟨rfl, p9, b9, l9⟩
  try simp only [Act.put, List.setIfInBounds_toArray, List.set_cons_zero, List.set_cons_succ]
  refine oneD (i := 43) (by rfl) (by kernel_rfl) (by rfl) ?_
  go_simp
  refine (text_make e 10 _).mono ?_
  rintro _ u11 ⟨rfl, p10, b10, l10⟩
  try simp only [Act.put, List.setIfInBounds_toArray, List.set_cons_zero, List.set_cons_succ]
  refine oneD (i := 44) (by rfl) (by kernel_rfl) (by rfl) ?_
  go_simp
  try simp only [Act.put, List.setIfInBounds_toArray, List.set_cons_zero, List.set_cons_succ]
  refine oneD (i := 45) (by rfl) (by kernel_rfl) (by rfl) ?_
  go_simp
  refine ⟨by kernel_rfl, NoPanic.normal ?_⟩
  try simp only [Act.put, List.setIfInBounds_toArray, List.set_cons_zero, List.set_cons_succ]
  have hz := heap_alloc_new u11 (.cells #[.func (.func 99) #[] #[.pointer (some ⟨w.heap.size, 0, none⟩)], .func (.func 101) #[] #[.pointer (some ⟨w.heap.size, 0, none⟩)], .func (.func 102) #[] #[.pointer (some ⟨u1.heap.size, 0, none⟩)], .func (.func 103) #[] #[.pointer (some ⟨u1.heap.size, 0, none⟩)], .func (.func 102) #[] #[.pointer (some ⟨u2.heap.size, 0, none⟩)], .func (.func 103) #[] #[.pointer (some ⟨u2.heap.size, 0, none⟩)], .func (.func 102) #[] #[.pointer (some ⟨u3.heap.size, 0, none⟩)], .func (.func 103) #[] #[.pointer (some ⟨u3.heap.size, 0, none⟩)], .func (.func 102) #[] #[.pointer (some ⟨u4.heap.size, 0, none⟩)], .func (.func 103) #[] #[.pointer (some ⟨u4.heap.size, 0, none⟩)], .func (.func 102) #[] #[.pointer (some ⟨u5.heap.size, 0, none⟩)], .func (.func 103) #[] #[.pointer (some ⟨u5.heap.size, 0, none⟩)], .func (.func 102) #[] #[.pointer (some ⟨u6.heap.size, 0, none⟩)], .func (.func 103) #[] #[.pointer (some ⟨u6.heap.size, 0, none⟩)], .func (.func 99) #[] #[.pointer (some ⟨u7.heap.size, 0, none⟩)], .func (.func 101) #[] #[.pointer (some ⟨u7.heap.size, 0, none⟩)], .func (.func 99) #[] #[.pointer (some ⟨u8.heap.size, 0, none⟩)], .func (.func 101) #[] #[.pointer (some ⟨u8.heap.size, 0, none⟩)], .func (.func 104) #[] #[.pointer (some ⟨u9.heap.size, 0, none⟩)], .func (.func 106) #[] #[.pointer (some ⟨u9.heap.size, 0, none⟩)], .func (.func 104) #[] #[.pointer (some ⟨u10.heap.size, 0, none⟩)], .func (.func 106) #[] #[.pointer (some ⟨u10.heap.size, 0, none⟩)]] 117)
  have B10 : Below u11.heap.size u11 (u11.alloc (.cells #[.func (.func 99) #[] #[.pointer (some ⟨w.heap.size, 0, none⟩)], .func (.func 101) #[] #[.pointer (some ⟨w.heap.size, 0, none⟩)], .func (.func 102) #[] #[.pointer (some ⟨u1.heap.size, 0, none⟩)], .func (.func 103) #[] #[.pointer (some ⟨u1.heap.size, 0, none⟩)], .func (.func 102) #[] #[.pointer (some ⟨u2.heap.size, 0, none⟩)], .func (.func 103) #[] #[.pointer (some ⟨u2.heap.size, 0, none⟩)], .func (.func 102) #[] #[.pointer (some ⟨u3.heap.size, 0, none⟩)], .func (.func 103) #[] #[.pointer (some ⟨u3.heap.size, 0, none⟩)], .func (.func 102) #[] #[.pointer (some ⟨u4.heap.size, 0, none⟩)], .func (.func 103) #[] #[.pointer (some ⟨u4.heap.size, 0, none⟩)], .func (.func 102) #[] #[.pointer (some ⟨u5.heap.size, 0, none⟩)], .func (.func 103) #[] #[.pointer (some ⟨u5.heap.size, 0, none⟩)], .func (.func 102) #[] #[.pointer (some ⟨u6.heap.size, 0, none⟩)], .func (.func 103) #[] #[.pointer (some ⟨u6.heap.size, 0, none⟩)], .func (.func 99) #[] #[.pointer (some ⟨u7.heap.size, 0, none⟩)], .func (.func 101) #[] #[.pointer (some ⟨u7.heap.size, 0, none⟩)], .func (.func 99) #[] #[.pointer (some ⟨u8.heap.size, 0, none⟩)], .func (.func 101) #[] #[.pointer (some ⟨u8.heap.size, 0, none⟩)], .func (.func 104) #[] #[.pointer (some ⟨u9.heap.size, 0, none⟩)], .func (.func 106) #[] #[.pointer (some ⟨u9.heap.size, 0, none⟩)], .func (.func 104) #[] #[.pointer (some ⟨u10.heap.size, 0, none⟩)], .func (.func 106) #[] #[.pointer (some ⟨u10.heap.size, 0, none⟩)]] 117)) := (Below.refl _ _).alloc (Nat.le_refl _) _
  have hsz : (u11.alloc (.cells #[.func (.func 99) #[] #[.pointer (some ⟨w.heap.size, 0, none⟩)], .func (.func 101) #[] #[.pointer (some ⟨w.heap.size, 0, none⟩)], .func (.func 102) #[] #[.pointer (some ⟨u1.heap.size, 0, none⟩)], .func (.func 103) #[] #[.pointer (some ⟨u1.heap.size, 0, none⟩)], .func (.func 102) #[] #[.pointer (some ⟨u2.heap.size, 0, none⟩)], .func (.func 103) #[] #[.pointer (some ⟨u2.heap.size, 0, none⟩)], .func (.func 102) #[] #[.pointer (some ⟨u3.heap.size, 0, none⟩)], .func (.func 103) #[] #[.pointer (some ⟨u3.heap.size, 0, none⟩)], .func (.func 102) #[] #[.pointer (some ⟨u4.heap.size, 0, none⟩)], .func (.func 103) #[] #[.pointer (some ⟨u4.heap.size, 0, none⟩)], .func (.func 102) #[] #[.pointer (some ⟨u5.heap.size, 0, none⟩)], .func (.func 103) #[] #[.pointer (some ⟨u5.heap.size, 0, none⟩)], .func (.func 102) #[] #[.pointer (some ⟨u6.heap.size, 0, none⟩)], .func (.func 103) #[] #[.pointer (some ⟨u6.heap.size, 0, none⟩)], .func (.func 99) #[] #[.pointer (some ⟨u7.heap.size, 0, none⟩)], .func (.func 101) #[] #[.pointer (some ⟨u7.heap.size, 0, none⟩)], .func (.func 99) #[] #[.pointer (some ⟨u8.heap.size, 0, none⟩)], .func (.func 101) #[] #[.pointer (some ⟨u8.heap.size, 0, none⟩)], .func (.func 104) #[] #[.pointer (some ⟨u9.heap.size, 0, none⟩)], .func (.func 106) #[] #[.pointer (some ⟨u9.heap.size, 0, none⟩)], .func (.func 104) #[] #[.pointer (some ⟨u10.heap.size, 0, none⟩)], .func (.func 106) #[] #[.pointer (some ⟨u10.heap.size, 0, none⟩)]] 117)).heap.size = u11.heap.size + 1 := World.size_alloc _ _
  generalize u11.alloc (.cells #[.func (.func 99) #[] #[.pointer (some ⟨w.heap.size, 0, none⟩)], .func (.func 101) #[] #[.pointer (some ⟨w.heap.size, 0, none⟩)], .func (.func 102) #[] #[.pointer (some ⟨u1.heap.size, 0, none⟩)], .func (.func 103) #[] #[.pointer (some ⟨u1.heap.size, 0, none⟩)], .func (.func 102) #[] #[.pointer (some ⟨u2.heap.size, 0, none⟩)], .func (.func 103) #[] #[.pointer (some ⟨u2.heap.size, 0, none⟩)], .func (.func 102) #[] #[.pointer (some ⟨u3.heap.size, 0, none⟩)], .func (.func 103) #[] #[.pointer (some ⟨u3.heap.size, 0, none⟩)], .func (.func 102) #[] #[.pointer (some ⟨u4.heap.size, 0, none⟩)], .func (.func 103) #[] #[.pointer (some ⟨u4.heap.size, 0, none⟩)], .func (.func 102) #[] #[.pointer (some ⟨u5.heap.size, 0, none⟩)], .func (.func 103) #[] #[.pointer (some ⟨u5.heap.size, 0, none⟩)], .func (.func 102) #[] #[.pointer (some ⟨u6.heap.size, 0, none⟩)], .func (.func 103) #[] #[.pointer (some ⟨u6.heap.size, 0, none⟩)], .func (.func 99) #[] #[.pointer (some ⟨u7.heap.size, 0, none⟩)], .func (.func 101) #[] #[.pointer (some ⟨u7.heap.size, 0, none⟩)], .func (.func 99) #[] #[.pointer (some ⟨u8.heap.size, 0, none⟩)], .func (.func 101) #[] #[.pointer (some ⟨u8.heap.size, 0, none⟩)], .func (.func 104) #[] #[.pointer (some ⟨u9.heap.size, 0, none⟩)], .func (.func 106) #[] #[.pointer (some ⟨u9.heap.size, 0, none⟩)], .func (.func 104) #[] #[.pointer (some ⟨u10.heap.size, 0, none⟩)], .func (.func 106) #[] #[.pointer (some ⟨u10.heap.size, 0, none⟩)]] 117) = uF at *
  have B9 : Below u10.heap.size u10 uF := b10.trans (B10.mono (Nat.le_of_lt l10))
  have B8 : Below u9.heap.size u9 uF := b9.trans (B9.mono (Nat.le_of_lt l9))
  have B7 : Below u8.heap.size u8 uF := b8.trans (B8.mono (Nat.le_of_lt l8))
  have B6 : Below u7.heap.size u7 uF := b7.trans (B7.mono (Nat.le_of_lt l7))
  have B5 : Below u6.heap.size u6 uF := b6.trans (B6.mono (Nat.le_of_lt l6))
  have B4 : Below u5.heap.size u5 uF := b5.trans (B5.mono (Nat.le_of_lt l5))
  have B3 : Below u4.heap.size u4 uF := b4.trans (B4.mono (Nat.le_of_lt l4))
  have B2 : Below u3.heap.size u3 uF := b3.trans (B3.mono (Nat.le_of_lt l3))
  have B1 : Below u2.heap.size u2 uF := b2.trans (B2.mono (Nat.le_of_lt l2))
  have B0 : Below u1.heap.size u1 uF := b1.trans (B1.mono (Nat.le_of_lt l1))
  have hl0 : w.heap.size < u1.heap.size := l0
  have hB : Below w.heap.size w uF := (⟨b0.os, b0.tape, b0.output, b0.size, b0.block⟩ : Below w.heap.size w u1).trans (B0.mono (Nat.le_of_lt hl0))
  have HZ := Lib.hid hz
  have HB := Lib.hid hB
  clear hz hB b0 b1 b2 b3 b4 b5 b6 b7 b8 b9 b10
  go_wp2_with fail
  go_ret
  refine ⟨u11.heap.size, fun k => [w.heap.size, u1.heap.size, u2.heap.size, u3.heap.size, u4.heap.size, u5.heap.size, u6.heap.size, u7.heap.size, u8.heap.size, u9.heap.size, u10.heap.size].getD k 0, rfl, ⟨?_, ?_, ?_, ?_, by omega⟩, HB.out⟩
  · intro k hk
    match k, hk with
    | 0, _ => exact Lib.cell_of_heap HZ.out 0
    | 1, _ => exact Lib.cell_of_heap HZ.out 2
    | 2, _ => exact Lib.cell_of_heap HZ.out 4
    | 3, _ => exact Lib.cell_of_heap HZ.out 6
    | 4, _ => exact Lib.cell_of_heap HZ.out 8
    | 5, _ => exact Lib.cell_of_heap HZ.out 10
    | 6, _ => exact Lib.cell_of_heap HZ.out 12
    | 7, _ => exact Lib.cell_of_heap HZ.out 14
    | 8, _ => exact Lib.cell_of_heap HZ.out 16
    | 9, _ => exact Lib.cell_of_heap HZ.out 18
    | 10, _ => exact Lib.cell_of_heap HZ.out 20
    | k + 11, h => exact absurd h (by omega)
  · intro k hk
    match k, hk with
    | 0, _ => exact Lib.cell_of_heap HZ.out 1
    | 1, _ => exact Lib.cell_of_heap HZ.out 3
    | 2, _ => exact Lib.cell_of_heap HZ.out 5
    | 3, _ => exact Lib.cell_of_heap HZ.out 7
    | 4, _ => exact Lib.cell_of_heap HZ.out 9
    | 5, _ => exact Lib.cell_of_heap HZ.out 11
    | 6, _ => exact Lib.cell_of_heap HZ.out 13
    | 7, _ => exact Lib.cell_of_heap HZ.out 15
    | 8, _ => exact Lib.cell_of_heap HZ.out 17
    | 9, _ => exact Lib.cell_of_heap HZ.out 19
    | 10, _ => exact Lib.cell_of_heap HZ.out 21
    | k + 11, h => exact absurd h (by omega)
  · intro k hk
    match k, hk with
    | 0, _ => exact PtrAt.below p0 B0
    | 1, _ => exact PtrAt.below p1 B1
    | 2, _ => exact PtrAt.below p2 B2
    | 3, _ => exact PtrAt.below p3 B3
    | 4, _ => exact PtrAt.below p4 B4
    | 5, _ => exact PtrAt.below p5 B5
    | 6, _ => exact PtrAt.below p6 B6
    | 7, _ => exact PtrAt.below p7 B7
    | 8, _ => exact PtrAt.below p8 B8
    | 9, _ => exact PtrAt.below p9 B9
    | 10, _ => exact PtrAt.below p10 B10
    | k + 11, h => exact absurd h (by omega)
  · intro k hk
    match k, hk with
    | 0, _ => exact ⟨show w.heap.size ≤ w.heap.size by omega, show w.heap.size < uF.heap.size by omega⟩
    | 1, _ => exact ⟨show w.heap.size ≤ u1.heap.size by omega, show u1.heap.size < uF.heap.size by omega⟩
    | 2, _ => exact ⟨show w.heap.size ≤ u2.heap.size by omega, show u2.heap.size < uF.heap.size by omega⟩
    | 3, _ => exact ⟨show w.heap.size ≤ u3.heap.size by omega, show u3.heap.size < uF.heap.size by omega⟩
    | 4, _ => exact ⟨show w.heap.size ≤ u4.heap.size by omega, show u4.heap.size < uF.heap.size by omega⟩
    | 5, _ => exact ⟨show w.heap.size ≤ u5.heap.size by omega, show u5.heap.size < uF.heap.size by omega⟩
    | 6, _ => exact ⟨show w.heap.size ≤ u6.heap.size by omega, show u6.heap.size < uF.heap.size by omega⟩
    | 7, _ => exact ⟨show w.heap.size ≤ u7.heap.size by omega, show u7.heap.size < uF.heap.size by omega⟩
    | 8, _ => exact ⟨show w.heap.size ≤ u8.heap.size by omega, show u8.heap.size < uF.heap.size by omega⟩
    | 9, _ => exact ⟨show w.heap.size ≤ u9.heap.size by omega, show u9.heap.size < uF.heap.size by omega⟩
    | 10, _ => exact ⟨show w.heap.size ≤ u10.heap.size by omega, show u10.heap.size < uF.heap.size by omega⟩
    | k + 11, h => exact absurd h (by omega)

end Go.Proofs.YtbjbgdnjcppjhaaGreatDoor
