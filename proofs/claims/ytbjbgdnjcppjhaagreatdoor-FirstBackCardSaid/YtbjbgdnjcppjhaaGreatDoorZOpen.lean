/-
  What an argument may be: a text, a number, an entry that lies in memory: cells and their bounds. No condition. By an AI agent.
-/
import Derived.Test.YtbjbgdnjcppjhaaGreatDoorNoteP
import Derived.Test.YtbjbgdnjcppjhaaGreatDoorRows
import Derived.WalkKit
import Derived.ProofKit
import Derived.OpenShut
import Derived.DataReads
import Derived.ChangeArms
namespace Go.Proofs.YtbjbgdnjcppjhaaGreatDoor
open Go.RowKit
set_option linter.unusedVariables false

section
variable {P : Program} {W : World} {r : Reach} {base : Nat} {u : TypeId} {v : Value}
theorem cell_int {k : IntKind} (hu : P.underlying u = some (.int k)) (h : Cell.okWide P W r base u v) : ∃ n, v = .int k n ∧ k.min ≤ n ∧ n ≤ k.max := by
  unfold Cell.okWide Cell.ok at h
  rw [hu] at h
  cases v <;> simp [IntKind.has] at h
  obtain ⟨rfl, h1, h2⟩ := h
  exact ⟨_, rfl, h1, h2⟩
theorem cell_string (hu : P.underlying u = some .string) (h : Cell.okWide P W r base u v) : ∃ s, v = .string s ∧ s.size ≤ 9223372036854775807 := by
  unfold Cell.okWide Cell.ok at h
  rw [hu] at h
  cases v <;> simp at h
  refine ⟨_, rfl, ?_⟩
  have : IntKind.i64.max = 9223372036854775807 := rfl
  omega
theorem cell_bool (hu : P.underlying u = some .bool) (h : Cell.okWide P W r base u v) : ∃ b, v = .bool b := by
  unfold Cell.okWide Cell.ok at h
  rw [hu] at h
  cases v <;> simp at h
  exact ⟨_, rfl⟩
end
theorem val_int {P : Program} {W : World} {r : Reach} {base : Nat} {u : TypeId} {v : Value} {k : IntKind} (hu : P.underlying u = some (.int k)) (h : Value.okWide P W r base u v) : ∃ n, v = .int k n ∧ k.min ≤ n ∧ n ≤ k.max := by
  unfold Value.okWide at h
  rw [hu] at h
  exact cell_int hu h
theorem val_string {P : Program} {W : World} {r : Reach} {base : Nat} {u : TypeId} {v : Value} (hu : P.underlying u = some .string) (h : Value.okWide P W r base u v) : ∃ s, v = .string s ∧ s.size ≤ 9223372036854775807 := by
  unfold Value.okWide at h
  rw [hu] at h
  exact cell_string hu h
theorem u64_of {n : Int} (h : IntKind.u64.min ≤ n ∧ n ≤ IntKind.u64.max) : U64 n := h
theorem i64_of {n : Int} (h : IntKind.i64.min ≤ n ∧ n ≤ IntKind.i64.max) : I64 n := h

section
variable {H : Type} {enc : TypeId × Value → H} {w : World} {base : Nat} {spare : Nat → Bool} {held : Bool} {fuel : Nat} {cs : List Value} {x : DataW H × List MemPlace}
theorem wf_u64 {n : Int} (h : (Lit.int .u64 n).wf = true) : U64 n := by
  unfold Lit.wf at h
  simp only [Bool.and_eq_true, decide_eq_true_eq] at h
  exact h
theorem wf_i64 {n : Int} (h : (Lit.int .i64 n).wf = true) : I64 n := by
  unfold Lit.wf at h
  simp only [Bool.and_eq_true, decide_eq_true_eq] at h
  exact h
theorem cells_ent : Tryz.prog.cellsOf 32 = 11 := by kernel_rfl
theorem one_u64 : Tryz.prog.cellsOf 23 = 1 := by kernel_rfl
theorem one_int : Tryz.prog.cellsOf 3 = 1 := by kernel_rfl
theorem one_string : Tryz.prog.cellsOf 9 = 1 := by kernel_rfl
theorem one_bool : Tryz.prog.cellsOf 4 = 1 := by kernel_rfl
theorem trod_field {P : Program} {n : Nat} {t : TypeId} {l : List Value} {y : Option (DataW H × List MemPlace)} {z : DataW H × List MemPlace} (h : DataW.trod enc P w base spare held n t l = y) (hy : y = some z) : DataW.trod enc P w base spare held n t l = some z := h.trans hy

set_option maxRecDepth 100000 in
theorem ent_trod (h : DataW.trod enc Tryz.prog w base spare held fuel 32 cs = some x) : ∃ e : Ent, e.wf ∧ cs = e.cells.toList := by
  obtain ⟨xs, n, _, _, hl, hxl, hf⟩ := DataW.trod_struct Tryz.underlying32 h
  rw [cells_ent] at hl
  match cs, hl with
  | [v0, v1, v2, v3, v4, v5, v6, v7, v8, v9, v10], _ =>
    have hxl' : xs.length = 11 := hxl
    have g0 := (hf 0 ⟨ "Term", 23, 0, false, "", "", 0⟩ rfl).trans (List.getElem?_eq_getElem (show 0 < xs.length by omega))
    simp only [one_u64] at g0
    obtain ⟨a0, e0, _, b0⟩ := DataW.trod_int Tryz.underlying23 g0
    cases (show v0 = _ from List.head_eq_of_cons_eq e0)
    have g1 := (hf 1 ⟨ "Index", 23, 1, false, "", "", 8⟩ rfl).trans (List.getElem?_eq_getElem (show 1 < xs.length by omega))
    simp only [one_u64] at g1
    obtain ⟨a1, e1, _, b1⟩ := DataW.trod_int Tryz.underlying23 g1
    cases (show v1 = _ from List.head_eq_of_cons_eq e1)
    have g2 := (hf 2 ⟨ "Kind", 3, 2, false, "", "", 16⟩ rfl).trans (List.getElem?_eq_getElem (show 2 < xs.length by omega))
    simp only [one_int] at g2
    obtain ⟨a2, e2, _, b2⟩ := DataW.trod_int Tryz.underlying3 g2
    cases (show v2 = _ from List.head_eq_of_cons_eq e2)
    have g3 := (hf 3 ⟨ "Client", 23, 3, false, "", "", 24⟩ rfl).trans (List.getElem?_eq_getElem (show 3 < xs.length by omega))
    simp only [one_u64] at g3
    obtain ⟨a3, e3, _, b3⟩ := DataW.trod_int Tryz.underlying23 g3
    cases (show v3 = _ from List.head_eq_of_cons_eq e3)
    have g4 := (hf 4 ⟨ "Seq", 23, 4, false, "", "", 32⟩ rfl).trans (List.getElem?_eq_getElem (show 4 < xs.length by omega))
    simp only [one_u64] at g4
    obtain ⟨a4, e4, _, b4⟩ := DataW.trod_int Tryz.underlying23 g4
    cases (show v4 = _ from List.head_eq_of_cons_eq e4)
    have g5 := (hf 5 ⟨ "Block", 23, 5, false, "", "", 40⟩ rfl).trans (List.getElem?_eq_getElem (show 5 < xs.length by omega))
    simp only [one_u64] at g5
    obtain ⟨a5, e5, _, b5⟩ := DataW.trod_int Tryz.underlying23 g5
    cases (show v5 = _ from List.head_eq_of_cons_eq e5)
    have g6 := (hf 6 ⟨ "Many", 23, 6, false, "", "", 48⟩ rfl).trans (List.getElem?_eq_getElem (show 6 < xs.length by omega))
    simp only [one_u64] at g6
    obtain ⟨a6, e6, _, b6⟩ := DataW.trod_int Tryz.underlying23 g6
    cases (show v6 = _ from List.head_eq_of_cons_eq e6)
    have g7 := (hf 7 ⟨ "Node", 3, 7, false, "", "", 56⟩ rfl).trans (List.getElem?_eq_getElem (show 7 < xs.length by omega))
    simp only [one_int] at g7
    obtain ⟨a7, e7, _, b7⟩ := DataW.trod_int Tryz.underlying3 g7
    cases (show v7 = _ from List.head_eq_of_cons_eq e7)
    have g8 := (hf 8 ⟨ "Level", 3, 8, false, "", "", 64⟩ rfl).trans (List.getElem?_eq_getElem (show 8 < xs.length by omega))
    simp only [one_int] at g8
    obtain ⟨a8, e8, _, b8⟩ := DataW.trod_int Tryz.underlying3 g8
    cases (show v8 = _ from List.head_eq_of_cons_eq e8)
    have g9 := (hf 9 ⟨ "Data", 9, 9, false, "", "", 72⟩ rfl).trans (List.getElem?_eq_getElem (show 9 < xs.length by omega))
    simp only [one_string] at g9
    obtain ⟨a9, e9, _, b9⟩ := DataW.trod_string Tryz.underlying9 g9
    cases (show v9 = _ from List.head_eq_of_cons_eq e9)
    have g10 := (hf 10 ⟨ "Old", 9, 10, false, "", "", 88⟩ rfl).trans (List.getElem?_eq_getElem (show 10 < xs.length by omega))
    simp only [one_string] at g10
    obtain ⟨a10, e10, _, b10⟩ := DataW.trod_string Tryz.underlying9 g10
    cases (show v10 = _ from List.head_eq_of_cons_eq e10)
    exact ⟨⟨a0, a1, a2, a3, a4, a5, a6, a7, a8, a9, a10⟩, ⟨wf_u64 b0, wf_u64 b1, wf_i64 b2, wf_u64 b3, wf_u64 b4, wf_u64 b5, wf_u64 b6, wf_i64 b7, wf_i64 b8, Nat.le_trans b9 (by decide), Nat.le_trans b10 (by decide)⟩, rfl⟩

theorem add_none {b o n : Nat} : (⟨b, o, none⟩ : Addr).add n = ⟨b, o + n, none⟩ := by
  unfold Addr.add
  split
  · simp_all
  · rfl

theorem entAt_cells {b o n : Nat} {e : Ent} {r : List Value} (h : ∀ j, j < n → w.cell? ((⟨b, o, none⟩ : Addr).add j) = (e.cells.toList ++ r)[j]?) (hn : 11 ≤ n) : EntAt w b o e := by
  have g : ∀ j, j < n → w.cell? ⟨b, o + j, none⟩ = (e.cells.toList ++ r)[j]? := fun j hj => by rw [← add_none]; exact h j hj
  exact ⟨g 0 (by omega), g 1 (by omega), g 2 (by omega), g 3 (by omega), g 4 (by omega), g 5 (by omega), g 6 (by omega), g 7 (by omega), g 8 (by omega), g 9 (by omega), g 10 (by omega)⟩

end

theorem cell_slice {P : Program} {W : World} {r : Reach} {b : Nat} {u e : TypeId} {v : Value} (hu : P.underlying u = some (.slice e)) (h : Cell.okWide P W r b u v) : ∃ a n c, v = .slice a n c ∧ ∀ a', a = some a' → a'.spot = none := by
  unfold Cell.okWide Cell.ok at h
  rw [hu] at h
  cases v <;> simp at h
  rename_i a n c
  cases a with
  | none => exact ⟨none, n, c, rfl, fun a' h => by cases h⟩
  | some a =>
    simp at h
    exact ⟨some a, n, c, rfl, fun a' h' => by cases h'; exact h.2.2.2.1⟩
theorem one_ents : Tryz.prog.cellsOf 24 = 1 := by kernel_rfl

end Go.Proofs.YtbjbgdnjcppjhaaGreatDoor
