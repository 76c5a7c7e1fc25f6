/-
  What an argument may be: an entry by its parts, a text, a number: its cells and their bounds. No condition. By an AI agent.
-/
import Derived.Test.YtbjbgdnjcppjhaaDoorPlain
import Derived.Test.YtbjbgdnjcppjhaaDoorRows
import Derived.WalkKit
import Derived.ProofKit
import Derived.OpenShut
namespace Go.Proofs.YtbjbgdnjcppjhaaDoor
open Go.RowKit
set_option linter.unusedVariables false

section
variable {P : Program} {W : World} {r : Reach} {base : Nat} {u : TypeId} {v : Value}
theorem cell_int {k : IntKind} (hu : P.underlying u = some (.int k)) (h : Cell.okWide P W r base u v) : ∃ n, v = .int k n ∧ k.min ≤ n ∧ n ≤ k.max := by
  unfold Cell.okWide Cell.ok at h
  rw [hu] at h
  cases v <;> simp [IntKind.has] at h
  obtain ⟨rfl, h1, h2⟩ := h
  exact ⟨_, rfl, h1, h2⟩
theorem cell_string (hu : P.underlying u = some .string) (h : Cell.okWide P W r base u v) : ∃ s, v = .string s ∧ s.size ≤ 9223372036854775807 := by
  unfold Cell.okWide Cell.ok at h
  rw [hu] at h
  cases v <;> simp at h
  refine ⟨_, rfl, ?_⟩
  have : IntKind.i64.max = 9223372036854775807 := rfl
  omega
theorem cell_bool (hu : P.underlying u = some .bool) (h : Cell.okWide P W r base u v) : ∃ b, v = .bool b := by
  unfold Cell.okWide Cell.ok at h
  rw [hu] at h
  cases v <;> simp at h
  exact ⟨_, rfl⟩
end
theorem val_int {P : Program} {W : World} {r : Reach} {base : Nat} {u : TypeId} {v : Value} {k : IntKind} (hu : P.underlying u = some (.int k)) (h : Value.okWide P W r base u v) : ∃ n, v = .int k n ∧ k.min ≤ n ∧ n ≤ k.max := by
  unfold Value.okWide at h
  rw [hu] at h
  exact cell_int hu h
theorem val_string {P : Program} {W : World} {r : Reach} {base : Nat} {u : TypeId} {v : Value} (hu : P.underlying u = some .string) (h : Value.okWide P W r base u v) : ∃ s, v = .string s ∧ s.size ≤ 9223372036854775807 := by
  unfold Value.okWide at h
  rw [hu] at h
  exact cell_string hu h
theorem u64_of {n : Int} (h : IntKind.u64.min ≤ n ∧ n ≤ IntKind.u64.max) : U64 n := h
theorem i64_of {n : Int} (h : IntKind.i64.min ≤ n ∧ n ≤ IntKind.i64.max) : I64 n := h

theorem madeCells : Tryd.prog.cellTypes Tryd.prog.depth 30 = some [23, 23, 3, 23, 23, 23, 23, 3, 3, 9, 9, 4] := by kernel_rfl
theorem madeSize : Tryd.prog.cellsOf 30 = 12 := by kernel_rfl

set_option maxRecDepth 100000 in
theorem open_made {W : World} {r : Reach} {base : Nat} {v : Value} (h : Value.okWide Tryd.prog W r base 30 v) : ∃ (e : Ent) (own : Bool), e.wf ∧ v = .agg (e.cells ++ #[.bool own]) := by
  unfold Value.okWide at h
  rw [Tryd.underlying30] at h
  obtain ⟨cs, rfl, hsz, ts, hts, _, hc⟩ := h
  rw [madeSize] at hsz
  rw [madeCells] at hts
  cases hts
  obtain ⟨l⟩ := cs
  match l, hsz with
  | [v0, v1, v2, v3, v4, v5, v6, v7, v8, v9, v10, v11], _ =>
    obtain ⟨_, e0, h0⟩ := hc 0 v0 rfl
    obtain ⟨_, e1, h1⟩ := hc 1 v1 rfl
    obtain ⟨_, e2, h2⟩ := hc 2 v2 rfl
    obtain ⟨_, e3, h3⟩ := hc 3 v3 rfl
    obtain ⟨_, e4, h4⟩ := hc 4 v4 rfl
    obtain ⟨_, e5, h5⟩ := hc 5 v5 rfl
    obtain ⟨_, e6, h6⟩ := hc 6 v6 rfl
    obtain ⟨_, e7, h7⟩ := hc 7 v7 rfl
    obtain ⟨_, e8, h8⟩ := hc 8 v8 rfl
    obtain ⟨_, e9, h9⟩ := hc 9 v9 rfl
    obtain ⟨_, e10, h10⟩ := hc 10 v10 rfl
    obtain ⟨_, e11, h11⟩ := hc 11 v11 rfl
    cases e0; cases e1; cases e2; cases e3; cases e4; cases e5; cases e6; cases e7; cases e8; cases e9; cases e10; cases e11
    obtain ⟨a0, rfl, b0⟩ := cell_int Tryd.underlying23 h0
    obtain ⟨a1, rfl, b1⟩ := cell_int Tryd.underlying23 h1
    obtain ⟨a2, rfl, b2⟩ := cell_int Tryd.underlying3 h2
    obtain ⟨a3, rfl, b3⟩ := cell_int Tryd.underlying23 h3
    obtain ⟨a4, rfl, b4⟩ := cell_int Tryd.underlying23 h4
    obtain ⟨a5, rfl, b5⟩ := cell_int Tryd.underlying23 h5
    obtain ⟨a6, rfl, b6⟩ := cell_int Tryd.underlying23 h6
    obtain ⟨a7, rfl, b7⟩ := cell_int Tryd.underlying3 h7
    obtain ⟨a8, rfl, b8⟩ := cell_int Tryd.underlying3 h8
    obtain ⟨a9, rfl, b9⟩ := cell_string Tryd.underlying9 h9
    obtain ⟨a10, rfl, b10⟩ := cell_string Tryd.underlying9 h10
    obtain ⟨a11, rfl⟩ := cell_bool Tryd.underlying4 h11
    exact ⟨⟨a0, a1, a2, a3, a4, a5, a6, a7, a8, a9, a10⟩, a11, ⟨b0, b1, b2, b3, b4, b5, b6, b7, b8, b9, b10⟩, rfl⟩

end Go.Proofs.YtbjbgdnjcppjhaaDoor
