/-
  A REGION THAT DRAWS ITS ORDER: a chain of operations, and one allocation that may come anywhere among them. Conditions: as the theorem says. By an AI agent.
-/
import Derived.Test.YtbjbgdnjcppjhaaGreatDoorHeld
namespace Go.Proofs.YtbjbgdnjcppjhaaGreatDoor
open Go.RowKit
set_option linter.unusedVariables false
set_option linter.unusedSimpArgs false

/-- what is listed when k of the chain are, and the allocation is or is not -/
def lstA (base : Array Bool) (chain : List Nat) (A : Nat) (k : Nat) (done : Bool) : Array Bool :=
  (chain.take k ++ if done then [A] else []).foldl (fun l i => l.setIfInBounds i true) base
def chainB (md : Region.Mode) (ops : Array Oper) (base : Array Bool) (chain : List Nat) (A : Nat) : Bool :=
  (List.range (chain.length + 1)).all fun k => [true, false].all fun d =>
    ((Region.ready md ops (lstA base chain A k d)).all fun j => (decide (k < chain.length) && j == chain.getD k 0) || (!d && j == A)) &&
    (((Region.ready md ops (lstA base chain A k d)).isEmpty) == (d && decide (k = chain.length))) &&
    (decide (chain.length ≤ k) || lstA base chain A (k + 1) d == (lstA base chain A k d).setIfInBounds (chain.getD k 0) true) &&
    (lstA base chain A k true == (lstA base chain A k false).setIfInBounds A true)
theorem chainB_at {md : Region.Mode} {ops : Array Oper} {base : Array Bool} {chain : List Nat} {A : Nat} (h : chainB md ops base chain A = true) (k : Nat) (hk : k ≤ chain.length) (d : Bool) :
    (∀ j ∈ Region.ready md ops (lstA base chain A k d), (k < chain.length ∧ j = chain.getD k 0) ∨ (d = false ∧ j = A)) ∧
    ((Region.ready md ops (lstA base chain A k d) = []) ↔ (d = true ∧ k = chain.length)) ∧
    (k < chain.length → lstA base chain A (k + 1) d = (lstA base chain A k d).setIfInBounds (chain.getD k 0) true) ∧
    (lstA base chain A k true = (lstA base chain A k false).setIfInBounds A true) := by
  unfold chainB at h
  have h1 := List.all_eq_true.1 h k (by simp; omega)
  have h2 := List.all_eq_true.1 h1 d (by cases d <;> simp)
  simp only [Bool.and_eq_true] at h2
  obtain ⟨⟨⟨a, b⟩, c⟩, e⟩ := h2
  refine ⟨fun j hj => ?_, ?_, fun hlt => ?_, by simpa using e⟩
  · have := List.all_eq_true.1 a j hj
    simp only [Bool.or_eq_true, Bool.and_eq_true, decide_eq_true_eq, beq_iff_eq, Bool.not_eq_true'] at this
    exact this
  · rw [← List.isEmpty_iff]
    have hb := eq_of_beq b
    rw [hb]
    simp
  · simp only [Bool.or_eq_true, decide_eq_true_eq] at c
    rcases c with c | c
    · omega
    · exact eq_of_beq c

section
variable {P : Program} {ops : Array Oper} {Q : Exit → Act → World → Prop} {md : Region.Mode}
theorem chainD {base : Array Bool} {chain : List Nat} {A : Nat} (h : chainB md ops base chain A = true) (S : World → Prop) (Inv : Nat → Bool → Act → World → Prop) (hS : ∀ k d a w, Inv k d a w → S w)
    (hstep : ∀ k, k < chain.length → ∀ d a w, Inv k d a w → chain.getD k 0 ∈ Region.ready md ops (lstA base chain A k d) → wpOp P ops Q (chain.getD k 0) (fun b u => Inv (k + 1) d b u) a w)
    (halloc : ∀ k, k ≤ chain.length → ∀ a w, Inv k false a w → wpOp P ops Q A (fun b u => Inv k true b u) a w)
    (hend : ∀ a w, Inv chain.length true a w → Q .normal a w) :
    ∀ (n k : Nat) (d : Bool) (a : Act) (w : World), n = chain.length - k + (if d then 0 else 1) → k ≤ chain.length → Inv k d a w → wpAnyD P md ops Q S [] n (lstA base chain A k d) a w := by
  intro n
  induction n with
  | zero =>
    intro k d a w hn hk hi
    obtain ⟨_, h2, _, _⟩ := chainB_at h k hk d
    cases d with
    | false => simp at hn
    | true =>
      have hke : k = chain.length := by simp at hn; omega
      subst hke
      exact ⟨h2.2 ⟨rfl, rfl⟩, hend a w hi⟩
  | succ n ih =>
    intro k d a w hn hk hi
    obtain ⟨h1, h2, h3, h4⟩ := chainB_at h k hk d
    refine ⟨fun h0 => ?_, fun j hj => ?_⟩
    · obtain ⟨rfl, rfl⟩ := h2.1 h0
      simp at hn
    · rcases h1 j hj with ⟨hlt, rfl⟩ | ⟨rfl, rfl⟩
      · refine wpOp_mono (fun b u hb => ⟨fun _ => hS _ _ _ _ hb, ?_⟩) (hstep k hlt d a w hi hj)
        rw [← h3 hlt]
        exact ih (k + 1) d b u (by omega) (by omega) hb
      · refine wpOp_mono (fun b u hb => ⟨fun _ => hS _ _ _ _ hb, ?_⟩) (halloc k hk a w hi)
        rw [← h4]
        exact ih k true b u (by simp at hn ⊢; omega) hk hb
theorem wpOp_of {i : Nat} {o : Oper} {rest : List Oper} {K : Act → World → Prop} {a : Act} {w : World} (hi : ops.toList.drop i = o :: rest) (hg : o.guard = none) (h : o.wp P a w K Q) : wpOp P ops Q i K a w := by
  unfold wpOp
  simp only [at_drop hi]
  rw [if_pos (by simp [Region.wanted, hg])]
  exact .inl h
end

end Go.Proofs.YtbjbgdnjcppjhaaGreatDoor
