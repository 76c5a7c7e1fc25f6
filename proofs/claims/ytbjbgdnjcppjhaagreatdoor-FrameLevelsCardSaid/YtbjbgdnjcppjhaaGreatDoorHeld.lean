/-
  A REGION THAT DRAWS ITS ORDER, with loads and, at its end, a store into a cell that it loads: the loads are taken first under S; S need not hold behind the operations D, which wait for each load. Conditions: as each theorem says. By an AI agent.
-/
import Derived.Test.YtbjbgdnjcppjhaaGreatDoorRegion
import Derived.Deep.RegionHeld3
import Derived.Deep.AppendLies
import Derived.Deep.DrawnRows
namespace Go.Proofs.YtbjbgdnjcppjhaaGreatDoor
open Go.RowKit
set_option linter.unusedVariables false
set_option linter.unusedSimpArgs false

section
variable {P : Program} {ops : Array Oper} {Q : Exit → Act → World → Prop} {md : Region.Mode} {S : World → Prop} {D : List Nat}

/-- whatever order is picked, S holding behind each operation but those of D -/
def wpAnyD (P : Program) (md : Region.Mode) (ops : Array Oper) (Q : Exit → Act → World → Prop) (S : World → Prop) (D : List Nat) : Nat → Array Bool → Act → World → Prop
  | 0, listed, a, w => Region.ready md ops listed = [] ∧ Q .normal a w
  | n + 1, listed, a, w => (Region.ready md ops listed = [] → Q .normal a w) ∧
    ∀ j ∈ Region.ready md ops listed, wpOp P ops Q j (fun b u => (D.contains j = false → S u) ∧ wpAnyD P md ops Q S D n (listed.setIfInBounds j true) b u) a w

theorem any_of_D : ∀ (n : Nat) (listed : Array Bool) (a : Act) (w : World), wpAnyD P md ops Q S D n listed a w → wpAny P md ops Q n listed a w
  | 0, _, _, _, h => h
  | n + 1, _, _, _, h => ⟨h.1, fun j hj => wpOp_mono (fun _ _ g => any_of_D n _ _ _ g.2) (h.2 j hj)⟩

theorem takeD_first {i : Nat} {oi : Oper} {v : Value} (hi : ops[i]? = some oi) (hsel : ∀ (j : Nat) (o : Oper) cs b, ops[j]? = some o → o.op ≠ .select cs b)
    (hQ : ∀ c a w, Q (.panic c) (a.put oi.dst v) w → Q (.panic c) a w) (hD : ∀ j, D.contains j = true → Region.waitsFor md ops j i = true) :
    ∀ (n : Nat) (listed : Array Bool) (a : Act) (w : World),
      (∀ j oj, ops[j]? = some oj → j ≠ i → listed.getD j true = false → (∀ e ∈ oj.after, Region.binds md e = true → e.on ≠ i) → oi.apart ops oj = true) →
      i ∈ Region.ready md ops listed → YieldsIf P ops S oi v a → S w →
      wpAnyD P md ops Q S D n (listed.setIfInBounds i true) (a.put oi.dst v) w → wpAnyD P md ops Q S D (n + 1) listed a w
  | n, listed, a, w, hfree, hr, hy, hS, H => by
    refine ⟨fun h0 => by rw [h0] at hr; exact absurd hr (List.not_mem_nil), fun j hj => ?_⟩
    by_cases hji : j = i
    · subst hji
      exact hy.wpOp hi hS ⟨fun _ => hS, H⟩
    cases n with
    | zero =>
      have hm := ready_mono hj hji
      rw [H.1] at hm
      exact absurd hm (List.not_mem_nil)
    | succ n =>
      obtain ⟨hju, oj, hoj, hall⟩ := mem_ready.1 hj
      have hiu := (mem_ready.1 hr).1
      have hilt : i < listed.size := by
        rcases Nat.lt_or_ge i listed.size with h | h
        · exact h
        · rw [Array.getD_eq_getD_getElem?, Array.getElem?_eq_none h] at hiu
          cases hiu
      have hnot : ∀ e ∈ oj.after, Region.binds md e = true → e.on ≠ i := fun e he hb heq => by
        have h1 := hall e he hb
        rw [heq] at h1
        rw [Array.getD_eq_getD_getElem?, Array.getElem?_eq_getElem hilt] at h1 hiu
        simp only [Option.getD_some] at h1 hiu
        rw [hiu] at h1
        cases h1
      have hDj : D.contains j = false := by
        cases hd : D.contains j with
        | false => rfl
        | true =>
          obtain ⟨oj', hoj', e, he, hb, hon⟩ := Region.waitsFor_spec (hD j hd)
          rw [hoj] at hoj'
          cases hoj'
          exact absurd hon (hnot e he hb)
      have g := wpOp_putIf hoj (hfree j oj hoj hji hju hnot) (fun cs b => hsel i oi cs b hi) (fun cs b => hsel j oj cs b hoj) hQ hy (H.2 j (ready_mono hj hji))
      refine wpOp_mono (fun b u g3 => ?_) g
      have hSu := g3.2.1 hDj
      refine ⟨fun _ => hSu, takeD_first hi hsel hQ hD n (listed.setIfInBounds j true) b u (fun k ok hk hki hun hno => hfree k ok hk hki ?_ hno) (ready_mono hr (Ne.symm hji)) g3.1 hSu ?_⟩
      · by_cases hjk : j = k
        · subst hjk; exact hju
        · rwa [getD_set_ne true hjk] at hun
      · rw [Array.setIfInBounds_comm _ _ hji]
        exact g3.2.2

theorem at_drop {i : Nat} {o : Oper} {rest : List Oper} (hi : ops.toList.drop i = o :: rest) : ops[i]? = some o := by
  have h1 : (ops.toList.drop i)[0]? = some o := by rw [hi]; rfl
  rw [List.getElem?_drop] at h1
  simpa using h1

/-- take number i first -/
theorem takeD {i : Nat} {oi : Oper} {rest : List Oper} {v : Value} {n : Nat} {listed : Array Bool} {a : Act} {w : World} (hi : ops.toList.drop i = oi :: rest)
    (hs : (Region.noSelect ops && Region.free md ops listed i && (Region.ready md ops listed).contains i && D.all fun j => Region.waitsFor md ops j i) = true)
    (hQ : ∀ c a w, ¬ Q (.panic c) a w) (hg : oi.guard = none) (hy : ∀ u, S u → (execOp a.eval oi).run P u = .ok (.value v) u) (hS : S w)
    (h : wpAnyD P md ops Q S D n (listed.setIfInBounds i true) (a.put oi.dst v) w) : wpAnyD P md ops Q S D (n + 1) listed a w := by
  simp only [Bool.and_eq_true] at hs
  obtain ⟨⟨⟨h1, h2⟩, h3⟩, h4⟩ := hs
  exact takeD_first (at_drop hi) (Region.noSelect_spec h1) (fun c a w g => absurd g (hQ _ _ _)) (fun j hj => List.all_eq_true.1 h4 j (by simpa using hj)) n listed a w (Region.free_spec (at_drop hi) h2) (by simpa using h3)
    (.inl ⟨by simp [Region.wanted, hg], hy⟩) hS h

/-- number i alone may come -/
theorem oneD {i : Nat} {o : Oper} {rest : List Oper} {n : Nat} {listed : Array Bool} {a : Act} {w : World} (hi : ops.toList.drop i = o :: rest) (hr : Region.ready md ops listed = [i]) (hg : o.guard = none)
    (h : o.wp P a w (fun b u => (D.contains i = false → S u) ∧ wpAnyD P md ops Q S D n (listed.setIfInBounds i true) b u) Q) : wpAnyD P md ops Q S D (n + 1) listed a w := by
  refine ⟨fun h0 => (by rw [hr] at h0; cases h0), fun j hj => ?_⟩
  rw [hr, List.mem_singleton] at hj
  subst hj
  unfold wpOp
  simp only [at_drop hi]
  rw [if_pos (by simp [Region.wanted, hg])]
  exact .inl h

theorem doneD {listed : Array Bool} {a : Act} {w : World} (hr : Region.ready md ops listed = []) (h : Q .normal a w) : wpAnyD P md ops Q S D 0 listed a w := ⟨hr, h⟩

/-- the beginning -/
theorem region_D {id : Nat} {a : Act} {w : World} {l : List Oper} (S : World → Prop) (D : List Nat) (n : Nat) (hm : P.follows .mixedOrders = true) (hn : l.length = n)
    (h : wpAnyD P .any l.toArray (NoPanic Q) S D n (Array.replicate n false) a w.drew) : (Code.region id l.toArray true).wp P Q a w := by
  refine wp_region_noPanic (wp_region_any hm ?_)
  subst hn
  rw [List.size_toArray]
  exact any_of_D _ _ _ _ h
end

end Go.Proofs.YtbjbgdnjcppjhaaGreatDoor
