/-
  ROWS: entries in a slice, texts in a row that the call has made, what joins them. Conditions: as each theorem says. By an AI agent.
-/
import Derived.Test.YtbjbgdnjcppjhaaDoorText
namespace Go.Proofs.YtbjbgdnjcppjhaaDoor
open Go.RowKit Go.Sort
set_option linter.unusedVariables false
set_option linter.unusedSimpArgs false

/-- the entries l lie in the slice s -/
def EntsAt (w : World) (s : Value) (l : List Ent) : Prop :=
  ∃ a c, s = .slice a l.length c ∧ l.length ≤ c ∧ c ≤ 9223372036854775807 ∧ (l ≠ [] → ∃ B o, a = some ⟨B, o, none⟩ ∧ B < w.heap.size ∧ ∀ i (h : i < l.length), EntAt w B (o + i * 11) l[i])
theorem EntsAt.below {w w' : World} {s : Value} {l : List Ent} (h : EntsAt w s l) (hb : Below w.heap.size w w') : EntsAt w' s l := by
  obtain ⟨a, c, h1, h2, h3, h4⟩ := h
  refine ⟨a, c, h1, h2, h3, fun h => ?_⟩
  obtain ⟨B, o, h5, h6, h7⟩ := h4 h
  exact ⟨B, o, h5, Nat.lt_of_lt_of_le h6 hb.size, fun i hi => (h7 i hi).below hb⟩
theorem entsAt_nil (w : World) : EntsAt w (.slice none 0 0) [] := ⟨none, 0, rfl, Nat.le_refl _, by decide, fun h => absurd rfl h⟩

theorem grown_below {w w' : World} {base size n : Nat} {e : TypeId} {v : Value} {xs : List Value} (h : w.grownBy w' v.ownBlock) (ho : w.ownsRow base e size v n xs) (hB : base ≤ w.heap.size) : Below base w w' :=
  ⟨h.os, h.tape, h.output, h.size, fun k hk => h.block k (by omega) fun he => by have := (ho.lt k he.symm).1; omega⟩
theorem ownsRow_below {w w' : World} {base size n : Nat} {e : TypeId} {v : Value} {xs : List Value} (ho : w.ownsRow base e size v n xs) (hb : Below w.heap.size w w') : w'.ownsRow base e size v n xs := by
  refine ho.kept (row := none) ⟨hb.os, hb.tape, hb.output, hb.size, fun k hk _ => hb.block k hk⟩ ?_
  cases h : v.ownBlock with
  | none => exact .inl rfl
  | some x => exact .inr (by simp)

abbrev StrT : TypeId := 9
abbrev EntT : TypeId := 26
theorem infoStr : (Tryd.prog.info? StrT).map (fun i => (i.zero, i.size, i.bytes)) = some (some (.string ⟨#[]⟩), 1, 16) := by kernel_rfl
theorem infoEnt : (Tryd.prog.info? EntT).map (fun i => (i.zero, i.size, i.bytes)) = some (some Ent.zero.val, 11, 104) := by kernel_rfl

theorem own_entsAt {w : World} {base n : Nat} {v : Value} {l : List Ent} (h : w.ownsRow base EntT 11 v n (l.flatMap fun e => e.cells.toList)) (hn : l.length = n) : EntsAt w v l := by
  subst hn
  rcases h.2 with ⟨hv, h0⟩ | ⟨g, cap, cur, hv, hbg, hg, h1, h2, h3, h4⟩
  · have : l = [] := List.length_eq_zero_iff.1 h0
    subst this
    exact hv ▸ entsAt_nil w
  · refine ⟨some ⟨g, 0, none⟩, cap, hv, h1, by unfold maxLen at h2; omega, fun hne => ⟨g, 0, rfl, (Array.getElem?_eq_some_iff.1 hg).1, fun i hi => ?_⟩⟩
    rw [Nat.zero_add]
    have hc : ∀ j, j < 11 → w.cell? ⟨g, i * 11 + j, none⟩ = (l[i].cells.toList)[j]? := fun j hj => by
      have e1 : w.cell? ⟨g, i * 11 + j, none⟩ = cur[i * 11 + j]? := by rw [Lib.cell_of_heap hg]
      have e2 : cur[i * 11 + j]? = (l.flatMap fun e => e.cells.toList)[i * 11 + j]? := by
        rw [← h4, List.getElem?_take_of_lt (by have : i + 1 ≤ l.length := hi; have := Nat.mul_le_mul_right 11 this; omega)]
        simp
      rw [e1, e2]
      clear e1 e2 h h3 h4 hg hv hne
      induction l generalizing i with
      | nil => simp at hi
      | cons x r ih =>
        have hx : x.cells.toList.length = 11 := rfl
        cases i with
        | zero =>
          simp only [List.flatMap_cons, Nat.zero_mul, Nat.zero_add, List.getElem_cons_zero]
          rw [List.getElem?_append_left (by omega)]
        | succ i =>
          simp only [List.flatMap_cons, List.getElem_cons_succ]
          rw [List.getElem?_append_right (by omega), hx, show (i + 1) * 11 + j - 11 = i * 11 + j by omega]
          exact ih (by simp at h1; omega) i (by simpa using hi)
    have c := l[i]
    unfold EntAt
    refine ⟨hc 0 (by decide), hc 1 (by decide), hc 2 (by decide), hc 3 (by decide), hc 4 (by decide), hc 5 (by decide), hc 6 (by decide), hc 7 (by decide), hc 8 (by decide), hc 9 (by decide), hc 10 (by decide)⟩

theorem join_le : ∀ (xs : List (List UInt8)) (sep : List UInt8) (m : Nat), (∀ x ∈ xs, x.length ≤ m) → (Lib.join xs sep).length ≤ (m + sep.length) * xs.length
  | [], sep, m, _ => by simp [Lib.join_nil]
  | x :: r, sep, m, h => by
    rw [Lib.join_length]
    have : Lib.lens (x :: r) ≤ m * (x :: r).length := by
      generalize x :: r = l at *
      unfold Lib.lens
      clear x r
      induction l with
      | nil => simp
      | cons y l ih =>
        have h1 := h y (by simp)
        have h2 := ih fun z hz => h z (by simp [hz])
        simp only [List.map_cons, List.sum_cons, List.length_cons, Nat.mul_add] at *
        omega
    rw [Nat.add_mul]
    simp only [List.length_cons, Nat.mul_add] at *
    omega

/-- strings.Join of texts in a row of the call's own -/
theorem join_any (base : Nat) (v : Value) (xs : List (List UInt8)) (sep : List UInt8) (w : World) (h : w.ownsRow base StrT 1 v xs.length (xs.map fun x => .string ⟨x.toArray⟩)) (hN : xs.length ≤ 140737488355328) (hlen : (Lib.join xs sep).length ≤ 140737488355328) :
    Calls Tryd.prog 52 #[v, .string ⟨sep.toArray⟩] w fun e w' => e = .returned (.string ⟨(Lib.join xs sep).toArray⟩) ∧ Below w.heap.size w w' := by
  rcases h.2 with ⟨hv, h0⟩ | ⟨g, cap, cur, hv, hbg, hg, h1, h2, h3, h4⟩
  · have : xs = [] := List.length_eq_zero_iff.1 h0
    subst this
    rw [hv]
    exact (Tryd.strings_Join_none none 0 ⟨sep.toArray⟩ w).mono fun _ _ ⟨he, hw⟩ => ⟨by rw [he]; rfl, by rw [hw]; exact Below.refl _ _⟩
  · rw [hv]
    have hid : (xs.map fun x => ByteArray.mk x.toArray).map (·.data.toList) = xs := by
      rw [List.map_map]
      have : ((fun b : ByteArray => b.data.toList) ∘ fun x : List UInt8 => ByteArray.mk x.toArray) = id := by funext x; rfl
      rw [this, List.map_id]
    have H := Tryd.strings_Join g 0 cap (xs.map fun x => ByteArray.mk x.toArray) ⟨sep.toArray⟩ w (fun j x hj => by
      rw [Lib.cell_of_heap hg, Nat.zero_add]
      have hjl : j < xs.length := by
        have := (List.getElem?_eq_some_iff.1 hj).1
        simpa using this
      have e2 : cur[j]? = (xs.map fun x => Value.string ⟨x.toArray⟩)[j]? := by
        rw [← h4, List.getElem?_take_of_lt (by omega)]
        simp
      rw [e2]
      rw [List.getElem?_map] at hj ⊢
      cases hx : xs[j]? with
      | none => rw [hx] at hj; cases hj
      | some y => rw [hx] at hj; cases hj; rfl) (Array.getElem?_eq_some_iff.1 hg).1 (by simpa using hN) (by simpa using h1) (by rw [hid]; exact hlen)
    rw [hid, List.length_map] at H
    exact H

end Go.Proofs.YtbjbgdnjcppjhaaDoor
