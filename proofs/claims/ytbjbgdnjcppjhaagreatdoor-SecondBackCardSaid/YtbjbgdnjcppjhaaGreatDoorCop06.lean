/-
  The law's copy of its list of parts of entries: a row of its own; what Own is so far. No condition. By an AI agent.
-/
import Derived.Test.YtbjbgdnjcppjhaaGreatDoorMade06
import Derived.Test.YtbjbgdnjcppjhaaGreatDoorNoteP
import Derived.Test.YtbjbgdnjcppjhaaGreatDoorVar
namespace Go.Proofs.YtbjbgdnjcppjhaaGreatDoor.of06
open Go.RowKit
set_option linter.unusedVariables false
set_option linter.unusedSimpArgs false

abbrev MadeT : TypeId := 34
def madeZero : Value := .agg #[.int .u64 0, .int .u64 0, .int .i64 0, .int .u64 0, .int .u64 0, .int .u64 0, .int .u64 0, .int .i64 0, .int .i64 0, .string ⟨#[]⟩, .string ⟨#[]⟩, .bool false]
theorem infoMade : (Tryz.prog.info? MadeT).map (fun i => (i.zero, i.size, i.bytes)) = some (some madeZero, 12, 112) := by kernel_rfl
def madeRow (p : Ent × Bool) : List Value := p.1.cells.toList ++ [.bool p.2]
theorem madeRow_at (l : List (Ent × Bool)) : ∀ j (h : j < l.length) q, q < 12 → (l.flatMap madeRow)[j * 12 + q]? = (madeRow l[j])[q]? := by
  induction l with
  | nil => intro j h; simp at h
  | cons x r ih =>
    intro j h q hq
    have hx : (madeRow x).length = 12 := rfl
    cases j with
    | zero =>
      simp only [List.flatMap_cons, Nat.zero_mul, Nat.zero_add, List.getElem_cons_zero]
      rw [List.getElem?_append_left (by omega)]
    | succ j =>
      simp only [List.flatMap_cons, List.getElem_cons_succ]
      rw [List.getElem?_append_right (by omega), hx, show (j + 1) * 12 + q - 12 = j * 12 + q by omega]
      exact ih j (by simpa using h) q hq

/-- the copy lies in block g; of the first i of it Own is true -/
def Cop (g : Nat) (E : List Ent) (i : Nat) (w : World) : Prop :=
  ∃ cur : Array Value, w.heap[g]? = some (.cells cur MadeT (0, 0)) ∧ ∀ j (h : j < E.length), (∀ q, q < 11 → cur[j * 12 + q]? = (E[j].cells)[q]?) ∧ (∃ b, cur[j * 12 + 11]? = some (.bool b)) ∧ (j < i → cur[j * 12 + 11]? = some (.bool true))
theorem Cop.lt {g i : Nat} {E : List Ent} {w : World} (h : Cop g E i w) : g < w.heap.size := by
  obtain ⟨cur, h1, _⟩ := h
  exact (Array.getElem?_eq_some_iff.1 h1).1
theorem Cop.same {g i : Nat} {E : List Ent} {w w' : World} (h : Cop g E i w) (hb : w'.heap[g]? = w.heap[g]?) : Cop g E i w' := by
  obtain ⟨cur, h1, h2⟩ := h
  exact ⟨cur, hb.trans h1, h2⟩
theorem Cop.below {g i : Nat} {E : List Ent} {w w' : World} (h : Cop g E i w) (hb : Below w.heap.size w w') : Cop g E i w' := h.same (hb.block g h.lt)
theorem Cop.frozen {g i o : Nat} {E : List Ent} {w : World} (h : Cop g E i w) : w.frozen? ⟨g, o, none⟩ = false := by
  obtain ⟨cur, h1, _⟩ := h
  exact Lib.frozen_of_heap h1 o
theorem Cop.ent {g i j : Nat} {E : List Ent} {w : World} (h : Cop g E i w) (hj : j < E.length) : EntAt w g (j * 12) E[j] := by
  obtain ⟨cur, h1, h2⟩ := h
  have hq : ∀ q, q < 11 → w.cell? ⟨g, j * 12 + q, none⟩ = (E[j].cells)[q]? := fun q hq => (Lib.cell_of_heap h1 _).trans ((h2 j hj).1 q hq)
  exact ⟨hq 0 (by decide), hq 1 (by decide), hq 2 (by decide), hq 3 (by decide), hq 4 (by decide), hq 5 (by decide), hq 6 (by decide), hq 7 (by decide), hq 8 (by decide), hq 9 (by decide), hq 10 (by decide)⟩
theorem Cop.flag {g i j : Nat} {E : List Ent} {w : World} (h : Cop g E i w) (hj : j < E.length) : ∃ b, w.cell? ⟨g, j * 12 + 11, none⟩ = some (.bool b) := by
  obtain ⟨cur, h1, h2⟩ := h
  obtain ⟨b, hb⟩ := (h2 j hj).2.1
  exact ⟨b, (Lib.cell_of_heap h1 _).trans hb⟩
theorem Cop.own {g i j : Nat} {E : List Ent} {w : World} (h : Cop g E i w) (hj : j < E.length) (hi : j < i) : w.cell? ⟨g, j * 12 + 11, none⟩ = some (.bool true) := by
  obtain ⟨cur, h1, h2⟩ := h
  exact (Lib.cell_of_heap h1 _).trans ((h2 j hj).2.2 hi)
theorem Cop.set {g i : Nat} {E : List Ent} {w : World} (h : Cop g E i w) (hi : i < E.length) : Cop g E (i + 1) (w.setCell ⟨g, i * 12 + 11, none⟩ (.bool true)) := by
  obtain ⟨cur, h1, h2⟩ := h
  refine ⟨cur.setIfInBounds (i * 12 + 11) (.bool true), by simp [World.setCell, Array.getElem?_modify, h1], fun j hj => ?_⟩
  obtain ⟨a1, ⟨b, a2⟩, a3⟩ := h2 j hj
  have hsz : i * 12 + 11 < cur.size := by
    obtain ⟨b', hb'⟩ := (h2 i hi).2.1
    exact (Array.getElem?_eq_some_iff.1 hb').1
  refine ⟨fun q hq => ?_, ?_, fun hji => ?_⟩
  · rw [Array.getElem?_setIfInBounds_ne (by omega)]
    exact a1 q hq
  · by_cases hji : j = i
    · subst hji
      exact ⟨true, by simp [hsz]⟩
    · exact ⟨b, by rw [Array.getElem?_setIfInBounds_ne (by omega)]; exact a2⟩
  · by_cases he : j = i
    · subst he
      simp [hsz]
    · rw [Array.getElem?_setIfInBounds_ne (by omega)]
      exact a3 (by omega)
/-- the copy, as append answers it -/
theorem cop_of_row {w : World} {base n : Nat} {v : Value} {l : List (Ent × Bool)} (h : w.ownsRow base MadeT 12 v n (l.flatMap madeRow)) (hn : n = l.length) (hb : base ≤ w.heap.size) :
    ∃ g a c, v = .slice a l.length c ∧ base ≤ g ∧ (l ≠ [] → a = some ⟨g, 0, none⟩ ∧ Cop g (l.map (·.1)) 0 w) := by
  subst hn
  rcases h.2 with ⟨hv, h0⟩ | ⟨g, cap, cur, hv, hbg, hg, h1, h2, h3, h4⟩
  · exact ⟨base, none, 0, by rw [hv, h0], Nat.le_refl _, fun hne => absurd (List.length_eq_zero_iff.1 h0) hne⟩
  · refine ⟨g, some ⟨g, 0, none⟩, cap, hv, hbg, fun _ => ⟨rfl, cur, hg, fun j hj => ?_⟩⟩
    rw [List.length_map] at hj
    have hc : ∀ q, q < 12 → cur[j * 12 + q]? = (madeRow l[j])[q]? := fun q hq => by
      rw [← madeRow_at l j hj q hq, ← h4, List.getElem?_take_of_lt (by have : j + 1 ≤ l.length := hj; have := Nat.mul_le_mul_right 12 this; omega)]
      simp
    refine ⟨fun q hq => ?_, ⟨l[j].2, hc 11 (by decide)⟩, fun h => absurd h (Nat.not_lt_zero _)⟩
    rw [hc q (by omega), List.getElem_map]
    unfold madeRow
    rw [List.getElem?_append_left (by show q < 11; exact hq)]
    simp

theorem entAt_cell {w : World} {B o : Nat} {e : Ent} (h : EntAt w B o e) : ∀ q, q < 11 → w.cell? ⟨B, o + q, none⟩ = (e.cells.toList)[q]? := by
  obtain ⟨c0, c1, c2, c3, c4, c5, c6, c7, c8, c9, c10⟩ := h
  intro q hq
  match q, hq with
  | 0, _ => exact c0
  | 1, _ => exact c1
  | 2, _ => exact c2
  | 3, _ => exact c3
  | 4, _ => exact c4
  | 5, _ => exact c5
  | 6, _ => exact c6
  | 7, _ => exact c7
  | 8, _ => exact c8
  | 9, _ => exact c9
  | 10, _ => exact c10
  | q + 11, h => exact absurd h (by omega)
theorem madeRow_len (l : List (Ent × Bool)) : (l.flatMap madeRow).length = l.length * 12 := by
  induction l with
  | nil => rfl
  | cons x r ih =>
    have hx : (madeRow x).length = 12 := rfl
    rw [List.flatMap_cons, List.length_append, ih, hx, List.length_cons]
    omega
/-- what is copied -/
theorem news_of {w : World} {B o : Nat} {l : List (Ent × Bool)} (n : Nat) (h : ∀ i (h : i < l.length), EntAt w B (o + i * 12) l[i].1 ∧ w.cell? ⟨B, o + i * 12 + 11, none⟩ = some (.bool l[i].2)) :
    ∀ j u, ((l.take n).flatMap madeRow)[j]? = some u → w.cell? ((⟨B, o, none⟩ : Addr).add j) = some u := by
  intro j u hu
  have hj : j < ((l.take n).flatMap madeRow).length := (List.getElem?_eq_some_iff.1 hu).1
  rw [madeRow_len] at hj
  have hi : j / 12 < (l.take n).length := Nat.div_lt_of_lt_mul (by omega)
  have hil : j / 12 < l.length := by simp at hi; omega
  have hq : j % 12 < 12 := Nat.mod_lt _ (by decide)
  have hd : j / 12 * 12 + j % 12 = j := by have := Nat.div_add_mod j 12; omega
  rw [← hd, madeRow_at (l.take n) (j / 12) hi (j % 12) hq, List.getElem_take] at hu
  have hadd : (⟨B, o, none⟩ : Addr).add j = ⟨B, o + j / 12 * 12 + j % 12, none⟩ := by
    have e : o + j / 12 * 12 + j % 12 = o + j := by omega
    rw [e]
    unfold Addr.add
    split
    · simp_all
    · rfl
  rw [hadd]
  obtain ⟨he, hf⟩ := h (j / 12) hil
  generalize j % 12 = q at *
  unfold madeRow at hu
  by_cases h11 : q = 11
  · subst h11
    have : (l[j / 12].1.cells.toList ++ [Value.bool l[j / 12].2])[11]? = some (.bool l[j / 12].2) := rfl
    rw [this] at hu
    rw [hf, ← hu]
  · rw [entAt_cell he q (by omega), ← hu, List.getElem?_append_left (by show q < 11; omega)]

end Go.Proofs.YtbjbgdnjcppjhaaGreatDoor.of06
