/-
  THE BOUND OF THE SECOND FORM: what an argument's bulk says of the texts and slices in it. No condition. By an AI agent.
-/
import Derived.Test.YtbjbgdnjcppjhaaDoorOpenN
namespace Go.Proofs.YtbjbgdnjcppjhaaDoor
open Go.RowKit
set_option linter.unusedVariables false

theorem bulk_part {H : Type} {d : DataW H} {l : List (DataW H)} (h : d ∈ l) : Rows.uptoBulk d ≤ Rows.uptoBulkAll l := by
  induction l with
  | nil => cases h
  | cons x r ih =>
    simp only [Rows.uptoBulkAll]
    rcases List.mem_cons.1 h with rfl | e
    · omega
    · have := ih e; omega
theorem bulk_agg {H : Type} {d : DataW H} {l : List (DataW H)} (h : d ∈ l) : Rows.uptoBulk d ≤ Rows.uptoBulk (.agg l) := by
  have := bulk_part h
  simp only [Rows.uptoBulk]
  omega
theorem bulk_string {H : Type} (s : ByteArray) : s.size ≤ Rows.uptoBulk (DataW.lit (H := H) (.string s.data.toList)) := by
  simp [Rows.uptoBulk]
theorem bulk_elem {H : Type} {d : DataW H} {l r : List (DataW H)} (h : d ∈ l) : Rows.uptoBulk d ≤ Rows.uptoBulk (.slice l r) := by
  have := bulk_part h
  simp only [Rows.uptoBulk]
  omega
theorem bulk_pos {H : Type} (d : DataW H) : 1 ≤ Rows.uptoBulk d := by
  cases d with
  | lit l => cases l <;> simp [Rows.uptoBulk]
  | nil => simp [Rows.uptoBulk]
  | ptr d => simp [Rows.uptoBulk]
  | slice elems spare => simp [Rows.uptoBulk]
  | agg parts => simp [Rows.uptoBulk]
  | iface t d => simp [Rows.uptoBulk]
  | map entries => simp [Rows.uptoBulk]
  | held h => simp [Rows.uptoBulk]
theorem bulk_count {H : Type} (l r : List (DataW H)) : l.length ≤ Rows.uptoBulk (.slice l r) := by
  have h : ∀ l : List (DataW H), l.length ≤ Rows.uptoBulkAll l := fun l => by
    induction l with
    | nil => simp [Rows.uptoBulkAll]
    | cons x r ih => have := bulk_pos x; simp only [Rows.uptoBulkAll, List.length_cons]; omega
  have := h l
  simp only [Rows.uptoBulk]
  omega
theorem bulk_left {H : Type} (l r : List (DataW H)) : Rows.uptoBulkAll l ≤ Rows.uptoBulkAll (l ++ r) := by
  induction l with
  | nil => simp [Rows.uptoBulkAll]
  | cons x l ih => simp only [List.cons_append, Rows.uptoBulkAll]; omega
theorem bulk_bound {H : Type} {l : List (DataW H)} (hk : Rows.uptoSmall H l = true) : Rows.uptoBulkAll l ≤ 1048576 := by
  simpa [Rows.uptoSmall] using hk

/-- an entry's texts are no longer than a number says -/
def Ent.upTo (e : Ent) (n : Nat) : Prop := e.data.size ≤ n ∧ e.old.size ≤ n
theorem Ent.upTo.mono {e : Ent} {m n : Nat} (h : e.upTo m) (hmn : m ≤ n) : e.upTo n := ⟨Nat.le_trans h.1 hmn, Nat.le_trans h.2 hmn⟩

section
variable {H : Type} {enc : TypeId × Value → H} {w : World} {base : Nat} {spare : Nat → Bool} {held : Bool} {fuel : Nat} {cs : List Value} {x : DataW H × List MemPlace}
set_option maxRecDepth 100000 in
theorem ent_bulk (h : DataW.trod enc Tryd.prog w base spare held fuel 26 cs = some x) : ∃ e : Ent, e.wf ∧ cs = e.cells.toList ∧ e.upTo (Rows.uptoBulk x.1) := by
  obtain ⟨e, he, rfl⟩ := ent_trod h
  refine ⟨e, he, rfl, ?_⟩
  obtain ⟨xs, n, _, hx, _, hxl, hf⟩ := DataW.trod_struct Tryd.underlying26 h
  have hxl' : xs.length = 11 := hxl
  have g9 := (hf 9 ⟨ "Data", 9, 9, false, "", "", 72⟩ rfl).trans (List.getElem?_eq_getElem (show 9 < xs.length by omega))
  have g10 := (hf 10 ⟨ "Old", 9, 10, false, "", "", 88⟩ rfl).trans (List.getElem?_eq_getElem (show 10 < xs.length by omega))
  simp only [one_string] at g9 g10
  obtain ⟨a9, e9, f9, _⟩ := DataW.trod_string Tryd.underlying9 g9
  obtain ⟨a10, e10, f10, _⟩ := DataW.trod_string Tryd.underlying9 g10
  cases (show Value.string e.data = _ from List.head_eq_of_cons_eq e9)
  cases (show Value.string e.old = _ from List.head_eq_of_cons_eq e10)
  have m9 : (xs[9]'(by omega)).1 ∈ xs.map (·.1) := List.mem_map.2 ⟨_, List.getElem_mem _, rfl⟩
  have m10 : (xs[10]'(by omega)).1 ∈ xs.map (·.1) := List.mem_map.2 ⟨_, List.getElem_mem _, rfl⟩
  rw [f9] at m9
  rw [f10] at m10
  rw [hx]
  exact ⟨Nat.le_trans (bulk_string _) (bulk_agg m9), Nat.le_trans (bulk_string _) (bulk_agg m10)⟩

set_option maxRecDepth 100000 in
theorem made_bulk (h : DataW.trod enc Tryd.prog w base spare held fuel 30 cs = some x) : ∃ (e : Ent) (own : Bool), e.wf ∧ cs = e.cells.toList ++ [.bool own] ∧ e.upTo (Rows.uptoBulk x.1) := by
  obtain ⟨e, own, he, rfl⟩ := made_trod h
  refine ⟨e, own, he, rfl, ?_⟩
  obtain ⟨xs, n, _, hx, _, hxl, hf⟩ := DataW.trod_struct Tryd.underlying30 h
  have hxl' : xs.length = 2 := hxl
  have g0 := (hf 0 ⟨ "E", 26, 0, false, "", "", 0⟩ rfl).trans (List.getElem?_eq_getElem (show 0 < xs.length by omega))
  simp only [cells_ent] at g0
  obtain ⟨e', he', hc, hu⟩ := ent_bulk g0
  have hce : e.cells.toList = e'.cells.toList := hc
  have hee : e = e' := by
    obtain ⟨a1, a2, a3, a4, a5, a6, a7, a8, a9, a10, a11⟩ := e
    obtain ⟨b1, b2, b3, b4, b5, b6, b7, b8, b9, b10, b11⟩ := e'
    simp only [Ent.cells, List.cons.injEq, Value.int.injEq, Value.string.injEq, true_and, and_true] at hce
    simp only [Ent.mk.injEq]
    exact hce
  subst hee
  rw [hx]
  exact hu.mono (bulk_agg (List.mem_map.2 ⟨_, List.getElem_mem _, rfl⟩))

/-- the argument itself -/
theorem made_upTo {ps : List MemPlace} {d : DataW H} {e : Ent} {own : Bool} {n : Nat} (h : DataW.Trod enc Tryd.prog w base spare held 30 (.agg (e.cells ++ #[.bool own])) d ps) (hn : Rows.uptoBulk d ≤ n) : e.upTo n := by
  obtain ⟨fuel, h⟩ := h
  obtain ⟨e', own', _, hc, hu⟩ := made_bulk h
  have hce : (Value.agg (e.cells ++ #[.bool own])).cells.toList = e'.cells.toList ++ [.bool own'] := hc
  have hee : e = e' := by
    obtain ⟨a1, a2, a3, a4, a5, a6, a7, a8, a9, a10, a11⟩ := e
    obtain ⟨b1, b2, b3, b4, b5, b6, b7, b8, b9, b10, b11⟩ := e'
    simp [Ent.cells, Value.cells] at hce
    simp only [Ent.mk.injEq]
    obtain ⟨h1, h2, h3, h4, h5, h6, h7, h8, h9, h10, h11, _⟩ := hce
    exact ⟨h1, h2, h3, h4, h5, h6, h7, h8, h9, h10, h11⟩
  subst hee
  exact hu.mono hn

/-- a slice of entries' parts, as it lies in memory -/
theorem mades_bulk {s : Value} (hs : ∀ a n c, s = .slice (some a) n c → a.spot = none) (h : DataW.trod enc Tryd.prog w base spare held fuel 45 [s] = some x) : ∃ l : List (Ent × Bool), MadesAt w s l ∧ ∀ p ∈ l, p.1.wf ∧ p.1.upTo (Rows.uptoBulk x.1) := by
  rcases DataW.trod_slice Tryd.underlying45 h with ⟨h1, _⟩ | ⟨a, len, cap, elems, rest, n, _, h1, hx, _, hlc, hcm, hel, hE, _⟩
  · obtain rfl := List.head_eq_of_cons_eq h1
    exact ⟨[], ⟨none, 0, rfl, Nat.le_refl _, by decide, fun h => absurd rfl h⟩, fun p hp => by cases hp⟩
  · obtain rfl := List.head_eq_of_cons_eq h1
    have hsp := hs _ _ _ rfl
    obtain ⟨B, o, sp⟩ := a
    dsimp only at hsp
    subst hsp
    have hone : ∀ i : Fin len, ∃ p : Ent × Bool, (p.1.wf ∧ p.1.upTo (Rows.uptoBulk x.1)) ∧ EntAt w B (o + i.1 * 12) p.1 ∧ w.cell? ⟨B, o + i.1 * 12 + 11, none⟩ = some (.bool p.2) := fun i => by
      have h2 := (hE i.1 i.2).trans (List.getElem?_eq_getElem (show i.1 < elems.length by omega))
      rw [cells_made, add_none] at h2
      obtain ⟨cs', hc, ht⟩ := Option.bind_eq_some_iff.1 h2
      obtain ⟨_, _, hat⟩ := World.cells?_some hc
      obtain ⟨e, own, he, rfl, hu⟩ := made_bulk ht
      have hu2 : e.upTo (Rows.uptoBulk x.1) := hu.mono (by rw [hx]; exact bulk_elem (List.mem_map.2 ⟨_, List.getElem_mem _, rfl⟩))
      refine ⟨(e, own), ⟨he, hu2⟩, entAt_cells hat (by decide), ?_⟩
      have := hat 11 (by decide)
      rw [add_none] at this
      exact this
    let f : Fin len → Ent × Bool := fun i => (hone i).choose
    have hf := fun i => (hone i).choose_spec
    have hlen : (List.ofFn f).length = len := List.length_ofFn
    refine ⟨List.ofFn f, ⟨some ⟨B, o, none⟩, cap, by rw [hlen], by omega, by have : maxLen ≤ 9223372036854775807 := by decide
                                                                             omega, fun hne => ⟨B, o, rfl, ?_, fun i hi => ?_⟩⟩, fun p hp => ?_⟩
    · have hpos : 0 < len := by
        rcases Nat.eq_zero_or_pos len with h0 | h0
        · exact absurd (List.length_eq_zero_iff.1 (hlen.trans h0)) hne
        · exact h0
      exact cell_lt (hf ⟨0, hpos⟩).2.2
    · rw [hlen] at hi
      have e1 : (List.ofFn f)[i]'(by rw [hlen]; exact hi) = f ⟨i, hi⟩ := by simp
      rw [e1]
      exact (hf ⟨i, hi⟩).2
    · obtain ⟨i, hi⟩ := List.mem_ofFn.1 hp
      rw [← hi]
      exact (hf i).1
end

end Go.Proofs.YtbjbgdnjcppjhaaDoor
