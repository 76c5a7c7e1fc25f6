/-
  What an argument may be: a note by its parts: a message's cells, a slice of entries' parts as it lies in memory. No condition. By an AI agent.
-/
import Derived.Test.YtbjbgdnjcppjhaaDoorOpen
import Derived.Test.YtbjbgdnjcppjhaaDoorNoteP
import Derived.DataReads
import Derived.ChangeArms
namespace Go.Proofs.YtbjbgdnjcppjhaaDoor
open Go.RowKit
set_option linter.unusedVariables false

section
variable {H : Type} {enc : TypeId × Value → H} {w : World} {base : Nat} {spare : Nat → Bool} {held : Bool} {fuel : Nat} {cs : List Value} {x : DataW H × List MemPlace}
theorem wf_u64 {n : Int} (h : (Lit.int .u64 n).wf = true) : U64 n := by
  unfold Lit.wf at h
  simp only [Bool.and_eq_true, decide_eq_true_eq] at h
  exact h
theorem wf_i64 {n : Int} (h : (Lit.int .i64 n).wf = true) : I64 n := by
  unfold Lit.wf at h
  simp only [Bool.and_eq_true, decide_eq_true_eq] at h
  exact h
theorem cells_ent : Tryd.prog.cellsOf 26 = 11 := by kernel_rfl
theorem cells_made : Tryd.prog.cellsOf 30 = 12 := by kernel_rfl
theorem one_u64 : Tryd.prog.cellsOf 23 = 1 := by kernel_rfl
theorem one_int : Tryd.prog.cellsOf 3 = 1 := by kernel_rfl
theorem one_string : Tryd.prog.cellsOf 9 = 1 := by kernel_rfl
theorem one_bool : Tryd.prog.cellsOf 4 = 1 := by kernel_rfl
theorem trod_field {P : Program} {n : Nat} {t : TypeId} {l : List Value} {y : Option (DataW H × List MemPlace)} {z : DataW H × List MemPlace} (h : DataW.trod enc P w base spare held n t l = y) (hy : y = some z) : DataW.trod enc P w base spare held n t l = some z := h.trans hy

set_option maxRecDepth 100000 in
theorem ent_trod (h : DataW.trod enc Tryd.prog w base spare held fuel 26 cs = some x) : ∃ e : Ent, e.wf ∧ cs = e.cells.toList := by
  obtain ⟨xs, n, _, _, hl, hxl, hf⟩ := DataW.trod_struct Tryd.underlying26 h
  rw [cells_ent] at hl
  match cs, hl with
  | [v0, v1, v2, v3, v4, v5, v6, v7, v8, v9, v10], _ =>
    have hxl' : xs.length = 11 := hxl
    have g0 := (hf 0 ⟨ "Term", 23, 0, false, "", "", 0⟩ rfl).trans (List.getElem?_eq_getElem (show 0 < xs.length by omega))
    simp only [one_u64] at g0
    obtain ⟨a0, e0, _, b0⟩ := DataW.trod_int Tryd.underlying23 g0
    cases (show v0 = _ from List.head_eq_of_cons_eq e0)
    have g1 := (hf 1 ⟨ "Index", 23, 1, false, "", "", 8⟩ rfl).trans (List.getElem?_eq_getElem (show 1 < xs.length by omega))
    simp only [one_u64] at g1
    obtain ⟨a1, e1, _, b1⟩ := DataW.trod_int Tryd.underlying23 g1
    cases (show v1 = _ from List.head_eq_of_cons_eq e1)
    have g2 := (hf 2 ⟨ "Kind", 3, 2, false, "", "", 16⟩ rfl).trans (List.getElem?_eq_getElem (show 2 < xs.length by omega))
    simp only [one_int] at g2
    obtain ⟨a2, e2, _, b2⟩ := DataW.trod_int Tryd.underlying3 g2
    cases (show v2 = _ from List.head_eq_of_cons_eq e2)
    have g3 := (hf 3 ⟨ "Client", 23, 3, false, "", "", 24⟩ rfl).trans (List.getElem?_eq_getElem (show 3 < xs.length by omega))
    simp only [one_u64] at g3
    obtain ⟨a3, e3, _, b3⟩ := DataW.trod_int Tryd.underlying23 g3
    cases (show v3 = _ from List.head_eq_of_cons_eq e3)
    have g4 := (hf 4 ⟨ "Seq", 23, 4, false, "", "", 32⟩ rfl).trans (List.getElem?_eq_getElem (show 4 < xs.length by omega))
    simp only [one_u64] at g4
    obtain ⟨a4, e4, _, b4⟩ := DataW.trod_int Tryd.underlying23 g4
    cases (show v4 = _ from List.head_eq_of_cons_eq e4)
    have g5 := (hf 5 ⟨ "Block", 23, 5, false, "", "", 40⟩ rfl).trans (List.getElem?_eq_getElem (show 5 < xs.length by omega))
    simp only [one_u64] at g5
    obtain ⟨a5, e5, _, b5⟩ := DataW.trod_int Tryd.underlying23 g5
    cases (show v5 = _ from List.head_eq_of_cons_eq e5)
    have g6 := (hf 6 ⟨ "Many", 23, 6, false, "", "", 48⟩ rfl).trans (List.getElem?_eq_getElem (show 6 < xs.length by omega))
    simp only [one_u64] at g6
    obtain ⟨a6, e6, _, b6⟩ := DataW.trod_int Tryd.underlying23 g6
    cases (show v6 = _ from List.head_eq_of_cons_eq e6)
    have g7 := (hf 7 ⟨ "Node", 3, 7, false, "", "", 56⟩ rfl).trans (List.getElem?_eq_getElem (show 7 < xs.length by omega))
    simp only [one_int] at g7
    obtain ⟨a7, e7, _, b7⟩ := DataW.trod_int Tryd.underlying3 g7
    cases (show v7 = _ from List.head_eq_of_cons_eq e7)
    have g8 := (hf 8 ⟨ "Level", 3, 8, false, "", "", 64⟩ rfl).trans (List.getElem?_eq_getElem (show 8 < xs.length by omega))
    simp only [one_int] at g8
    obtain ⟨a8, e8, _, b8⟩ := DataW.trod_int Tryd.underlying3 g8
    cases (show v8 = _ from List.head_eq_of_cons_eq e8)
    have g9 := (hf 9 ⟨ "Data", 9, 9, false, "", "", 72⟩ rfl).trans (List.getElem?_eq_getElem (show 9 < xs.length by omega))
    simp only [one_string] at g9
    obtain ⟨a9, e9, _, b9⟩ := DataW.trod_string Tryd.underlying9 g9
    cases (show v9 = _ from List.head_eq_of_cons_eq e9)
    have g10 := (hf 10 ⟨ "Old", 9, 10, false, "", "", 88⟩ rfl).trans (List.getElem?_eq_getElem (show 10 < xs.length by omega))
    simp only [one_string] at g10
    obtain ⟨a10, e10, _, b10⟩ := DataW.trod_string Tryd.underlying9 g10
    cases (show v10 = _ from List.head_eq_of_cons_eq e10)
    exact ⟨⟨a0, a1, a2, a3, a4, a5, a6, a7, a8, a9, a10⟩, ⟨wf_u64 b0, wf_u64 b1, wf_i64 b2, wf_u64 b3, wf_u64 b4, wf_u64 b5, wf_u64 b6, wf_i64 b7, wf_i64 b8, Nat.le_trans b9 (by decide), Nat.le_trans b10 (by decide)⟩, rfl⟩

set_option maxRecDepth 100000 in
theorem made_trod (h : DataW.trod enc Tryd.prog w base spare held fuel 30 cs = some x) : ∃ (e : Ent) (own : Bool), e.wf ∧ cs = e.cells.toList ++ [.bool own] := by
  obtain ⟨xs, n, _, _, hl, hxl, hf⟩ := DataW.trod_struct Tryd.underlying30 h
  rw [cells_made] at hl
  have hxl' : xs.length = 2 := hxl
  have g0 := (hf 0 ⟨ "E", 26, 0, false, "", "", 0⟩ rfl).trans (List.getElem?_eq_getElem (show 0 < xs.length by omega))
  have g1 := (hf 1 ⟨ "Own", 4, 11, false, "", "", 104⟩ rfl).trans (List.getElem?_eq_getElem (show 1 < xs.length by omega))
  simp only [cells_ent, one_bool] at g0 g1
  obtain ⟨e, he, hc⟩ := ent_trod g0
  obtain ⟨own, ho, _⟩ := DataW.trod_bool Tryd.underlying4 g1
  refine ⟨e, own, he, ?_⟩
  rw [← hc, ← ho]
  match cs, hl with
  | [v0, v1, v2, v3, v4, v5, v6, v7, v8, v9, v10, v11], _ => rfl

theorem add_none {b o n : Nat} : (⟨b, o, none⟩ : Addr).add n = ⟨b, o + n, none⟩ := by
  unfold Addr.add
  split
  · simp_all
  · rfl

theorem entAt_cells {b o n : Nat} {e : Ent} {r : List Value} (h : ∀ j, j < n → w.cell? ((⟨b, o, none⟩ : Addr).add j) = (e.cells.toList ++ r)[j]?) (hn : 11 ≤ n) : EntAt w b o e := by
  have g : ∀ j, j < n → w.cell? ⟨b, o + j, none⟩ = (e.cells.toList ++ r)[j]? := fun j hj => by rw [← add_none]; exact h j hj
  exact ⟨g 0 (by omega), g 1 (by omega), g 2 (by omega), g 3 (by omega), g 4 (by omega), g 5 (by omega), g 6 (by omega), g 7 (by omega), g 8 (by omega), g 9 (by omega), g 10 (by omega)⟩

/-- a slice of entries' parts, as it lies in memory -/
theorem mades_trod {s : Value} (hs : ∀ a n c, s = .slice (some a) n c → a.spot = none) (h : DataW.trod enc Tryd.prog w base spare held fuel 45 [s] = some x) : ∃ l : List (Ent × Bool), MadesAt w s l ∧ ∀ p ∈ l, p.1.wf := by
  rcases DataW.trod_slice Tryd.underlying45 h with ⟨h1, _⟩ | ⟨a, len, cap, elems, rest, n, _, h1, _, _, hlc, hcm, hel, hE, _⟩
  · obtain rfl := List.head_eq_of_cons_eq h1
    exact ⟨[], ⟨none, 0, rfl, Nat.le_refl _, by decide, fun h => absurd rfl h⟩, fun p hp => by cases hp⟩
  · obtain rfl := List.head_eq_of_cons_eq h1
    have hsp := hs _ _ _ rfl
    obtain ⟨B, o, sp⟩ := a
    dsimp only at hsp
    subst hsp
    have hone : ∀ i : Fin len, ∃ p : Ent × Bool, p.1.wf ∧ EntAt w B (o + i.1 * 12) p.1 ∧ w.cell? ⟨B, o + i.1 * 12 + 11, none⟩ = some (.bool p.2) := fun i => by
      have h2 := (hE i.1 i.2).trans (List.getElem?_eq_getElem (show i.1 < elems.length by omega))
      rw [cells_made, add_none] at h2
      obtain ⟨cs', hc, ht⟩ := Option.bind_eq_some_iff.1 h2
      obtain ⟨_, _, hat⟩ := World.cells?_some hc
      obtain ⟨e, own, he, rfl⟩ := made_trod ht
      refine ⟨(e, own), he, entAt_cells hat (by decide), ?_⟩
      have := hat 11 (by decide)
      rw [add_none] at this
      exact this
    let f : Fin len → Ent × Bool := fun i => (hone i).choose
    have hf := fun i => (hone i).choose_spec
    have hlen : (List.ofFn f).length = len := List.length_ofFn
    refine ⟨List.ofFn f, ⟨some ⟨B, o, none⟩, cap, by rw [hlen], by omega, by have : maxLen ≤ 9223372036854775807 := by decide
                                                                             omega, fun hne => ⟨B, o, rfl, ?_, fun i hi => ?_⟩⟩, fun p hp => ?_⟩
    · have hpos : 0 < len := by
        rcases Nat.eq_zero_or_pos len with h0 | h0
        · exact absurd (List.length_eq_zero_iff.1 (hlen.trans h0)) hne
        · exact h0
      exact cell_lt (hf ⟨0, hpos⟩).2.2
    · rw [hlen] at hi
      have e1 : (List.ofFn f)[i]'(by rw [hlen]; exact hi) = f ⟨i, hi⟩ := by simp
      rw [e1]
      exact (hf ⟨i, hi⟩).2
    · obtain ⟨i, hi⟩ := List.mem_ofFn.1 hp
      rw [← hi]
      exact (hf i).1
end

theorem cell_slice {P : Program} {W : World} {r : Reach} {b : Nat} {u e : TypeId} {v : Value} (hu : P.underlying u = some (.slice e)) (h : Cell.okWide P W r b u v) : ∃ a n c, v = .slice a n c ∧ ∀ a', a = some a' → a'.spot = none := by
  unfold Cell.okWide Cell.ok at h
  rw [hu] at h
  cases v <;> simp at h
  rename_i a n c
  cases a with
  | none => exact ⟨none, n, c, rfl, fun a' h => by cases h⟩
  | some a =>
    simp at h
    exact ⟨some a, n, c, rfl, fun a' h' => by cases h'; exact h.2.2.2.1⟩
theorem noteCells : Tryd.prog.cellTypes Tryd.prog.depth 47 = some [3, 3, 3, 23, 23, 23, 23, 23, 4, 40, 9, 4, 45] := by kernel_rfl
theorem noteSize : Tryd.prog.cellsOf 47 = 13 := by kernel_rfl
theorem one_ents : Tryd.prog.cellsOf 40 = 1 := by kernel_rfl
theorem one_mades : Tryd.prog.cellsOf 45 = 1 := by kernel_rfl

set_option maxRecDepth 100000 in
/-- a note: a message's numbers, whether it is to be right, the parts of its entries; its own entries' slice as it stands -/
theorem open_note {H : Type} {enc : TypeId × Value → H} {W : World} {r : Reach} {base b0 : Nat} {spare : Nat → Bool} {held : Bool} {v : Value} {d : DataW H} {ps : List MemPlace} (h : Value.okWide Tryd.prog W r base 47 v)
    (ht : DataW.Trod enc Tryd.prog W b0 spare held 47 v d ps) :
    ∃ (m : Msg) (sa : Option Addr) (sn sc : Nat) (own : Bool) (sL : Value) (L : List (Ent × Bool)), (I64 m.kind ∧ I64 m.frm ∧ I64 m.to ∧ U64 m.term ∧ U64 m.index ∧ U64 m.prev ∧ U64 m.commit ∧ U64 m.mark) ∧ m.snap.size ≤ 9223372036854775807 ∧ (∀ p ∈ L, p.1.wf) ∧
      MadesAt W sL L ∧ (∀ a', sa = some a' → a'.spot = none) ∧ (∃ n x, DataW.trod enc Tryd.prog W b0 spare held n 40 [.slice sa sn sc] = some x) ∧ v = .agg (m.cells (.slice sa sn sc) ++ #[.bool own, sL]) := by
  unfold Value.okWide at h
  rw [Tryd.underlying47] at h
  obtain ⟨cs, rfl, hsz, ts, hts, _, hc⟩ := h
  rw [noteSize] at hsz
  rw [noteCells] at hts
  cases hts
  obtain ⟨l⟩ := cs
  match l, hsz with
  | [v0, v1, v2, v3, v4, v5, v6, v7, v8, v9, v10, v11, v12], _ =>
    obtain ⟨_, e0, h0⟩ := hc 0 v0 rfl
    obtain ⟨_, e1, h1⟩ := hc 1 v1 rfl
    obtain ⟨_, e2, h2⟩ := hc 2 v2 rfl
    obtain ⟨_, e3, h3⟩ := hc 3 v3 rfl
    obtain ⟨_, e4, h4⟩ := hc 4 v4 rfl
    obtain ⟨_, e5, h5⟩ := hc 5 v5 rfl
    obtain ⟨_, e6, h6⟩ := hc 6 v6 rfl
    obtain ⟨_, e7, h7⟩ := hc 7 v7 rfl
    obtain ⟨_, e8, h8⟩ := hc 8 v8 rfl
    obtain ⟨_, e9, h9⟩ := hc 9 v9 rfl
    obtain ⟨_, e10, h10⟩ := hc 10 v10 rfl
    obtain ⟨_, e11, h11⟩ := hc 11 v11 rfl
    obtain ⟨_, e12, h12⟩ := hc 12 v12 rfl
    cases e0; cases e1; cases e2; cases e3; cases e4; cases e5; cases e6; cases e7; cases e8; cases e9; cases e10; cases e11; cases e12
    obtain ⟨a0, rfl, b0⟩ := cell_int Tryd.underlying3 h0
    obtain ⟨a1, rfl, b1⟩ := cell_int Tryd.underlying3 h1
    obtain ⟨a2, rfl, b2⟩ := cell_int Tryd.underlying3 h2
    obtain ⟨a3, rfl, b3⟩ := cell_int Tryd.underlying23 h3
    obtain ⟨a4, rfl, b4⟩ := cell_int Tryd.underlying23 h4
    obtain ⟨a5, rfl, b5⟩ := cell_int Tryd.underlying23 h5
    obtain ⟨a6, rfl, b6⟩ := cell_int Tryd.underlying23 h6
    obtain ⟨a7, rfl, b7⟩ := cell_int Tryd.underlying23 h7
    obtain ⟨a8, rfl⟩ := cell_bool Tryd.underlying4 h8
    obtain ⟨sa, sn, sc, rfl, hsa⟩ := cell_slice Tryd.underlying40 h9
    obtain ⟨a10, rfl, b10⟩ := cell_string Tryd.underlying9 h10
    obtain ⟨a11, rfl⟩ := cell_bool Tryd.underlying4 h11
    obtain ⟨la, ln, lc, rfl, hla⟩ := cell_slice Tryd.underlying45 h12
    obtain ⟨fuel, ht⟩ := ht
    obtain ⟨xs, n, _, _, _, hxl, hf⟩ := DataW.trod_struct Tryd.underlying47 ht
    have hxl' : xs.length = 3 := hxl
    have g0 := (hf 0 ⟨ "M", 42, 0, false, "", "", 0⟩ rfl).trans (List.getElem?_eq_getElem (show 0 < xs.length by omega))
    have g2 := (hf 2 ⟨ "L", 45, 12, false, "", "", 120⟩ rfl).trans (List.getElem?_eq_getElem (show 2 < xs.length by omega))
    simp only [one_mades] at g2
    obtain ⟨L, hL, hw⟩ := mades_trod (s := .slice la ln lc) (fun a n c h => by cases h; exact hla a rfl) g2
    obtain ⟨ys, n', _, _, _, hyl, hg⟩ := DataW.trod_struct Tryd.underlying42 g0
    have hyl' : ys.length = 11 := hyl
    have k9 := (hg 9 ⟨ "Entries", 40, 9, false, "", "", 72⟩ rfl).trans (List.getElem?_eq_getElem (show 9 < ys.length by omega))
    simp only [one_ents, show Tryd.prog.cellsOf 42 = 11 by kernel_rfl] at k9
    exact ⟨⟨a0, a1, a2, a3, a4, a5, a6, a7, a8, a10, []⟩, sa, sn, sc, a11, .slice la ln lc, L, ⟨b0, b1, b2, b3, b4, b5, b6, b7⟩, b10, hw, hL, hsa, ⟨n', _, k9⟩, rfl⟩

end Go.Proofs.YtbjbgdnjcppjhaaDoor
