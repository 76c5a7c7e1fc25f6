/-
  What an argument of law06 may be: an entry by its parts, a note by its parts. No condition. By an AI agent.
-/
import Derived.Test.YtbjbgdnjcppjhaaGreatDoorZOpen
namespace Go.Proofs.YtbjbgdnjcppjhaaGreatDoor.of06
open Go.RowKit
set_option linter.unusedVariables false

theorem madeCells : Tryz.prog.cellTypes Tryz.prog.depth 34 = some [23, 23, 3, 23, 23, 23, 23, 3, 3, 9, 9, 4] := by kernel_rfl
theorem madeSize : Tryz.prog.cellsOf 34 = 12 := by kernel_rfl

set_option maxRecDepth 100000 in
theorem open_made {W : World} {r : Reach} {base : Nat} {v : Value} (h : Value.okWide Tryz.prog W r base 34 v) : ∃ (e : Ent) (own : Bool), e.wf ∧ v = .agg (e.cells ++ #[.bool own]) := by
  unfold Value.okWide at h
  rw [Tryz.underlying34] at h
  obtain ⟨cs, rfl, hsz, ts, hts, _, hc⟩ := h
  rw [madeSize] at hsz
  rw [madeCells] at hts
  cases hts
  obtain ⟨l⟩ := cs
  match l, hsz with
  | [v0, v1, v2, v3, v4, v5, v6, v7, v8, v9, v10, v11], _ =>
    obtain ⟨_, e0, h0⟩ := hc 0 v0 rfl
    obtain ⟨_, e1, h1⟩ := hc 1 v1 rfl
    obtain ⟨_, e2, h2⟩ := hc 2 v2 rfl
    obtain ⟨_, e3, h3⟩ := hc 3 v3 rfl
    obtain ⟨_, e4, h4⟩ := hc 4 v4 rfl
    obtain ⟨_, e5, h5⟩ := hc 5 v5 rfl
    obtain ⟨_, e6, h6⟩ := hc 6 v6 rfl
    obtain ⟨_, e7, h7⟩ := hc 7 v7 rfl
    obtain ⟨_, e8, h8⟩ := hc 8 v8 rfl
    obtain ⟨_, e9, h9⟩ := hc 9 v9 rfl
    obtain ⟨_, e10, h10⟩ := hc 10 v10 rfl
    obtain ⟨_, e11, h11⟩ := hc 11 v11 rfl
    cases e0; cases e1; cases e2; cases e3; cases e4; cases e5; cases e6; cases e7; cases e8; cases e9; cases e10; cases e11
    obtain ⟨a0, rfl, b0⟩ := cell_int Tryz.underlying23 h0
    obtain ⟨a1, rfl, b1⟩ := cell_int Tryz.underlying23 h1
    obtain ⟨a2, rfl, b2⟩ := cell_int Tryz.underlying3 h2
    obtain ⟨a3, rfl, b3⟩ := cell_int Tryz.underlying23 h3
    obtain ⟨a4, rfl, b4⟩ := cell_int Tryz.underlying23 h4
    obtain ⟨a5, rfl, b5⟩ := cell_int Tryz.underlying23 h5
    obtain ⟨a6, rfl, b6⟩ := cell_int Tryz.underlying23 h6
    obtain ⟨a7, rfl, b7⟩ := cell_int Tryz.underlying3 h7
    obtain ⟨a8, rfl, b8⟩ := cell_int Tryz.underlying3 h8
    obtain ⟨a9, rfl, b9⟩ := cell_string Tryz.underlying9 h9
    obtain ⟨a10, rfl, b10⟩ := cell_string Tryz.underlying9 h10
    obtain ⟨a11, rfl⟩ := cell_bool Tryz.underlying4 h11
    exact ⟨⟨a0, a1, a2, a3, a4, a5, a6, a7, a8, a9, a10⟩, a11, ⟨b0, b1, b2, b3, b4, b5, b6, b7, b8, b9, b10⟩, rfl⟩

section
variable {H : Type} {enc : TypeId × Value → H} {w : World} {base : Nat} {spare : Nat → Bool} {held : Bool} {fuel : Nat} {cs : List Value} {x : DataW H × List MemPlace}
theorem cells_made : Tryz.prog.cellsOf 34 = 12 := by kernel_rfl
set_option maxRecDepth 100000 in
theorem made_trod (h : DataW.trod enc Tryz.prog w base spare held fuel 34 cs = some x) : ∃ (e : Ent) (own : Bool), e.wf ∧ cs = e.cells.toList ++ [.bool own] := by
  obtain ⟨xs, n, _, _, hl, hxl, hf⟩ := DataW.trod_struct Tryz.underlying34 h
  rw [cells_made] at hl
  have hxl' : xs.length = 2 := hxl
  have g0 := (hf 0 ⟨"E", 32, 0, false, "", "", 0⟩ rfl).trans (List.getElem?_eq_getElem (show 0 < xs.length by omega))
  have g1 := (hf 1 ⟨"Own", 4, 11, false, "", "", 104⟩ rfl).trans (List.getElem?_eq_getElem (show 1 < xs.length by omega))
  simp only [cells_ent, one_bool] at g0 g1
  obtain ⟨e, he, hc⟩ := ent_trod g0
  obtain ⟨own, ho, _⟩ := DataW.trod_bool Tryz.underlying4 g1
  refine ⟨e, own, he, ?_⟩
  rw [← hc, ← ho]
  match cs, hl with
  | [v0, v1, v2, v3, v4, v5, v6, v7, v8, v9, v10, v11], _ => rfl

/-- a slice of entries' parts, as it lies in memory -/
theorem mades_trod {s : Value} (hs : ∀ a n c, s = .slice (some a) n c → a.spot = none) (h : DataW.trod enc Tryz.prog w base spare held fuel 22 [s] = some x) : ∃ l : List (Ent × Bool), MadesAt w s l ∧ (∀ p ∈ l, p.1.wf) ∧ ∀ c, s = .slice none l.length c → c = 0 := by
  rcases DataW.trod_slice Tryz.underlying22 h with ⟨h1, _⟩ | ⟨a, len, cap, elems, rest, n, _, h1, _, _, hlc, hcm, hel, hE, _⟩
  · obtain rfl := List.head_eq_of_cons_eq h1
    exact ⟨[], ⟨none, 0, rfl, Nat.le_refl _, by decide, fun h => absurd rfl h⟩, fun p hp => (by cases hp), fun c h => (by cases h; rfl)⟩
  · obtain rfl := List.head_eq_of_cons_eq h1
    have hsp := hs _ _ _ rfl
    obtain ⟨B, o, sp⟩ := a
    dsimp only at hsp
    subst hsp
    have hone : ∀ i : Fin len, ∃ p : Ent × Bool, p.1.wf ∧ EntAt w B (o + i.1 * 12) p.1 ∧ w.cell? ⟨B, o + i.1 * 12 + 11, none⟩ = some (.bool p.2) := fun i => by
      have h2 := (hE i.1 i.2).trans (List.getElem?_eq_getElem (show i.1 < elems.length by omega))
      rw [cells_made, add_none] at h2
      obtain ⟨cs', hc, ht⟩ := Option.bind_eq_some_iff.1 h2
      obtain ⟨_, _, hat⟩ := World.cells?_some hc
      obtain ⟨e, own, he, rfl⟩ := made_trod ht
      refine ⟨(e, own), he, entAt_cells hat (by decide), ?_⟩
      have := hat 11 (by decide)
      rw [add_none] at this
      exact this
    let f : Fin len → Ent × Bool := fun i => (hone i).choose
    have hf := fun i => (hone i).choose_spec
    have hlen : (List.ofFn f).length = len := List.length_ofFn
    refine ⟨List.ofFn f, ⟨some ⟨B, o, none⟩, cap, by rw [hlen], by omega, by have : maxLen ≤ 9223372036854775807 := by decide
                                                                             omega, fun hne => ⟨B, o, rfl, ?_, fun i hi => ?_⟩⟩, fun p hp => ?_, fun c h => (by cases h)⟩
    · have hpos : 0 < len := by
        rcases Nat.eq_zero_or_pos len with h0 | h0
        · exact absurd (List.length_eq_zero_iff.1 (hlen.trans h0)) hne
        · exact h0
      exact cell_lt (hf ⟨0, hpos⟩).2.2
    · rw [hlen] at hi
      have e1 : (List.ofFn f)[i]'(by rw [hlen]; exact hi) = f ⟨i, hi⟩ := by simp
      rw [e1]
      exact (hf ⟨i, hi⟩).2
    · obtain ⟨i, hi⟩ := List.mem_ofFn.1 hp
      rw [← hi]
      exact (hf i).1
end

theorem noteCells : Tryz.prog.cellTypes Tryz.prog.depth 28 = some [3, 3, 3, 23, 23, 23, 23, 23, 4, 24, 9, 4, 22] := by kernel_rfl
theorem noteSize : Tryz.prog.cellsOf 28 = 13 := by kernel_rfl
theorem one_mades : Tryz.prog.cellsOf 22 = 1 := by kernel_rfl

set_option maxRecDepth 100000 in
/-- a note: a message's numbers, whether it is to be right, the parts of its entries; its own entries' slice as it stands -/
theorem open_note {H : Type} {enc : TypeId × Value → H} {W : World} {r : Reach} {base b0 : Nat} {spare : Nat → Bool} {held : Bool} {v : Value} {d : DataW H} {ps : List MemPlace} (h : Value.okWide Tryz.prog W r base 28 v)
    (ht : DataW.Trod enc Tryz.prog W b0 spare held 28 v d ps) :
    ∃ (m : Msg) (sa : Option Addr) (sn sc : Nat) (own : Bool) (sL : Value) (L : List (Ent × Bool)), (I64 m.kind ∧ I64 m.frm ∧ I64 m.to ∧ U64 m.term ∧ U64 m.index ∧ U64 m.prev ∧ U64 m.commit ∧ U64 m.mark) ∧ m.snap.size ≤ 9223372036854775807 ∧ (∀ p ∈ L, p.1.wf) ∧
      MadesAt W sL L ∧ (∀ a', sa = some a' → a'.spot = none) ∧ (∃ n x, DataW.trod enc Tryz.prog W b0 spare held n 24 [.slice sa sn sc] = some x) ∧ v = .agg (m.cells (.slice sa sn sc) ++ #[.bool own, sL]) := by
  unfold Value.okWide at h
  rw [Tryz.underlying28] at h
  obtain ⟨cs, rfl, hsz, ts, hts, _, hc⟩ := h
  rw [noteSize] at hsz
  rw [noteCells] at hts
  cases hts
  obtain ⟨l⟩ := cs
  match l, hsz with
  | [v0, v1, v2, v3, v4, v5, v6, v7, v8, v9, v10, v11, v12], _ =>
    obtain ⟨_, e0, h0⟩ := hc 0 v0 rfl
    obtain ⟨_, e1, h1⟩ := hc 1 v1 rfl
    obtain ⟨_, e2, h2⟩ := hc 2 v2 rfl
    obtain ⟨_, e3, h3⟩ := hc 3 v3 rfl
    obtain ⟨_, e4, h4⟩ := hc 4 v4 rfl
    obtain ⟨_, e5, h5⟩ := hc 5 v5 rfl
    obtain ⟨_, e6, h6⟩ := hc 6 v6 rfl
    obtain ⟨_, e7, h7⟩ := hc 7 v7 rfl
    obtain ⟨_, e8, h8⟩ := hc 8 v8 rfl
    obtain ⟨_, e9, h9⟩ := hc 9 v9 rfl
    obtain ⟨_, e10, h10⟩ := hc 10 v10 rfl
    obtain ⟨_, e11, h11⟩ := hc 11 v11 rfl
    obtain ⟨_, e12, h12⟩ := hc 12 v12 rfl
    cases e0; cases e1; cases e2; cases e3; cases e4; cases e5; cases e6; cases e7; cases e8; cases e9; cases e10; cases e11; cases e12
    obtain ⟨a0, rfl, b0⟩ := cell_int Tryz.underlying3 h0
    obtain ⟨a1, rfl, b1⟩ := cell_int Tryz.underlying3 h1
    obtain ⟨a2, rfl, b2⟩ := cell_int Tryz.underlying3 h2
    obtain ⟨a3, rfl, b3⟩ := cell_int Tryz.underlying23 h3
    obtain ⟨a4, rfl, b4⟩ := cell_int Tryz.underlying23 h4
    obtain ⟨a5, rfl, b5⟩ := cell_int Tryz.underlying23 h5
    obtain ⟨a6, rfl, b6⟩ := cell_int Tryz.underlying23 h6
    obtain ⟨a7, rfl, b7⟩ := cell_int Tryz.underlying23 h7
    obtain ⟨a8, rfl⟩ := cell_bool Tryz.underlying4 h8
    obtain ⟨sa, sn, sc, rfl, hsa⟩ := cell_slice Tryz.underlying24 h9
    obtain ⟨a10, rfl, b10⟩ := cell_string Tryz.underlying9 h10
    obtain ⟨a11, rfl⟩ := cell_bool Tryz.underlying4 h11
    obtain ⟨la, ln, lc, rfl, hla⟩ := cell_slice Tryz.underlying22 h12
    obtain ⟨fuel, ht⟩ := ht
    obtain ⟨xs, n, _, _, _, hxl, hf⟩ := DataW.trod_struct Tryz.underlying28 ht
    have hxl' : xs.length = 3 := hxl
    have g0 := (hf 0 ⟨"M", 26, 0, false, "", "", 0⟩ rfl).trans (List.getElem?_eq_getElem (show 0 < xs.length by omega))
    have g2 := (hf 2 ⟨"L", 22, 12, false, "", "", 120⟩ rfl).trans (List.getElem?_eq_getElem (show 2 < xs.length by omega))
    simp only [one_mades] at g2
    obtain ⟨L, hL, hw, _⟩ := mades_trod (s := .slice la ln lc) (fun a n c h => by cases h; exact hla a rfl) g2
    obtain ⟨ys, n', _, _, _, hyl, hg⟩ := DataW.trod_struct Tryz.underlying26 g0
    have hyl' : ys.length = 11 := hyl
    have k9 := (hg 9 ⟨"Entries", 24, 9, false, "", "", 72⟩ rfl).trans (List.getElem?_eq_getElem (show 9 < ys.length by omega))
    simp only [one_ents, show Tryz.prog.cellsOf 26 = 11 by kernel_rfl] at k9
    exact ⟨⟨a0, a1, a2, a3, a4, a5, a6, a7, a8, a10, []⟩, sa, sn, sc, a11, .slice la ln lc, L, ⟨b0, b1, b2, b3, b4, b5, b6, b7⟩, b10, hw, hL, hsa, ⟨n', _, k9⟩, rfl⟩

end Go.Proofs.YtbjbgdnjcppjhaaGreatDoor.of06
