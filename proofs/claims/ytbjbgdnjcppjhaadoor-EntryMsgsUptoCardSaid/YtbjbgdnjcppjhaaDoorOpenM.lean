/-
  A note that was handed over, whatever it is, with what its bulk says. No condition. By an AI agent.
-/
import Derived.Test.YtbjbgdnjcppjhaaDoorBulk
import Derived.Test.YtbjbgdnjcppjhaaDoorOwn
import Derived.Test.YtbjbgdnjcppjhaaDoorMsgText
import Derived.Test.YtbjbgdnjcppjhaaDoorNote04
namespace Go.Proofs.YtbjbgdnjcppjhaaDoor
open Go.RowKit
set_option linter.unusedVariables false

section
variable {H : Type} {enc : TypeId × Value → H} {w : World} {base : Nat} {spare : Nat → Bool} {held : Bool} {fuel : Nat} {cs : List Value} {x : DataW H × List MemPlace}
/-- a slice of entries, as it lies in memory -/
theorem ents_bulk {s : Value} (hs : ∀ a n c, s = .slice (some a) n c → a.spot = none) (h : DataW.trod enc Tryd.prog w base spare held fuel 40 [s] = some x) : ∃ l : List Ent, EntsAt w s l ∧ l.length ≤ Rows.uptoBulk x.1 ∧ ∀ e ∈ l, e.wf ∧ e.upTo (Rows.uptoBulk x.1) := by
  rcases DataW.trod_slice Tryd.underlying40 h with ⟨h1, _⟩ | ⟨a, len, cap, elems, rest, n, _, h1, hx, _, hlc, hcm, hel, hE, _⟩
  · obtain rfl := List.head_eq_of_cons_eq h1
    exact ⟨[], entsAt_nil _, Nat.zero_le _, fun p hp => by cases hp⟩
  · obtain rfl := List.head_eq_of_cons_eq h1
    have hsp := hs _ _ _ rfl
    obtain ⟨B, o, sp⟩ := a
    dsimp only at hsp
    subst hsp
    have hone : ∀ i : Fin len, ∃ e : Ent, (e.wf ∧ e.upTo (Rows.uptoBulk x.1)) ∧ EntAt w B (o + i.1 * 11) e := fun i => by
      have h2 := (hE i.1 i.2).trans (List.getElem?_eq_getElem (show i.1 < elems.length by omega))
      rw [cells_ent, add_none] at h2
      obtain ⟨cs', hc, ht⟩ := Option.bind_eq_some_iff.1 h2
      obtain ⟨_, _, hat⟩ := World.cells?_some hc
      obtain ⟨e, he, rfl, hu⟩ := ent_bulk ht
      have hu2 : e.upTo (Rows.uptoBulk x.1) := hu.mono (by rw [hx]; exact bulk_elem (List.mem_map.2 ⟨_, List.getElem_mem _, rfl⟩))
      exact ⟨e, ⟨he, hu2⟩, entAt_cells (r := []) (fun j hj => by rw [List.append_nil]; exact hat j hj) (by decide)⟩
    let f : Fin len → Ent := fun i => (hone i).choose
    have hf := fun i => (hone i).choose_spec
    have hlen : (List.ofFn f).length = len := List.length_ofFn
    refine ⟨List.ofFn f, ⟨some ⟨B, o, none⟩, cap, by rw [hlen], by omega, by have : maxLen ≤ 9223372036854775807 := by decide
                                                                             omega, fun hne => ⟨B, o, rfl, ?_, fun i hi => ?_⟩⟩, ?_, fun p hp => ?_⟩
    · have hpos : 0 < len := by
        rcases Nat.eq_zero_or_pos len with h0 | h0
        · exact absurd (List.length_eq_zero_iff.1 (hlen.trans h0)) hne
        · exact h0
      exact cell_lt (hf ⟨0, hpos⟩).2.1
    · rw [hlen] at hi
      have e1 : (List.ofFn f)[i]'(by rw [hlen]; exact hi) = f ⟨i, hi⟩ := by simp
      rw [e1]
      exact (hf ⟨i, hi⟩).2
    · rw [hlen, hx, ← hel]
      have := bulk_count (elems.map (·.1)) (rest.map (·.1))
      rwa [List.length_map] at this
    · obtain ⟨i, hi⟩ := List.mem_ofFn.1 hp
      rw [← hi]
      exact (hf i).1
end

set_option maxRecDepth 100000 in
/-- a note: a message's numbers, whether it is to be right, the parts of its entries; its own entries' slice as it stands -/
theorem note_bulk {H : Type} {enc : TypeId × Value → H} {W : World} {r : Reach} {base b0 : Nat} {spare : Nat → Bool} {held : Bool} {v : Value} {d : DataW H} {ps : List MemPlace} {N : Nat} (h : Value.okWide Tryd.prog W r base 47 v)
    (ht : DataW.Trod enc Tryd.prog W b0 spare held 47 v d ps) (hN : Rows.uptoBulk d ≤ N) :
    ∃ (m : Msg) (sa : Option Addr) (sn sc : Nat) (own : Bool) (la : Option Addr) (ln lc : Nat) (L : List (Ent × Bool)), (I64 m.kind ∧ I64 m.frm ∧ I64 m.to ∧ U64 m.term ∧ U64 m.index ∧ U64 m.prev ∧ U64 m.commit ∧ U64 m.mark) ∧ m.snap.size ≤ N ∧ m.entries.length ≤ N ∧ (∀ e ∈ m.entries, e.wf ∧ e.upTo N) ∧
      EntsAt W (.slice sa sn sc) m.entries ∧ (∀ p ∈ L, p.1.wf ∧ p.1.upTo N) ∧ MadesAt W (.slice la ln lc) L ∧ v = .agg (m.cells (.slice sa sn sc) ++ #[.bool own, .slice la ln lc]) := by
  unfold Value.okWide at h
  rw [Tryd.underlying47] at h
  obtain ⟨cs, rfl, hsz, ts, hts, _, hc⟩ := h
  rw [noteSize] at hsz
  rw [noteCells] at hts
  cases hts
  obtain ⟨l⟩ := cs
  match l, hsz with
  | [v0, v1, v2, v3, v4, v5, v6, v7, v8, v9, v10, v11, v12], _ =>
    obtain ⟨_, e0, h0⟩ := hc 0 v0 rfl
    obtain ⟨_, e1, h1⟩ := hc 1 v1 rfl
    obtain ⟨_, e2, h2⟩ := hc 2 v2 rfl
    obtain ⟨_, e3, h3⟩ := hc 3 v3 rfl
    obtain ⟨_, e4, h4⟩ := hc 4 v4 rfl
    obtain ⟨_, e5, h5⟩ := hc 5 v5 rfl
    obtain ⟨_, e6, h6⟩ := hc 6 v6 rfl
    obtain ⟨_, e7, h7⟩ := hc 7 v7 rfl
    obtain ⟨_, e8, h8⟩ := hc 8 v8 rfl
    obtain ⟨_, e9, h9⟩ := hc 9 v9 rfl
    obtain ⟨_, e10, h10⟩ := hc 10 v10 rfl
    obtain ⟨_, e11, h11⟩ := hc 11 v11 rfl
    obtain ⟨_, e12, h12⟩ := hc 12 v12 rfl
    cases e0; cases e1; cases e2; cases e3; cases e4; cases e5; cases e6; cases e7; cases e8; cases e9; cases e10; cases e11; cases e12
    obtain ⟨a0, rfl, b0⟩ := cell_int Tryd.underlying3 h0
    obtain ⟨a1, rfl, b1⟩ := cell_int Tryd.underlying3 h1
    obtain ⟨a2, rfl, b2⟩ := cell_int Tryd.underlying3 h2
    obtain ⟨a3, rfl, b3⟩ := cell_int Tryd.underlying23 h3
    obtain ⟨a4, rfl, b4⟩ := cell_int Tryd.underlying23 h4
    obtain ⟨a5, rfl, b5⟩ := cell_int Tryd.underlying23 h5
    obtain ⟨a6, rfl, b6⟩ := cell_int Tryd.underlying23 h6
    obtain ⟨a7, rfl, b7⟩ := cell_int Tryd.underlying23 h7
    obtain ⟨a8, rfl⟩ := cell_bool Tryd.underlying4 h8
    obtain ⟨sa, sn, sc, rfl, hsa⟩ := cell_slice Tryd.underlying40 h9
    obtain ⟨a10, rfl, b10⟩ := cell_string Tryd.underlying9 h10
    obtain ⟨a11, rfl⟩ := cell_bool Tryd.underlying4 h11
    obtain ⟨la, ln, lc, rfl, hla⟩ := cell_slice Tryd.underlying45 h12
    obtain ⟨fuel, ht⟩ := ht
    obtain ⟨xs, n, _, hx, _, hxl, hf⟩ := DataW.trod_struct Tryd.underlying47 ht
    have hd : d = .agg (xs.map (·.1)) := (Prod.mk.inj hx).1
    have hxl' : xs.length = 3 := hxl
    have g0 := (hf 0 ⟨ "M", 42, 0, false, "", "", 0⟩ rfl).trans (List.getElem?_eq_getElem (show 0 < xs.length by omega))
    have g2 := (hf 2 ⟨ "L", 45, 12, false, "", "", 120⟩ rfl).trans (List.getElem?_eq_getElem (show 2 < xs.length by omega))
    simp only [one_mades] at g2
    have u0 : Rows.uptoBulk (xs[0]'(by omega)).1 ≤ N := Nat.le_trans (by rw [hd]; exact bulk_agg (List.mem_map.2 ⟨_, List.getElem_mem _, rfl⟩)) hN
    have u2 : Rows.uptoBulk (xs[2]'(by omega)).1 ≤ N := Nat.le_trans (by rw [hd]; exact bulk_agg (List.mem_map.2 ⟨_, List.getElem_mem _, rfl⟩)) hN
    obtain ⟨L, hL, hw⟩ := mades_bulk (s := .slice la ln lc) (fun a n c h => by cases h; exact hla a rfl) g2
    obtain ⟨ys, n', _, hy, _, hyl, hg⟩ := DataW.trod_struct Tryd.underlying42 g0
    have hyl' : ys.length = 11 := hyl
    have k9 := (hg 9 ⟨ "Entries", 40, 9, false, "", "", 72⟩ rfl).trans (List.getElem?_eq_getElem (show 9 < ys.length by omega))
    have k10 := (hg 10 ⟨ "Snap", 9, 10, false, "", "", 96⟩ rfl).trans (List.getElem?_eq_getElem (show 10 < ys.length by omega))
    simp only [one_ents, one_string, show Tryd.prog.cellsOf 42 = 11 by kernel_rfl] at k9 k10
    have v9 : Rows.uptoBulk (ys[9]'(by omega)).1 ≤ N := Nat.le_trans (Nat.le_trans (bulk_agg (List.mem_map.2 ⟨_, List.getElem_mem _, rfl⟩)) (by rw [hy]; exact Nat.le_refl _)) u0
    have v10 : Rows.uptoBulk (ys[10]'(by omega)).1 ≤ N := Nat.le_trans (Nat.le_trans (bulk_agg (List.mem_map.2 ⟨_, List.getElem_mem _, rfl⟩)) (by rw [hy]; exact Nat.le_refl _)) u0
    obtain ⟨l, hl, hlen, hle⟩ := ents_bulk (s := .slice sa sn sc) (fun a n c h => by cases h; exact hsa a rfl) k9
    obtain ⟨c10, e10, f10, _⟩ := DataW.trod_string Tryd.underlying9 k10
    cases (show Value.string a10 = _ from List.head_eq_of_cons_eq e10)
    rw [f10] at v10
    exact ⟨⟨a0, a1, a2, a3, a4, a5, a6, a7, a8, a10, l⟩, sa, sn, sc, a11, la, ln, lc, L, ⟨b0, b1, b2, b3, b4, b5, b6, b7⟩, Nat.le_trans (bulk_string _) v10, Nat.le_trans hlen v9, fun e he => ⟨(hle e he).1, (hle e he).2.mono v9⟩, hl, fun p hp => ⟨(hw p hp).1, (hw p hp).2.mono u2⟩, hL, rfl⟩

/-- what is made of a note's parts -/
def noted (m : Msg) (own : Bool) (L : List (Ent × Bool)) : Msg := if own then ownMsg m (L.map (·.1)) else m
theorem noted_fine (m : Msg) (own : Bool) (L : List (Ent × Bool)) (hm : I64 m.kind ∧ I64 m.frm ∧ I64 m.to ∧ U64 m.term ∧ U64 m.index ∧ U64 m.prev ∧ U64 m.commit ∧ U64 m.mark) (hs : m.snap.size ≤ 1048576) (hn : m.entries.length ≤ 1048576) (he : ∀ e ∈ m.entries, e.wf ∧ e.upTo 1048576) : (noted m own L).fine := by
  cases own
  · obtain ⟨h1, h2, h3, h4, h5, h6, h7, h8⟩ := hm
    exact ⟨⟨h1, h2, h3, h4, h5, h6, h7, h8, Nat.le_trans hs (by decide), fun e h => (he e h).1⟩, hs, hn, fun e h => (he e h).2⟩
  · obtain ⟨h1, h2, h3, h4, h5, h6, h7, h8⟩ := hm
    obtain ⟨⟨k1, k2, k3, k4, k5, k6, k7, k8, k9, k10, k11⟩, _, _⟩ := ownMsg_small m (L.map (·.1)) h4 h5 h6 h7 h8
    show (ownMsg m (L.map (·.1))).fine
    refine ⟨⟨⟨by omega, by omega⟩, ⟨by omega, by omega⟩, ⟨by omega, by omega⟩, k4, k5, k6, k7, k8, by omega, fun e h => (k11 e h).1.wf⟩, by omega, by omega, fun e h => ⟨?_, ?_⟩⟩
    · have := (k11 e h).1.data; omega
    · have := (k11 e h).1.old; omega

theorem note04_any (m : Msg) (own : Bool) (sa : Option Addr) (sn sc : Nat) (la : Option Addr) (ln lc : Nat) (L : List (Ent × Bool)) (hm : I64 m.kind ∧ I64 m.frm ∧ I64 m.to ∧ U64 m.term ∧ U64 m.index ∧ U64 m.prev ∧ U64 m.commit ∧ U64 m.mark) (hL : ∀ p ∈ L, p.1.wf) (w : World) (hs : EntsAt w (.slice sa sn sc) m.entries) (hl : MadesAt w (.slice la ln lc) L) :
    Calls Tryd.prog 23 #[.agg (m.cells (.slice sa sn sc) ++ #[.bool own, .slice la ln lc])] w fun x w' => ∃ s', x = .returned (.agg ((noted m own L).cells s')) ∧ EntsAt w' s' (noted m own L).entries ∧ Below w.heap.size w w' := by
  cases own
  · exact (note04_raw m sa sn sc la ln lc w).mono fun x w' ⟨h1, h2⟩ => ⟨_, h1, hs.below h2, h2⟩
  · exact note04_own m sa sn sc _ L hm hL w hl

end Go.Proofs.YtbjbgdnjcppjhaaDoor
