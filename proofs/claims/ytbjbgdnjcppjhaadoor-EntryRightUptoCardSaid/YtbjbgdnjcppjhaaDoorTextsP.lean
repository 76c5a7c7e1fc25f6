/-
  PLAIN LAW of EntryTexts: entries that are right, and differ in one field at most, are the same just if their texts are. No condition beyond what each theorem says. By an AI agent.
-/
import Derived.Test.YtbjbgdnjcppjhaaDoorMade
import Derived.Test.YtbjbgdnjcppjhaaDoorSameE
import Derived.Test.YtbjbgdnjcppjhaaDoorTold
namespace Go.Proofs.YtbjbgdnjcppjhaaDoor
open Go.RowKit
set_option linter.unusedVariables false
set_option linter.unusedSimpArgs false

theorem modOf_range (n m : Int) (hm : m = 7 ∨ m = 2) : 1 ≤ modOf n m ∧ modOf n m ≤ m := by
  unfold modOf
  have hw : 0 ≤ IntKind.u64.wrap n := by
    simp only [IntKind.wrap, IntKind.signed, IntKind.bits, Bool.false_eq_true, if_false]
    exact Int.emod_nonneg _ (by decide)
  generalize IntKind.u64.wrap n = u at *
  rw [Int.tmod_eq_emod_of_nonneg hw]
  rcases hm with rfl | rfl
  · have h1 : wrap64 (u % 7) = u % 7 := by unfold wrap64; omega
    rw [h1]
    unfold wrap64; omega
  · have h1 : wrap64 (u % 2) = u % 2 := by unfold wrap64; omega
    rw [h1]
    unfold wrap64; omega
theorem cutTo_size (s : ByteArray) (n : Nat) : (cutTo s (n : Int)).size = min s.size n := by
  unfold cutTo
  rw [ByteArray.size_extract]
  omega

/-- what a field may be in an entry that is right -/
structure Small (x : Ent) : Prop where
  term : 1 ≤ x.term ∧ x.term ≤ 1000
  index : 1 ≤ x.index ∧ x.index ≤ 1000
  kind : 0 ≤ x.kind ∧ x.kind ≤ 11
  client : 0 ≤ x.client ∧ x.client ≤ 5
  seq : 0 ≤ x.seq ∧ x.seq ≤ 8
  block : 0 ≤ x.block ∧ x.block ≤ 8
  many : 0 ≤ x.many ∧ x.many ≤ 8
  node : 0 ≤ x.node ∧ x.node ≤ 7
  level : 0 ≤ x.level ∧ x.level ≤ 2
  data : x.data.size ≤ 64
  old : x.old.size ≤ 64
theorem Small.wf {x : Ent} (h : Small x) : x.wf := by
  obtain ⟨a, b, c, d, e, f, g, i, j, k, l⟩ := h
  exact ⟨⟨by omega, by omega⟩, ⟨by omega, by omega⟩, ⟨by omega, by omega⟩, ⟨by omega, by omega⟩, ⟨by omega, by omega⟩, ⟨by omega, by omega⟩, ⟨by omega, by omega⟩, ⟨by omega, by omega⟩, ⟨by omega, by omega⟩, by omega, by omega⟩

theorem fit_0 (a a' b b' c c' d d' e e' f f' g g' : Bool) : fitB (entL 0) [(99, a, a'), (98, b, b'), (109, c, c'), (110, d, d'), (108, e, e'), (100, f, f'), (111, g, g')] = (!a && (!b && (!c && (!d && (!e && (!f && (!g && true))))))) := rfl
theorem fit_1 (a a' b b' c c' d d' e e' f f' g g' : Bool) : fitB (entL 1) [(99, a, a'), (98, b, b'), (109, c, c'), (110, d, d'), (108, e, e'), (100, f, f'), (111, g, g')] = (a' && (b' && (!c && (!d && (!e && (f' && (!g && true))))))) := rfl
theorem fit_2 (a a' b b' c c' d d' e e' f f' g g' : Bool) : fitB (entL 2) [(99, a, a'), (98, b, b'), (109, c, c'), (110, d, d'), (108, e, e'), (100, f, f'), (111, g, g')] = (a' && (b' && (c' && (!d && (!e && (!f && (!g && true))))))) := rfl
theorem fit_3 (a a' b b' c c' d d' e e' f f' g g' : Bool) : fitB (entL 3) [(99, a, a'), (98, b, b'), (109, c, c'), (110, d, d'), (108, e, e'), (100, f, f'), (111, g, g')] = (a' && (!b && (c' && (!d && (!e && (!f && (!g && true))))))) := rfl
theorem fit_4 (a a' b b' c c' d d' e e' f f' g g' : Bool) : fitB (entL 4) [(99, a, a'), (98, b, b'), (109, c, c'), (110, d, d'), (108, e, e'), (100, f, f'), (111, g, g')] = (a' && (!b && (!c && (!d && (!e && (!f && (!g && true))))))) := rfl
theorem fit_5 (a a' b b' c c' d d' e e' f f' g g' : Bool) : fitB (entL 5) [(99, a, a'), (98, b, b'), (109, c, c'), (110, d, d'), (108, e, e'), (100, f, f'), (111, g, g')] = (!a && (!b && (!c && (d' && (!e && (!f && (!g && true))))))) := rfl
theorem fit_6 (a a' b b' c c' d d' e e' f f' g g' : Bool) : fitB (entL 6) [(99, a, a'), (98, b, b'), (109, c, c'), (110, d, d'), (108, e, e'), (100, f, f'), (111, g, g')] = (!a && (!b && (!c && (d' && (!e && (!f && (!g && true))))))) := rfl
theorem fit_7 (a a' b b' c c' d d' e e' f f' g g' : Bool) : fitB (entL 7) [(99, a, a'), (98, b, b'), (109, c, c'), (110, d, d'), (108, e, e'), (100, f, f'), (111, g, g')] = (!a && (!b && (!c && (d' && (e' && (!f && (!g && true))))))) := rfl
theorem fit_8 (a a' b b' c c' d d' e e' f f' g g' : Bool) : fitB (entL 8) [(99, a, a'), (98, b, b'), (109, c, c'), (110, d, d'), (108, e, e'), (100, f, f'), (111, g, g')] = (!a && (!b && (!c && (!d && (!e && (!f && (!g && true))))))) := rfl
theorem fit_9 (a a' b b' c c' d d' e e' f f' g g' : Bool) : fitB (entL 9) [(99, a, a'), (98, b, b'), (109, c, c'), (110, d, d'), (108, e, e'), (100, f, f'), (111, g, g')] = (!a && (!b && (!c && (!d && (!e && (!f && (!g && true))))))) := rfl
theorem fit_10 (a a' b b' c c' d d' e e' f f' g g' : Bool) : fitB (entL 10) [(99, a, a'), (98, b, b'), (109, c, c'), (110, d, d'), (108, e, e'), (100, f, f'), (111, g, g')] = (!a && (!b && (!c && (!d && (!e && (!f && (!g && true))))))) := rfl
theorem fit_11 (a a' b b' c c' d d' e e' f f' g g' : Bool) : fitB (entL 11) [(99, a, a'), (98, b, b'), (109, c, c'), (110, d, d'), (108, e, e'), (100, f, f'), (111, g, g')] = (a' && (b' && (!c && (!d && (!e && (f' && (g' && true))))))) := rfl
theorem own_0 (e : Ent) (h : e.kind % 12 = 0) : ownEnt e = ⟨e.term % 1000 + 1, e.index % 1000 + 1, 0, 0, 0, 0, 0, 0, 0, ⟨#[]⟩, ⟨#[]⟩⟩ := by
  unfold ownEnt ownBase
  rw [h]
  rfl
theorem own_1 (e : Ent) (h : e.kind % 12 = 1) : ownEnt e = ⟨e.term % 1000 + 1, e.index % 1000 + 1, 1, e.client % 5 + 1, e.seq % 9, e.block % 9, 0, 0, 0, cutTo e.data 64, ⟨#[]⟩⟩ := by
  unfold ownEnt ownBase
  rw [h]
  rfl
theorem own_2 (e : Ent) (h : e.kind % 12 = 2) : ownEnt e = ⟨e.term % 1000 + 1, e.index % 1000 + 1, 2, e.client % 5 + 1, e.seq % 9, e.block % 9, e.many % 9, 0, 0, ⟨#[]⟩, ⟨#[]⟩⟩ := by
  unfold ownEnt ownBase
  rw [h]
  rfl
theorem own_3 (e : Ent) (h : e.kind % 12 = 3) : ownEnt e = ⟨e.term % 1000 + 1, e.index % 1000 + 1, 3, e.client % 5 + 1, e.seq % 9, 0, e.many % 9, 0, 0, ⟨#[]⟩, ⟨#[]⟩⟩ := by
  unfold ownEnt ownBase
  rw [h]
  rfl
theorem own_4 (e : Ent) (h : e.kind % 12 = 4) : ownEnt e = ⟨e.term % 1000 + 1, e.index % 1000 + 1, 4, e.client % 5 + 1, e.seq % 9, 0, 0, 0, 0, ⟨#[]⟩, ⟨#[]⟩⟩ := by
  unfold ownEnt ownBase
  rw [h]
  rfl
theorem own_5 (e : Ent) (h : e.kind % 12 = 5) : ownEnt e = ⟨e.term % 1000 + 1, e.index % 1000 + 1, 5, 0, 0, 0, 0, modOf e.node 7, 0, ⟨#[]⟩, ⟨#[]⟩⟩ := by
  unfold ownEnt ownBase
  rw [h]
  rfl
theorem own_6 (e : Ent) (h : e.kind % 12 = 6) : ownEnt e = ⟨e.term % 1000 + 1, e.index % 1000 + 1, 6, 0, 0, 0, 0, modOf e.node 7, 0, ⟨#[]⟩, ⟨#[]⟩⟩ := by
  unfold ownEnt ownBase
  rw [h]
  rfl
theorem own_7 (e : Ent) (h : e.kind % 12 = 7) : ownEnt e = ⟨e.term % 1000 + 1, e.index % 1000 + 1, 7, 0, 0, 0, 0, modOf e.node 7, modOf e.level 2, ⟨#[]⟩, ⟨#[]⟩⟩ := by
  unfold ownEnt ownBase
  rw [h]
  rfl
theorem own_8 (e : Ent) (h : e.kind % 12 = 8) : ownEnt e = ⟨e.term % 1000 + 1, e.index % 1000 + 1, 8, 0, 0, 0, 0, 0, 0, ⟨#[]⟩, ⟨#[]⟩⟩ := by
  unfold ownEnt ownBase
  rw [h]
  rfl
theorem own_9 (e : Ent) (h : e.kind % 12 = 9) : ownEnt e = ⟨e.term % 1000 + 1, e.index % 1000 + 1, 9, 0, 0, 0, 0, 0, 0, ⟨#[]⟩, ⟨#[]⟩⟩ := by
  unfold ownEnt ownBase
  rw [h]
  rfl
theorem own_10 (e : Ent) (h : e.kind % 12 = 10) : ownEnt e = ⟨e.term % 1000 + 1, e.index % 1000 + 1, 10, 0, 0, 0, 0, 0, 0, ⟨#[]⟩, ⟨#[]⟩⟩ := by
  unfold ownEnt ownBase
  rw [h]
  rfl
theorem own_11 (e : Ent) (h : e.kind % 12 = 11) : ownEnt e = ⟨e.term % 1000 + 1, e.index % 1000 + 1, 11, e.client % 5 + 1, e.seq % 9, e.block % 9, 0, 0, 0, cutTo e.data 64, cutTo e.old 64⟩ := by
  unfold ownEnt ownBase
  rw [h]
  rfl
theorem empty_size : (ByteArray.mk #[]).size = 0 := rfl
theorem small_mk {t i k c s b m n l : Int} {d o : ByteArray} (h1 : 1 ≤ t ∧ t ≤ 1000) (h2 : 1 ≤ i ∧ i ≤ 1000) (h3 : 0 ≤ k ∧ k ≤ 11) (h4 : 0 ≤ c ∧ c ≤ 5) (h5 : 0 ≤ s ∧ s ≤ 8) (h6 : 0 ≤ b ∧ b ≤ 8) (h7 : 0 ≤ m ∧ m ≤ 8) (h8 : 0 ≤ n ∧ n ≤ 7) (h9 : 0 ≤ l ∧ l ≤ 2) (h10 : d.size ≤ 64) (h11 : o.size ≤ 64) : Small (Ent.mk t i k c s b m n l d o) :=
  ⟨h1, h2, h3, h4, h5, h6, h7, h8, h9, h10, h11⟩
theorem own_right (t i k c s b m n l : Int) (d o : ByteArray) (hk : entOk k = true) (ht : 0 < t) (hi : 0 < i) (hf : fitB (entL k) (Ent.mk t i k c s b m n l d o).flds = true) : rightB (Ent.mk t i k c s b m n l d o) = true := by
  unfold rightB
  rw [hf, show decide (0 < (Ent.mk t i k c s b m n l d o).term) = true from decide_eq_true ht, show decide (0 < (Ent.mk t i k c s b m n l d o).index) = true from decide_eq_true hi, show entOk (Ent.mk t i k c s b m n l d o).kind = true from hk]
  rfl
theorem own_small (e : Ent) : Small (ownEnt e) ∧ rightB (ownEnt e) = true ∧ (ownEnt e).kind = e.kind % 12 := by
  have ht : 1 ≤ e.term % 1000 + 1 ∧ e.term % 1000 + 1 ≤ 1000 := by omega
  have hi : 1 ≤ e.index % 1000 + 1 ∧ e.index % 1000 + 1 ≤ 1000 := by omega
  have hc : 1 ≤ e.client % 5 + 1 ∧ e.client % 5 + 1 ≤ 5 := by omega
  have hs : 0 ≤ e.seq % 9 ∧ e.seq % 9 ≤ 8 := by omega
  have hb : 0 ≤ e.block % 9 ∧ e.block % 9 ≤ 8 := by omega
  have hm : 0 ≤ e.many % 9 ∧ e.many % 9 ≤ 8 := by omega
  have hn := modOf_range e.node 7 (.inl rfl)
  have hl := modOf_range e.level 2 (.inr rfl)
  have hd : (cutTo e.data 64).size ≤ 64 := by have h := cutTo_size e.data 64; rw [show ((64 : Nat) : Int) = 64 from rfl] at h; omega
  have ho : (cutTo e.old 64).size ≤ 64 := by have h := cutTo_size e.old 64; rw [show ((64 : Nat) : Int) = 64 from rfl] at h; omega
  have hk : e.kind % 12 = 0 ∨ e.kind % 12 = 1 ∨ e.kind % 12 = 2 ∨ e.kind % 12 = 3 ∨ e.kind % 12 = 4 ∨ e.kind % 12 = 5 ∨ e.kind % 12 = 6 ∨ e.kind % 12 = 7 ∨ e.kind % 12 = 8 ∨ e.kind % 12 = 9 ∨ e.kind % 12 = 10 ∨ e.kind % 12 = 11 := by omega
  rcases hk with hk | hk | hk | hk | hk | hk | hk | hk | hk | hk | hk | hk
  · rw [own_0 e hk, hk]
    exact ⟨small_mk ht hi ⟨by decide, by decide⟩ ⟨by decide, by decide⟩ ⟨by decide, by decide⟩ ⟨by decide, by decide⟩ ⟨by decide, by decide⟩ ⟨by decide, by decide⟩ ⟨by decide, by decide⟩ (by decide) (by decide), own_right _ _ _ _ _ _ _ _ _ _ _ (by decide) (by omega) (by omega) (by rw [Ent.flds, fit_0]; simp [smallB, nodeB, empty_size]; try omega), rfl⟩
  · rw [own_1 e hk, hk]
    exact ⟨small_mk ht hi ⟨by decide, by decide⟩ ⟨by omega, by omega⟩ hs hb ⟨by decide, by decide⟩ ⟨by decide, by decide⟩ ⟨by decide, by decide⟩ hd (by decide), own_right _ _ _ _ _ _ _ _ _ _ _ (by decide) (by omega) (by omega) (by rw [Ent.flds, fit_1]; simp [smallB, nodeB, empty_size]; try omega), rfl⟩
  · rw [own_2 e hk, hk]
    exact ⟨small_mk ht hi ⟨by decide, by decide⟩ ⟨by omega, by omega⟩ hs hb hm ⟨by decide, by decide⟩ ⟨by decide, by decide⟩ (by decide) (by decide), own_right _ _ _ _ _ _ _ _ _ _ _ (by decide) (by omega) (by omega) (by rw [Ent.flds, fit_2]; simp [smallB, nodeB, empty_size]; try omega), rfl⟩
  · rw [own_3 e hk, hk]
    exact ⟨small_mk ht hi ⟨by decide, by decide⟩ ⟨by omega, by omega⟩ hs ⟨by decide, by decide⟩ hm ⟨by decide, by decide⟩ ⟨by decide, by decide⟩ (by decide) (by decide), own_right _ _ _ _ _ _ _ _ _ _ _ (by decide) (by omega) (by omega) (by rw [Ent.flds, fit_3]; simp [smallB, nodeB, empty_size]; try omega), rfl⟩
  · rw [own_4 e hk, hk]
    exact ⟨small_mk ht hi ⟨by decide, by decide⟩ ⟨by omega, by omega⟩ hs ⟨by decide, by decide⟩ ⟨by decide, by decide⟩ ⟨by decide, by decide⟩ ⟨by decide, by decide⟩ (by decide) (by decide), own_right _ _ _ _ _ _ _ _ _ _ _ (by decide) (by omega) (by omega) (by rw [Ent.flds, fit_4]; simp [smallB, nodeB, empty_size]; try omega), rfl⟩
  · rw [own_5 e hk, hk]
    exact ⟨small_mk ht hi ⟨by decide, by decide⟩ ⟨by decide, by decide⟩ ⟨by decide, by decide⟩ ⟨by decide, by decide⟩ ⟨by decide, by decide⟩ ⟨by omega, by omega⟩ ⟨by decide, by decide⟩ (by decide) (by decide), own_right _ _ _ _ _ _ _ _ _ _ _ (by decide) (by omega) (by omega) (by rw [Ent.flds, fit_5]; simp [smallB, nodeB, empty_size]; try omega), rfl⟩
  · rw [own_6 e hk, hk]
    exact ⟨small_mk ht hi ⟨by decide, by decide⟩ ⟨by decide, by decide⟩ ⟨by decide, by decide⟩ ⟨by decide, by decide⟩ ⟨by decide, by decide⟩ ⟨by omega, by omega⟩ ⟨by decide, by decide⟩ (by decide) (by decide), own_right _ _ _ _ _ _ _ _ _ _ _ (by decide) (by omega) (by omega) (by rw [Ent.flds, fit_6]; simp [smallB, nodeB, empty_size]; try omega), rfl⟩
  · rw [own_7 e hk, hk]
    exact ⟨small_mk ht hi ⟨by decide, by decide⟩ ⟨by decide, by decide⟩ ⟨by decide, by decide⟩ ⟨by decide, by decide⟩ ⟨by decide, by decide⟩ ⟨by omega, by omega⟩ ⟨by omega, by omega⟩ (by decide) (by decide), own_right _ _ _ _ _ _ _ _ _ _ _ (by decide) (by omega) (by omega) (by rw [Ent.flds, fit_7]; simp [smallB, nodeB, empty_size]; try omega), rfl⟩
  · rw [own_8 e hk, hk]
    exact ⟨small_mk ht hi ⟨by decide, by decide⟩ ⟨by decide, by decide⟩ ⟨by decide, by decide⟩ ⟨by decide, by decide⟩ ⟨by decide, by decide⟩ ⟨by decide, by decide⟩ ⟨by decide, by decide⟩ (by decide) (by decide), own_right _ _ _ _ _ _ _ _ _ _ _ (by decide) (by omega) (by omega) (by rw [Ent.flds, fit_8]; simp [smallB, nodeB, empty_size]; try omega), rfl⟩
  · rw [own_9 e hk, hk]
    exact ⟨small_mk ht hi ⟨by decide, by decide⟩ ⟨by decide, by decide⟩ ⟨by decide, by decide⟩ ⟨by decide, by decide⟩ ⟨by decide, by decide⟩ ⟨by decide, by decide⟩ ⟨by decide, by decide⟩ (by decide) (by decide), own_right _ _ _ _ _ _ _ _ _ _ _ (by decide) (by omega) (by omega) (by rw [Ent.flds, fit_9]; simp [smallB, nodeB, empty_size]; try omega), rfl⟩
  · rw [own_10 e hk, hk]
    exact ⟨small_mk ht hi ⟨by decide, by decide⟩ ⟨by decide, by decide⟩ ⟨by decide, by decide⟩ ⟨by decide, by decide⟩ ⟨by decide, by decide⟩ ⟨by decide, by decide⟩ ⟨by decide, by decide⟩ (by decide) (by decide), own_right _ _ _ _ _ _ _ _ _ _ _ (by decide) (by omega) (by omega) (by rw [Ent.flds, fit_10]; simp [smallB, nodeB, empty_size]; try omega), rfl⟩
  · rw [own_11 e hk, hk]
    exact ⟨small_mk ht hi ⟨by decide, by decide⟩ ⟨by omega, by omega⟩ hs hb ⟨by decide, by decide⟩ ⟨by decide, by decide⟩ ⟨by decide, by decide⟩ hd ho, own_right _ _ _ _ _ _ _ _ _ _ _ (by decide) (by omega) (by omega) (by rw [Ent.flds, fit_11]; simp [smallB, nodeB, empty_size]; try omega), rfl⟩

theorem own_fine (e : Ent) : (ownEnt e).wf ∧ rightB (ownEnt e) = true ∧ (ownEnt e).data.size ≤ 64 ∧ (ownEnt e).old.size ≤ 64 :=
  ⟨(own_small e).1.wf, (own_small e).2.1, (own_small e).1.data, (own_small e).1.old⟩

/-! texts tell fields apart -/
def valOf (l : List UInt8) : Nat := l.foldl (fun a c => a * 10 + (c.toNat - 48)) 0
theorem digit_val (d : Nat) (h : d < 10) : (UInt8.ofNat (48 + d)).toNat - 48 = d := by
  rw [UInt8.toNat_ofNat']; omega
theorem valOf_dec : ∀ u : Nat, valOf (Lib.decDigits u) = u := by
  intro u
  induction u using Nat.strongRecOn with
  | _ u ih =>
    rw [Lib.decDigits]
    split
    · rename_i h
      simp only [valOf, List.foldl_cons, List.foldl_nil]
      rw [digit_val u h]; omega
    · rename_i h
      unfold valOf at ih ⊢
      rw [List.foldl_append, ih (u / 10) (by omega)]
      simp only [List.foldl_cons, List.foldl_nil]
      rw [digit_val (u % 10) (by omega)]
      omega
theorem dec_inj {a b : Int} (ha : 0 ≤ a) (hb : 0 ≤ b) (h : dec a = dec b) : a = b := by
  have := congrArg valOf h
  unfold dec at this
  rw [valOf_dec, valOf_dec] at this
  omega
theorem itoa_inj {a b : Int} (ha : 0 ≤ a) (hb : 0 ≤ b) (h : Lib.itoa a = Lib.itoa b) : a = b := by
  unfold Lib.itoa at h
  rw [if_neg (by omega), if_neg (by omega)] at h
  exact dec_inj ha hb h
theorem hexD_inj (a b : Nat) (ha : a < 16) (hb : b < 16) (h : hexD a = hexD b) : a = b := by
  have key : ∀ n, n < 16 → (hexD n).toNat = if n < 10 then 48 + n else 87 + n := fun n hn => by
    unfold hexD
    split
    · rw [UInt8.toNat_ofNat']; omega
    · rw [UInt8.toNat_ofNat']; omega
  have := congrArg UInt8.toNat h
  rw [key a ha, key b hb] at this
  split at this <;> split at this <;> omega
theorem hexL_inj : ∀ (a b : List UInt8), hexL a = hexL b → a = b
  | [], [], _ => rfl
  | [], _ :: _, h => by simp [hexL] at h
  | _ :: _, [], h => by simp [hexL] at h
  | x :: a, y :: b, h => by
    simp only [hexL, List.cons.injEq] at h
    obtain ⟨h1, h2, h3⟩ := h
    have e1 := hexD_inj _ _ (by have := x.toNat_lt; omega) (by have := y.toNat_lt; omega) h1
    have e2 := hexD_inj _ _ (by omega) (by omega) h2
    have e3 : x = y := UInt8.toNat_inj.1 (by omega)
    rw [e3, hexL_inj a b h3]
theorem bytes_hex {a b : ByteArray} (h : hexL a.data.toList = hexL b.data.toList) : a = b := by
  have := hexL_inj _ _ h
  cases a; cases b
  simp at this
  rw [this]

theorem text7 (e : Ent) : textL e = e.headT ++ (e.piece 99 ++ (e.piece 98 ++ (e.piece 109 ++ (e.piece 110 ++ (e.piece 108 ++ (e.piece 100 ++ e.piece 111)))))) := by
  simp [textL, entOrder]
theorem piece_inj {x y : Ent} {c : UInt8} (hk : x.kind = y.kind) (hc : (entL x.kind).contains c = true) (h : x.piece c = y.piece c) : x.fldT c = y.fldT c := by
  unfold Ent.piece at h
  rw [← hk, if_pos hc, if_pos hc] at h
  exact List.append_cancel_left h

theorem bytes_none {a b : ByteArray} (h : a.size = 0) (h' : b.size = 0) : a = b := by
  obtain ⟨⟨a⟩⟩ := a
  obtain ⟨⟨b⟩⟩ := b
  have e1 : a = [] := List.length_eq_zero_iff.1 h
  have e2 : b = [] := List.length_eq_zero_iff.1 h'
  rw [e1, e2]
/-- the second entry: the first with something another one -/
def textY (x : Ent) (how n : Int) (s : ByteArray) : Ent :=
  if how % 7 = 0 then { x with term := n + 1 } else if how % 7 = 1 then { x with seq := n } else if how % 7 = 2 then { x with block := n } else if how % 7 = 3 then { x with data := cutTo s 64 }
  else if how % 7 = 4 then { x with node := n % 7 + 1 } else if how % 7 = 5 then { x with old := cutTo s 64 } else { x with many := n }

theorem right_fit {e : Ent} (h : rightB e = true) : ∀ f ∈ e.flds, fldOk (entL e.kind) f = true := by
  unfold rightB at h
  simp only [Bool.and_eq_true] at h
  exact List.all_eq_true.1 h.2
theorem at99 (e : Ent) : ((99, (decide (0 < e.client) || decide (0 < e.seq), decide (0 < e.client))) : Fld) ∈ e.flds := List.mem_cons_self ..
theorem at98 (e : Ent) : ((98, (decide (0 < e.block), smallB e.block)) : Fld) ∈ e.flds := List.mem_cons_of_mem _ (List.mem_cons_self ..)
theorem at109 (e : Ent) : ((109, (decide (0 < e.many), smallB e.many)) : Fld) ∈ e.flds := List.mem_cons_of_mem _ (List.mem_cons_of_mem _ (List.mem_cons_self ..))
theorem at110 (e : Ent) : ((110, (!decide (e.node = 0), nodeB e.node)) : Fld) ∈ e.flds := List.mem_cons_of_mem _ (List.mem_cons_of_mem _ (List.mem_cons_of_mem _ (List.mem_cons_self ..)))
theorem at100 (e : Ent) : ((100, (!decide (e.data.size = 0), decide (e.data.size ≤ 64))) : Fld) ∈ e.flds := List.mem_cons_of_mem _ (List.mem_cons_of_mem _ (List.mem_cons_of_mem _ (List.mem_cons_of_mem _ (List.mem_cons_of_mem _ (List.mem_cons_self ..)))))
theorem at111 (e : Ent) : ((111, (!decide (e.old.size = 0), decide (e.old.size ≤ 64))) : Fld) ∈ e.flds := List.mem_cons_of_mem _ (List.mem_cons_of_mem _ (List.mem_cons_of_mem _ (List.mem_cons_of_mem _ (List.mem_cons_of_mem _ (List.mem_cons_of_mem _ (List.mem_cons_self ..))))))
theorem lacks {may : List UInt8} {c : UInt8} {a b : Bool} (h : fldOk may (c, a, b) = true) (hc : may.contains c = false) : a = false := by
  unfold fldOk at h
  rw [if_neg (by simpa using hc)] at h
  simpa using h

theorem term_case {x : Ent} {v : Int} (hx : x.wf) (hv : 0 ≤ v) (h : textL x = textL { x with term := v }) : x.term = v := by
  have e1 : ∀ t : Int, textL { x with term := t } = (Lib.itoa x.kind ++ [32]) ++ (dec t ++ ([46] ++ dec x.index ++ entOrder.flatMap x.piece)) := fun t => by
    unfold textL Ent.headT
    have : (entOrder.flatMap ({ x with term := t } : Ent).piece) = entOrder.flatMap x.piece := rfl
    rw [this]
    simp
  have e0 := e1 x.term
  rw [e1 v] at h
  rw [show ({ x with term := x.term } : Ent) = x from rfl] at e0
  rw [e0] at h
  exact dec_inj hx.term.1 hv (List.append_cancel_right (List.append_cancel_left h))
theorem seq_case {x : Ent} {v : Int} (hx : x.wf) (hv : 0 ≤ v) (hr : rightB x = true) (hr' : rightB { x with seq := v } = true) (h : textL x = textL { x with seq := v }) : x.seq = v := by
  cases hc : (entL x.kind).contains 99
  · have a1 := lacks (right_fit hr _ (at99 _)) hc
    have a2 := lacks (right_fit hr' _ (at99 _)) hc
    simp at a1 a2
    have := hx.seq.1
    omega
  · rw [text7, text7] at h
    have h2 := List.append_cancel_left h
    have h3 : x.piece 99 = ({ x with seq := v } : Ent).piece 99 := List.append_cancel_right h2
    have h4 : dec x.client ++ [47] ++ dec x.seq = dec x.client ++ [47] ++ dec v := piece_inj (x := x) (y := { x with seq := v }) rfl hc h3
    exact dec_inj hx.seq.1 hv (List.append_cancel_left h4)
theorem block_case {x : Ent} {v : Int} (hx : x.wf) (hv : 0 ≤ v) (hr : rightB x = true) (hr' : rightB { x with block := v } = true) (h : textL x = textL { x with block := v }) : x.block = v := by
  cases hc : (entL x.kind).contains 98
  · have a1 := lacks (right_fit hr _ (at98 _)) hc
    have a2 := lacks (right_fit hr' _ (at98 _)) hc
    simp at a1 a2
    have := hx.block.1
    omega
  · rw [text7, text7] at h
    have h2 := List.append_cancel_left (List.append_cancel_left h)
    have h3 : x.piece 98 = ({ x with block := v } : Ent).piece 98 := List.append_cancel_right h2
    exact dec_inj hx.block.1 hv (piece_inj (x := x) (y := { x with block := v }) rfl hc h3)
theorem many_case {x : Ent} {v : Int} (hx : x.wf) (hv : 0 ≤ v) (hr : rightB x = true) (hr' : rightB { x with many := v } = true) (h : textL x = textL { x with many := v }) : x.many = v := by
  cases hc : (entL x.kind).contains 109
  · have a1 := lacks (right_fit hr _ (at109 _)) hc
    have a2 := lacks (right_fit hr' _ (at109 _)) hc
    simp at a1 a2
    have := hx.many.1
    omega
  · rw [text7, text7] at h
    have h2 := List.append_cancel_left (List.append_cancel_left (List.append_cancel_left h))
    have h3 : x.piece 109 = ({ x with many := v } : Ent).piece 109 := List.append_cancel_right h2
    exact dec_inj hx.many.1 hv (piece_inj (x := x) (y := { x with many := v }) rfl hc h3)
theorem node_case {x : Ent} {v : Int} (hx : 0 ≤ x.node) (hv : 0 ≤ v) (hr : rightB x = true) (hr' : rightB { x with node := v } = true) (h : textL x = textL { x with node := v }) : x.node = v := by
  cases hc : (entL x.kind).contains 110
  · have a1 := lacks (right_fit hr _ (at110 _)) hc
    have a2 := lacks (right_fit hr' _ (at110 _)) hc
    simp at a1 a2
    omega
  · rw [text7, text7] at h
    have h2 := List.append_cancel_left (List.append_cancel_left (List.append_cancel_left (List.append_cancel_left h)))
    have h3 : x.piece 110 = ({ x with node := v } : Ent).piece 110 := List.append_cancel_right h2
    exact itoa_inj hx hv (piece_inj (x := x) (y := { x with node := v }) rfl hc h3)
theorem data_case {x : Ent} {v : ByteArray} (hr : rightB x = true) (hr' : rightB { x with data := v } = true) (h : textL x = textL { x with data := v }) : x.data = v := by
  cases hc : (entL x.kind).contains 100
  · have a1 := lacks (right_fit hr _ (at100 _)) hc
    have a2 := lacks (right_fit hr' _ (at100 _)) hc
    simp at a1 a2
    exact a1.trans a2.symm
  · rw [text7, text7] at h
    have h2 := List.append_cancel_left (List.append_cancel_left (List.append_cancel_left (List.append_cancel_left (List.append_cancel_left (List.append_cancel_left h)))))
    have h3 : x.piece 100 = ({ x with data := v } : Ent).piece 100 := List.append_cancel_right h2
    exact bytes_hex (piece_inj (x := x) (y := { x with data := v }) rfl hc h3)
theorem old_case {x : Ent} {v : ByteArray} (hr : rightB x = true) (hr' : rightB { x with old := v } = true) (h : textL x = textL { x with old := v }) : x.old = v := by
  cases hc : (entL x.kind).contains 111
  · have a1 := lacks (right_fit hr _ (at111 _)) hc
    have a2 := lacks (right_fit hr' _ (at111 _)) hc
    simp at a1 a2
    exact a1.trans a2.symm
  · rw [text7, text7] at h
    have h3 : x.piece 111 = ({ x with old := v } : Ent).piece 111 := List.append_cancel_left (List.append_cancel_left (List.append_cancel_left (List.append_cancel_left (List.append_cancel_left (List.append_cancel_left (List.append_cancel_left h))))))
    exact bytes_hex (piece_inj (x := x) (y := { x with old := v }) rfl hc h3)

theorem textY_0 (x : Ent) (how n : Int) (s : ByteArray) (h : how % 7 = 0) : textY x how n s = { x with term := n + 1 } := by unfold textY; simp [h]
theorem textY_1 (x : Ent) (how n : Int) (s : ByteArray) (h : how % 7 = 1) : textY x how n s = { x with seq := n } := by unfold textY; simp [h]
theorem textY_2 (x : Ent) (how n : Int) (s : ByteArray) (h : how % 7 = 2) : textY x how n s = { x with block := n } := by unfold textY; simp [h]
theorem textY_3 (x : Ent) (how n : Int) (s : ByteArray) (h : how % 7 = 3) : textY x how n s = { x with data := cutTo s 64 } := by unfold textY; simp [h]
theorem textY_4 (x : Ent) (how n : Int) (s : ByteArray) (h : how % 7 = 4) : textY x how n s = { x with node := n % 7 + 1 } := by unfold textY; simp [h]
theorem textY_5 (x : Ent) (how n : Int) (s : ByteArray) (h : how % 7 = 5) : textY x how n s = { x with old := cutTo s 64 } := by unfold textY; simp [h]
theorem textY_6 (x : Ent) (how n : Int) (s : ByteArray) (h : how % 7 = 6) : textY x how n s = { x with many := n } := by unfold textY; simp [h]
theorem seven (how : Int) : how % 7 = 0 ∨ how % 7 = 1 ∨ how % 7 = 2 ∨ how % 7 = 3 ∨ how % 7 = 4 ∨ how % 7 = 5 ∨ how % 7 = 6 := by omega
/-- THE PLAIN LAW -/
theorem texts_law (x : Ent) (how n : Int) (s : ByteArray) (hx : Small x) (hn : 0 ≤ n) (hr : rightB x = true) (hr' : rightB (textY x how n s) = true) (h : textL x = textL (textY x how n s)) : x = textY x how n s := by
  rcases seven how with hj | hj | hj | hj | hj | hj | hj
  · rw [textY_0 x how n s hj] at hr' h ⊢
    rw [← term_case hx.wf (by omega) h]
  · rw [textY_1 x how n s hj] at hr' h ⊢
    rw [← seq_case hx.wf hn hr hr' h]
  · rw [textY_2 x how n s hj] at hr' h ⊢
    rw [← block_case hx.wf hn hr hr' h]
  · rw [textY_3 x how n s hj] at hr' h ⊢
    rw [← data_case hr hr' h]
  · rw [textY_4 x how n s hj] at hr' h ⊢
    rw [← node_case hx.node.1 (by omega) hr hr' h]
  · rw [textY_5 x how n s hj] at hr' h ⊢
    rw [← old_case hr hr' h]
  · rw [textY_6 x how n s hj] at hr' h ⊢
    rw [← many_case hx.wf hn hr hr' h]
theorem textY_wf (x : Ent) (how n : Int) (s : ByteArray) (hx : Small x) (hn : 0 ≤ n ∧ n ≤ 255) : (textY x how n s).wf ∧ (textY x how n s).data.size ≤ 64 ∧ (textY x how n s).old.size ≤ 64 := by
  have hw := hx.wf
  have hd : (cutTo s 64).size ≤ 64 := by have h := cutTo_size s 64; rw [show ((64 : Nat) : Int) = 64 from rfl] at h; omega
  obtain ⟨a, b, c, d, e, f, g, i, j, k, l⟩ := hw
  have hk := hx.data
  have hl := hx.old
  have m1 : U64 (n + 1) := ⟨by omega, by omega⟩
  have m2 : U64 n := ⟨by omega, by omega⟩
  have m3 : I64 (n % 7 + 1) := ⟨by omega, by omega⟩
  rcases seven how with hj | hj | hj | hj | hj | hj | hj
  · rw [textY_0 x how n s hj]; exact ⟨⟨m1, b, c, d, e, f, g, i, j, k, l⟩, hk, hl⟩
  · rw [textY_1 x how n s hj]; exact ⟨⟨a, b, c, d, m2, f, g, i, j, k, l⟩, hk, hl⟩
  · rw [textY_2 x how n s hj]; exact ⟨⟨a, b, c, d, e, m2, g, i, j, k, l⟩, hk, hl⟩
  · rw [textY_3 x how n s hj]; exact ⟨⟨a, b, c, d, e, f, g, i, j, Nat.le_trans hd (by decide), l⟩, hd, hl⟩
  · rw [textY_4 x how n s hj]; exact ⟨⟨a, b, c, d, e, f, g, m3, j, k, l⟩, hk, hl⟩
  · rw [textY_5 x how n s hj]; exact ⟨⟨a, b, c, d, e, f, g, i, j, k, Nat.le_trans hd (by decide)⟩, hk, hd⟩
  · rw [textY_6 x how n s hj]; exact ⟨⟨a, b, c, d, e, f, m2, i, j, k, l⟩, hk, hl⟩

end Go.Proofs.YtbjbgdnjcppjhaaDoor
