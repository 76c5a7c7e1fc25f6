/-
  PLAIN DATA: what Note.note answers: a message that is right, by its parts; it is right, and small. No program is imported but by name. No condition. By an AI agent.
-/
import Derived.Test.YtbjbgdnjcppjhaaDoorTextsP
namespace Go.Proofs.YtbjbgdnjcppjhaaDoor
open Go.RowKit
set_option linter.unusedVariables false
set_option linter.unusedSimpArgs false

def putM (m : Msg) (l : List Ent) (x : Msg) (c : UInt8) : Msg :=
  if c = 105 then { x with index := m.index } else if c = 112 then { x with prev := m.prev } else if c = 116 then { x with commit := m.commit } else if c = 107 then { x with mark := m.mark }
  else if c = 121 then { x with ok := m.ok } else if c = 101 then { x with entries := x.entries ++ (l.take 10).map ownEnt } else if c = 115 then { x with snap := cutTo m.snap 200 } else x
def noteBase (m : Msg) : Msg := ⟨m.kind % 10 + 1, modOf m.frm 7, modOf m.to 7, m.term, 0, 0, 0, 0, false, ⟨#[]⟩, []⟩
/-- a message that is right, by its parts -/
def ownMsg (m : Msg) (l : List Ent) : Msg := (msgL (m.kind % 10 + 1)).foldl (putM m l) (noteBase m)

theorem msgL_letters (k : Int) : ∀ c ∈ msgL k, c = 105 ∨ c = 112 ∨ c = 116 ∨ c = 107 ∨ c = 121 ∨ c = 101 ∨ c = 115 := by
  unfold msgL
  repeat' split
  all_goals decide
theorem msgL_len (k : Int) : (msgL k).length ≤ 1000 := by
  unfold msgL
  repeat' split
  all_goals decide

/-- what an own message is, kind by kind -/
def ownEs (l : List Ent) : List Ent := (l.take 10).map ownEnt
theorem ownM_1 (m : Msg) (l : List Ent) (h : m.kind % 10 = 0) : ownMsg m l = ⟨1, modOf m.frm 7, modOf m.to 7, m.term, m.index, m.prev, 0, 0, false, ⟨#[]⟩, []⟩ := by unfold ownMsg noteBase; rw [h]; rfl
theorem ownM_2 (m : Msg) (l : List Ent) (h : m.kind % 10 = 1) : ownMsg m l = ⟨2, modOf m.frm 7, modOf m.to 7, m.term, 0, 0, 0, 0, m.ok, ⟨#[]⟩, []⟩ := by unfold ownMsg noteBase; rw [h]; rfl
theorem ownM_3 (m : Msg) (l : List Ent) (h : m.kind % 10 = 2) : ownMsg m l = ⟨3, modOf m.frm 7, modOf m.to 7, m.term, m.index, m.prev, 0, 0, false, ⟨#[]⟩, []⟩ := by unfold ownMsg noteBase; rw [h]; rfl
theorem ownM_4 (m : Msg) (l : List Ent) (h : m.kind % 10 = 3) : ownMsg m l = ⟨4, modOf m.frm 7, modOf m.to 7, m.term, 0, 0, 0, 0, m.ok, ⟨#[]⟩, []⟩ := by unfold ownMsg noteBase; rw [h]; rfl
theorem ownM_5 (m : Msg) (l : List Ent) (h : m.kind % 10 = 4) : ownMsg m l = ⟨5, modOf m.frm 7, modOf m.to 7, m.term, m.index, m.prev, m.commit, m.mark, false, ⟨#[]⟩, ownEs l⟩ := by unfold ownMsg noteBase; rw [h]; rfl
theorem ownM_6 (m : Msg) (l : List Ent) (h : m.kind % 10 = 5) : ownMsg m l = ⟨6, modOf m.frm 7, modOf m.to 7, m.term, m.index, 0, 0, m.mark, m.ok, ⟨#[]⟩, []⟩ := by unfold ownMsg noteBase; rw [h]; rfl
theorem ownM_7 (m : Msg) (l : List Ent) (h : m.kind % 10 = 6) : ownMsg m l = ⟨7, modOf m.frm 7, modOf m.to 7, m.term, m.index, m.prev, 0, 0, false, cutTo m.snap 200, []⟩ := by unfold ownMsg noteBase; rw [h]; rfl
theorem ownM_8 (m : Msg) (l : List Ent) (h : m.kind % 10 = 7) : ownMsg m l = ⟨8, modOf m.frm 7, modOf m.to 7, m.term, m.index, 0, 0, 0, false, ⟨#[]⟩, []⟩ := by unfold ownMsg noteBase; rw [h]; rfl
theorem ownM_9 (m : Msg) (l : List Ent) (h : m.kind % 10 = 8) : ownMsg m l = ⟨9, modOf m.frm 7, modOf m.to 7, m.term, 0, 0, 0, m.mark, false, ⟨#[]⟩, []⟩ := by unfold ownMsg noteBase; rw [h]; rfl
theorem ownM_10 (m : Msg) (l : List Ent) (h : m.kind % 10 = 9) : ownMsg m l = ⟨10, modOf m.frm 7, modOf m.to 7, m.term, 0, 0, 0, m.mark, false, ⟨#[]⟩, []⟩ := by unfold ownMsg noteBase; rw [h]; rfl

/-- what a field may be in an own message -/
structure SmallM (x : Msg) : Prop where
  kind : 1 ≤ x.kind ∧ x.kind ≤ 10
  frm : 1 ≤ x.frm ∧ x.frm ≤ 7
  «to» : 1 ≤ x.to ∧ x.to ≤ 7
  term : U64 x.term
  index : U64 x.index
  prev : U64 x.prev
  commit : U64 x.commit
  mark : U64 x.mark
  snap : x.snap.size ≤ 200
  count : x.entries.length ≤ 10
  each : ∀ e ∈ x.entries, Small e ∧ rightB e = true

theorem ownEs_each (l : List Ent) : (ownEs l).length ≤ 10 ∧ ∀ e ∈ ownEs l, Small e ∧ rightB e = true := by
  refine ⟨by unfold ownEs; simp; omega, fun e he => ?_⟩
  unfold ownEs at he
  obtain ⟨x, _, rfl⟩ := List.mem_map.1 he
  exact ⟨(own_small x).1, (own_small x).2.1⟩
theorem smallM_mk {k f t te ix pr co mk : Int} {ok : Bool} {s : ByteArray} {es : List Ent} (h1 : 1 ≤ k ∧ k ≤ 10) (h2 : 1 ≤ f ∧ f ≤ 7) (h3 : 1 ≤ t ∧ t ≤ 7) (h4 : U64 te) (h5 : U64 ix) (h6 : U64 pr) (h7 : U64 co) (h8 : U64 mk) (h9 : s.size ≤ 200) (h10 : es.length ≤ 10) (h11 : ∀ e ∈ es, Small e ∧ rightB e = true) :
    SmallM ⟨k, f, t, te, ix, pr, co, mk, ok, s, es⟩ := ⟨h1, h2, h3, h4, h5, h6, h7, h8, h9, h10, h11⟩
theorem ownM_right {k f t te ix pr co mk : Int} {ok : Bool} {s : ByteArray} {es : List Ent} (h1 : msgOk k = true) (h2 : 1 ≤ f ∧ f ≤ 7) (h3 : 1 ≤ t ∧ t ≤ 7) (h4 : fitB (msgL k) (Msg.mk k f t te ix pr co mk ok s es).flds = true) : msgRightB ⟨k, f, t, te, ix, pr, co, mk, ok, s, es⟩ = true := by
  unfold msgRightB nodeB
  rw [h4, show msgOk (Msg.mk k f t te ix pr co mk ok s es).kind = true from h1, decide_eq_true (show 1 ≤ (Msg.mk k f t te ix pr co mk ok s es).frm from h2.1), decide_eq_true (show (Msg.mk k f t te ix pr co mk ok s es).frm ≤ 7 from h2.2), decide_eq_true (show 1 ≤ (Msg.mk k f t te ix pr co mk ok s es).to from h3.1), decide_eq_true (show (Msg.mk k f t te ix pr co mk ok s es).to ≤ 7 from h3.2)]
  rfl
theorem zero_u : U64 0 := ⟨by decide, by decide⟩
theorem nil_each : ∀ e ∈ ([] : List Ent), Small e ∧ rightB e = true := fun e h => by cases h

theorem ownMsg_small (m : Msg) (l : List Ent) (ht : U64 m.term) (hi : U64 m.index) (hp : U64 m.prev) (hc : U64 m.commit) (hk : U64 m.mark) :
    SmallM (ownMsg m l) ∧ msgRightB (ownMsg m l) = true ∧ (ownMsg m l).kind = m.kind % 10 + 1 := by
  have hf := modOf_range m.frm 7 (.inl rfl)
  have hto := modOf_range m.to 7 (.inl rfl)
  have hs : (cutTo m.snap 200).size ≤ 200 := by have h := cutTo_size m.snap 200; rw [show ((200 : Nat) : Int) = 200 from rfl] at h; omega
  obtain ⟨he1, he2⟩ := ownEs_each l
  have hz : (ByteArray.mk #[]).size ≤ 200 := by decide
  have hall : (ownEs l).all rightB = true := by
    rw [List.all_eq_true]
    exact fun e he => (he2 e he).2
  have hcases : m.kind % 10 = 0 ∨ m.kind % 10 = 1 ∨ m.kind % 10 = 2 ∨ m.kind % 10 = 3 ∨ m.kind % 10 = 4 ∨ m.kind % 10 = 5 ∨ m.kind % 10 = 6 ∨ m.kind % 10 = 7 ∨ m.kind % 10 = 8 ∨ m.kind % 10 = 9 := by omega
  rcases hcases with h | h | h | h | h | h | h | h | h | h
  · rw [ownM_1 m l h, h]
    exact ⟨smallM_mk ⟨by decide, by decide⟩ hf hto ht hi hp zero_u zero_u hz (by simp) nil_each, ownM_right (by decide) hf hto (by unfold Msg.flds; rfl), rfl⟩
  · rw [ownM_2 m l h, h]
    exact ⟨smallM_mk ⟨by decide, by decide⟩ hf hto ht zero_u zero_u zero_u zero_u hz (by simp) nil_each, ownM_right (by decide) hf hto (by unfold Msg.flds; rfl), rfl⟩
  · rw [ownM_3 m l h, h]
    exact ⟨smallM_mk ⟨by decide, by decide⟩ hf hto ht hi hp zero_u zero_u hz (by simp) nil_each, ownM_right (by decide) hf hto (by unfold Msg.flds; rfl), rfl⟩
  · rw [ownM_4 m l h, h]
    exact ⟨smallM_mk ⟨by decide, by decide⟩ hf hto ht zero_u zero_u zero_u zero_u hz (by simp) nil_each, ownM_right (by decide) hf hto (by unfold Msg.flds; rfl), rfl⟩
  · rw [ownM_5 m l h, h]
    refine ⟨smallM_mk ⟨by decide, by decide⟩ hf hto ht hi hp hc hk hz he1 he2, ownM_right (by decide) hf hto ?_, rfl⟩
    unfold Msg.flds
    dsimp only
    rw [decide_eq_true (show (ownEs l).length ≤ 64 by omega), hall]
    rfl
  · rw [ownM_6 m l h, h]
    exact ⟨smallM_mk ⟨by decide, by decide⟩ hf hto ht hi zero_u zero_u hk hz (by simp) nil_each, ownM_right (by decide) hf hto (by unfold Msg.flds; rfl), rfl⟩
  · rw [ownM_7 m l h, h]
    refine ⟨smallM_mk ⟨by decide, by decide⟩ hf hto ht hi hp zero_u zero_u hs (by simp) nil_each, ownM_right (by decide) hf hto ?_, rfl⟩
    unfold Msg.flds
    dsimp only
    rw [decide_eq_true (show (cutTo m.snap 200).size ≤ 16384 by omega)]
    rfl
  · rw [ownM_8 m l h, h]
    exact ⟨smallM_mk ⟨by decide, by decide⟩ hf hto ht hi zero_u zero_u zero_u hz (by simp) nil_each, ownM_right (by decide) hf hto (by unfold Msg.flds; rfl), rfl⟩
  · rw [ownM_9 m l h, h]
    exact ⟨smallM_mk ⟨by decide, by decide⟩ hf hto ht zero_u zero_u zero_u hk hz (by simp) nil_each, ownM_right (by decide) hf hto (by unfold Msg.flds; rfl), rfl⟩
  · rw [ownM_10 m l h, h]
    exact ⟨smallM_mk ⟨by decide, by decide⟩ hf hto ht zero_u zero_u zero_u hk hz (by simp) nil_each, ownM_right (by decide) hf hto (by unfold Msg.flds; rfl), rfl⟩

theorem putM_count (m : Msg) (l : List Ent) (f : List UInt8) (x : Msg) (n : Nat) (h : x.entries.length ≤ n) : (f.foldl (putM m l) x).entries.length ≤ n + 10 * f.length := by
  induction f generalizing x n with
  | nil => simpa using h
  | cons c r ih =>
    have : (putM m l x c).entries.length ≤ n + 10 := by
      unfold putM
      repeat' split
      all_goals first | omega | (simp; omega)
    have h2 := ih (putM m l x c) (n + 10) this
    simp only [List.foldl_cons, List.length_cons]
    omega

/-- parts of entries lie in a slice that was handed over -/
def MadesAt (w : World) (s : Value) (l : List (Ent × Bool)) : Prop :=
  ∃ a c, s = .slice a l.length c ∧ l.length ≤ c ∧ c ≤ 9223372036854775807 ∧ (l ≠ [] → ∃ B o, a = some ⟨B, o, none⟩ ∧ B < w.heap.size ∧ ∀ i (h : i < l.length), EntAt w B (o + i * 12) l[i].1 ∧ w.cell? ⟨B, o + i * 12 + 11, none⟩ = some (.bool l[i].2))
theorem MadesAt.below {w w' : World} {s : Value} {l : List (Ent × Bool)} (h : MadesAt w s l) (hb : Below w.heap.size w w') : MadesAt w' s l := by
  obtain ⟨a, c, h1, h2, h3, h4⟩ := h
  refine ⟨a, c, h1, h2, h3, fun h => ?_⟩
  obtain ⟨B, o, h5, h6, h7⟩ := h4 h
  exact ⟨B, o, h5, Nat.lt_of_lt_of_le h6 hb.size, fun i hi => ⟨(h7 i hi).1.below hb, cell_later hb (h7 i hi).2⟩⟩
abbrev MsgT : TypeId := 42

/-- a message's cells lie there -/
def MsgAt (w : World) (b : Nat) (m : Msg) (s : Value) : Prop :=
  w.cell? ⟨b, 0, none⟩ = some (.int .i64 m.kind) ∧ w.cell? ⟨b, 1, none⟩ = some (.int .i64 m.frm) ∧ w.cell? ⟨b, 2, none⟩ = some (.int .i64 m.to) ∧ w.cell? ⟨b, 3, none⟩ = some (.int .u64 m.term) ∧ w.cell? ⟨b, 4, none⟩ = some (.int .u64 m.index) ∧ w.cell? ⟨b, 5, none⟩ = some (.int .u64 m.prev) ∧ w.cell? ⟨b, 6, none⟩ = some (.int .u64 m.commit) ∧ w.cell? ⟨b, 7, none⟩ = some (.int .u64 m.mark) ∧ w.cell? ⟨b, 8, none⟩ = some (.bool m.ok) ∧ w.cell? ⟨b, 9, none⟩ = some s ∧ w.cell? ⟨b, 10, none⟩ = some (.string m.snap)
theorem MsgAt.below {w w' : World} {b : Nat} {m : Msg} {s : Value} (h : MsgAt w b m s) (hb : Below w.heap.size w w') : MsgAt w' b m s :=
  ⟨cell_later hb h.1, cell_later hb h.2.1, cell_later hb h.2.2.1, cell_later hb h.2.2.2.1, cell_later hb h.2.2.2.2.1, cell_later hb h.2.2.2.2.2.1, cell_later hb h.2.2.2.2.2.2.1, cell_later hb h.2.2.2.2.2.2.2.1, cell_later hb h.2.2.2.2.2.2.2.2.1, cell_later hb h.2.2.2.2.2.2.2.2.2.1, cell_later hb h.2.2.2.2.2.2.2.2.2.2⟩
theorem msgAt_block {w : World} {b : Nat} {m : Msg} {s : Value} {t : TypeId} {r : List Value} (h : w.heap[b]? = some (.cells ⟨(m.cells s).toList ++ r⟩ t (0, 0))) : MsgAt w b m s := by
  unfold MsgAt
  simp only [World.cell?, h]
  obtain ⟨kind, frm, too, term, index, prev, commit, mark, ok, snap, entries⟩ := m
  simp [Msg.cells]

/-- how the message that is made lies there while it is made -/
structure NoteSt (W wr : World) (x : Msg) (v : Value) : Prop where
  below : Below W.heap.size W wr
  block : wr.heap[W.heap.size]? = some (.cells (x.cells v) MsgT (0, 0))
  row : wr.ownsRow (W.heap.size + 1) EntT 11 v x.entries.length (x.entries.flatMap fun e => e.cells.toList)
theorem set_grown {w : World} {b o : Nat} {u : Value} : w.grownBy (w.setCell ⟨b, o, none⟩ u) (some b) := by
  refine ⟨rfl, rfl, rfl, by simp [World.setCell], fun k _ hne => ?_⟩
  have : b ≠ k := fun h => hne (by rw [h])
  simp [World.setCell, Array.getElem?_modify, this]
theorem own_far {w : World} {base size n : Nat} {e : TypeId} {v : Value} {xs : List Value} (h : w.ownsRow (base + 1) e size v n xs) : v.ownBlock = none ∨ v.ownBlock ≠ some base := by
  cases hv : v.ownBlock with
  | none => exact .inl rfl
  | some g =>
    refine .inr fun he => ?_
    have := (h.lt g hv).1
    cases he
    omega
theorem own_set {w : World} {base size n b o : Nat} {e : TypeId} {u v : Value} {xs : List Value} (h : w.ownsRow base e size v n xs) (hb : b < base) : (w.setCell ⟨b, o, none⟩ u).ownsRow base e size v n xs := by
  refine h.kept set_grown ?_
  cases hv : v.ownBlock with
  | none => exact .inl rfl
  | some g =>
    refine .inr fun he => ?_
    have := (h.lt g hv).1
    cases he
    omega
theorem NoteSt.set {W wr : World} {x x' : Msg} {v : Value} (st : NoteSt W wr x v) (o : Nat) (u : Value) (h : (x.cells v).setIfInBounds o u = x'.cells v) (he : x'.entries = x.entries) : NoteSt W (wr.setCell ⟨W.heap.size, o, none⟩ u) x' v := by
  refine ⟨st.below.setCell (Nat.le_refl _) _, ?_, ?_⟩
  · rw [← h]
    simp [World.setCell, Array.getElem?_modify, st.block]
  · rw [he]
    exact st.row.kept set_grown (own_far st.row)
theorem NoteSt.new (W : World) (m : Msg) : NoteSt W (W.alloc (.cells ((noteBase m).cells (.slice none 0 0)) MsgT)) (noteBase m) (.slice none 0 0) :=
  ⟨(Below.refl _ _).alloc (Nat.le_refl _) _, heap_alloc_new _ _, rfl, .inl ⟨rfl, rfl⟩⟩
theorem NoteSt.ents {W wr : World} {x : Msg} {v : Value} (st : NoteSt W wr x v) : EntsAt wr v x.entries := own_entsAt st.row rfl

/-- what the loads of 'x.f = append(x.f, e.made())' read -/
def AppS (b o b' : Nat) (v : Value) (e : Ent) (w : World) : Prop := w.cell? ⟨b, o, none⟩ = some v ∧ EntAt w b' 0 e ∧ w.cell? ⟨b', 11, none⟩ = some (.bool true)
theorem AppS.below {b o b' : Nat} {v : Value} {e : Ent} {w w' : World} (h : AppS b o b' v e w) (hb : Below w.heap.size w w') : AppS b o b' v e w' := ⟨cell_later hb h.1, h.2.1.below hb, cell_later hb h.2.2⟩
theorem AppS.grown {b o b' : Nat} {v : Value} {e : Ent} {w w' : World} {row : Option Nat} (h : AppS b o b' v e w) (hg : w.grownBy w' row) (h1 : b < w.heap.size) (h2 : b' < w.heap.size) (n1 : row ≠ some b) (n2 : row ≠ some b') : AppS b o b' v e w' := by
  have e1 : ∀ o, w'.cell? ⟨b, o, none⟩ = w.cell? ⟨b, o, none⟩ := fun o => World.cell?_of_block (hg.block b h1 (Ne.symm n1))
  have e2 : ∀ o, w'.cell? ⟨b', o, none⟩ = w.cell? ⟨b', o, none⟩ := fun o => World.cell?_of_block (hg.block b' h2 (Ne.symm n2))
  obtain ⟨k0, ⟨k1, k2, k3, k4, k5, k6, k7, k8, k9, k10, k11⟩, k12⟩ := h
  exact ⟨(e1 _).trans k0, ⟨(e2 _).trans k1, (e2 _).trans k2, (e2 _).trans k3, (e2 _).trans k4, (e2 _).trans k5, (e2 _).trans k6, (e2 _).trans k7, (e2 _).trans k8, (e2 _).trans k9, (e2 _).trans k10, (e2 _).trans k11⟩, (e2 _).trans k12⟩

end Go.Proofs.YtbjbgdnjcppjhaaDoor
