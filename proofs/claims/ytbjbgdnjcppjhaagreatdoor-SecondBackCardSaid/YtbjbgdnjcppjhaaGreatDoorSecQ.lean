/-
  PLAIN: an entry's and a message's fields (second), put and taken; what was put is got, entries one behind the other too; a message's bytes, cut, or with a 0 behind, are none. No program is imported but by name. Conditions: as each theorem says. By an AI agent.
-/
import Derived.Test.YtbjbgdnjcppjhaaGreatDoorSecP
import Derived.Test.YtbjbgdnjcppjhaaGreatDoorNoteP
namespace Go.Proofs.YtbjbgdnjcppjhaaGreatDoor
open Go.RowKit
set_option linter.unusedSimpArgs false
set_option linter.unusedVariables false

/-- a number's bytes, none if it is 0 -/
def numL (n : Nat) : List UInt8 := if n = 0 then [] else varL n
def textF (s : List UInt8) : List UInt8 := if s = [] then [] else varL s.length ++ s
def flagL (b : Bool) : List UInt8 := if b then [1] else []

/-- a field that is a number of the reader -/
def takeOf {σ : Type} (f : σ → Nat → σ) (bad : Nat → Bool) : Take σ := fun s r => (f s (rdVar r).1, if bad (rdVar r).1 = true then rdFail else (rdVar r).2)
def badU (n : Nat) : Bool := n == 0
def badI (n : Nat) : Bool := n == 0 || decide (IntKind.i64.wrap n < 0) || !decide (IntKind.u64.wrap (IntKind.i64.wrap n) = n)
def badF (n : Nat) : Bool := !(n == 1)
def takeU {σ : Type} (f : σ → Int → σ) : Take σ := takeOf (fun s n => f s n) badU
def takeI {σ : Type} (f : σ → Int → σ) : Take σ := takeOf (fun s n => f s (IntKind.i64.wrap n)) badI
def takeF {σ : Type} (f : σ → Bool → σ) : Take σ := takeOf (fun s n => f s (n == 1)) badF
def takeT {σ : Type} (f : σ → ByteArray → σ) : Take σ := fun s r => (f s ⟨(rdText r).1.toArray⟩, if (rdText r).1 = [] then rdFail else (rdText r).2)

theorem fine_of {σ : Type} (f : σ → Nat → σ) (bad : Nat → Bool) : Fine (takeOf f bad) := by
  refine ⟨fun s r => ?_, fun s u => ?_, fun s u q s' u' h => ?_⟩
  · unfold takeOf
    simp only
    split
    · simp [rdFail]
    · exact rdVar_less r
  · unfold takeOf
    simp only
    split
    · rfl
    · exact rdVar_bad u
  · unfold takeOf at h ⊢
    simp only [Prod.mk.injEq] at h
    obtain ⟨h1, h2⟩ := h
    split at h2
    · simp [rdFail] at h2
    · rename_i hb
      have hx : rdVar (u, false) = ((rdVar (u, false)).1, (u', false)) := by rw [← h2]
      have hq := rdVar_pre (q := q) hx
      rw [hq]
      simp only
      rw [if_neg hb, h1]
theorem rdBytes_less (n : Nat) (r : Rd) : (rdBytes n r).2.1.length ≤ r.1.length := by
  unfold rdBytes
  split
  · simp [rdFail]
  · simp
theorem rdText_less (r : Rd) : (rdText r).2.1.length ≤ r.1.length := by
  unfold rdText
  simp only
  split
  · simp [rdFail]
  · exact Nat.le_trans (rdBytes_less _ _) (rdVar_less r)
theorem rdText_bad (u : List UInt8) : (rdText (u, true)).2.2 = true := by
  unfold rdText
  simp only
  split
  · rfl
  · unfold rdBytes
    rw [if_pos (.inl (rdVar_bad u))]
    rfl
theorem rdText_pre {u q s u' : List UInt8} (h : rdText (u, false) = (s, (u', false))) : rdText (u ++ q, false) = (s, (u' ++ q, false)) := by
  unfold rdText at h ⊢
  simp only at h ⊢
  split at h
  · simp [rdFail] at h
  · rename_i hlt
    unfold rdBytes at h
    split at h
    · simp [rdFail] at h
    · rename_i hb
      generalize hx : rdVar (u, false) = x at *
      obtain ⟨n, v, b⟩ := x
      simp only at h hlt hb
      have hbf : b = false := by cases b <;> simp at hb ⊢
      subst hbf
      rw [rdVar_pre (q := q) hx]
      simp only
      simp only [Prod.mk.injEq, and_true] at h
      have hl : n ≤ v.length := by omega
      rw [if_neg (by simp; omega)]
      unfold rdBytes
      rw [if_neg (by simp; omega)]
      simp only
      rw [List.take_append_of_le_length hl, List.drop_append_of_le_length hl, h.1, h.2]
theorem fine_text {σ : Type} (f : σ → ByteArray → σ) : Fine (takeT f) := by
  refine ⟨fun s r => ?_, fun s u => ?_, fun s u q s' u' h => ?_⟩
  · unfold takeT
    simp only
    split
    · simp [rdFail]
    · exact rdText_less r
  · unfold takeT
    simp only
    split
    · rfl
    · exact rdText_bad u
  · unfold takeT at h ⊢
    simp only [Prod.mk.injEq] at h
    obtain ⟨h1, h2⟩ := h
    split at h2
    · simp [rdFail] at h2
    · rename_i hb
      have hx : rdText (u, false) = ((rdText (u, false)).1, (u', false)) := by rw [← h2]
      have hq := rdText_pre (q := q) hx
      rw [hq]
      simp only
      rw [if_neg hb, h1]

/-- an entry's fields, by their tags -/
def entTakes : List (Take Ent) :=
  [takeI fun e n => { e with kind := n }, takeU fun e n => { e with term := n }, takeU fun e n => { e with index := n }, takeU fun e n => { e with client := n }, takeU fun e n => { e with seq := n },
   takeU fun e n => { e with block := n }, takeU fun e n => { e with many := n }, takeI fun e n => { e with node := n }, takeI fun e n => { e with level := n },
   takeT fun e s => { e with data := s }, takeT fun e s => { e with old := s }]
def entBs (e : Ent) : List (List UInt8) :=
  [numL e.kind.toNat, numL e.term.toNat, numL e.index.toNat, numL e.client.toNat, numL e.seq.toNat, numL e.block.toNat, numL e.many.toNat, numL e.node.toNat, numL e.level.toNat, textF e.data.data.toList, textF e.old.data.toList]
theorem entTakes_fine : ∀ t ∈ entTakes, Fine t := by
  intro t ht
  simp only [entTakes, List.mem_cons, List.not_mem_nil, or_false] at ht
  rcases ht with rfl | rfl | rfl | rfl | rfl | rfl | rfl | rfl | rfl | rfl | rfl
  all_goals first | exact fine_of _ _ | exact fine_text _
/-- an entry's bytes; the entry that stands in a reader -/
def secE (e : Ent) : List UInt8 := tagL 0 (entBs e)
def getEnt (r : Rd) : Ent × Rd :=
  if (getL entTakes 0 Ent.zero r).2.2 = false ∧ rightB (getL entTakes 0 Ent.zero r).1 = true then getL entTakes 0 Ent.zero r else (Ent.zero, rdFail)

theorem numL_nil {n : Int} (h0 : 0 ≤ n) (h : numL n.toNat = []) : n = 0 := by
  unfold numL at h
  split at h
  · omega
  · have := varL_pos n.toNat
    rw [h] at this
    simp at this
theorem textF_nil {s : ByteArray} (h : textF s.data.toList = []) : s = ⟨#[]⟩ := by
  unfold textF at h
  split at h
  · apply ByteArray.ext
    apply Array.toList_inj.1
    simpa using ‹s.data.toList = []›
  · have := varL_pos s.data.toList.length
    have h2 := congrArg List.length h
    simp at h2
    simp [h2.1] at this
theorem takeU_back {σ : Type} (f : σ → Int → σ) (s : σ) {n : Int} (h0 : 0 ≤ n) (h1 : n ≤ 18446744073709551615) (hb : numL n.toNat ≠ []) (t : List UInt8) : takeU f s (numL n.toNat ++ t, false) = (f s n, (t, false)) := by
  have hn : n.toNat ≠ 0 := fun h => hb (by rw [h]; rfl)
  unfold takeU takeOf
  rw [show numL n.toNat = varL n.toNat from if_neg hn, rdVar_back n.toNat (by omega)]
  simp only
  rw [if_neg (by simp [badU, hn]), Int.toNat_of_nonneg h0]
theorem wrap_small {n : Int} (h0 : 0 ≤ n) (h1 : n ≤ 9223372036854775807) : IntKind.i64.wrap n = n := by
  have : IntKind.i64.wrap n = if n % 18446744073709551616 ≥ 9223372036854775808 then n % 18446744073709551616 - 18446744073709551616 else n % 18446744073709551616 := by simp [IntKind.wrap, IntKind.signed, IntKind.bits]
  rw [this]
  split <;> omega
theorem wrapU_small {n : Int} (h0 : 0 ≤ n) (h1 : n ≤ 18446744073709551615) : IntKind.u64.wrap n = n := by
  have : IntKind.u64.wrap n = n % 18446744073709551616 := rfl
  rw [this]
  omega
theorem takeI_back {σ : Type} (f : σ → Int → σ) (s : σ) {n : Int} (h0 : 0 ≤ n) (h1 : n ≤ 1000) (hb : numL n.toNat ≠ []) (t : List UInt8) : takeI f s (numL n.toNat ++ t, false) = (f s n, (t, false)) := by
  have hn : n.toNat ≠ 0 := fun h => hb (by rw [h]; rfl)
  unfold takeI takeOf
  rw [show numL n.toNat = varL n.toNat from if_neg hn, rdVar_back n.toNat (by omega)]
  have e0 : ((n.toNat : Nat) : Int) = n := Int.toNat_of_nonneg h0
  have e1 : IntKind.i64.wrap n = n := by
    exact wrap_small h0 (by omega)
  have e2 : IntKind.u64.wrap n = n := by
    exact wrapU_small h0 (by omega)
  have e3 : badI n.toNat = false := by
    unfold badI
    rw [e0, e1, e2]
    simp [hn]
    omega
  simp only
  rw [if_neg (by rw [e3]; decide), e0, e1]
theorem takeF_back {σ : Type} (f : σ → Bool → σ) (s : σ) {b : Bool} (hb : flagL b ≠ []) (t : List UInt8) : takeF f s (flagL b ++ t, false) = (f s b, (t, false)) := by
  cases b
  · exact absurd rfl hb
  · unfold takeF takeOf
    have := rdVar_back 1 (by decide) t false
    rw [varL] at this
    rw [show rdVar (flagL true ++ t, false) = (1, (t, false)) from this]
    rfl
theorem takeT_back {σ : Type} (f : σ → ByteArray → σ) (s : σ) {d : ByteArray} (hd : d.size < 18446744073709551616) (hb : textF d.data.toList ≠ []) (t : List UInt8) : takeT f s (textF d.data.toList ++ t, false) = (f s d, (t, false)) := by
  have hn : d.data.toList ≠ [] := fun h => hb (by rw [h]; rfl)
  unfold takeT
  rw [show textF d.data.toList = varL d.data.toList.length ++ d.data.toList from if_neg hn, List.append_assoc, rdText_back _ _ (by simpa using hd)]
  simp only
  rw [if_neg hn]

/-- an entry when k of its fields are there -/
def entAtK (e : Ent) (k : Nat) : Ent :=
  ⟨if 2 ≤ k then e.term else 0, if 3 ≤ k then e.index else 0, if 1 ≤ k then e.kind else 0, if 4 ≤ k then e.client else 0, if 5 ≤ k then e.seq else 0, if 6 ≤ k then e.block else 0, if 7 ≤ k then e.many else 0,
   if 8 ≤ k then e.node else 0, if 9 ≤ k then e.level else 0, if 10 ≤ k then e.data else ⟨#[]⟩, if 11 ≤ k then e.old else ⟨#[]⟩⟩
theorem entL_back (e : Ent) (h : Small e) (t : List UInt8) : getL entTakes 0 Ent.zero (secE e ++ t, false) = (e, (t, false)) := by
  obtain ⟨⟨a0, a1⟩, ⟨b0, b1⟩, ⟨c0, c1⟩, ⟨d0, d1⟩, ⟨e0, e1⟩, ⟨f0, f1⟩, ⟨g0, g1⟩, ⟨i0, i1⟩, ⟨j0, j1⟩, hd, ho⟩ := h
  have := getL_back entTakes (entBs e) rfl (show 11 < 2 ^ 63 by decide) (entAtK e) ?_ ?_ 11 0 0 rfl (Nat.zero_le _) (Nat.le_refl _) t
  · exact this
  · intro k hk hb
    match k, hk, hb with
    | 0, _, hb => have := numL_nil c0 hb; simp [entAtK, this]
    | 1, _, hb => have := numL_nil (show 0 ≤ e.term by omega) hb; simp [entAtK, this]
    | 2, _, hb => have := numL_nil (show 0 ≤ e.index by omega) hb; simp [entAtK, this]
    | 3, _, hb => have := numL_nil d0 hb; simp [entAtK, this]
    | 4, _, hb => have := numL_nil e0 hb; simp [entAtK, this]
    | 5, _, hb => have := numL_nil f0 hb; simp [entAtK, this]
    | 6, _, hb => have := numL_nil g0 hb; simp [entAtK, this]
    | 7, _, hb => have := numL_nil i0 hb; simp [entAtK, this]
    | 8, _, hb => have := numL_nil j0 hb; simp [entAtK, this]
    | 9, _, hb => have := textF_nil hb; simp [entAtK, this]
    | 10, _, hb => have := textF_nil hb; simp [entAtK, this]
    | k + 11, hk, _ => exact absurd hk (by simp [entBs])
  · intro k hk hb t
    match k, hk, hb with
    | 0, _, hb => exact takeI_back (fun e n => { e with kind := n }) (entAtK e 0) c0 (by omega) hb t
    | 1, _, hb => exact takeU_back (fun e n => { e with term := n }) (entAtK e 1) (by omega) (by omega) hb t
    | 2, _, hb => exact takeU_back (fun e n => { e with index := n }) (entAtK e 2) (by omega) (by omega) hb t
    | 3, _, hb => exact takeU_back (fun e n => { e with client := n }) (entAtK e 3) (by omega) (by omega) hb t
    | 4, _, hb => exact takeU_back (fun e n => { e with seq := n }) (entAtK e 4) (by omega) (by omega) hb t
    | 5, _, hb => exact takeU_back (fun e n => { e with block := n }) (entAtK e 5) (by omega) (by omega) hb t
    | 6, _, hb => exact takeU_back (fun e n => { e with many := n }) (entAtK e 6) (by omega) (by omega) hb t
    | 7, _, hb => exact takeI_back (fun e n => { e with node := n }) (entAtK e 7) i0 (by omega) hb t
    | 8, _, hb => exact takeI_back (fun e n => { e with level := n }) (entAtK e 8) j0 (by omega) hb t
    | 9, _, hb => exact takeT_back (fun e n => { e with data := n }) (entAtK e 9) (by omega) hb t
    | 10, _, hb => exact takeT_back (fun e n => { e with old := n }) (entAtK e 10) (by omega) hb t
    | k + 11, hk, _ => exact absurd hk (by simp [entBs])
theorem getEnt_back (e : Ent) (h : Small e) (hr : rightB e = true) (t : List UInt8) : getEnt (secE e ++ t, false) = (e, (t, false)) := by
  unfold getEnt
  rw [entL_back e h t]
  rw [if_pos ⟨rfl, hr⟩]
theorem getEnt_shrink (r : Rd) : (getEnt r).2.1.length ≤ r.1.length := by
  unfold getEnt
  split
  · exact getL_shrink entTakes entTakes_fine _ 0 rfl _ _
  · simp [rdFail]
theorem getEnt_bad (u : List UInt8) : (getEnt (u, true)).2.2 = true := by
  unfold getEnt
  split
  · exact getL_bad entTakes entTakes_fine _ 0 rfl _ _ rfl
  · rfl
theorem getEnt_pre {u q u' : List UInt8} {e : Ent} (h : getEnt (u, false) = (e, (u', false))) : getEnt (u ++ q, false) = (e, (u' ++ q, false)) := by
  unfold getEnt at h ⊢
  split at h
  · rename_i hc
    have := getL_pre entTakes entTakes_fine _ 0 rfl _ u q _ _ h
    rw [this]
    rw [h] at hc
    rw [if_pos ⟨rfl, hc.2⟩]
  · simp [rdFail] at h

/-- so many entries -/
def entsN : Nat → Rd → List Ent × Rd
  | 0, r => ([], r)
  | n + 1, r => ((getEnt r).1 :: (entsN n (getEnt r).2).1, (entsN n (getEnt r).2).2)
theorem entsN_snoc : ∀ (n : Nat) (r : Rd), entsN (n + 1) r = ((entsN n r).1 ++ [(getEnt (entsN n r).2).1], (getEnt (entsN n r).2).2) := by
  intro n
  induction n with
  | zero => intro r; rfl
  | succ n ih =>
    intro r
    rw [entsN, ih, entsN]
    simp
theorem entsN_shrink : ∀ (n : Nat) (r : Rd), (entsN n r).2.1.length ≤ r.1.length := by
  intro n
  induction n with
  | zero => intro r; exact Nat.le_refl _
  | succ n ih => intro r; exact Nat.le_trans (ih _) (getEnt_shrink r)
theorem entsN_len : ∀ (n : Nat) (r : Rd), (entsN n r).1.length = n := by
  intro n
  induction n with
  | zero => intro r; rfl
  | succ n ih => intro r; simp [entsN, ih]
theorem entsN_bad : ∀ (n : Nat) (r : Rd), r.2 = true → (entsN n r).2.2 = true := by
  intro n
  induction n with
  | zero => intro r h; exact h
  | succ n ih =>
    intro r h
    obtain ⟨u, b⟩ := r
    simp only at h
    subst h
    exact ih _ (getEnt_bad u)
theorem entsN_pre : ∀ (n : Nat) (u q : List UInt8) (l : List Ent) (u' : List UInt8), entsN n (u, false) = (l, (u', false)) → entsN n (u ++ q, false) = (l, (u' ++ q, false)) := by
  intro n
  induction n with
  | zero =>
    intro u q l u' h
    simp only [entsN, Prod.mk.injEq] at h ⊢
    exact ⟨h.1, by rw [h.2.1], trivial⟩
  | succ n ih =>
    intro u q l u' h
    rcases rd_cases (getEnt (u, false)).2 with hb | hb
    · have := entsN_bad n _ hb
      simp only [entsN, Prod.mk.injEq] at h
      rw [h.2] at this
      cases this
    · have hx : getEnt (u, false) = ((getEnt (u, false)).1, ((getEnt (u, false)).2.1, false)) := by
        conv => lhs; rw [← Prod.eta (getEnt (u, false))]
        rw [hb]
      have hq := getEnt_pre (q := q) hx
      rw [entsN] at h ⊢
      rw [hq]
      rw [hx] at h
      simp only [Prod.mk.injEq] at h ⊢
      obtain ⟨h1, h2⟩ := h
      rw [ih (getEnt (u, false)).2.1 q (entsN n ((getEnt (u, false)).2.1, false)).1 u' (by rw [← h2])]
      exact ⟨h1, rfl⟩
theorem entsN_back : ∀ (l : List Ent) (h : ∀ e ∈ l, Small e ∧ rightB e = true) (t : List UInt8), entsN l.length (l.flatMap secE ++ t, false) = (l, (t, false)) := by
  intro l
  induction l with
  | nil => intro h t; rfl
  | cons e l ih =>
    intro h t
    have h1 := h e (List.mem_cons_self ..)
    rw [List.length_cons, entsN, List.flatMap_cons, List.append_assoc, getEnt_back e h1.1 h1.2]
    simp only
    rw [ih (fun x hx => h x (List.mem_cons_of_mem _ hx)) t]

/-- a message's fields, by their tags -/
def takeE : Take Msg := fun m r =>
  if (rdVar r).1 = 0 ∨ 64 < (rdVar r).1 then (m, rdFail) else ({ m with entries := m.entries ++ (entsN (rdVar r).1 (rdVar r).2).1 }, (entsN (rdVar r).1 (rdVar r).2).2)
def entsF (l : List Ent) : List UInt8 := if l = [] then [] else varL l.length ++ l.flatMap secE
def msgTakes : List (Take Msg) :=
  [takeI fun m n => { m with kind := n }, takeI fun m n => { m with frm := n }, takeI fun m n => { m with «to» := n }, takeU fun m n => { m with term := n }, takeU fun m n => { m with index := n }, takeU fun m n => { m with prev := n },
   takeU fun m n => { m with commit := n }, takeU fun m n => { m with mark := n }, takeF fun m b => { m with ok := b }, takeT fun m s => { m with snap := s }, takeE]
def msgBs (m : Msg) : List (List UInt8) :=
  [numL m.kind.toNat, numL m.frm.toNat, numL m.to.toNat, numL m.term.toNat, numL m.index.toNat, numL m.prev.toNat, numL m.commit.toNat, numL m.mark.toNat, flagL m.ok, textF m.snap.data.toList, entsF m.entries]
def Msg.none : Msg := ⟨0, 0, 0, 0, 0, 0, 0, 0, false, ⟨#[]⟩, []⟩
def secM (m : Msg) : List UInt8 := tagL 0 (msgBs m)
/-- the message of bytes -/
def getMsgL (s : List UInt8) : Msg × Rd := getL msgTakes 0 Msg.none (s, false)
def gotM (s : List UInt8) : Bool := !(getMsgL s).2.2 && (getMsgL s).2.1.isEmpty && msgRightB (getMsgL s).1
theorem takeE_fine : Fine takeE := by
  refine ⟨fun s r => ?_, fun s u => ?_, fun s u q s' u' h => ?_⟩
  · unfold takeE
    split
    · simp [rdFail]
    · exact Nat.le_trans (entsN_shrink _ _) (rdVar_less r)
  · unfold takeE
    split
    · rfl
    · exact entsN_bad _ _ (rdVar_bad u)
  · unfold takeE at h ⊢
    split at h
    · simp [rdFail] at h
    · rename_i hc
      rcases rd_cases (rdVar (u, false)).2 with hb | hb
      · have := entsN_bad (rdVar (u, false)).1 _ hb
        simp only [Prod.mk.injEq] at h
        rw [h.2] at this
        cases this
      · have hx : rdVar (u, false) = ((rdVar (u, false)).1, ((rdVar (u, false)).2.1, false)) := by
          conv => lhs; rw [← Prod.eta (rdVar (u, false))]
          rw [hb]
        rw [rdVar_pre (q := q) hx]
        rw [hx] at h hc
        simp only at h hc ⊢
        rw [if_neg hc]
        simp only [Prod.mk.injEq] at h
        rw [entsN_pre _ _ q (entsN (rdVar (u, false)).1 ((rdVar (u, false)).2.1, false)).1 u' (by rw [← h.2])]
        rw [h.1]
theorem msgTakes_fine : ∀ t ∈ msgTakes, Fine t := by
  intro t ht
  simp only [msgTakes, List.mem_cons, List.not_mem_nil, or_false] at ht
  rcases ht with rfl | rfl | rfl | rfl | rfl | rfl | rfl | rfl | rfl | rfl | rfl
  all_goals first | exact fine_of _ _ | exact fine_text _ | exact takeE_fine
def msgAtK (e : Msg) (k : Nat) : Msg :=
  ⟨if 1 ≤ k then e.kind else 0, if 2 ≤ k then e.frm else 0, if 3 ≤ k then e.to else 0, if 4 ≤ k then e.term else 0, if 5 ≤ k then e.index else 0, if 6 ≤ k then e.prev else 0, if 7 ≤ k then e.commit else 0,
   if 8 ≤ k then e.mark else 0, if 9 ≤ k then e.ok else false, if 10 ≤ k then e.snap else ⟨#[]⟩, if 11 ≤ k then e.entries else []⟩
theorem takeE_back (m : Msg) (l : List Ent) (hm : m.entries = []) (hl : l.length ≤ 10) (h : ∀ e ∈ l, Small e ∧ rightB e = true) (hb : entsF l ≠ []) (t : List UInt8) : takeE m (entsF l ++ t, false) = ({ m with entries := l }, (t, false)) := by
  have hn : l ≠ [] := fun h => hb (by rw [h]; rfl)
  have hp := List.length_pos_iff.2 hn
  unfold takeE
  rw [show entsF l = varL l.length ++ l.flatMap secE from if_neg hn, List.append_assoc, rdVar_back _ (by omega)]
  simp only
  rw [if_neg (by omega), entsN_back l h t, hm]
  rfl
theorem secM_back (m : Msg) (h : SmallM m) (t : List UInt8) : getL msgTakes 0 Msg.none (secM m ++ t, false) = (m, (t, false)) := by
  obtain ⟨⟨a0, a1⟩, ⟨b0, b1⟩, ⟨c0, c1⟩, ⟨d0, d1⟩, ⟨e0, e1⟩, ⟨f0, f1⟩, ⟨g0, g1⟩, ⟨i0, i1⟩, hs, hc, he⟩ := h
  have := getL_back msgTakes (msgBs m) rfl (show 11 < 2 ^ 63 by decide) (msgAtK m) ?_ ?_ 11 0 0 rfl (Nat.zero_le _) (Nat.le_refl _) t
  · exact this
  · intro k hk hb
    match k, hk, hb with
    | 0, _, hb => have := numL_nil (show 0 ≤ m.kind by omega) hb; simp [msgAtK, this]
    | 1, _, hb => have := numL_nil (show 0 ≤ m.frm by omega) hb; simp [msgAtK, this]
    | 2, _, hb => have := numL_nil (show 0 ≤ m.to by omega) hb; simp [msgAtK, this]
    | 3, _, hb => have := numL_nil d0 hb; simp [msgAtK, this]
    | 4, _, hb => have := numL_nil e0 hb; simp [msgAtK, this]
    | 5, _, hb => have := numL_nil f0 hb; simp [msgAtK, this]
    | 6, _, hb => have := numL_nil g0 hb; simp [msgAtK, this]
    | 7, _, hb => have := numL_nil i0 hb; simp [msgAtK, this]
    | 8, _, hb =>
      have : m.ok = false := by
        cases ho : m.ok
        · rfl
        · rw [show (msgBs m)[8] = flagL m.ok from rfl, ho] at hb
          cases hb
      simp [msgAtK, this]
    | 9, _, hb => have := textF_nil hb; simp [msgAtK, this]
    | 10, _, hb =>
      have : m.entries = [] := by
        have hb : entsF m.entries = [] := hb
        unfold entsF at hb
        split at hb
        · assumption
        · have h1 := varL_pos m.entries.length
          have h2 := congrArg List.length hb
          simp at h2
          simp [h2.1] at h1
      simp [msgAtK, this]
    | k + 11, hk, _ => exact absurd hk (by simp [msgBs])
  · intro k hk hb t
    match k, hk, hb with
    | 0, _, hb => exact takeI_back (fun m n => { m with kind := n }) (msgAtK m 0) (by omega) (by omega) hb t
    | 1, _, hb => exact takeI_back (fun m n => { m with frm := n }) (msgAtK m 1) (by omega) (by omega) hb t
    | 2, _, hb => exact takeI_back (fun m n => { m with «to» := n }) (msgAtK m 2) (by omega) (by omega) hb t
    | 3, _, hb => exact takeU_back (fun m n => { m with term := n }) (msgAtK m 3) (by omega) (by omega) hb t
    | 4, _, hb => exact takeU_back (fun m n => { m with index := n }) (msgAtK m 4) (by omega) (by omega) hb t
    | 5, _, hb => exact takeU_back (fun m n => { m with prev := n }) (msgAtK m 5) (by omega) (by omega) hb t
    | 6, _, hb => exact takeU_back (fun m n => { m with commit := n }) (msgAtK m 6) (by omega) (by omega) hb t
    | 7, _, hb => exact takeU_back (fun m n => { m with mark := n }) (msgAtK m 7) (by omega) (by omega) hb t
    | 8, _, hb => exact takeF_back (fun m n => { m with ok := n }) (msgAtK m 8) hb t
    | 9, _, hb => exact takeT_back (fun m n => { m with snap := n }) (msgAtK m 9) (by omega) hb t
    | 10, _, hb => exact takeE_back (msgAtK m 10) m.entries rfl hc he hb t
    | k + 11, hk, _ => exact absurd hk (by simp [msgBs])

theorem tagL_ne : ∀ (l : List (List UInt8)) (k : Nat), tagL k l ≠ [] := by
  intro l
  induction l with
  | nil => intro k h; cases h
  | cons b l ih =>
    intro k h
    rw [tagL] at h
    exact ih (k + 1) (List.append_eq_nil_iff.1 h).2
/-- what was put is got; cut anywhere, or with a 0 behind, it is none -/
theorem gotM_back (m : Msg) (h : SmallM m) (hr : msgRightB m = true) : gotM (secM m) = true ∧ (getMsgL (secM m)).1 = m := by
  have := secM_back m h []
  rw [List.append_nil] at this
  unfold gotM getMsgL
  rw [this]
  exact ⟨by simp [hr], rfl⟩
theorem gotM_long (m : Msg) (h : SmallM m) : gotM (secM m ++ [0]) = false := by
  unfold gotM getMsgL
  rw [secM_back m h [0]]
  simp
theorem gotM_short (m : Msg) (h : SmallM m) (k : Nat) (hk : k < (secM m).length) : gotM ((secM m).take k) = false := by
  cases hg : gotM ((secM m).take k) with
  | false => rfl
  | true =>
    exfalso
    unfold gotM getMsgL at hg
    simp only [Bool.and_eq_true, Bool.not_eq_true', List.isEmpty_iff] at hg
    obtain ⟨⟨h1, h2⟩, h3⟩ := hg
    have hx : getL msgTakes 0 Msg.none ((secM m).take k, false) = ((getL msgTakes 0 Msg.none ((secM m).take k, false)).1, ([], false)) := by
      conv => lhs; rw [← Prod.eta (getL msgTakes 0 Msg.none ((secM m).take k, false))]
      congr 1
      rw [← Prod.eta (getL msgTakes 0 Msg.none ((secM m).take k, false)).2, h1, h2]
    have hp := getL_pre msgTakes msgTakes_fine _ 0 rfl _ _ ((secM m).drop k) _ _ hx
    rw [List.take_append_drop] at hp
    have hb := secM_back m h []
    rw [List.append_nil] at hb
    rw [hb] at hp
    have hd := congrArg (fun x => x.2.1) hp
    simp only [List.nil_append] at hd
    have := congrArg List.length hd
    simp at this
    omega

/-! what is got is of its kinds -/
theorem varAt_lt : ∀ (f : Nat) (s : List UInt8) (i n m : Nat) (t : List UInt8), i + f = 10 → n < 2 ^ (7 * i) → varAt f s i n = some (m, t) → m < 2 ^ 64 := by
  intro f
  induction f with
  | zero => intro s i n m t _ _ h; cases h
  | succ f ih =>
    intro s i n m t hif hn h
    cases s with
    | nil => cases h
    | cons b r =>
      rw [varAt] at h
      have hb := UInt8.toNat_lt b
      have hp2 : (2 : Nat) ^ (7 * (i + 1)) = 128 * 2 ^ (7 * i) := by rw [Nat.mul_add, Nat.pow_add]; omega
      split at h
      · refine ih _ _ _ _ _ (by omega) ?_ h
        have : (b.toNat - 128) * 2 ^ (7 * i) ≤ 127 * 2 ^ (7 * i) := Nat.mul_le_mul_right _ (by omega)
        omega
      · split at h
        · cases h
        · rename_i h1 h2
          cases h
          by_cases h9 : i = 9
          · subst h9
            have : b.toNat * 2 ^ 63 ≤ 1 * 2 ^ 63 := Nat.mul_le_mul_right _ (by omega)
            have h3 : n < 2 ^ 63 := hn
            show n + b.toNat * 2 ^ 63 < 2 ^ 64
            omega
          · have hp : (2 : Nat) ^ (7 * (i + 1)) ≤ 2 ^ 63 := Nat.pow_le_pow_right (by decide) (by omega)
            have : b.toNat * 2 ^ (7 * i) ≤ 127 * 2 ^ (7 * i) := Nat.mul_le_mul_right _ (by omega)
            omega
theorem rdVar_lt (r : Rd) : (rdVar r).1 < 2 ^ 64 := by
  unfold rdVar
  split
  · rename_i n s h
    exact varAt_lt _ _ _ _ _ _ rfl (by decide) h
  · simp
theorem rdText_size (r : Rd) : (rdText r).1.length ≤ r.1.length := by
  unfold rdText
  simp only
  split
  · simp
  · unfold rdBytes
    split
    · simp
    · have := rdVar_less r
      simp
      omega
theorem wrap_i64 (n : Int) : I64 (IntKind.i64.wrap n) := by
  have : IntKind.i64.wrap n = if n % 18446744073709551616 ≥ 9223372036854775808 then n % 18446744073709551616 - 18446744073709551616 else n % 18446744073709551616 := by simp [IntKind.wrap, IntKind.signed, IntKind.bits]
  unfold I64
  rw [this]
  split <;> omega
theorem getL_inv {σ : Type} (T : List (Take σ)) (hT : ∀ t ∈ T, Fine t) (I : σ → Prop) (B : Nat) (hI : ∀ t ∈ T, ∀ s r, r.1.length ≤ B → I s → I (t s r).1) : ∀ (m last : Nat), T.length - last = m → ∀ (s : σ) (r : Rd), r.1.length ≤ B → I s → I (getL T last s r).1 := by
  intro m
  induction m using Nat.strongRecOn with
  | ind m ih =>
    intro last hm s r hr hs
    have h1 := rdVar_less r
    generalize hx : rdVar r = x at *
    obtain ⟨n, v⟩ := x
    rw [getL_eq T last s _ hx]
    split
    · exact hs
    · split
      · exact hs
      · rename_i h0 h
        have hm := List.getElem_mem (show n - 1 < T.length by omega)
        exact ih (T.length - n) (by omega) _ rfl _ _ (Nat.le_trans ((hT _ hm).shrink _ _) (Nat.le_trans h1 hr)) (hI _ hm _ _ (Nat.le_trans h1 hr) hs)

/-- an entry of its kinds, its texts no longer than B -/
structure Ent.okay (B : Nat) (e : Ent) : Prop where
  wf : e.wf
  data : e.data.size ≤ B
  old : e.old.size ≤ B
theorem zero_okay (B : Nat) : Ent.zero.okay B := ⟨⟨⟨by decide, by decide⟩, ⟨by decide, by decide⟩, ⟨by decide, by decide⟩, ⟨by decide, by decide⟩, ⟨by decide, by decide⟩, ⟨by decide, by decide⟩, ⟨by decide, by decide⟩, ⟨by decide, by decide⟩, ⟨by decide, by decide⟩, Nat.zero_le _, Nat.zero_le _⟩, Nat.zero_le _, Nat.zero_le _⟩
theorem u64_rd (r : Rd) : U64 ((rdVar r).1 : Int) := by
  have := rdVar_lt r
  exact ⟨by omega, by omega⟩
theorem text_sz (r : Rd) : (ByteArray.mk (rdText r).1.toArray).size ≤ r.1.length := by
  exact rdText_size r
theorem entTakes_okay (B : Nat) (hB : B ≤ 9223372036854775807) : ∀ t ∈ entTakes, ∀ e r, r.1.length ≤ B → e.okay B → (t e r).1.okay B := by
  intro t ht e r hr he
  have hu := u64_rd r
  have hw := wrap_i64 ((rdVar r).1 : Int)
  have hs := Nat.le_trans (text_sz r) hr
  obtain ⟨⟨h1, h2, h3, h4, h5, h6, h7, h8, h9, h10, h11⟩, h12, h13⟩ := he
  have hs2 := Nat.le_trans hs hB
  simp only [entTakes, List.mem_cons, List.not_mem_nil, or_false] at ht
  rcases ht with rfl | rfl | rfl | rfl | rfl | rfl | rfl | rfl | rfl | rfl | rfl
  · exact ⟨⟨h1, h2, hw, h4, h5, h6, h7, h8, h9, h10, h11⟩, h12, h13⟩
  · exact ⟨⟨hu, h2, h3, h4, h5, h6, h7, h8, h9, h10, h11⟩, h12, h13⟩
  · exact ⟨⟨h1, hu, h3, h4, h5, h6, h7, h8, h9, h10, h11⟩, h12, h13⟩
  · exact ⟨⟨h1, h2, h3, hu, h5, h6, h7, h8, h9, h10, h11⟩, h12, h13⟩
  · exact ⟨⟨h1, h2, h3, h4, hu, h6, h7, h8, h9, h10, h11⟩, h12, h13⟩
  · exact ⟨⟨h1, h2, h3, h4, h5, hu, h7, h8, h9, h10, h11⟩, h12, h13⟩
  · exact ⟨⟨h1, h2, h3, h4, h5, h6, hu, h8, h9, h10, h11⟩, h12, h13⟩
  · exact ⟨⟨h1, h2, h3, h4, h5, h6, h7, hw, h9, h10, h11⟩, h12, h13⟩
  · exact ⟨⟨h1, h2, h3, h4, h5, h6, h7, h8, hw, h10, h11⟩, h12, h13⟩
  · exact ⟨⟨h1, h2, h3, h4, h5, h6, h7, h8, h9, hs2, h11⟩, hs, h13⟩
  · exact ⟨⟨h1, h2, h3, h4, h5, h6, h7, h8, h9, h10, hs2⟩, h12, hs⟩
theorem getEntL_okay (B : Nat) (hB : B ≤ 9223372036854775807) (r : Rd) (hr : r.1.length ≤ B) : (getL entTakes 0 Ent.zero r).1.okay B :=
  getL_inv entTakes entTakes_fine (fun e => e.okay B) B (entTakes_okay B hB) _ 0 rfl _ _ hr (zero_okay B)
theorem getEnt_okay (B : Nat) (hB : B ≤ 9223372036854775807) (r : Rd) (hr : r.1.length ≤ B) : (getEnt r).1.okay B := by
  unfold getEnt
  split
  · exact getEntL_okay B hB r hr
  · exact zero_okay B
theorem entsN_okay (B : Nat) (hB : B ≤ 9223372036854775807) : ∀ (n : Nat) (r : Rd), r.1.length ≤ B → ∀ e ∈ (entsN n r).1, e.okay B := by
  intro n
  induction n with
  | zero => intro r _ e he; cases he
  | succ n ih =>
    intro r hr e he
    rw [entsN] at he
    rcases List.mem_cons.1 he with rfl | he
    · exact getEnt_okay B hB r hr
    · exact ih _ (Nat.le_trans (getEnt_shrink r) hr) e he
/-- a message of its kinds, its texts no longer than B -/
structure Msg.okay (B : Nat) (m : Msg) : Prop where
  wf : m.wf
  snap : m.snap.size ≤ B
  each : ∀ e ∈ m.entries, e.okay B
theorem none_okay (B : Nat) : Msg.none.okay B := ⟨⟨⟨by decide, by decide⟩, ⟨by decide, by decide⟩, ⟨by decide, by decide⟩, ⟨by decide, by decide⟩, ⟨by decide, by decide⟩, ⟨by decide, by decide⟩, ⟨by decide, by decide⟩, ⟨by decide, by decide⟩, Nat.zero_le _, fun e h => by cases h⟩, Nat.zero_le _, fun e h => by cases h⟩
theorem msgTakes_okay (B : Nat) (hB : B ≤ 9223372036854775807) : ∀ t ∈ msgTakes, ∀ e r, r.1.length ≤ B → e.okay B → (t e r).1.okay B := by
  intro t ht m r hr he
  have hu := u64_rd r
  have hw := wrap_i64 ((rdVar r).1 : Int)
  have hs := Nat.le_trans (text_sz r) hr
  have hv := Nat.le_trans (rdVar_less r) hr
  obtain ⟨⟨h1, h2, h3, h4, h5, h6, h7, h8, h9, h10⟩, h12, h13⟩ := he
  have hs2 := Nat.le_trans hs hB
  simp only [msgTakes, List.mem_cons, List.not_mem_nil, or_false] at ht
  rcases ht with rfl | rfl | rfl | rfl | rfl | rfl | rfl | rfl | rfl | rfl | rfl
  · exact ⟨⟨hw, h2, h3, h4, h5, h6, h7, h8, h9, h10⟩, h12, h13⟩
  · exact ⟨⟨h1, hw, h3, h4, h5, h6, h7, h8, h9, h10⟩, h12, h13⟩
  · exact ⟨⟨h1, h2, hw, h4, h5, h6, h7, h8, h9, h10⟩, h12, h13⟩
  · exact ⟨⟨h1, h2, h3, hu, h5, h6, h7, h8, h9, h10⟩, h12, h13⟩
  · exact ⟨⟨h1, h2, h3, h4, hu, h6, h7, h8, h9, h10⟩, h12, h13⟩
  · exact ⟨⟨h1, h2, h3, h4, h5, hu, h7, h8, h9, h10⟩, h12, h13⟩
  · exact ⟨⟨h1, h2, h3, h4, h5, h6, hu, h8, h9, h10⟩, h12, h13⟩
  · exact ⟨⟨h1, h2, h3, h4, h5, h6, h7, hu, h9, h10⟩, h12, h13⟩
  · exact ⟨⟨h1, h2, h3, h4, h5, h6, h7, h8, h9, h10⟩, h12, h13⟩
  · exact ⟨⟨h1, h2, h3, h4, h5, h6, h7, h8, hs2, h10⟩, hs, h13⟩
  · unfold takeE
    split
    · exact ⟨⟨h1, h2, h3, h4, h5, h6, h7, h8, h9, h10⟩, h12, h13⟩
    · have hnew : ∀ e ∈ m.entries ++ (entsN (rdVar r).1 (rdVar r).2).1, e.okay B := fun e he => (List.mem_append.1 he).elim (h13 e) (entsN_okay B hB _ _ hv e)
      exact ⟨⟨h1, h2, h3, h4, h5, h6, h7, h8, h9, fun e he => (hnew e he).wf⟩, h12, hnew⟩
theorem getMsgL_okay (B : Nat) (hB : B ≤ 9223372036854775807) (s : List UInt8) (hs : s.length ≤ B) : (getMsgL s).1.okay B :=
  getL_inv msgTakes msgTakes_fine (fun e => e.okay B) B (msgTakes_okay B hB) _ 0 rfl _ _ hs (none_okay B)

theorem getL_count {σ : Type} (T : List (Take σ)) (c : σ → Nat) (hc : ∀ t ∈ T, ∀ s r, c (t s r).1 ≤ c s + 64) : ∀ (m last : Nat), T.length - last = m → ∀ (s : σ) (r : Rd), c s ≤ 64 * last → last ≤ T.length → c (getL T last s r).1 ≤ 64 * T.length := by
  intro m
  induction m using Nat.strongRecOn with
  | ind m ih =>
    intro last hm s r hs hl
    generalize hx : rdVar r = x at *
    obtain ⟨n, v⟩ := x
    rw [getL_eq T last s _ hx]
    split
    · exact Nat.le_trans hs (Nat.mul_le_mul_left _ hl)
    · split
      · exact Nat.le_trans hs (Nat.mul_le_mul_left _ hl)
      · rename_i h0 h
        have := hc _ (List.getElem_mem (show n - 1 < T.length by omega)) s v
        exact ih (T.length - n) (by omega) _ rfl _ _ (by omega) (by omega)
theorem getMsgL_count (s : List UInt8) : (getMsgL s).1.entries.length ≤ 704 := by
  refine getL_count msgTakes (fun m => m.entries.length) ?_ 11 0 rfl Msg.none _ (Nat.le_refl _) (Nat.zero_le _)
  intro t ht m r
  simp only [msgTakes, List.mem_cons, List.not_mem_nil, or_false] at ht
  rcases ht with rfl | rfl | rfl | rfl | rfl | rfl | rfl | rfl | rfl | rfl | rfl
  · exact Nat.le_add_right _ _
  · exact Nat.le_add_right _ _
  · exact Nat.le_add_right _ _
  · exact Nat.le_add_right _ _
  · exact Nat.le_add_right _ _
  · exact Nat.le_add_right _ _
  · exact Nat.le_add_right _ _
  · exact Nat.le_add_right _ _
  · exact Nat.le_add_right _ _
  · exact Nat.le_add_right _ _
  · unfold takeE
    split
    · exact Nat.le_add_right _ _
    · simp only [List.length_append, entsN_len]
      omega

end Go.Proofs.YtbjbgdnjcppjhaaGreatDoor
