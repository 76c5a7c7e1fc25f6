/-
  PLAIN: two messages are the same just if their entries are, and their texts, and their fields. Conditions: as each theorem says. By an AI agent.
-/
import Derived.Test.YtbjbgdnjcppjhaaGreatDoorTextsP
namespace Go.Proofs.YtbjbgdnjcppjhaaGreatDoor
open Go.RowKit
set_option linter.unusedVariables false
set_option linter.unusedSimpArgs false

theorem digits_chars (u : Nat) : ∀ c ∈ Lib.decDigits u, 48 ≤ c.toNat ∧ c.toNat ≤ 57 := by
  induction u using Nat.strongRecOn with
  | _ u ih =>
    rw [Lib.decDigits]
    have one : ∀ d : Fin 10, 48 ≤ (UInt8.ofNat (48 + d.1)).toNat ∧ (UInt8.ofNat (48 + d.1)).toNat ≤ 57 := by decide
    split
    · rename_i h
      intro c hc
      rw [List.mem_singleton] at hc
      subst hc
      exact one ⟨u, h⟩
    · rename_i h
      intro c hc
      rcases List.mem_append.1 hc with hc | hc
      · exact ih (u / 10) (by omega) c hc
      · rw [List.mem_singleton] at hc
        subst hc
        exact one ⟨u % 10, Nat.mod_lt _ (by decide)⟩
theorem itoa_chars (n : Int) : ∀ c ∈ Lib.itoa n, c.toNat = 45 ∨ (48 ≤ c.toNat ∧ c.toNat ≤ 57) := by
  unfold Lib.itoa
  split
  · intro c hc
    rcases List.mem_cons.1 hc with rfl | hc
    · exact .inl rfl
    · exact .inr (digits_chars _ c hc)
  · exact fun c hc => .inr (digits_chars _ c hc)
theorem decDigits_inj {a b : Nat} (h : Lib.decDigits a = Lib.decDigits b) : a = b := by
  rw [← valOf_dec a, h, valOf_dec]
theorem digits_ne (u : Nat) (r : List UInt8) : Lib.decDigits u ≠ 45 :: r := fun h => by
  have := digits_chars u 45 (by rw [h]; exact List.mem_cons_self ..)
  revert this
  decide
theorem itoa_inj_all {a b : Int} (h : Lib.itoa a = Lib.itoa b) : a = b := by
  unfold Lib.itoa at h
  split at h <;> split at h
  · have := decDigits_inj (List.cons.inj h).2
    omega
  · exact absurd h.symm (digits_ne _ _)
  · exact absurd h (digits_ne _ _)
  · have := decDigits_inj h
    omega
theorem cut_at {c : UInt8} : ∀ (a b x y : List UInt8), c ∉ a → c ∉ b → a ++ c :: x = b ++ c :: y → a = b ∧ x = y
  | [], [], x, y, _, _, h => ⟨rfl, (List.cons.inj h).2⟩
  | [], d :: b, x, y, _, hb, h => absurd (show c ∈ d :: b by rw [(List.cons.inj h).1]; exact List.mem_cons_self ..) hb
  | d :: a, [], x, y, ha, _, h => absurd (show c ∈ d :: a by rw [← (List.cons.inj h).1]; exact List.mem_cons_self ..) ha
  | d :: a, e :: b, x, y, ha, hb, h => by
    have h1 := List.cons.inj h
    have h2 := cut_at a b x y (fun g => ha (List.mem_cons_of_mem _ g)) (fun g => hb (List.mem_cons_of_mem _ g)) h1.2
    exact ⟨by rw [h1.1, h2.1], h2.2⟩
theorem itoa_not (n : Int) (c : UInt8) (h : c.toNat ≠ 45 ∧ (c.toNat < 48 ∨ 57 < c.toNat)) : c ∉ Lib.itoa n := fun hc => by
  have := itoa_chars n c hc
  omega

/-- two rows of entries are the same -/
def entsB : List Ent → List Ent → Bool
  | [], [] => true
  | x :: r, y :: s => sameB x y && entsB r s
  | _, _ => false
theorem entsB_iff : ∀ (a b : List Ent), entsB a b = true ↔ a = b
  | [], [] => by simp [entsB]
  | [], y :: s => by simp [entsB]
  | x :: r, [] => by simp [entsB]
  | x :: r, y :: s => by
    unfold entsB
    rw [Bool.and_eq_true, sameB_iff, entsB_iff r s]
    simp
/-- their fields, but for the entries -/
def fldsB (a b : Msg) : Bool := decide (a.index = b.index) && decide (a.prev = b.prev) && decide (a.commit = b.commit) && decide (a.mark = b.mark) && decide (a.ok = b.ok) && decide (a.snap = b.snap)
def headB (a b : Msg) : Bool := decide (a.kind = b.kind) && decide (a.frm = b.frm) && decide (a.to = b.to) && decide (a.term = b.term)
/-- two messages are the same -/
def msgSameB (a b : Msg) : Bool := entsB a.entries b.entries && headB a b && fldsB a b

theorem text_head {a b : Msg} (ha : 0 ≤ a.term) (hb : 0 ≤ b.term) (he : a.entries = b.entries) (hf : fldsB a b = true) (h : msgTextL a = msgTextL b) : headB a b = true := by
  unfold fldsB at hf
  simp only [Bool.and_eq_true, decide_eq_true_eq] at hf
  obtain ⟨⟨⟨⟨⟨f1, f2⟩, f3⟩, f4⟩, f5⟩, f6⟩ := hf
  have e1 : ∀ m : Msg, msgTextL m = Lib.itoa m.kind ++ 32 :: (Lib.itoa m.frm ++ 62 :: (Lib.itoa m.to ++ 32 :: (dec m.term ++ msgOrder.flatMap m.piece))) := fun m => by
    unfold msgTextL Msg.headT
    simp only [List.append_assoc, List.singleton_append, List.cons_append, List.nil_append]
  rw [e1, e1] at h
  have n32 : ∀ n : Int, (32 : UInt8) ∉ Lib.itoa n := fun n => itoa_not n 32 (by decide)
  have n62 : ∀ n : Int, (62 : UInt8) ∉ Lib.itoa n := fun n => itoa_not n 62 (by decide)
  obtain ⟨g1, h⟩ := cut_at _ _ _ _ (n32 _) (n32 _) h
  obtain ⟨g2, h⟩ := cut_at _ _ _ _ (n62 _) (n62 _) h
  obtain ⟨g3, h⟩ := cut_at _ _ _ _ (n32 _) (n32 _) h
  have k1 := itoa_inj_all g1
  have k2 := itoa_inj_all g2
  have k3 := itoa_inj_all g3
  have hp : msgOrder.flatMap a.piece = msgOrder.flatMap b.piece := by
    have : a.piece = b.piece := by
      funext c
      unfold Msg.piece Msg.fldT
      rw [k1, f1, f2, f3, f4, f5, f6, he]
    rw [this]
  rw [hp] at h
  have k4 := dec_inj ha hb (List.append_cancel_right h)
  unfold headB
  rw [decide_eq_true k1, decide_eq_true k2, decide_eq_true k3, decide_eq_true k4]
  rfl
theorem head_text {a b : Msg} (he : a.entries = b.entries) (hf : fldsB a b = true) (hh : headB a b = true) : msgTextL a = msgTextL b := by
  unfold fldsB at hf
  unfold headB at hh
  simp only [Bool.and_eq_true, decide_eq_true_eq] at hf hh
  obtain ⟨⟨⟨⟨⟨f1, f2⟩, f3⟩, f4⟩, f5⟩, f6⟩ := hf
  obtain ⟨⟨⟨k1, k2⟩, k3⟩, k4⟩ := hh
  obtain ⟨a1, a2, a3, a4, a5, a6, a7, a8, a9, a10, a11⟩ := a
  obtain ⟨b1, b2, b3, b4, b5, b6, b7, b8, b9, b10, b11⟩ := b
  simp only at *
  subst he f1 f2 f3 f4 f5 f6 k1 k2 k3 k4
  rfl
/-- as entry.MsgSame asks it -/
theorem msgSame_asked (a b : Msg) (ha : 0 ≤ a.term) (hb : 0 ≤ b.term) : msgSameB a b = (entsB a.entries b.entries && (decide (msgTextL a = msgTextL b) && fldsB a b)) := by
  unfold msgSameB
  cases he : entsB a.entries b.entries
  · rfl
  · have he' := (entsB_iff _ _).1 he
    cases hf : fldsB a b
    · simp
    · cases hh : headB a b
      · have : ¬ msgTextL a = msgTextL b := fun h => by
          rw [text_head ha hb he' hf h] at hh; cases hh
        rw [decide_eq_false this]; rfl
      · rw [decide_eq_true (head_text he' hf hh)]; rfl
theorem msgSame_self (a : Msg) : msgSameB a a = true := by
  unfold msgSameB headB fldsB
  rw [(entsB_iff _ _).2 rfl]
  simp

end Go.Proofs.YtbjbgdnjcppjhaaGreatDoor
