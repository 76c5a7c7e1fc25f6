/-
  PLAIN: numbers of so many bytes (varint.Fixed), readers one behind the other; what was put is read; a reader that reads from s reads the same from s ++ q, and leaves q. No program is imported. Conditions: as each theorem says. By an AI agent.
-/
import Derived.Test.YtbjbgdnjcppjhaaGreatDoorSecP
namespace Go.Proofs.YtbjbgdnjcppjhaaGreatDoor
set_option linter.unusedSimpArgs false
set_option linter.unusedVariables false

/-- a number's lowest bytes, the greatest first -/
def fixL : Nat → Nat → List UInt8
  | 0, _ => []
  | k + 1, n => UInt8.ofNat (n / 256 ^ k % 256) :: fixL k n
def unfix (s : List UInt8) : Nat := s.foldl (fun a b => a * 256 + b.toNat) 0
theorem fixL_length : ∀ (k n : Nat), (fixL k n).length = k
  | 0, _ => rfl
  | k + 1, n => by rw [fixL, List.length_cons, fixL_length k n]
theorem unfix_from : ∀ (k n a : Nat), (fixL k n).foldl (fun a b => a * 256 + b.toNat) a = a * 256 ^ k + n % 256 ^ k := by
  intro k
  induction k with
  | zero => intro n a; simp [fixL, Nat.mod_one]
  | succ k ih =>
    intro n a
    rw [fixL, List.foldl_cons, ih, byte_val _ (Nat.mod_lt _ (by decide)), Nat.mod_pow_succ, Nat.pow_succ, Nat.add_mul]
    rw [Nat.mul_assoc, Nat.mul_comm 256 (256 ^ k), Nat.mul_comm (n / 256 ^ k % 256)]
    omega
theorem unfix_fix (k n : Nat) (h : n < 256 ^ k) : unfix (fixL k n) = n := by
  unfold unfix
  rw [unfix_from, Nat.mod_eq_of_lt h]
  omega
theorem unfix_lt_from : ∀ (s : List UInt8) (a : Nat), s.foldl (fun a b => a * 256 + b.toNat) a < (a + 1) * 256 ^ s.length := by
  intro s
  induction s with
  | nil => intro a; simp
  | cons b s ih =>
    intro a
    have h1 := ih (a * 256 + b.toNat)
    have hb := UInt8.toNat_lt b
    rw [List.foldl_cons, List.length_cons, Nat.pow_succ]
    refine Nat.lt_of_lt_of_le h1 ?_
    have : (a * 256 + b.toNat + 1) ≤ (a + 1) * 256 := by omega
    calc (a * 256 + b.toNat + 1) * 256 ^ s.length ≤ ((a + 1) * 256) * 256 ^ s.length := Nat.mul_le_mul_right _ this
      _ = (a + 1) * (256 ^ s.length * 256) := by rw [Nat.mul_assoc, Nat.mul_comm 256]
theorem unfix_lt (s : List UInt8) : unfix s < 256 ^ s.length := by
  have := unfix_lt_from s 0
  simpa [unfix] using this

/-- what reads -/
abbrev Rdr (α : Type) := Rd → α × Rd
structure FineR {α : Type} (a : Rdr α) : Prop where
  shrink : ∀ r, (a r).2.1.length ≤ r.1.length
  bad : ∀ u, (a (u, true)).2.2 = true
  pre : ∀ u q x u', a (u, false) = (x, (u', false)) → a (u ++ q, false) = (x, (u' ++ q, false))
def bindR {α β : Type} (a : Rdr α) (f : α → Rdr β) : Rdr β := fun r => f (a r).1 (a r).2
def pureR {α : Type} (x : α) : Rdr α := fun r => (x, r)
theorem fine_pure {α : Type} (x : α) : FineR (pureR x) := ⟨fun r => Nat.le_refl _, fun u => rfl, fun u q y u' h => by
  unfold pureR at h ⊢
  simp only [Prod.mk.injEq] at h ⊢
  exact ⟨h.1, by rw [h.2.1], trivial⟩⟩
theorem FineR.stays {α : Type} {a : Rdr α} (h : FineR a) (r : Rd) (hb : r.2 = true) : (a r).2.2 = true := by
  obtain ⟨u, b⟩ := r
  simp only at hb
  subst hb
  exact h.bad u
theorem fine_bind {α β : Type} {a : Rdr α} {f : α → Rdr β} (ha : FineR a) (hf : ∀ x, FineR (f x)) : FineR (bindR a f) := by
  refine ⟨fun r => Nat.le_trans ((hf _).shrink _) (ha.shrink r), fun u => (hf _).stays _ (ha.bad u), fun u q y u' h => ?_⟩
  unfold bindR at h ⊢
  rcases rd_cases (a (u, false)).2 with hb | hb
  · have := (hf (a (u, false)).1).stays _ hb
    rw [h] at this
    cases this
  · have hx : a (u, false) = ((a (u, false)).1, ((a (u, false)).2.1, false)) := by
      conv => lhs; rw [← Prod.eta (a (u, false))]
      rw [hb]
    rw [ha.pre _ q _ _ hx]
    rw [hx] at h
    exact (hf _).pre _ q _ _ h
theorem rdBytes_shrink (n : Nat) (r : Rd) : (rdBytes n r).2.1.length ≤ r.1.length := by
  unfold rdBytes
  split
  · simp [rdFail]
  · simp
theorem fine_bytes (n : Nat) : FineR (rdBytes n) := by
  refine ⟨rdBytes_shrink n, fun u => ?_, fun u q x u' h => ?_⟩
  · unfold rdBytes
    rw [if_pos (.inl rfl)]
    rfl
  · unfold rdBytes at h ⊢
    split at h
    · simp [rdFail] at h
    · rename_i hc
      simp only [not_or, Nat.not_lt] at hc
      simp only [Prod.mk.injEq] at h
      rw [if_neg (by simp; omega)]
      simp only
      rw [List.take_append_of_le_length hc.2, List.drop_append_of_le_length hc.2, h.1, h.2.1]
def rdFix (k : Nat) : Rdr Nat := fun r => (unfix (rdBytes k r).1, (rdBytes k r).2)
theorem fine_fix (k : Nat) : FineR (rdFix k) := by
  have h := fine_bytes k
  refine ⟨h.shrink, h.bad, fun u q x u' hx => ?_⟩
  unfold rdFix at hx ⊢
  simp only [Prod.mk.injEq] at hx
  have := h.pre u q (rdBytes k (u, false)).1 u' (by rw [← hx.2])
  rw [this, hx.1]
theorem rdBytes_back (s t : List UInt8) : rdBytes s.length (s ++ t, false) = (s, (t, false)) := by
  unfold rdBytes
  rw [if_neg (by simp)]
  simp
theorem rdFix_back (k n : Nat) (h : n < 256 ^ k) (t : List UInt8) : rdFix k (fixL k n ++ t, false) = (n, (t, false)) := by
  have := rdBytes_back (fixL k n) t
  rw [fixL_length] at this
  unfold rdFix
  rw [this, unfix_fix k n h]
theorem rdFix_lt (k : Nat) (r : Rd) : (rdFix k r).1 < 256 ^ k := by
  unfold rdFix rdBytes
  split
  · exact Nat.pow_pos (by decide)
  · have h := unfix_lt (r.1.take k)
    refine Nat.lt_of_lt_of_le h (Nat.pow_le_pow_right (by decide) (by simp; omega))

end Go.Proofs.YtbjbgdnjcppjhaaGreatDoor
