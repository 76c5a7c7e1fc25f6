/-
  PLAIN: numbers of any length (varint), and what a reader of bytes answers, as Lean functions on lists of bytes. No program is imported. No condition. By an AI agent.
-/
import GoSem.Core.Value
namespace Go.Proofs.YtbjbgdnjcppjhaaGreatDoor

set_option linter.unusedSimpArgs false
set_option linter.unusedVariables false
/-- a number, seven bits a byte -/
def varL (n : Nat) : List UInt8 :=
  if h : n < 128 then [UInt8.ofNat n] else UInt8.ofNat (n % 128 + 128) :: varL (n / 128)
  termination_by n
  decreasing_by omega

/-- a reader: what is left, whether it failed -/
abbrev Rd := List UInt8 × Bool
def rdFail : Rd := ([], true)
/-- the bytes of a number from the i-th on: its value, what is left -/
def varAt : Nat → List UInt8 → Nat → Nat → Option (Nat × List UInt8)
  | 0, _, _, _ => none
  | _ + 1, [], _, _ => none
  | f + 1, b :: r, i, n =>
    if 128 ≤ b.toNat then varAt f r (i + 1) (n + (b.toNat - 128) * 2 ^ (7 * i))
    else if (0 < i ∧ b.toNat = 0) ∨ (i = 9 ∧ 1 < b.toNat) then none
    else some (n + b.toNat * 2 ^ (7 * i), r)
def rdVar (r : Rd) : Nat × Rd :=
  match varAt 10 r.1 0 0 with
  | some (n, s) => (n, (s, r.2))
  | none => (0, rdFail)
def rdBytes (n : Nat) (r : Rd) : List UInt8 × Rd := if r.2 = true ∨ r.1.length < n then ([], rdFail) else (r.1.take n, (r.1.drop n, r.2))
def rdText (r : Rd) : List UInt8 × Rd :=
  let x := rdVar r
  if x.2.1.length < x.1 then ([], rdFail) else rdBytes x.1 x.2

theorem varL_pos (n : Nat) : 0 < (varL n).length := by
  rw [varL]; split <;> simp
theorem byte_val (n : Nat) (h : n < 256) : (UInt8.ofNat n).toNat = n := by
  simp [UInt8.toNat_ofNat]
  omega

/-- a number that was put is read back; what stands behind is left -/
theorem varAt_back : ∀ (f n i m : Nat) (t : List UInt8), n < 2 ^ (7 * f) → 0 < f → i + f = 10 → (i = 0 ∨ 0 < n) → n * 2 ^ (7 * i) < 2 ^ 64 → varAt f (varL n ++ t) i m = some (m + n * 2 ^ (7 * i), t) := by
  intro f
  induction f with
  | zero => intro n i m t _ h; omega
  | succ f ih =>
    intro n i m t hn _ hif hi hb
    rw [varL]
    split
    · rename_i h
      simp only [List.singleton_append, varAt]
      rw [byte_val n (by omega), if_neg (by omega), if_neg ?_]
      rintro (⟨h1, h2⟩ | ⟨h1, h2⟩)
      · omega
      · subst h1
        have : n * 2 ^ 63 < 2 ^ 64 := hb
        omega
    · rename_i h
      simp only [List.cons_append, varAt]
      have hm : n % 128 + 128 < 256 := by omega
      rw [byte_val _ hm, if_pos (by omega)]
      have hp : 2 ^ (7 * (i + 1)) = 128 * 2 ^ (7 * i) := by rw [Nat.mul_add, Nat.pow_add]; omega
      have hdm : n = 128 * (n / 128) + n % 128 := (Nat.div_add_mod n 128).symm
      have hf : 0 < f := by
        rcases Nat.eq_zero_or_pos f with h0 | h0
        · subst h0
          simp at hn
          omega
        · exact h0
      have hb2 : n / 128 * 2 ^ (7 * (i + 1)) < 2 ^ 64 := by
        refine Nat.lt_of_le_of_lt ?_ hb
        rw [hp, ← Nat.mul_assoc]
        exact Nat.mul_le_mul_right _ (Nat.div_mul_le_self n 128)
      rw [ih (n / 128) (i + 1) _ t ?_ hf (by omega) (.inr (by omega)) hb2]
      · congr 2
        rw [hp, show n % 128 + 128 - 128 = n % 128 by omega]
        conv => rhs; rw [hdm]
        rw [Nat.add_mul, Nat.mul_comm 128 (n / 128), Nat.mul_assoc]
        omega
      · rw [show 7 * (f + 1) = 7 * f + 7 by omega, Nat.pow_add] at hn
        exact Nat.div_lt_of_lt_mul (by omega)
theorem rdVar_back (n : Nat) (h : n < 2 ^ 64) (t : List UInt8) (bad : Bool) : rdVar (varL n ++ t, bad) = (n, (t, bad)) := by
  unfold rdVar
  rw [varAt_back 10 n 0 0 t (Nat.lt_trans h (by decide)) (by decide) rfl (.inl rfl) (by simpa using h)]
  simp
theorem rdText_back (s t : List UInt8) (h : s.length < 2 ^ 64) : rdText (varL s.length ++ (s ++ t), false) = (s, (t, false)) := by
  unfold rdText
  rw [rdVar_back _ h]
  simp only
  rw [if_neg (by simp)]
  unfold rdBytes
  rw [if_neg (by simp)]
  simp

end Go.Proofs.YtbjbgdnjcppjhaaGreatDoor
