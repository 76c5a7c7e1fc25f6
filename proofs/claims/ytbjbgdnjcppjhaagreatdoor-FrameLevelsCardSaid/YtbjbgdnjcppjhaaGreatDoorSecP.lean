/-
  PLAIN: fields behind their tags (second), put and taken, over any state: what was put is taken; a reader that takes from s takes the same from s ++ q, and leaves q. No program is imported. Conditions: as each theorem says. By an AI agent.
-/
import Derived.Test.YtbjbgdnjcppjhaaGreatDoorVarP
namespace Go.Proofs.YtbjbgdnjcppjhaaGreatDoor
set_option linter.unusedSimpArgs false
set_option linter.unusedVariables false

/-- how a field is taken, over a state -/
abbrev Take (σ : Type) := σ → Rd → σ × Rd
/-- it takes no more than there is; what failed stays so; on s ++ q it does as on s, and leaves q -/
structure Fine {σ : Type} (t : Take σ) : Prop where
  shrink : ∀ s r, (t s r).2.1.length ≤ r.1.length
  bad : ∀ s u, (t s (u, true)).2.2 = true
  pre : ∀ s u q s' u', t s (u, false) = (s', (u', false)) → t s (u ++ q, false) = (s', (u' ++ q, false))

def getL {σ : Type} (T : List (Take σ)) (last : Nat) (s : σ) (r : Rd) : σ × Rd :=
  if (rdVar r).1 = 0 then (s, (rdVar r).2)
  else if h : (rdVar r).1 ≤ last ∨ T.length < (rdVar r).1 then (s, rdFail)
  else getL T (rdVar r).1 ((T[(rdVar r).1 - 1]'(by omega)) s (rdVar r).2).1 ((T[(rdVar r).1 - 1]'(by omega)) s (rdVar r).2).2
  termination_by T.length - last
  decreasing_by omega

theorem getL_eq {σ : Type} (T : List (Take σ)) (last : Nat) (s : σ) (r : Rd) {n : Nat} {x : Rd} (h : rdVar r = (n, x)) :
    getL T last s r = if n = 0 then (s, x) else if h : n ≤ last ∨ T.length < n then (s, rdFail) else getL T n ((T[n - 1]'(by omega)) s x).1 ((T[n - 1]'(by omega)) s x).2 := by
  obtain rfl : n = (rdVar r).1 := by rw [h]
  obtain rfl : x = (rdVar r).2 := by rw [h]
  rw [getL]

def tagL : Nat → List (List UInt8) → List UInt8
  | _, [] => [0]
  | k, b :: l => (if b = [] then [] else varL (k + 1) ++ b) ++ tagL (k + 1) l

theorem varAt_pre : ∀ (f : Nat) (s : List UInt8) (i n m : Nat) (t q : List UInt8), varAt f s i n = some (m, t) → varAt f (s ++ q) i n = some (m, t ++ q) := by
  intro f
  induction f with
  | zero => intro s i n m t q h; cases h
  | succ f ih =>
    intro s i n m t q h
    cases s with
    | nil => cases h
    | cons b r =>
      rw [varAt] at h
      rw [List.cons_append, varAt]
      split at h
      · rw [if_pos (by assumption)]
        exact ih _ _ _ _ _ _ h
      · rw [if_neg (by assumption)]
        split at h
        · cases h
        · rw [if_neg (by assumption)]
          cases h
          rfl
theorem varAt_less : ∀ (f : Nat) (s : List UInt8) (i n m : Nat) (t : List UInt8), varAt f s i n = some (m, t) → t.length ≤ s.length := by
  intro f
  induction f with
  | zero => intro s i n m t h; cases h
  | succ f ih =>
    intro s i n m t h
    cases s with
    | nil => cases h
    | cons b r =>
      rw [varAt] at h
      split at h
      · have := ih _ _ _ _ _ h
        simp only [List.length_cons]; omega
      · split at h
        · cases h
        · cases h
          simp
theorem rdVar_less (r : Rd) : (rdVar r).2.1.length ≤ r.1.length := by
  unfold rdVar
  split
  · rename_i n s h
    exact varAt_less _ _ _ _ _ _ h
  · simp [rdFail]
theorem rdVar_bad (u : List UInt8) : (rdVar (u, true)).2.2 = true := by
  unfold rdVar
  split <;> rfl
theorem rdVar_pre {u q : List UInt8} {n : Nat} {u' : List UInt8} (h : rdVar (u, false) = (n, (u', false))) : rdVar (u ++ q, false) = (n, (u' ++ q, false)) := by
  unfold rdVar at h ⊢
  cases hv : varAt 10 u 0 0 with
  | none => rw [hv] at h; simp [rdFail] at h
  | some x =>
    obtain ⟨m, t⟩ := x
    simp only [hv] at h
    rw [varAt_pre 10 u 0 0 m t q hv]
    simp at h ⊢
    exact ⟨h.1, h.2⟩
theorem rd_cases (r : Rd) : r.2 = true ∨ r = (r.1, false) := by
  obtain ⟨u, b⟩ := r
  cases b
  · exact .inr rfl
  · exact .inl rfl

theorem getL_shrink {σ : Type} (T : List (Take σ)) (hT : ∀ t ∈ T, Fine t) : ∀ (m last : Nat), T.length - last = m → ∀ (s : σ) (r : Rd), (getL T last s r).2.1.length ≤ r.1.length := by
  intro m
  induction m using Nat.strongRecOn with
  | ind m ih =>
    intro last hm s r
    have h1 := rdVar_less r
    rw [getL]
    split
    · exact h1
    · split
      · simp [rdFail]
      · rename_i h0 h
        refine Nat.le_trans (ih (T.length - (rdVar r).1) (by omega) _ rfl _ _) (Nat.le_trans ((hT _ (List.getElem_mem _)).shrink _ _) h1)
theorem getL_bad {σ : Type} (T : List (Take σ)) (hT : ∀ t ∈ T, Fine t) : ∀ (m last : Nat), T.length - last = m → ∀ (s : σ) (r : Rd), r.2 = true → (getL T last s r).2.2 = true := by
  intro m
  induction m using Nat.strongRecOn with
  | ind m ih =>
    intro last hm s r hb
    obtain ⟨u, b⟩ := r
    simp only at hb
    subst hb
    have h1 := rdVar_bad u
    generalize hx : rdVar (u, true) = x at *
    obtain ⟨n, v, b⟩ := x
    simp only at h1
    subst h1
    rw [getL_eq T last s _ hx]
    split
    · rfl
    · split
      · rfl
      · rename_i h0 h
        exact ih (T.length - n) (by omega) _ rfl _ _ ((hT _ (List.getElem_mem _)).bad _ _)
theorem getL_pre {σ : Type} (T : List (Take σ)) (hT : ∀ t ∈ T, Fine t) : ∀ (m last : Nat), T.length - last = m → ∀ (s : σ) (u q : List UInt8) (s' : σ) (u' : List UInt8), getL T last s (u, false) = (s', (u', false)) → getL T last s (u ++ q, false) = (s', (u' ++ q, false)) := by
  intro m
  induction m using Nat.strongRecOn with
  | ind m ih =>
    intro last hm s u q s' u' h
    rcases rd_cases (rdVar (u, false)).2 with hb | hb
    · exfalso
      generalize hx : rdVar (u, false) = x at *
      obtain ⟨n, v, b⟩ := x
      simp only at hb
      subst hb
      rw [getL_eq T last s _ hx] at h
      split at h
      · simp at h
      · split at h
        · simp [rdFail] at h
        · rename_i h0 h1
          have := getL_bad T hT _ n rfl ((T[n - 1]'(by omega)) s (v, true)).1 ((T[n - 1]'(by omega)) s (v, true)).2 ((hT _ (List.getElem_mem _)).bad _ _)
          rw [h] at this
          cases this
    · have hx : rdVar (u, false) = ((rdVar (u, false)).1, ((rdVar (u, false)).2.1, false)) := by
        conv => lhs; rw [← Prod.eta (rdVar (u, false))]
        rw [hb]
      generalize (rdVar (u, false)).1 = n at *
      generalize (rdVar (u, false)).2.1 = v at *
      have hq := rdVar_pre (q := q) hx
      rw [getL_eq T last s _ hx] at h
      rw [getL_eq T last s _ hq]
      split at h
      · rw [if_pos (by assumption)]
        cases h
        rfl
      · rw [if_neg (by assumption)]
        split at h
        · simp [rdFail] at h
        · rename_i h0 h1
          rw [dif_neg h1]
          have hF := hT _ (List.getElem_mem (show n - 1 < T.length by omega))
          rcases rd_cases ((T[n - 1]'(by omega)) s (v, false)).2 with hc | hc
          · have := getL_bad T hT _ n rfl ((T[n - 1]'(by omega)) s (v, false)).1 ((T[n - 1]'(by omega)) s (v, false)).2 hc
            rw [h] at this
            cases this
          · have hy : (T[n - 1]'(by omega)) s (v, false) = (((T[n - 1]'(by omega)) s (v, false)).1, (((T[n - 1]'(by omega)) s (v, false)).2.1, false)) := by
              conv => lhs; rw [← Prod.eta ((T[n - 1]'(by omega)) s (v, false))]
              rw [hc]
            have hz := hF.pre _ _ q _ _ hy
            rw [hy] at h
            rw [hz]
            exact ih (T.length - n) (by omega) n rfl _ _ q _ _ h

/-- what was put is taken: st k is the state when k fields are there -/
theorem getL_back {σ : Type} (T : List (Take σ)) (bs : List (List UInt8)) (hl : T.length = bs.length) (hsm : bs.length < 2 ^ 63) (st : Nat → σ)
    (h0 : ∀ k (h : k < bs.length), bs[k] = [] → st (k + 1) = st k)
    (h1 : ∀ k (h : k < bs.length), bs[k] ≠ [] → ∀ t, (T[k]'(by omega)) (st k) (bs[k] ++ t, false) = (st (k + 1), (t, false))) :
    ∀ (m k last : Nat), bs.length - k = m → k ≤ bs.length → last ≤ k → ∀ t, getL T last (st k) (tagL k (bs.drop k) ++ t, false) = (st bs.length, (t, false)) := by
  intro m
  induction m with
  | zero =>
    intro k last hm hk hlast t
    have : k = bs.length := by omega
    subst this
    rw [List.drop_length, tagL]
    have hz : rdVar ([0] ++ t, false) = (0, (t, false)) := by
      have := rdVar_back 0 (by decide) t false
      rw [varL] at this
      exact this
    rw [getL_eq T _ _ _ hz]
    rfl
  | succ m ih =>
    intro k last hm hk hlast t
    have hlt : k < bs.length := by omega
    have hd : bs.drop k = bs[k] :: bs.drop (k + 1) := List.drop_eq_getElem_cons hlt
    rw [hd, tagL]
    by_cases hb : bs[k] = []
    · rw [if_pos hb, List.nil_append, ← h0 k hlt hb]
      exact ih (k + 1) last (by omega) (by omega) (by omega) t
    · rw [if_neg hb, List.append_assoc, List.append_assoc]
      have hv := rdVar_back (k + 1) (by omega) (bs[k] ++ (tagL (k + 1) (bs.drop (k + 1)) ++ t)) false
      rw [getL_eq T _ _ _ hv, if_neg (by omega), dif_neg (by omega)]
      rw [show (T[k + 1 - 1]'(by omega)) (st k) (bs[k] ++ (tagL (k + 1) (bs.drop (k + 1)) ++ t), false) = _ from h1 k hlt hb _]
      exact ih (k + 1) (k + 1) (by omega) (by omega) (by omega) t

end Go.Proofs.YtbjbgdnjcppjhaaGreatDoor
