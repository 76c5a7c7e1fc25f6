/-
  A REGION THAT DRAWS ITS ORDER: a chain of operations, and one allocation that may come anywhere among them. Conditions: as the theorem says. By an AI agent.
-/
import Derived.Test.YtbjbgdnjcppjhaaGreatDoorHeld
import Derived.Test.YtbjbgdnjcppjhaaGreatDoorJFirB
import Derived.Laws.EntriesVeiled
namespace Go.Proofs.YtbjbgdnjcppjhaaGreatDoor
open Go.RowKit
set_option linter.unusedVariables false
set_option linter.unusedSimpArgs false

/-- what is listed when k of the chain are, and the allocation is or is not -/
def lstA (base : Array Bool) (chain : List Nat) (A : Nat) (k : Nat) (done : Bool) : Array Bool :=
  (chain.take k ++ if done then [A] else []).foldl (fun l i => l.setIfInBounds i true) base
def chainB (md : Region.Mode) (ops : Array Oper) (base : Array Bool) (chain : List Nat) (A : Nat) : Bool :=
  (List.range (chain.length + 1)).all fun k => [true, false].all fun d =>
    ((Region.ready md ops (lstA base chain A k d)).all fun j => (decide (k < chain.length) && j == chain.getD k 0) || (!d && j == A)) &&
    (((Region.ready md ops (lstA base chain A k d)).isEmpty) == (d && decide (k = chain.length))) &&
    (decide (chain.length ≤ k) || lstA base chain A (k + 1) d == (lstA base chain A k d).setIfInBounds (chain.getD k 0) true) &&
    (lstA base chain A k true == (lstA base chain A k false).setIfInBounds A true)
theorem chainB_at {md : Region.Mode} {ops : Array Oper} {base : Array Bool} {chain : List Nat} {A : Nat} (h : chainB md ops base chain A = true) (k : Nat) (hk : k ≤ chain.length) (d : Bool) :
    (∀ j ∈ Region.ready md ops (lstA base chain A k d), (k < chain.length ∧ j = chain.getD k 0) ∨ (d = false ∧ j = A)) ∧
    ((Region.ready md ops (lstA base chain A k d) = []) ↔ (d = true ∧ k = chain.length)) ∧
    (k < chain.length → lstA base chain A (k + 1) d = (lstA base chain A k d).setIfInBounds (chain.getD k 0) true) ∧
    (lstA base chain A k true = (lstA base chain A k false).setIfInBounds A true) := by
  unfold chainB at h
  have h1 := List.all_eq_true.1 h k (by simp; omega)
  have h2 := List.all_eq_true.1 h1 d (by cases d <;> simp)
  simp only [Bool.and_eq_true] at h2
  obtain ⟨⟨⟨a, b⟩, c⟩, e⟩ := h2
  refine ⟨fun j hj => ?_, ?_, fun hlt => ?_, by simpa using e⟩
  · have := List.all_eq_true.1 a j hj
    simp only [Bool.or_eq_true, Bool.and_eq_true, decide_eq_true_eq, beq_iff_eq, Bool.not_eq_true'] at this
    exact this
  · rw [← List.isEmpty_iff]
    have hb := eq_of_beq b
    rw [hb]
    simp
  · simp only [Bool.or_eq_true, decide_eq_true_eq] at c
    rcases c with c | c
    · omega
    · exact eq_of_beq c

section
variable {P : Program} {ops : Array Oper} {Q : Exit → Act → World → Prop} {md : Region.Mode}
theorem chainD {base : Array Bool} {chain : List Nat} {A : Nat} (h : chainB md ops base chain A = true) (S : World → Prop) (Inv : Nat → Bool → Act → World → Prop) (hS : ∀ k d a w, Inv k d a w → S w)
    (hstep : ∀ k, k < chain.length → ∀ d a w, Inv k d a w → chain.getD k 0 ∈ Region.ready md ops (lstA base chain A k d) → wpOp P ops Q (chain.getD k 0) (fun b u => Inv (k + 1) d b u) a w)
    (halloc : ∀ k, k ≤ chain.length → ∀ a w, Inv k false a w → wpOp P ops Q A (fun b u => Inv k true b u) a w)
    (hend : ∀ a w, Inv chain.length true a w → Q .normal a w) :
    ∀ (n k : Nat) (d : Bool) (a : Act) (w : World), n = chain.length - k + (if d then 0 else 1) → k ≤ chain.length → Inv k d a w → wpAnyD P md ops Q S [] n (lstA base chain A k d) a w := by
  intro n
  induction n with
  | zero =>
    intro k d a w hn hk hi
    obtain ⟨_, h2, _, _⟩ := chainB_at h k hk d
    cases d with
    | false => simp at hn
    | true =>
      have hke : k = chain.length := by simp at hn; omega
      subst hke
      exact ⟨h2.2 ⟨rfl, rfl⟩, hend a w hi⟩
  | succ n ih =>
    intro k d a w hn hk hi
    obtain ⟨h1, h2, h3, h4⟩ := chainB_at h k hk d
    refine ⟨fun h0 => ?_, fun j hj => ?_⟩
    · obtain ⟨rfl, rfl⟩ := h2.1 h0
      simp at hn
    · rcases h1 j hj with ⟨hlt, rfl⟩ | ⟨rfl, rfl⟩
      · refine wpOp_mono (fun b u hb => ⟨fun _ => hS _ _ _ _ hb, ?_⟩) (hstep k hlt d a w hi hj)
        rw [← h3 hlt]
        exact ih (k + 1) d b u (by omega) (by omega) hb
      · refine wpOp_mono (fun b u hb => ⟨fun _ => hS _ _ _ _ hb, ?_⟩) (halloc k hk a w hi)
        rw [← h4]
        exact ih k true b u (by simp at hn ⊢; omega) hk hb
theorem wpOp_of {i : Nat} {o : Oper} {rest : List Oper} {K : Act → World → Prop} {a : Act} {w : World} (hi : ops.toList.drop i = o :: rest) (hg : o.guard = none) (h : o.wp P a w K Q) : wpOp P ops Q i K a w := by
  unfold wpOp
  simp only [at_drop hi]
  rw [if_pos (by simp [Region.wanted, hg])]
  exact .inl h
end

end Go.Proofs.YtbjbgdnjcppjhaaGreatDoor

/-
  first.Get over this translation: the entry that stands in a reader. Condition: at most 2^40 bytes are left. (Printed by wip/genfirget.py.) By an AI agent.
-/
namespace Go.Proofs.YtbjbgdnjcppjhaaGreatDoor
open Go.RowKit
set_option linter.unusedVariables false
set_option linter.unusedSimpArgs false

/-- the box of the method value Fixed of a reader -/
abbrev fixV (b : Nat) : Value := .func (.func 54) #[.pointer (some ⟨b, 0, none⟩)] #[]
set_option maxRecDepth 100000 in
set_option maxHeartbeats 2000000 in
theorem smallF_any (b N : Nat) (r : Rd) (hl : r.1.length ≤ 1099511627776) (w : World) (h : RdAt w b r) (hc : w.cell? ⟨N, 0, none⟩ = some (fixV b)) :
    Calls Tryz.prog 55 #[.pointer (some ⟨N, 0, none⟩)] w fun x w' => x = .returned (.int .i64 (rdFix 1 r).1) ∧ RdAt w' b (rdFix 1 r).2 ∧ But b w w' := by
  have HF := Lib.hid (fixedRd_any b 1 r (by decide) hl w h)
  have hlt := rdFix_lt 1 r
  generalize rdFix 1 r = x at *
  obtain ⟨v, r1⟩ := x
  have hv : v < 256 := hlt
  clear h hlt
  go_enter Tryz.func55, Tryz.ntmps55
  go_wp2_with fail
  refine HF.out.mono ?_
  rintro x w1 ⟨rfl, h1, hb1⟩
  go_wp2_with fail
  go_ret
  exact ⟨rfl, h1, hb1⟩

/-- what stands while an entry is read -/
structure GetSt (b R : Nat) (w U : World) (r : Rd) : Prop where
  rd : RdAt U b r
  fn : U.cell? ⟨R + 1, 0, none⟩ = some (fixV b)
  zero : U.heap[R]? = some (.cells Ent.zero.cells EntT (0, 0))
  but : But b w U
  size : R + 1 < U.heap.size
theorem GetSt.next {b R : Nat} {w U U' : World} {r r' : Rd} (h : GetSt b R w U r) (hbR : b < R) (hr : RdAt U' b r') (hb : But b U U') : GetSt b R w U' r' :=
  ⟨hr, (World.cell?_of_block (w := U) (a := ⟨R + 1, 0, none⟩) (hb.block (R + 1) h.size (fun h => by have := Option.some.inj h; omega))).trans h.fn,
   (hb.block R (by have := h.size; omega) (fun h => by have := Option.some.inj h; omega)).trans h.zero, h.but.trans hb, Nat.lt_of_lt_of_le h.size hb.size⟩

/-- the closure small -/
abbrev smallV (R : Nat) : Value := .func (.func 55) #[] #[.pointer (some ⟨R + 1, 0, none⟩)]
def getAct (b R : Nat) (val : Nat → Value) (k : Nat) (v5 : Value) : Act :=
  { tmps := #[.pointer (some ⟨b, 0, none⟩), undef, .pointer (some ⟨R, 0, none⟩), .pointer (some ⟨R + 1, 0, none⟩), smallV R, v5, undef, undef, .pointer (some ⟨b, 0, none⟩), fixV b, smallV R, smallV R, if 0 < k then val 0 else undef, fixV b, if 1 < k then val 1 else undef, fixV b, if 2 < k then val 2 else undef, fixV b, if 3 < k then val 3 else undef, fixV b, if 4 < k then val 4 else undef, fixV b, if 5 < k then val 5 else undef, fixV b, if 6 < k then val 6 else undef, smallV R, if 7 < k then val 7 else undef, smallV R, if 8 < k then val 8 else undef, if 9 < k then val 9 else undef, undef, undef, undef, undef, undef, undef, undef, undef, undef, undef, undef, undef, undef, undef, undef, undef, undef, undef, undef, undef, undef, undef, undef, undef, undef, undef, undef, undef, undef, undef, undef, undef, undef], defers := [] }
/-- what stands behind k operations of the region, the box laid or not -/
structure GInv (b R : Nat) (w0 : World) (val : Nat → Value) (e : Ent) (rs : Nat → Rd) (k : Nat) (d : Bool) (a : Act) (w : World) : Prop where
  act : ∃ v5, a = getAct b R val k v5 ∧ (d = true → ∃ c, v5 = .pointer (some ⟨c, 0, none⟩) ∧ R + 1 < c ∧ w.heap[c]? = some (.cells (if k < 11 then Ent.zero.cells else e.cells) EntT (0, 0)))
  st : GetSt b R w0 w (rs (min k 9))
  lt : d = false → k < 11
theorem GetSt.alloc {b R : Nat} {w U : World} {r : Rd} (h : GetSt b R w U r) (o : Obj) : GetSt b R w (U.alloc o) r :=
  ⟨h.rd.keep ((Below.refl _ _).alloc (Nat.le_refl _) o), cell_al h.fn o, (Below.heap_alloc _ _ _ (by have := h.size; omega)).trans h.zero, h.but.trans (But.of ((Below.refl _ _).alloc (Nat.le_refl _) o)), by have := h.size; rw [World.size_alloc]; omega⟩
theorem fir_set {b c o : Nat} {w w' : World} {v : Value} (h : But b w w') (hc : w.heap.size ≤ c) : But b w (w'.setCell ⟨c, o, none⟩ v) :=
  ⟨h.os, h.tape, h.output, by have := h.size; simp [World.setCell]; omega, fun k hk h1 => by
    have hne : c ≠ k := by omega
    have := h.block k hk h1
    simp [World.setCell, Array.getElem?_modify, hne]
    exact this⟩
theorem fir_rd {b e o : Nat} {w : World} {r : Rd} {v : Value} (h : RdAt w b r) (he : b ≠ e) : RdAt (w.setCell ⟨e, o, none⟩ v) b r := by
  unfold RdAt at h ⊢
  simp [World.setCell, Array.getElem?_modify, Ne.symm he, h]
theorem GetSt.set {b R c o : Nat} {w U : World} {r : Rd} {v : Value} (h : GetSt b R w U r) (hbR : b < R) (hR : w.heap.size ≤ R) (hc : R + 1 < c) : GetSt b R w (U.setCell ⟨c, o, none⟩ v) r := by
  have hne1 : c ≠ b := by omega
  have hne2 : c ≠ R + 1 := by omega
  have hne3 : c ≠ R := by omega
  refine ⟨?_, ?_, ?_, fir_set h.but (by omega), by have := h.size; simpa [World.setCell] using this⟩
  · have := h.rd
    unfold RdAt at this ⊢
    simp [World.setCell, Array.getElem?_modify, hne1, this]
  · rw [World.cell?_setCell_far _ _ _ _ hne2]
    exact h.fn
  · have := h.zero
    simp [World.setCell, Array.getElem?_modify, hne3, this]

set_option maxRecDepth 100000 in
set_option maxHeartbeats 8000000 in
theorem firstGet_any (b : Nat) (r : Rd) (hl : r.1.length ≤ 1099511627776) (w : World) (h : RdAt w b r) :
    Calls Tryz.prog 22 #[.pointer (some ⟨b, 0, none⟩)] w fun x w' => x = .returned (getF r).1.val ∧ RdAt w' b (getF r).2 ∧ But b w w' := by
  obtain ⟨⟨vk, r1⟩, h0⟩ : ∃ x, x = rdFix 1 r := ⟨_, rfl⟩
  have l0 : r1.1.length ≤ 1099511627776 := by
    have := (fine_fix 1).shrink r
    rw [← h0] at this
    exact Nat.le_trans this hl
  have v0 : vk < 256 ^ 1 := by
    have := rdFix_lt 1 r
    rw [← h0] at this
    exact this
  have C0 : ∀ N W, RdAt W b r → W.cell? ⟨N, 0, none⟩ = some (fixV b) → Calls Tryz.prog 55 #[.pointer (some ⟨N, 0, none⟩)] W fun x W' => x = .returned (.int .i64 vk) ∧ RdAt W' b r1 ∧ But b W W' := fun N W hW hc => by
    have := smallF_any b N r hl W hW hc
    rw [← h0] at this
    exact this
  obtain ⟨⟨vt, r2⟩, h1⟩ : ∃ x, x = rdFix 8 r1 := ⟨_, rfl⟩
  have l1 : r2.1.length ≤ 1099511627776 := by
    have := (fine_fix 8).shrink r1
    rw [← h1] at this
    exact Nat.le_trans this l0
  have v1 : vt < 256 ^ 8 := by
    have := rdFix_lt 8 r1
    rw [← h1] at this
    exact this
  have C1 : ∀ W, RdAt W b r1 → Calls Tryz.prog 54 #[.pointer (some ⟨b, 0, none⟩), .int .i64 8] W fun x W' => x = .returned (.int .u64 vt) ∧ RdAt W' b r2 ∧ But b W W' := fun W hW => by
    have := fixedRd_any b 8 r1 (by decide) l0 W hW
    rw [← h1] at this
    exact this
  obtain ⟨⟨vi, r3⟩, h2⟩ : ∃ x, x = rdFix 8 r2 := ⟨_, rfl⟩
  have l2 : r3.1.length ≤ 1099511627776 := by
    have := (fine_fix 8).shrink r2
    rw [← h2] at this
    exact Nat.le_trans this l1
  have v2 : vi < 256 ^ 8 := by
    have := rdFix_lt 8 r2
    rw [← h2] at this
    exact this
  have C2 : ∀ W, RdAt W b r2 → Calls Tryz.prog 54 #[.pointer (some ⟨b, 0, none⟩), .int .i64 8] W fun x W' => x = .returned (.int .u64 vi) ∧ RdAt W' b r3 ∧ But b W W' := fun W hW => by
    have := fixedRd_any b 8 r2 (by decide) l1 W hW
    rw [← h2] at this
    exact this
  obtain ⟨⟨vc, r4⟩, h3⟩ : ∃ x, x = rdFix 8 r3 := ⟨_, rfl⟩
  have l3 : r4.1.length ≤ 1099511627776 := by
    have := (fine_fix 8).shrink r3
    rw [← h3] at this
    exact Nat.le_trans this l2
  have v3 : vc < 256 ^ 8 := by
    have := rdFix_lt 8 r3
    rw [← h3] at this
    exact this
  have C3 : ∀ W, RdAt W b r3 → Calls Tryz.prog 54 #[.pointer (some ⟨b, 0, none⟩), .int .i64 8] W fun x W' => x = .returned (.int .u64 vc) ∧ RdAt W' b r4 ∧ But b W W' := fun W hW => by
    have := fixedRd_any b 8 r3 (by decide) l2 W hW
    rw [← h3] at this
    exact this
  obtain ⟨⟨vs, r5⟩, h4⟩ : ∃ x, x = rdFix 8 r4 := ⟨_, rfl⟩
  have l4 : r5.1.length ≤ 1099511627776 := by
    have := (fine_fix 8).shrink r4
    rw [← h4] at this
    exact Nat.le_trans this l3
  have v4 : vs < 256 ^ 8 := by
    have := rdFix_lt 8 r4
    rw [← h4] at this
    exact this
  have C4 : ∀ W, RdAt W b r4 → Calls Tryz.prog 54 #[.pointer (some ⟨b, 0, none⟩), .int .i64 8] W fun x W' => x = .returned (.int .u64 vs) ∧ RdAt W' b r5 ∧ But b W W' := fun W hW => by
    have := fixedRd_any b 8 r4 (by decide) l3 W hW
    rw [← h4] at this
    exact this
  obtain ⟨⟨vb, r6⟩, h5⟩ : ∃ x, x = rdFix 4 r5 := ⟨_, rfl⟩
  have l5 : r6.1.length ≤ 1099511627776 := by
    have := (fine_fix 4).shrink r5
    rw [← h5] at this
    exact Nat.le_trans this l4
  have v5 : vb < 256 ^ 4 := by
    have := rdFix_lt 4 r5
    rw [← h5] at this
    exact this
  have C5 : ∀ W, RdAt W b r5 → Calls Tryz.prog 54 #[.pointer (some ⟨b, 0, none⟩), .int .i64 4] W fun x W' => x = .returned (.int .u64 vb) ∧ RdAt W' b r6 ∧ But b W W' := fun W hW => by
    have := fixedRd_any b 4 r5 (by decide) l4 W hW
    rw [← h5] at this
    exact this
  obtain ⟨⟨vm, r7⟩, h6⟩ : ∃ x, x = rdFix 4 r6 := ⟨_, rfl⟩
  have l6 : r7.1.length ≤ 1099511627776 := by
    have := (fine_fix 4).shrink r6
    rw [← h6] at this
    exact Nat.le_trans this l5
  have v6 : vm < 256 ^ 4 := by
    have := rdFix_lt 4 r6
    rw [← h6] at this
    exact this
  have C6 : ∀ W, RdAt W b r6 → Calls Tryz.prog 54 #[.pointer (some ⟨b, 0, none⟩), .int .i64 4] W fun x W' => x = .returned (.int .u64 vm) ∧ RdAt W' b r7 ∧ But b W W' := fun W hW => by
    have := fixedRd_any b 4 r6 (by decide) l5 W hW
    rw [← h6] at this
    exact this
  obtain ⟨⟨vn, r8⟩, h7⟩ : ∃ x, x = rdFix 1 r7 := ⟨_, rfl⟩
  have l7 : r8.1.length ≤ 1099511627776 := by
    have := (fine_fix 1).shrink r7
    rw [← h7] at this
    exact Nat.le_trans this l6
  have v7 : vn < 256 ^ 1 := by
    have := rdFix_lt 1 r7
    rw [← h7] at this
    exact this
  have C7 : ∀ N W, RdAt W b r7 → W.cell? ⟨N, 0, none⟩ = some (fixV b) → Calls Tryz.prog 55 #[.pointer (some ⟨N, 0, none⟩)] W fun x W' => x = .returned (.int .i64 vn) ∧ RdAt W' b r8 ∧ But b W W' := fun N W hW hc => by
    have := smallF_any b N r7 l6 W hW hc
    rw [← h7] at this
    exact this
  obtain ⟨⟨vl, r9⟩, h8⟩ : ∃ x, x = rdFix 1 r8 := ⟨_, rfl⟩
  have l8 : r9.1.length ≤ 1099511627776 := by
    have := (fine_fix 1).shrink r8
    rw [← h8] at this
    exact Nat.le_trans this l7
  have v8 : vl < 256 ^ 1 := by
    have := rdFix_lt 1 r8
    rw [← h8] at this
    exact this
  have C8 : ∀ N W, RdAt W b r8 → W.cell? ⟨N, 0, none⟩ = some (fixV b) → Calls Tryz.prog 55 #[.pointer (some ⟨N, 0, none⟩)] W fun x W' => x = .returned (.int .i64 vl) ∧ RdAt W' b r9 ∧ But b W W' := fun N W hW hc => by
    have := smallF_any b N r8 l7 W hW hc
    rw [← h8] at this
    exact this
  obtain ⟨⟨vz, r10⟩, h9⟩ : ∃ x, x = rdFix 1 r9 := ⟨_, rfl⟩
  have l9 : r10.1.length ≤ 1099511627776 := by
    have := (fine_fix 1).shrink r9
    rw [← h9] at this
    exact Nat.le_trans this l8
  have v9 : vz < 256 ^ 1 := by
    have := rdFix_lt 1 r9
    rw [← h9] at this
    exact this
  have C9 : ∀ N W, RdAt W b r9 → W.cell? ⟨N, 0, none⟩ = some (fixV b) → Calls Tryz.prog 55 #[.pointer (some ⟨N, 0, none⟩)] W fun x W' => x = .returned (.int .i64 vz) ∧ RdAt W' b r10 ∧ But b W W' := fun N W hW hc => by
    have := smallF_any b N r9 l8 W hW hc
    rw [← h9] at this
    exact this
  obtain ⟨⟨vd, r11⟩, h10⟩ : ∃ x, x = rdBytes 66 r10 := ⟨_, rfl⟩
  have C10 : ∀ W, RdAt W b r10 → Calls Tryz.prog 56 #[.pointer (some ⟨b, 0, none⟩), .int .i64 66] W fun x W' => x = .returned (.string ⟨vd.toArray⟩) ∧ RdAt W' b r11 ∧ But b W W' := fun W hW => by
    have := bytes_any b 66 r10 (by decide) (by omega) W hW
    rw [← h10] at this
    exact this
  have hhead : headF r = ((⟨vt, vi, vk, vc, vs, vb, vm, vn, vl, ⟨#[]⟩, ⟨#[]⟩⟩, vz, vd), r11) := by
    unfold headF bindR pureR
    simp only [← h0, ← h1, ← h2, ← h3, ← h4, ← h5, ← h6, ← h7, ← h8, ← h9, ← h10]
  have hget : getF r = if r11.2 = true then (Ent.zero, r11) else if okF (⟨vt, vi, vk, vc, vs, vb, vm, vn, vl, ⟨#[]⟩, ⟨#[]⟩⟩, vz, vd) = true then (entF (⟨vt, vi, vk, vc, vs, vb, vm, vn, vl, ⟨#[]⟩, ⟨#[]⟩⟩, vz, vd), r11) else (Ent.zero, rdFail) := by
    unfold getF
    rw [hhead]
  have hdl : vd.length ≤ 66 := by
    have := take_len 66 r10
    rw [← h10] at this
    exact this
  have hd66 : r11.2 = false → vd.length = 66 := by
    intro hb
    have h := h10
    unfold rdBytes at h
    split at h
    · rw [Prod.mk.injEq] at h
      rw [h.2] at hb
      cases hb
    · rename_i hc
      rw [Prod.mk.injEq] at h
      rw [h.1, List.length_take]
      omega
  have hwfE : (entF (⟨vt, vi, vk, vc, vs, vb, vm, vn, vl, ⟨#[]⟩, ⟨#[]⟩⟩, vz, vd)).wf := by
    have := (headF_wf r).1
    rw [hhead] at this
    exact this
  obtain ⟨M, hM, hMi⟩ : ∃ M : Nat, M = min vz 66 ∧ min (vz : Int) 66 = (M : Int) := ⟨min vz 66, rfl, by omega⟩
  have hEnt : entF (⟨vt, vi, vk, vc, vs, vb, vm, vn, vl, ⟨#[]⟩, ⟨#[]⟩⟩, vz, vd) = ⟨vt, vi, vk, vc, vs, vb, vm, vn, vl, ⟨(vd.take M).toArray⟩, ⟨#[]⟩⟩ := by
    rw [hM]; rfl
  have hOk : okF (⟨vt, vi, vk, vc, vs, vb, vm, vn, vl, ⟨#[]⟩, ⟨#[]⟩⟩, vz, vd) = (rightB (entF (⟨vt, vi, vk, vc, vs, vb, vm, vn, vl, ⟨#[]⟩, ⟨#[]⟩⟩, vz, vd)) && !decide (1 < levelI (vk : Int)) && zeroB (vd.drop M)) := by
    rw [hM]; rfl
  have hR := fun W => right_any (entF (⟨vt, vi, vk, vc, vs, vb, vm, vn, vl, ⟨#[]⟩, ⟨#[]⟩⟩, vz, vd)) hwfE W
  have hLv := fun W => level_any (entF (⟨vt, vi, vk, vc, vs, vb, vm, vn, vl, ⟨#[]⟩, ⟨#[]⟩⟩, vz, vd)) W
  rw [hOk] at hget
  rw [hEnt] at hR hLv hget
  simp only [Ent.val, Ent.cells] at hR hLv
  have HRR := Lib.hid hR
  have HLV := Lib.hid hLv
  have HM := Lib.hid hM
  have hMle : M ≤ 66 := by omega
  clear hR hLv hwfE hEnt hOk hM
  generalize getF r = y at *
  have HGET := Lib.hid hget
  have K0 := Lib.hid C0
  have K1 := Lib.hid C1
  have K2 := Lib.hid C2
  have K3 := Lib.hid C3
  have K4 := Lib.hid C4
  have K5 := Lib.hid C5
  have K6 := Lib.hid C6
  have K7 := Lib.hid C7
  have K8 := Lib.hid C8
  have K9 := Lib.hid C9
  have K10 := Lib.hid C10
  clear hget hhead C0 C1 C2 C3 C4 C5 C6 C7 C8 C9 C10 h0 h1 h2 h3 h4 h5 h6 h7 h8 h9 h10
  have H0 := Lib.hid h
  have hbw : b < w.heap.size := h.lt
  clear h
  simp only [show (256 : Nat) ^ 1 = 256 from rfl, show (256 : Nat) ^ 8 = 18446744073709551616 from rfl, show (256 : Nat) ^ 4 = 4294967296 from rfl] at v0 v1 v2 v3 v4 v5 v6 v7 v8 v9
  go_enter Tryz.func22, Tryz.ntmps22
  go_upto_region 3 with fail
  go_cut [5] from 11 to 29 (fun s5 wx => ∃ c, s5 = .pointer (some ⟨c, 0, none⟩) ∧ w.heap.size + 1 < c ∧ wx.heap[c]? = some (.cells (Ent.cells ⟨vt, vi, vk, vc, vs, vb, vm, vn, vl, ⟨#[]⟩, ⟨#[]⟩⟩) EntT (0, 0)) ∧ GetSt b w.heap.size w wx r9)
  case first =>
   go_wp2_with fail
   have hZ := heap_alloc_new w (.cells Ent.zero.cells EntT)
   have hN : ∀ o, ((w.alloc (.cells Ent.zero.cells EntT)).alloc (.cells #[fixV b] o)).cell? ⟨w.heap.size + 1, 0, none⟩ = some (fixV b) := fun o => by
     have := heap_alloc_new (w.alloc (.cells Ent.zero.cells EntT)) (.cells #[fixV b] o)
     rw [World.size_alloc] at this
     rw [Lib.cell_of_heap this]
     rfl
   have hst : GetSt b w.heap.size w ((w.alloc (.cells Ent.zero.cells EntT)).alloc (.cells #[fixV b] 102)).drew r := by
     refine ⟨?_, ?_, ?_, ?_, ?_⟩
     · have q1 := (H0.out.keep ((Below.refl _ _).alloc (Nat.le_refl _) (.cells Ent.zero.cells EntT))).keep ((Below.refl _ _).alloc (Nat.le_refl _) (.cells #[fixV b] 102))
       exact q1
     · exact hN _
     · exact (Below.heap_alloc _ _ _ (by simp)).trans hZ
     · have q1 : But b w _ := But.of (((Below.refl w.heap.size w).alloc (Nat.le_refl _) (.cells Ent.zero.cells EntT)).alloc (by simp) (.cells #[fixV b] 102))
       exact ⟨q1.os, q1.tape, q1.output, q1.size, q1.block⟩
     · show _ < ((w.alloc (.cells Ent.zero.cells EntT)).alloc (.cells #[fixV b] 102)).heap.size
       simp
   refine region_D (fun u => u.cell? ⟨w.heap.size + 1, 0, none⟩ = some (fixV b)) [] 21 (by kernel_rfl) (by rfl) ?_
   have hst : GetSt b w.heap.size w (((w.alloc (.cells #[.int .u64 0, .int .u64 0, .int .i64 0, .int .u64 0, .int .u64 0, .int .u64 0, .int .u64 0, .int .i64 0, .int .i64 0, .string ⟨#[]⟩, .string ⟨#[]⟩] EntT)).alloc (.cells #[.func (.func 54) #[.pointer (some ⟨b, 0, none⟩)] #[]] 102)).drew) r := hst
   generalize (((w.alloc (.cells #[.int .u64 0, .int .u64 0, .int .i64 0, .int .u64 0, .int .u64 0, .int .u64 0, .int .u64 0, .int .i64 0, .int .i64 0, .string ⟨#[]⟩, .string ⟨#[]⟩] EntT)).alloc (.cells #[.func (.func 54) #[.pointer (some ⟨b, 0, none⟩)] #[]] 102)).drew) = U0 at *
   clear hN hZ H0
   have ST0 := Lib.hid hst
   have hS0 := hst.fn
   refine takeD (i := 0) (v := .func (.func 55) #[] #[.pointer (some ⟨w.heap.size + 1, 0, none⟩)]) (by rfl) (by kernel_rfl) (fun _ _ _ h => h) (by rfl) (fun u hu => by have hu0 : u.cell? ⟨w.heap.size + 1, 0, none⟩ = some (.func (.func 54) #[.pointer (some ⟨b, 0, none⟩)] #[]) := hu; go_simp) hS0 ?_
   simp only [Act.put, List.setIfInBounds_toArray, List.set_cons_zero, List.set_cons_succ]
   refine takeD (i := 2) (v := .func (.func 54) #[.pointer (some ⟨b, 0, none⟩)] #[]) (by rfl) (by kernel_rfl) (fun _ _ _ h => h) (by rfl) (fun u hu => by have hu0 : u.cell? ⟨w.heap.size + 1, 0, none⟩ = some (.func (.func 54) #[.pointer (some ⟨b, 0, none⟩)] #[]) := hu; go_simp) hS0 ?_
   simp only [Act.put, List.setIfInBounds_toArray, List.set_cons_zero, List.set_cons_succ]
   refine takeD (i := 4) (v := .func (.func 54) #[.pointer (some ⟨b, 0, none⟩)] #[]) (by rfl) (by kernel_rfl) (fun _ _ _ h => h) (by rfl) (fun u hu => by have hu0 : u.cell? ⟨w.heap.size + 1, 0, none⟩ = some (.func (.func 54) #[.pointer (some ⟨b, 0, none⟩)] #[]) := hu; go_simp) hS0 ?_
   simp only [Act.put, List.setIfInBounds_toArray, List.set_cons_zero, List.set_cons_succ]
   refine takeD (i := 6) (v := .func (.func 54) #[.pointer (some ⟨b, 0, none⟩)] #[]) (by rfl) (by kernel_rfl) (fun _ _ _ h => h) (by rfl) (fun u hu => by have hu0 : u.cell? ⟨w.heap.size + 1, 0, none⟩ = some (.func (.func 54) #[.pointer (some ⟨b, 0, none⟩)] #[]) := hu; go_simp) hS0 ?_
   simp only [Act.put, List.setIfInBounds_toArray, List.set_cons_zero, List.set_cons_succ]
   refine takeD (i := 8) (v := .func (.func 54) #[.pointer (some ⟨b, 0, none⟩)] #[]) (by rfl) (by kernel_rfl) (fun _ _ _ h => h) (by rfl) (fun u hu => by have hu0 : u.cell? ⟨w.heap.size + 1, 0, none⟩ = some (.func (.func 54) #[.pointer (some ⟨b, 0, none⟩)] #[]) := hu; go_simp) hS0 ?_
   simp only [Act.put, List.setIfInBounds_toArray, List.set_cons_zero, List.set_cons_succ]
   refine takeD (i := 10) (v := .func (.func 54) #[.pointer (some ⟨b, 0, none⟩)] #[]) (by rfl) (by kernel_rfl) (fun _ _ _ h => h) (by rfl) (fun u hu => by have hu0 : u.cell? ⟨w.heap.size + 1, 0, none⟩ = some (.func (.func 54) #[.pointer (some ⟨b, 0, none⟩)] #[]) := hu; go_simp) hS0 ?_
   simp only [Act.put, List.setIfInBounds_toArray, List.set_cons_zero, List.set_cons_succ]
   refine takeD (i := 12) (v := .func (.func 54) #[.pointer (some ⟨b, 0, none⟩)] #[]) (by rfl) (by kernel_rfl) (fun _ _ _ h => h) (by rfl) (fun u hu => by have hu0 : u.cell? ⟨w.heap.size + 1, 0, none⟩ = some (.func (.func 54) #[.pointer (some ⟨b, 0, none⟩)] #[]) := hu; go_simp) hS0 ?_
   simp only [Act.put, List.setIfInBounds_toArray, List.set_cons_zero, List.set_cons_succ]
   refine takeD (i := 14) (v := .func (.func 55) #[] #[.pointer (some ⟨w.heap.size + 1, 0, none⟩)]) (by rfl) (by kernel_rfl) (fun _ _ _ h => h) (by rfl) (fun u hu => by have hu0 : u.cell? ⟨w.heap.size + 1, 0, none⟩ = some (.func (.func 54) #[.pointer (some ⟨b, 0, none⟩)] #[]) := hu; go_simp) hS0 ?_
   simp only [Act.put, List.setIfInBounds_toArray, List.set_cons_zero, List.set_cons_succ]
   refine takeD (i := 16) (v := .func (.func 55) #[] #[.pointer (some ⟨w.heap.size + 1, 0, none⟩)]) (by rfl) (by kernel_rfl) (fun _ _ _ h => h) (by rfl) (fun u hu => by have hu0 : u.cell? ⟨w.heap.size + 1, 0, none⟩ = some (.func (.func 54) #[.pointer (some ⟨b, 0, none⟩)] #[]) := hu; go_simp) hS0 ?_
   simp only [Act.put, List.setIfInBounds_toArray, List.set_cons_zero, List.set_cons_succ]
   refine chainD (chain := [1, 3, 5, 7, 9, 11, 13, 15, 17, 18, 20]) (A := 19) (base := ((((((((((Array.replicate 21 false).setIfInBounds 0 true).setIfInBounds 2 true).setIfInBounds 4 true).setIfInBounds 6 true).setIfInBounds 8 true).setIfInBounds 10 true).setIfInBounds 12 true).setIfInBounds 14 true).setIfInBounds 16 true)) (by kernel_rfl) _ (GInv b w.heap.size w (fun j => [.int .i64 vk, .int .u64 vt, .int .u64 vi, .int .u64 vc, .int .u64 vs, .int .u64 vb, .int .u64 vm, .int .i64 vn, .int .i64 vl, .agg #[.int .u64 vt, .int .u64 vi, .int .i64 vk, .int .u64 vc, .int .u64 vs, .int .u64 vb, .int .u64 vm, .int .i64 vn, .int .i64 vl, .string ⟨#[]⟩, .string ⟨#[]⟩]].getD j undef) ⟨vt, vi, vk, vc, vs, vb, vm, vn, vl, ⟨#[]⟩, ⟨#[]⟩⟩ (fun j => [r, r1, r2, r3, r4, r5, r6, r7, r8, r9].getD j r)) (fun k d a u hi => hi.st.fn) ?hstep ?halloc ?hend 12 0 false _ _ (by rfl) (by decide) ?hinit
   case hinit => exact ⟨⟨undef, rfl, fun h => by cases h⟩, ST0.out, fun _ => by decide⟩
   case hstep =>
     intro k hk d a u hi hready
     have hk11 : k < 11 := hk
     obtain ⟨⟨v5, rfl, hd⟩, st, _⟩ := hi
     match k, hk11, hk, hd, st, hready with
     | 0, _, _, hd, st, _ =>
       have hact : getAct b w.heap.size (fun j => [.int .i64 vk, .int .u64 vt, .int .u64 vi, .int .u64 vc, .int .u64 vs, .int .u64 vb, .int .u64 vm, .int .i64 vn, .int .i64 vl, .agg #[.int .u64 vt, .int .u64 vi, .int .i64 vk, .int .u64 vc, .int .u64 vs, .int .u64 vb, .int .u64 vm, .int .i64 vn, .int .i64 vl, .string ⟨#[]⟩, .string ⟨#[]⟩]].getD j undef) 0 v5 = { tmps := #[.pointer (some ⟨b, 0, none⟩), undef, .pointer (some ⟨w.heap.size, 0, none⟩), .pointer (some ⟨w.heap.size + 1, 0, none⟩), .func (.func 55) #[] #[.pointer (some ⟨w.heap.size + 1, 0, none⟩)], v5, undef, undef, .pointer (some ⟨b, 0, none⟩), .func (.func 54) #[.pointer (some ⟨b, 0, none⟩)] #[], .func (.func 55) #[] #[.pointer (some ⟨w.heap.size + 1, 0, none⟩)], .func (.func 55) #[] #[.pointer (some ⟨w.heap.size + 1, 0, none⟩)], undef, .func (.func 54) #[.pointer (some ⟨b, 0, none⟩)] #[], undef, .func (.func 54) #[.pointer (some ⟨b, 0, none⟩)] #[], undef, .func (.func 54) #[.pointer (some ⟨b, 0, none⟩)] #[], undef, .func (.func 54) #[.pointer (some ⟨b, 0, none⟩)] #[], undef, .func (.func 54) #[.pointer (some ⟨b, 0, none⟩)] #[], undef, .func (.func 54) #[.pointer (some ⟨b, 0, none⟩)] #[], undef, .func (.func 55) #[] #[.pointer (some ⟨w.heap.size + 1, 0, none⟩)], undef, .func (.func 55) #[] #[.pointer (some ⟨w.heap.size + 1, 0, none⟩)], undef, undef, undef, undef, undef, undef, undef, undef, undef, undef, undef, undef, undef, undef, undef, undef, undef, undef, undef, undef, undef, undef, undef, undef, undef, undef, undef, undef, undef, undef, undef, undef, undef, undef, undef], defers := [] } := rfl
       rw [hact]
       refine wpOp_of (i := 1) (by rfl) (by rfl) ?_
       go_simp
       refine (K0.out _ _ st.rd st.fn).mono ?_
       rintro _ u2 ⟨rfl, hr, hb⟩
       refine ⟨⟨v5, rfl, fun h => ?_⟩, st.next hbw hr hb, fun _ => by decide⟩
       obtain ⟨c, h1, h2, h3⟩ := hd h
       exact ⟨c, h1, h2, (hb.block c (heap_lt h3) (fun h => by have := Option.some.inj h; omega)).trans h3⟩
     | 1, _, _, hd, st, _ =>
       have hact : getAct b w.heap.size (fun j => [.int .i64 vk, .int .u64 vt, .int .u64 vi, .int .u64 vc, .int .u64 vs, .int .u64 vb, .int .u64 vm, .int .i64 vn, .int .i64 vl, .agg #[.int .u64 vt, .int .u64 vi, .int .i64 vk, .int .u64 vc, .int .u64 vs, .int .u64 vb, .int .u64 vm, .int .i64 vn, .int .i64 vl, .string ⟨#[]⟩, .string ⟨#[]⟩]].getD j undef) 1 v5 = { tmps := #[.pointer (some ⟨b, 0, none⟩), undef, .pointer (some ⟨w.heap.size, 0, none⟩), .pointer (some ⟨w.heap.size + 1, 0, none⟩), .func (.func 55) #[] #[.pointer (some ⟨w.heap.size + 1, 0, none⟩)], v5, undef, undef, .pointer (some ⟨b, 0, none⟩), .func (.func 54) #[.pointer (some ⟨b, 0, none⟩)] #[], .func (.func 55) #[] #[.pointer (some ⟨w.heap.size + 1, 0, none⟩)], .func (.func 55) #[] #[.pointer (some ⟨w.heap.size + 1, 0, none⟩)], Value.int .i64 vk, .func (.func 54) #[.pointer (some ⟨b, 0, none⟩)] #[], undef, .func (.func 54) #[.pointer (some ⟨b, 0, none⟩)] #[], undef, .func (.func 54) #[.pointer (some ⟨b, 0, none⟩)] #[], undef, .func (.func 54) #[.pointer (some ⟨b, 0, none⟩)] #[], undef, .func (.func 54) #[.pointer (some ⟨b, 0, none⟩)] #[], undef, .func (.func 54) #[.pointer (some ⟨b, 0, none⟩)] #[], undef, .func (.func 55) #[] #[.pointer (some ⟨w.heap.size + 1, 0, none⟩)], undef, .func (.func 55) #[] #[.pointer (some ⟨w.heap.size + 1, 0, none⟩)], undef, undef, undef, undef, undef, undef, undef, undef, undef, undef, undef, undef, undef, undef, undef, undef, undef, undef, undef, undef, undef, undef, undef, undef, undef, undef, undef, undef, undef, undef, undef, undef, undef, undef, undef], defers := [] } := rfl
       rw [hact]
       refine wpOp_of (i := 3) (by rfl) (by rfl) ?_
       go_simp
       refine (K1.out _ st.rd).mono ?_
       rintro _ u2 ⟨rfl, hr, hb⟩
       refine ⟨⟨v5, rfl, fun h => ?_⟩, st.next hbw hr hb, fun _ => by decide⟩
       obtain ⟨c, h1, h2, h3⟩ := hd h
       exact ⟨c, h1, h2, (hb.block c (heap_lt h3) (fun h => by have := Option.some.inj h; omega)).trans h3⟩
     | 2, _, _, hd, st, _ =>
       have hact : getAct b w.heap.size (fun j => [.int .i64 vk, .int .u64 vt, .int .u64 vi, .int .u64 vc, .int .u64 vs, .int .u64 vb, .int .u64 vm, .int .i64 vn, .int .i64 vl, .agg #[.int .u64 vt, .int .u64 vi, .int .i64 vk, .int .u64 vc, .int .u64 vs, .int .u64 vb, .int .u64 vm, .int .i64 vn, .int .i64 vl, .string ⟨#[]⟩, .string ⟨#[]⟩]].getD j undef) 2 v5 = { tmps := #[.pointer (some ⟨b, 0, none⟩), undef, .pointer (some ⟨w.heap.size, 0, none⟩), .pointer (some ⟨w.heap.size + 1, 0, none⟩), .func (.func 55) #[] #[.pointer (some ⟨w.heap.size + 1, 0, none⟩)], v5, undef, undef, .pointer (some ⟨b, 0, none⟩), .func (.func 54) #[.pointer (some ⟨b, 0, none⟩)] #[], .func (.func 55) #[] #[.pointer (some ⟨w.heap.size + 1, 0, none⟩)], .func (.func 55) #[] #[.pointer (some ⟨w.heap.size + 1, 0, none⟩)], Value.int .i64 vk, .func (.func 54) #[.pointer (some ⟨b, 0, none⟩)] #[], Value.int .u64 vt, .func (.func 54) #[.pointer (some ⟨b, 0, none⟩)] #[], undef, .func (.func 54) #[.pointer (some ⟨b, 0, none⟩)] #[], undef, .func (.func 54) #[.pointer (some ⟨b, 0, none⟩)] #[], undef, .func (.func 54) #[.pointer (some ⟨b, 0, none⟩)] #[], undef, .func (.func 54) #[.pointer (some ⟨b, 0, none⟩)] #[], undef, .func (.func 55) #[] #[.pointer (some ⟨w.heap.size + 1, 0, none⟩)], undef, .func (.func 55) #[] #[.pointer (some ⟨w.heap.size + 1, 0, none⟩)], undef, undef, undef, undef, undef, undef, undef, undef, undef, undef, undef, undef, undef, undef, undef, undef, undef, undef, undef, undef, undef, undef, undef, undef, undef, undef, undef, undef, undef, undef, undef, undef, undef, undef, undef], defers := [] } := rfl
       rw [hact]
       refine wpOp_of (i := 5) (by rfl) (by rfl) ?_
       go_simp
       refine (K2.out _ st.rd).mono ?_
       rintro _ u2 ⟨rfl, hr, hb⟩
       refine ⟨⟨v5, rfl, fun h => ?_⟩, st.next hbw hr hb, fun _ => by decide⟩
       obtain ⟨c, h1, h2, h3⟩ := hd h
       exact ⟨c, h1, h2, (hb.block c (heap_lt h3) (fun h => by have := Option.some.inj h; omega)).trans h3⟩
     | 3, _, _, hd, st, _ =>
       have hact : getAct b w.heap.size (fun j => [.int .i64 vk, .int .u64 vt, .int .u64 vi, .int .u64 vc, .int .u64 vs, .int .u64 vb, .int .u64 vm, .int .i64 vn, .int .i64 vl, .agg #[.int .u64 vt, .int .u64 vi, .int .i64 vk, .int .u64 vc, .int .u64 vs, .int .u64 vb, .int .u64 vm, .int .i64 vn, .int .i64 vl, .string ⟨#[]⟩, .string ⟨#[]⟩]].getD j undef) 3 v5 = { tmps := #[.pointer (some ⟨b, 0, none⟩), undef, .pointer (some ⟨w.heap.size, 0, none⟩), .pointer (some ⟨w.heap.size + 1, 0, none⟩), .func (.func 55) #[] #[.pointer (some ⟨w.heap.size + 1, 0, none⟩)], v5, undef, undef, .pointer (some ⟨b, 0, none⟩), .func (.func 54) #[.pointer (some ⟨b, 0, none⟩)] #[], .func (.func 55) #[] #[.pointer (some ⟨w.heap.size + 1, 0, none⟩)], .func (.func 55) #[] #[.pointer (some ⟨w.heap.size + 1, 0, none⟩)], Value.int .i64 vk, .func (.func 54) #[.pointer (some ⟨b, 0, none⟩)] #[], Value.int .u64 vt, .func (.func 54) #[.pointer (some ⟨b, 0, none⟩)] #[], Value.int .u64 vi, .func (.func 54) #[.pointer (some ⟨b, 0, none⟩)] #[], undef, .func (.func 54) #[.pointer (some ⟨b, 0, none⟩)] #[], undef, .func (.func 54) #[.pointer (some ⟨b, 0, none⟩)] #[], undef, .func (.func 54) #[.pointer (some ⟨b, 0, none⟩)] #[], undef, .func (.func 55) #[] #[.pointer (some ⟨w.heap.size + 1, 0, none⟩)], undef, .func (.func 55) #[] #[.pointer (some ⟨w.heap.size + 1, 0, none⟩)], undef, undef, undef, undef, undef, undef, undef, undef, undef, undef, undef, undef, undef, undef, undef, undef, undef, undef, undef, undef, undef, undef, undef, undef, undef, undef, undef, undef, undef, undef, undef, undef, undef, undef, undef], defers := [] } := rfl
       rw [hact]
       refine wpOp_of (i := 7) (by rfl) (by rfl) ?_
       go_simp
       refine (K3.out _ st.rd).mono ?_
       rintro _ u2 ⟨rfl, hr, hb⟩
       refine ⟨⟨v5, rfl, fun h => ?_⟩, st.next hbw hr hb, fun _ => by decide⟩
       obtain ⟨c, h1, h2, h3⟩ := hd h
       exact ⟨c, h1, h2, (hb.block c (heap_lt h3) (fun h => by have := Option.some.inj h; omega)).trans h3⟩
     | 4, _, _, hd, st, _ =>
       have hact : getAct b w.heap.size (fun j => [.int .i64 vk, .int .u64 vt, .int .u64 vi, .int .u64 vc, .int .u64 vs, .int .u64 vb, .int .u64 vm, .int .i64 vn, .int .i64 vl, .agg #[.int .u64 vt, .int .u64 vi, .int .i64 vk, .int .u64 vc, .int .u64 vs, .int .u64 vb, .int .u64 vm, .int .i64 vn, .int .i64 vl, .string ⟨#[]⟩, .string ⟨#[]⟩]].getD j undef) 4 v5 = { tmps := #[.pointer (some ⟨b, 0, none⟩), undef, .pointer (some ⟨w.heap.size, 0, none⟩), .pointer (some ⟨w.heap.size + 1, 0, none⟩), .func (.func 55) #[] #[.pointer (some ⟨w.heap.size + 1, 0, none⟩)], v5, undef, undef, .pointer (some ⟨b, 0, none⟩), .func (.func 54) #[.pointer (some ⟨b, 0, none⟩)] #[], .func (.func 55) #[] #[.pointer (some ⟨w.heap.size + 1, 0, none⟩)], .func (.func 55) #[] #[.pointer (some ⟨w.heap.size + 1, 0, none⟩)], Value.int .i64 vk, .func (.func 54) #[.pointer (some ⟨b, 0, none⟩)] #[], Value.int .u64 vt, .func (.func 54) #[.pointer (some ⟨b, 0, none⟩)] #[], Value.int .u64 vi, .func (.func 54) #[.pointer (some ⟨b, 0, none⟩)] #[], Value.int .u64 vc, .func (.func 54) #[.pointer (some ⟨b, 0, none⟩)] #[], undef, .func (.func 54) #[.pointer (some ⟨b, 0, none⟩)] #[], undef, .func (.func 54) #[.pointer (some ⟨b, 0, none⟩)] #[], undef, .func (.func 55) #[] #[.pointer (some ⟨w.heap.size + 1, 0, none⟩)], undef, .func (.func 55) #[] #[.pointer (some ⟨w.heap.size + 1, 0, none⟩)], undef, undef, undef, undef, undef, undef, undef, undef, undef, undef, undef, undef, undef, undef, undef, undef, undef, undef, undef, undef, undef, undef, undef, undef, undef, undef, undef, undef, undef, undef, undef, undef, undef, undef, undef], defers := [] } := rfl
       rw [hact]
       refine wpOp_of (i := 9) (by rfl) (by rfl) ?_
       go_simp
       refine (K4.out _ st.rd).mono ?_
       rintro _ u2 ⟨rfl, hr, hb⟩
       refine ⟨⟨v5, rfl, fun h => ?_⟩, st.next hbw hr hb, fun _ => by decide⟩
       obtain ⟨c, h1, h2, h3⟩ := hd h
       exact ⟨c, h1, h2, (hb.block c (heap_lt h3) (fun h => by have := Option.some.inj h; omega)).trans h3⟩
     | 5, _, _, hd, st, _ =>
       have hact : getAct b w.heap.size (fun j => [.int .i64 vk, .int .u64 vt, .int .u64 vi, .int .u64 vc, .int .u64 vs, .int .u64 vb, .int .u64 vm, .int .i64 vn, .int .i64 vl, .agg #[.int .u64 vt, .int .u64 vi, .int .i64 vk, .int .u64 vc, .int .u64 vs, .int .u64 vb, .int .u64 vm, .int .i64 vn, .int .i64 vl, .string ⟨#[]⟩, .string ⟨#[]⟩]].getD j undef) 5 v5 = { tmps := #[.pointer (some ⟨b, 0, none⟩), undef, .pointer (some ⟨w.heap.size, 0, none⟩), .pointer (some ⟨w.heap.size + 1, 0, none⟩), .func (.func 55) #[] #[.pointer (some ⟨w.heap.size + 1, 0, none⟩)], v5, undef, undef, .pointer (some ⟨b, 0, none⟩), .func (.func 54) #[.pointer (some ⟨b, 0, none⟩)] #[], .func (.func 55) #[] #[.pointer (some ⟨w.heap.size + 1, 0, none⟩)], .func (.func 55) #[] #[.pointer (some ⟨w.heap.size + 1, 0, none⟩)], Value.int .i64 vk, .func (.func 54) #[.pointer (some ⟨b, 0, none⟩)] #[], Value.int .u64 vt, .func (.func 54) #[.pointer (some ⟨b, 0, none⟩)] #[], Value.int .u64 vi, .func (.func 54) #[.pointer (some ⟨b, 0, none⟩)] #[], Value.int .u64 vc, .func (.func 54) #[.pointer (some ⟨b, 0, none⟩)] #[], Value.int .u64 vs, .func (.func 54) #[.pointer (some ⟨b, 0, none⟩)] #[], undef, .func (.func 54) #[.pointer (some ⟨b, 0, none⟩)] #[], undef, .func (.func 55) #[] #[.pointer (some ⟨w.heap.size + 1, 0, none⟩)], undef, .func (.func 55) #[] #[.pointer (some ⟨w.heap.size + 1, 0, none⟩)], undef, undef, undef, undef, undef, undef, undef, undef, undef, undef, undef, undef, undef, undef, undef, undef, undef, undef, undef, undef, undef, undef, undef, undef, undef, undef, undef, undef, undef, undef, undef, undef, undef, undef, undef], defers := [] } := rfl
       rw [hact]
       refine wpOp_of (i := 11) (by rfl) (by rfl) ?_
       go_simp
       refine (K5.out _ st.rd).mono ?_
       rintro _ u2 ⟨rfl, hr, hb⟩
       refine ⟨⟨v5, rfl, fun h => ?_⟩, st.next hbw hr hb, fun _ => by decide⟩
       obtain ⟨c, h1, h2, h3⟩ := hd h
       exact ⟨c, h1, h2, (hb.block c (heap_lt h3) (fun h => by have := Option.some.inj h; omega)).trans h3⟩
     | 6, _, _, hd, st, _ =>
       have hact : getAct b w.heap.size (fun j => [.int .i64 vk, .int .u64 vt, .int .u64 vi, .int .u64 vc, .int .u64 vs, .int .u64 vb, .int .u64 vm, .int .i64 vn, .int .i64 vl, .agg #[.int .u64 vt, .int .u64 vi, .int .i64 vk, .int .u64 vc, .int .u64 vs, .int .u64 vb, .int .u64 vm, .int .i64 vn, .int .i64 vl, .string ⟨#[]⟩, .string ⟨#[]⟩]].getD j undef) 6 v5 = { tmps := #[.pointer (some ⟨b, 0, none⟩), undef, .pointer (some ⟨w.heap.size, 0, none⟩), .pointer (some ⟨w.heap.size + 1, 0, none⟩), .func (.func 55) #[] #[.pointer (some ⟨w.heap.size + 1, 0, none⟩)], v5, undef, undef, .pointer (some ⟨b, 0, none⟩), .func (.func 54) #[.pointer (some ⟨b, 0, none⟩)] #[], .func (.func 55) #[] #[.pointer (some ⟨w.heap.size + 1, 0, none⟩)], .func (.func 55) #[] #[.pointer (some ⟨w.heap.size + 1, 0, none⟩)], Value.int .i64 vk, .func (.func 54) #[.pointer (some ⟨b, 0, none⟩)] #[], Value.int .u64 vt, .func (.func 54) #[.pointer (some ⟨b, 0, none⟩)] #[], Value.int .u64 vi, .func (.func 54) #[.pointer (some ⟨b, 0, none⟩)] #[], Value.int .u64 vc, .func (.func 54) #[.pointer (some ⟨b, 0, none⟩)] #[], Value.int .u64 vs, .func (.func 54) #[.pointer (some ⟨b, 0, none⟩)] #[], Value.int .u64 vb, .func (.func 54) #[.pointer (some ⟨b, 0, none⟩)] #[], undef, .func (.func 55) #[] #[.pointer (some ⟨w.heap.size + 1, 0, none⟩)], undef, .func (.func 55) #[] #[.pointer (some ⟨w.heap.size + 1, 0, none⟩)], undef, undef, undef, undef, undef, undef, undef, undef, undef, undef, undef, undef, undef, undef, undef, undef, undef, undef, undef, undef, undef, undef, undef, undef, undef, undef, undef, undef, undef, undef, undef, undef, undef, undef, undef], defers := [] } := rfl
       rw [hact]
       refine wpOp_of (i := 13) (by rfl) (by rfl) ?_
       go_simp
       refine (K6.out _ st.rd).mono ?_
       rintro _ u2 ⟨rfl, hr, hb⟩
       refine ⟨⟨v5, rfl, fun h => ?_⟩, st.next hbw hr hb, fun _ => by decide⟩
       obtain ⟨c, h1, h2, h3⟩ := hd h
       exact ⟨c, h1, h2, (hb.block c (heap_lt h3) (fun h => by have := Option.some.inj h; omega)).trans h3⟩
     | 7, _, _, hd, st, _ =>
       have hact : getAct b w.heap.size (fun j => [.int .i64 vk, .int .u64 vt, .int .u64 vi, .int .u64 vc, .int .u64 vs, .int .u64 vb, .int .u64 vm, .int .i64 vn, .int .i64 vl, .agg #[.int .u64 vt, .int .u64 vi, .int .i64 vk, .int .u64 vc, .int .u64 vs, .int .u64 vb, .int .u64 vm, .int .i64 vn, .int .i64 vl, .string ⟨#[]⟩, .string ⟨#[]⟩]].getD j undef) 7 v5 = { tmps := #[.pointer (some ⟨b, 0, none⟩), undef, .pointer (some ⟨w.heap.size, 0, none⟩), .pointer (some ⟨w.heap.size + 1, 0, none⟩), .func (.func 55) #[] #[.pointer (some ⟨w.heap.size + 1, 0, none⟩)], v5, undef, undef, .pointer (some ⟨b, 0, none⟩), .func (.func 54) #[.pointer (some ⟨b, 0, none⟩)] #[], .func (.func 55) #[] #[.pointer (some ⟨w.heap.size + 1, 0, none⟩)], .func (.func 55) #[] #[.pointer (some ⟨w.heap.size + 1, 0, none⟩)], Value.int .i64 vk, .func (.func 54) #[.pointer (some ⟨b, 0, none⟩)] #[], Value.int .u64 vt, .func (.func 54) #[.pointer (some ⟨b, 0, none⟩)] #[], Value.int .u64 vi, .func (.func 54) #[.pointer (some ⟨b, 0, none⟩)] #[], Value.int .u64 vc, .func (.func 54) #[.pointer (some ⟨b, 0, none⟩)] #[], Value.int .u64 vs, .func (.func 54) #[.pointer (some ⟨b, 0, none⟩)] #[], Value.int .u64 vb, .func (.func 54) #[.pointer (some ⟨b, 0, none⟩)] #[], Value.int .u64 vm, .func (.func 55) #[] #[.pointer (some ⟨w.heap.size + 1, 0, none⟩)], undef, .func (.func 55) #[] #[.pointer (some ⟨w.heap.size + 1, 0, none⟩)], undef, undef, undef, undef, undef, undef, undef, undef, undef, undef, undef, undef, undef, undef, undef, undef, undef, undef, undef, undef, undef, undef, undef, undef, undef, undef, undef, undef, undef, undef, undef, undef, undef, undef, undef], defers := [] } := rfl
       rw [hact]
       refine wpOp_of (i := 15) (by rfl) (by rfl) ?_
       go_simp
       refine (K7.out _ _ st.rd st.fn).mono ?_
       rintro _ u2 ⟨rfl, hr, hb⟩
       refine ⟨⟨v5, rfl, fun h => ?_⟩, st.next hbw hr hb, fun _ => by decide⟩
       obtain ⟨c, h1, h2, h3⟩ := hd h
       exact ⟨c, h1, h2, (hb.block c (heap_lt h3) (fun h => by have := Option.some.inj h; omega)).trans h3⟩
     | 8, _, _, hd, st, _ =>
       have hact : getAct b w.heap.size (fun j => [.int .i64 vk, .int .u64 vt, .int .u64 vi, .int .u64 vc, .int .u64 vs, .int .u64 vb, .int .u64 vm, .int .i64 vn, .int .i64 vl, .agg #[.int .u64 vt, .int .u64 vi, .int .i64 vk, .int .u64 vc, .int .u64 vs, .int .u64 vb, .int .u64 vm, .int .i64 vn, .int .i64 vl, .string ⟨#[]⟩, .string ⟨#[]⟩]].getD j undef) 8 v5 = { tmps := #[.pointer (some ⟨b, 0, none⟩), undef, .pointer (some ⟨w.heap.size, 0, none⟩), .pointer (some ⟨w.heap.size + 1, 0, none⟩), .func (.func 55) #[] #[.pointer (some ⟨w.heap.size + 1, 0, none⟩)], v5, undef, undef, .pointer (some ⟨b, 0, none⟩), .func (.func 54) #[.pointer (some ⟨b, 0, none⟩)] #[], .func (.func 55) #[] #[.pointer (some ⟨w.heap.size + 1, 0, none⟩)], .func (.func 55) #[] #[.pointer (some ⟨w.heap.size + 1, 0, none⟩)], Value.int .i64 vk, .func (.func 54) #[.pointer (some ⟨b, 0, none⟩)] #[], Value.int .u64 vt, .func (.func 54) #[.pointer (some ⟨b, 0, none⟩)] #[], Value.int .u64 vi, .func (.func 54) #[.pointer (some ⟨b, 0, none⟩)] #[], Value.int .u64 vc, .func (.func 54) #[.pointer (some ⟨b, 0, none⟩)] #[], Value.int .u64 vs, .func (.func 54) #[.pointer (some ⟨b, 0, none⟩)] #[], Value.int .u64 vb, .func (.func 54) #[.pointer (some ⟨b, 0, none⟩)] #[], Value.int .u64 vm, .func (.func 55) #[] #[.pointer (some ⟨w.heap.size + 1, 0, none⟩)], Value.int .i64 vn, .func (.func 55) #[] #[.pointer (some ⟨w.heap.size + 1, 0, none⟩)], undef, undef, undef, undef, undef, undef, undef, undef, undef, undef, undef, undef, undef, undef, undef, undef, undef, undef, undef, undef, undef, undef, undef, undef, undef, undef, undef, undef, undef, undef, undef, undef, undef, undef, undef], defers := [] } := rfl
       rw [hact]
       refine wpOp_of (i := 17) (by rfl) (by rfl) ?_
       go_simp
       refine (K8.out _ _ st.rd st.fn).mono ?_
       rintro _ u2 ⟨rfl, hr, hb⟩
       refine ⟨⟨v5, rfl, fun h => ?_⟩, st.next hbw hr hb, fun _ => by decide⟩
       obtain ⟨c, h1, h2, h3⟩ := hd h
       exact ⟨c, h1, h2, (hb.block c (heap_lt h3) (fun h => by have := Option.some.inj h; omega)).trans h3⟩
     | 9, _, _, hd, st, _ =>
       have hact : getAct b w.heap.size (fun j => [.int .i64 vk, .int .u64 vt, .int .u64 vi, .int .u64 vc, .int .u64 vs, .int .u64 vb, .int .u64 vm, .int .i64 vn, .int .i64 vl, .agg #[.int .u64 vt, .int .u64 vi, .int .i64 vk, .int .u64 vc, .int .u64 vs, .int .u64 vb, .int .u64 vm, .int .i64 vn, .int .i64 vl, .string ⟨#[]⟩, .string ⟨#[]⟩]].getD j undef) 9 v5 = { tmps := #[.pointer (some ⟨b, 0, none⟩), undef, .pointer (some ⟨w.heap.size, 0, none⟩), .pointer (some ⟨w.heap.size + 1, 0, none⟩), .func (.func 55) #[] #[.pointer (some ⟨w.heap.size + 1, 0, none⟩)], v5, undef, undef, .pointer (some ⟨b, 0, none⟩), .func (.func 54) #[.pointer (some ⟨b, 0, none⟩)] #[], .func (.func 55) #[] #[.pointer (some ⟨w.heap.size + 1, 0, none⟩)], .func (.func 55) #[] #[.pointer (some ⟨w.heap.size + 1, 0, none⟩)], Value.int .i64 vk, .func (.func 54) #[.pointer (some ⟨b, 0, none⟩)] #[], Value.int .u64 vt, .func (.func 54) #[.pointer (some ⟨b, 0, none⟩)] #[], Value.int .u64 vi, .func (.func 54) #[.pointer (some ⟨b, 0, none⟩)] #[], Value.int .u64 vc, .func (.func 54) #[.pointer (some ⟨b, 0, none⟩)] #[], Value.int .u64 vs, .func (.func 54) #[.pointer (some ⟨b, 0, none⟩)] #[], Value.int .u64 vb, .func (.func 54) #[.pointer (some ⟨b, 0, none⟩)] #[], Value.int .u64 vm, .func (.func 55) #[] #[.pointer (some ⟨w.heap.size + 1, 0, none⟩)], Value.int .i64 vn, .func (.func 55) #[] #[.pointer (some ⟨w.heap.size + 1, 0, none⟩)], Value.int .i64 vl, undef, undef, undef, undef, undef, undef, undef, undef, undef, undef, undef, undef, undef, undef, undef, undef, undef, undef, undef, undef, undef, undef, undef, undef, undef, undef, undef, undef, undef, undef, undef, undef, undef, undef], defers := [] } := rfl
       rw [hact]
       refine wpOp_of (i := 18) (by rfl) (by rfl) ?_
       go_simp
       exact ⟨⟨v5, rfl, fun h => hd h⟩, st, fun _ => by decide⟩
     | 10, _, _, hd, st, hready =>
       have hact : getAct b w.heap.size (fun j => [.int .i64 vk, .int .u64 vt, .int .u64 vi, .int .u64 vc, .int .u64 vs, .int .u64 vb, .int .u64 vm, .int .i64 vn, .int .i64 vl, .agg #[.int .u64 vt, .int .u64 vi, .int .i64 vk, .int .u64 vc, .int .u64 vs, .int .u64 vb, .int .u64 vm, .int .i64 vn, .int .i64 vl, .string ⟨#[]⟩, .string ⟨#[]⟩]].getD j undef) 10 v5 = { tmps := #[.pointer (some ⟨b, 0, none⟩), undef, .pointer (some ⟨w.heap.size, 0, none⟩), .pointer (some ⟨w.heap.size + 1, 0, none⟩), .func (.func 55) #[] #[.pointer (some ⟨w.heap.size + 1, 0, none⟩)], v5, undef, undef, .pointer (some ⟨b, 0, none⟩), .func (.func 54) #[.pointer (some ⟨b, 0, none⟩)] #[], .func (.func 55) #[] #[.pointer (some ⟨w.heap.size + 1, 0, none⟩)], .func (.func 55) #[] #[.pointer (some ⟨w.heap.size + 1, 0, none⟩)], Value.int .i64 vk, .func (.func 54) #[.pointer (some ⟨b, 0, none⟩)] #[], Value.int .u64 vt, .func (.func 54) #[.pointer (some ⟨b, 0, none⟩)] #[], Value.int .u64 vi, .func (.func 54) #[.pointer (some ⟨b, 0, none⟩)] #[], Value.int .u64 vc, .func (.func 54) #[.pointer (some ⟨b, 0, none⟩)] #[], Value.int .u64 vs, .func (.func 54) #[.pointer (some ⟨b, 0, none⟩)] #[], Value.int .u64 vb, .func (.func 54) #[.pointer (some ⟨b, 0, none⟩)] #[], Value.int .u64 vm, .func (.func 55) #[] #[.pointer (some ⟨w.heap.size + 1, 0, none⟩)], Value.int .i64 vn, .func (.func 55) #[] #[.pointer (some ⟨w.heap.size + 1, 0, none⟩)], Value.int .i64 vl, .agg #[.int .u64 vt, .int .u64 vi, .int .i64 vk, .int .u64 vc, .int .u64 vs, .int .u64 vb, .int .u64 vm, .int .i64 vn, .int .i64 vl, .string ⟨#[]⟩, .string ⟨#[]⟩], undef, undef, undef, undef, undef, undef, undef, undef, undef, undef, undef, undef, undef, undef, undef, undef, undef, undef, undef, undef, undef, undef, undef, undef, undef, undef, undef, undef, undef, undef, undef, undef, undef], defers := [] } := rfl
       rw [hact]
       cases d with
       | false => exact absurd hready (of_decide_eq_false (by kernel_rfl))
       | true =>
         obtain ⟨c, rfl, h2, h3⟩ := hd rfl
         refine wpOp_of (i := 20) (by rfl) (by rfl) ?_
         have h3 : u.heap[c]? = some (.cells Ent.zero.cells EntT (0, 0)) := h3
         have z0 : u.cell? ⟨c, 0, none⟩ = some (.int .u64 0) := Lib.cell_of_heap h3 0
         have z1 : u.cell? ⟨c, 1, none⟩ = some (.int .u64 0) := Lib.cell_of_heap h3 1
         have z2 : u.cell? ⟨c, 2, none⟩ = some (.int .i64 0) := Lib.cell_of_heap h3 2
         have z3 : u.cell? ⟨c, 3, none⟩ = some (.int .u64 0) := Lib.cell_of_heap h3 3
         have z4 : u.cell? ⟨c, 4, none⟩ = some (.int .u64 0) := Lib.cell_of_heap h3 4
         have z5 : u.cell? ⟨c, 5, none⟩ = some (.int .u64 0) := Lib.cell_of_heap h3 5
         have z6 : u.cell? ⟨c, 6, none⟩ = some (.int .u64 0) := Lib.cell_of_heap h3 6
         have z7 : u.cell? ⟨c, 7, none⟩ = some (.int .i64 0) := Lib.cell_of_heap h3 7
         have z8 : u.cell? ⟨c, 8, none⟩ = some (.int .i64 0) := Lib.cell_of_heap h3 8
         have z9 : u.cell? ⟨c, 9, none⟩ = some (.string ⟨#[]⟩) := Lib.cell_of_heap h3 9
         have z10 : u.cell? ⟨c, 10, none⟩ = some (.string ⟨#[]⟩) := Lib.cell_of_heap h3 10
         have fz : ∀ o, u.frozen? ⟨c, o, none⟩ = false := fun o => Lib.frozen_of_heap h3 o
         have st9 : GetSt b w.heap.size w u r9 := st
         go_simp
         refine ⟨⟨.pointer (some ⟨c, 0, none⟩), rfl, fun _ => ⟨c, rfl, h2, ?_⟩⟩, ?_, fun h => by cases h⟩
         · simp [World.setCell, Array.getElem?_modify, h3, Ent.cells, Ent.zero]
         · show GetSt b w.heap.size w _ r9
           repeat' (first | with_reducible exact st9 | with_reducible exact hbw | with_reducible exact Nat.le_refl _ | with_reducible exact h2 | with_reducible refine GetSt.set ?_ ?_ ?_ ?_)
     | k + 11, h, _, _, _, _ => exact absurd h (by omega)
   case halloc =>
     intro k hk a u hi
     obtain ⟨⟨v5, rfl, _⟩, st, hlt⟩ := hi
     refine wpOp_of (i := 19) (by rfl) (by rfl) ?_
     have hk11 := hlt rfl
     go_simp
     refine ⟨⟨.pointer (some ⟨u.heap.size, 0, none⟩), rfl, fun _ => ⟨u.heap.size, rfl, st.size, ?_⟩⟩, st.alloc _, fun h => by cases h⟩
     rw [if_pos hk11]
     exact heap_alloc_new u _
   case hend =>
     intro a u hi
     obtain ⟨⟨v5, rfl, hd⟩, st, _⟩ := hi
     obtain ⟨c, rfl, h2, h3⟩ := hd rfl
     refine NoPanic.normal ?_
     go_wp2_with fail
     go_meet
     exact ⟨c, rfl, h2, h3, st⟩
  case rest =>
  obtain ⟨c, rfl, hc, he, hst⟩ := hcut
  have ST := Lib.hid hst
  have hfn := hst.fn
  have HE := Lib.hid he
  clear hst he
  go_wp2_with fail
  refine (K9.out _ _ ST.out.rd ST.out.fn).mono ?_
  rintro x w1 ⟨rfl, hr, hb⟩
  have HE1 := Lib.hid ((hb.block c (heap_lt HE.out) (fun h => by have := Option.some.inj h; omega)).trans HE.out)
  have ST1 := Lib.hid (ST.out.next hbw hr hb)
  clear hr hb hfn ST HE
  go_wp2_with fail
  refine (K10.out _ ST1.out.rd).mono ?_
  rintro x w2 ⟨rfl, hr, hb⟩
  have HE2 := Lib.hid ((hb.block c (heap_lt HE1.out) (fun h => by have := Option.some.inj h; omega)).trans HE1.out)
  have ST2 := Lib.hid (ST1.out.next hbw hr hb)
  clear hr hb ST1 HE1
  go_wp2_with fail
  refine (ok_any b r11 w2 ST2.out.rd).mono ?_
  rintro x w2' ⟨rfl, rfl⟩
  obtain ⟨u, bad⟩ := r11
  cases bad
  case true =>
    have HQ := Lib.hid (HGET.out.trans (if_pos rfl))
    have z0 : w2'.cell? ⟨w.heap.size, 0, none⟩ = some (.int .u64 0) := Lib.cell_of_heap ST2.out.zero 0
    have z1 : w2'.cell? ⟨w.heap.size, 1, none⟩ = some (.int .u64 0) := Lib.cell_of_heap ST2.out.zero 1
    have z2 : w2'.cell? ⟨w.heap.size, 2, none⟩ = some (.int .i64 0) := Lib.cell_of_heap ST2.out.zero 2
    have z3 : w2'.cell? ⟨w.heap.size, 3, none⟩ = some (.int .u64 0) := Lib.cell_of_heap ST2.out.zero 3
    have z4 : w2'.cell? ⟨w.heap.size, 4, none⟩ = some (.int .u64 0) := Lib.cell_of_heap ST2.out.zero 4
    have z5 : w2'.cell? ⟨w.heap.size, 5, none⟩ = some (.int .u64 0) := Lib.cell_of_heap ST2.out.zero 5
    have z6 : w2'.cell? ⟨w.heap.size, 6, none⟩ = some (.int .u64 0) := Lib.cell_of_heap ST2.out.zero 6
    have z7 : w2'.cell? ⟨w.heap.size, 7, none⟩ = some (.int .i64 0) := Lib.cell_of_heap ST2.out.zero 7
    have z8 : w2'.cell? ⟨w.heap.size, 8, none⟩ = some (.int .i64 0) := Lib.cell_of_heap ST2.out.zero 8
    have z9 : w2'.cell? ⟨w.heap.size, 9, none⟩ = some (.string ⟨#[]⟩) := Lib.cell_of_heap ST2.out.zero 9
    have z10 : w2'.cell? ⟨w.heap.size, 10, none⟩ = some (.string ⟨#[]⟩) := Lib.cell_of_heap ST2.out.zero 10
    have fz : ∀ o, w2'.frozen? ⟨w.heap.size, o, none⟩ = false := fun o => Lib.frozen_of_heap ST2.out.zero o
    go_wp2_with fail
    have hz := ST2.out.zero
    refine bodyPost_ret (results_cell_row rfl _ _ w.heap.size EntT Ent.zero.cells (0, 0) _ rfl ?_ Tryz.underlying32 rfl (by kernel_rfl)) rfl ?_
    · simp [World.setCell, Array.getElem?_modify, hz, Ent.cells, Ent.zero]
    · rw [HQ.out]
      refine ⟨rfl, ?_, ?_⟩
      · repeat' (first | with_reducible exact ST2.out.rd | with_reducible exact Nat.ne_of_lt hbw | with_reducible refine fir_rd ?_ ?_)
      · repeat' (first | with_reducible exact ST2.out.but | with_reducible exact Nat.le_refl _ | with_reducible refine fir_set ?_ ?_)
  case false =>
    have HQ0 := Lib.hid (HGET.out.trans (if_neg (by simp)))
    clear HGET
    have c0 : w2'.cell? ⟨c, 0, none⟩ = some (.int .u64 vt) := Lib.cell_of_heap HE2.out 0
    have c1 : w2'.cell? ⟨c, 1, none⟩ = some (.int .u64 vi) := Lib.cell_of_heap HE2.out 1
    have c2 : w2'.cell? ⟨c, 2, none⟩ = some (.int .i64 vk) := Lib.cell_of_heap HE2.out 2
    have c3 : w2'.cell? ⟨c, 3, none⟩ = some (.int .u64 vc) := Lib.cell_of_heap HE2.out 3
    have c4 : w2'.cell? ⟨c, 4, none⟩ = some (.int .u64 vs) := Lib.cell_of_heap HE2.out 4
    have c5 : w2'.cell? ⟨c, 5, none⟩ = some (.int .u64 vb) := Lib.cell_of_heap HE2.out 5
    have c6 : w2'.cell? ⟨c, 6, none⟩ = some (.int .u64 vm) := Lib.cell_of_heap HE2.out 6
    have c7 : w2'.cell? ⟨c, 7, none⟩ = some (.int .i64 vn) := Lib.cell_of_heap HE2.out 7
    have c8 : w2'.cell? ⟨c, 8, none⟩ = some (.int .i64 vl) := Lib.cell_of_heap HE2.out 8
    have c9 : w2'.cell? ⟨c, 9, none⟩ = some (.string ⟨#[]⟩) := Lib.cell_of_heap HE2.out 9
    have c10 : w2'.cell? ⟨c, 10, none⟩ = some (.string ⟨#[]⟩) := Lib.cell_of_heap HE2.out 10
    have cf : ∀ o, w2'.frozen? ⟨c, o, none⟩ = false := fun o => Lib.frozen_of_heap HE2.out o
    have hvl := hd66 rfl
    have hM66 : M ≤ vd.length := by omega
    have hsz : (ByteArray.mk vd.toArray).size = vd.length := rfl
    have hx1 : (⟨vd.toArray⟩ : ByteArray).extract 0 M = ⟨(vd.take M).toArray⟩ := by
      apply ByteArray.ext
      simp [ByteArray.data_extract]
    have hx2 : (⟨vd.toArray⟩ : ByteArray).extract M 66 = ⟨(vd.drop M).toArray⟩ := by
      rw [← hvl]
      apply ByteArray.ext
      simp [ByteArray.data_extract]
      rw [List.take_of_length_le (by simp)]
    go_wp2_with fail
    try rw [hx1]
    have HE3 := Lib.hid (show (w2'.setCell ⟨c, 9, none⟩ (.string ⟨(vd.take M).toArray⟩)).heap[c]? = some (.cells #[.int .u64 vt, .int .u64 vi, .int .i64 vk, .int .u64 vc, .int .u64 vs, .int .u64 vb, .int .u64 vm, .int .i64 vn, .int .i64 vl, .string ⟨(vd.take M).toArray⟩, .string ⟨#[]⟩] EntT (0, 0)) by
      have := HE2.out
      simp [World.setCell, Array.getElem?_modify, this, Ent.cells])
    have ST3 := Lib.hid (ST2.out.set (v := .string ⟨(vd.take M).toArray⟩) (o := 9) hbw (Nat.le_refl _) hc)
    generalize (w2'.setCell ⟨c, 9, none⟩ (.string ⟨(vd.take M).toArray⟩)) = w3 at *
    clear c0 c1 c2 c3 c4 c5 c6 c7 c8 c9 c10 cf ST2 HE2
    cases hg : rightB ⟨vt, vi, vk, vc, vs, vb, vm, vn, vl, ⟨(vd.take M).toArray⟩, ⟨#[]⟩⟩
    · rw [hg] at HRR
      have HQ := Lib.hid (HQ0.out.trans (if_neg (by rw [hg]; simp)))
      clear HQ0 hg
      refine (HRR.out _).mono ?_
      rintro x w4 ⟨rfl, hb4⟩
      have ST4 := Lib.hid (ST3.out.next hbw (ST3.out.rd.keep hb4) (But.of hb4))
      clear hb4
      go_wp2_with fail
      refine (fail_any b (u, false) _ ST4.out.rd).mono ?_
      rintro x wf ⟨rfl, hr, hb⟩
      have STF := Lib.hid (ST4.out.next hbw hr hb)
      clear hr hb
      have z0 : wf.cell? ⟨w.heap.size, 0, none⟩ = some (.int .u64 0) := Lib.cell_of_heap STF.out.zero 0
      have z1 : wf.cell? ⟨w.heap.size, 1, none⟩ = some (.int .u64 0) := Lib.cell_of_heap STF.out.zero 1
      have z2 : wf.cell? ⟨w.heap.size, 2, none⟩ = some (.int .i64 0) := Lib.cell_of_heap STF.out.zero 2
      have z3 : wf.cell? ⟨w.heap.size, 3, none⟩ = some (.int .u64 0) := Lib.cell_of_heap STF.out.zero 3
      have z4 : wf.cell? ⟨w.heap.size, 4, none⟩ = some (.int .u64 0) := Lib.cell_of_heap STF.out.zero 4
      have z5 : wf.cell? ⟨w.heap.size, 5, none⟩ = some (.int .u64 0) := Lib.cell_of_heap STF.out.zero 5
      have z6 : wf.cell? ⟨w.heap.size, 6, none⟩ = some (.int .u64 0) := Lib.cell_of_heap STF.out.zero 6
      have z7 : wf.cell? ⟨w.heap.size, 7, none⟩ = some (.int .i64 0) := Lib.cell_of_heap STF.out.zero 7
      have z8 : wf.cell? ⟨w.heap.size, 8, none⟩ = some (.int .i64 0) := Lib.cell_of_heap STF.out.zero 8
      have z9 : wf.cell? ⟨w.heap.size, 9, none⟩ = some (.string ⟨#[]⟩) := Lib.cell_of_heap STF.out.zero 9
      have z10 : wf.cell? ⟨w.heap.size, 10, none⟩ = some (.string ⟨#[]⟩) := Lib.cell_of_heap STF.out.zero 10
      have fz : ∀ o, wf.frozen? ⟨w.heap.size, o, none⟩ = false := fun o => Lib.frozen_of_heap STF.out.zero o
      go_wp2_with fail
      have hz := STF.out.zero
      refine bodyPost_ret (results_cell_row rfl _ _ w.heap.size EntT Ent.zero.cells (0, 0) _ rfl ?_ Tryz.underlying32 rfl (by kernel_rfl)) rfl ?_
      · simp [World.setCell, Array.getElem?_modify, hz, Ent.cells, Ent.zero]
      · rw [HQ.out]
        refine ⟨rfl, ?_, ?_⟩
        · repeat' (first | with_reducible exact STF.out.rd | with_reducible exact Nat.ne_of_lt hbw | with_reducible refine fir_rd ?_ ?_)
        · repeat' (first | with_reducible exact STF.out.but | with_reducible exact Nat.le_refl _ | with_reducible refine fir_set ?_ ?_)
    · rw [hg] at HRR
      refine (HRR.out _).mono ?_
      rintro x w4 ⟨rfl, hb4⟩
      have ST4 := Lib.hid (ST3.out.next hbw (ST3.out.rd.keep hb4) (But.of hb4))
      have HE4 := Lib.hid ((hb4.block c (heap_lt HE3.out)).trans HE3.out)
      clear hb4 ST3 HE3
      have c0 : w4.cell? ⟨c, 0, none⟩ = some (.int .u64 vt) := Lib.cell_of_heap HE4.out 0
      have c1 : w4.cell? ⟨c, 1, none⟩ = some (.int .u64 vi) := Lib.cell_of_heap HE4.out 1
      have c2 : w4.cell? ⟨c, 2, none⟩ = some (.int .i64 vk) := Lib.cell_of_heap HE4.out 2
      have c3 : w4.cell? ⟨c, 3, none⟩ = some (.int .u64 vc) := Lib.cell_of_heap HE4.out 3
      have c4 : w4.cell? ⟨c, 4, none⟩ = some (.int .u64 vs) := Lib.cell_of_heap HE4.out 4
      have c5 : w4.cell? ⟨c, 5, none⟩ = some (.int .u64 vb) := Lib.cell_of_heap HE4.out 5
      have c6 : w4.cell? ⟨c, 6, none⟩ = some (.int .u64 vm) := Lib.cell_of_heap HE4.out 6
      have c7 : w4.cell? ⟨c, 7, none⟩ = some (.int .i64 vn) := Lib.cell_of_heap HE4.out 7
      have c8 : w4.cell? ⟨c, 8, none⟩ = some (.int .i64 vl) := Lib.cell_of_heap HE4.out 8
      have c9 : w4.cell? ⟨c, 9, none⟩ = some (.string ⟨(vd.take M).toArray⟩) := Lib.cell_of_heap HE4.out 9
      have c10 : w4.cell? ⟨c, 10, none⟩ = some (.string ⟨#[]⟩) := Lib.cell_of_heap HE4.out 10
      go_wp2_with fail
      refine (HLV.out _).mono ?_
      rintro x w5 ⟨rfl, hb5⟩
      have ST5 := Lib.hid (ST4.out.next hbw (ST4.out.rd.keep hb5) (But.of hb5))
      have HE5 := Lib.hid ((hb5.block c (heap_lt HE4.out)).trans HE4.out)
      clear hb5 ST4 HE4 c0 c1 c2 c3 c4 c5 c6 c7 c8 c9 c10
      have hlv : levelI (vk : Int) = 1 ∨ levelI (vk : Int) = 2 := by unfold levelI; split <;> simp
      rcases hlv with hlv | hlv
      · rw [hlv]
        have hdz : (⟨(vd.drop M).toArray⟩ : ByteArray).data.toList = vd.drop M := by simp
        have htr := fun W => Tryz.strings_Trim_one ⟨(vd.drop M).toArray⟩ 0 (by decide) W (by show (vd.drop M).length ≤ _; rw [List.length_drop]; omega)
        rw [hdz] at htr
        have hzb : zeroB (vd.drop M) = (Lib.trimB (vd.drop M) 0).isEmpty := rfl
        have HTR := Lib.hid htr
        have HZB := Lib.hid hzb
        have HHG := Lib.hid hg
        have HLE := Lib.hid hlv
        clear htr hzb hdz hg hlv
        generalize Lib.trimB (vd.drop M) 0 = tr at *
        go_wp2_with fail
        try rw [hx2]
        refine (HTR.out _).mono ?_
        rintro x w6 ⟨rfl, hw6⟩
        have hb56 : But b w5 w6 := by
          rcases hw6 with rfl | rfl
          · exact But.refl _ _
          · exact ⟨rfl, rfl, rfl, Nat.le_refl _, fun _ _ _ => rfl⟩
        have hr56 : RdAt w6 b (u, false) := by
          have := ST5.out.rd
          rcases hw6 with rfl | rfl
          · exact this
          · exact this
        have ST6 := Lib.hid (ST5.out.next hbw hr56 hb56)
        have HE6 := Lib.hid ((hb56.block c (heap_lt HE5.out) (fun h => by have := Option.some.inj h; omega)).trans HE5.out)
        clear hb56 hr56 hw6 ST5 HE5
        cases tr with
        | nil =>
          have HQ := Lib.hid (HQ0.out.trans (if_pos (by rw [HHG.out, HLE.out, HZB.out]; rfl)))
          clear HQ0
          have c0 : w6.cell? ⟨c, 0, none⟩ = some (.int .u64 vt) := Lib.cell_of_heap HE6.out 0
          have c1 : w6.cell? ⟨c, 1, none⟩ = some (.int .u64 vi) := Lib.cell_of_heap HE6.out 1
          have c2 : w6.cell? ⟨c, 2, none⟩ = some (.int .i64 vk) := Lib.cell_of_heap HE6.out 2
          have c3 : w6.cell? ⟨c, 3, none⟩ = some (.int .u64 vc) := Lib.cell_of_heap HE6.out 3
          have c4 : w6.cell? ⟨c, 4, none⟩ = some (.int .u64 vs) := Lib.cell_of_heap HE6.out 4
          have c5 : w6.cell? ⟨c, 5, none⟩ = some (.int .u64 vb) := Lib.cell_of_heap HE6.out 5
          have c6 : w6.cell? ⟨c, 6, none⟩ = some (.int .u64 vm) := Lib.cell_of_heap HE6.out 6
          have c7 : w6.cell? ⟨c, 7, none⟩ = some (.int .i64 vn) := Lib.cell_of_heap HE6.out 7
          have c8 : w6.cell? ⟨c, 8, none⟩ = some (.int .i64 vl) := Lib.cell_of_heap HE6.out 8
          have c9 : w6.cell? ⟨c, 9, none⟩ = some (.string ⟨(vd.take M).toArray⟩) := Lib.cell_of_heap HE6.out 9
          have c10 : w6.cell? ⟨c, 10, none⟩ = some (.string ⟨#[]⟩) := Lib.cell_of_heap HE6.out 10
          have z0 : w6.cell? ⟨w.heap.size, 0, none⟩ = some (.int .u64 0) := Lib.cell_of_heap ST6.out.zero 0
          have z1 : w6.cell? ⟨w.heap.size, 1, none⟩ = some (.int .u64 0) := Lib.cell_of_heap ST6.out.zero 1
          have z2 : w6.cell? ⟨w.heap.size, 2, none⟩ = some (.int .i64 0) := Lib.cell_of_heap ST6.out.zero 2
          have z3 : w6.cell? ⟨w.heap.size, 3, none⟩ = some (.int .u64 0) := Lib.cell_of_heap ST6.out.zero 3
          have z4 : w6.cell? ⟨w.heap.size, 4, none⟩ = some (.int .u64 0) := Lib.cell_of_heap ST6.out.zero 4
          have z5 : w6.cell? ⟨w.heap.size, 5, none⟩ = some (.int .u64 0) := Lib.cell_of_heap ST6.out.zero 5
          have z6 : w6.cell? ⟨w.heap.size, 6, none⟩ = some (.int .u64 0) := Lib.cell_of_heap ST6.out.zero 6
          have z7 : w6.cell? ⟨w.heap.size, 7, none⟩ = some (.int .i64 0) := Lib.cell_of_heap ST6.out.zero 7
          have z8 : w6.cell? ⟨w.heap.size, 8, none⟩ = some (.int .i64 0) := Lib.cell_of_heap ST6.out.zero 8
          have z9 : w6.cell? ⟨w.heap.size, 9, none⟩ = some (.string ⟨#[]⟩) := Lib.cell_of_heap ST6.out.zero 9
          have z10 : w6.cell? ⟨w.heap.size, 10, none⟩ = some (.string ⟨#[]⟩) := Lib.cell_of_heap ST6.out.zero 10
          have fz : ∀ o, w6.frozen? ⟨w.heap.size, o, none⟩ = false := fun o => Lib.frozen_of_heap ST6.out.zero o
          go_wp2_with fail
          have hz := ST6.out.zero
          refine bodyPost_ret (results_cell_row rfl _ _ w.heap.size EntT (Ent.cells ⟨vt, vi, vk, vc, vs, vb, vm, vn, vl, ⟨(vd.take M).toArray⟩, ⟨#[]⟩⟩) (0, 0) _ rfl ?_ Tryz.underlying32 rfl (by kernel_rfl)) rfl ?_
          · simp [World.setCell, Array.getElem?_modify, hz, Ent.cells, Ent.zero]
          · rw [HQ.out]
            refine ⟨rfl, ?_, ?_⟩
            · repeat' (first | with_reducible exact ST6.out.rd | with_reducible exact Nat.ne_of_lt hbw | with_reducible refine fir_rd ?_ ?_)
            · repeat' (first | with_reducible exact ST6.out.but | with_reducible exact Nat.le_refl _ | with_reducible refine fir_set ?_ ?_)
        | cons t0 tl =>
          have HQ := Lib.hid (HQ0.out.trans (if_neg (by rw [HHG.out, HLE.out, HZB.out]; simp)))
          clear HQ0 HE6
          go_wp2_with fail
          refine (fail_any b (u, false) _ ST6.out.rd).mono ?_
          rintro x wf ⟨rfl, hr, hb⟩
          have STF := Lib.hid (ST6.out.next hbw hr hb)
          clear hr hb
          have z0 : wf.cell? ⟨w.heap.size, 0, none⟩ = some (.int .u64 0) := Lib.cell_of_heap STF.out.zero 0
          have z1 : wf.cell? ⟨w.heap.size, 1, none⟩ = some (.int .u64 0) := Lib.cell_of_heap STF.out.zero 1
          have z2 : wf.cell? ⟨w.heap.size, 2, none⟩ = some (.int .i64 0) := Lib.cell_of_heap STF.out.zero 2
          have z3 : wf.cell? ⟨w.heap.size, 3, none⟩ = some (.int .u64 0) := Lib.cell_of_heap STF.out.zero 3
          have z4 : wf.cell? ⟨w.heap.size, 4, none⟩ = some (.int .u64 0) := Lib.cell_of_heap STF.out.zero 4
          have z5 : wf.cell? ⟨w.heap.size, 5, none⟩ = some (.int .u64 0) := Lib.cell_of_heap STF.out.zero 5
          have z6 : wf.cell? ⟨w.heap.size, 6, none⟩ = some (.int .u64 0) := Lib.cell_of_heap STF.out.zero 6
          have z7 : wf.cell? ⟨w.heap.size, 7, none⟩ = some (.int .i64 0) := Lib.cell_of_heap STF.out.zero 7
          have z8 : wf.cell? ⟨w.heap.size, 8, none⟩ = some (.int .i64 0) := Lib.cell_of_heap STF.out.zero 8
          have z9 : wf.cell? ⟨w.heap.size, 9, none⟩ = some (.string ⟨#[]⟩) := Lib.cell_of_heap STF.out.zero 9
          have z10 : wf.cell? ⟨w.heap.size, 10, none⟩ = some (.string ⟨#[]⟩) := Lib.cell_of_heap STF.out.zero 10
          have fz : ∀ o, wf.frozen? ⟨w.heap.size, o, none⟩ = false := fun o => Lib.frozen_of_heap STF.out.zero o
          go_wp2_with fail
          have hz := STF.out.zero
          refine bodyPost_ret (results_cell_row rfl _ _ w.heap.size EntT Ent.zero.cells (0, 0) _ rfl ?_ Tryz.underlying32 rfl (by kernel_rfl)) rfl ?_
          · simp [World.setCell, Array.getElem?_modify, hz, Ent.cells, Ent.zero]
          · rw [HQ.out]
            refine ⟨rfl, ?_, ?_⟩
            · repeat' (first | with_reducible exact STF.out.rd | with_reducible exact Nat.ne_of_lt hbw | with_reducible refine fir_rd ?_ ?_)
            · repeat' (first | with_reducible exact STF.out.but | with_reducible exact Nat.le_refl _ | with_reducible refine fir_set ?_ ?_)
      · have HQ := Lib.hid (HQ0.out.trans (if_neg (by rw [hlv]; simp)))
        clear HQ0 hg
        rw [hlv]
        go_wp2_with fail
        refine (fail_any b (u, false) _ ST5.out.rd).mono ?_
        rintro x wf ⟨rfl, hr, hb⟩
        have STF := Lib.hid (ST5.out.next hbw hr hb)
        clear hr hb
        have z0 : wf.cell? ⟨w.heap.size, 0, none⟩ = some (.int .u64 0) := Lib.cell_of_heap STF.out.zero 0
        have z1 : wf.cell? ⟨w.heap.size, 1, none⟩ = some (.int .u64 0) := Lib.cell_of_heap STF.out.zero 1
        have z2 : wf.cell? ⟨w.heap.size, 2, none⟩ = some (.int .i64 0) := Lib.cell_of_heap STF.out.zero 2
        have z3 : wf.cell? ⟨w.heap.size, 3, none⟩ = some (.int .u64 0) := Lib.cell_of_heap STF.out.zero 3
        have z4 : wf.cell? ⟨w.heap.size, 4, none⟩ = some (.int .u64 0) := Lib.cell_of_heap STF.out.zero 4
        have z5 : wf.cell? ⟨w.heap.size, 5, none⟩ = some (.int .u64 0) := Lib.cell_of_heap STF.out.zero 5
        have z6 : wf.cell? ⟨w.heap.size, 6, none⟩ = some (.int .u64 0) := Lib.cell_of_heap STF.out.zero 6
        have z7 : wf.cell? ⟨w.heap.size, 7, none⟩ = some (.int .i64 0) := Lib.cell_of_heap STF.out.zero 7
        have z8 : wf.cell? ⟨w.heap.size, 8, none⟩ = some (.int .i64 0) := Lib.cell_of_heap STF.out.zero 8
        have z9 : wf.cell? ⟨w.heap.size, 9, none⟩ = some (.string ⟨#[]⟩) := Lib.cell_of_heap STF.out.zero 9
        have z10 : wf.cell? ⟨w.heap.size, 10, none⟩ = some (.string ⟨#[]⟩) := Lib.cell_of_heap STF.out.zero 10
        have fz : ∀ o, wf.frozen? ⟨w.heap.size, o, none⟩ = false := fun o => Lib.frozen_of_heap STF.out.zero o
        go_wp2_with fail
        have hz := STF.out.zero
        refine bodyPost_ret (results_cell_row rfl _ _ w.heap.size EntT Ent.zero.cells (0, 0) _ rfl ?_ Tryz.underlying32 rfl (by kernel_rfl)) rfl ?_
        · simp [World.setCell, Array.getElem?_modify, hz, Ent.cells, Ent.zero]
        · rw [HQ.out]
          refine ⟨rfl, ?_, ?_⟩
          · repeat' (first | with_reducible exact STF.out.rd | with_reducible exact Nat.ne_of_lt hbw | with_reducible refine fir_rd ?_ ?_)
          · repeat' (first | with_reducible exact STF.out.but | with_reducible exact Nat.le_refl _ | with_reducible refine fir_set ?_ ?_)

end Go.Proofs.YtbjbgdnjcppjhaaGreatDoor

/-
  first.GetMsg's closure small over this translation. Condition: at most 2^40 bytes are left. By an AI agent.
-/
namespace Go.Proofs.YtbjbgdnjcppjhaaGreatDoor
open Go.RowKit
set_option linter.unusedVariables false
set_option linter.unusedSimpArgs false

set_option maxRecDepth 100000 in
set_option maxHeartbeats 2000000 in
theorem smallM_any (b N : Nat) (r : Rd) (hl : r.1.length ≤ 1099511627776) (w : World) (h : RdAt w b r) (hc : w.cell? ⟨N, 0, none⟩ = some (fixV b)) :
    Calls Tryz.prog 59 #[.pointer (some ⟨N, 0, none⟩)] w fun x w' => x = .returned (.int .i64 (rdFix 1 r).1) ∧ RdAt w' b (rdFix 1 r).2 ∧ But b w w' := by
  have HF := Lib.hid (fixedRd_any b 1 r (by decide) hl w h)
  have hlt := rdFix_lt 1 r
  generalize rdFix 1 r = x at *
  obtain ⟨v, r1⟩ := x
  have hv : v < 256 := hlt
  clear h hlt
  go_enter Tryz.func59, Tryz.ntmps59
  go_wp2_with fail
  refine HF.out.mono ?_
  rintro x w1 ⟨rfl, h1, hb1⟩
  go_wp2_with fail
  go_ret
  exact ⟨rfl, h1, hb1⟩

end Go.Proofs.YtbjbgdnjcppjhaaGreatDoor
