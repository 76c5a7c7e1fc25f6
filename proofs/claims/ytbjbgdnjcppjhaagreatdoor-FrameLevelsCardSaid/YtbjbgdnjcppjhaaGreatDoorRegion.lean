/-
  A REGION THAT DRAWS ITS ORDER, taken apart into stretches: operations that read and call (what is called leaves what was there as it was) in one walk in the order of the text; a copy of a slot, wherever it may come; the last ones in their one order. Conditions: as each theorem says. By an AI agent.
-/
import Derived.StillTail
import Derived.Lib.QuietBelow
import Derived.Deep.RegionHeld3
namespace Go.Proofs.YtbjbgdnjcppjhaaGreatDoor
open Go.RowKit Go.Sort

section
variable {P : Program} {ops : Array Oper} {md : Region.Mode} {C : World → Prop} {Q : Exit → Act → World → Prop}

def setAll (listed : Array Bool) (is : List Nat) : Array Bool := is.foldl (fun l i => l.setIfInBounds i true) listed

/-- the stretch 'is' with its sink s: whatever of it has not come up holds the sink, and whatever is none of it waits for the sink -/
def segB (md : Region.Mode) (ops : Array Oper) (listed : Array Bool) (is : List Nat) (s : Nat) : Bool :=
  (is.all fun i => i == s || (s :: is).any fun j => decide (i < j) && decide (j ≤ s) && Region.waitsFor md ops j i) &&
  ((List.range ops.size).all fun t => listed.getD t true || is.contains t || t == s || (List.range t).any fun j => decide (s ≤ j) && !listed.getD j true && Region.waitsFor md ops t j)
/-- what has come up waited for nothing that has not -/
def closedB (md : Region.Mode) (ops : Array Oper) (listed : Array Bool) : Bool :=
  (List.range ops.size).all fun j => !listed.getD j false || match ops[j]? with
    | some o => o.after.all fun e => !Region.binds md e || listed.getD e.on false
    | none => true
def lexSeg (md : Region.Mode) (ops : Array Oper) : List Nat → Array Bool → Bool
  | [], _ => true
  | i :: r, listed => (Region.ready md ops listed).contains i && Region.free md ops listed i && lexSeg md ops r (listed.setIfInBounds i true)

/-- where a walk through the stretch 'is' stands -/
structure SegInv (md : Region.Mode) (ops : Array Oper) (is : List Nat) (l0 listed : Array Bool) : Prop where
  size : listed.size = ops.size
  size0 : l0.size = ops.size
  closed : ∀ j oj, ops[j]? = some oj → listed.getD j false = true → ∀ e ∈ oj.after, Region.binds md e = true → listed.getD e.on false = true
  rest : ∀ t, t ∉ is → l0.getD t true = false → listed.getD t true = false
  first : ∀ t, l0.getD t false = true → listed.getD t false = true

theorem SegInv.set {is : List Nat} {l0 listed : Array Bool} {i : Nat} (inv : SegInv md ops is l0 listed) (hi : i ∈ Region.ready md ops listed) (hin : i ∈ is) : SegInv md ops is l0 (listed.setIfInBounds i true) := by
  obtain ⟨_, oi, hoi, hall⟩ := mem_ready.1 hi
  refine ⟨by simp [inv.size], inv.size0, fun j oj hj hl e he hb => ?_, fun t ht h0 => ?_, fun t h0 => getD_set_true (inv.first t h0)⟩
  rotate_left
  · have hne : i ≠ t := fun h => ht (by rw [← h]; exact hin)
    rw [getD_set_ne true hne]
    exact inv.rest t ht h0
  by_cases hij : i = j
  · subst hij
    have : oj = oi := Option.some.inj (hj.symm.trans hoi)
    subst this
    exact getD_set_true (hall e he hb)
  · rw [getD_set_ne false hij] at hl
    exact getD_set_true (inv.closed j oj hj hl e he hb)

theorem waits_not_ready {listed : Array Bool} {t j : Nat} (hw : Region.waitsFor md ops t j = true) (hu : listed.getD j true = false) : t ∉ Region.ready md ops listed := by
  intro hr
  obtain ⟨_, ot, hot, hall⟩ := mem_ready.1 hr
  obtain ⟨o', ho', e, he, hb, hon⟩ := Region.waitsFor_spec hw
  have : o' = ot := Option.some.inj (ho'.symm.trans hot)
  subst this
  have h2 := hall e he hb
  rw [hon, getD_both hu] at h2
  cases h2

theorem sink_waits {is : List Nat} {s : Nat} {l0 listed : Array Bool} (hs : segB md ops l0 is s = true) (inv : SegInv md ops is l0 listed) :
    ∀ (d i : Nat), s - i = d → i ∈ is → listed.getD i true = false → s < ops.size → (s ∉ is → l0.getD s true = false) → listed.getD s true = false ∧ (s ∉ is → s ∉ Region.ready md ops listed) := by
  intro d
  induction d using Nat.strongRecOn with
  | _ d ih =>
    intro i hd hi hun hsz hs0
    simp only [segB, Bool.and_eq_true] at hs
    have h1 := List.all_eq_true.1 hs.1 i hi
    simp only [Bool.or_eq_true, beq_iff_eq] at h1
    rcases h1 with h1 | h1
    · subst h1
      exact ⟨hun, fun h => absurd hi h⟩
    · obtain ⟨j, hj, hj2⟩ := List.any_eq_true.1 h1
      simp only [Bool.and_eq_true, decide_eq_true_eq] at hj2
      obtain ⟨⟨hij, hjs⟩, hw⟩ := hj2
      have hju : listed.getD j true = false := by
        cases hl : listed.getD j false with
        | true =>
          obtain ⟨oj, hoj, e, he, hb, hon⟩ := Region.waitsFor_spec hw
          have h2 := inv.closed j oj hoj hl e he hb
          rw [hon, getD_both hun] at h2
          cases h2
        | false => exact getD_in (by rw [inv.size]; omega) hl
      by_cases hjs' : j = s
      · subst hjs'
        exact ⟨hju, fun _ => waits_not_ready hw hun⟩
      · have hjin : j ∈ is := by
          rcases List.mem_cons.1 hj with h | h
          · exact absurd h hjs'
          · exact h
        exact ih (s - j) (by omega) j rfl hjin hju hsz hs0

/-- while something of the stretch has not come up nothing else may -/
theorem seg_waits {is : List Nat} {s : Nat} {l0 listed : Array Bool} (hs : segB md ops l0 is s = true) (hsz : s < ops.size) (hs0 : s ∉ is → l0.getD s true = false) (inv : SegInv md ops is l0 listed) {i : Nat} (hi : i ∈ is) (hun : listed.getD i true = false) :
    ∀ t ∈ Region.ready md ops listed, t ∈ is := by
  intro t hr
  apply Classical.byContradiction
  intro htn
  obtain ⟨hsu, hsr⟩ := sink_waits hs inv _ i rfl hi hun hsz hs0
  have hs' := hs
  simp only [segB, Bool.and_eq_true] at hs'
  obtain ⟨hun2, ot, hot, hall⟩ := mem_ready.1 hr
  have htlt : t < ops.size := (Array.getElem?_eq_some_iff.1 hot).1
  have h1 := List.all_eq_true.1 hs'.2 t (List.mem_range.2 htlt)
  simp only [Bool.or_eq_true, beq_iff_eq] at h1
  rcases h1 with ((h1 | h1) | h1) | h1
  · cases hl : l0.getD t false with
    | true =>
      have := inv.first t hl
      rw [getD_both hun2] at this
      cases this
    | false =>
      rw [getD_in (by rw [inv.size0]; exact htlt) hl] at h1
      cases h1
  · exact htn (by simpa using h1)
  · subst h1; exact hsr htn hr
  · obtain ⟨j, hj, hj2⟩ := List.any_eq_true.1 h1
    simp only [Bool.and_eq_true, decide_eq_true_eq, Bool.not_eq_true'] at hj2
    obtain ⟨⟨hsj, hju⟩, hw⟩ := hj2
    refine waits_not_ready hw ?_ hr
    by_cases hjs : j = s
    · subst hjs; exact hsu
    · refine inv.rest j ?_ hju
      intro hjin
      have h5 := List.all_eq_true.1 hs'.1 j hjin
      simp only [Bool.or_eq_true, beq_iff_eq] at h5
      rcases h5 with h5 | h5
      · exact hjs h5
      · obtain ⟨k, _, hk2⟩ := List.any_eq_true.1 h5
        simp only [Bool.and_eq_true, decide_eq_true_eq] at hk2
        omega

/-- the stretch, whatever order is picked: each of its operations quiet in the class -/
def wpSeg (P : Program) (md : Region.Mode) (ops : Array Oper) (C : World → Prop) (is : List Nat) (L : Array Bool → Act → Prop) : Nat → Array Bool → Act → Prop
  | 0, listed, a => L listed a
  | f + 1, listed, a => Region.ready md ops listed ≠ [] ∧ ∀ i ∈ Region.ready md ops listed, i ∈ is ∧ qOp P ops C i (wpSeg P md ops C is L f (listed.setIfInBounds i true)) a

theorem any_of_seg {is : List Nat} {g : Nat} {L : Array Bool → Act → Prop} (hL : ∀ listed a w, C w → L listed a → wpAny P md ops Q g listed a w) :
    ∀ (f : Nat) (listed : Array Bool) (a : Act) (w : World), C w → wpSeg P md ops C is L f listed a → wpAny P md ops Q (f + g) listed a w
  | 0, listed, a, w, hw, h => by rw [Nat.zero_add]; exact hL _ _ _ hw h
  | f + 1, listed, a, w, hw, h => by
    rw [show f + 1 + g = (f + g) + 1 by omega]
    exact ⟨fun h0 => absurd h0 h.1, fun i hi => wpOp_of_qOp hw (fun a' w' hw' h' => any_of_seg hL f _ a' w' hw' h') (h.2 i hi).2⟩

theorem seg_first {is : List Nat} {s i : Nat} {l0 : Array Bool} {oi : Oper} {v : Value} {L : Array Bool → Act → Prop} (hi : ops[i]? = some oi) (hsel : ∀ (j : Nat) (o : Oper) cs b, ops[j]? = some o → o.op ≠ .select cs b)
    (hs : segB md ops l0 is s = true) (hsz : s < ops.size) (hs0 : s ∉ is → l0.getD s true = false) (hin : i ∈ is)
    (hdone : ∀ listed a, L listed a → ∀ j ∈ Region.ready md ops listed, j ∉ is) :
    ∀ (f : Nat) (listed : Array Bool) (a : Act), SegInv md ops is l0 listed →
      (∀ j oj, ops[j]? = some oj → j ≠ i → listed.getD j true = false → (∀ e ∈ oj.after, Region.binds md e = true → e.on ≠ i) → oi.apart ops oj = true) →
      i ∈ Region.ready md ops listed → YieldsIn P ops C oi v a →
      wpSeg P md ops C is L f (listed.setIfInBounds i true) (a.put oi.dst v) → wpSeg P md ops C is L (f + 1) listed a := by
  intro f
  induction f with
  | zero =>
    intro listed a inv _ hr hy H
    have hun := (mem_ready.1 hr).1
    refine ⟨fun h => (by rw [h] at hr; cases hr), fun j hj => ?_⟩
    have hjn := seg_waits hs hsz hs0 inv hin hun j hj
    refine ⟨hjn, ?_⟩
    by_cases hji : j = i
    · subst hji; exact hy.qOp hi H
    · exact absurd hjn (hdone _ _ H j (ready_mono hj hji))
  | succ f ih =>
    intro listed a inv hfree hr hy H
    have hun := (mem_ready.1 hr).1
    refine ⟨fun h => (by rw [h] at hr; cases hr), fun j hj => ?_⟩
    have hjn := seg_waits hs hsz hs0 inv hin hun j hj
    refine ⟨hjn, ?_⟩
    by_cases hji : j = i
    · subst hji; exact hy.qOp hi H
    · have h1 := (H.2 j (ready_mono hj hji)).2
      obtain ⟨hjun, oj, hoj, hall⟩ := mem_ready.1 hj
      have hnot : ∀ e ∈ oj.after, Region.binds md e = true → e.on ≠ i := fun e he hb heq => by
        have h1 := hall e he hb
        rw [heq, getD_both hun] at h1
        cases h1
      have h2 := qOp_put hoj (hfree j oj hoj hji hjun hnot) (fun cs b => hsel i oi cs b hi) (fun cs b => hsel j oj cs b hoj) hy h1
      have hfree' : ∀ k ok, ops[k]? = some ok → k ≠ i → (listed.setIfInBounds j true).getD k true = false →
          (∀ e ∈ ok.after, Region.binds md e = true → e.on ≠ i) → oi.apart ops ok = true := fun k ok hk hki hun hno => by
        refine hfree k ok hk hki ?_ hno
        by_cases hjk : j = k
        · subst hjk; exact hjun
        · rw [getD_set_ne true hjk] at hun; exact hun
      refine qOp_mono (fun a' h3 => ih (listed.setIfInBounds j true) a' (inv.set hj hjn) hfree' (ready_mono hr (Ne.symm hji)) h3.1 ?_) h2
      rw [Array.setIfInBounds_comm _ _ hji]
      exact h3.2

theorem seg_lex {is : List Nat} {s : Nat} {l0 : Array Bool} {Lq : Act → Prop} (hsel : Region.noSelect ops = true) (hs : segB md ops l0 is s = true) (hsz : s < ops.size) (hs0 : s ∉ is → l0.getD s true = false) :
    ∀ (js : List Nat) (l : List Oper) (listed : Array Bool) (a : Act), (∀ j ∈ js, j ∈ is) → js.map (ops[·]?) = l.map some → SegInv md ops is l0 listed → (∀ j ∈ is, j ∈ js ∨ listed.getD j true = true) →
    lexSeg md ops js listed = true → wpQuiet P ops C Lq l a →
    wpSeg P md ops C is (fun listed' a' => listed' = setAll listed js ∧ (∀ j ∈ is, listed'.getD j true = true) ∧ Lq a') js.length listed a
  | [], l, listed, a, _, hl, inv, hcov, hB, h => by
    have : l = [] := by cases l <;> simp_all
    subst this
    exact ⟨rfl, fun j hj => (hcov j hj).resolve_left (by simp), h⟩
  | j :: js, l, listed, a, hin, hl, inv, hcov, hB, h => by
    cases l with
    | nil => simp at hl
    | cons o l =>
      simp only [List.map_cons, List.cons.injEq] at hl
      obtain ⟨h0, hl⟩ := hl
      simp only [lexSeg, Bool.and_eq_true] at hB
      obtain ⟨⟨hr, hf⟩, hB'⟩ := hB
      have hr' : j ∈ Region.ready md ops listed := by simpa using hr
      have hjin := hin j (by simp)
      have hst : qOp P ops C j (wpQuiet P ops C Lq l) a := by unfold qOp; simp only [h0]; exact h
      obtain ⟨v, hy, hK⟩ := yieldsIn_of_qOp h0 hst
      have hlt : j < listed.size := by rw [inv.size]; exact (Array.getElem?_eq_some_iff.1 h0).1
      exact seg_first h0 (Region.noSelect_spec hsel) hs hsz hs0 hjin
        (fun listed' a' hL k hk hkin => by have := hL.2.1 k hkin; rw [(mem_ready.1 hk).1] at this; cases this) js.length listed a inv (Region.free_spec h0 hf) hr' hy
        (seg_lex hsel hs hsz hs0 js l _ _ (fun k hk => hin k (by simp [hk])) hl (inv.set hr' hjin) (fun k hk => by
          by_cases hkj : j = k
          · subst hkj; right; simp [hlt]
          · rcases hcov k hk with h | h
            · rcases List.mem_cons.1 h with h | h
              · exact absurd h.symm hkj
              · exact .inl h
            · right; rw [getD_set_ne true hkj]; exact h) hB' hK)

/-- all that is asked of a stretch, for the kernel -/
def segOk (md : Region.Mode) (ops : Array Oper) (listed : Array Bool) (is : List Nat) (s : Nat) : Bool :=
  Region.noSelect ops && segB md ops listed is s && decide (s < ops.size) && (is.contains s || !listed.getD s true) && closedB md ops listed && decide (listed.size = ops.size) && lexSeg md ops is listed

theorem any_seg {is : List Nat} {s g : Nat} {listed : Array Bool} {l : List Oper} (hB : segOk md ops listed is s = true) (hl : is.map (ops[·]?) = l.map some) {a : Act}
    (h : wpQuiet P ops C (fun a' => ∀ w', C w' → wpAny P md ops Q g (setAll listed is) a' w') l a) (w : World) (hw : C w) : wpAny P md ops Q (is.length + g) listed a w := by
  simp only [segOk, Bool.and_eq_true, decide_eq_true_eq, Bool.or_eq_true, Bool.not_eq_true'] at hB
  obtain ⟨⟨⟨⟨⟨⟨hsel, hs⟩, hsz⟩, hs0⟩, hcl⟩, hsize⟩, hlex⟩ := hB
  have inv : SegInv md ops is listed listed := by
    refine ⟨hsize, hsize, fun j oj hj hlj e he hb => ?_, fun _ _ h => h, fun _ h => h⟩
    have h1 := List.all_eq_true.1 hcl j (List.mem_range.2 (Array.getElem?_eq_some_iff.1 hj).1)
    simp only [hlj, Bool.not_true, Bool.false_or, hj] at h1
    have h2 := Array.all_eq_true_iff_forall_mem.1 h1 e he
    simpa [hb] using h2
  have H := seg_lex (C := C) hsel hs hsz (fun hn => hs0.resolve_left fun h => hn (by simpa using h)) is l listed a (fun _ h => h) hl inv (fun _ h => .inl h) hlex h
  exact any_of_seg (fun listed' a' w' hw' hL => by rw [hL.1]; exact hL.2.2 w' hw') _ _ _ _ hw H

/-- a copy of a slot may be taken as soon as it may come -/
theorem any_move {i : Nat} {o : Oper} {rest : List Oper} {x : Operand} {fuel : Nat} {listed : Array Bool} {a : Act} {w : World} {d : Nat} (v : Value) (hi : ops.toList.drop i = o :: rest) (hx : o.op = .move x) (hd : o.dst = some d)
    (hs : (Region.noSelect ops && Region.free md ops listed i && (Region.ready md ops listed).contains i) = true)
    (hQ : ∀ c a w, ¬ Q (.panic c) a w) (hw : Region.wanted o (yielded ops a.tmps) = true) (hv : a.eval x = v)
    (h : wpAny P md ops Q fuel (listed.setIfInBounds i true) (a.put (some d) v) w) : wpAny P md ops Q (fuel + 1) listed a w := by
  simp only [Bool.and_eq_true] at hs
  have hi' : ops[i]? = some o := by
    have h1 : (ops.toList.drop i)[0]? = some o := by rw [hi]; rfl
    rw [List.getElem?_drop] at h1
    simpa using h1
  rw [← hd, ← hv] at h
  exact wpAny_take hi' hs.1.1 hs.1.2 hs.2 (fun c a w h => absurd h (hQ _ _ _)) (.inl ⟨hw, fun w => by simp [execOp, hx]⟩) h

def seqI (md : Region.Mode) (ops : Array Oper) : List Nat → Array Bool → Bool
  | [], listed => (Region.ready md ops listed).isEmpty
  | i :: r, listed => decide (Region.ready md ops listed = [i]) && seqI md ops r (listed.setIfInBounds i true)

theorem any_tail : ∀ (is : List Nat) (l : List Oper) (listed : Array Bool) (a : Act) (w : World), seqI md ops is listed = true → is.map (ops[·]?) = l.map some → wpList P ops Q l a w → wpAny P md ops Q is.length listed a w
  | [], l, listed, a, w, hB, hl, h => by
    have : l = [] := by cases l <;> simp_all
    subst this
    exact ⟨by simpa [seqI] using hB, h⟩
  | i :: is, l, listed, a, w, hB, hl, h => by
    cases l with
    | nil => simp at hl
    | cons o l =>
      simp only [List.map_cons, List.cons.injEq] at hl
      obtain ⟨h0, hl⟩ := hl
      simp only [seqI, Bool.and_eq_true, decide_eq_true_eq] at hB
      refine ⟨fun h1 => (by rw [hB.1] at h1; cases h1), fun j hj => ?_⟩
      rw [hB.1] at hj
      have hji : j = i := by simpa using hj
      subst hji
      have hw : wpOp P ops Q j (wpList P ops Q l) a w := by unfold wpOp; simp only [h0]; exact h
      exact wpOp_mono (fun a' w' h' => any_tail is l _ a' w' hB.2 hl h') hw
end

theorem range_at (ops : Array Oper) : ∀ (n k : Nat), k + n ≤ ops.size → (List.range' k n).map (ops[·]?) = ((ops.toList.drop k).take n).map some
  | 0, k, _ => by simp
  | n + 1, k, h => by
    have hk : k < ops.toList.length := by simp; omega
    rw [List.range'_succ, List.map_cons, List.drop_eq_getElem_cons hk, List.take_succ_cons, List.map_cons, range_at ops n (k + 1) (by omega)]
    simp

/-- a stretch of operations that stand one behind the other, at the class of the worlds in which all that was there in w is as it was -/
theorem seg_at {P : Program} {ops : Array Oper} {Q : Exit → Act → World → Prop} {listed : Array Bool} {a : Act} (w : World) (k n s g : Nat) (hB : (segOk .any ops listed (List.range' k n) s && decide (k + n ≤ ops.size)) = true)
    (h : wpQuiet P ops (fun w' => ∃ p : Regrown, w' = grow (redrawn w p.d) p.os) (fun a' => ∀ w', (∃ p : Regrown, w' = grow (redrawn w p.d) p.os) → wpAny P .any ops Q g (setAll listed (List.range' k n)) a' w') ((ops.toList.drop k).take n) a)
    {f : Nat} (hf : f = n + g) (w' : World) (hw : ∃ p : Regrown, w' = grow (redrawn w p.d) p.os) : wpAny P .any ops Q f listed a w' := by
  simp only [Bool.and_eq_true, decide_eq_true_eq] at hB
  subst hf
  have := any_seg (C := fun w' => ∃ p : Regrown, w' = grow (redrawn w p.d) p.os) hB.1 (range_at ops n k hB.2) h w' hw
  simpa using this

/-- .. with the check made once, over the region's operations under a name -/
theorem seg_as {P : Program} {ops : Array Oper} {Q : Exit → Act → World → Prop} {listed : Array Bool} {a : Act} {R : Array Oper} (w : World) (k n s g : Nat) (hR : ops = R) (hB : (segOk .any R listed (List.range' k n) s && decide (k + n ≤ R.size)) = true)
    (h : wpQuiet P ops (fun w' => ∃ p : Regrown, w' = grow (redrawn w p.d) p.os) (fun a' => ∀ w', (∃ p : Regrown, w' = grow (redrawn w p.d) p.os) → wpAny P .any ops Q g (setAll listed (List.range' k n)) a' w') ((ops.toList.drop k).take n) a)
    {f : Nat} (hf : f = n + g) (w' : World) (hw : ∃ p : Regrown, w' = grow (redrawn w p.d) p.os) : wpAny P .any ops Q f listed a w' := by
  subst hR
  exact seg_at w k n s g hB h hf w' hw

/-- the operations of a region, by its number -/
def findRegion (id : Nat) : Code → Option (Array Oper)
  | .region i ops _ => if i = id then some ops else none
  | .seq a b => match findRegion id a with | some x => some x | none => findRegion id b
  | .cond _ a b => match findRegion id a with | some x => some x | none => findRegion id b
  | .block _ c => findRegion id c
  | .loop c => findRegion id c
  | .scope c => findRegion id c
  | .rangeFunc _ _ a b => match findRegion id a with | some x => some x | none => findRegion id b
  | _ => none
noncomputable def regionOf (f : Func) (id : Nat) : Array Oper := (f.body.bind (findRegion id)).getD #[]

theorem tail_at {P : Program} {ops : Array Oper} {Q : Exit → Act → World → Prop} {listed : Array Bool} {a : Act} {w : World} (k n : Nat) (hB : (seqI .any ops (List.range' k n) listed && decide (k + n ≤ ops.size)) = true)
    (h : wpList P ops Q ((ops.toList.drop k).take n) a w) : wpAny P .any ops Q n listed a w := by
  simp only [Bool.and_eq_true, decide_eq_true_eq] at hB
  have := any_tail (List.range' k n) _ listed a w hB.1 (range_at ops n k hB.2) h
  simpa using this

/-- the beginning -/
theorem wp_region_segs {P : Program} {id : Nat} {Q : Exit → Act → World → Prop} {a : Act} {w : World} {l : List Oper} (n : Nat) (hm : P.follows .mixedOrders = true) (hn : l.length = n)
    (h : ∀ w', (∃ p : Regrown, w' = grow (redrawn w p.d) p.os) → wpAny P .any l.toArray (NoPanic Q) n (Array.replicate n false) a w') : (Code.region id l.toArray true).wp P Q a w := by
  refine wp_region_noPanic (wp_region_any hm ?_)
  have := h { w with drawn := w.drawn + 1 } ⟨⟨w.drawn + 1, #[]⟩, by rw [grow_empty]; rfl⟩
  rw [← hn] at this
  simpa using this

/-- a call's contract, met in a world of the class -/
theorem meet {P : Program} {f : FuncId} {args : Array Value} {w : World} {d : Nat} {os : Array Obj} {v : Value}
    (h : ∀ W, Calls P f args W fun e w' => e = .returned v ∧ Below W.heap.size W w') : Calls P f args (grow (redrawn w d) os) fun e w'' => e = .returned v ∧ ∃ p : Regrown, w'' = grow (redrawn w p.d) p.os :=
  Calls.regrown_of (h _)
theorem meet_same {P : Program} {f : FuncId} {args : Array Value} {w : World} {d : Nat} {os : Array Obj} {v : Value}
    (h : ∀ W, Calls P f args W fun e w' => e = .returned v ∧ W = w') : Calls P f args (grow (redrawn w d) os) fun e w'' => e = .returned v ∧ ∃ p : Regrown, w'' = grow (redrawn w p.d) p.os :=
  Calls.regrown_of ((h _).mono fun _ _ ⟨he, hw⟩ => ⟨he, by rw [← hw]; exact Below.refl _ _⟩)

/-- .. a contract that leans on what was there -/
theorem meetB {P : Program} {f : FuncId} {args : Array Value} {w : World} {d : Nat} {os : Array Obj} {v : Value}
    (h : ∀ W, Below w.heap.size w W → Calls P f args W fun e w' => e = .returned v ∧ Below W.heap.size W w') : Calls P f args (grow (redrawn w d) os) fun e w'' => e = .returned v ∧ ∃ p : Regrown, w'' = grow (redrawn w p.d) p.os :=
  Calls.regrown_of (h _ (below_regrown w d os))

end Go.Proofs.YtbjbgdnjcppjhaaGreatDoor
