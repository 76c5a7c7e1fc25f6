/-
  entry.fit and what it calls: of each field that is asked, whether it may be and is right. Condition: the fields' slice lies in memory. By an AI agent.
-/
import Derived.Test.YtbjbgdnjcppjhaaGreatDoorLeaf
namespace Go.Proofs.YtbjbgdnjcppjhaaGreatDoor
open Go.RowKit
set_option linter.unusedVariables false

theorem indexByte_nonneg (c : UInt8) : ∀ l : List UInt8, decide (0 ≤ Lib.indexByte l c) = l.contains c
  | [] => rfl
  | b :: r => by
    have ih := indexByte_nonneg c r
    have hge := Lib.indexByte_ge r c
    unfold Lib.indexByte
    rw [List.contains_cons, ← ih]
    by_cases e : b = c
    · subst e; simp
    · have e1 : (b == c) = false := by simpa using e
      have e2 : (c == b) = false := by simpa using fun x => e x.symm
      rw [e1, e2, if_neg (by simp)]
      split
      · rename_i h
        have h := beq_iff_eq.1 h
        rw [h]; rfl
      · rename_i h
        have h : Lib.indexByte r c ≠ -1 := by simpa using h
        simp only [Bool.false_or, decide_eq_decide]
        omega

theorem contains_any (l : List UInt8) (c : UInt8) (w : World) :
    Calls Tryz.prog 75 #[.string ⟨l.toArray⟩, .string ⟨#[c]⟩] w fun e w' => e = .returned (.bool (l.contains c)) ∧ w = w' :=
  (Tryz.strings_Contains_one ⟨l.toArray⟩ c w).mono fun _ _ ⟨he, hw⟩ => ⟨by rw [he, indexByte_nonneg], hw.symm⟩

set_option maxHeartbeats 400000 in
theorem fit1_any (may : List UInt8) (f : Fld) (b : Nat) (w : World) (hb : w.cell? ⟨b, 0, none⟩ = some (.string ⟨may.toArray⟩)) :
    Calls Tryz.prog 74 #[.agg #[.string ⟨#[f.1]⟩, .bool f.2.1, .bool f.2.2], .pointer (some ⟨b, 0, none⟩)] w fun e w' => e = .returned (.bool (!fldOk may f)) ∧ Below w.heap.size w w' := by
  obtain ⟨c, t, r⟩ := f
  have hb' := cell_al hb (.cells #[Value.string { data := #[c] }, Value.bool t, Value.bool r] 83)
  have hfl : fldOk may (c, t, r) = if may.contains c then r else !t := rfl
  have HF := Lib.hid hfl
  clear hfl hb
  cases hc : may.contains c
  · have HC := Lib.hid hc
    have hcon := contains_any may c
    rw [hc] at hcon
    clear hc
    go_enter Tryz.func74, Tryz.ntmps74
    go_wp2_with (go_at_call 75; refine (hcon _).mono ?_; rintro e w' ⟨rfl, rfl⟩)
    go_ret
    refine ⟨?_, (Below.refl _ _).alloc (Nat.le_refl _) _⟩
    rw [HF.out, HC.out]
    simp
  · have HC := Lib.hid hc
    have hcon := contains_any may c
    rw [hc] at hcon
    clear hc
    go_enter Tryz.func74, Tryz.ntmps74
    go_wp2_with (go_at_call 75; refine (hcon _).mono ?_; rintro e w' ⟨rfl, rfl⟩)
    go_ret
    refine ⟨?_, (Below.refl _ _).alloc (Nat.le_refl _) _⟩
    rw [HF.out, HC.out]
    simp

/-- the fields of a slice, three cells each -/
def FldsAt (w : World) (B : Nat) (l : List Fld) : Prop :=
  ∀ i (h : i < l.length), w.cell? ⟨B, i * 3, none⟩ = some (.string ⟨#[l[i].1]⟩) ∧ w.cell? ⟨B, i * 3 + 1, none⟩ = some (.bool l[i].2.1) ∧ w.cell? ⟨B, i * 3 + 2, none⟩ = some (.bool l[i].2.2)
theorem FldsAt.below {w w' : World} {B : Nat} {l : List Fld} (h : FldsAt w B l) (hb : Below w.heap.size w w') : FldsAt w' B l := fun i hi =>
  ⟨cell_later hb (h i hi).1, cell_later hb (h i hi).2.1, cell_later hb (h i hi).2.2⟩

/-- where a search ended: at one that meets, or at none -/
def Found (q : Bool) (w : World) (e : Ending) (w' : World) : Prop := ∃ r : Int, e = .returned (.int .i64 r) ∧ decide (0 ≤ r) = q ∧ -1 ≤ r ∧ r ≤ 4611686018427387904 ∧ Below w.heap.size w w'

set_option maxRecDepth 100000 in
set_option maxHeartbeats 1000000 in
theorem indexFld_any (may : List UInt8) (l : List Fld) (b B c : Nat) (w : World) (hb : w.cell? ⟨b, 0, none⟩ = some (.string ⟨may.toArray⟩)) (hl : FldsAt w B l) (hn : l.length ≤ 1000) (hc : l.length ≤ c) :
    Calls Tryz.prog 112 #[.slice (some ⟨B, 0, none⟩) l.length c, .func (.func 74) #[] #[.pointer (some ⟨b, 0, none⟩)]] w (Found (l.any fun f => !fldOk may f) w) := by
  go_enter Tryz.func112, Tryz.ntmps112
  go_wp2_with fail
  go_loopw [8] (fun i wr => ∃ k : Nat, k ≤ l.length ∧ i = .int .i64 k ∧ ((l.take k).any fun f => !fldOk may f) = false ∧ Below w.heap.size w wr) (fun i _ => l.length - (intOf i).toNat)
  case atStart => exact ⟨0, Nat.zero_le _, rfl, rfl, Below.refl _ _⟩
  case round =>
    obtain ⟨k, hk, rfl, hno, hbel⟩ := hrel
    have HN := Lib.hid hno
    clear hno
    by_cases hlt : k < l.length
    · obtain ⟨g1, g2, g3⟩ := hl.below hbel k hlt
      have hb1 := cell_later hbel hb
      have hstep : ((l.take (k + 1)).any fun f => !fldOk may f) = !fldOk may l[k] := by
        rw [List.take_succ_eq_append_getElem hlt, List.any_append, HN.out]; simp
      have hall : fldOk may l[k] = false → (l.any fun f => !fldOk may f) = true := fun h => List.any_eq_true.2 ⟨l[k], List.getElem_mem _, by rw [h]; rfl⟩
      generalize l[k] = f at *
      clear hb hl
      have HS := Lib.hid hstep
      have HA := Lib.hid hall
      clear hstep hall
      have hcall := fit1_any may f b wr hb1
      have HC := Lib.hid hcall
      clear hb1 HN hcall
      go_wp2_with fail
      refine HC.out.mono ?_
      rintro e w1 ⟨rfl, hb2⟩
      cases hok : fldOk may f
      · have hA := Lib.hid (HA.out hok)
        clear hok HS HA
        go_wp2_with fail
        go_ret
        exact ⟨_, rfl, by rw [hA.out]; simp, by omega, by omega, hbel.trans (hb2.mono hbel.size)⟩
      · rw [hok] at HS
        clear hok
        go_wp2_with fail
        go_roundw
        case rel => exact ⟨k + 1, by omega, by go_num, HS.out, hbel.trans (hb2.mono hbel.size)⟩
        case measure => simp [intOf]; omega
    · have hno : (l.any fun f => !fldOk may f) = false := by rw [← HN.out, List.take_of_length_le (by omega)]
      have HN' := Lib.hid hno
      clear hno
      go_wp2_with fail
      go_ret
      exact ⟨_, rfl, by rw [HN'.out]; simp, by omega, by omega, hbel⟩

set_option maxHeartbeats 400000 in
theorem containsFld_any (may : List UInt8) (l : List Fld) (b B c : Nat) (w : World) (hb : w.cell? ⟨b, 0, none⟩ = some (.string ⟨may.toArray⟩)) (hl : FldsAt w B l) (hn : l.length ≤ 1000) (hc : l.length ≤ c) :
    Calls Tryz.prog 73 #[.slice (some ⟨B, 0, none⟩) l.length c, .func (.func 74) #[] #[.pointer (some ⟨b, 0, none⟩)]] w fun e w' => e = .returned (.bool (l.any fun f => !fldOk may f)) ∧ Below w.heap.size w w' := by
  have H := Lib.hid (indexFld_any may l b B c w hb hl hn hc)
  clear hb hl
  go_enter Tryz.func73, Tryz.ntmps73
  go_wp2_with fail
  refine H.out.mono ?_
  rintro e w1 ⟨r, rfl, hr, h1, h2, hbel⟩
  have HR := Lib.hid hr
  clear hr
  go_wp2
  all_goals go_ret
  all_goals exact ⟨by rw [← HR.out]; simp; try omega, hbel⟩

theorem fitB_eq (may : List UInt8) : ∀ l : List Fld, fitB may l = !(l.any fun f => !fldOk may f)
  | [] => rfl
  | x :: r => by
    have ih := fitB_eq may r
    unfold fitB at ih ⊢
    simp only [List.all_cons, List.any_cons, ih, Bool.not_or, Bool.not_not]

set_option maxHeartbeats 400000 in
/-- entry.fit -/
theorem fit_any (may : List UInt8) (l : List Fld) (B c : Nat) (w : World) (hl : FldsAt w B l) (hn : l.length ≤ 1000) (hc : l.length ≤ c) :
    Calls Tryz.prog 45 #[.string ⟨may.toArray⟩, .slice (some ⟨B, 0, none⟩) l.length c] w fun e w' => e = .returned (.bool (fitB may l)) ∧ Below w.heap.size w w' := by
  have hmf : ∀ (fn : Fn) (first cap : Array Value) (w : World), (Instr.makeFunc fn first cap).run Tryz.prog w = .ok (.func fn first cap) w := fun _ _ _ _ => rfl
  have H := Lib.hid (containsFld_any may l w.heap.size B c (w.alloc (.cells #[.string ⟨may.toArray⟩] 9)) (World.cell?_alloc_new _ _ _ _) (hl.below ((Below.refl _ _).alloc (Nat.le_refl _) _)) hn hc)
  have hfit := fitB_eq may l
  have HF := Lib.hid hfit
  clear hl hfit
  go_enter Tryz.func45, Tryz.ntmps45
  go_wp2_with fail
  refine H.out.mono ?_
  rintro e w1 ⟨rfl, hbel⟩
  go_wp2
  go_ret
  exact ⟨by rw [HF.out]; rfl, ((Below.refl _ _).alloc (Nat.le_refl _) _).trans (hbel.mono (by simp))⟩

end Go.Proofs.YtbjbgdnjcppjhaaGreatDoor
