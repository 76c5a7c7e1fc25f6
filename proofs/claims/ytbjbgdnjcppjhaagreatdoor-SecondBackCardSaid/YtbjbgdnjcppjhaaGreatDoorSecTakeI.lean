/-
  second.number[int]'s, second.text's and second.flag's take closures. Conditions: as each theorem says. By an AI agent.
-/
import Derived.Test.YtbjbgdnjcppjhaaGreatDoorSecText
import Derived.Test.YtbjbgdnjcppjhaaGreatDoorHeld
namespace Go.Proofs.YtbjbgdnjcppjhaaGreatDoor
open Go.RowKit Go.Sort
set_option linter.unusedVariables false
set_option linter.unusedSimpArgs false

/-- what stands behind a store into the target -/
theorem But2.target {b c e o : Nat} {w w1 : World} {r2 : Rd} {cs : Array Value} {t t2 : TypeId} {v : Value} (hbe : b ≠ e) (hbc : b ≠ c) (hce : c ≠ e) (h1 : RdAt w1 b r2) (hb1 : But b w w1) (hp : PtrAt w c e o t) (ht : w.heap[e]? = some (.cells cs t2 (0, 0))) :
    RdAt (w1.setCell ⟨e, o, none⟩ v) b r2 ∧ (w1.setCell ⟨e, o, none⟩ v).heap[e]? = some (.cells (cs.setIfInBounds o v) t2 (0, 0)) ∧ But2 b e w (w1.setCell ⟨e, o, none⟩ v) := by
  have hle : e < w.heap.size := (Array.getElem?_eq_some_iff.1 ht).1
  have ht1 := (hb1.block e hle (fun h => hbe (Option.some.inj h).symm)).trans ht
  refine ⟨?_, ?_, (But2.ofBut hb1).trans But2.set⟩
  · unfold RdAt at h1 ⊢
    simp [World.setCell, Array.getElem?_modify, h1, Ne.symm hbe]
  · simp [World.setCell, Array.getElem?_modify, ht1]
theorem But2.reads {b c e o : Nat} {w w1 : World} {cs : Array Value} {t t2 : TypeId} {v : Value} (hbe : b ≠ e) (hbc : b ≠ c) (hb1 : But b w w1) (hp : PtrAt w c e o t) (ht : w.heap[e]? = some (.cells cs t2 (0, 0))) (hold : cs[o]? = some v) :
    w1.cell? ⟨c, 0, none⟩ = some (.pointer (some ⟨e, o, none⟩)) ∧ w1.cell? ⟨e, o, none⟩ = some v ∧ w1.frozen? ⟨e, o, none⟩ = false := by
  have hlc : c < w.heap.size := (Array.getElem?_eq_some_iff.1 hp).1
  have hle : e < w.heap.size := (Array.getElem?_eq_some_iff.1 ht).1
  have hp1 : PtrAt w1 c e o t := (hb1.block c hlc (fun h => hbc (Option.some.inj h).symm)).trans hp
  have ht1 := (hb1.block e hle (fun h => hbe (Option.some.inj h).symm)).trans ht
  exact ⟨Lib.cell_of_heap hp1 0, (Lib.cell_of_heap ht1 o).trans hold, Lib.frozen_of_heap ht1 o⟩

def takeNI (r : Rd) : Int × Rd := (IntKind.i64.wrap (rdVar r).1, if badI (rdVar r).1 = true then rdFail else (rdVar r).2)
set_option maxRecDepth 100000 in
set_option maxHeartbeats 4000000 in
theorem numI_take (b c e o : Nat) (r : Rd) (cs : Array Value) (t t2 : TypeId) (old : Int) (hbe : b ≠ e) (hbc : b ≠ c) (hce : c ≠ e) (hl : r.1.length ≤ 1099511627776) (w : World) (h : RdAt w b r) (hp : PtrAt w c e o t)
    (ht : w.heap[e]? = some (.cells cs t2 (0, 0))) (hold : cs[o]? = some (.int .i64 old)) :
    Calls Tryz.prog 101 #[.pointer (some ⟨b, 0, none⟩), .pointer (some ⟨c, 0, none⟩)] w fun x w' => x = .returned (.tuple #[]) ∧ RdAt w' b (takeNI r).2 ∧
      w'.heap[e]? = some (.cells (cs.setIfInBounds o (.int .i64 (takeNI r).1)) t2 (0, 0)) ∧ But2 b e w w' := by
  have HV := Lib.hid (var_any b r hl w h)
  have hdef : takeNI r = (IntKind.i64.wrap (rdVar r).1, if badI (rdVar r).1 = true then rdFail else (rdVar r).2) := rfl
  generalize rdVar r = x at *
  obtain ⟨n, r2⟩ := x
  generalize takeNI r = y at *
  obtain ⟨yv, yr⟩ := y
  simp only [Prod.mk.injEq] at hdef
  obtain ⟨rfl, hyr⟩ := hdef
  have HY := Lib.hid hyr
  clear hyr
  clear h
  have hbad : badI n = ((n : Int) == 0 || decide (IntKind.i64.wrap n < 0) || !decide (IntKind.u64.wrap (IntKind.i64.wrap n) = n)) := by
    unfold badI
    congr 2
    by_cases h : n = 0
    · subst h; rfl
    · rw [show (n == 0) = false from beq_eq_false_iff_ne.2 h, show ((n : Int) == 0) = false from beq_eq_false_iff_ne.2 (by omega)]
  have HBAD := Lib.hid hbad
  clear hbad
  go_enter Tryz.func101, Tryz.ntmps101
  go_wp2_with fail
  refine HV.out.mono ?_
  rintro x w1 ⟨rfl, h1, hb1⟩
  obtain ⟨p0, q0, f0⟩ := But2.reads hbe hbc hb1 hp ht hold
  have hB := HBAD.out
  generalize hA : IntKind.i64.wrap (n : Int) = A at *
  obtain ⟨g1, g2, g3⟩ := But2.target (v := .int .i64 A) hbe hbc hce h1 hb1 hp ht
  have G1 := Lib.hid g1
  have G2 := Lib.hid g2
  have G3 := Lib.hid g3
  have HB := Lib.hid hB
  clear g1 g2 g3 h1 hb1 hp ht hB
  by_cases hn : n = 0
  · have HN := Lib.hid hn
    have hz : ((n : Int) == 0) = true := by rw [hn]; rfl
    clear hn
    go_wp2_with fail
    refine (fail_any b r2 _ G1.out).mono ?_
    rintro x w2 ⟨rfl, h2, hb2⟩
    have h4 := (hb2.block e (Array.getElem?_eq_some_iff.1 G2.out).1 (fun h => hbe (Option.some.inj h).symm)).trans G2.out
    go_wp2_with fail
    refine ⟨rfl, .tuple #[], results_none rfl _ _ _, rfl, ?_, by rw [hA]; exact h4, G3.out.trans (But2.ofBut hb2)⟩
    rw [HY.out, if_pos (by rw [HB.out, hz]; rfl)]
    exact h2
  · have hz : ((n : Int) == 0) = false := beq_eq_false_iff_ne.2 (by omega)
    clear hn
    have q1 : (w1.setCell ⟨e, o, none⟩ (.int .i64 A)).cell? ⟨c, 0, none⟩ = some (.pointer (some ⟨e, o, none⟩)) := by
      rw [← p0]
      exact World.cell?_setCell_far _ _ _ _ (Ne.symm hce)
    have q2 : (w1.setCell ⟨e, o, none⟩ (.int .i64 A)).cell? ⟨e, o, none⟩ = some (.int .i64 A) := by
      rw [Lib.cell_of_heap G2.out]
      have := (Array.getElem?_eq_some_iff.1 hold).1
      simp [this]
    by_cases h2 : IntKind.u64.wrap A = n
    · have h2b : (IntKind.u64.wrap A == (n : Int)) = true := beq_iff_eq.2 h2
      by_cases h3 : A < 0
      · have hb1 : badI n = true := by rw [HB.out]; simp [h3]
        have HB1 := Lib.hid hb1
        clear HB HBAD hb1
        go_wp2_with fail
        refine (fail_any b r2 _ G1.out).mono ?_
        rintro x w2 ⟨rfl, h2, hb2⟩
        have h4 := (hb2.block e (Array.getElem?_eq_some_iff.1 G2.out).1 (fun h => hbe (Option.some.inj h).symm)).trans G2.out
        go_wp2_with fail
        refine ⟨rfl, .tuple #[], results_none rfl _ _ _, rfl, ?_, by rw [hA]; exact h4, G3.out.trans (But2.ofBut hb2)⟩
        rw [HY.out, if_pos HB1.out]
        exact h2
      · have hb1 : ¬ badI n = true := by rw [HB.out, hz]; simp [h3, h2]
        have HB1 := Lib.hid hb1
        clear HB HBAD hb1
        go_wp2_with fail
        refine ⟨rfl, .tuple #[], results_none rfl _ _ _, rfl, ?_, by rw [hA]; exact G2.out, G3.out⟩
        rw [HY.out, if_neg HB1.out]
        exact G1.out
    · have h2b : (IntKind.u64.wrap A == (n : Int)) = false := beq_eq_false_iff_ne.2 h2
      have hb1 : badI n = true := by rw [HB.out]; simp [h2]
      have HB1 := Lib.hid hb1
      clear HB HBAD hb1
      go_wp2_with fail
      refine (fail_any b r2 _ G1.out).mono ?_
      rintro x w2 ⟨rfl, h2, hb2⟩
      have h4 := (hb2.block e (Array.getElem?_eq_some_iff.1 G2.out).1 (fun h => hbe (Option.some.inj h).symm)).trans G2.out
      go_wp2_with fail
      refine ⟨rfl, .tuple #[], results_none rfl _ _ _, rfl, ?_, by rw [hA]; exact h4, G3.out.trans (But2.ofBut hb2)⟩
      rw [HY.out, if_pos HB1.out]
      exact h2


/-- what a text's take leaves of the reader -/
def takeNT (r : Rd) : List UInt8 × Rd := ((rdText r).1, if (rdText r).1 = [] then rdFail else (rdText r).2)
set_option maxRecDepth 100000 in
set_option maxHeartbeats 4000000 in
theorem text_take (b c e o : Nat) (r : Rd) (cs : Array Value) (t t2 : TypeId) (old : ByteArray) (hbe : b ≠ e) (hbc : b ≠ c) (hce : c ≠ e) (hl : r.1.length ≤ 1099511627776) (w : World) (h : RdAt w b r) (hp : PtrAt w c e o t)
    (ht : w.heap[e]? = some (.cells cs t2 (0, 0))) (hold : cs[o]? = some (.string old)) :
    Calls Tryz.prog 106 #[.pointer (some ⟨b, 0, none⟩), .pointer (some ⟨c, 0, none⟩)] w fun x w' => x = .returned (.tuple #[]) ∧ RdAt w' b (takeNT r).2 ∧
      w'.heap[e]? = some (.cells (cs.setIfInBounds o (.string ⟨(takeNT r).1.toArray⟩)) t2 (0, 0)) ∧ But2 b e w w' := by
  have HV := Lib.hid (fun W hW => textRd_any b r hl W hW)
  have hdef : takeNT r = ((rdText r).1, if (rdText r).1 = [] then rdFail else (rdText r).2) := rfl
  generalize rdText r = x at *
  obtain ⟨d, r2⟩ := x
  generalize takeNT r = y at *
  obtain ⟨yv, yr⟩ := y
  simp only [Prod.mk.injEq] at hdef
  obtain ⟨rfl, hyr⟩ := hdef
  have HY := Lib.hid hyr
  clear hyr
  have hp0 : w.cell? ⟨c, 0, none⟩ = some (.pointer (some ⟨e, o, none⟩)) := Lib.cell_of_heap hp 0
  have hH := Lib.hid h
  have hHp := Lib.hid hp
  have hHt := Lib.hid ht
  clear h hp ht
  go_enter Tryz.func106, Tryz.ntmps106
  go_wp2_with fail
  have hS0 : w.drew.cell? ⟨c, 0, none⟩ = some (.pointer (some ⟨e, o, none⟩)) := hp0
  refine region_D (fun u => u.cell? ⟨c, 0, none⟩ = some (.pointer (some ⟨e, o, none⟩))) [4] 5 (by kernel_rfl) (by rfl) ?_
  refine takeD (i := 0) (v := .pointer (some ⟨e, o, none⟩)) (by rfl) (by kernel_rfl) (fun _ _ _ h => h) (by rfl) (fun u hu => by go_simp) hS0 ?_
  simp only [Act.put, List.setIfInBounds_toArray, List.set_cons_zero, List.set_cons_succ]
  refine takeD (i := 1) (v := .func (.func 107) #[.pointer (some ⟨b, 0, none⟩)] #[]) (by rfl) (by kernel_rfl) (fun _ _ _ h => h) (by rfl) (fun u hu => by go_simp) hS0 ?_
  simp only [Act.put, List.setIfInBounds_toArray, List.set_cons_zero, List.set_cons_succ]
  refine oneD (i := 2) (by rfl) (by kernel_rfl) (by rfl) ?_
  go_simp
  refine (HV.out w.drew hH.out).mono ?_
  rintro _ w1 ⟨rfl, h1, hb1⟩
  have hb1w : But b w w1 := ⟨hb1.os, hb1.tape, hb1.output, hb1.size, hb1.block⟩
  obtain ⟨p0, q0, f0⟩ := But2.reads hbe hbc hb1w hHp.out hHt.out hold
  obtain ⟨g1, g2, g3⟩ := But2.target (v := .string ⟨yv.toArray⟩) hbe hbc hce h1 hb1w hHp.out hHt.out
  refine ⟨p0, ?_⟩
  try simp only [Act.put, List.setIfInBounds_toArray, List.set_cons_zero, List.set_cons_succ]
  refine oneD (i := 3) (by rfl) (by kernel_rfl) (by rfl) ?_
  go_simp
  try simp only [Act.put, List.setIfInBounds_toArray, List.set_cons_zero, List.set_cons_succ]
  refine oneD (i := 4) (by rfl) (by kernel_rfl) (by rfl) ?_
  go_simp
  refine ⟨by kernel_rfl, NoPanic.normal ?_⟩
  try simp only [Act.put, List.setIfInBounds_toArray, List.set_cons_zero, List.set_cons_succ]
  have G1 := Lib.hid g1
  have G2 := Lib.hid g2
  have G3 := Lib.hid g3
  have q1 : (w1.setCell ⟨e, o, none⟩ (.string ⟨yv.toArray⟩)).cell? ⟨c, 0, none⟩ = some (.pointer (some ⟨e, o, none⟩)) := by
    rw [← p0]
    exact World.cell?_setCell_far _ _ _ _ (Ne.symm hce)
  have q2 : (w1.setCell ⟨e, o, none⟩ (.string ⟨yv.toArray⟩)).cell? ⟨e, o, none⟩ = some (.string ⟨yv.toArray⟩) := by
    rw [Lib.cell_of_heap G2.out]
    have := (Array.getElem?_eq_some_iff.1 hold).1
    simp [this]
  clear g1 g2 g3 h1 hb1 hb1w
  cases yv with
  | nil =>
    go_wp2_with fail
    refine (fail_any b r2 _ G1.out).mono ?_
    rintro x w2 ⟨rfl, h2, hb2⟩
    have h4 := (hb2.block e (Array.getElem?_eq_some_iff.1 G2.out).1 (fun h => hbe (Option.some.inj h).symm)).trans G2.out
    go_wp2_with fail
    refine ⟨rfl, .tuple #[], results_none rfl _ _ _, rfl, ?_, h4, G3.out.trans (But2.ofBut hb2)⟩
    rw [HY.out, if_pos trivial]
    exact h2
  | cons y0 yl =>
    go_wp2_with fail
    refine ⟨rfl, .tuple #[], results_none rfl _ _ _, rfl, ?_, G2.out, G3.out⟩
    rw [HY.out, if_neg (by simp)]
    exact G1.out

set_option maxRecDepth 100000 in
set_option maxHeartbeats 4000000 in
theorem flag_take (b c e o : Nat) (r : Rd) (cs : Array Value) (t t2 : TypeId) (old : Bool) (hbe : b ≠ e) (hbc : b ≠ c) (hce : c ≠ e) (hl : r.1.length ≤ 1099511627776) (w : World) (h : RdAt w b r) (hp : PtrAt w c e o t)
    (ht : w.heap[e]? = some (.cells cs t2 (0, 0))) (hold : cs[o]? = some (.bool old)) :
    Calls Tryz.prog 109 #[.pointer (some ⟨b, 0, none⟩), .pointer (some ⟨c, 0, none⟩)] w fun x w' => x = .returned (.tuple #[]) ∧ RdAt w' b (if badF (rdVar r).1 = true then rdFail else (rdVar r).2) ∧
      w'.heap[e]? = some (.cells (cs.setIfInBounds o (.bool ((rdVar r).1 == 1))) t2 (0, 0)) ∧ But2 b e w w' := by
  have HV := Lib.hid (fun W hW => var_any b r hl W hW)
  generalize rdVar r = x at *
  obtain ⟨n, r2⟩ := x
  have hp0 : w.cell? ⟨c, 0, none⟩ = some (.pointer (some ⟨e, o, none⟩)) := Lib.cell_of_heap hp 0
  generalize hyr : (if badF n = true then rdFail else r2) = yr at *
  have HY := Lib.hid hyr
  have hH := Lib.hid h
  have hHp := Lib.hid hp
  have hHt := Lib.hid ht
  clear h hp ht hyr
  go_enter Tryz.func109, Tryz.ntmps109
  go_wp2_with fail
  have hS0 : w.drew.cell? ⟨c, 0, none⟩ = some (.pointer (some ⟨e, o, none⟩)) := hp0
  refine region_D (fun u => u.cell? ⟨c, 0, none⟩ = some (.pointer (some ⟨e, o, none⟩))) [5] 6 (by kernel_rfl) (by rfl) ?_
  refine takeD (i := 0) (v := .pointer (some ⟨e, o, none⟩)) (by rfl) (by kernel_rfl) (fun _ _ _ h => h) (by rfl) (fun u hu => by go_simp) hS0 ?_
  simp only [Act.put, List.setIfInBounds_toArray, List.set_cons_zero, List.set_cons_succ]
  refine takeD (i := 1) (v := .pointer (some ⟨b, 0, none⟩)) (by rfl) (by kernel_rfl) (fun _ _ _ h => h) (by rfl) (fun u hu => by go_simp) hS0 ?_
  simp only [Act.put, List.setIfInBounds_toArray, List.set_cons_zero, List.set_cons_succ]
  refine oneD (i := 2) (by rfl) (by kernel_rfl) (by rfl) ?_
  go_simp
  refine (HV.out w.drew hH.out).mono ?_
  rintro _ w1 ⟨rfl, h1, hb1⟩
  have hb1w : But b w w1 := ⟨hb1.os, hb1.tape, hb1.output, hb1.size, hb1.block⟩
  obtain ⟨p0, q0, f0⟩ := But2.reads hbe hbc hb1w hHp.out hHt.out hold
  refine ⟨p0, ?_⟩
  try simp only [Act.put, List.setIfInBounds_toArray, List.set_cons_zero, List.set_cons_succ]
  refine oneD (i := 3) (by rfl) (by kernel_rfl) (by rfl) ?_
  go_simp
  try simp only [Act.put, List.setIfInBounds_toArray, List.set_cons_zero, List.set_cons_succ]
  refine oneD (i := 4) (by rfl) (by kernel_rfl) (by rfl) ?_
  go_simp
  try simp only [Act.put, List.setIfInBounds_toArray, List.set_cons_zero, List.set_cons_succ]
  refine oneD (i := 5) (by rfl) (by kernel_rfl) (by rfl) ?_
  go_simp
  refine ⟨by kernel_rfl, NoPanic.normal ?_⟩
  try simp only [Act.put, List.setIfInBounds_toArray, List.set_cons_zero, List.set_cons_succ]
  have hn1 : ((n : Int) == 1) = (n == 1) := by
    by_cases h : n = 1
    · subst h; rfl
    · rw [beq_eq_false_iff_ne.2 h]; exact beq_eq_false_iff_ne.2 (by omega)
  obtain ⟨g1, g2, g3⟩ := But2.target (v := .bool (n == 1)) hbe hbc hce h1 hb1w hHp.out hHt.out
  have G1 := Lib.hid g1
  have G2 := Lib.hid g2
  have G3 := Lib.hid g3
  have q1 : (w1.setCell ⟨e, o, none⟩ (.bool (n == 1))).cell? ⟨c, 0, none⟩ = some (.pointer (some ⟨e, o, none⟩)) := by
    rw [← p0]
    exact World.cell?_setCell_far _ _ _ _ (Ne.symm hce)
  have q2 : (w1.setCell ⟨e, o, none⟩ (.bool (n == 1))).cell? ⟨e, o, none⟩ = some (.bool (n == 1)) := by
    rw [Lib.cell_of_heap G2.out]
    have := (Array.getElem?_eq_some_iff.1 hold).1
    simp [this]
  rw [hn1]
  have hbf : badF n = !(n == 1) := rfl
  have HBF := Lib.hid hbf
  clear g1 g2 g3 h1 hb1 hb1w hn1 hbf
  cases h : (n == 1)
  · rw [h] at G1 G2 G3 q1 q2 HBF
    go_wp2_with fail
    refine (fail_any b r2 _ G1.out).mono ?_
    rintro x w2 ⟨rfl, h2, hb2⟩
    have h4 := (hb2.block e (Array.getElem?_eq_some_iff.1 G2.out).1 (fun h => hbe (Option.some.inj h).symm)).trans G2.out
    go_wp2_with fail
    refine ⟨rfl, .tuple #[], results_none rfl _ _ _, rfl, ?_, by rw [h]; exact h4, G3.out.trans (But2.ofBut hb2)⟩
    rw [← HY.out, if_pos (by rw [HBF.out]; rfl)]
    exact h2
  · rw [h] at G1 G2 G3 q1 q2 HBF
    go_wp2_with fail
    refine ⟨rfl, .tuple #[], results_none rfl _ _ _, rfl, ?_, by rw [h]; exact G2.out, G3.out⟩
    rw [← HY.out, if_neg (by rw [HBF.out]; decide)]
    exact G1.out

end Go.Proofs.YtbjbgdnjcppjhaaGreatDoor
