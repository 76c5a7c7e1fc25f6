/-
  second.none, number[uint64], number[int]: a field over a number, by the cell that its pointer names. Conditions: as each theorem says. By an AI agent.
-/
import Derived.Test.YtbjbgdnjcppjhaaGreatDoorVarText
import Derived.Test.YtbjbgdnjcppjhaaGreatDoorSecQ
import Derived.Laws.EntriesVeiled
import Derived.Test.YtbjbgdnjcppjhaaGreatDoorRegion
import Derived.Test.YtbjbgdnjcppjhaaGreatDoorHeld
import Derived.Test.YtbjbgdnjcppjhaaGreatDoorRight
namespace Go.Proofs.YtbjbgdnjcppjhaaGreatDoor
open Go.RowKit Go.Sort
set_option linter.unusedVariables false
set_option linter.unusedSimpArgs false

set_option maxHeartbeats 1000000 in
theorem none_any (z : Bool) (s : ByteArray) (w : World) :
    Calls Tryz.prog 100 #[.bool z, .string s] w fun x w' => x = .returned (.string (if z then ⟨#[]⟩ else s)) ∧ w' = w := by
  cases z
  · go_enter Tryz.func100, Tryz.ntmps100
    go_wp2_with fail
    go_ret
    exact ⟨rfl, by first | rfl | trivial⟩
  · go_enter Tryz.func100, Tryz.ntmps100
    go_wp2_with fail
    go_ret
    exact ⟨rfl, by first | rfl | trivial⟩

/-- the box of a pointer -/
def PtrAt (w : World) (c e o : Nat) (t : TypeId) : Prop := w.heap[c]? = some (.cells #[.pointer (some ⟨e, o, none⟩)] t (0, 0))

set_option maxRecDepth 100000 in
set_option maxHeartbeats 1000000 in
theorem numU_make (e o : Nat) (w : World) :
    Calls Tryz.prog 68 #[.pointer (some ⟨e, o, none⟩)] w fun x w' => x = .returned (.agg #[.func (.func 102) #[] #[.pointer (some ⟨w.heap.size, 0, none⟩)], .func (.func 103) #[] #[.pointer (some ⟨w.heap.size, 0, none⟩)]]) ∧ PtrAt w' w.heap.size e o 122 ∧ Below w.heap.size w w' ∧ w.heap.size < w'.heap.size := by
  go_enter Tryz.func68, Tryz.ntmps68
  go_wp2_with fail
  have hz := heap_alloc_new (w.alloc (.cells #[.pointer (some ⟨e, o, none⟩)] 122)) (.cells #[.func (.func 102) #[] #[.pointer (some ⟨w.heap.size, 0, none⟩)], .func (.func 103) #[] #[.pointer (some ⟨w.heap.size, 0, none⟩)]] 117)
  simp only [World.size_alloc] at hz
  refine bodyPost_ret (results_cell_row rfl _ _ (w.heap.size + 1) 117 _ (0, 0) _ rfl hz Tryz.underlying117 rfl (by kernel_rfl)) rfl ?_
  refine ⟨rfl, ?_, ((Below.refl _ _).alloc (Nat.le_refl _) _).alloc (by simp) _, by simp; omega⟩
  unfold PtrAt
  rw [Below.heap_alloc _ _ _ (by simp)]
  exact heap_alloc_new w _

set_option maxRecDepth 100000 in
set_option maxHeartbeats 1000000 in
theorem numI_make (e o : Nat) (w : World) :
    Calls Tryz.prog 67 #[.pointer (some ⟨e, o, none⟩)] w fun x w' => x = .returned (.agg #[.func (.func 99) #[] #[.pointer (some ⟨w.heap.size, 0, none⟩)], .func (.func 101) #[] #[.pointer (some ⟨w.heap.size, 0, none⟩)]]) ∧ PtrAt w' w.heap.size e o 120 ∧ Below w.heap.size w w' ∧ w.heap.size < w'.heap.size := by
  go_enter Tryz.func67, Tryz.ntmps67
  go_wp2_with fail
  have hz := heap_alloc_new (w.alloc (.cells #[.pointer (some ⟨e, o, none⟩)] 120)) (.cells #[.func (.func 99) #[] #[.pointer (some ⟨w.heap.size, 0, none⟩)], .func (.func 101) #[] #[.pointer (some ⟨w.heap.size, 0, none⟩)]] 117)
  simp only [World.size_alloc] at hz
  refine bodyPost_ret (results_cell_row rfl _ _ (w.heap.size + 1) 117 _ (0, 0) _ rfl hz Tryz.underlying117 rfl (by kernel_rfl)) rfl ?_
  refine ⟨rfl, ?_, ((Below.refl _ _).alloc (Nat.le_refl _) _).alloc (by simp) _, by simp; omega⟩
  unfold PtrAt
  rw [Below.heap_alloc _ _ _ (by simp)]
  exact heap_alloc_new w _

set_option maxRecDepth 100000 in
set_option maxHeartbeats 2000000 in
theorem numU_put (c e o n : Nat) (t : TypeId) (hn : n < 18446744073709551616) (w : World) (hp : PtrAt w c e o t) (hcell : w.cell? ⟨e, o, none⟩ = some (.int .u64 n)) :
    Calls Tryz.prog 102 #[.pointer (some ⟨c, 0, none⟩)] w fun x w' => x = .returned (.string ⟨(numL n).toArray⟩) ∧ Below w.heap.size w w' := by
  have hc : w.cell? ⟨c, 0, none⟩ = some (.pointer (some ⟨e, o, none⟩)) := Lib.cell_of_heap hp 0
  have g0 := cell_regrown hc
  have g1 := cell_regrown hcell
  have hput := fun W => put_any n hn W
  have hnone : ∀ W, Calls Tryz.prog 100 #[.bool ((n : Int) == 0), .string ⟨(varL n).toArray⟩] W fun x W' => x = .returned (.string ⟨(numL n).toArray⟩) ∧ W = W' := fun W => (none_any _ _ W).mono fun x w' ⟨h1, h2⟩ => ⟨by
    rw [h1]
    unfold numL
    by_cases h : n = 0
    · subst h; rfl
    · rw [if_neg h, show ((n : Int) == 0) = false from beq_eq_false_iff_ne.2 (by omega)]; rfl, h2.symm⟩
  generalize varL n = v at *
  generalize numL n = r at *
  clear hp
  go_enter Tryz.func102, Tryz.ntmps102
  go_wp2_with fail
  refine wp_region_quiet_below (by kernel_rfl) (by kernel_rfl) ?_
  repeat (go_big_quiet_step (first | (go_at_call 66; exact meetB fun U hb => hput U) | (go_at_call 100; exact meet_same hnone)))
  refine wpQuiet_nil ?_
  intro u hu
  obtain ⟨p, hu⟩ := hu
  have hbu := below_regrown w p.d p.os
  rw [← hu] at hbu
  clear hu g0 g1 hput hnone
  go_wp2_with fail
  go_ret
  exact ⟨rfl, hbu⟩

set_option maxRecDepth 100000 in
set_option maxHeartbeats 2000000 in
theorem numI_put (c e o n : Nat) (t : TypeId) (hn : n ≤ 9223372036854775807) (w : World) (hp : PtrAt w c e o t) (hcell : w.cell? ⟨e, o, none⟩ = some (.int .i64 n)) :
    Calls Tryz.prog 99 #[.pointer (some ⟨c, 0, none⟩)] w fun x w' => x = .returned (.string ⟨(numL n).toArray⟩) ∧ Below w.heap.size w w' := by
  have hc : w.cell? ⟨c, 0, none⟩ = some (.pointer (some ⟨e, o, none⟩)) := Lib.cell_of_heap hp 0
  have g0 := cell_regrown hc
  have g1 := cell_regrown hcell
  have hput := fun W => put_any n (by omega) W
  have hnone : ∀ W, Calls Tryz.prog 100 #[.bool ((n : Int) == 0), .string ⟨(varL n).toArray⟩] W fun x W' => x = .returned (.string ⟨(numL n).toArray⟩) ∧ W = W' := fun W => (none_any _ _ W).mono fun x w' ⟨h1, h2⟩ => ⟨by
    rw [h1]
    unfold numL
    by_cases h : n = 0
    · subst h; rfl
    · rw [if_neg h, show ((n : Int) == 0) = false from beq_eq_false_iff_ne.2 (by omega)]; rfl, h2.symm⟩
  generalize varL n = v at *
  generalize numL n = r at *
  clear hp
  go_enter Tryz.func99, Tryz.ntmps99
  go_wp2_with fail
  refine wp_region_quiet_below (by kernel_rfl) (by kernel_rfl) ?_
  repeat (go_big_quiet_step (first | (go_at_call 66; exact meetB fun U hb => hput U) | (go_at_call 100; exact meet_same hnone)))
  refine wpQuiet_nil ?_
  intro u hu
  obtain ⟨p, hu⟩ := hu
  have hbu := below_regrown w p.d p.os
  rw [← hu] at hbu
  clear hu g0 g1 hput hnone
  go_wp2_with fail
  go_ret
  exact ⟨rfl, hbu⟩

end Go.Proofs.YtbjbgdnjcppjhaaGreatDoor

/-
  second.number[uint64]'s take closure: a number is read into the target. Conditions: as each theorem says. By an AI agent.
-/
namespace Go.Proofs.YtbjbgdnjcppjhaaGreatDoor
open Go.RowKit Go.Sort
set_option linter.unusedVariables false
set_option linter.unusedSimpArgs false

/-- what a number's take leaves of the reader -/
def takeN (r : Rd) : Nat × Rd := ((rdVar r).1, if (rdVar r).1 = 0 then rdFail else (rdVar r).2)

/-- all is as it was, but for two blocks, and new blocks -/
structure But2 (b e : Nat) (w w' : World) : Prop where
  os : w'.os = w.os
  tape : w'.tape = w.tape
  output : w'.output = w.output
  size : w.heap.size ≤ w'.heap.size
  block : ∀ k, k < w.heap.size → k ≠ b → k ≠ e → w'.heap[k]? = w.heap[k]?
theorem But2.ofBut {b e : Nat} {w w' : World} (h : But b w w') : But2 b e w w' := ⟨h.os, h.tape, h.output, h.size, fun k hk h1 _ => h.block k hk (fun h2 => h1 (Option.some.inj h2))⟩
theorem But2.set {b e o : Nat} {w : World} {v : Value} : But2 b e w (w.setCell ⟨e, o, none⟩ v) := by
  refine ⟨rfl, rfl, rfl, by simp [World.setCell], fun k _ _ h2 => ?_⟩
  have : e ≠ k := fun h => h2 h.symm
  simp [World.setCell, Array.getElem?_modify, this]
theorem But2.trans {b e : Nat} {w w' w'' : World} (h : But2 b e w w') (g : But2 b e w' w'') : But2 b e w w'' :=
  ⟨g.os.trans h.os, g.tape.trans h.tape, g.output.trans h.output, Nat.le_trans h.size g.size, fun k hk h1 h2 => (g.block k (Nat.lt_of_lt_of_le hk h.size) h1 h2).trans (h.block k hk h1 h2)⟩

set_option maxRecDepth 100000 in
set_option maxHeartbeats 4000000 in
theorem numU_take (b c e o : Nat) (r : Rd) (cs : Array Value) (t t2 : TypeId) (old : Int) (hbe : b ≠ e) (hbc : b ≠ c) (hce : c ≠ e) (hl : r.1.length ≤ 1099511627776) (w : World) (h : RdAt w b r) (hp : PtrAt w c e o t)
    (ht : w.heap[e]? = some (.cells cs t2 (0, 0))) (hold : cs[o]? = some (.int .u64 old)) :
    Calls Tryz.prog 103 #[.pointer (some ⟨b, 0, none⟩), .pointer (some ⟨c, 0, none⟩)] w fun x w' => x = .returned (.tuple #[]) ∧ RdAt w' b (takeN r).2 ∧
      w'.heap[e]? = some (.cells (cs.setIfInBounds o (.int .u64 (takeN r).1)) t2 (0, 0)) ∧ But2 b e w w' := by
  have hlc : c < w.heap.size := (Array.getElem?_eq_some_iff.1 hp).1
  have hle : e < w.heap.size := (Array.getElem?_eq_some_iff.1 ht).1
  have HV := Lib.hid (var_any b r hl w h)
  have hdef : takeN r = ((rdVar r).1, if (rdVar r).1 = 0 then rdFail else (rdVar r).2) := rfl
  generalize takeN r = y at *
  subst hdef
  generalize rdVar r = x at *
  obtain ⟨n, r2⟩ := x
  clear h
  go_enter Tryz.func103, Tryz.ntmps103
  go_wp2_with fail
  refine HV.out.mono ?_
  rintro x w1 ⟨rfl, h1, hb1⟩
  have hp1 : PtrAt w1 c e o t := (hb1.block c hlc (fun h => hbc (Option.some.inj h).symm)).trans hp
  have ht1 := (hb1.block e hle (fun h => hbe (Option.some.inj h).symm)).trans ht
  have p0 : w1.cell? ⟨c, 0, none⟩ = some (.pointer (some ⟨e, o, none⟩)) := Lib.cell_of_heap hp1 0
  have q0 : w1.cell? ⟨e, o, none⟩ = some (.int .u64 old) := (Lib.cell_of_heap ht1 o).trans hold
  have f0 : w1.frozen? ⟨e, o, none⟩ = false := Lib.frozen_of_heap ht1 o
  have HH1 := Lib.hid h1
  have HT1 := Lib.hid ht1
  have HB1 := Lib.hid hb1
  clear h1 ht1 hb1 hp1 hp ht
  have hset : (w1.setCell ⟨e, o, none⟩ (.int .u64 n)).heap[e]? = some (.cells (cs.setIfInBounds o (.int .u64 n)) t2 (0, 0)) := by
    simp [World.setCell, Array.getElem?_modify, HT1.out]
  have hrd : RdAt (w1.setCell ⟨e, o, none⟩ (.int .u64 n)) b r2 := by
    have h := HH1.out
    unfold RdAt at h ⊢
    simp [World.setCell, Array.getElem?_modify, h, Ne.symm hbe]
  have HSET := Lib.hid hset
  have HRD := Lib.hid hrd
  have HB2 := Lib.hid ((But2.ofBut HB1.out : But2 b e w w1).trans (But2.set (v := .int .u64 n) (o := o)))
  clear hset hrd
  by_cases hn : n = 0
  · have HN := Lib.hid hn
    have hz : ((n : Int) == 0) = true := by rw [hn]; rfl
    clear hn
    go_wp2_with fail
    refine (fail_any b r2 _ HRD.out).mono ?_
    rintro x w2 ⟨rfl, h2, hb2⟩
    have h4 := (hb2.block e (by have := (Array.getElem?_eq_some_iff.1 HSET.out).1; exact this) (fun h => hbe (Option.some.inj h).symm)).trans HSET.out
    go_wp2_with fail
    refine ⟨rfl, .tuple #[], results_none rfl _ _ _, rfl, ?_, ?_, HB2.out.trans (But2.ofBut hb2)⟩
    · first | exact h2 | (rw [if_pos HN.out]; exact h2)
    · rw [HN.out] at h4
      exact h4
  · have HN := Lib.hid hn
    have hz : ((n : Int) == 0) = false := beq_eq_false_iff_ne.2 (by omega)
    clear hn
    go_wp2_with fail
    refine ⟨rfl, .tuple #[], results_none rfl _ _ _, rfl, ?_, HSET.out, HB2.out⟩
    first | exact HRD.out | (rw [if_neg HN.out]; exact HRD.out)

end Go.Proofs.YtbjbgdnjcppjhaaGreatDoor

/-
  second.put over any list of fields: each field's bytes, behind its tag, and the end. Conditions: as the theorem says. By an AI agent.
-/
namespace Go.Proofs.YtbjbgdnjcppjhaaGreatDoor
open Go.RowKit Go.Sort
set_option linter.unusedVariables false
set_option linter.unusedSimpArgs false

theorem Bld.below {m b : Nat} {bs : List Value} {w w' : World} (h : Bld m b bs w) (hb : Below w.heap.size w w') : Bld m b bs w' := by
  obtain ⟨h1, h2, p, v, h3, h4, h5⟩ := h
  exact ⟨h1, Nat.le_trans h2 hb.size, p, v, h3, (hb.block _ (heap_lt h4)).trans h4, ownsRow_below h5 hb⟩
theorem bytes_strCells (l : List UInt8) : Lib.strCells ⟨l.toArray⟩ = Lib.byteCells l := rfl

set_option maxRecDepth 100000 in
set_option maxHeartbeats 4000000 in
theorem secPut_of (L cap : Nat) (n : Nat) (F G : Nat → FuncId) (V : Nat → Value) (bs : List (List UInt8)) (hlen : bs.length = n) (hn : n ≤ 1000) (hsz : (tagL 0 bs).length ≤ 1099511627776) (w : World)
    (hcell : ∀ k, k < n → w.cell? ⟨L, k * 2, none⟩ = some (.func (.func (F k)) #[] #[V k]) ∧ w.cell? ⟨L, k * 2 + 1, none⟩ = some (.func (.func (G k)) #[] #[V k]))
    (hent : ∀ k, k < n → ∀ (args : Array Value) (W : World), (callFunc (F k) args).run Tryz.prog W = .ok (.enter (F k) args) W)
    (hput : ∀ k (h : k < bs.length) (W : World), Below w.heap.size w W → Calls Tryz.prog (F k) #[V k] W fun x W' => x = .returned (.string ⟨bs[k].toArray⟩) ∧ Below W.heap.size W W') :
    Calls Tryz.prog 36 #[.slice (some ⟨L, 0, none⟩) n cap] w fun x w' => x = .returned (.string ⟨(tagL 0 bs).toArray⟩) ∧ Below w.heap.size w w' := by
  have HCELL := Lib.hid hcell
  have HENT := Lib.hid hent
  have HPUT := Lib.hid hput
  have HSZ := Lib.hid hsz
  clear hcell hent hput hsz
  go_enter Tryz.func36, Tryz.ntmps36
  go_wp2_with fail
  go_loopw [4, 5, 6, 9] (fun k4 f5 s6 i wr => ∃ (k : Nat) (acc : List UInt8), k ≤ n ∧ i = .int .i64 k ∧ Bld (w.heap.size + 1) w.heap.size (Lib.byteCells acc) wr ∧ Below w.heap.size w wr ∧ acc ++ tagL k (bs.drop k) = tagL 0 bs) (fun k4 f5 s6 i _ => n - (intOf i).toNat)
  case atStart => exact ⟨0, [], Nat.zero_le _, rfl, Bld.fresh w, (Below.refl _ _).alloc (Nat.le_refl _) _, rfl⟩
  case round =>
    obtain ⟨k, acc, hk, rfl, hbld, hbr, hinv⟩ := hrel
    by_cases hlt : k < n
    · have hltb : k < bs.length := by omega
      obtain ⟨hc0, hc1⟩ := HCELL.out k hlt
      have hc0 := cell_later hbr hc0
      have hc1 := cell_later hbr hc1
      have hd : bs.drop k = bs[k] :: bs.drop (k + 1) := List.drop_eq_getElem_cons hltb
      rw [hd, tagL] at hinv
      have hen := HENT.out k hlt
      have hpu := HPUT.out k hltb
      have HB := Lib.hid hbr
      have hbs := hbr.size
      have HBLD := Lib.hid hbld
      have HINV := Lib.hid hinv
      clear hd hbr hbld hinv
      generalize F k = fn at *
      generalize V k = cv at *
      generalize G k = gn at *
      generalize bs[k] = t at *
      have HPU := Lib.hid hpu
      clear hpu
      go_wp2_with fail
      have hb2 : Below w.heap.size w (wr.alloc (.cells #[.func (.func fn) #[] #[cv], .func (.func gn) #[] #[cv]] 117)) := HB.out.trans (((Below.refl _ _).alloc (Nat.le_refl _) _).mono hbs)
      refine (HPU.out _ hb2).mono ?_
      rintro x w3 ⟨rfl, hb3⟩
      have hb3w : Below w.heap.size w w3 := hb2.trans (hb3.mono hb2.size)
      have hbld3 : Bld (w.heap.size + 1) w.heap.size (Lib.byteCells acc) w3 := (HBLD.out.below ((Below.refl _ _).alloc (Nat.le_refl _) _)).below hb3
      have HB3 := Lib.hid hb3w
      have HBLD3 := Lib.hid hbld3
      clear hb2 hb3 hb3w hbld3 hc0 hc1
      by_cases ht : t = []
      · subst ht
        have hinv := HINV.out
        rw [if_pos rfl, List.nil_append] at hinv
        have HI2 := Lib.hid hinv
        clear hinv
        go_wp2_with fail
        go_roundw
        case rel => exact ⟨k + 1, acc, by omega, by go_num, HBLD3.out, HB3.out, HI2.out⟩
        case measure => simp [intOf]; omega
      · have hinv := HINV.out
        rw [if_neg ht, ← List.append_assoc] at hinv
        have hl := HSZ.out
        rw [← hinv] at hl
        have hvl : (acc ++ (varL (k + 1) ++ t)).length ≤ 1099511627776 := by
          rw [List.length_append] at hl
          omega
        have HVL := Lib.hid hvl
        have HI2 := Lib.hid hinv
        have hp : ∀ W, Calls Tryz.prog 66 #[.int .u64 ((k : Int) + 1)] W fun x w' => x = .returned (.string ⟨(varL (k + 1)).toArray⟩) ∧ Below W.heap.size W w' := fun W => put_any (k + 1) (by omega) W
        have HP := Lib.hid hp
        have hne : t.isEmpty = false := by cases t with
          | nil => exact absurd rfl ht
          | cons a l => rfl
        have hsum : acc.length + ((varL (k + 1)).length + t.length) ≤ 1099511627776 := by
          simpa [List.length_append] using hvl
        clear hinv hl hvl ht hp
        generalize varL (k + 1) = tg at *
        go_wp2_with fail
        refine (HP.out _).mono ?_
        rintro x w4 ⟨rfl, hb4⟩
        have hbld4 := HBLD3.out.below hb4
        have hb4w := HB3.out.trans (hb4.mono HB3.out.size)
        have HB4 := Lib.hid hb4w
        have HBLD4 := Lib.hid hbld4
        clear hb4 hb4w hbld4
        go_wp2_with fail
        have hcat : (⟨tg.toArray⟩ : ByteArray) ++ ⟨t.toArray⟩ = ⟨(tg ++ t).toArray⟩ := ByteArray.mk_append_mk tg t
        rw [hcat]
        refine (writeString_any _ _ _ ⟨(tg ++ t).toArray⟩ _ HBLD4.out (by rw [Lib.byteCells_length]; show acc.length + (tg ++ t).length ≤ _; rw [List.length_append]; omega)).mono ?_
        rintro x w5 ⟨rfl, hbld5, hk5⟩
        have hb5 : Below w.heap.size w w5 := HB4.out.trans (hk5.below (Nat.le_refl _) (by omega) HB4.out.size)
        rw [bytes_strCells] at hbld5
        have hbld6 : Bld (w.heap.size + 1) w.heap.size (Lib.byteCells (acc ++ (tg ++ t))) w5 := by
          have : Lib.byteCells (acc ++ (tg ++ t)) = Lib.byteCells acc ++ Lib.byteCells (tg ++ t) := by simp [Lib.byteCells]
          rw [this]
          exact hbld5
        have HB5 := Lib.hid hb5
        have HBLD5 := Lib.hid hbld6
        clear hbld5 hbld6 hb5 hk5 hcat
        go_wp2_with fail
        go_roundw
        case rel => exact ⟨k + 1, acc ++ (tg ++ t), by omega, by go_num, HBLD5.out, HB5.out, HI2.out⟩
        case measure => simp [intOf]; omega
    · have hsum : acc.length + 1 ≤ 1099511627776 := by
        have h := HSZ.out
        rw [← hinv, List.drop_eq_nil_of_le (by omega)] at h
        simpa [tagL] using h
      have hfin : acc ++ [0] = tagL 0 bs := by
        rw [← hinv, List.drop_eq_nil_of_le (by omega)]
        rfl
      have hbl := hbld.isBuilder (Nat.le_refl _)
      have hstr := Tryz.Builder_String_any w.heap.size w.heap.size acc wr hbl hbr.size
      have HF := Lib.hid hfin
      have HB := Lib.hid hbr
      clear hfin hinv hbld hbr hbl
      go_wp2_with fail
      refine hstr.mono ?_
      rintro x w1 ⟨rfl, hb1⟩
      go_wp2_with fail
      go_ret
      refine ⟨?_, HB.out.trans hb1⟩
      rw [← HF.out]
      exact congrArg (fun z => Ending.returned (Value.string z)) (ByteArray.mk_append_mk acc [0])

end Go.Proofs.YtbjbgdnjcppjhaaGreatDoor

/-
  second.get over any list of fields and any state: it takes as getL says. Conditions: as the theorem says. By an AI agent.
-/
namespace Go.Proofs.YtbjbgdnjcppjhaaGreatDoor
open Go.RowKit Go.Sort
set_option linter.unusedVariables false
set_option linter.unusedSimpArgs false

set_option maxRecDepth 100000 in
set_option maxHeartbeats 4000000 in
theorem secGet_of {σ : Type} (T : List (Take σ)) (hT : ∀ t ∈ T, Fine t) (St : Nat → World → σ → Prop) (b L cap : Nat) (m : Nat) (F : Nat → FuncId) (V : Nat → Value) (hlen : T.length = m) (hn : m ≤ 1000)
    (hcell : ∀ la w s, la ≤ m → St la w s → ∀ k, k < m → w.cell? ⟨L, k * 2 + 1, none⟩ = some (.func (.func (F k)) #[] #[V k]))
    (hent : ∀ k, k < m → ∀ (args : Array Value) (W : World), (callFunc (F k) args).run Tryz.prog W = .ok (.enter (F k) args) W)
    (hbut : ∀ la w w' s, St la w s → But b w w' → St la w' s)
    (htake : ∀ k (h : k < T.length) la w s r, la ≤ k → St la w s → RdAt w b r → r.1.length ≤ 1099511627776 → Calls Tryz.prog (F k) #[.pointer (some ⟨b, 0, none⟩), V k] w fun x w' => x = .returned (.tuple #[]) ∧ RdAt w' b (T[k] s r).2 ∧ St (k + 1) w' (T[k] s r).1)
    (s0 : σ) (r0 : Rd) (hr0 : r0.1.length ≤ 1099511627776) (w : World) (hs0 : St 0 w s0) (h0 : RdAt w b r0) :
    Calls Tryz.prog 39 #[.pointer (some ⟨b, 0, none⟩), .slice (some ⟨L, 0, none⟩) m cap] w fun x w' => x = .returned (.tuple #[]) ∧ RdAt w' b (getL T 0 s0 r0).2 ∧ ∃ la, la ≤ m ∧ St la w' (getL T 0 s0 r0).1 := by
  have HCELL := Lib.hid hcell
  have HENT := Lib.hid hent
  have HBUT := Lib.hid hbut
  have HTAKE := Lib.hid htake
  have HFINE := Lib.hid hT
  have HS0 := Lib.hid hs0
  clear hcell hent hbut htake hT hs0
  have HV := Lib.hid (fun r hl W h => var_any b r hl W h)
  go_enter Tryz.func39, Tryz.ntmps39
  go_wp2_with fail
  refine (HV.out r0 hr0 _ h0).mono ?_
  rintro x w1 ⟨rfl, h1, hb1⟩
  have HS1 := Lib.hid (HBUT.out _ _ _ _ HS0.out hb1)
  have H1 := Lib.hid h1
  clear h1 hb1 HS0 h0
  go_wp2_with fail
  go_loopw [4, 5] (fun last tag wr => ∃ (la : Nat) (s : σ) (r : Rd), la ≤ T.length ∧ r.1.length ≤ 1099511627776 ∧ last = .int .u64 la ∧ tag = .int .u64 (rdVar r).1 ∧ RdAt wr b (rdVar r).2 ∧ St la wr s ∧ getL T la s r = getL T 0 s0 r0) (fun last tag _ => T.length + 1 - (intOf last).toNat)
  case atStart => exact ⟨0, s0, r0, Nat.zero_le _, hr0, rfl, rfl, H1.out, HS1.out, rfl⟩
  case round =>
    obtain ⟨la, s, r, hla, hrl, rfl, rfl, hrd, hst, hinv⟩ := hrel
    have hless := rdVar_less r
    have HEQ := Lib.hid (fun n x (h : rdVar r = (n, x)) => getL_eq T la s r h)
    generalize hx : rdVar r = x at *
    obtain ⟨n, v⟩ := x
    have HE := Lib.hid (HEQ.out n v rfl)
    have HINV := Lib.hid hinv
    have HRD := Lib.hid hrd
    have HST := Lib.hid hst
    simp only at hless
    have hvl : v.1.length ≤ 1099511627776 := Nat.le_trans hless hrl
    clear HEQ hinv hx hrd hst
    by_cases hz : n = 0
    · have HZ := Lib.hid hz
      have hz2 : ¬ ((0 : Int) < (n : Int)) := by omega
      clear hz
      go_wp2_with fail
      refine ⟨rfl, .tuple #[], results_none rfl _ _ _, rfl, ?_, ?_⟩
      · rw [← HINV.out, HE.out, if_pos HZ.out]; exact HRD.out
      · rw [← HINV.out, HE.out, if_pos HZ.out]; exact ⟨la, by omega, HST.out⟩
    · obtain ⟨j, rfl⟩ : ∃ j, n = j + 1 := ⟨n - 1, by omega⟩
      have hpos : (0 : Int) < ((j + 1 : Nat) : Int) := by omega
      rw [if_neg hz] at HE
      clear hz
      have HF := Lib.hid (fail_any b v _ HRD.out)
      by_cases hle : j + 1 ≤ la
      · have hle2 : ((j + 1 : Nat) : Int) ≤ (la : Int) := by omega
        have HE2 := Lib.hid (HE.out.trans (dif_pos (.inl hle)))
        go_wp2_with fail
        refine HF.out.mono ?_
        rintro x w2 ⟨rfl, h2, hb2⟩
        go_wp2_with fail
        refine ⟨rfl, .tuple #[], results_none rfl _ _ _, rfl, ?_, ?_⟩
        · rw [← HINV.out, HE2.out]; exact h2
        · rw [← HINV.out, HE2.out]; exact ⟨la, by omega, HBUT.out _ _ _ _ HST.out hb2⟩
      · have hle2 : ¬ ((j + 1 : Nat) : Int) ≤ (la : Int) := by omega
        by_cases hgt : m < j + 1
        · have hgt2 : ((m : Nat) : Int) < ((j + 1 : Nat) : Int) := by omega
          have HE2 := Lib.hid (HE.out.trans (dif_pos (.inr (by omega))))
          go_wp2_with fail
          refine HF.out.mono ?_
          rintro x w2 ⟨rfl, h2, hb2⟩
          go_wp2_with fail
          refine ⟨rfl, .tuple #[], results_none rfl _ _ _, rfl, ?_, ?_⟩
          · rw [← HINV.out, HE2.out]; exact h2
          · rw [← HINV.out, HE2.out]; exact ⟨la, by omega, HBUT.out _ _ _ _ HST.out hb2⟩
        · have hgt2 : ¬ ((m : Nat) : Int) < ((j + 1 : Nat) : Int) := by omega
          have hjT : j < T.length := by omega
          have HE2 : Hid (getL T la s r = getL T (j + 1) (T[j] s v).1 (T[j] s v).2) := Lib.hid (HE.out.trans (dif_neg (by omega)))
          have hcj := HCELL.out la _ _ (by omega) HST.out j (by omega)
          have hej := HENT.out j (by omega)
          have HTK := Lib.hid (HTAKE.out j hjT la wr s v (by omega) HST.out HRD.out hvl)
          have hshr := (HFINE.out _ (List.getElem_mem hjT)).shrink s v
          clear HE
          generalize T[j] s v = y at *
          generalize F j = fn at *
          generalize V j = cv at *
          obtain ⟨s2, r2⟩ := y
          simp only at hshr
          go_wp2_with fail
          refine HTK.out.mono ?_
          rintro x w2 ⟨rfl, h2, hs2⟩
          go_wp2_with fail
          refine (HV.out r2 (by omega) _ h2).mono ?_
          rintro x w3 ⟨rfl, h3, hb3⟩
          have HS3 := Lib.hid (HBUT.out _ _ _ _ hs2 hb3)
          have H3 := Lib.hid h3
          clear h2 hs2 h3 hb3 hcj hej
          go_wp2_with fail
          go_roundw
          case rel => exact ⟨j + 1, s2, r2, by omega, by omega, rfl, rfl, H3.out, HS3.out, HE2.out.symm.trans HINV.out⟩
          case measure => simp [intOf]; omega

end Go.Proofs.YtbjbgdnjcppjhaaGreatDoor

/-
  second.text, second.flag: a field over a text, over a bool: what they answer, and both closures of each. Conditions: as each theorem says. By an AI agent.
-/
namespace Go.Proofs.YtbjbgdnjcppjhaaGreatDoor
open Go.RowKit Go.Sort
set_option linter.unusedVariables false
set_option linter.unusedSimpArgs false

set_option maxRecDepth 100000 in
set_option maxHeartbeats 1000000 in
theorem text_make (e o : Nat) (w : World) :
    Calls Tryz.prog 69 #[.pointer (some ⟨e, o, none⟩)] w fun x w' => x = .returned (.agg #[.func (.func 104) #[] #[.pointer (some ⟨w.heap.size, 0, none⟩)], .func (.func 106) #[] #[.pointer (some ⟨w.heap.size, 0, none⟩)]]) ∧ PtrAt w' w.heap.size e o 124 ∧ Below w.heap.size w w' ∧ w.heap.size < w'.heap.size := by
  go_enter Tryz.func69, Tryz.ntmps69
  go_wp2_with fail
  have hz := heap_alloc_new (w.alloc (.cells #[.pointer (some ⟨e, o, none⟩)] 124)) (.cells #[.func (.func 104) #[] #[.pointer (some ⟨w.heap.size, 0, none⟩)], .func (.func 106) #[] #[.pointer (some ⟨w.heap.size, 0, none⟩)]] 117)
  simp only [World.size_alloc] at hz
  refine bodyPost_ret (results_cell_row rfl _ _ (w.heap.size + 1) 117 _ (0, 0) _ rfl hz Tryz.underlying117 rfl (by kernel_rfl)) rfl ?_
  refine ⟨rfl, ?_, ((Below.refl _ _).alloc (Nat.le_refl _) _).alloc (by simp) _, by simp; omega⟩
  unfold PtrAt
  rw [Below.heap_alloc _ _ _ (by simp)]
  exact heap_alloc_new w _

set_option maxRecDepth 100000 in
set_option maxHeartbeats 1000000 in
theorem flag_make (e o : Nat) (w : World) :
    Calls Tryz.prog 71 #[.pointer (some ⟨e, o, none⟩)] w fun x w' => x = .returned (.agg #[.func (.func 108) #[] #[.pointer (some ⟨w.heap.size, 0, none⟩)], .func (.func 109) #[] #[.pointer (some ⟨w.heap.size, 0, none⟩)]]) ∧ PtrAt w' w.heap.size e o 128 ∧ Below w.heap.size w w' ∧ w.heap.size < w'.heap.size := by
  go_enter Tryz.func71, Tryz.ntmps71
  go_wp2_with fail
  have hz := heap_alloc_new (w.alloc (.cells #[.pointer (some ⟨e, o, none⟩)] 128)) (.cells #[.func (.func 108) #[] #[.pointer (some ⟨w.heap.size, 0, none⟩)], .func (.func 109) #[] #[.pointer (some ⟨w.heap.size, 0, none⟩)]] 117)
  simp only [World.size_alloc] at hz
  refine bodyPost_ret (results_cell_row rfl _ _ (w.heap.size + 1) 117 _ (0, 0) _ rfl hz Tryz.underlying117 rfl (by kernel_rfl)) rfl ?_
  refine ⟨rfl, ?_, ((Below.refl _ _).alloc (Nat.le_refl _) _).alloc (by simp) _, by simp; omega⟩
  unfold PtrAt
  rw [Below.heap_alloc _ _ _ (by simp)]
  exact heap_alloc_new w _

set_option maxRecDepth 100000 in
set_option maxHeartbeats 2000000 in
theorem text_put (c e o : Nat) (d : List UInt8) (t : TypeId) (hs : d.length ≤ 1099511627776) (w : World) (hp : PtrAt w c e o t) (hcell : w.cell? ⟨e, o, none⟩ = some (.string ⟨d.toArray⟩)) :
    Calls Tryz.prog 104 #[.pointer (some ⟨c, 0, none⟩)] w fun x w' => x = .returned (.string ⟨(textF d).toArray⟩) ∧ Below w.heap.size w w' := by
  have hc : w.cell? ⟨c, 0, none⟩ = some (.pointer (some ⟨e, o, none⟩)) := Lib.cell_of_heap hp 0
  have g0 := cell_regrown hc
  have g1 := cell_regrown hcell
  have hput := fun W => textPut_any d hs W
  have hnone : ∀ W, Calls Tryz.prog 100 #[.bool d.isEmpty, .string ⟨(varL d.length ++ d).toArray⟩] W fun x W' => x = .returned (.string ⟨(textF d).toArray⟩) ∧ W = W' := fun W => (none_any _ _ W).mono fun x w' ⟨h1, h2⟩ => ⟨by
    rw [h1]
    unfold textF
    cases d with
    | nil => rfl
    | cons a l => rw [if_neg (by simp)]; rfl, h2.symm⟩
  generalize varL d.length ++ d = v at *
  generalize textF d = r at *
  clear hp
  go_enter Tryz.func104, Tryz.ntmps104
  go_wp2_with fail
  refine wp_region_quiet_below (by kernel_rfl) (by kernel_rfl) ?_
  repeat (go_big_quiet_step (first | (go_at_call 105; exact meetB fun U hb => hput U) | (go_at_call 100; exact meet_same hnone)))
  refine wpQuiet_nil ?_
  intro u hu
  obtain ⟨p, hu⟩ := hu
  have hbu := below_regrown w p.d p.os
  rw [← hu] at hbu
  clear hu g0 g1 hput hnone
  go_wp2_with fail
  go_ret
  exact ⟨rfl, hbu⟩

set_option maxRecDepth 100000 in
set_option maxHeartbeats 2000000 in
theorem flag_put (c e o : Nat) (b : Bool) (t : TypeId) (w : World) (hp : PtrAt w c e o t) (hcell : w.cell? ⟨e, o, none⟩ = some (.bool b)) :
    Calls Tryz.prog 108 #[.pointer (some ⟨c, 0, none⟩)] w fun x w' => x = .returned (.string ⟨(flagL b).toArray⟩) ∧ Below w.heap.size w w' := by
  have hc : w.cell? ⟨c, 0, none⟩ = some (.pointer (some ⟨e, o, none⟩)) := Lib.cell_of_heap hp 0
  clear hp
  cases b
  · go_enter Tryz.func108, Tryz.ntmps108
    go_wp2_with fail
    refine (none_any true _ _).mono ?_
    rintro x w1 ⟨rfl, rfl⟩
    go_wp2_with fail
    go_ret
    exact ⟨rfl, Below.refl _ _⟩
  · go_enter Tryz.func108, Tryz.ntmps108
    go_wp2_with fail
    refine (none_any false _ _).mono ?_
    rintro x w1 ⟨rfl, rfl⟩
    go_wp2_with fail
    go_ret
    exact ⟨rfl, Below.refl _ _⟩

end Go.Proofs.YtbjbgdnjcppjhaaGreatDoor

/-
  second.number[int]'s, second.text's and second.flag's take closures. Conditions: as each theorem says. By an AI agent.
-/
namespace Go.Proofs.YtbjbgdnjcppjhaaGreatDoor
open Go.RowKit Go.Sort
set_option linter.unusedVariables false
set_option linter.unusedSimpArgs false

/-- what stands behind a store into the target -/
theorem But2.target {b c e o : Nat} {w w1 : World} {r2 : Rd} {cs : Array Value} {t t2 : TypeId} {v : Value} (hbe : b ≠ e) (hbc : b ≠ c) (hce : c ≠ e) (h1 : RdAt w1 b r2) (hb1 : But b w w1) (hp : PtrAt w c e o t) (ht : w.heap[e]? = some (.cells cs t2 (0, 0))) :
    RdAt (w1.setCell ⟨e, o, none⟩ v) b r2 ∧ (w1.setCell ⟨e, o, none⟩ v).heap[e]? = some (.cells (cs.setIfInBounds o v) t2 (0, 0)) ∧ But2 b e w (w1.setCell ⟨e, o, none⟩ v) := by
  have hle : e < w.heap.size := (Array.getElem?_eq_some_iff.1 ht).1
  have ht1 := (hb1.block e hle (fun h => hbe (Option.some.inj h).symm)).trans ht
  refine ⟨?_, ?_, (But2.ofBut hb1).trans But2.set⟩
  · unfold RdAt at h1 ⊢
    simp [World.setCell, Array.getElem?_modify, h1, Ne.symm hbe]
  · simp [World.setCell, Array.getElem?_modify, ht1]
theorem But2.reads {b c e o : Nat} {w w1 : World} {cs : Array Value} {t t2 : TypeId} {v : Value} (hbe : b ≠ e) (hbc : b ≠ c) (hb1 : But b w w1) (hp : PtrAt w c e o t) (ht : w.heap[e]? = some (.cells cs t2 (0, 0))) (hold : cs[o]? = some v) :
    w1.cell? ⟨c, 0, none⟩ = some (.pointer (some ⟨e, o, none⟩)) ∧ w1.cell? ⟨e, o, none⟩ = some v ∧ w1.frozen? ⟨e, o, none⟩ = false := by
  have hlc : c < w.heap.size := (Array.getElem?_eq_some_iff.1 hp).1
  have hle : e < w.heap.size := (Array.getElem?_eq_some_iff.1 ht).1
  have hp1 : PtrAt w1 c e o t := (hb1.block c hlc (fun h => hbc (Option.some.inj h).symm)).trans hp
  have ht1 := (hb1.block e hle (fun h => hbe (Option.some.inj h).symm)).trans ht
  exact ⟨Lib.cell_of_heap hp1 0, (Lib.cell_of_heap ht1 o).trans hold, Lib.frozen_of_heap ht1 o⟩

def takeNI (r : Rd) : Int × Rd := (IntKind.i64.wrap (rdVar r).1, if badI (rdVar r).1 = true then rdFail else (rdVar r).2)
set_option maxRecDepth 100000 in
set_option maxHeartbeats 4000000 in
theorem numI_take (b c e o : Nat) (r : Rd) (cs : Array Value) (t t2 : TypeId) (old : Int) (hbe : b ≠ e) (hbc : b ≠ c) (hce : c ≠ e) (hl : r.1.length ≤ 1099511627776) (w : World) (h : RdAt w b r) (hp : PtrAt w c e o t)
    (ht : w.heap[e]? = some (.cells cs t2 (0, 0))) (hold : cs[o]? = some (.int .i64 old)) :
    Calls Tryz.prog 101 #[.pointer (some ⟨b, 0, none⟩), .pointer (some ⟨c, 0, none⟩)] w fun x w' => x = .returned (.tuple #[]) ∧ RdAt w' b (takeNI r).2 ∧
      w'.heap[e]? = some (.cells (cs.setIfInBounds o (.int .i64 (takeNI r).1)) t2 (0, 0)) ∧ But2 b e w w' := by
  have HV := Lib.hid (var_any b r hl w h)
  have hdef : takeNI r = (IntKind.i64.wrap (rdVar r).1, if badI (rdVar r).1 = true then rdFail else (rdVar r).2) := rfl
  generalize rdVar r = x at *
  obtain ⟨n, r2⟩ := x
  generalize takeNI r = y at *
  obtain ⟨yv, yr⟩ := y
  simp only [Prod.mk.injEq] at hdef
  obtain ⟨rfl, hyr⟩ := hdef
  have HY := Lib.hid hyr
  clear hyr
  clear h
  have hbad : badI n = ((n : Int) == 0 || decide (IntKind.i64.wrap n < 0) || !decide (IntKind.u64.wrap (IntKind.i64.wrap n) = n)) := by
    unfold badI
    congr 2
    by_cases h : n = 0
    · subst h; rfl
    · rw [show (n == 0) = false from beq_eq_false_iff_ne.2 h, show ((n : Int) == 0) = false from beq_eq_false_iff_ne.2 (by omega)]
  have HBAD := Lib.hid hbad
  clear hbad
  go_enter Tryz.func101, Tryz.ntmps101
  go_wp2_with fail
  refine HV.out.mono ?_
  rintro x w1 ⟨rfl, h1, hb1⟩
  obtain ⟨p0, q0, f0⟩ := But2.reads hbe hbc hb1 hp ht hold
  have hB := HBAD.out
  generalize hA : IntKind.i64.wrap (n : Int) = A at *
  obtain ⟨g1, g2, g3⟩ := But2.target (v := .int .i64 A) hbe hbc hce h1 hb1 hp ht
  have G1 := Lib.hid g1
  have G2 := Lib.hid g2
  have G3 := Lib.hid g3
  have HB := Lib.hid hB
  clear g1 g2 g3 h1 hb1 hp ht hB
  by_cases hn : n = 0
  · have HN := Lib.hid hn
    have hz : ((n : Int) == 0) = true := by rw [hn]; rfl
    clear hn
    go_wp2_with fail
    refine (fail_any b r2 _ G1.out).mono ?_
    rintro x w2 ⟨rfl, h2, hb2⟩
    have h4 := (hb2.block e (Array.getElem?_eq_some_iff.1 G2.out).1 (fun h => hbe (Option.some.inj h).symm)).trans G2.out
    go_wp2_with fail
    refine ⟨rfl, .tuple #[], results_none rfl _ _ _, rfl, ?_, by rw [hA]; exact h4, G3.out.trans (But2.ofBut hb2)⟩
    rw [HY.out, if_pos (by rw [HB.out, hz]; rfl)]
    exact h2
  · have hz : ((n : Int) == 0) = false := beq_eq_false_iff_ne.2 (by omega)
    clear hn
    have q1 : (w1.setCell ⟨e, o, none⟩ (.int .i64 A)).cell? ⟨c, 0, none⟩ = some (.pointer (some ⟨e, o, none⟩)) := by
      rw [← p0]
      exact World.cell?_setCell_far _ _ _ _ (Ne.symm hce)
    have q2 : (w1.setCell ⟨e, o, none⟩ (.int .i64 A)).cell? ⟨e, o, none⟩ = some (.int .i64 A) := by
      rw [Lib.cell_of_heap G2.out]
      have := (Array.getElem?_eq_some_iff.1 hold).1
      simp [this]
    by_cases h2 : IntKind.u64.wrap A = n
    · have h2b : (IntKind.u64.wrap A == (n : Int)) = true := beq_iff_eq.2 h2
      by_cases h3 : A < 0
      · have hb1 : badI n = true := by rw [HB.out]; simp [h3]
        have HB1 := Lib.hid hb1
        clear HB HBAD hb1
        go_wp2_with fail
        refine (fail_any b r2 _ G1.out).mono ?_
        rintro x w2 ⟨rfl, h2, hb2⟩
        have h4 := (hb2.block e (Array.getElem?_eq_some_iff.1 G2.out).1 (fun h => hbe (Option.some.inj h).symm)).trans G2.out
        go_wp2_with fail
        refine ⟨rfl, .tuple #[], results_none rfl _ _ _, rfl, ?_, by rw [hA]; exact h4, G3.out.trans (But2.ofBut hb2)⟩
        rw [HY.out, if_pos HB1.out]
        exact h2
      · have hb1 : ¬ badI n = true := by rw [HB.out, hz]; simp [h3, h2]
        have HB1 := Lib.hid hb1
        clear HB HBAD hb1
        go_wp2_with fail
        refine ⟨rfl, .tuple #[], results_none rfl _ _ _, rfl, ?_, by rw [hA]; exact G2.out, G3.out⟩
        rw [HY.out, if_neg HB1.out]
        exact G1.out
    · have h2b : (IntKind.u64.wrap A == (n : Int)) = false := beq_eq_false_iff_ne.2 h2
      have hb1 : badI n = true := by rw [HB.out]; simp [h2]
      have HB1 := Lib.hid hb1
      clear HB HBAD hb1
      go_wp2_with fail
      refine (fail_any b r2 _ G1.out).mono ?_
      rintro x w2 ⟨rfl, h2, hb2⟩
      have h4 := (hb2.block e (Array.getElem?_eq_some_iff.1 G2.out).1 (fun h => hbe (Option.some.inj h).symm)).trans G2.out
      go_wp2_with fail
      refine ⟨rfl, .tuple #[], results_none rfl _ _ _, rfl, ?_, by rw [hA]; exact h4, G3.out.trans (But2.ofBut hb2)⟩
      rw [HY.out, if_pos HB1.out]
      exact h2


/-- what a text's take leaves of the reader -/
def takeNT (r : Rd) : List UInt8 × Rd := ((rdText r).1, if (rdText r).1 = [] then rdFail else (rdText r).2)
set_option maxRecDepth 100000 in
set_option maxHeartbeats 4000000 in
theorem text_take (b c e o : Nat) (r : Rd) (cs : Array Value) (t t2 : TypeId) (old : ByteArray) (hbe : b ≠ e) (hbc : b ≠ c) (hce : c ≠ e) (hl : r.1.length ≤ 1099511627776) (w : World) (h : RdAt w b r) (hp : PtrAt w c e o t)
    (ht : w.heap[e]? = some (.cells cs t2 (0, 0))) (hold : cs[o]? = some (.string old)) :
    Calls Tryz.prog 106 #[.pointer (some ⟨b, 0, none⟩), .pointer (some ⟨c, 0, none⟩)] w fun x w' => x = .returned (.tuple #[]) ∧ RdAt w' b (takeNT r).2 ∧
      w'.heap[e]? = some (.cells (cs.setIfInBounds o (.string ⟨(takeNT r).1.toArray⟩)) t2 (0, 0)) ∧ But2 b e w w' := by
  have HV := Lib.hid (fun W hW => textRd_any b r hl W hW)
  have hdef : takeNT r = ((rdText r).1, if (rdText r).1 = [] then rdFail else (rdText r).2) := rfl
  generalize rdText r = x at *
  obtain ⟨d, r2⟩ := x
  generalize takeNT r = y at *
  obtain ⟨yv, yr⟩ := y
  simp only [Prod.mk.injEq] at hdef
  obtain ⟨rfl, hyr⟩ := hdef
  have HY := Lib.hid hyr
  clear hyr
  have hp0 : w.cell? ⟨c, 0, none⟩ = some (.pointer (some ⟨e, o, none⟩)) := Lib.cell_of_heap hp 0
  have hH := Lib.hid h
  have hHp := Lib.hid hp
  have hHt := Lib.hid ht
  clear h hp ht
  go_enter Tryz.func106, Tryz.ntmps106
  go_wp2_with fail
  have hS0 : w.drew.cell? ⟨c, 0, none⟩ = some (.pointer (some ⟨e, o, none⟩)) := hp0
  refine region_D (fun u => u.cell? ⟨c, 0, none⟩ = some (.pointer (some ⟨e, o, none⟩))) [4] 5 (by kernel_rfl) (by rfl) ?_
  refine takeD (i := 0) (v := .pointer (some ⟨e, o, none⟩)) (by rfl) (by kernel_rfl) (fun _ _ _ h => h) (by rfl) (fun u hu => by go_simp) hS0 ?_
  simp only [Act.put, List.setIfInBounds_toArray, List.set_cons_zero, List.set_cons_succ]
  refine takeD (i := 1) (v := .func (.func 107) #[.pointer (some ⟨b, 0, none⟩)] #[]) (by rfl) (by kernel_rfl) (fun _ _ _ h => h) (by rfl) (fun u hu => by go_simp) hS0 ?_
  simp only [Act.put, List.setIfInBounds_toArray, List.set_cons_zero, List.set_cons_succ]
  refine oneD (i := 2) (by rfl) (by kernel_rfl) (by rfl) ?_
  go_simp
  refine (HV.out w.drew hH.out).mono ?_
  rintro _ w1 ⟨rfl, h1, hb1⟩
  have hb1w : But b w w1 := ⟨hb1.os, hb1.tape, hb1.output, hb1.size, hb1.block⟩
  obtain ⟨p0, q0, f0⟩ := But2.reads hbe hbc hb1w hHp.out hHt.out hold
  obtain ⟨g1, g2, g3⟩ := But2.target (v := .string ⟨yv.toArray⟩) hbe hbc hce h1 hb1w hHp.out hHt.out
  refine ⟨p0, ?_⟩
  try simp only [Act.put, List.setIfInBounds_toArray, List.set_cons_zero, List.set_cons_succ]
  refine oneD (i := 3) (by rfl) (by kernel_rfl) (by rfl) ?_
  go_simp
  try simp only [Act.put, List.setIfInBounds_toArray, List.set_cons_zero, List.set_cons_succ]
  refine oneD (i := 4) (by rfl) (by kernel_rfl) (by rfl) ?_
  go_simp
  refine ⟨by kernel_rfl, NoPanic.normal ?_⟩
  try simp only [Act.put, List.setIfInBounds_toArray, List.set_cons_zero, List.set_cons_succ]
  have G1 := Lib.hid g1
  have G2 := Lib.hid g2
  have G3 := Lib.hid g3
  have q1 : (w1.setCell ⟨e, o, none⟩ (.string ⟨yv.toArray⟩)).cell? ⟨c, 0, none⟩ = some (.pointer (some ⟨e, o, none⟩)) := by
    rw [← p0]
    exact World.cell?_setCell_far _ _ _ _ (Ne.symm hce)
  have q2 : (w1.setCell ⟨e, o, none⟩ (.string ⟨yv.toArray⟩)).cell? ⟨e, o, none⟩ = some (.string ⟨yv.toArray⟩) := by
    rw [Lib.cell_of_heap G2.out]
    have := (Array.getElem?_eq_some_iff.1 hold).1
    simp [this]
  clear g1 g2 g3 h1 hb1 hb1w
  cases yv with
  | nil =>
    go_wp2_with fail
    refine (fail_any b r2 _ G1.out).mono ?_
    rintro x w2 ⟨rfl, h2, hb2⟩
    have h4 := (hb2.block e (Array.getElem?_eq_some_iff.1 G2.out).1 (fun h => hbe (Option.some.inj h).symm)).trans G2.out
    go_wp2_with fail
    refine ⟨rfl, .tuple #[], results_none rfl _ _ _, rfl, ?_, h4, G3.out.trans (But2.ofBut hb2)⟩
    rw [HY.out, if_pos trivial]
    exact h2
  | cons y0 yl =>
    go_wp2_with fail
    refine ⟨rfl, .tuple #[], results_none rfl _ _ _, rfl, ?_, G2.out, G3.out⟩
    rw [HY.out, if_neg (by simp)]
    exact G1.out

set_option maxRecDepth 100000 in
set_option maxHeartbeats 4000000 in
theorem flag_take (b c e o : Nat) (r : Rd) (cs : Array Value) (t t2 : TypeId) (old : Bool) (hbe : b ≠ e) (hbc : b ≠ c) (hce : c ≠ e) (hl : r.1.length ≤ 1099511627776) (w : World) (h : RdAt w b r) (hp : PtrAt w c e o t)
    (ht : w.heap[e]? = some (.cells cs t2 (0, 0))) (hold : cs[o]? = some (.bool old)) :
    Calls Tryz.prog 109 #[.pointer (some ⟨b, 0, none⟩), .pointer (some ⟨c, 0, none⟩)] w fun x w' => x = .returned (.tuple #[]) ∧ RdAt w' b (if badF (rdVar r).1 = true then rdFail else (rdVar r).2) ∧
      w'.heap[e]? = some (.cells (cs.setIfInBounds o (.bool ((rdVar r).1 == 1))) t2 (0, 0)) ∧ But2 b e w w' := by
  have HV := Lib.hid (fun W hW => var_any b r hl W hW)
  generalize rdVar r = x at *
  obtain ⟨n, r2⟩ := x
  have hp0 : w.cell? ⟨c, 0, none⟩ = some (.pointer (some ⟨e, o, none⟩)) := Lib.cell_of_heap hp 0
  generalize hyr : (if badF n = true then rdFail else r2) = yr at *
  have HY := Lib.hid hyr
  have hH := Lib.hid h
  have hHp := Lib.hid hp
  have hHt := Lib.hid ht
  clear h hp ht hyr
  go_enter Tryz.func109, Tryz.ntmps109
  go_wp2_with fail
  have hS0 : w.drew.cell? ⟨c, 0, none⟩ = some (.pointer (some ⟨e, o, none⟩)) := hp0
  refine region_D (fun u => u.cell? ⟨c, 0, none⟩ = some (.pointer (some ⟨e, o, none⟩))) [5] 6 (by kernel_rfl) (by rfl) ?_
  refine takeD (i := 0) (v := .pointer (some ⟨e, o, none⟩)) (by rfl) (by kernel_rfl) (fun _ _ _ h => h) (by rfl) (fun u hu => by go_simp) hS0 ?_
  simp only [Act.put, List.setIfInBounds_toArray, List.set_cons_zero, List.set_cons_succ]
  refine takeD (i := 1) (v := .pointer (some ⟨b, 0, none⟩)) (by rfl) (by kernel_rfl) (fun _ _ _ h => h) (by rfl) (fun u hu => by go_simp) hS0 ?_
  simp only [Act.put, List.setIfInBounds_toArray, List.set_cons_zero, List.set_cons_succ]
  refine oneD (i := 2) (by rfl) (by kernel_rfl) (by rfl) ?_
  go_simp
  refine (HV.out w.drew hH.out).mono ?_
  rintro _ w1 ⟨rfl, h1, hb1⟩
  have hb1w : But b w w1 := ⟨hb1.os, hb1.tape, hb1.output, hb1.size, hb1.block⟩
  obtain ⟨p0, q0, f0⟩ := But2.reads hbe hbc hb1w hHp.out hHt.out hold
  refine ⟨p0, ?_⟩
  try simp only [Act.put, List.setIfInBounds_toArray, List.set_cons_zero, List.set_cons_succ]
  refine oneD (i := 3) (by rfl) (by kernel_rfl) (by rfl) ?_
  go_simp
  try simp only [Act.put, List.setIfInBounds_toArray, List.set_cons_zero, List.set_cons_succ]
  refine oneD (i := 4) (by rfl) (by kernel_rfl) (by rfl) ?_
  go_simp
  try simp only [Act.put, List.setIfInBounds_toArray, List.set_cons_zero, List.set_cons_succ]
  refine oneD (i := 5) (by rfl) (by kernel_rfl) (by rfl) ?_
  go_simp
  refine ⟨by kernel_rfl, NoPanic.normal ?_⟩
  try simp only [Act.put, List.setIfInBounds_toArray, List.set_cons_zero, List.set_cons_succ]
  have hn1 : ((n : Int) == 1) = (n == 1) := by
    by_cases h : n = 1
    · subst h; rfl
    · rw [beq_eq_false_iff_ne.2 h]; exact beq_eq_false_iff_ne.2 (by omega)
  obtain ⟨g1, g2, g3⟩ := But2.target (v := .bool (n == 1)) hbe hbc hce h1 hb1w hHp.out hHt.out
  have G1 := Lib.hid g1
  have G2 := Lib.hid g2
  have G3 := Lib.hid g3
  have q1 : (w1.setCell ⟨e, o, none⟩ (.bool (n == 1))).cell? ⟨c, 0, none⟩ = some (.pointer (some ⟨e, o, none⟩)) := by
    rw [← p0]
    exact World.cell?_setCell_far _ _ _ _ (Ne.symm hce)
  have q2 : (w1.setCell ⟨e, o, none⟩ (.bool (n == 1))).cell? ⟨e, o, none⟩ = some (.bool (n == 1)) := by
    rw [Lib.cell_of_heap G2.out]
    have := (Array.getElem?_eq_some_iff.1 hold).1
    simp [this]
  rw [hn1]
  have hbf : badF n = !(n == 1) := rfl
  have HBF := Lib.hid hbf
  clear g1 g2 g3 h1 hb1 hb1w hn1 hbf
  cases h : (n == 1)
  · rw [h] at G1 G2 G3 q1 q2 HBF
    go_wp2_with fail
    refine (fail_any b r2 _ G1.out).mono ?_
    rintro x w2 ⟨rfl, h2, hb2⟩
    have h4 := (hb2.block e (Array.getElem?_eq_some_iff.1 G2.out).1 (fun h => hbe (Option.some.inj h).symm)).trans G2.out
    go_wp2_with fail
    refine ⟨rfl, .tuple #[], results_none rfl _ _ _, rfl, ?_, by rw [h]; exact h4, G3.out.trans (But2.ofBut hb2)⟩
    rw [← HY.out, if_pos (by rw [HBF.out]; rfl)]
    exact h2
  · rw [h] at G1 G2 G3 q1 q2 HBF
    go_wp2_with fail
    refine ⟨rfl, .tuple #[], results_none rfl _ _ _, rfl, ?_, by rw [h]; exact G2.out, G3.out⟩
    rw [← HY.out, if_neg (by rw [HBF.out]; decide)]
    exact G1.out

end Go.Proofs.YtbjbgdnjcppjhaaGreatDoor

/-
  second.fields: the list of the fields of an entry, over the block that they name. No condition. (Printed by wip/genfields.py.) By an AI agent.
-/
namespace Go.Proofs.YtbjbgdnjcppjhaaGreatDoor
open Go.RowKit Go.Sort
set_option linter.unusedVariables false
set_option linter.unusedSimpArgs false

/-- a kind of field: how it is put, how it is taken, what its box is -/
abbrev FK := FuncId × FuncId × TypeId
def fk_numU : FK := (102, 103, 122)
def fk_numI : FK := (99, 101, 120)
def fk_text : FK := (104, 106, 124)
def fk_flag : FK := (108, 109, 128)
def fk_ents : FK := (110, 111, 130)
def entKs : List (FK × Nat) := [(fk_numI, 2), (fk_numU, 0), (fk_numU, 1), (fk_numU, 3), (fk_numU, 4), (fk_numU, 5), (fk_numU, 6), (fk_numI, 7), (fk_numI, 8), (fk_text, 9), (fk_text, 10)]
def entK (k : Nat) : FK × Nat := entKs.getD k (fk_numI, 0)
def msgKs : List (FK × Nat) := [(fk_numI, 0), (fk_numI, 1), (fk_numI, 2), (fk_numU, 3), (fk_numU, 4), (fk_numU, 5), (fk_numU, 6), (fk_numU, 7), (fk_flag, 8), (fk_text, 10), (fk_ents, 9)]
def msgK (k : Nat) : FK × Nat := msgKs.getD k (fk_numI, 0)
/-- the fields' list lies in the block L; their boxes, from base on, name the block e -/
structure TagsAt (w : World) (L base e : Nat) (K : Nat → FK × Nat) (C : Nat → Nat) : Prop where
  put : ∀ k, k < 11 → w.cell? ⟨L, k * 2, none⟩ = some (.func (.func (K k).1.1) #[] #[.pointer (some ⟨C k, 0, none⟩)])
  take : ∀ k, k < 11 → w.cell? ⟨L, k * 2 + 1, none⟩ = some (.func (.func (K k).1.2.1) #[] #[.pointer (some ⟨C k, 0, none⟩)])
  ptr : ∀ k, k < 11 → PtrAt w (C k) e (K k).2 (K k).1.2.2
  box : ∀ k, k < 11 → base ≤ C k ∧ C k < w.heap.size
  list : base ≤ L ∧ L < w.heap.size
theorem PtrAt.below {w w' : World} {c e o : Nat} {t : TypeId} (h : PtrAt w c e o t) (hb : Below w.heap.size w w') : PtrAt w' c e o t := (hb.block c (Array.getElem?_eq_some_iff.1 h).1).trans h


set_option maxRecDepth 100000 in
set_option maxHeartbeats 8000000 in
theorem sec_fields_any (e : Nat) (w : World) : Calls Tryz.prog 37 #[.pointer (some ⟨e, 0, none⟩)] w fun x w' => ∃ L C, x = .returned (.slice (some ⟨L, 0, none⟩) 11 11) ∧ TagsAt w' L w.heap.size e entK C ∧ Below w.heap.size w w' := by
  go_enter Tryz.func37, Tryz.ntmps37
  go_wp2_with fail
  refine region_D (fun _ => True) [] 46 (by kernel_rfl) (by rfl) ?_
  refine takeD (i := 0) (v := .pointer (some ⟨e, 0, none⟩)) (by rfl) (by kernel_rfl) (fun _ _ _ h => h) (by rfl) (fun u hu => by go_simp) trivial ?_
  simp only [Act.put, List.setIfInBounds_toArray, List.set_cons_zero, List.set_cons_succ]
  refine takeD (i := 1) (v := .pointer (some ⟨e, 0, none⟩)) (by rfl) (by kernel_rfl) (fun _ _ _ h => h) (by rfl) (fun u hu => by go_simp) trivial ?_
  simp only [Act.put, List.setIfInBounds_toArray, List.set_cons_zero, List.set_cons_succ]
  refine takeD (i := 2) (v := .pointer (some ⟨e, 2, none⟩)) (by rfl) (by kernel_rfl) (fun _ _ _ h => h) (by rfl) (fun u hu => by go_simp) trivial ?_
  simp only [Act.put, List.setIfInBounds_toArray, List.set_cons_zero, List.set_cons_succ]
  refine takeD (i := 4) (v := .pointer (some ⟨e, 0, none⟩)) (by rfl) (by kernel_rfl) (fun _ _ _ h => h) (by rfl) (fun u hu => by go_simp) trivial ?_
  simp only [Act.put, List.setIfInBounds_toArray, List.set_cons_zero, List.set_cons_succ]
  refine takeD (i := 5) (v := .pointer (some ⟨e, 0, none⟩)) (by rfl) (by kernel_rfl) (fun _ _ _ h => h) (by rfl) (fun u hu => by go_simp) trivial ?_
  simp only [Act.put, List.setIfInBounds_toArray, List.set_cons_zero, List.set_cons_succ]
  refine takeD (i := 6) (v := .pointer (some ⟨e, 0, none⟩)) (by rfl) (by kernel_rfl) (fun _ _ _ h => h) (by rfl) (fun u hu => by go_simp) trivial ?_
  simp only [Act.put, List.setIfInBounds_toArray, List.set_cons_zero, List.set_cons_succ]
  refine takeD (i := 8) (v := .pointer (some ⟨e, 0, none⟩)) (by rfl) (by kernel_rfl) (fun _ _ _ h => h) (by rfl) (fun u hu => by go_simp) trivial ?_
  simp only [Act.put, List.setIfInBounds_toArray, List.set_cons_zero, List.set_cons_succ]
  refine takeD (i := 9) (v := .pointer (some ⟨e, 0, none⟩)) (by rfl) (by kernel_rfl) (fun _ _ _ h => h) (by rfl) (fun u hu => by go_simp) trivial ?_
  simp only [Act.put, List.setIfInBounds_toArray, List.set_cons_zero, List.set_cons_succ]
  refine takeD (i := 10) (v := .pointer (some ⟨e, 1, none⟩)) (by rfl) (by kernel_rfl) (fun _ _ _ h => h) (by rfl) (fun u hu => by go_simp) trivial ?_
  simp only [Act.put, List.setIfInBounds_toArray, List.set_cons_zero, List.set_cons_succ]
  refine takeD (i := 12) (v := .pointer (some ⟨e, 0, none⟩)) (by rfl) (by kernel_rfl) (fun _ _ _ h => h) (by rfl) (fun u hu => by go_simp) trivial ?_
  simp only [Act.put, List.setIfInBounds_toArray, List.set_cons_zero, List.set_cons_succ]
  refine takeD (i := 13) (v := .pointer (some ⟨e, 0, none⟩)) (by rfl) (by kernel_rfl) (fun _ _ _ h => h) (by rfl) (fun u hu => by go_simp) trivial ?_
  simp only [Act.put, List.setIfInBounds_toArray, List.set_cons_zero, List.set_cons_succ]
  refine takeD (i := 14) (v := .pointer (some ⟨e, 3, none⟩)) (by rfl) (by kernel_rfl) (fun _ _ _ h => h) (by rfl) (fun u hu => by go_simp) trivial ?_
  simp only [Act.put, List.setIfInBounds_toArray, List.set_cons_zero, List.set_cons_succ]
  refine takeD (i := 16) (v := .pointer (some ⟨e, 0, none⟩)) (by rfl) (by kernel_rfl) (fun _ _ _ h => h) (by rfl) (fun u hu => by go_simp) trivial ?_
  simp only [Act.put, List.setIfInBounds_toArray, List.set_cons_zero, List.set_cons_succ]
  refine takeD (i := 17) (v := .pointer (some ⟨e, 0, none⟩)) (by rfl) (by kernel_rfl) (fun _ _ _ h => h) (by rfl) (fun u hu => by go_simp) trivial ?_
  simp only [Act.put, List.setIfInBounds_toArray, List.set_cons_zero, List.set_cons_succ]
  refine takeD (i := 18) (v := .pointer (some ⟨e, 4, none⟩)) (by rfl) (by kernel_rfl) (fun _ _ _ h => h) (by rfl) (fun u hu => by go_simp) trivial ?_
  simp only [Act.put, List.setIfInBounds_toArray, List.set_cons_zero, List.set_cons_succ]
  refine takeD (i := 20) (v := .pointer (some ⟨e, 0, none⟩)) (by rfl) (by kernel_rfl) (fun _ _ _ h => h) (by rfl) (fun u hu => by go_simp) trivial ?_
  simp only [Act.put, List.setIfInBounds_toArray, List.set_cons_zero, List.set_cons_succ]
  refine takeD (i := 21) (v := .pointer (some ⟨e, 0, none⟩)) (by rfl) (by kernel_rfl) (fun _ _ _ h => h) (by rfl) (fun u hu => by go_simp) trivial ?_
  simp only [Act.put, List.setIfInBounds_toArray, List.set_cons_zero, List.set_cons_succ]
  refine takeD (i := 22) (v := .pointer (some ⟨e, 5, none⟩)) (by rfl) (by kernel_rfl) (fun _ _ _ h => h) (by rfl) (fun u hu => by go_simp) trivial ?_
  simp only [Act.put, List.setIfInBounds_toArray, List.set_cons_zero, List.set_cons_succ]
  refine takeD (i := 24) (v := .pointer (some ⟨e, 0, none⟩)) (by rfl) (by kernel_rfl) (fun _ _ _ h => h) (by rfl) (fun u hu => by go_simp) trivial ?_
  simp only [Act.put, List.setIfInBounds_toArray, List.set_cons_zero, List.set_cons_succ]
  refine takeD (i := 25) (v := .pointer (some ⟨e, 0, none⟩)) (by rfl) (by kernel_rfl) (fun _ _ _ h => h) (by rfl) (fun u hu => by go_simp) trivial ?_
  simp only [Act.put, List.setIfInBounds_toArray, List.set_cons_zero, List.set_cons_succ]
  refine takeD (i := 26) (v := .pointer (some ⟨e, 6, none⟩)) (by rfl) (by kernel_rfl) (fun _ _ _ h => h) (by rfl) (fun u hu => by go_simp) trivial ?_
  simp only [Act.put, List.setIfInBounds_toArray, List.set_cons_zero, List.set_cons_succ]
  refine takeD (i := 28) (v := .pointer (some ⟨e, 0, none⟩)) (by rfl) (by kernel_rfl) (fun _ _ _ h => h) (by rfl) (fun u hu => by go_simp) trivial ?_
  simp only [Act.put, List.setIfInBounds_toArray, List.set_cons_zero, List.set_cons_succ]
  refine takeD (i := 29) (v := .pointer (some ⟨e, 0, none⟩)) (by rfl) (by kernel_rfl) (fun _ _ _ h => h) (by rfl) (fun u hu => by go_simp) trivial ?_
  simp only [Act.put, List.setIfInBounds_toArray, List.set_cons_zero, List.set_cons_succ]
  refine takeD (i := 30) (v := .pointer (some ⟨e, 7, none⟩)) (by rfl) (by kernel_rfl) (fun _ _ _ h => h) (by rfl) (fun u hu => by go_simp) trivial ?_
  simp only [Act.put, List.setIfInBounds_toArray, List.set_cons_zero, List.set_cons_succ]
  refine takeD (i := 32) (v := .pointer (some ⟨e, 0, none⟩)) (by rfl) (by kernel_rfl) (fun _ _ _ h => h) (by rfl) (fun u hu => by go_simp) trivial ?_
  simp only [Act.put, List.setIfInBounds_toArray, List.set_cons_zero, List.set_cons_succ]
  refine takeD (i := 33) (v := .pointer (some ⟨e, 0, none⟩)) (by rfl) (by kernel_rfl) (fun _ _ _ h => h) (by rfl) (fun u hu => by go_simp) trivial ?_
  simp only [Act.put, List.setIfInBounds_toArray, List.set_cons_zero, List.set_cons_succ]
  refine takeD (i := 34) (v := .pointer (some ⟨e, 8, none⟩)) (by rfl) (by kernel_rfl) (fun _ _ _ h => h) (by rfl) (fun u hu => by go_simp) trivial ?_
  simp only [Act.put, List.setIfInBounds_toArray, List.set_cons_zero, List.set_cons_succ]
  refine takeD (i := 36) (v := .pointer (some ⟨e, 0, none⟩)) (by rfl) (by kernel_rfl) (fun _ _ _ h => h) (by rfl) (fun u hu => by go_simp) trivial ?_
  simp only [Act.put, List.setIfInBounds_toArray, List.set_cons_zero, List.set_cons_succ]
  refine takeD (i := 37) (v := .pointer (some ⟨e, 0, none⟩)) (by rfl) (by kernel_rfl) (fun _ _ _ h => h) (by rfl) (fun u hu => by go_simp) trivial ?_
  simp only [Act.put, List.setIfInBounds_toArray, List.set_cons_zero, List.set_cons_succ]
  refine takeD (i := 38) (v := .pointer (some ⟨e, 9, none⟩)) (by rfl) (by kernel_rfl) (fun _ _ _ h => h) (by rfl) (fun u hu => by go_simp) trivial ?_
  simp only [Act.put, List.setIfInBounds_toArray, List.set_cons_zero, List.set_cons_succ]
  refine takeD (i := 40) (v := .pointer (some ⟨e, 0, none⟩)) (by rfl) (by kernel_rfl) (fun _ _ _ h => h) (by rfl) (fun u hu => by go_simp) trivial ?_
  simp only [Act.put, List.setIfInBounds_toArray, List.set_cons_zero, List.set_cons_succ]
  refine takeD (i := 41) (v := .pointer (some ⟨e, 0, none⟩)) (by rfl) (by kernel_rfl) (fun _ _ _ h => h) (by rfl) (fun u hu => by go_simp) trivial ?_
  simp only [Act.put, List.setIfInBounds_toArray, List.set_cons_zero, List.set_cons_succ]
  refine takeD (i := 42) (v := .pointer (some ⟨e, 10, none⟩)) (by rfl) (by kernel_rfl) (fun _ _ _ h => h) (by rfl) (fun u hu => by go_simp) trivial ?_
  simp only [Act.put, List.setIfInBounds_toArray, List.set_cons_zero, List.set_cons_succ]
  refine oneD (i := 3) (by rfl) (by kernel_rfl) (by rfl) ?_
  go_simp
  refine (numI_make e 2 _).mono ?_
  rintro _ u1 ⟨rfl, p0, b0, l0⟩
  try simp only [Act.put, List.setIfInBounds_toArray, List.set_cons_zero, List.set_cons_succ]
  refine oneD (i := 7) (by rfl) (by kernel_rfl) (by rfl) ?_
  go_simp
  refine (numU_make e 0 _).mono ?_
  rintro _ u2 ⟨rfl, p1, b1, l1⟩
  try simp only [Act.put, List.setIfInBounds_toArray, List.set_cons_zero, List.set_cons_succ]
  refine oneD (i := 11) (by rfl) (by kernel_rfl) (by rfl) ?_
  go_simp
  refine (numU_make e 1 _).mono ?_
  rintro _ u3 ⟨rfl, p2, b2, l2⟩
  try simp only [Act.put, List.setIfInBounds_toArray, List.set_cons_zero, List.set_cons_succ]
  refine oneD (i := 15) (by rfl) (by kernel_rfl) (by rfl) ?_
  go_simp
  refine (numU_make e 3 _).mono ?_
  rintro _ u4 ⟨rfl, p3, b3, l3⟩
  try simp only [Act.put, List.setIfInBounds_toArray, List.set_cons_zero, List.set_cons_succ]
  refine oneD (i := 19) (by rfl) (by kernel_rfl) (by rfl) ?_
  go_simp
  refine (numU_make e 4 _).mono ?_
  rintro _ u5 ⟨rfl, p4, b4, l4⟩
  try simp only [Act.put, List.setIfInBounds_toArray, List.set_cons_zero, List.set_cons_succ]
  refine oneD (i := 23) (by rfl) (by kernel_rfl) (by rfl) ?_
  go_simp
  refine (numU_make e 5 _).mono ?_
  rintro _ u6 ⟨rfl, p5, b5, l5⟩
  try simp only [Act.put, List.setIfInBounds_toArray, List.set_cons_zero, List.set_cons_succ]
  refine oneD (i := 27) (by rfl) (by kernel_rfl) (by rfl) ?_
  go_simp
  refine (numU_make e 6 _).mono ?_
  rintro _ u7 ⟨rfl, p6, b6, l6⟩
  try simp only [Act.put, List.setIfInBounds_toArray, List.set_cons_zero, List.set_cons_succ]
  refine oneD (i := 31) (by rfl) (by kernel_rfl) (by rfl) ?_
  go_simp
  refine (numI_make e 7 _).mono ?_
  rintro _ u8 ⟨rfl, p7, b7, l7⟩
  try simp only [Act.put, List.setIfInBounds_toArray, List.set_cons_zero, List.set_cons_succ]
  refine oneD (i := 35) (by rfl) (by kernel_rfl) (by rfl) ?_
  go_simp
  refine (numI_make e 8 _).mono ?_
  rintro _ u9 ⟨rfl, p8, b8, l8⟩
  try simp only [Act.put, List.setIfInBounds_toArray, List.set_cons_zero, List.set_cons_succ]
  refine oneD (i := 39) (by rfl) (by kernel_rfl) (by rfl) ?_
  go_simp
  refine (text_make e 9 _).mono ?_
  rintro _ u10 ⟨rfl, p9, b9, l9⟩
  try simp only [Act.put, List.setIfInBounds_toArray, List.set_cons_zero, List.set_cons_succ]
  refine oneD (i := 43) (by rfl) (by kernel_rfl) (by rfl) ?_
  go_simp
  refine (text_make e 10 _).mono ?_
  rintro _ u11 ⟨rfl, p10, b10, l10⟩
  try simp only [Act.put, List.setIfInBounds_toArray, List.set_cons_zero, List.set_cons_succ]
  refine oneD (i := 44) (by rfl) (by kernel_rfl) (by rfl) ?_
  go_simp
  try simp only [Act.put, List.setIfInBounds_toArray, List.set_cons_zero, List.set_cons_succ]
  refine oneD (i := 45) (by rfl) (by kernel_rfl) (by rfl) ?_
  go_simp
  refine ⟨by kernel_rfl, NoPanic.normal ?_⟩
  try simp only [Act.put, List.setIfInBounds_toArray, List.set_cons_zero, List.set_cons_succ]
  have hz := heap_alloc_new u11 (.cells #[.func (.func 99) #[] #[.pointer (some ⟨w.heap.size, 0, none⟩)], .func (.func 101) #[] #[.pointer (some ⟨w.heap.size, 0, none⟩)], .func (.func 102) #[] #[.pointer (some ⟨u1.heap.size, 0, none⟩)], .func (.func 103) #[] #[.pointer (some ⟨u1.heap.size, 0, none⟩)], .func (.func 102) #[] #[.pointer (some ⟨u2.heap.size, 0, none⟩)], .func (.func 103) #[] #[.pointer (some ⟨u2.heap.size, 0, none⟩)], .func (.func 102) #[] #[.pointer (some ⟨u3.heap.size, 0, none⟩)], .func (.func 103) #[] #[.pointer (some ⟨u3.heap.size, 0, none⟩)], .func (.func 102) #[] #[.pointer (some ⟨u4.heap.size, 0, none⟩)], .func (.func 103) #[] #[.pointer (some ⟨u4.heap.size, 0, none⟩)], .func (.func 102) #[] #[.pointer (some ⟨u5.heap.size, 0, none⟩)], .func (.func 103) #[] #[.pointer (some ⟨u5.heap.size, 0, none⟩)], .func (.func 102) #[] #[.pointer (some ⟨u6.heap.size, 0, none⟩)], .func (.func 103) #[] #[.pointer (some ⟨u6.heap.size, 0, none⟩)], .func (.func 99) #[] #[.pointer (some ⟨u7.heap.size, 0, none⟩)], .func (.func 101) #[] #[.pointer (some ⟨u7.heap.size, 0, none⟩)], .func (.func 99) #[] #[.pointer (some ⟨u8.heap.size, 0, none⟩)], .func (.func 101) #[] #[.pointer (some ⟨u8.heap.size, 0, none⟩)], .func (.func 104) #[] #[.pointer (some ⟨u9.heap.size, 0, none⟩)], .func (.func 106) #[] #[.pointer (some ⟨u9.heap.size, 0, none⟩)], .func (.func 104) #[] #[.pointer (some ⟨u10.heap.size, 0, none⟩)], .func (.func 106) #[] #[.pointer (some ⟨u10.heap.size, 0, none⟩)]] 117)
  have B10 : Below u11.heap.size u11 (u11.alloc (.cells #[.func (.func 99) #[] #[.pointer (some ⟨w.heap.size, 0, none⟩)], .func (.func 101) #[] #[.pointer (some ⟨w.heap.size, 0, none⟩)], .func (.func 102) #[] #[.pointer (some ⟨u1.heap.size, 0, none⟩)], .func (.func 103) #[] #[.pointer (some ⟨u1.heap.size, 0, none⟩)], .func (.func 102) #[] #[.pointer (some ⟨u2.heap.size, 0, none⟩)], .func (.func 103) #[] #[.pointer (some ⟨u2.heap.size, 0, none⟩)], .func (.func 102) #[] #[.pointer (some ⟨u3.heap.size, 0, none⟩)], .func (.func 103) #[] #[.pointer (some ⟨u3.heap.size, 0, none⟩)], .func (.func 102) #[] #[.pointer (some ⟨u4.heap.size, 0, none⟩)], .func (.func 103) #[] #[.pointer (some ⟨u4.heap.size, 0, none⟩)], .func (.func 102) #[] #[.pointer (some ⟨u5.heap.size, 0, none⟩)], .func (.func 103) #[] #[.pointer (some ⟨u5.heap.size, 0, none⟩)], .func (.func 102) #[] #[.pointer (some ⟨u6.heap.size, 0, none⟩)], .func (.func 103) #[] #[.pointer (some ⟨u6.heap.size, 0, none⟩)], .func (.func 99) #[] #[.pointer (some ⟨u7.heap.size, 0, none⟩)], .func (.func 101) #[] #[.pointer (some ⟨u7.heap.size, 0, none⟩)], .func (.func 99) #[] #[.pointer (some ⟨u8.heap.size, 0, none⟩)], .func (.func 101) #[] #[.pointer (some ⟨u8.heap.size, 0, none⟩)], .func (.func 104) #[] #[.pointer (some ⟨u9.heap.size, 0, none⟩)], .func (.func 106) #[] #[.pointer (some ⟨u9.heap.size, 0, none⟩)], .func (.func 104) #[] #[.pointer (some ⟨u10.heap.size, 0, none⟩)], .func (.func 106) #[] #[.pointer (some ⟨u10.heap.size, 0, none⟩)]] 117)) := (Below.refl _ _).alloc (Nat.le_refl _) _
  have hsz : (u11.alloc (.cells #[.func (.func 99) #[] #[.pointer (some ⟨w.heap.size, 0, none⟩)], .func (.func 101) #[] #[.pointer (some ⟨w.heap.size, 0, none⟩)], .func (.func 102) #[] #[.pointer (some ⟨u1.heap.size, 0, none⟩)], .func (.func 103) #[] #[.pointer (some ⟨u1.heap.size, 0, none⟩)], .func (.func 102) #[] #[.pointer (some ⟨u2.heap.size, 0, none⟩)], .func (.func 103) #[] #[.pointer (some ⟨u2.heap.size, 0, none⟩)], .func (.func 102) #[] #[.pointer (some ⟨u3.heap.size, 0, none⟩)], .func (.func 103) #[] #[.pointer (some ⟨u3.heap.size, 0, none⟩)], .func (.func 102) #[] #[.pointer (some ⟨u4.heap.size, 0, none⟩)], .func (.func 103) #[] #[.pointer (some ⟨u4.heap.size, 0, none⟩)], .func (.func 102) #[] #[.pointer (some ⟨u5.heap.size, 0, none⟩)], .func (.func 103) #[] #[.pointer (some ⟨u5.heap.size, 0, none⟩)], .func (.func 102) #[] #[.pointer (some ⟨u6.heap.size, 0, none⟩)], .func (.func 103) #[] #[.pointer (some ⟨u6.heap.size, 0, none⟩)], .func (.func 99) #[] #[.pointer (some ⟨u7.heap.size, 0, none⟩)], .func (.func 101) #[] #[.pointer (some ⟨u7.heap.size, 0, none⟩)], .func (.func 99) #[] #[.pointer (some ⟨u8.heap.size, 0, none⟩)], .func (.func 101) #[] #[.pointer (some ⟨u8.heap.size, 0, none⟩)], .func (.func 104) #[] #[.pointer (some ⟨u9.heap.size, 0, none⟩)], .func (.func 106) #[] #[.pointer (some ⟨u9.heap.size, 0, none⟩)], .func (.func 104) #[] #[.pointer (some ⟨u10.heap.size, 0, none⟩)], .func (.func 106) #[] #[.pointer (some ⟨u10.heap.size, 0, none⟩)]] 117)).heap.size = u11.heap.size + 1 := World.size_alloc _ _
  generalize u11.alloc (.cells #[.func (.func 99) #[] #[.pointer (some ⟨w.heap.size, 0, none⟩)], .func (.func 101) #[] #[.pointer (some ⟨w.heap.size, 0, none⟩)], .func (.func 102) #[] #[.pointer (some ⟨u1.heap.size, 0, none⟩)], .func (.func 103) #[] #[.pointer (some ⟨u1.heap.size, 0, none⟩)], .func (.func 102) #[] #[.pointer (some ⟨u2.heap.size, 0, none⟩)], .func (.func 103) #[] #[.pointer (some ⟨u2.heap.size, 0, none⟩)], .func (.func 102) #[] #[.pointer (some ⟨u3.heap.size, 0, none⟩)], .func (.func 103) #[] #[.pointer (some ⟨u3.heap.size, 0, none⟩)], .func (.func 102) #[] #[.pointer (some ⟨u4.heap.size, 0, none⟩)], .func (.func 103) #[] #[.pointer (some ⟨u4.heap.size, 0, none⟩)], .func (.func 102) #[] #[.pointer (some ⟨u5.heap.size, 0, none⟩)], .func (.func 103) #[] #[.pointer (some ⟨u5.heap.size, 0, none⟩)], .func (.func 102) #[] #[.pointer (some ⟨u6.heap.size, 0, none⟩)], .func (.func 103) #[] #[.pointer (some ⟨u6.heap.size, 0, none⟩)], .func (.func 99) #[] #[.pointer (some ⟨u7.heap.size, 0, none⟩)], .func (.func 101) #[] #[.pointer (some ⟨u7.heap.size, 0, none⟩)], .func (.func 99) #[] #[.pointer (some ⟨u8.heap.size, 0, none⟩)], .func (.func 101) #[] #[.pointer (some ⟨u8.heap.size, 0, none⟩)], .func (.func 104) #[] #[.pointer (some ⟨u9.heap.size, 0, none⟩)], .func (.func 106) #[] #[.pointer (some ⟨u9.heap.size, 0, none⟩)], .func (.func 104) #[] #[.pointer (some ⟨u10.heap.size, 0, none⟩)], .func (.func 106) #[] #[.pointer (some ⟨u10.heap.size, 0, none⟩)]] 117) = uF at *
  have B9 : Below u10.heap.size u10 uF := b10.trans (B10.mono (Nat.le_of_lt l10))
  have B8 : Below u9.heap.size u9 uF := b9.trans (B9.mono (Nat.le_of_lt l9))
  have B7 : Below u8.heap.size u8 uF := b8.trans (B8.mono (Nat.le_of_lt l8))
  have B6 : Below u7.heap.size u7 uF := b7.trans (B7.mono (Nat.le_of_lt l7))
  have B5 : Below u6.heap.size u6 uF := b6.trans (B6.mono (Nat.le_of_lt l6))
  have B4 : Below u5.heap.size u5 uF := b5.trans (B5.mono (Nat.le_of_lt l5))
  have B3 : Below u4.heap.size u4 uF := b4.trans (B4.mono (Nat.le_of_lt l4))
  have B2 : Below u3.heap.size u3 uF := b3.trans (B3.mono (Nat.le_of_lt l3))
  have B1 : Below u2.heap.size u2 uF := b2.trans (B2.mono (Nat.le_of_lt l2))
  have B0 : Below u1.heap.size u1 uF := b1.trans (B1.mono (Nat.le_of_lt l1))
  have hl0 : w.heap.size < u1.heap.size := l0
  have hB : Below w.heap.size w uF := (⟨b0.os, b0.tape, b0.output, b0.size, b0.block⟩ : Below w.heap.size w u1).trans (B0.mono (Nat.le_of_lt hl0))
  have HZ := Lib.hid hz
  have HB := Lib.hid hB
  clear hz hB b0 b1 b2 b3 b4 b5 b6 b7 b8 b9 b10
  go_wp2_with fail
  go_ret
  refine ⟨u11.heap.size, fun k => [w.heap.size, u1.heap.size, u2.heap.size, u3.heap.size, u4.heap.size, u5.heap.size, u6.heap.size, u7.heap.size, u8.heap.size, u9.heap.size, u10.heap.size].getD k 0, rfl, ⟨?_, ?_, ?_, ?_, by omega⟩, HB.out⟩
  · intro k hk
    match k, hk with
    | 0, _ => exact Lib.cell_of_heap HZ.out 0
    | 1, _ => exact Lib.cell_of_heap HZ.out 2
    | 2, _ => exact Lib.cell_of_heap HZ.out 4
    | 3, _ => exact Lib.cell_of_heap HZ.out 6
    | 4, _ => exact Lib.cell_of_heap HZ.out 8
    | 5, _ => exact Lib.cell_of_heap HZ.out 10
    | 6, _ => exact Lib.cell_of_heap HZ.out 12
    | 7, _ => exact Lib.cell_of_heap HZ.out 14
    | 8, _ => exact Lib.cell_of_heap HZ.out 16
    | 9, _ => exact Lib.cell_of_heap HZ.out 18
    | 10, _ => exact Lib.cell_of_heap HZ.out 20
    | k + 11, h => exact absurd h (by omega)
  · intro k hk
    match k, hk with
    | 0, _ => exact Lib.cell_of_heap HZ.out 1
    | 1, _ => exact Lib.cell_of_heap HZ.out 3
    | 2, _ => exact Lib.cell_of_heap HZ.out 5
    | 3, _ => exact Lib.cell_of_heap HZ.out 7
    | 4, _ => exact Lib.cell_of_heap HZ.out 9
    | 5, _ => exact Lib.cell_of_heap HZ.out 11
    | 6, _ => exact Lib.cell_of_heap HZ.out 13
    | 7, _ => exact Lib.cell_of_heap HZ.out 15
    | 8, _ => exact Lib.cell_of_heap HZ.out 17
    | 9, _ => exact Lib.cell_of_heap HZ.out 19
    | 10, _ => exact Lib.cell_of_heap HZ.out 21
    | k + 11, h => exact absurd h (by omega)
  · intro k hk
    match k, hk with
    | 0, _ => exact PtrAt.below p0 B0
    | 1, _ => exact PtrAt.below p1 B1
    | 2, _ => exact PtrAt.below p2 B2
    | 3, _ => exact PtrAt.below p3 B3
    | 4, _ => exact PtrAt.below p4 B4
    | 5, _ => exact PtrAt.below p5 B5
    | 6, _ => exact PtrAt.below p6 B6
    | 7, _ => exact PtrAt.below p7 B7
    | 8, _ => exact PtrAt.below p8 B8
    | 9, _ => exact PtrAt.below p9 B9
    | 10, _ => exact PtrAt.below p10 B10
    | k + 11, h => exact absurd h (by omega)
  · intro k hk
    match k, hk with
    | 0, _ => exact ⟨show w.heap.size ≤ w.heap.size by omega, show w.heap.size < uF.heap.size by omega⟩
    | 1, _ => exact ⟨show w.heap.size ≤ u1.heap.size by omega, show u1.heap.size < uF.heap.size by omega⟩
    | 2, _ => exact ⟨show w.heap.size ≤ u2.heap.size by omega, show u2.heap.size < uF.heap.size by omega⟩
    | 3, _ => exact ⟨show w.heap.size ≤ u3.heap.size by omega, show u3.heap.size < uF.heap.size by omega⟩
    | 4, _ => exact ⟨show w.heap.size ≤ u4.heap.size by omega, show u4.heap.size < uF.heap.size by omega⟩
    | 5, _ => exact ⟨show w.heap.size ≤ u5.heap.size by omega, show u5.heap.size < uF.heap.size by omega⟩
    | 6, _ => exact ⟨show w.heap.size ≤ u6.heap.size by omega, show u6.heap.size < uF.heap.size by omega⟩
    | 7, _ => exact ⟨show w.heap.size ≤ u7.heap.size by omega, show u7.heap.size < uF.heap.size by omega⟩
    | 8, _ => exact ⟨show w.heap.size ≤ u8.heap.size by omega, show u8.heap.size < uF.heap.size by omega⟩
    | 9, _ => exact ⟨show w.heap.size ≤ u9.heap.size by omega, show u9.heap.size < uF.heap.size by omega⟩
    | 10, _ => exact ⟨show w.heap.size ≤ u10.heap.size by omega, show u10.heap.size < uF.heap.size by omega⟩
    | k + 11, h => exact absurd h (by omega)

end Go.Proofs.YtbjbgdnjcppjhaaGreatDoor

/-
  second.Put, second.Get over this translation: an entry's bytes; the entry that stands in a reader. Conditions: as each theorem says. By an AI agent.
-/
namespace Go.Proofs.YtbjbgdnjcppjhaaGreatDoor
open Go.RowKit Go.Sort
set_option linter.unusedVariables false
set_option linter.unusedSimpArgs false

theorem fk_enters (f : FK) (h : f = fk_numU ∨ f = fk_numI ∨ f = fk_text ∨ f = fk_flag ∨ f = fk_ents) (args : Array Value) (w : World) :
    (callFunc f.1 args).run Tryz.prog w = .ok (.enter f.1 args) w ∧ (callFunc f.2.1 args).run Tryz.prog w = .ok (.enter f.2.1 args) w := by
  rcases h with rfl | rfl | rfl | rfl | rfl
  · exact ⟨enters_of Tryz.func102 (by kernel_rfl) rfl args w, enters_of Tryz.func103 (by kernel_rfl) rfl args w⟩
  · exact ⟨enters_of Tryz.func99 (by kernel_rfl) rfl args w, enters_of Tryz.func101 (by kernel_rfl) rfl args w⟩
  · exact ⟨enters_of Tryz.func104 (by kernel_rfl) rfl args w, enters_of Tryz.func106 (by kernel_rfl) rfl args w⟩
  · exact ⟨enters_of Tryz.func108 (by kernel_rfl) rfl args w, enters_of Tryz.func109 (by kernel_rfl) rfl args w⟩
  · exact ⟨enters_of Tryz.func110 (by kernel_rfl) rfl args w, enters_of Tryz.func111 (by kernel_rfl) rfl args w⟩
theorem entK_kind : ∀ k, k < 11 → (entK k).1 = fk_numU ∨ (entK k).1 = fk_numI ∨ (entK k).1 = fk_text ∨ (entK k).1 = fk_flag ∨ (entK k).1 = fk_ents
  | 0, _ => .inr (.inl rfl) | 1, _ => .inl rfl | 2, _ => .inl rfl | 3, _ => .inl rfl | 4, _ => .inl rfl | 5, _ => .inl rfl | 6, _ => .inl rfl | 7, _ => .inr (.inl rfl) | 8, _ => .inr (.inl rfl)
  | 9, _ => .inr (.inr (.inl rfl)) | 10, _ => .inr (.inr (.inl rfl)) | k + 11, h => absurd h (by omega)

/-- lengths -/
theorem numL_len (n : Nat) (h : n < 18446744073709551616) : (numL n).length ≤ 10 := by
  unfold numL
  split
  · simp
  · exact varL_len 10 n (Nat.lt_trans h (by decide)) (by decide)
theorem textF_len (s : List UInt8) (h : s.length ≤ 1099511627776) : (textF s).length ≤ 10 + s.length := by
  unfold textF
  split
  · simp
  · have := varL_len 10 s.length (Nat.lt_of_le_of_lt h (by decide)) (by decide)
    simp only [List.length_append]
    omega
theorem tagL_len : ∀ (l : List (List UInt8)) (k B : Nat), k + l.length ≤ 1000 → (∀ b ∈ l, b.length ≤ B) → (tagL k l).length ≤ l.length * (10 + B) + 1 := by
  intro l
  induction l with
  | nil => intro k B _ _; simp [tagL]
  | cons b l ih =>
    intro k B hk hB
    have h1 := ih (k + 1) B (by simp at hk; omega) (fun x hx => hB x (List.mem_cons_of_mem _ hx))
    have h2 := hB b (List.mem_cons_self ..)
    have hk2 : k + 1 ≤ 1000 := by simp at hk; omega
    have h3 := varL_len 10 (k + 1) (Nat.lt_of_le_of_lt hk2 (by decide)) (by decide)
    rw [tagL, List.length_append, List.length_cons, Nat.succ_mul]
    have h4 : (if b = [] then [] else varL (k + 1) ++ b).length ≤ 10 + B := by
      split
      · simp
      · rw [List.length_append]; omega
    omega
theorem entBs_len (e : Ent) (h : Small e) : ∀ b ∈ entBs e, b.length ≤ 74 := by
  obtain ⟨⟨a0, a1⟩, ⟨b0, b1⟩, ⟨c0, c1⟩, ⟨d0, d1⟩, ⟨e0, e1⟩, ⟨f0, f1⟩, ⟨g0, g1⟩, ⟨i0, i1⟩, ⟨j0, j1⟩, hd, ho⟩ := h
  intro b hb
  have hn : ∀ n : Int, n ≤ 1000 → (numL n.toNat).length ≤ 74 := fun n h => Nat.le_trans (numL_len n.toNat (by omega)) (by decide)
  have ht : ∀ s : ByteArray, s.size ≤ 64 → (textF s.data.toList).length ≤ 74 := fun s h => by
    have h2 : s.data.toList.length ≤ 64 := by simpa using h
    have := textF_len s.data.toList (by omega)
    omega
  simp only [entBs, List.mem_cons, List.not_mem_nil, or_false] at hb
  rcases hb with rfl | rfl | rfl | rfl | rfl | rfl | rfl | rfl | rfl | rfl | rfl
  · exact hn _ (by omega)
  · exact hn _ (by omega)
  · exact hn _ (by omega)
  · exact hn _ (by omega)
  · exact hn _ (by omega)
  · exact hn _ (by omega)
  · exact hn _ (by omega)
  · exact hn _ (by omega)
  · exact hn _ (by omega)
  · exact ht _ hd
  · exact ht _ ho
theorem secE_len (e : Ent) (h : Small e) : (secE e).length ≤ 1000 := Nat.le_trans (tagL_len (entBs e) 0 74 (show 0 + 11 ≤ 1000 by decide) (entBs_len e h)) (show 11 * (10 + 74) + 1 ≤ 1000 by decide)

set_option maxHeartbeats 1000000 in
theorem secPut_ent (e : Ent) (h : Small e) (b L base : Nat) (C : Nat → Nat) (w : World) (hf : TagsAt w L base b entK C) (hb : w.heap[b]? = some (.cells e.cells EntT (0, 0))) :
    Calls Tryz.prog 36 #[.slice (some ⟨L, 0, none⟩) 11 11] w fun x w' => x = .returned (.string ⟨(secE e).toArray⟩) ∧ Below w.heap.size w w' := by
  refine secPut_of L 11 11 (fun k => (entK k).1.1) (fun k => (entK k).1.2.1) (fun k => .pointer (some ⟨C k, 0, none⟩)) (entBs e) rfl (by decide) (Nat.le_trans (secE_len e h) (by decide)) w
    (fun k hk => ⟨hf.put k hk, hf.take k hk⟩) (fun k hk args W => (fk_enters _ (entK_kind k hk) args W).1) ?_
  obtain ⟨⟨a0, a1⟩, ⟨b0, b1⟩, ⟨c0, c1⟩, ⟨d0, d1⟩, ⟨e0, e1⟩, ⟨f0, f1⟩, ⟨g0, g1⟩, ⟨i0, i1⟩, ⟨j0, j1⟩, hd, ho⟩ := h
  intro k hk W hW
  have hbW := (hW.block b (heap_lt hb)).trans hb
  have hc : ∀ o v, e.cells[o]? = some v → W.cell? ⟨b, o, none⟩ = some v := fun o v h => (Lib.cell_of_heap hbW o).trans h
  have hk11 : k < 11 := hk
  have hp := (hf.ptr k hk11).below hW
  match k, hk11, hp, hk with
  | 0, _, hp, _ => exact numI_put _ b 2 e.kind.toNat _ (by omega) W hp (hc 2 _ (by rw [Int.toNat_of_nonneg c0]; rfl))
  | 1, _, hp, _ => exact numU_put _ b 0 e.term.toNat _ (by omega) W hp (hc 0 _ (by rw [Int.toNat_of_nonneg (by omega)]; rfl))
  | 2, _, hp, _ => exact numU_put _ b 1 e.index.toNat _ (by omega) W hp (hc 1 _ (by rw [Int.toNat_of_nonneg (by omega)]; rfl))
  | 3, _, hp, _ => exact numU_put _ b 3 e.client.toNat _ (by omega) W hp (hc 3 _ (by rw [Int.toNat_of_nonneg d0]; rfl))
  | 4, _, hp, _ => exact numU_put _ b 4 e.seq.toNat _ (by omega) W hp (hc 4 _ (by rw [Int.toNat_of_nonneg e0]; rfl))
  | 5, _, hp, _ => exact numU_put _ b 5 e.block.toNat _ (by omega) W hp (hc 5 _ (by rw [Int.toNat_of_nonneg f0]; rfl))
  | 6, _, hp, _ => exact numU_put _ b 6 e.many.toNat _ (by omega) W hp (hc 6 _ (by rw [Int.toNat_of_nonneg g0]; rfl))
  | 7, _, hp, _ => exact numI_put _ b 7 e.node.toNat _ (by omega) W hp (hc 7 _ (by rw [Int.toNat_of_nonneg i0]; rfl))
  | 8, _, hp, _ => exact numI_put _ b 8 e.level.toNat _ (by omega) W hp (hc 8 _ (by rw [Int.toNat_of_nonneg j0]; rfl))
  | 9, _, hp, _ => exact text_put _ b 9 e.data.data.toList _ (show e.data.size ≤ _ by omega) W hp (hc 9 _ rfl)
  | 10, _, hp, _ => exact text_put _ b 10 e.old.data.toList _ (show e.old.size ≤ _ by omega) W hp (hc 10 _ rfl)
  | k + 11, h, _, _ => exact absurd h (by omega)

set_option maxRecDepth 100000 in
set_option maxHeartbeats 2000000 in
theorem secondPut_any (e : Ent) (h : Small e) (hr : rightB e = true) (w : World) :
    Calls Tryz.prog 7 #[e.val] w fun x w' => x = .returned (.tuple #[.string ⟨(secE e).toArray⟩, .bool true]) ∧ Below w.heap.size w w' := by
  have hright := fun W => right_any e h.wf W
  rw [hr] at hright
  have hput := fun L base C W => secPut_ent e h w.heap.size L base C W
  have hbox := heap_alloc_new w (.cells e.cells EntT)
  generalize secE e = z at *
  clear h hr
  obtain ⟨x0, x1, x2, x3, x4, x5, x6, x7, x8, x9, x10⟩ := e
  simp only [Ent.val, Ent.cells] at hright hput hbox ⊢
  have HP := Lib.hid hput
  have HBOX := Lib.hid hbox
  have HR := Lib.hid hright
  clear hput hbox hright
  go_enter Tryz.func7, Tryz.ntmps7
  go_wp2_with fail
  refine (HR.out _).mono ?_
  rintro x w1 ⟨rfl, hb1⟩
  go_wp2_with fail
  refine (sec_fields_any _ w1).mono ?_
  rintro x w2 ⟨L, C, rfl, ht, hb2⟩
  have hbk : w2.heap[w.heap.size]? = some (.cells #[.int .u64 x0, .int .u64 x1, .int .i64 x2, .int .u64 x3, .int .u64 x4, .int .u64 x5, .int .u64 x6, .int .i64 x7, .int .i64 x8, .string x9, .string x10] EntT (0, 0)) := by
    have hs := hb1.size
    simp only [World.size_alloc] at hs
    rw [hb2.block _ (by omega), hb1.block _ (by simp)]
    exact HBOX.out
  have hbw : Below w.heap.size w w2 := (((Below.refl _ _).alloc (Nat.le_refl _) _).trans (hb1.mono (by simp))).trans (hb2.mono (by have := hb1.size; simp only [World.size_alloc] at this; omega))
  have HC := Lib.hid (HP.out L _ C w2 ht hbk)
  have HBW := Lib.hid hbw
  clear hb1 hb2 hbw ht hbk
  go_wp2_with fail
  refine HC.out.mono ?_
  rintro x w3 ⟨rfl, hb3⟩
  go_wp2_with fail
  go_ret2
  exact ⟨rfl, HBW.out.trans (hb3.mono HBW.out.size)⟩

theorem takeN_rd (r : Rd) : (takeN r).2 = if badU (rdVar r).1 = true then rdFail else (rdVar r).2 := by
  unfold takeN badU
  simp
theorem But2.refl (b e : Nat) (w : World) : But2 b e w w := ⟨rfl, rfl, rfl, Nat.le_refl _, fun _ _ _ _ => rfl⟩
theorem But2.toBut {b e : Nat} {w w' : World} (h : But2 b e w w') (he : w.heap.size ≤ e) : But b w w' := ⟨h.os, h.tape, h.output, h.size, fun k hk h1 => h.block k hk (fun h => h1 (by rw [h])) (by omega)⟩

theorem But2.after {b e : Nat} {w w' w'' : World} (h : Below w.heap.size w w') (g : But2 b e w' w'') (he : w.heap.size ≤ e) : But b w w'' :=
  ⟨g.os.trans h.os, g.tape.trans h.tape, g.output.trans h.output, Nat.le_trans h.size g.size, fun k hk h1 => (g.block k (Nat.lt_of_lt_of_le hk h.size) (fun h => h1 (by rw [h])) (by omega)).trans (h.block k hk)⟩
theorem But.set_far {b e o : Nat} {w w' : World} {v : Value} (h : But b w w') (he : w.heap.size ≤ e) : But b w (w'.setCell ⟨e, o, none⟩ v) :=
  ⟨h.os, h.tape, h.output, by have := h.size; simp [World.setCell]; omega, fun k hk h1 => by
    have hne : e ≠ k := by omega
    have := h.block k hk h1
    simp [World.setCell, Array.getElem?_modify, hne]
    exact this⟩
theorem RdAt.set_far {b e o : Nat} {w : World} {r : Rd} {v : Value} (h : RdAt w b r) (he : b ≠ e) : RdAt (w.setCell ⟨e, o, none⟩ v) b r := by
  unfold RdAt at h ⊢
  simp [World.setCell, Array.getElem?_modify, Ne.symm he, h]

set_option maxHeartbeats 1000000 in
theorem secGet_ent (b e L base : Nat) (C : Nat → Nat) (r : Rd) (hl : r.1.length ≤ 1099511627776) (w : World) (hb : b < base) (he : e < base) (hbe : b ≠ e) (hf : TagsAt w L base e entK C) (h : RdAt w b r) (hz : w.heap[e]? = some (.cells Ent.zero.cells EntT (0, 0))) :
    Calls Tryz.prog 39 #[.pointer (some ⟨b, 0, none⟩), .slice (some ⟨L, 0, none⟩) 11 11] w fun x w' => x = .returned (.tuple #[]) ∧ RdAt w' b (getL entTakes 0 Ent.zero r).2 ∧ But2 b e w w' ∧ w'.heap[e]? = some (.cells (getL entTakes 0 Ent.zero r).1.cells EntT (0, 0)) := by
  refine Calls.mono (secGet_of entTakes entTakes_fine (fun _ W s => But2 b e w W ∧ W.heap[e]? = some (.cells s.cells EntT (0, 0))) b L 11 11 (fun k => (entK k).1.2.1) (fun k => .pointer (some ⟨C k, 0, none⟩)) rfl (by decide) ?_ (fun k hk args W => (fk_enters _ (entK_kind k hk) args W).2) ?_ ?_ Ent.zero r hl w ⟨But2.refl b e w, hz⟩ h) (fun x w' h => ⟨h.1, h.2.1, h.2.2.choose_spec.2⟩)
  · intro _ W s _ hs k hk
    rw [World.cell?_of_block (w := w) (hs.1.block L hf.list.2 (by have := hf.list.1; omega) (by have := hf.list.1; omega))]
    exact hf.take k hk
  · intro _ W W' s hs hb'
    exact ⟨hs.1.trans (But2.ofBut hb'), (hb'.block e (heap_lt hs.2) (fun h => hbe (Option.some.inj h).symm)).trans hs.2⟩
  · intro k hk _ W s r _ hs hrd hr
    have hk11 : k < 11 := hk
    obtain ⟨hbw, hblk⟩ := hs
    have hbx := hf.box k hk11
    have hp : PtrAt W (C k) e (entK k).2 (entK k).1.2.2 := (hbw.block (C k) hbx.2 (by omega) (by omega)).trans (hf.ptr k hk11)
    have h2 : b ≠ C k := by omega
    have h3 : C k ≠ e := by omega
    match k, hk11, hp, h2, h3, hk with
    | 0, _, h1, h2, h3, _ => exact (numI_take b (C 0) e 2 r s.cells _ EntT s.kind hbe h2 h3 hr W hrd h1 hblk rfl).mono fun x w' ⟨g1, g2, g3, g4⟩ => ⟨g1, g2, hbw.trans g4, g3⟩
    | 1, _, h1, h2, h3, _ => exact (numU_take b (C 1) e 0 r s.cells _ EntT s.term hbe h2 h3 hr W hrd h1 hblk rfl).mono fun x w' ⟨g1, g2, g3, g4⟩ => ⟨g1, by rw [takeN_rd] at g2; exact g2, hbw.trans g4, g3⟩
    | 2, _, h1, h2, h3, _ => exact (numU_take b (C 2) e 1 r s.cells _ EntT s.index hbe h2 h3 hr W hrd h1 hblk rfl).mono fun x w' ⟨g1, g2, g3, g4⟩ => ⟨g1, by rw [takeN_rd] at g2; exact g2, hbw.trans g4, g3⟩
    | 3, _, h1, h2, h3, _ => exact (numU_take b (C 3) e 3 r s.cells _ EntT s.client hbe h2 h3 hr W hrd h1 hblk rfl).mono fun x w' ⟨g1, g2, g3, g4⟩ => ⟨g1, by rw [takeN_rd] at g2; exact g2, hbw.trans g4, g3⟩
    | 4, _, h1, h2, h3, _ => exact (numU_take b (C 4) e 4 r s.cells _ EntT s.seq hbe h2 h3 hr W hrd h1 hblk rfl).mono fun x w' ⟨g1, g2, g3, g4⟩ => ⟨g1, by rw [takeN_rd] at g2; exact g2, hbw.trans g4, g3⟩
    | 5, _, h1, h2, h3, _ => exact (numU_take b (C 5) e 5 r s.cells _ EntT s.block hbe h2 h3 hr W hrd h1 hblk rfl).mono fun x w' ⟨g1, g2, g3, g4⟩ => ⟨g1, by rw [takeN_rd] at g2; exact g2, hbw.trans g4, g3⟩
    | 6, _, h1, h2, h3, _ => exact (numU_take b (C 6) e 6 r s.cells _ EntT s.many hbe h2 h3 hr W hrd h1 hblk rfl).mono fun x w' ⟨g1, g2, g3, g4⟩ => ⟨g1, by rw [takeN_rd] at g2; exact g2, hbw.trans g4, g3⟩
    | 7, _, h1, h2, h3, _ => exact (numI_take b (C 7) e 7 r s.cells _ EntT s.node hbe h2 h3 hr W hrd h1 hblk rfl).mono fun x w' ⟨g1, g2, g3, g4⟩ => ⟨g1, g2, hbw.trans g4, g3⟩
    | 8, _, h1, h2, h3, _ => exact (numI_take b (C 8) e 8 r s.cells _ EntT s.level hbe h2 h3 hr W hrd h1 hblk rfl).mono fun x w' ⟨g1, g2, g3, g4⟩ => ⟨g1, g2, hbw.trans g4, g3⟩
    | 9, _, h1, h2, h3, _ => exact (text_take b (C 9) e 9 r s.cells _ EntT s.data hbe h2 h3 hr W hrd h1 hblk rfl).mono fun x w' ⟨g1, g2, g3, g4⟩ => ⟨g1, g2, hbw.trans g4, g3⟩
    | 10, _, h1, h2, h3, _ => exact (text_take b (C 10) e 10 r s.cells _ EntT s.old hbe h2 h3 hr W hrd h1 hblk rfl).mono fun x w' ⟨g1, g2, g3, g4⟩ => ⟨g1, g2, hbw.trans g4, g3⟩
    | k + 11, h, _, _, _, _ => exact absurd h (by omega)

set_option maxRecDepth 100000 in
set_option maxHeartbeats 2000000 in
theorem secondGet_any (b : Nat) (r : Rd) (hl : r.1.length ≤ 1099511627776) (w : World) (h : RdAt w b r) :
    Calls Tryz.prog 10 #[.pointer (some ⟨b, 0, none⟩)] w fun x w' => x = .returned (getEnt r).1.val ∧ RdAt w' b (getEnt r).2 ∧ But b w w' := by
  have hdef : getEnt r = if (getL entTakes 0 Ent.zero r).2.2 = false ∧ rightB (getL entTakes 0 Ent.zero r).1 = true then getL entTakes 0 Ent.zero r else (Ent.zero, rdFail) := rfl
  have hget := fun L base C W => secGet_ent b w.heap.size L base C r hl W
  have hok := getEntL_okay 1099511627776 (by decide) r hl
  generalize getL entTakes 0 Ent.zero r = y at *
  generalize getEnt r = q at *
  obtain ⟨e, r2⟩ := y
  simp only at hok hdef
  have hlt := h.lt
  have HG := Lib.hid hget
  have HD := Lib.hid hdef
  have HH := Lib.hid h
  have hright := fun W => right_any e hok.wf W
  have HR := Lib.hid hright
  clear hget hdef h hok hright
  go_enter Tryz.func10, Tryz.ntmps10
  go_wp2_with fail
  refine (sec_fields_any _ _).mono ?_
  rintro x w2 ⟨L, C, rfl, ht, hb2⟩
  have hz := heap_alloc_new w (.cells Ent.zero.cells EntT)
  have hz2 : w2.heap[w.heap.size]? = some (.cells Ent.zero.cells EntT (0, 0)) := (hb2.block _ (by simp)).trans hz
  have hh2 : RdAt w2 b r := (HH.out.keep ((Below.refl _ _).alloc (Nat.le_refl _) _)).keep hb2
  have HC := Lib.hid (HG.out L _ C w2 (by simp; omega) (by simp) (by omega) ht hh2 hz2)
  have hb02 : Below w.heap.size w w2 := ((Below.refl _ _).alloc (Nat.le_refl _) _).trans (hb2.mono (by simp))
  have HB02 := Lib.hid hb02
  clear hz hz2 hh2 ht hb2 hb02
  go_wp2_with fail
  refine HC.out.mono ?_
  rintro x w3 ⟨rfl, h3, hb3, he3⟩
  have hlt2 : w.heap.size < w3.heap.size := heap_lt he3
  have HH3 := Lib.hid h3
  have HB03 := Lib.hid (But2.after HB02.out hb3 (Nat.le_refl _))
  have HE3 := Lib.hid he3
  clear h3 hb3 he3 HC HG HB02 HH
  obtain ⟨x0, x1, x2, x3, x4, x5, x6, x7, x8, x9, x10⟩ := e
  obtain ⟨v, bad⟩ := r2
  simp only [Ent.val, Ent.cells] at HR
  have c0 : w3.cell? ⟨w.heap.size, 0, none⟩ = some (.int .u64 x0) := Lib.cell_of_heap HE3.out 0
  have c1 : w3.cell? ⟨w.heap.size, 1, none⟩ = some (.int .u64 x1) := Lib.cell_of_heap HE3.out 1
  have c2 : w3.cell? ⟨w.heap.size, 2, none⟩ = some (.int .i64 x2) := Lib.cell_of_heap HE3.out 2
  have c3 : w3.cell? ⟨w.heap.size, 3, none⟩ = some (.int .u64 x3) := Lib.cell_of_heap HE3.out 3
  have c4 : w3.cell? ⟨w.heap.size, 4, none⟩ = some (.int .u64 x4) := Lib.cell_of_heap HE3.out 4
  have c5 : w3.cell? ⟨w.heap.size, 5, none⟩ = some (.int .u64 x5) := Lib.cell_of_heap HE3.out 5
  have c6 : w3.cell? ⟨w.heap.size, 6, none⟩ = some (.int .u64 x6) := Lib.cell_of_heap HE3.out 6
  have c7 : w3.cell? ⟨w.heap.size, 7, none⟩ = some (.int .i64 x7) := Lib.cell_of_heap HE3.out 7
  have c8 : w3.cell? ⟨w.heap.size, 8, none⟩ = some (.int .i64 x8) := Lib.cell_of_heap HE3.out 8
  have c9 : w3.cell? ⟨w.heap.size, 9, none⟩ = some (.string x9) := Lib.cell_of_heap HE3.out 9
  have c10 : w3.cell? ⟨w.heap.size, 10, none⟩ = some (.string x10) := Lib.cell_of_heap HE3.out 10
  cases bad
  case true =>
    have HQ := Lib.hid (HD.out.trans (if_neg (fun h => by cases h.1)))
    clear HD HR
    go_wp2_with fail
    refine (ok_any b (v, true) w3 HH3.out).mono ?_
    rintro x w3' ⟨rfl, rfl⟩
    go_wp2_with fail
    refine (fail_any b (v, true) _ HH3.out).mono ?_
    rintro x w4 ⟨rfl, h4, hb4⟩
    have he4 := (hb4.block w.heap.size hlt2 (fun h => absurd (Option.some.inj h) (by omega))).trans HE3.out
    have H4 := Lib.hid h4
    have HB4 := Lib.hid (HB03.out.trans hb4)
    have HE4 := Lib.hid he4
    have f4 : ∀ o, w4.frozen? ⟨w.heap.size, o, none⟩ = false := fun o => Lib.frozen_of_heap he4 o
    clear h4 hb4 c0 c1 c2 c3 c4 c5 c6 c7 c8 c9 c10
    have c0 : w4.cell? ⟨w.heap.size, 0, none⟩ = some (.int .u64 x0) := Lib.cell_of_heap HE4.out 0
    have c1 : w4.cell? ⟨w.heap.size, 1, none⟩ = some (.int .u64 x1) := Lib.cell_of_heap HE4.out 1
    have c2 : w4.cell? ⟨w.heap.size, 2, none⟩ = some (.int .i64 x2) := Lib.cell_of_heap HE4.out 2
    have c3 : w4.cell? ⟨w.heap.size, 3, none⟩ = some (.int .u64 x3) := Lib.cell_of_heap HE4.out 3
    have c4 : w4.cell? ⟨w.heap.size, 4, none⟩ = some (.int .u64 x4) := Lib.cell_of_heap HE4.out 4
    have c5 : w4.cell? ⟨w.heap.size, 5, none⟩ = some (.int .u64 x5) := Lib.cell_of_heap HE4.out 5
    have c6 : w4.cell? ⟨w.heap.size, 6, none⟩ = some (.int .u64 x6) := Lib.cell_of_heap HE4.out 6
    have c7 : w4.cell? ⟨w.heap.size, 7, none⟩ = some (.int .i64 x7) := Lib.cell_of_heap HE4.out 7
    have c8 : w4.cell? ⟨w.heap.size, 8, none⟩ = some (.int .i64 x8) := Lib.cell_of_heap HE4.out 8
    have c9 : w4.cell? ⟨w.heap.size, 9, none⟩ = some (.string x9) := Lib.cell_of_heap HE4.out 9
    have c10 : w4.cell? ⟨w.heap.size, 10, none⟩ = some (.string x10) := Lib.cell_of_heap HE4.out 10
    clear he4
    go_wp2_with fail
    have hz := HE4.out
    refine bodyPost_ret (results_cell_row rfl _ _ w.heap.size EntT Ent.zero.cells (0, 0) _ rfl ?_ Tryz.underlying32 rfl (by kernel_rfl)) rfl ?_
    · simp [World.setCell, Array.getElem?_modify, hz, Ent.cells, Ent.zero]
    · rw [HQ.out]
      refine ⟨rfl, ?_, ?_⟩
      · repeat' (first | with_reducible exact H4.out | with_reducible exact Nat.ne_of_lt hlt | with_reducible refine RdAt.set_far ?_ ?_)
      · repeat' (first | with_reducible exact HB4.out | with_reducible exact Nat.le_refl _ | with_reducible refine But.set_far ?_ ?_)
  case false =>
    have HR3 := Lib.hid (HR.out w3)
    cases hg : rightB ⟨x0, x1, x2, x3, x4, x5, x6, x7, x8, x9, x10⟩
    · have HQ := Lib.hid (HD.out.trans (if_neg (fun h => by rw [hg] at h; cases h.2)))
      rw [hg] at HR3
      clear HD HR hg
      go_wp2_with fail
      refine (ok_any b (v, false) w3 HH3.out).mono ?_
      rintro x w3' ⟨rfl, rfl⟩
      go_wp2_with fail
      refine HR3.out.mono ?_
      rintro x w4 ⟨rfl, hb4⟩
      clear c0 c1 c2 c3 c4 c5 c6 c7 c8 c9 c10
      have H4 := Lib.hid (HH3.out.keep hb4)
      have HB4 := Lib.hid (HB03.out.trans (But.of hb4))
      have HE4 := Lib.hid ((hb4.block w.heap.size hlt2).trans HE3.out)
      clear hb4
      go_wp2_with fail
      refine (fail_any b (v, false) _ H4.out).mono ?_
      rintro x w5 ⟨rfl, h5, hb5⟩
      have hlt4 : w.heap.size < w4.heap.size := heap_lt HE4.out
      have he5 := (hb5.block w.heap.size hlt4 (fun h => absurd (Option.some.inj h) (by omega))).trans HE4.out
      have H5 := Lib.hid h5
      have HB5 := Lib.hid (HB4.out.trans hb5)
      have HE5 := Lib.hid he5
      have f5 : ∀ o, w5.frozen? ⟨w.heap.size, o, none⟩ = false := fun o => Lib.frozen_of_heap he5 o
      clear h5 hb5 he5
      have c0 : w5.cell? ⟨w.heap.size, 0, none⟩ = some (.int .u64 x0) := Lib.cell_of_heap HE5.out 0
      have c1 : w5.cell? ⟨w.heap.size, 1, none⟩ = some (.int .u64 x1) := Lib.cell_of_heap HE5.out 1
      have c2 : w5.cell? ⟨w.heap.size, 2, none⟩ = some (.int .i64 x2) := Lib.cell_of_heap HE5.out 2
      have c3 : w5.cell? ⟨w.heap.size, 3, none⟩ = some (.int .u64 x3) := Lib.cell_of_heap HE5.out 3
      have c4 : w5.cell? ⟨w.heap.size, 4, none⟩ = some (.int .u64 x4) := Lib.cell_of_heap HE5.out 4
      have c5 : w5.cell? ⟨w.heap.size, 5, none⟩ = some (.int .u64 x5) := Lib.cell_of_heap HE5.out 5
      have c6 : w5.cell? ⟨w.heap.size, 6, none⟩ = some (.int .u64 x6) := Lib.cell_of_heap HE5.out 6
      have c7 : w5.cell? ⟨w.heap.size, 7, none⟩ = some (.int .i64 x7) := Lib.cell_of_heap HE5.out 7
      have c8 : w5.cell? ⟨w.heap.size, 8, none⟩ = some (.int .i64 x8) := Lib.cell_of_heap HE5.out 8
      have c9 : w5.cell? ⟨w.heap.size, 9, none⟩ = some (.string x9) := Lib.cell_of_heap HE5.out 9
      have c10 : w5.cell? ⟨w.heap.size, 10, none⟩ = some (.string x10) := Lib.cell_of_heap HE5.out 10
      go_wp2_with fail
      have hz := HE5.out
      refine bodyPost_ret (results_cell_row rfl _ _ w.heap.size EntT Ent.zero.cells (0, 0) _ rfl ?_ Tryz.underlying32 rfl (by kernel_rfl)) rfl ?_
      · simp [World.setCell, Array.getElem?_modify, hz, Ent.cells, Ent.zero]
      · rw [HQ.out]
        refine ⟨rfl, ?_, ?_⟩
        · repeat' (first | with_reducible exact H5.out | with_reducible exact Nat.ne_of_lt hlt | with_reducible refine RdAt.set_far ?_ ?_)
        · repeat' (first | with_reducible exact HB5.out | with_reducible exact Nat.le_refl _ | with_reducible refine But.set_far ?_ ?_)
    · have HQ := Lib.hid (HD.out.trans (if_pos ⟨rfl, hg⟩))
      rw [hg] at HR3
      clear HD HR hg
      go_wp2_with fail
      refine (ok_any b (v, false) w3 HH3.out).mono ?_
      rintro x w3' ⟨rfl, rfl⟩
      go_wp2_with fail
      refine HR3.out.mono ?_
      rintro x w4 ⟨rfl, hb4⟩
      clear c0 c1 c2 c3 c4 c5 c6 c7 c8 c9 c10
      have H4 := Lib.hid (HH3.out.keep hb4)
      have HB4 := Lib.hid (HB03.out.trans (But.of hb4))
      have HE4 := Lib.hid ((hb4.block w.heap.size hlt2).trans HE3.out)
      have f4 : ∀ o, w4.frozen? ⟨w.heap.size, o, none⟩ = false := fun o => Lib.frozen_of_heap HE4.out o
      clear hb4
      have c0 : w4.cell? ⟨w.heap.size, 0, none⟩ = some (.int .u64 x0) := Lib.cell_of_heap HE4.out 0
      have c1 : w4.cell? ⟨w.heap.size, 1, none⟩ = some (.int .u64 x1) := Lib.cell_of_heap HE4.out 1
      have c2 : w4.cell? ⟨w.heap.size, 2, none⟩ = some (.int .i64 x2) := Lib.cell_of_heap HE4.out 2
      have c3 : w4.cell? ⟨w.heap.size, 3, none⟩ = some (.int .u64 x3) := Lib.cell_of_heap HE4.out 3
      have c4 : w4.cell? ⟨w.heap.size, 4, none⟩ = some (.int .u64 x4) := Lib.cell_of_heap HE4.out 4
      have c5 : w4.cell? ⟨w.heap.size, 5, none⟩ = some (.int .u64 x5) := Lib.cell_of_heap HE4.out 5
      have c6 : w4.cell? ⟨w.heap.size, 6, none⟩ = some (.int .u64 x6) := Lib.cell_of_heap HE4.out 6
      have c7 : w4.cell? ⟨w.heap.size, 7, none⟩ = some (.int .i64 x7) := Lib.cell_of_heap HE4.out 7
      have c8 : w4.cell? ⟨w.heap.size, 8, none⟩ = some (.int .i64 x8) := Lib.cell_of_heap HE4.out 8
      have c9 : w4.cell? ⟨w.heap.size, 9, none⟩ = some (.string x9) := Lib.cell_of_heap HE4.out 9
      have c10 : w4.cell? ⟨w.heap.size, 10, none⟩ = some (.string x10) := Lib.cell_of_heap HE4.out 10
      go_wp2_with fail
      have hz := HE4.out
      refine bodyPost_ret (results_cell_row rfl _ _ w.heap.size EntT (Ent.cells ⟨x0, x1, x2, x3, x4, x5, x6, x7, x8, x9, x10⟩) (0, 0) _ rfl ?_ Tryz.underlying32 rfl (by kernel_rfl)) rfl ?_
      · simp [World.setCell, Array.getElem?_modify, hz, Ent.cells]
      · rw [HQ.out]
        refine ⟨rfl, ?_, ?_⟩
        · repeat' (first | with_reducible exact H4.out | with_reducible exact Nat.ne_of_lt hlt | with_reducible refine RdAt.set_far ?_ ?_)
        · repeat' (first | with_reducible exact HB4.out | with_reducible exact Nat.le_refl _ | with_reducible refine But.set_far ?_ ?_)

end Go.Proofs.YtbjbgdnjcppjhaaGreatDoor
