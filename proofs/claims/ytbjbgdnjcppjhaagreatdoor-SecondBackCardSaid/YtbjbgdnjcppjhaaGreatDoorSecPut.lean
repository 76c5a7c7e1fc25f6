/-
  second.put over any list of fields: each field's bytes, behind its tag, and the end. Conditions: as the theorem says. By an AI agent.
-/
import Derived.Test.YtbjbgdnjcppjhaaGreatDoorSecNum
namespace Go.Proofs.YtbjbgdnjcppjhaaGreatDoor
open Go.RowKit Go.Sort
set_option linter.unusedVariables false
set_option linter.unusedSimpArgs false

theorem Bld.below {m b : Nat} {bs : List Value} {w w' : World} (h : Bld m b bs w) (hb : Below w.heap.size w w') : Bld m b bs w' := by
  obtain ⟨h1, h2, p, v, h3, h4, h5⟩ := h
  exact ⟨h1, Nat.le_trans h2 hb.size, p, v, h3, (hb.block _ (heap_lt h4)).trans h4, ownsRow_below h5 hb⟩
theorem bytes_strCells (l : List UInt8) : Lib.strCells ⟨l.toArray⟩ = Lib.byteCells l := rfl

set_option maxRecDepth 100000 in
set_option maxHeartbeats 4000000 in
theorem secPut_of (L cap : Nat) (n : Nat) (F G : Nat → FuncId) (V : Nat → Value) (bs : List (List UInt8)) (hlen : bs.length = n) (hn : n ≤ 1000) (hsz : (tagL 0 bs).length ≤ 1099511627776) (w : World)
    (hcell : ∀ k, k < n → w.cell? ⟨L, k * 2, none⟩ = some (.func (.func (F k)) #[] #[V k]) ∧ w.cell? ⟨L, k * 2 + 1, none⟩ = some (.func (.func (G k)) #[] #[V k]))
    (hent : ∀ k, k < n → ∀ (args : Array Value) (W : World), (callFunc (F k) args).run Tryz.prog W = .ok (.enter (F k) args) W)
    (hput : ∀ k (h : k < bs.length) (W : World), Below w.heap.size w W → Calls Tryz.prog (F k) #[V k] W fun x W' => x = .returned (.string ⟨bs[k].toArray⟩) ∧ Below W.heap.size W W') :
    Calls Tryz.prog 36 #[.slice (some ⟨L, 0, none⟩) n cap] w fun x w' => x = .returned (.string ⟨(tagL 0 bs).toArray⟩) ∧ Below w.heap.size w w' := by
  have HCELL := Lib.hid hcell
  have HENT := Lib.hid hent
  have HPUT := Lib.hid hput
  have HSZ := Lib.hid hsz
  clear hcell hent hput hsz
  go_enter Tryz.func36, Tryz.ntmps36
  go_wp2_with fail
  go_loopw [4, 5, 6, 9] (fun k4 f5 s6 i wr => ∃ (k : Nat) (acc : List UInt8), k ≤ n ∧ i = .int .i64 k ∧ Bld (w.heap.size + 1) w.heap.size (Lib.byteCells acc) wr ∧ Below w.heap.size w wr ∧ acc ++ tagL k (bs.drop k) = tagL 0 bs) (fun k4 f5 s6 i _ => n - (intOf i).toNat)
  case atStart => exact ⟨0, [], Nat.zero_le _, rfl, Bld.fresh w, (Below.refl _ _).alloc (Nat.le_refl _) _, rfl⟩
  case round =>
    obtain ⟨k, acc, hk, rfl, hbld, hbr, hinv⟩ := hrel
    by_cases hlt : k < n
    · have hltb : k < bs.length := by omega
      obtain ⟨hc0, hc1⟩ := HCELL.out k hlt
      have hc0 := cell_later hbr hc0
      have hc1 := cell_later hbr hc1
      have hd : bs.drop k = bs[k] :: bs.drop (k + 1) := List.drop_eq_getElem_cons hltb
      rw [hd, tagL] at hinv
      have hen := HENT.out k hlt
      have hpu := HPUT.out k hltb
      have HB := Lib.hid hbr
      have hbs := hbr.size
      have HBLD := Lib.hid hbld
      have HINV := Lib.hid hinv
      clear hd hbr hbld hinv
      generalize F k = fn at *
      generalize V k = cv at *
      generalize G k = gn at *
      generalize bs[k] = t at *
      have HPU := Lib.hid hpu
      clear hpu
      go_wp2_with fail
      have hb2 : Below w.heap.size w (wr.alloc (.cells #[.func (.func fn) #[] #[cv], .func (.func gn) #[] #[cv]] 117)) := HB.out.trans (((Below.refl _ _).alloc (Nat.le_refl _) _).mono hbs)
      refine (HPU.out _ hb2).mono ?_
      rintro x w3 ⟨rfl, hb3⟩
      have hb3w : Below w.heap.size w w3 := hb2.trans (hb3.mono hb2.size)
      have hbld3 : Bld (w.heap.size + 1) w.heap.size (Lib.byteCells acc) w3 := (HBLD.out.below ((Below.refl _ _).alloc (Nat.le_refl _) _)).below hb3
      have HB3 := Lib.hid hb3w
      have HBLD3 := Lib.hid hbld3
      clear hb2 hb3 hb3w hbld3 hc0 hc1
      by_cases ht : t = []
      · subst ht
        have hinv := HINV.out
        rw [if_pos rfl, List.nil_append] at hinv
        have HI2 := Lib.hid hinv
        clear hinv
        go_wp2_with fail
        go_roundw
        case rel => exact ⟨k + 1, acc, by omega, by go_num, HBLD3.out, HB3.out, HI2.out⟩
        case measure => simp [intOf]; omega
      · have hinv := HINV.out
        rw [if_neg ht, ← List.append_assoc] at hinv
        have hl := HSZ.out
        rw [← hinv] at hl
        have hvl : (acc ++ (varL (k + 1) ++ t)).length ≤ 1099511627776 := by
          rw [List.length_append] at hl
          omega
        have HVL := Lib.hid hvl
        have HI2 := Lib.hid hinv
        have hp : ∀ W, Calls Tryz.prog 66 #[.int .u64 ((k : Int) + 1)] W fun x w' => x = .returned (.string ⟨(varL (k + 1)).toArray⟩) ∧ Below W.heap.size W w' := fun W => put_any (k + 1) (by omega) W
        have HP := Lib.hid hp
        have hne : t.isEmpty = false := by cases t with
          | nil => exact absurd rfl ht
          | cons a l => rfl
        have hsum : acc.length + ((varL (k + 1)).length + t.length) ≤ 1099511627776 := by
          simpa [List.length_append] using hvl
        clear hinv hl hvl ht hp
        generalize varL (k + 1) = tg at *
        go_wp2_with fail
        refine (HP.out _).mono ?_
        rintro x w4 ⟨rfl, hb4⟩
        have hbld4 := HBLD3.out.below hb4
        have hb4w := HB3.out.trans (hb4.mono HB3.out.size)
        have HB4 := Lib.hid hb4w
        have HBLD4 := Lib.hid hbld4
        clear hb4 hb4w hbld4
        go_wp2_with fail
        have hcat : (⟨tg.toArray⟩ : ByteArray) ++ ⟨t.toArray⟩ = ⟨(tg ++ t).toArray⟩ := ByteArray.mk_append_mk tg t
        rw [hcat]
        refine (writeString_any _ _ _ ⟨(tg ++ t).toArray⟩ _ HBLD4.out (by rw [Lib.byteCells_length]; show acc.length + (tg ++ t).length ≤ _; rw [List.length_append]; omega)).mono ?_
        rintro x w5 ⟨rfl, hbld5, hk5⟩
        have hb5 : Below w.heap.size w w5 := HB4.out.trans (hk5.below (Nat.le_refl _) (by omega) HB4.out.size)
        rw [bytes_strCells] at hbld5
        have hbld6 : Bld (w.heap.size + 1) w.heap.size (Lib.byteCells (acc ++ (tg ++ t))) w5 := by
          have : Lib.byteCells (acc ++ (tg ++ t)) = Lib.byteCells acc ++ Lib.byteCells (tg ++ t) := by simp [Lib.byteCells]
          rw [this]
          exact hbld5
        have HB5 := Lib.hid hb5
        have HBLD5 := Lib.hid hbld6
        clear hbld5 hbld6 hb5 hk5 hcat
        go_wp2_with fail
        go_roundw
        case rel => exact ⟨k + 1, acc ++ (tg ++ t), by omega, by go_num, HBLD5.out, HB5.out, HI2.out⟩
        case measure => simp [intOf]; omega
    · have hsum : acc.length + 1 ≤ 1099511627776 := by
        have h := HSZ.out
        rw [← hinv, List.drop_eq_nil_of_le (by omega)] at h
        simpa [tagL] using h
      have hfin : acc ++ [0] = tagL 0 bs := by
        rw [← hinv, List.drop_eq_nil_of_le (by omega)]
        rfl
      have hbl := hbld.isBuilder (Nat.le_refl _)
      have hstr := Tryz.Builder_String_any w.heap.size w.heap.size acc wr hbl hbr.size
      have HF := Lib.hid hfin
      have HB := Lib.hid hbr
      clear hfin hinv hbld hbr hbl
      go_wp2_with fail
      refine hstr.mono ?_
      rintro x w1 ⟨rfl, hb1⟩
      go_wp2_with fail
      go_ret
      refine ⟨?_, HB.out.trans hb1⟩
      rw [← HF.out]
      exact congrArg (fun z => Ending.returned (Value.string z)) (ByteArray.mk_append_mk acc [0])

end Go.Proofs.YtbjbgdnjcppjhaaGreatDoor
