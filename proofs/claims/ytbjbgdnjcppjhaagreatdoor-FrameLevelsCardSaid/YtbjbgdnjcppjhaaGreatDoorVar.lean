/-
  varint over this translation: Put, Text; the Reader's New, OK, Left, Fail, Bytes, Var, Text. Conditions: a number of 64 bits; texts of at most 2^40 bytes. By an AI agent.
-/
import Derived.Test.YtbjbgdnjcppjhaaGreatDoorVarP
import Derived.Test.YtbjbgdnjcppjhaaGreatDoorOwn
import Derived.Test.YtbjbgdnjcppjhaaGreatDoorBuild
import Derived.Laws.IdiomStrings
import Derived.Laws.BitsAllLaws
import Derived.Laws.Bits128
namespace Go.Proofs.YtbjbgdnjcppjhaaGreatDoor
open Go.RowKit Go.Sort
set_option linter.unusedVariables false
set_option linter.unusedSimpArgs false

/-- a reader lies there -/
def RdAt (w : World) (b : Nat) (r : Rd) : Prop := w.heap[b]? = some (.cells #[.string ⟨r.1.toArray⟩, .bool r.2] 76 (0, 0))
theorem RdAt.lt {w : World} {b : Nat} {r : Rd} (h : RdAt w b r) : b < w.heap.size := (Array.getElem?_eq_some_iff.1 h).1
theorem RdAt.cell {w : World} {b : Nat} {r : Rd} (h : RdAt w b r) : w.cell? ⟨b, 0, none⟩ = some (.string ⟨r.1.toArray⟩) ∧ w.cell? ⟨b, 1, none⟩ = some (.bool r.2) ∧ (∀ o, w.frozen? ⟨b, o, none⟩ = false) :=
  ⟨Lib.cell_of_heap h 0, Lib.cell_of_heap h 1, fun o => Lib.frozen_of_heap h o⟩
theorem RdAt.keep {w w' : World} {b : Nat} {r : Rd} (h : RdAt w b r) (hb : Below w.heap.size w w') : RdAt w' b r := (hb.block b h.lt).trans h
/-- all is as it was, but for the block b, and new blocks -/
abbrev But (b : Nat) (w w' : World) : Prop := w.grownBy w' (some b)
theorem But.refl (b : Nat) (w : World) : But b w w := ⟨rfl, rfl, rfl, Nat.le_refl _, fun _ _ _ => rfl⟩
theorem But.trans {b : Nat} {w w' w'' : World} (h : But b w w') (g : But b w' w'') : But b w w'' :=
  ⟨g.os.trans h.os, g.tape.trans h.tape, g.output.trans h.output, Nat.le_trans h.size g.size, fun k hk hne => (g.block k (Nat.lt_of_lt_of_le hk h.size) hne).trans (h.block k hk hne)⟩
theorem But.of {b : Nat} {w w' : World} (h : Below w.heap.size w w') : But b w w' := ⟨h.os, h.tape, h.output, h.size, fun k hk _ => h.block k hk⟩
theorem But.set {b o : Nat} {w : World} {v : Value} : But b w (w.setCell ⟨b, o, none⟩ v) := by
  refine ⟨rfl, rfl, rfl, by simp [World.setCell], fun k _ hne => ?_⟩
  have : b ≠ k := fun h => hne (by rw [h])
  simp [World.setCell, Array.getElem?_modify, this]

set_option maxHeartbeats 1000000 in
theorem new_any (s : List UInt8) (w : World) :
    Calls Tryz.prog 9 #[.string ⟨s.toArray⟩] w fun x w' => x = .returned (.pointer (some ⟨w.heap.size, 0, none⟩)) ∧ RdAt w' w.heap.size (s, false) ∧ Below w.heap.size w w' ∧ w.heap.size < w'.heap.size := by
  go_enter Tryz.func9, Tryz.ntmps9
  go_wp2_with fail
  go_ret
  exact ⟨rfl, heap_alloc_new w _, (Below.refl _ _).alloc (Nat.le_refl _) _, by simp⟩

set_option maxHeartbeats 1000000 in
theorem fail_any (b : Nat) (r : Rd) (w : World) (h : RdAt w b r) :
    Calls Tryz.prog 40 #[.pointer (some ⟨b, 0, none⟩)] w fun x w' => x = .returned (.tuple #[]) ∧ RdAt w' b rdFail ∧ But b w w' := by
  obtain ⟨c0, c1, f0⟩ := h.cell
  have H := Lib.hid h
  clear h
  go_enter Tryz.func40, Tryz.ntmps40
  go_wp2_with fail
  refine ⟨rfl, .tuple #[], results_none rfl _ _ _, rfl, ?_, But.set.trans But.set⟩
  have := H.out
  unfold RdAt at this ⊢
  simp [World.setCell, Array.getElem?_modify, this, rdFail]

set_option maxHeartbeats 1000000 in
theorem ok_any (b : Nat) (r : Rd) (w : World) (h : RdAt w b r) :
    Calls Tryz.prog 16 #[.pointer (some ⟨b, 0, none⟩)] w fun x w' => x = .returned (.bool (!r.2)) ∧ w' = w := by
  obtain ⟨c0, c1, f0⟩ := h.cell
  clear h
  go_enter Tryz.func16, Tryz.ntmps16
  go_wp2_with fail
  go_ret
  exact ⟨rfl, by first | rfl | trivial⟩

set_option maxHeartbeats 1000000 in
theorem left_any (b : Nat) (r : Rd) (w : World) (h : RdAt w b r) :
    Calls Tryz.prog 17 #[.pointer (some ⟨b, 0, none⟩)] w fun x w' => x = .returned (.int .i64 r.1.length) ∧ w' = w := by
  obtain ⟨c0, c1, f0⟩ := h.cell
  clear h
  go_enter Tryz.func17, Tryz.ntmps17
  go_wp2_with fail
  go_ret
  exact ⟨rfl, by first | rfl | trivial⟩

set_option maxRecDepth 100000 in
set_option maxHeartbeats 2000000 in
theorem bytes_any (b n : Nat) (r : Rd) (hn : n ≤ 9223372036854775807) (hl : r.1.length ≤ 9223372036854775807) (w : World) (h : RdAt w b r) :
    Calls Tryz.prog 56 #[.pointer (some ⟨b, 0, none⟩), .int .i64 n] w fun x w' => x = .returned (.string ⟨(rdBytes n r).1.toArray⟩) ∧ RdAt w' b (rdBytes n r).2 ∧ But b w w' := by
  obtain ⟨c0, c1, f0⟩ := h.cell
  obtain ⟨s, bad⟩ := r
  have H := Lib.hid h
  have HF := Lib.hid (fail_any b (s, bad) w h)
  clear h
  have hlen : (ByteArray.mk s.toArray).size = s.length := rfl
  cases bad
  case true =>
    go_enter Tryz.func56, Tryz.ntmps56
    go_wp2_with fail
    refine HF.out.mono ?_
    rintro x w1 ⟨rfl, h1, h2⟩
    go_wp2_with fail
    go_ret
    exact ⟨by simp [rdBytes], by simpa [rdBytes] using h1, h2⟩
  by_cases hsn : s.length < n
  · go_enter Tryz.func56, Tryz.ntmps56
    go_wp2_with fail
    refine HF.out.mono ?_
    rintro x w1 ⟨rfl, h1, h2⟩
    go_wp2_with fail
    go_ret
    exact ⟨by simp [rdBytes, hsn], by simpa [rdBytes, hsn] using h1, h2⟩
  · go_enter Tryz.func56, Tryz.ntmps56
    have hcut1 : (ByteArray.mk s.toArray).extract 0 n = ⟨(s.take n).toArray⟩ := by
      apply ByteArray.ext
      simp [ByteArray.data_extract]
    have hcut2 : (ByteArray.mk s.toArray).extract n s.length = ⟨(s.drop n).toArray⟩ := by
      apply ByteArray.ext
      simp [ByteArray.data_extract]
      rw [List.take_of_length_le (by simp)]
    have hres : rdBytes n (s, false) = (s.take n, (s.drop n, false)) := by simp [rdBytes, hsn]
    have HRES := Lib.hid hres
    clear hres
    go_wp2_with fail
    go_ret
    rw [HRES.out]
    refine ⟨rfl, ?_, But.set⟩
    have := H.out
    unfold RdAt at this ⊢
    simp [World.setCell, Array.getElem?_modify, this]

theorem var_step (m c k : Nat) (hm : m < 2 ^ (7 * k)) (hc : c < 256) (hk : k ≤ 9) (hfit : c % 128 * 2 ^ (7 * k) < 18446744073709551616) :
    bits .or .u64 (m : Int) (IntKind.u64.wrap (IntKind.u64.wrap (bits .andNot .u8 (c : Int) 128) * 2 ^ (7 * k))) = ((m + c % 128 * 2 ^ (7 * k) : Nat) : Int) := by
  have h1 : bits .andNot .u8 (c : Int) 128 = ((c % 128 : Nat) : Int) := by
    have := u8_andNot_nat c 128 hc (by decide)
    rw [show ((128 : Nat) : Int) = 128 from rfl] at this
    rw [this, show 255 - 128 = 2 ^ 7 - 1 from rfl, Nat.and_two_pow_sub_one_eq_mod]
  have hmod : c % 128 < 128 := Nat.mod_lt _ (by decide)
  have hp : (2 : Nat) ^ (7 * k) ≤ 2 ^ 63 := Nat.pow_le_pow_right (by decide) (by omega)
  have wu : ∀ n : Int, IntKind.u64.wrap n = n % 18446744073709551616 := fun n => rfl
  have e1 : ((c % 128 : Nat) : Int) % 18446744073709551616 = ((c % 128 : Nat) : Int) := Int.emod_eq_of_lt (by omega) (by omega)
  rw [h1, wu, wu, e1]
  have h2 : ((c % 128 : Nat) : Int) * 2 ^ (7 * k) = ((c % 128 * 2 ^ (7 * k) : Nat) : Int) := by push_cast; rfl
  have hlt : ((c % 128 * 2 ^ (7 * k) : Nat) : Int) < 18446744073709551616 := by
    clear h2 e1 h1
    generalize c % 128 * 2 ^ (7 * k) = x at *
    omega
  rw [h2, Int.emod_eq_of_lt (Int.natCast_nonneg _) hlt, u64_or_nat _ _ (by omega) hfit]
  congr 1
  rw [Nat.or_comm, Nat.mul_comm (c % 128), ← Nat.two_pow_add_eq_or_of_lt hm, Nat.add_comm]

set_option maxRecDepth 100000 in
set_option maxHeartbeats 4000000 in
theorem var_any (b : Nat) (r : Rd) (hl : r.1.length ≤ 1099511627776) (w : World) (h : RdAt w b r) :
    Calls Tryz.prog 70 #[.pointer (some ⟨b, 0, none⟩)] w fun x w' => x = .returned (.int .u64 (rdVar r).1) ∧ RdAt w' b (rdVar r).2 ∧ But b w w' := by
  obtain ⟨c0, c1, f0⟩ := h.cell
  obtain ⟨s, bad⟩ := r
  have H := Lib.hid h
  have HF := Lib.hid (fail_any b (s, bad) w h)
  clear h
  have hlen : (ByteArray.mk s.toArray).size = s.length := rfl
  have hat : ∀ k (h : k < s.length), (ByteArray.mk s.toArray)[k]'h = s[k] := fun k h => rfl
  simp only at c0 c1
  have hmin : min 10 (s.length : Int) = ((min 10 s.length : Nat) : Int) := by omega
  have hN : min 10 s.length ≤ 10 ∧ min 10 s.length ≤ s.length ∧ (min 10 s.length = 10 ∨ min 10 s.length = s.length) := by omega
  go_enter Tryz.func70, Tryz.ntmps70
  go_wp2_with fail
  try rw [hmin]
  clear hmin
  generalize min 10 s.length = N at *
  obtain ⟨hN1, hN2, hN3⟩ := hN
  go_loopw [2, 3, 4, 11] (fun n i3 b4 i wr => ∃ (k m : Nat) (v : Int), k ≤ N ∧ i = .int .i64 k ∧ n = .int .u64 v ∧ (k ≤ 9 → v = m) ∧ varAt (10 - k) (s.drop k) k m = varAt 10 s 0 0 ∧ m < 2 ^ (7 * k) ∧ wr = w) (fun n i3 b4 i _ => N - (intOf i).toNat)
  case atStart => exact ⟨0, 0, 0, Nat.zero_le _, rfl, rfl, fun _ => rfl, rfl, by decide, rfl⟩
  case round =>
    obtain ⟨k, m, v, hk, rfl, rfl, hv, hinv, hm, rfl⟩ := hrel
    have hdone : ∀ (n : Nat) (t : List UInt8), varAt 10 s 0 0 = some (n, t) → rdVar (s, bad) = (n, (t, bad)) := fun n t h => by unfold rdVar; rw [h]
    have hnone : varAt 10 s 0 0 = none → rdVar (s, bad) = (0, rdFail) := fun h => by unfold rdVar; rw [h]
    have HDONE := Lib.hid hdone
    have HNONE := Lib.hid hnone
    clear hdone hnone
    by_cases hlt : k < N
    · have hks : k < s.length := by omega
      have hbk := hat k hks
      have hd : s.drop k = s[k] :: s.drop (k + 1) := List.drop_eq_getElem_cons hks
      rw [hd, show 10 - k = (10 - (k + 1)) + 1 by omega, varAt] at hinv
      obtain rfl := hv (by omega)
      have hcutb : (ByteArray.mk s.toArray).extract (k + 1) s.length = ⟨(s.drop (k + 1)).toArray⟩ := by
        apply ByteArray.ext
        simp [ByteArray.data_extract]
        rw [List.take_of_length_le (by simp)]
      clear hd hat
      generalize s[k] = c at *
      have hc := UInt8.toNat_lt c
      have hm64 : m < 18446744073709551616 := Nat.lt_of_lt_of_le hm (Nat.le_trans (Nat.pow_le_pow_right (by decide) (show 7 * k ≤ 63 by omega)) (by decide))
      by_cases hbig : 128 ≤ c.toNat
      · rw [if_pos hbig] at hinv
        by_cases hk8 : k ≤ 8
        · have hp : (2 : Nat) ^ (7 * k) ≤ 2 ^ 56 := Nat.pow_le_pow_right (by decide) (by omega)
          have hle : c.toNat % 128 * 2 ^ (7 * k) ≤ 127 * 2 ^ (7 * k) := Nat.mul_le_mul_right _ (by omega)
          have hst := var_step m c.toNat k hm hc (by omega) (by omega)
          have hp2 : (2 : Nat) ^ (7 * (k + 1)) = 128 * 2 ^ (7 * k) := by rw [Nat.mul_add, Nat.pow_add]; omega
          have hm2 : m + c.toNat % 128 * 2 ^ (7 * k) < 2 ^ (7 * (k + 1)) := by omega
          rw [show c.toNat - 128 = c.toNat % 128 by omega] at hinv
          have HINV := Lib.hid hinv
          have HM2 := Lib.hid hm2
          clear hinv hm2 hp2 hle hp
          generalize m + c.toNat % 128 * 2 ^ (7 * k) = m' at *
          go_wp2_with fail
          go_roundw
          case rel => exact ⟨k + 1, m', m', by omega, by go_num, rfl, fun _ => rfl, HINV.out, HM2.out, by first | rfl | trivial⟩
          case measure => simp [intOf]; omega
        · obtain rfl : k = 9 := by omega
          have hbg : m + (c.toNat - 128) * 2 ^ (7 * 9) < 2 ^ (7 * 10) := by
            have : (c.toNat - 128) * 2 ^ 63 ≤ 127 * 2 ^ 63 := Nat.mul_le_mul_right _ (by omega)
            have h2 : m < 2 ^ 63 := hm
            show m + (c.toNat - 128) * 2 ^ 63 < 2 ^ 70
            omega
          have HBIG := Lib.hid hbg
          clear hbg
          have HINV := Lib.hid hinv
          clear hinv
          go_wp2_with fail
          go_roundw
          case rel => exact ⟨10, m + (c.toNat - 128) * 2 ^ (7 * 9), _, by omega, by go_num, rfl, fun h => absurd h (by decide), HINV.out, HBIG.out, by first | rfl | trivial⟩
          case measure => simp [intOf]; omega
      · rw [if_neg hbig] at hinv
        have hsmall : c.toNat < 128 := by omega
        by_cases hbreak : (0 < k ∧ c.toNat = 0) ∨ (k = 9 ∧ 1 < c.toNat)
        · rw [if_pos hbreak] at hinv
          have HN0 := Lib.hid (HNONE.out hinv.symm)
          clear hinv
          have hF := HF.out
          rcases hbreak with ⟨hk0, hc0⟩ | ⟨rfl, hc1⟩
          · go_wp2_with fail
            refine hF.mono ?_
            rintro x w1 ⟨rfl, h1, h2⟩
            go_wp2_with fail
            go_ret
            exact ⟨by rw [HN0.out]; rfl, by rw [HN0.out]; exact h1, h2⟩
          · have hc0 : ((c.toNat : Int) == 0) = false := beq_eq_false_iff_ne.2 (by omega)
            go_wp2_with fail
            refine hF.mono ?_
            rintro x w1 ⟨rfl, h1, h2⟩
            go_wp2_with fail
            go_ret
            exact ⟨by rw [HN0.out]; rfl, by rw [HN0.out]; exact h1, h2⟩
        · rw [if_neg hbreak] at hinv
          have hfit : c.toNat % 128 * 2 ^ (7 * k) < 18446744073709551616 := by
            by_cases hk9 : k = 9
            · subst hk9
              have : c.toNat % 128 * 2 ^ 63 ≤ 1 * 2 ^ 63 := Nat.mul_le_mul_right _ (by omega)
              show c.toNat % 128 * 2 ^ 63 < _
              omega
            · have hp : (2 : Nat) ^ (7 * k) ≤ 2 ^ 56 := Nat.pow_le_pow_right (by decide) (by omega)
              have : c.toNat % 128 * 2 ^ (7 * k) ≤ 127 * 2 ^ 56 := Nat.mul_le_mul (by omega) hp
              omega
          have hst := var_step m c.toNat k hm hc (by omega) hfit
          rw [Nat.mod_eq_of_lt hsmall] at hst hfit
          have HD := Lib.hid (HDONE.out _ _ hinv.symm)
          have hH := H
          clear hinv
          generalize m + c.toNat * 2 ^ (7 * k) = m' at *
          by_cases hk0 : k = 0
          · subst hk0
            rw [show (2 : Int) ^ (7 * 0) = 1 from rfl, Int.mul_one] at hst
            go_wp2_with fail
            go_ret
            rw [HD.out]
            refine ⟨rfl, ?_, But.set⟩
            have := hH.out
            unfold RdAt at this ⊢
            simp [World.setCell, Array.getElem?_modify, this]
          · have hkp : 0 < k := by omega
            have hc0 : ((c.toNat : Int) == 0) = false := beq_eq_false_iff_ne.2 (by omega)
            by_cases hk9 : k = 9
            · subst hk9
              have hc1 : ¬ 1 < c.toNat := by omega
              rw [show (2 : Int) ^ (7 * 9) = 9223372036854775808 from rfl] at hst
              go_wp2_with fail
              go_ret
              rw [HD.out]
              refine ⟨rfl, ?_, But.set⟩
              have := hH.out
              unfold RdAt at this ⊢
              simp [World.setCell, Array.getElem?_modify, this]
            · have hk9b : ((k : Int) == 9) = false := beq_eq_false_iff_ne.2 (by omega)
              go_wp2_with fail
              go_ret
              rw [HD.out]
              refine ⟨rfl, ?_, But.set⟩
              have := hH.out
              unfold RdAt at this ⊢
              simp [World.setCell, Array.getElem?_modify, this]
    · have hnil : varAt 10 s 0 0 = none := by
        rw [← hinv]
        by_cases hk10 : k = 10
        · subst hk10; rfl
        · rw [show s.drop k = [] from List.drop_eq_nil_of_le (by omega), show 10 - k = (9 - k) + 1 by omega]
          rfl
      have HN0 := Lib.hid (HNONE.out hnil)
      clear hnil hinv hat
      have hF := HF.out
      go_wp2_with fail
      refine hF.mono ?_
      rintro x w1 ⟨rfl, h1, h2⟩
      go_wp2_with fail
      go_ret
      exact ⟨by rw [HN0.out]; rfl, by rw [HN0.out]; exact h1, h2⟩

end Go.Proofs.YtbjbgdnjcppjhaaGreatDoor
