/-
  varint.Put and varint.Text over this translation. Conditions: a number of 64 bits; a text of at most 2^40 bytes. By an AI agent.
-/
import Derived.Test.YtbjbgdnjcppjhaaGreatDoorVar
import Derived.OwnWalk
import Derived.Lib.BufferRead
namespace Go.Proofs.YtbjbgdnjcppjhaaGreatDoor
open Go.RowKit Go.Sort
set_option linter.unusedVariables false
set_option linter.unusedSimpArgs false

theorem put_byte (u : Nat) : bits .or .u8 ((u : Int) % 256) 128 = ((UInt8.ofNat (u % 128 + 128)).toNat : Int) := by
  rw [byte_val _ (by omega), show (u : Int) % 256 = ((u % 256 : Nat) : Int) by omega, show (128 : Int) = ((128 : Nat) : Int) from rfl, u8_or_nat _ _ (by omega) (by decide)]
  congr 1
  have e : ∀ x : Fin 256, x.1 ||| 128 = x.1 % 128 + 128 := by decide +kernel
  have := e ⟨u % 256, by omega⟩
  simp only at this
  omega

theorem varL_len : ∀ (f n : Nat), n < 2 ^ (7 * f) → 0 < f → (varL n).length ≤ f := by
  intro f
  induction f with
  | zero => intro n _ h; omega
  | succ f ih =>
    intro n hn _
    rw [varL]
    split
    · simp
    · rename_i h
      rcases Nat.eq_zero_or_pos f with h0 | h0
      · subst h0
        exact absurd hn (by simpa using h)
      · have := ih (n / 128) (by rw [show 7 * (f + 1) = 7 * f + 7 by omega, Nat.pow_add] at hn; exact Nat.div_lt_of_lt_mul (by omega)) h0
        simp only [List.length_cons]
        omega

set_option maxRecDepth 100000 in
set_option maxHeartbeats 4000000 in
theorem put_any (n : Nat) (hn : n < 18446744073709551616) (w : World) :
    Calls Tryz.prog 66 #[.int .u64 n] w fun x w' => x = .returned (.string ⟨(varL n).toArray⟩) ∧ Below w.heap.size w w' := by
  obtain ⟨i0, hi, hz0, hz1, hz2⟩ := info_parts infoByte
  have HI := Lib.hid hi
  clear hi
  have hlen := varL_len 10 n (Nat.lt_trans hn (by decide)) (by decide)
  have HLEN := Lib.hid hlen
  clear hlen
  go_enter Tryz.func66, Tryz.ntmps66
  go_wp2_with (refine wpList_make_own _ rfl _ _ 88 rfl w.heap.size ByteT i0 (.int .u8 0) 1 Tryz.underlying88 HI.out hz0 hz1 .i64 .i64 10 10 rfl rfl rfl ?c1 ?c2 ?c3 ?_)
  case c1 => rw [hz2]; decide
  case c2 => unfold maxLen; omega
  case c3 => exact Nat.le_refl _
  intro w1 hown hgrow
  have hb1 : Below w.heap.size w w1 := ⟨hgrow.os, hgrow.tape, hgrow.output, hgrow.size, fun k hk => hgrow.block k hk (by simp)⟩
  have HOWN := Lib.hid hown
  have HB1 := Lib.hid hb1
  clear hown hb1 hgrow
  go_wp2_with fail
  go_loopw [0, 3] (fun m s wr => ∃ (u : Nat) (l : List UInt8), u < 18446744073709551616 ∧ m = .int .u64 u ∧ wr.ownsRow w.heap.size ByteT 1 s l.length (Lib.byteCells l) ∧ l ++ varL u = varL n ∧ Below w.heap.size w wr) (fun m s _ => (intOf m).toNat)
  case atStart => exact ⟨n, [], hn, rfl, HOWN.out, rfl, HB1.out⟩
  case round =>
    obtain ⟨u, l, hu, rfl, hown, hinv, hbr⟩ := hrel
    have HO := Lib.hid hown
    have HBR := Lib.hid hbr
    have hsz := hbr.size
    clear hown hbr
    by_cases hbig : 128 ≤ u
    · have hnx : (l ++ [UInt8.ofNat (u % 128 + 128)]) ++ varL (u / 128) = varL n := by
        rw [← hinv]
        conv => rhs; rw [varL, dif_neg (by omega)]
        simp
      have HNX := Lib.hid hnx
      clear hinv hnx
      have hll : l.length ≤ 10 := by
        have h1 := HLEN.out
        rw [← HNX.out] at h1
        simp only [List.length_append] at h1
        omega
      have hbyte := put_byte u
      generalize hc : UInt8.ofNat (u % 128 + 128) = c at *
      go_wp2_with (at_builtin; refine wpList_append_own _ rfl _ _ 88 rfl w.heap.size ByteT i0 (.int .u8 0) 1 1 Tryz.underlying88 HI.out hz0 hz1 hz2 rfl (by decide) _ _ _ rfl (HO.out.alloc _) ⟨wr.heap.size, 0, none⟩ 1 1 [.int .u8 c.toNat] rfl rfl ?c1 ?c2 ?c3 ?c4 ?c5 ?_)
      case c1 => exact cell_one_new _ _ _
      case c2 => intro u hu; simp at hu; subst hu; rfl
      case c3 => unfold maxLen; omega
      case c4 => omega
      case c5 => simp; omega
      intro v' w2 hown' hgrow _
      have hb2 := grown_below hgrow (HO.out.alloc _) (by simp; omega)
      have hb02 : Below w.heap.size w w2 := (HBR.out.trans (((Below.refl _ _).alloc (Nat.le_refl _) _).mono hsz)).trans hb2
      have HB02 := Lib.hid hb02
      have HO2 := Lib.hid hown'
      clear hgrow hown' hb2 hb02 hc
      go_wp2_with fail
      go_roundw
      case rel => exact ⟨u / 128, l ++ [c], by omega, by go_num, by simpa [Lib.byteCells] using HO2.out, HNX.out, HB02.out⟩
      case measure => simp [intOf]; omega
    · have hfin : l ++ [UInt8.ofNat u] = varL n := by
        rw [← hinv, varL, dif_pos (by omega)]
      have hll : l.length ≤ 10 := by
        have h1 := HLEN.out
        rw [← hfin] at h1
        simp only [List.length_append] at h1
        omega
      have hbyte : ((UInt8.ofNat u).toNat : Int) = u := by rw [byte_val _ (by omega)]
      have HBY := Lib.hid hbyte
      clear hbyte
      have HFIN := Lib.hid hfin
      clear hinv hfin
      generalize hc : UInt8.ofNat u = c at *
      go_wp2_with (at_builtin; refine wpList_append_own _ rfl _ _ 88 rfl w.heap.size ByteT i0 (.int .u8 0) 1 1 Tryz.underlying88 HI.out hz0 hz1 hz2 rfl (by decide) _ _ _ rfl (HO.out.alloc _) ⟨wr.heap.size, 0, none⟩ 1 1 [.int .u8 (u : Int)] rfl rfl ?c1 ?c2 ?c3 ?c4 ?c5 ?_)
      case c1 => exact cell_one_new _ _ _
      case c2 => intro u hu; simp at hu; subst hu; rfl
      case c3 => unfold maxLen; omega
      case c4 => omega
      case c5 => simp; omega
      intro v' w2 hown' hgrow _
      have hb2 := grown_below hgrow (HO.out.alloc _) (by simp; omega)
      have hb02 : Below w.heap.size w w2 := (HBR.out.trans (((Below.refl _ _).alloc (Nat.le_refl _) _).mono hsz)).trans hb2
      have hrow : w2.ownsRow w.heap.size ByteT 1 v' (l ++ [c]).length (Lib.byteCells (l ++ [c])) := by
        have h := hown'
        rw [← HBY.out] at h
        simpa [Lib.byteCells] using h
      have hconv : (convert 88 9 v').run Tryz.prog w2 = .ok (.string ⟨(l ++ [c]).toArray⟩) w2 := by
        rcases hrow.2 with ⟨_, h0⟩ | ⟨g, cap, cur, hv, _, hg, _, _, _, htk⟩
        · simp at h0
        · rw [hv]
          exact run_convert_bytes_back _ _ _ 5 ⟨g, 0, none⟩ cap (l ++ [c]) Tryz.underlying88 Tryz.underlying5 Tryz.underlying9 (Lib.bytes_of_row hg (by rw [Nat.mul_one] at htk; exact htk))
      have HB02 := Lib.hid hb02
      clear hgrow hown' hb2 hb02 hc hrow
      rw [HFIN.out] at hconv
      go_wp2_with fail
      go_ret
      exact ⟨rfl, HB02.out⟩

set_option maxRecDepth 100000 in
set_option maxHeartbeats 1000000 in
theorem textPut_any (s : List UInt8) (hs : s.length ≤ 1099511627776) (w : World) :
    Calls Tryz.prog 105 #[.string ⟨s.toArray⟩] w fun x w' => x = .returned (.string ⟨(varL s.length ++ s).toArray⟩) ∧ Below w.heap.size w w' := by
  have hlen := varL_len 10 s.length (Nat.lt_of_le_of_lt hs (by decide)) (by decide)
  have hput := put_any s.length (by omega)
  have hsz : (ByteArray.mk s.toArray).size = s.length := rfl
  have HP := Lib.hid hput
  clear hput
  generalize varL s.length = v at *
  go_enter Tryz.func105, Tryz.ntmps105
  go_wp2_with fail
  refine (HP.out _).mono ?_
  rintro x w1 ⟨rfl, hb⟩
  go_wp2_with fail
  go_ret
  exact ⟨congrArg (fun z => Ending.returned (Value.string z)) (ByteArray.mk_append_mk v s), hb⟩

end Go.Proofs.YtbjbgdnjcppjhaaGreatDoor
