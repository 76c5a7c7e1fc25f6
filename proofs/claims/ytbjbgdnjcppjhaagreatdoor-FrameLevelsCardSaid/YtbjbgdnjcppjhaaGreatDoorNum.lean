/-
  NUMBERS AND BYTES AS TEXTS: strconv.FormatUint at base 10, strconv.Itoa, entry.number, entry.hex, over this translation. Condition: the table of the powers of ten reads as the program lays it ('Tabs'). By an AI agent.
-/
import Derived.Test.YtbjbgdnjcppjhaaGreatDoorMem
import Derived.Test.YtbjbgdnjcppjhaaGreatDoorPlain
import Derived.Test.YtbjbgdnjcppjhaaGreatDoorBuild
import Derived.Test.YtbjbgdnjcppjhaaGreatDoorShelf
import Derived.Lib.AppendIntMem
namespace Go.Proofs.YtbjbgdnjcppjhaaGreatDoor
open Go.RowKit

/-- the one table of Go's library that is read -/
def Tabs (w : World) : Prop := Lib.TabIs Tryz.prog w "internal/strconv.uint64pow10" .u64 Lib.pow10Tab
theorem pow10Named : Tryz.prog.globalNamed "internal/strconv.uint64pow10" = some 3 := by kernel_rfl

theorem Tabs.lt {w : World} (h : Tabs w) : 3 < w.heap.size := by
  unfold Tabs Lib.TabIs World.var? at h
  rw [pow10Named] at h
  simp only [Option.bind_some] at h
  rcases Nat.lt_or_ge 3 w.heap.size with h' | h'
  · exact h'
  · rw [Array.getElem?_eq_none h'] at h; simp at h
theorem Tabs.below {w w' : World} {B : Nat} (h : Tabs w) (hb : Below B w w') (hB : w.heap.size ≤ B) : Tabs w' :=
  var?_below hb pow10Named (Nat.lt_of_lt_of_le h.lt hB) h
theorem Tabs.alloc {w : World} (h : Tabs w) (o : Obj) : Tabs (w.alloc o) := Lib.tabIs_alloc h o
theorem Tabs.next {w w' : World} (h : Tabs w) (hb : Below w.heap.size w w') : Tabs w' := h.below hb (Nat.le_refl _)

theorem grow_below (w : World) (k : Nat) (os : Array Obj) : Below w.heap.size w (Go.Sort.grow (w.drewN k) os) := Lib.below_grow w.heap.size w (Nat.le_refl _) k os

/-- strconv.Itoa -/
theorem itoa_any (n : Int) (h0 : -9223372036854775808 ≤ n) (h1 : n ≤ 9223372036854775807) (w : World) (ht : Tabs w) :
    Calls Tryz.prog 78 #[.int .i64 n] w fun e w' => e = .returned (.string ⟨(Lib.itoa n).toArray⟩) ∧ Below w.heap.size w w' :=
  (Tryz.strconv_Itoa n h0 h1 w ht).mono fun _ _ ⟨he, k, os, hw⟩ => ⟨he, by rw [hw]; exact grow_below w k os⟩

theorem zeros_hold (w : World) (nd : Nat) (hs : nd ≤ 24) : Go.Sort.Holds (fun (b : UInt8) => Value.int .u8 (b.toNat : Int)) (w.alloc (.cells Lib.zeros24 190)) w.heap.size 0 (Array.replicate nd (0 : UInt8)) := fun j hj => by
  have hj' : j < nd := by simpa using hj
  refine ⟨?_, World.frozen?_alloc_new _ _ _ _⟩
  rw [World.cell?_alloc_new, Lib.zeros24_at _ (by omega), getElem!_pos _ j hj]
  simp
theorem put_grow (w : World) (o : Obj) (dk : Array UInt8) (k : Nat) : ∃ os, (Go.Sort.putRow (fun (b : UInt8) => Value.int .u8 (b.toNat : Int)) (w.alloc o) w.heap.size 0 dk).drewN k = Go.Sort.grow (w.drewN k) os := by
  rw [Go.Sort.alloc_eq_grow]
  obtain ⟨os', _, e⟩ := Go.Sort.putRow_grow_new (fun (b : UInt8) => Value.int .u8 (b.toNat : Int)) w #[o] w.heap.size 0 dk (Nat.le_refl _)
  exact ⟨os', by rw [e]; rfl⟩

set_option maxRecDepth 100000 in
set_option maxHeartbeats 4000000 in
/-- internal/strconv.FormatUint at base 10, of a number above 99 -/
theorem formatUint_big (u : Nat) (hu : 100 ≤ u) (hu64 : u < 18446744073709551616) (w : World) (ht : Tabs w) :
    Calls Tryz.prog 138 #[.int .u64 (u : Int), .int .i64 10] w fun e w' => e = .returned (.string ⟨(Lib.decDigits u).toArray⟩) ∧ Below w.heap.size w w' := by
  have hnd20 : Lib.nDigits u ≤ 20 := by have := Lib.numDigits_eq u (by omega) hu64; split at this <;> omega
  have hal : Tryz.prog.arrayLen 190 = 24 := by kernel_rfl
  have hsl1 : ∀ W, (Instr.sliceAt 190 (.pointer (some ⟨w.heap.size, 0, none⟩)) none (some (.int .i64 (Lib.nDigits u : Int))) none).run Tryz.prog W = .ok (.slice (some ⟨w.heap.size, 0, none⟩) (Lib.nDigits u) 24) W := fun W => by
    rw [run_sliceAt_array_h W 190 ⟨w.heap.size, 0, none⟩ (by simp [Program.arrayLen, Program.elem, Tryz.underlying190]) .i64 (Lib.nDigits u : Int) (by omega) (by rw [hal]; omega)]
    go_simp
  have hH0 := zeros_hold w (Lib.nDigits u) (by omega)
  have hfmt := Tryz.internal_strconv_formatBase10 w.heap.size 0 24 u (Array.replicate (Lib.nDigits u) 0) (w.alloc (.cells Lib.zeros24 190)) hH0 (by rw [Array.size_replicate]; exact Lib.lt_pow_nDigits u) hu64 (by rw [Array.size_replicate]; omega)
  rw [Array.size_replicate] at hfmt
  have HH0 := Lib.hid hH0
  have HF := Lib.hid hfmt
  clear hH0 hal hfmt
  have h1 : ¬ ((u : Int) < 100) := by omega
  go_enter Tryz.func138, Tryz.ntmps138
  go_wp2_with (go_at_call 149; refine (Tryz.internal_strconv_numDigits u (by omega) hu64 _ (Lib.tabIs_alloc ht _)).mono ?_; rintro e w' ⟨rfl, rfl⟩)
  refine HF.out.mono ?_
  rintro e w' ⟨rfl, k, v', dk, rfl, hF⟩
  have hcv : (convert 88 9 (.slice (some ⟨w.heap.size, 0, none⟩) (Lib.nDigits u) 24)).run Tryz.prog ((Go.Sort.putRow (fun (b : UInt8) => Value.int .u8 (b.toNat : Int)) (w.alloc (.cells Lib.zeros24 190)) w.heap.size 0 dk).drewN k) = .ok (.string ⟨(Lib.decDigits u).toArray⟩) ((Go.Sort.putRow (fun (b : UInt8) => Value.int .u8 (b.toNat : Int)) (w.alloc (.cells Lib.zeros24 190)) w.heap.size 0 dk).drewN k) := by
    have h := run_convert_bytes_back (P := Tryz.prog) ((Go.Sort.putRow (fun (b : UInt8) => Value.int .u8 (b.toNat : Int)) (w.alloc (.cells Lib.zeros24 190)) w.heap.size 0 dk).drewN k) 88 9 5 ⟨w.heap.size, 0, none⟩ 24 (Lib.decDigits u) Tryz.underlying88 Tryz.underlying5 Tryz.underlying9 (fun j hj => by
      rw [Lib.row_is_numeral hF j hj, Lib.add_plain, World.cell?_drewN]
      exact Go.Sort.cell?_putRow (fun (b : UInt8) => Value.int .u8 (b.toNat : Int)) _ w.heap.size 0 _ dk HH0.out (by rw [hF.size, Array.size_replicate]) j (by rw [hF.size]; rw [Lib.decDigits_length] at hj; exact hj))
    rw [Lib.decDigits_length] at h
    exact h
  go_wp2
  go_ret
  obtain ⟨os, eo⟩ := put_grow w (.cells Lib.zeros24 190) dk k
  exact ⟨rfl, by rw [eo]; exact grow_below w k os⟩

set_option maxHeartbeats 1000000 in
theorem formatUint_small (i : Nat) (hi : i < 100) (w : World) :
    Calls Tryz.prog 138 #[.int .u64 (i : Int), .int .i64 10] w fun e w' => e = .returned (.string ⟨(Lib.decDigits i).toArray⟩) ∧ w = w' := by
  have h1 : (i : Int) < 100 := by omega
  go_enter Tryz.func138, Tryz.ntmps138
  go_wp2_with (go_at_call 148; refine (Tryz.internal_strconv_small i hi _).mono ?_; rintro e w' ⟨rfl, rfl⟩)
  go_ret
  exact ⟨rfl, rfl⟩

theorem formatUint_any (n : Int) (h0 : 0 ≤ n) (h1 : n ≤ 18446744073709551615) (w : World) (ht : Tabs w) :
    Calls Tryz.prog 138 #[.int .u64 n, .int .i64 10] w fun e w' => e = .returned (.string ⟨(dec n).toArray⟩) ∧ Below w.heap.size w w' := by
  obtain ⟨u, rfl⟩ := Int.eq_ofNat_of_zero_le h0
  unfold dec
  rw [Int.toNat_natCast]
  by_cases hs : u < 100
  · exact (formatUint_small u hs w).mono fun _ _ ⟨he, hw⟩ => ⟨he, by rw [← hw]; exact Below.refl _ _⟩
  · exact formatUint_big u (by omega) (by omega) w ht

set_option maxHeartbeats 1000000 in
theorem FormatUint_any (n : Int) (h0 : 0 ≤ n) (h1 : n ≤ 18446744073709551615) (w : World) (ht : Tabs w) :
    Calls Tryz.prog 123 #[.int .u64 n, .int .i64 10] w fun e w' => e = .returned (.string ⟨(dec n).toArray⟩) ∧ Below w.heap.size w w' := by
  go_enter Tryz.func123, Tryz.ntmps123
  go_wp2_with fail
  refine (formatUint_any n h0 h1 _ ht).mono ?_
  rintro e w1 ⟨rfl, hb⟩
  go_wp2
  go_ret
  exact ⟨rfl, hb⟩

set_option maxHeartbeats 1000000 in
/-- entry.number -/
theorem number_any (n : Int) (h0 : 0 ≤ n) (h1 : n ≤ 18446744073709551615) (w : World) (ht : Tabs w) :
    Calls Tryz.prog 79 #[.int .u64 n] w fun e w' => e = .returned (.string ⟨(dec n).toArray⟩) ∧ Below w.heap.size w w' := by
  go_enter Tryz.func79, Tryz.ntmps79
  go_wp2_with fail
  refine (FormatUint_any n h0 h1 _ ht).mono ?_
  rintro e w1 ⟨rfl, hb⟩
  go_wp2
  go_ret
  exact ⟨rfl, hb⟩

theorem hexIx : ∀ n, (h : n < 16) → (ByteArray.mk #[48, 49, 50, 51, 52, 53, 54, 55, 56, 57, 97, 98, 99, 100, 101, 102])[n]'h = hexD n := by decide

theorem byteCells_two (l : List UInt8) (a b : UInt8) : Lib.byteCells l ++ [.int .u8 a.toNat] ++ [.int .u8 b.toNat] = Lib.byteCells (l ++ [a, b]) := by
  simp [Lib.byteCells]
theorem hex_snoc (l : List UInt8) (k : Nat) (h : k < l.length) : hexL (l.take (k + 1)) = hexL (l.take k) ++ [hexD ((l.getD k 0).toNat / 16), hexD ((l.getD k 0).toNat % 16)] := by
  rw [List.take_succ_eq_append_getElem h, hexL_append]
  simp [hexL, h]

set_option maxRecDepth 100000 in
set_option maxHeartbeats 1000000 in
/-- entry.hex -/
theorem hex_any (s : ByteArray) (hs : s.size ≤ 1048576) (w : World) :
    Calls Tryz.prog 81 #[.string s] w fun e w' => e = .returned (.string ⟨(hexL s.data.toList).toArray⟩) ∧ Below w.heap.size w w' := by
  obtain ⟨c, W, hcv, hbW, hsW, hcell⟩ := conv_bytes s (w.alloc (.cells #[.pointer none, .slice none 0 0] BldT))
  have hB0 : Bld (w.heap.size + 2) w.heap.size [] W := by
    refine ⟨by omega, by simp at hsW; omega, _, _, .inl rfl, (hbW.block _ (by simp)).trans (heap_alloc_new w _), rfl, .inl ⟨rfl, rfl⟩⟩
  have hbw : Below w.heap.size w W := ((Below.refl _ _).alloc (Nat.le_refl _) _).trans (hbW.mono (by simp))
  simp only [World.size_alloc] at hcell hcv
  have hll : s.data.toList.length = s.size := rfl
  go_enter Tryz.func81, Tryz.ntmps81
  go_wp2
  go_loopw [9] (fun i wr => ∃ k : Nat, k ≤ s.size ∧ i = .int .i64 k ∧ Bld (w.heap.size + 2) w.heap.size (Lib.byteCells (hexL (s.data.toList.take k))) wr ∧ BKeep (w.heap.size + 2) w.heap.size W wr) (fun i _ => s.size - (intOf i).toNat)
  case atStart => exact ⟨0, Nat.zero_le _, rfl, hB0, BKeep.refl _ _ _⟩
  case round =>
    obtain ⟨k, hk, rfl, hbld, hkeep⟩ := hrel
    by_cases hlt : k < s.size
    · have hc : wr.cell? ⟨w.heap.size + 1, k, none⟩ = some (.int .u8 (s.data.toList.getD k 0).toNat) := by
        rw [hkeep.cell (p := ⟨w.heap.size + 1, k, none⟩) (by simp at hsW ⊢; omega) (by simp) (.inl (by simp))]
        exact hcell k hlt
      have hsn := hex_snoc s.data.toList k (by omega)
      have hb := UInt8.toNat_lt (s.data.toList.getD k 0)
      have hlen : (Lib.byteCells (hexL (s.data.toList.take k))).length ≤ 2 * k := by
        rw [Lib.byteCells_length, hexL_length, List.length_take]; omega
      generalize s.data.toList.getD k 0 = b at hc hb hsn
      have HS := Lib.hid hsn
      clear hcell hcv hB0 hsn
      go_wp2_with fail
      refine (writeByte_any _ _ _ _ _ hbld (by omega)).mono ?_
      rintro e w1 ⟨rfl, hbld1, hk1⟩
      go_wp2_with fail
      refine (writeByte_any _ _ _ _ _ hbld1 (by simp; omega)).mono ?_
      rintro e w2 ⟨rfl, hbld2, hk2⟩
      go_wp2_with fail
      go_roundw
      case rel =>
        refine ⟨k + 1, by omega, by go_num, ?_, (hkeep.trans hk1).trans hk2⟩
        rw [HS.out, ← byteCells_two]
        have e1 := hexIx (b.toNat / 16) (by omega)
        have e2 := hexIx (b.toNat % 16) (by omega)
        rw [e1, e2] at hbld2
        exact hbld2
      case measure => simp [intOf]; omega
    · have hke : k = s.size := by omega
      have hfin := Tryz.Builder_String_any w.heap.size w.heap.size (hexL s.data.toList) wr (by
        have := hbld.isBuilder (Nat.le_refl _)
        rwa [List.take_of_length_le (by omega)] at this) (by have := hkeep.size; have := hbw.size; omega)
      have HK := Lib.hid hke
      clear hke hcell hcv hB0
      go_wp2_with fail
      refine hfin.mono ?_
      rintro e w1 ⟨rfl, hb1⟩
      go_wp2_with fail
      go_ret
      exact ⟨rfl, (hbw.trans (hkeep.below (Nat.le_refl _) (by omega) hbw.size)).trans hb1⟩

end Go.Proofs.YtbjbgdnjcppjhaaGreatDoor
