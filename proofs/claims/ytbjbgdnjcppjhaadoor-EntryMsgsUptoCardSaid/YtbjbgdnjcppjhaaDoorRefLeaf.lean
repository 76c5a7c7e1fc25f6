/-
  pintleref04's has, Digits, Number, Hex, Level, Same over this translation. Conditions: the numbers are of their kinds; a text of at most 2^20 bytes. By an AI agent.
-/
import Derived.Test.YtbjbgdnjcppjhaaDoorTold
import Derived.Test.YtbjbgdnjcppjhaaDoorSame
import Derived.Laws.IdiomStrings
namespace Go.Proofs.YtbjbgdnjcppjhaaDoor
open Go.RowKit
set_option linter.unusedVariables false
set_option linter.unusedSimpArgs false

set_option maxRecDepth 100000 in
set_option maxHeartbeats 1000000 in
theorem refHas_same (l : List UInt8) (hn : l.length ≤ 1000) (c : UInt8) (w : World) :
    Calls Tryd.prog 35 #[.string ⟨l.toArray⟩, .int .u8 c.toNat] w fun e w' => e = .returned (.bool (l.contains c)) ∧ w' = w := by
  have hl : ∀ k (h : k < l.length), (ByteArray.mk l.toArray)[k]'h = l[k] := fun k h => rfl
  have hsz : (ByteArray.mk l.toArray).size = l.length := rfl
  go_enter Tryd.func35, Tryd.ntmps35
  go_wp2_with fail
  go_loopw [5] (fun i wr => ∃ k : Nat, k ≤ l.length ∧ i = .int .i64 k ∧ (l.take k).contains c = false ∧ wr = w) (fun i _ => l.length - (intOf i).toNat)
  case atStart => exact ⟨0, Nat.zero_le _, rfl, rfl, rfl⟩
  case round =>
    obtain ⟨k, hk, rfl, hno, rfl⟩ := hrel
    by_cases hlt : k < l.length
    · have hi := hl k hlt
      have hst : (l.take (k + 1)).contains c = ((l.take k).contains c || c == l[k]) := by
        rw [take_snoc l k hlt]
        simp only [List.contains_eq_any_beq, List.any_append, List.any_cons, List.any_nil, Bool.or_false]
      have hin : c = l[k] → l.contains c = true := fun h => by rw [h]; simp
      have HST := Lib.hid hst
      have HIN := Lib.hid hin
      have HNO := Lib.hid hno
      clear hst hin hno hl
      generalize l[k] = d at *
      by_cases hcd : c = d
      · have HT := Lib.hid (HIN.out hcd)
        have heq : ((d.toNat : Int) == (c.toNat : Int)) = true := by rw [hcd]; simp
        clear hcd
        go_wp2_with fail
        go_ret
        exact ⟨by rw [HT.out]; rfl, by first | rfl | trivial⟩
      · have hne : ((d.toNat : Int) == (c.toNat : Int)) = false := by
          rw [i32_eq]; exact beq_eq_false_iff_ne.2 (Ne.symm hcd)
        have HC := Lib.hid hcd
        clear hcd
        go_wp2_with fail
        go_roundw
        case rel => exact ⟨k + 1, by omega, by go_num, by rw [HST.out, HNO.out, beq_eq_false_iff_ne.2 HC.out]; rfl, by first | rfl | trivial⟩
        case measure => simp [intOf]; omega
    · have hfin : l.contains c = false := by rw [← hno, List.take_of_length_le (by omega)]
      have HF := Lib.hid hfin
      clear hfin hno hl
      go_wp2_with fail
      go_ret
      exact ⟨by rw [HF.out]; rfl, by first | rfl | trivial⟩

theorem refHas_any (l : List UInt8) (hn : l.length ≤ 1000) (c : UInt8) (w : World) :
    Calls Tryd.prog 35 #[.string ⟨l.toArray⟩, .int .u8 c.toNat] w fun e w' => e = .returned (.bool (l.contains c)) ∧ Below w.heap.size w w' :=
  (refHas_same l hn c w).mono fun _ _ ⟨h1, h2⟩ => ⟨h1, h2 ▸ Below.refl _ _⟩

theorem one_byte (w : World) (x : Int) (b : UInt8) (hx : x = (b.toNat : Int)) : (convert 24 9 (.slice (some ⟨w.heap.size, 0, none⟩) 1 1)).run Tryd.prog (w.alloc (.cells #[.int .u8 x] 5)) = .ok (.string ⟨#[b]⟩) (w.alloc (.cells #[.int .u8 x] 5)) := by
  refine run_convert_bytes_back _ _ _ 5 ⟨w.heap.size, 0, none⟩ 1 [b] Tryd.underlying24 Tryd.underlying5 Tryd.underlying9 (fun j hj => ?_)
  have : j = 0 := by simp at hj; omega
  subst this
  have e := Lib.cell_of_heap (heap_alloc_new w (.cells #[.int .u8 x] 5)) 0
  subst hx
  exact e
/-- a number's last digit -/
def dg1 (u : Nat) : UInt8 := UInt8.ofNat (48 + u % 10)
theorem digit_at (u : Nat) : 48 + (u : Int) % 10 = ((dg1 u).toNat : Int) := by
  unfold dg1
  have h : u % 10 < 10 := Nat.mod_lt _ (by decide)
  rw [show (u : Int) % 10 = ((u % 10 : Nat) : Int) by omega]
  generalize u % 10 = d at *
  have e : ∀ d : Fin 10, 48 + ((d.1 : Nat) : Int) = ((UInt8.ofNat (48 + d.1)).toNat : Int) := by decide
  exact e ⟨d, h⟩

set_option maxRecDepth 100000 in
set_option maxHeartbeats 1000000 in
theorem refDigits_any (n : Int) (h0 : 0 ≤ n) (h1 : n ≤ 18446744073709551615) (w : World) :
    Calls Tryd.prog 47 #[.int .u64 n] w fun e w' => e = .returned (.string ⟨(dec n).toArray⟩) ∧ Below w.heap.size w w' := by
  have hlen := dec_len n h0 h1
  obtain ⟨N, rfl⟩ := Int.eq_ofNat_of_zero_le h0
  have hd : dec (N : Int) = Lib.decDigits N := rfl
  have HD := Lib.hid hd
  have HL := Lib.hid hlen
  clear hd hlen
  have hone := one_byte w (48 + (N : Int) % 10) (dg1 N) (digit_at N)
  go_enter Tryd.func47, Tryd.ntmps47
  go_wp2_with fail
  go_loopw [0, 3] (fun n s wr => ∃ (u : Nat) (r : List UInt8), n = .int .u64 u ∧ s = .string ⟨(dg1 u :: r).toArray⟩ ∧ Lib.decDigits N = Lib.decDigits u ++ r ∧ u ≤ 18446744073709551615 ∧ Below w.heap.size w wr) (fun n s _ => (intOf n).toNat)
  case atStart => exact ⟨N, [], rfl, rfl, by simp, by omega, (Below.refl _ _).alloc (Nat.le_refl _) _⟩
  case round =>
    obtain ⟨u, r, rfl, rfl, hinv, hu2, hbr⟩ := hrel
    have hul : (u : Int) ≤ 18446744073709551615 := by omega
    have hrl : r.length ≤ 20 := by
      have := HL.out
      rw [HD.out, hinv, List.length_append] at this
      omega
    by_cases hbig : 9 < u
    · have hnx : Lib.decDigits N = Lib.decDigits (u / 10) ++ (dg1 u :: r) := by
        rw [hinv, Lib.decDigits, dif_neg (by omega), List.append_assoc]; rfl
      have hone2 := one_byte wr (48 + (u : Int) / 10 % 10) (dg1 (u / 10)) (by rw [← digit_at]; simp)
      have HNX := Lib.hid hnx
      clear hinv hnx hone
      go_wp2_with fail
      go_roundw
      case rel => exact ⟨u / 10, dg1 u :: r, by simp, congrArg Value.string (one_sum [dg1 (u / 10)] (dg1 u :: r)), HNX.out, by omega, hbr.trans (((Below.refl _ _).alloc (Nat.le_refl _) _).mono hbr.size)⟩
      case measure => simp [intOf]; omega
    · have hfin : dg1 u :: r = dec (N : Int) := by
        rw [HD.out, hinv, Lib.decDigits_one (by omega)]
        unfold dg1
        rw [Nat.mod_eq_of_lt (by omega)]; rfl
      have HF := Lib.hid hfin
      clear hinv hfin hone
      go_wp2_with fail
      go_ret
      exact ⟨by rw [← HF.out]; rfl, hbr⟩

set_option maxRecDepth 100000 in
set_option maxHeartbeats 1000000 in
theorem refNumber_any (n : Int) (h0 : -9223372036854775808 ≤ n) (h1 : n ≤ 9223372036854775807) (w : World) :
    Calls Tryd.prog 46 #[.int .i64 n] w fun e w' => e = .returned (.string ⟨(Lib.itoa n).toArray⟩) ∧ Below w.heap.size w w' := by
  by_cases hn : n < 0
  · have hit : Lib.itoa n = 45 :: dec (-n) := by
      unfold Lib.itoa dec
      rw [if_pos hn]
      congr 2
      omega
    have hlen := dec_len (-n) (by omega) (by omega)
    have hcall := refDigits_any (-n) (by omega) (by omega)
    have hwrap : IntKind.u64.wrap (wrap64 (-n)) = -n := by
      have e : IntKind.u64.wrap (wrap64 (-n)) = (wrap64 (-n)) % 18446744073709551616 := rfl
      rw [e]
      unfold wrap64
      omega
    rw [hit]
    clear hit
    generalize dec (-n) = d at *
    go_enter Tryd.func46, Tryd.ntmps46
    go_wp2_with fail
    refine (hcall _).mono ?_
    rintro x w1 ⟨rfl, hb⟩
    go_wp2_with fail
    go_ret
    exact ⟨congrArg (fun z => Ending.returned (Value.string z)) (one_sum [45] d), hb⟩
  · have hit : Lib.itoa n = dec n := by
      unfold Lib.itoa dec
      rw [if_neg hn]
    have hcall := refDigits_any n (by omega) (by omega)
    have h2 : 0 ≤ n := by omega
    rw [hit]
    clear hit
    generalize dec n = d at *
    go_enter Tryd.func46, Tryd.ntmps46
    go_wp2_with fail
    refine (hcall _).mono ?_
    rintro x w1 ⟨rfl, hb⟩
    go_wp2_with fail
    go_ret
    exact ⟨rfl, hb⟩

theorem hexPiece (a : Nat) (h : a < 16) : (ByteArray.mk #[48, 49, 50, 51, 52, 53, 54, 55, 56, 57, 97, 98, 99, 100, 101, 102]).extract a (a + 1) = ⟨#[hexD a]⟩ := by
  have e : ∀ a : Fin 16, (ByteArray.mk #[48, 49, 50, 51, 52, 53, 54, 55, 56, 57, 97, 98, 99, 100, 101, 102]).extract a.1 (a.1 + 1) = ⟨#[hexD a.1]⟩ := by decide
  exact e ⟨a, h⟩

set_option maxRecDepth 100000 in
set_option maxHeartbeats 1000000 in
theorem refHex_any (s : ByteArray) (hs : s.size ≤ 1048576) (w : World) :
    Calls Tryd.prog 48 #[.string s] w fun e w' => e = .returned (.string ⟨(hexL s.data.toList).toArray⟩) ∧ Below w.heap.size w w' := by
  have hl : ∀ k (h : k < s.size), s[k] = s.data.toList.getD k 0 := fun k h => by
    have : s[k] = s.data.toList[k]'(by simpa using h) := rfl
    rw [this]
    simp [List.getD, h]
  go_enter Tryd.func48, Tryd.ntmps48
  go_wp2_with fail
  go_loopw [3, 4] (fun o i wr => ∃ k : Nat, k ≤ s.size ∧ i = .int .i64 k ∧ o = .string ⟨(hexL (s.data.toList.take k)).toArray⟩ ∧ Below w.heap.size w wr) (fun o i _ => s.size - (intOf i).toNat)
  case atStart => exact ⟨0, Nat.zero_le _, rfl, rfl, Below.refl _ _⟩
  case round =>
    obtain ⟨k, hk, rfl, rfl, hbr⟩ := hrel
    by_cases hlt : k < s.size
    · have hi := hl k hlt
      have hsn := hex_snoc s.data.toList k (by simpa using hlt)
      have hlen : (hexL (s.data.toList.take k)).length ≤ 2097152 := by
        rw [hexL_length, List.length_take]; omega
      have hb := UInt8.toNat_lt (s.data.toList.getD k 0)
      generalize s.data.toList.getD k 0 = b at *
      have HSN := Lib.hid hsn
      clear hsn hl
      generalize hexL (s.data.toList.take k) = o at *
      have p1 := hexPiece (b.toNat / 16) (by omega)
      have p2 := hexPiece (b.toNat % 16) (by omega)
      go_wp2_with fail
      have e1 : ((b.toNat : Int) / 16) = ((b.toNat / 16 : Nat) : Int) := by omega
      have e2 : ((b.toNat : Int) % 16) = ((b.toNat % 16 : Nat) : Int) := by omega
      have q1 : b.toNat / 16 < 16 := by omega
      have q2 : b.toNat % 16 < 16 := by omega
      rw [e1, e2]
      clear e1 e2
      generalize b.toNat / 16 = q at *
      generalize b.toNat % 16 = r at *
      have i1 : (0 : Int) ≤ (q : Int) := by omega
      have i2 : (q : Int) < 16 := by omega
      have i3 : (0 : Int) ≤ (r : Int) := by omega
      have i4 : (r : Int) < 16 := by omega
      refine wp_region_quiet_below (by kernel_rfl) (by kernel_rfl) ?_
      repeat (go_big_quiet_step (fail))
      refine wpQuiet_nil ?_
      intro w5 hw5
      obtain ⟨p5, hw5⟩ := hw5
      have hb5 := below_regrown wr p5.d p5.os
      rw [← hw5] at hb5
      have hstr : (ByteArray.mk o.toArray ++ ⟨#[hexD q]⟩ ++ ⟨#[hexD r]⟩ : ByteArray) = ⟨(hexL (s.data.toList.take (k + 1))).toArray⟩ := by
        rw [HSN.out, show (⟨#[hexD q]⟩ : ByteArray) = ⟨[hexD q].toArray⟩ from rfl, show (⟨#[hexD r]⟩ : ByteArray) = ⟨[hexD r].toArray⟩ from rfl, one_sum, one_sum, List.append_assoc]; rfl
      have HSTR := Lib.hid hstr
      clear hw5 hstr
      go_wp2_with fail
      go_roundw
      case rel => exact ⟨k + 1, by omega, by go_num, congrArg Value.string HSTR.out, hbr.trans (hb5.mono hbr.size)⟩
      case measure => simp [intOf]; omega
    · have hfin : s.data.toList.take k = s.data.toList := List.take_of_length_le (by simp; omega)
      rw [hfin]
      clear hl hfin
      go_wp2_with fail
      go_ret
      exact ⟨rfl, hbr⟩

set_option maxRecDepth 100000 in
set_option maxHeartbeats 1000000 in
theorem refLevel_any (e : Ent) (w : World) :
    Calls Tryd.prog 16 #[e.val] w fun x w' => x = .returned (.int .i64 (levelI e.kind)) ∧ Below w.heap.size w w' := by
  have hd : levelI e.kind = if e.kind = 11 then 2 else 1 := rfl
  simp only [Ent.val, Ent.cells]
  by_cases h : e.kind = 11
  · rw [hd, if_pos h]
    have k1 : (e.kind == 11) = true := by rw [h]; rfl
    clear hd h
    go_enter Tryd.func16, Tryd.ntmps16
    go_wp2_with fail
    go_ret
    exact ⟨rfl, (Below.refl _ _).alloc (Nat.le_refl _) _⟩
  · rw [hd, if_neg h]
    have k1 : (e.kind == 11) = false := by simpa using h
    clear hd h
    go_enter Tryd.func16, Tryd.ntmps16
    go_wp2_with fail
    go_ret
    exact ⟨rfl, (Below.refl _ _).alloc (Nat.le_refl _) _⟩

set_option maxRecDepth 100000 in
set_option maxHeartbeats 4000000 in
theorem refSame_any (a b : Ent) (w : World) :
    Calls Tryd.prog 20 #[a.val, b.val] w fun x w' => x = .returned (.bool (sameB a b)) ∧ Below w.heap.size w w' := by
  have hq := ent_eq_run a b
  generalize hs : sameB a b = r at *
  obtain ⟨a1, a2, a3, a4, a5, a6, a7, a8, a9, a10, a11⟩ := a
  obtain ⟨b1, b2, b3, b4, b5, b6, b7, b8, b9, b10, b11⟩ := b
  simp only [Ent.val, Ent.cells] at *
  clear hs
  go_enter Tryd.func20, Tryd.ntmps20
  go_wp2_with fail
  go_ret
  exact ⟨rfl, ((Below.refl _ _).alloc (Nat.le_refl _) _).alloc (by simp) _⟩

end Go.Proofs.YtbjbgdnjcppjhaaDoor
