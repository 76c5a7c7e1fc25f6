/-
  first.Put over this translation. Conditions: the entry is right and small. By an AI agent.
-/
import Derived.Test.YtbjbgdnjcppjhaaGreatDoorFirW
import Derived.Test.YtbjbgdnjcppjhaaGreatDoorShelf
import Derived.Test.YtbjbgdnjcppjhaaGreatDoorRight
namespace Go.Proofs.YtbjbgdnjcppjhaaGreatDoor
open Go.RowKit
set_option linter.unusedVariables false
set_option linter.unusedSimpArgs false

theorem wrap_nat (n : Nat) (h : n < 9223372036854775808) : IntKind.i64.wrap (n : Int) = (n : Int) := by
  have : IntKind.i64.wrap (n : Int) = if (n : Int) % 18446744073709551616 ≥ 9223372036854775808 then (n : Int) % 18446744073709551616 - 18446744073709551616 else (n : Int) % 18446744073709551616 := by simp [IntKind.wrap, IntKind.signed, IntKind.bits]
  rw [this]
  split <;> omega
theorem repeat_zero (c : Nat) : Lib.repeatL (⟨#[0]⟩ : ByteArray).data.toList c = List.replicate c 0 := by
  induction c with
  | zero => rfl
  | succ c ih => rw [Lib.repeatL, ih, List.replicate_succ]; rfl
theorem notBytes_of {w : World} {s : Nat} {cs : Array Value} {T : TypeId} {fr : Nat × Nat} (h : w.heap[s]? = some (.cells cs T fr)) (hT : T ≠ ByteT) : NotBytes w s := by
  intro cs' fr' h2
  rw [h] at h2
  simp only [Option.some.injEq, Obj.cells.injEq] at h2
  exact hT h2.2.1
theorem take_flat (f : Nat → List UInt8) (V : List Nat) (k : Nat) (h : k < V.length) : (V.take (k + 1)).flatMap f = (V.take k).flatMap f ++ f (V.getD k 0) := by
  rw [List.take_succ_eq_append_getElem h, List.flatMap_append]
  simp [h]

set_option maxRecDepth 100000 in
set_option maxHeartbeats 4000000 in
theorem firstPut_nat (t i k c s bl mn n l : Nat) (d o : List UInt8) (ht : t < 18446744073709551616) (hi : i < 18446744073709551616) (hk : k < 1000) (hc : c < 18446744073709551616) (hs : s < 18446744073709551616) (hb : bl < 18446744073709551616) (hm : mn < 18446744073709551616) (hn : n < 1000) (hl : l < 1000) (hd : d.length ≤ 64)
    (hwf : Ent.wf ⟨t, i, k, c, s, bl, mn, n, l, ⟨d.toArray⟩, ⟨o.toArray⟩⟩) (hr : rightB ⟨t, i, k, c, s, bl, mn, n, l, ⟨d.toArray⟩, ⟨o.toArray⟩⟩ = true) (hlv : levelI k = 1) (w : World) :
    Calls Tryz.prog 19 #[.agg #[.int .u64 t, .int .u64 i, .int .i64 k, .int .u64 c, .int .u64 s, .int .u64 bl, .int .u64 mn, .int .i64 n, .int .i64 l, .string ⟨d.toArray⟩, .string ⟨o.toArray⟩]] w fun x w' =>
      x = .returned (.tuple #[.string ⟨(fixL 1 k ++ (([t, i, c, s].flatMap (fixL 8)) ++ (fixL 4 bl ++ (fixL 4 mn ++ (([n, l, d.length].flatMap (fixL 1)) ++ (d ++ List.replicate (66 - d.length) 0)))))).toArray⟩, .bool true]) ∧ Below w.heap.size w w' := by
  have hright := fun W => right_any ⟨t, i, k, c, s, bl, mn, n, l, ⟨d.toArray⟩, ⟨o.toArray⟩⟩ hwf W
  have hlevel := fun W => level_any ⟨t, i, k, c, s, bl, mn, n, l, ⟨d.toArray⟩, ⟨o.toArray⟩⟩ W
  rw [hr] at hright
  simp only [hlv, Ent.val, Ent.cells] at hright hlevel
  have HR := Lib.hid hright
  have HL := Lib.hid hlevel
  clear hright hlevel hr hwf hlv
  have hbox := heap_alloc_new w (.cells #[.int .u64 t, .int .u64 i, .int .i64 k, .int .u64 c, .int .u64 s, .int .u64 bl, .int .u64 mn, .int .i64 n, .int .i64 l, .string ⟨d.toArray⟩, .string ⟨o.toArray⟩] EntT)
  have HBOX := Lib.hid hbox
  clear hbox
  go_enter Tryz.func19, Tryz.ntmps19
  go_wp2_with fail
  refine (HR.out _).mono ?_
  rintro x w1 ⟨rfl, hb1⟩
  have HBX1 := Lib.hid ((hb1.block w.heap.size (by simp)).trans HBOX.out)
  have HB1 := Lib.hid (((Below.refl _ _).alloc (Nat.le_refl _) _).trans (hb1.mono (by simp)) : Below w.heap.size w w1)
  clear hb1 HR
  have c0 : w1.cell? ⟨w.heap.size, 0, none⟩ = some (.int .u64 t) := Lib.cell_of_heap HBX1.out 0
  have c1 : w1.cell? ⟨w.heap.size, 1, none⟩ = some (.int .u64 i) := Lib.cell_of_heap HBX1.out 1
  have c2 : w1.cell? ⟨w.heap.size, 2, none⟩ = some (.int .i64 k) := Lib.cell_of_heap HBX1.out 2
  have c3 : w1.cell? ⟨w.heap.size, 3, none⟩ = some (.int .u64 c) := Lib.cell_of_heap HBX1.out 3
  have c4 : w1.cell? ⟨w.heap.size, 4, none⟩ = some (.int .u64 s) := Lib.cell_of_heap HBX1.out 4
  have c5 : w1.cell? ⟨w.heap.size, 5, none⟩ = some (.int .u64 bl) := Lib.cell_of_heap HBX1.out 5
  have c6 : w1.cell? ⟨w.heap.size, 6, none⟩ = some (.int .u64 mn) := Lib.cell_of_heap HBX1.out 6
  have c7 : w1.cell? ⟨w.heap.size, 7, none⟩ = some (.int .i64 n) := Lib.cell_of_heap HBX1.out 7
  have c8 : w1.cell? ⟨w.heap.size, 8, none⟩ = some (.int .i64 l) := Lib.cell_of_heap HBX1.out 8
  have c9 : w1.cell? ⟨w.heap.size, 9, none⟩ = some (.string ⟨d.toArray⟩) := Lib.cell_of_heap HBX1.out 9
  have c10 : w1.cell? ⟨w.heap.size, 10, none⟩ = some (.string ⟨o.toArray⟩) := Lib.cell_of_heap HBX1.out 10
  go_wp2_with fail
  refine (HL.out _).mono ?_
  rintro x w2 ⟨rfl, hb2⟩
  have HBX2 := Lib.hid ((hb2.block w.heap.size (heap_lt HBX1.out)).trans HBX1.out)
  have HB2 := Lib.hid (HB1.out.trans (hb2.mono HB1.out.size) : Below w.heap.size w w2)
  have hlt2 : w.heap.size < w2.heap.size := heap_lt HBX2.out
  clear hb2 HL c0 c1 c2 c3 c4 c5 c6 c7 c8 c9 c10 HBX1 HB1
  have c0 : (w2.alloc (.cells #[.pointer none, .slice none 0 0] wrt.WrtT)).cell? ⟨w.heap.size, 0, none⟩ = some (.int .u64 t) := cell_al (Lib.cell_of_heap HBX2.out 0) _
  have c1 : (w2.alloc (.cells #[.pointer none, .slice none 0 0] wrt.WrtT)).cell? ⟨w.heap.size, 1, none⟩ = some (.int .u64 i) := cell_al (Lib.cell_of_heap HBX2.out 1) _
  have c2 : (w2.alloc (.cells #[.pointer none, .slice none 0 0] wrt.WrtT)).cell? ⟨w.heap.size, 2, none⟩ = some (.int .i64 k) := cell_al (Lib.cell_of_heap HBX2.out 2) _
  have c3 : (w2.alloc (.cells #[.pointer none, .slice none 0 0] wrt.WrtT)).cell? ⟨w.heap.size, 3, none⟩ = some (.int .u64 c) := cell_al (Lib.cell_of_heap HBX2.out 3) _
  have c4 : (w2.alloc (.cells #[.pointer none, .slice none 0 0] wrt.WrtT)).cell? ⟨w.heap.size, 4, none⟩ = some (.int .u64 s) := cell_al (Lib.cell_of_heap HBX2.out 4) _
  have c5 : (w2.alloc (.cells #[.pointer none, .slice none 0 0] wrt.WrtT)).cell? ⟨w.heap.size, 5, none⟩ = some (.int .u64 bl) := cell_al (Lib.cell_of_heap HBX2.out 5) _
  have c6 : (w2.alloc (.cells #[.pointer none, .slice none 0 0] wrt.WrtT)).cell? ⟨w.heap.size, 6, none⟩ = some (.int .u64 mn) := cell_al (Lib.cell_of_heap HBX2.out 6) _
  have c7 : (w2.alloc (.cells #[.pointer none, .slice none 0 0] wrt.WrtT)).cell? ⟨w.heap.size, 7, none⟩ = some (.int .i64 n) := cell_al (Lib.cell_of_heap HBX2.out 7) _
  have c8 : (w2.alloc (.cells #[.pointer none, .slice none 0 0] wrt.WrtT)).cell? ⟨w.heap.size, 8, none⟩ = some (.int .i64 l) := cell_al (Lib.cell_of_heap HBX2.out 8) _
  have c9 : (w2.alloc (.cells #[.pointer none, .slice none 0 0] wrt.WrtT)).cell? ⟨w.heap.size, 9, none⟩ = some (.string ⟨d.toArray⟩) := cell_al (Lib.cell_of_heap HBX2.out 9) _
  have c10 : (w2.alloc (.cells #[.pointer none, .slice none 0 0] wrt.WrtT)).cell? ⟨w.heap.size, 10, none⟩ = some (.string ⟨o.toArray⟩) := cell_al (Lib.cell_of_heap HBX2.out 10) _
  have HW0 := Lib.hid (wrt.Bld.fresh w2)
  have HA2 := Lib.hid ((Below.refl w2.heap.size w2).alloc (Nat.le_refl _) (.cells #[.pointer none, .slice none 0 0] wrt.WrtT))
  go_wp2_with fail
  refine (wrt.put_any (w2.heap.size + 1) w2.heap.size [] k (by omega) 1 (.inl rfl) _ HW0.out (by simp)).mono ?_
  rintro x w3 ⟨rfl, hb3, hk3⟩
  rw [List.nil_append] at hb3
  have HBX3 := Lib.hid ((hk3.block w.heap.size (by simp; omega) (by omega) (.inl (by omega))).trans ((HA2.out.block _ hlt2).trans HBX2.out))
  have HW3 := Lib.hid hb3
  have hs3 : w2.heap.size + 1 ≤ w3.heap.size := by have := hk3.size; simpa using this
  have HB3 := Lib.hid (HB2.out.trans ((HA2.out.mono (by omega)).trans (hk3.below (by omega) (by omega) (by simp; omega))) : Below w.heap.size w w3)
  clear hb3 hk3 c0 c1 c2 c3 c4 c5 c6 c7 c8 c9 c10 HW0 HA2 HBX2 HB2
  have c0 : w3.cell? ⟨w.heap.size, 0, none⟩ = some (.int .u64 t) := Lib.cell_of_heap HBX3.out 0
  have c1 : w3.cell? ⟨w.heap.size, 1, none⟩ = some (.int .u64 i) := Lib.cell_of_heap HBX3.out 1
  have c2 : w3.cell? ⟨w.heap.size, 2, none⟩ = some (.int .i64 k) := Lib.cell_of_heap HBX3.out 2
  have c3 : w3.cell? ⟨w.heap.size, 3, none⟩ = some (.int .u64 c) := Lib.cell_of_heap HBX3.out 3
  have c4 : w3.cell? ⟨w.heap.size, 4, none⟩ = some (.int .u64 s) := Lib.cell_of_heap HBX3.out 4
  have c5 : w3.cell? ⟨w.heap.size, 5, none⟩ = some (.int .u64 bl) := Lib.cell_of_heap HBX3.out 5
  have c6 : w3.cell? ⟨w.heap.size, 6, none⟩ = some (.int .u64 mn) := Lib.cell_of_heap HBX3.out 6
  have c7 : w3.cell? ⟨w.heap.size, 7, none⟩ = some (.int .i64 n) := Lib.cell_of_heap HBX3.out 7
  have c8 : w3.cell? ⟨w.heap.size, 8, none⟩ = some (.int .i64 l) := Lib.cell_of_heap HBX3.out 8
  have c9 : w3.cell? ⟨w.heap.size, 9, none⟩ = some (.string ⟨d.toArray⟩) := Lib.cell_of_heap HBX3.out 9
  have c10 : w3.cell? ⟨w.heap.size, 10, none⟩ = some (.string ⟨o.toArray⟩) := Lib.cell_of_heap HBX3.out 10
  go_wp2_with fail
  have HW3b := Lib.hid (HW3.out.below ((Below.refl w3.heap.size w3).alloc (Nat.le_refl _) (.cells #[.int .u64 t, .int .u64 i, .int .u64 c, .int .u64 s] 23)))
  have HB3b := Lib.hid (HB3.out.trans (((Below.refl w3.heap.size w3).alloc (Nat.le_refl _) (.cells #[.int .u64 t, .int .u64 i, .int .u64 c, .int .u64 s] 23)).mono HB3.out.size) : Below w.heap.size w (w3.alloc (.cells #[.int .u64 t, .int .u64 i, .int .u64 c, .int .u64 s] 23)))
  have HBX3b := Lib.hid ((Below.heap_alloc w3 (.cells #[.int .u64 t, .int .u64 i, .int .u64 c, .int .u64 s] 23) w.heap.size (by omega)).trans HBX3.out)
  clear c0 c1 c2 c3 c4 c5 c6 c7 c8 c9 c10 HW3 HB3 HBX3
  go_loopw [7, 34] (fun vx ix wr => ∃ (j : Nat), j ≤ 4 ∧ ix = .int .i64 j ∧ wrt.Bld (w2.heap.size + 1) w2.heap.size (Lib.byteCells (fixL 1 k ++ ([t, i, c, s].take j).flatMap (fixL 8))) wr ∧ wr.heap[w3.heap.size]? = some (.cells #[.int .u64 t, .int .u64 i, .int .u64 c, .int .u64 s] 23 (0, 0)) ∧ wr.heap[w.heap.size]? = some (.cells #[.int .u64 t, .int .u64 i, .int .i64 k, .int .u64 c, .int .u64 s, .int .u64 bl, .int .u64 mn, .int .i64 n, .int .i64 l, .string ⟨d.toArray⟩, .string ⟨o.toArray⟩] EntT (0, 0)) ∧ Below w.heap.size w wr) (fun vx ix _ => 4 - (intOf ix).toNat)
  case atStart => exact ⟨0, by decide, rfl, by rw [List.take_zero, List.flatMap_nil, List.append_nil]; exact HW3b.out, heap_alloc_new w3 _, HBX3b.out, HB3b.out⟩
  case round =>
    obtain ⟨j, hj, rfl, hbld, hsl, hbx, hbr⟩ := hrel
    by_cases hlt : j < 4
    · have hcell : wr.cell? ⟨w3.heap.size, j, none⟩ = some (.int .u64 (([t, i, c, s].getD j 0 : Nat) : Int)) := by
        rw [Lib.cell_of_heap hsl]
        match j, hlt with
        | 0, _ => rfl
        | 1, _ => rfl
        | 2, _ => rfl
        | 3, _ => rfl
        | j + 4, h => exact absurd h (by omega)
      have hbd : [t, i, c, s].getD j 0 < 18446744073709551616 := by
        match j, hlt with
        | 0, _ => exact ht
        | 1, _ => exact hi
        | 2, _ => exact hc
        | 3, _ => exact hs
        | j + 4, h => exact absurd h (by omega)
      have hfl := take_flat (fixL 8) [t, i, c, s] j hlt
      have HFL := Lib.hid hfl
      have HBLD := Lib.hid hbld
      have HSL := Lib.hid hsl
      have HBX := Lib.hid hbx
      have HBR := Lib.hid hbr
      have hlen : (fixL 1 k ++ ([t, i, c, s].take j).flatMap (fixL 8)).length ≤ 1000 := by
        match j, hlt with
        | 0, _ => simp [fixL_length]
        | 1, _ => simp [fixL_length]
        | 2, _ => simp [fixL_length]
        | 3, _ => simp [fixL_length]
        | j + 4, h => exact absurd h (by omega)
      clear hfl hbld hsl hbx hbr
      generalize [t, i, c, s].getD j 0 = vj at *
      go_wp2_with fail
      refine (wrt.put_any (w2.heap.size + 1) w2.heap.size _ vj hbd 8 (.inr (.inr rfl)) _ HBLD.out (by omega)).mono ?_
      rintro x w4 ⟨rfl, hb4, hk4⟩
      rw [List.append_assoc, ← HFL.out] at hb4
      have hsl4 := (hk4.block w3.heap.size (heap_lt HSL.out) (by omega) (.inr (notBytes_of HSL.out (by decide)))).trans HSL.out
      have hbx4 := (hk4.block w.heap.size (heap_lt HBX.out) (by omega) (.inl (by omega))).trans HBX.out
      have hbr4 : Below w.heap.size w w4 := HBR.out.trans (hk4.below (by omega) (by omega) HBR.out.size)
      have H1 := Lib.hid hb4
      have H2 := Lib.hid hsl4
      have H3 := Lib.hid hbx4
      have H4 := Lib.hid hbr4
      clear hb4 hk4 hsl4 hbx4 hbr4 hcell
      go_wp2_with fail
      go_roundw
      case rel => exact ⟨j + 1, by omega, by go_num, H1.out, H2.out, H3.out, H4.out⟩
      case measure => simp [intOf]; omega
    · obtain rfl : j = 4 := by omega
      have hbld : wrt.Bld (w2.heap.size + 1) w2.heap.size (Lib.byteCells (fixL 1 k ++ [t, i, c, s].flatMap (fixL 8))) wr := hbld
      have HBLD := Lib.hid hbld
      have HBX := Lib.hid hbx
      have HBR := Lib.hid hbr
      have hl4 : (fixL 1 k ++ [t, i, c, s].flatMap (fixL 8)).length = 33 := by simp [fixL_length]
      clear hbld hsl hbx hbr
      have c0 : wr.cell? ⟨w.heap.size, 0, none⟩ = some (.int .u64 t) := Lib.cell_of_heap HBX.out 0
      have c1 : wr.cell? ⟨w.heap.size, 1, none⟩ = some (.int .u64 i) := Lib.cell_of_heap HBX.out 1
      have c2 : wr.cell? ⟨w.heap.size, 2, none⟩ = some (.int .i64 k) := Lib.cell_of_heap HBX.out 2
      have c3 : wr.cell? ⟨w.heap.size, 3, none⟩ = some (.int .u64 c) := Lib.cell_of_heap HBX.out 3
      have c4 : wr.cell? ⟨w.heap.size, 4, none⟩ = some (.int .u64 s) := Lib.cell_of_heap HBX.out 4
      have c5 : wr.cell? ⟨w.heap.size, 5, none⟩ = some (.int .u64 bl) := Lib.cell_of_heap HBX.out 5
      have c6 : wr.cell? ⟨w.heap.size, 6, none⟩ = some (.int .u64 mn) := Lib.cell_of_heap HBX.out 6
      have c7 : wr.cell? ⟨w.heap.size, 7, none⟩ = some (.int .i64 n) := Lib.cell_of_heap HBX.out 7
      have c8 : wr.cell? ⟨w.heap.size, 8, none⟩ = some (.int .i64 l) := Lib.cell_of_heap HBX.out 8
      have c9 : wr.cell? ⟨w.heap.size, 9, none⟩ = some (.string ⟨d.toArray⟩) := Lib.cell_of_heap HBX.out 9
      have c10 : wr.cell? ⟨w.heap.size, 10, none⟩ = some (.string ⟨o.toArray⟩) := Lib.cell_of_heap HBX.out 10
      go_wp2_with fail
      refine (wrt.put_any (w2.heap.size + 1) w2.heap.size _ bl hb 4 (.inr (.inl rfl)) _ HBLD.out (by omega)).mono ?_
      rintro x w5 ⟨rfl, hb5, hk5⟩
      have HBX5 := Lib.hid ((hk5.block w.heap.size (heap_lt HBX.out) (by omega) (.inl (by omega))).trans HBX.out)
      have HBR5 := Lib.hid (HBR.out.trans (hk5.below (by omega) (by omega) HBR.out.size) : Below w.heap.size w w5)
      have HBLD5 := Lib.hid hb5
      clear hb5 hk5 c0 c1 c2 c3 c4 c5 c6 c7 c8 c9 c10 HBX HBR HBLD
      have c0 : w5.cell? ⟨w.heap.size, 0, none⟩ = some (.int .u64 t) := Lib.cell_of_heap HBX5.out 0
      have c1 : w5.cell? ⟨w.heap.size, 1, none⟩ = some (.int .u64 i) := Lib.cell_of_heap HBX5.out 1
      have c2 : w5.cell? ⟨w.heap.size, 2, none⟩ = some (.int .i64 k) := Lib.cell_of_heap HBX5.out 2
      have c3 : w5.cell? ⟨w.heap.size, 3, none⟩ = some (.int .u64 c) := Lib.cell_of_heap HBX5.out 3
      have c4 : w5.cell? ⟨w.heap.size, 4, none⟩ = some (.int .u64 s) := Lib.cell_of_heap HBX5.out 4
      have c5 : w5.cell? ⟨w.heap.size, 5, none⟩ = some (.int .u64 bl) := Lib.cell_of_heap HBX5.out 5
      have c6 : w5.cell? ⟨w.heap.size, 6, none⟩ = some (.int .u64 mn) := Lib.cell_of_heap HBX5.out 6
      have c7 : w5.cell? ⟨w.heap.size, 7, none⟩ = some (.int .i64 n) := Lib.cell_of_heap HBX5.out 7
      have c8 : w5.cell? ⟨w.heap.size, 8, none⟩ = some (.int .i64 l) := Lib.cell_of_heap HBX5.out 8
      have c9 : w5.cell? ⟨w.heap.size, 9, none⟩ = some (.string ⟨d.toArray⟩) := Lib.cell_of_heap HBX5.out 9
      have c10 : w5.cell? ⟨w.heap.size, 10, none⟩ = some (.string ⟨o.toArray⟩) := Lib.cell_of_heap HBX5.out 10
      go_wp2_with fail
      refine (wrt.put_any (w2.heap.size + 1) w2.heap.size _ mn hm 4 (.inr (.inl rfl)) _ HBLD5.out (by rw [List.length_append, fixL_length]; omega)).mono ?_
      rintro x w6 ⟨rfl, hb6, hk6⟩
      have HBX6 := Lib.hid ((hk6.block w.heap.size (heap_lt HBX5.out) (by omega) (.inl (by omega))).trans HBX5.out)
      have HBR6 := Lib.hid (HBR5.out.trans (hk6.below (by omega) (by omega) HBR5.out.size) : Below w.heap.size w w6)
      have HBLD6 := Lib.hid hb6
      clear hb6 hk6 c0 c1 c2 c3 c4 c5 c6 c7 c8 c9 c10 HBX5 HBR5 HBLD5
      have c0 : w6.cell? ⟨w.heap.size, 0, none⟩ = some (.int .u64 t) := Lib.cell_of_heap HBX6.out 0
      have c1 : w6.cell? ⟨w.heap.size, 1, none⟩ = some (.int .u64 i) := Lib.cell_of_heap HBX6.out 1
      have c2 : w6.cell? ⟨w.heap.size, 2, none⟩ = some (.int .i64 k) := Lib.cell_of_heap HBX6.out 2
      have c3 : w6.cell? ⟨w.heap.size, 3, none⟩ = some (.int .u64 c) := Lib.cell_of_heap HBX6.out 3
      have c4 : w6.cell? ⟨w.heap.size, 4, none⟩ = some (.int .u64 s) := Lib.cell_of_heap HBX6.out 4
      have c5 : w6.cell? ⟨w.heap.size, 5, none⟩ = some (.int .u64 bl) := Lib.cell_of_heap HBX6.out 5
      have c6 : w6.cell? ⟨w.heap.size, 6, none⟩ = some (.int .u64 mn) := Lib.cell_of_heap HBX6.out 6
      have c7 : w6.cell? ⟨w.heap.size, 7, none⟩ = some (.int .i64 n) := Lib.cell_of_heap HBX6.out 7
      have c8 : w6.cell? ⟨w.heap.size, 8, none⟩ = some (.int .i64 l) := Lib.cell_of_heap HBX6.out 8
      have c9 : w6.cell? ⟨w.heap.size, 9, none⟩ = some (.string ⟨d.toArray⟩) := Lib.cell_of_heap HBX6.out 9
      have c10 : w6.cell? ⟨w.heap.size, 10, none⟩ = some (.string ⟨o.toArray⟩) := Lib.cell_of_heap HBX6.out 10
      go_wp2_with fail
      generalize hP : fixL 1 k ++ [t, i, c, s].flatMap (fixL 8) ++ fixL 4 bl ++ fixL 4 mn = P at *
      have hPl : P.length = 41 := by rw [← hP]; simp [fixL_length]
      have HB6b := Lib.hid (HBLD6.out.below ((Below.refl w6.heap.size w6).alloc (Nat.le_refl _) (.cells #[.int .i64 n, .int .i64 l, .int .i64 d.length] 3)))
      have HR6b := Lib.hid (HBR6.out.trans (((Below.refl w6.heap.size w6).alloc (Nat.le_refl _) (.cells #[.int .i64 n, .int .i64 l, .int .i64 d.length] 3)).mono HBR6.out.size) : Below w.heap.size w (w6.alloc (.cells #[.int .i64 n, .int .i64 l, .int .i64 d.length] 3)))
      have HX6b := Lib.hid ((Below.heap_alloc w6 (.cells #[.int .i64 n, .int .i64 l, .int .i64 d.length] 3) w.heap.size (heap_lt HBX6.out)).trans HBX6.out)
      have hb26 : w2.heap.size + 1 ≤ w6.heap.size := HBLD6.out.2.1
      clear c0 c1 c2 c3 c4 c5 c6 c7 c8 c9 c10 HBLD6 HBR6 HBX6
      go_loopw [9, 59] (fun vx ix wr => ∃ (j : Nat), j ≤ 3 ∧ ix = .int .i64 j ∧ wrt.Bld (w2.heap.size + 1) w2.heap.size (Lib.byteCells (P ++ ([n, l, d.length].take j).flatMap (fixL 1))) wr ∧ wr.heap[w6.heap.size]? = some (.cells #[.int .i64 n, .int .i64 l, .int .i64 d.length] 3 (0, 0)) ∧ wr.heap[w.heap.size]? = some (.cells #[.int .u64 t, .int .u64 i, .int .i64 k, .int .u64 c, .int .u64 s, .int .u64 bl, .int .u64 mn, .int .i64 n, .int .i64 l, .string ⟨d.toArray⟩, .string ⟨o.toArray⟩] EntT (0, 0)) ∧ Below w.heap.size w wr) (fun vx ix _ => 3 - (intOf ix).toNat)
      case atStart => exact ⟨0, by decide, rfl, by rw [List.take_zero, List.flatMap_nil, List.append_nil]; exact HB6b.out, heap_alloc_new w6 _, HX6b.out, HR6b.out⟩
      case round =>
        obtain ⟨j, hj, rfl, hbld, hsl, hbx, hbr⟩ := hrel
        by_cases hlt : j < 3
        · have hcell : wr.cell? ⟨w6.heap.size, j, none⟩ = some (.int .i64 (([n, l, d.length].getD j 0 : Nat) : Int)) := by
            rw [Lib.cell_of_heap hsl]
            match j, hlt with
            | 0, _ => rfl
            | 1, _ => rfl
            | 2, _ => rfl
            | j + 3, h => exact absurd h (by omega)
          have hbd : [n, l, d.length].getD j 0 < 1000 := by
            match j, hlt with
            | 0, _ => exact hn
            | 1, _ => exact hl
            | 2, _ => show d.length < 1000; omega
            | j + 3, h => exact absurd h (by omega)
          have hfl := take_flat (fixL 1) [n, l, d.length] j hlt
          have HFL := Lib.hid hfl
          have HBLD := Lib.hid hbld
          have HSL := Lib.hid hsl
          have HBX := Lib.hid hbx
          have HBR := Lib.hid hbr
          have hlen : (P ++ ([n, l, d.length].take j).flatMap (fixL 1)).length ≤ 1000 := by
            match j, hlt with
            | 0, _ => simp [fixL_length, hPl]
            | 1, _ => simp [fixL_length, hPl]
            | 2, _ => simp [fixL_length, hPl]
            | j + 3, h => exact absurd h (by omega)
          clear hfl hbld hsl hbx hbr
          generalize [n, l, d.length].getD j 0 = vj at *
          go_wp2_with fail
          refine (wrt.put_any (w2.heap.size + 1) w2.heap.size _ vj (by omega) 1 (.inl rfl) _ HBLD.out (by omega)).mono ?_
          rintro x w7 ⟨rfl, hb7, hk7⟩
          rw [List.append_assoc, ← HFL.out] at hb7
          have hsl7 := (hk7.block w6.heap.size (heap_lt HSL.out) (by omega) (.inr (notBytes_of HSL.out (by decide)))).trans HSL.out
          have hbx7 := (hk7.block w.heap.size (heap_lt HBX.out) (by omega) (.inl (by omega))).trans HBX.out
          have hbr7 : Below w.heap.size w w7 := HBR.out.trans (hk7.below (by omega) (by omega) HBR.out.size)
          have H1 := Lib.hid hb7
          have H2 := Lib.hid hsl7
          have H3 := Lib.hid hbx7
          have H4 := Lib.hid hbr7
          clear hb7 hk7 hsl7 hbx7 hbr7 hcell
          go_wp2_with fail
          go_roundw
          case rel => exact ⟨j + 1, by omega, by go_num, H1.out, H2.out, H3.out, H4.out⟩
          case measure => simp [intOf]; omega
        · obtain rfl : j = 3 := by omega
          have hbld : wrt.Bld (w2.heap.size + 1) w2.heap.size (Lib.byteCells (P ++ [n, l, d.length].flatMap (fixL 1))) wr := hbld
          have hl3 : (P ++ [n, l, d.length].flatMap (fixL 1)).length = 44 := by simp [fixL_length, hPl]
          have HBLD := Lib.hid hbld
          have HBX := Lib.hid hbx
          have HBR := Lib.hid hbr
          have hc9 : wr.cell? ⟨w.heap.size, 9, none⟩ = some (.string ⟨d.toArray⟩) := Lib.cell_of_heap hbx 9
          clear hbld hsl hbx hbr
          generalize hQ : P ++ [n, l, d.length].flatMap (fixL 1) = Q at *
          go_wp2_with fail
          have hS0 : wr.drew.cell? ⟨w.heap.size, 9, none⟩ = some (.string ⟨d.toArray⟩) := hc9
          have hwrap : IntKind.i64.wrap (66 - (d.length : Int)) = ((66 - d.length : Nat) : Int) := by
            rw [show (66 : Int) - (d.length : Int) = ((66 - d.length : Nat) : Int) by omega]
            exact wrap_nat _ (by omega)
          refine region_D (fun u => u.cell? ⟨w.heap.size, 9, none⟩ = some (.string ⟨d.toArray⟩)) [] 10 (by kernel_rfl) (by rfl) ?_
          refine takeD (i := 0) (v := .pointer (some ⟨w2.heap.size, 0, none⟩)) (by rfl) (by kernel_rfl) (fun _ _ _ h => h) (by rfl) (fun u hu => by go_simp) hS0 ?_
          simp only [Act.put, List.setIfInBounds_toArray, List.set_cons_zero, List.set_cons_succ]
          refine takeD (i := 1) (v := .pointer (some ⟨w.heap.size, 9, none⟩)) (by rfl) (by kernel_rfl) (fun _ _ _ h => h) (by rfl) (fun u hu => by go_simp) hS0 ?_
          simp only [Act.put, List.setIfInBounds_toArray, List.set_cons_zero, List.set_cons_succ]
          refine takeD (i := 2) (v := .string ⟨d.toArray⟩) (by rfl) (by kernel_rfl) (fun _ _ _ h => h) (by rfl) (fun u hu => by go_simp) hS0 ?_
          simp only [Act.put, List.setIfInBounds_toArray, List.set_cons_zero, List.set_cons_succ]
          refine takeD (i := 3) (v := .pointer (some ⟨w.heap.size, 9, none⟩)) (by rfl) (by kernel_rfl) (fun _ _ _ h => h) (by rfl) (fun u hu => by go_simp) hS0 ?_
          simp only [Act.put, List.setIfInBounds_toArray, List.set_cons_zero, List.set_cons_succ]
          refine takeD (i := 4) (v := .string ⟨d.toArray⟩) (by rfl) (by kernel_rfl) (fun _ _ _ h => h) (by rfl) (fun u hu => by go_simp) hS0 ?_
          simp only [Act.put, List.setIfInBounds_toArray, List.set_cons_zero, List.set_cons_succ]
          refine takeD (i := 5) (v := .int .i64 d.length) (by rfl) (by kernel_rfl) (fun _ _ _ h => h) (by rfl) (fun u hu => by go_simp) hS0 ?_
          simp only [Act.put, List.setIfInBounds_toArray, List.set_cons_zero, List.set_cons_succ]
          refine takeD (i := 6) (v := .int .i64 ((66 - d.length : Nat) : Int)) (by rfl) (by kernel_rfl) (fun _ _ _ h => h) (by rfl) (fun u hu => by go_simp) hS0 ?_
          simp only [Act.put, List.setIfInBounds_toArray, List.set_cons_zero, List.set_cons_succ]
          have hbd : Below w.heap.size w wr.drew := ⟨HBR.out.os, HBR.out.tape, HBR.out.output, HBR.out.size, HBR.out.block⟩
          have hrp := fun W => Tryz.strings_Repeat ⟨#[0]⟩ (66 - d.length) W (by omega) (by show 1 * (66 - d.length) ≤ _; omega)
          rw [repeat_zero] at hrp
          refine oneD (i := 7) (by rfl) (by kernel_rfl) (by rfl) ?_
          go_simp
          refine (hrp _).mono ?_
          rintro _ w8 ⟨rfl, hb8⟩
          have hbd8 := hbd.trans (hb8.mono hbd.size)
          have hS8 : w8.cell? ⟨w.heap.size, 9, none⟩ = some (.string ⟨d.toArray⟩) := (World.cell?_of_block (w := wr.drew) (hb8.block w.heap.size (heap_lt HBX.out))).trans hS0
          refine ⟨hS8, ?_⟩
          try simp only [Act.put, List.setIfInBounds_toArray, List.set_cons_zero, List.set_cons_succ]
          have hzl : (List.replicate (66 - d.length) (0 : UInt8)).length = 66 - d.length := List.length_replicate
          have hnot : ¬ 9223372036854775807 < d.length + (List.replicate (66 - d.length) (0 : UInt8)).length := by omega
          have hnot2 : ¬ 9223372036854775807 < d.length + (66 - d.length) := by omega
          have hbw : Below wr.heap.size wr wr.drew := ⟨rfl, rfl, rfl, Nat.le_refl _, fun _ _ => rfl⟩
          have HBL8 := Lib.hid ((HBLD.out.below hbw).below hb8)
          generalize hz : List.replicate (66 - d.length) (0 : UInt8) = z at *
          refine oneD (i := 8) (by rfl) (by kernel_rfl) (by rfl) ?_
          go_simp
          first | refine ⟨hS8, ?_⟩ | skip
          try simp only [Act.put, List.setIfInBounds_toArray, List.set_cons_zero, List.set_cons_succ]
          refine oneD (i := 9) (by rfl) (by kernel_rfl) (by rfl) ?_
          go_simp
          refine (wrt.writeString_any (w2.heap.size + 1) w2.heap.size _ ⟨(d ++ z).toArray⟩ w8 HBL8.out (by rw [Lib.byteCells_length]; show _ + (d ++ z).length ≤ _; rw [List.length_append]; omega)).mono ?_
          rintro _ w9 ⟨rfl, hb9, hk9⟩
          have hS9 : w9.cell? ⟨w.heap.size, 9, none⟩ = some (.string ⟨d.toArray⟩) := (hk9.cell (p := ⟨w.heap.size, 9, none⟩) (by have := hbd8.size; have := heap_lt HBX.out; show w.heap.size < w8.heap.size; have := hb8.size; have h1 : wr.heap.size ≤ w8.heap.size := this; omega) (by show w.heap.size ≠ w2.heap.size; omega) (.inl (by show w.heap.size < w2.heap.size + 1; omega))).trans hS8
          refine ⟨hS9, by kernel_rfl, NoPanic.normal ?_⟩
          try simp only [Act.put, List.setIfInBounds_toArray, List.set_cons_zero, List.set_cons_succ]
          have hb10 : wrt.Bld (w2.heap.size + 1) w2.heap.size (Lib.byteCells (Q ++ (d ++ z))) w9 := by
            rw [wrt.byteCells_append]
            exact hb9
          have hbd9 : Below w.heap.size w w9 := hbd8.trans (hk9.below (by omega) (by omega) hbd8.size)
          have hne : Q ++ (d ++ z) ≠ [] := fun h0 => by
            have := congrArg List.length h0
            rw [List.length_append, hl3] at this
            simp at this
          have hstr := wrt.string_any (w2.heap.size + 1) w2.heap.size (Q ++ (d ++ z)) w9 hb10 hne
          have HSTR := Lib.hid hstr
          have HB9 := Lib.hid hbd9
          clear hb9 hk9 hb10 hbd9 hne hstr hb8 hbd8 hS8 HBL8 hbd hS0 hrp hbw
          go_wp2_with fail
          refine HSTR.out.mono ?_
          rintro x w10 ⟨rfl, hb11⟩
          go_wp2_with fail
          go_ret2
          have hfin : Q ++ (d ++ z) = fixL 1 k ++ (([t, i, c, s].flatMap (fixL 8)) ++ (fixL 4 bl ++ (fixL 4 mn ++ (([n, l, d.length].flatMap (fixL 1)) ++ (d ++ List.replicate (66 - d.length) 0))))) := by
            rw [← hQ, ← hP, ← hz]
            simp only [List.append_assoc]
          refine ⟨?_, HB9.out.trans (hb11.mono (by omega))⟩
          rw [← hfin]
          rfl

end Go.Proofs.YtbjbgdnjcppjhaaGreatDoor
