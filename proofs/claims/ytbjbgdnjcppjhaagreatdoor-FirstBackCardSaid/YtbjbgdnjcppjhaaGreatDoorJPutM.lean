/-
  first.PutMsg over this translation: of a message of level 2 there are no bytes. Conditions: the message is right and small. By an AI agent.
-/
import Derived.Test.YtbjbgdnjcppjhaaGreatDoorFirR
import Derived.Test.YtbjbgdnjcppjhaaGreatDoorMsgRight
import Derived.Test.YtbjbgdnjcppjhaaGreatDoorMsgLevel
import Derived.Test.YtbjbgdnjcppjhaaGreatDoorFirPut2
namespace Go.Proofs.YtbjbgdnjcppjhaaGreatDoor
open Go.RowKit
set_option linter.unusedVariables false
set_option linter.unusedSimpArgs false

set_option maxRecDepth 100000 in
set_option maxHeartbeats 2000000 in
theorem firstPutMsg_two (m : Msg) (h : SmallM m) (hr : msgRightB m = true) (hl : msgLevelI m = 2) (sv : Value) (w : World) (hs : EntsAt w sv m.entries) :
    Calls Tryz.prog 24 #[.agg (m.cells sv)] w fun x w' => x = .returned (.tuple #[.string ⟨#[]⟩, .bool false]) ∧ Below w.heap.size w w' := by
  have hright := fun W hW => msgRight_any m sv (fun e he => (h.each e he).1.wf) (by have := h.count; omega) W hW
  have hlevel := fun W hW => msgLevel_any m sv (by have := h.count; omega) W hW
  rw [hr] at hright
  rw [hl] at hlevel
  have hbox := heap_alloc_new w (.cells (m.cells sv) MsgT)
  clear h hr hl
  obtain ⟨x0, x1, x2, x3, x4, x5, x6, x7, x8, x10, x9⟩ := m
  simp only [Msg.cells] at hright hlevel hbox hs ⊢
  obtain ⟨va, vc, rfl, -⟩ := id hs
  have HR := Lib.hid hright
  have HL := Lib.hid hlevel
  have HBOX := Lib.hid hbox
  have HS := Lib.hid hs
  clear hright hlevel hbox hs
  go_enter Tryz.func24, Tryz.ntmps24
  go_wp2_with fail
  have ha := (Below.refl w.heap.size w).alloc (Nat.le_refl _) (.cells #[.int .i64 x0, .int .i64 x1, .int .i64 x2, .int .u64 x3, .int .u64 x4, .int .u64 x5, .int .u64 x6, .int .u64 x7, .bool x8, .slice va x9.length vc, .string x10] MsgT)
  refine (HR.out _ (HS.out.below ha)).mono ?_
  rintro x w1 ⟨rfl, hb1⟩
  have hbx := (hb1.block w.heap.size (by simp)).trans HBOX.out
  have HB1 := Lib.hid (ha.trans (hb1.mono (by simp)) : Below w.heap.size w w1)
  have HS1 := Lib.hid ((HS.out.below ha).below hb1)
  have c0 : w1.cell? ⟨w.heap.size, 0, none⟩ = some (.int .i64 x0) := Lib.cell_of_heap hbx 0
  have c1 : w1.cell? ⟨w.heap.size, 1, none⟩ = some (.int .i64 x1) := Lib.cell_of_heap hbx 1
  have c2 : w1.cell? ⟨w.heap.size, 2, none⟩ = some (.int .i64 x2) := Lib.cell_of_heap hbx 2
  have c3 : w1.cell? ⟨w.heap.size, 3, none⟩ = some (.int .u64 x3) := Lib.cell_of_heap hbx 3
  have c4 : w1.cell? ⟨w.heap.size, 4, none⟩ = some (.int .u64 x4) := Lib.cell_of_heap hbx 4
  have c5 : w1.cell? ⟨w.heap.size, 5, none⟩ = some (.int .u64 x5) := Lib.cell_of_heap hbx 5
  have c6 : w1.cell? ⟨w.heap.size, 6, none⟩ = some (.int .u64 x6) := Lib.cell_of_heap hbx 6
  have c7 : w1.cell? ⟨w.heap.size, 7, none⟩ = some (.int .u64 x7) := Lib.cell_of_heap hbx 7
  have c8 : w1.cell? ⟨w.heap.size, 8, none⟩ = some (.bool x8) := Lib.cell_of_heap hbx 8
  have c9 : w1.cell? ⟨w.heap.size, 9, none⟩ = some (.slice va x9.length vc) := Lib.cell_of_heap hbx 9
  have c10 : w1.cell? ⟨w.heap.size, 10, none⟩ = some (.string x10) := Lib.cell_of_heap hbx 10
  clear hb1 HR hbx ha
  go_wp2_with fail
  refine (HL.out _ HS1.out).mono ?_
  rintro x w2 ⟨rfl, hb2⟩
  have HB2 := Lib.hid (HB1.out.trans (hb2.mono HB1.out.size) : Below w.heap.size w w2)
  clear hb2 HL c0 c1 c2 c3 c4 c5 c6 c7 c8 c9 c10
  go_wp2_with fail
  go_ret2
  exact ⟨rfl, HB2.out⟩

end Go.Proofs.YtbjbgdnjcppjhaaGreatDoor

/-
  first.PutMsg over this translation, of a message of level 1. Conditions: the message is right and small. (Printed by wip/genfirputm.py.) By an AI agent.
-/
namespace Go.Proofs.YtbjbgdnjcppjhaaGreatDoor
open Go.RowKit
set_option linter.unusedVariables false
set_option linter.unusedSimpArgs false

theorem flatF_len (l : List Ent) (h : ∀ e ∈ l, Small e) : (l.flatMap putF).length = 110 * l.length := by
  induction l with
  | nil => rfl
  | cons e l ih =>
    have h1 := ih (fun x hx => h x (List.mem_cons_of_mem _ hx))
    have hd := (h e (List.mem_cons_self ..)).data
    have h2 := putF_length e (by omega)
    rw [List.flatMap_cons, List.length_append, List.length_cons]
    omega

set_option maxRecDepth 100000 in
set_option maxHeartbeats 8000000 in
theorem firstPutMsg_nat (k f o t i p c mk : Nat) (yes : Bool) (sn : List UInt8) (es : List Ent) (va : Option Addr) (vc : Nat) (hk : k < 1000) (hf : f < 1000) (ho : o < 1000) (ht : t < 18446744073709551616) (hi : i < 18446744073709551616) (hp : p < 18446744073709551616) (hc : c < 18446744073709551616) (hmk : mk < 18446744073709551616)
    (hsn : sn.length ≤ 200) (hes : es.length ≤ 10) (he : ∀ e ∈ es, Small e ∧ rightB e = true ∧ levelI e.kind = 1) (hr : msgRightB ⟨k, f, o, t, i, p, c, mk, yes, ⟨sn.toArray⟩, es⟩ = true) (hlv : msgLevelI ⟨k, f, o, t, i, p, c, mk, yes, ⟨sn.toArray⟩, es⟩ = 1) (w : World) (hE : EntsAt w (.slice va es.length vc) es) :
    Calls Tryz.prog 24 #[.agg #[.int .i64 k, .int .i64 f, .int .i64 o, .int .u64 t, .int .u64 i, .int .u64 p, .int .u64 c, .int .u64 mk, .bool yes, .slice va es.length vc, .string ⟨sn.toArray⟩]] w fun x w' =>
      x = .returned (.tuple #[.string ⟨([k, f, o].flatMap (fixL 1) ++ ([t, i, p, c, mk].flatMap (fixL 8) ++ (fixL 1 (if yes then 1 else 0) ++ (fixL 1 es.length ++ (es.flatMap putF ++ (fixL 4 sn.length ++ sn)))))).toArray⟩, .bool true]) ∧ Below w.heap.size w w' := by
  have hright := fun W hW => msgRight_any ⟨k, f, o, t, i, p, c, mk, yes, ⟨sn.toArray⟩, es⟩ (.slice va es.length vc) (fun e h => (he e h).1.wf) (by show es.length ≤ _; omega) W hW
  have hlevel := fun W hW => msgLevel_any ⟨k, f, o, t, i, p, c, mk, yes, ⟨sn.toArray⟩, es⟩ (.slice va es.length vc) (by show es.length ≤ _; omega) W hW
  rw [hr] at hright
  rw [hlv] at hlevel
  simp only [Msg.cells] at hright hlevel
  have HR := Lib.hid hright
  have HL := Lib.hid hlevel
  obtain ⟨ans, hans⟩ : ∃ ans, ans = ([k, f, o].flatMap (fixL 1) ++ ([t, i, p, c, mk].flatMap (fixL 8) ++ (fixL 1 (if yes then 1 else 0) ++ (fixL 1 es.length ++ (es.flatMap putF ++ (fixL 4 sn.length ++ sn)))))) := ⟨_, rfl⟩
  rw [← hans]
  have HANS := Lib.hid hans
  clear hans
  have HES := Lib.hid he
  have HE := Lib.hid hE
  have HEW := Lib.hid hE
  have HBOX := Lib.hid (heap_alloc_new w (.cells #[.int .i64 k, .int .i64 f, .int .i64 o, .int .u64 t, .int .u64 i, .int .u64 p, .int .u64 c, .int .u64 mk, .bool yes, .slice va es.length vc, .string ⟨sn.toArray⟩] MsgT))
  clear hright hlevel hr hlv he hE
  go_enter Tryz.func24, Tryz.ntmps24
  go_wp2_with fail
  have ha := (Below.refl w.heap.size w).alloc (Nat.le_refl _) (.cells #[.int .i64 k, .int .i64 f, .int .i64 o, .int .u64 t, .int .u64 i, .int .u64 p, .int .u64 c, .int .u64 mk, .bool yes, .slice va es.length vc, .string ⟨sn.toArray⟩] MsgT)
  refine (HR.out _ (HE.out.below ha)).mono ?_
  rintro x w1 ⟨rfl, hb1⟩
  have HBX1 := Lib.hid ((hb1.block w.heap.size (by simp)).trans HBOX.out)
  have HB1 := Lib.hid (ha.trans (hb1.mono (by simp)) : Below w.heap.size w w1)
  have HE1 := Lib.hid ((HE.out.below ha).below hb1)
  clear hb1 HR ha HE HBOX
  have c0 : w1.cell? ⟨w.heap.size, 0, none⟩ = some (.int .i64 k) := Lib.cell_of_heap HBX1.out 0
  have c1 : w1.cell? ⟨w.heap.size, 1, none⟩ = some (.int .i64 f) := Lib.cell_of_heap HBX1.out 1
  have c2 : w1.cell? ⟨w.heap.size, 2, none⟩ = some (.int .i64 o) := Lib.cell_of_heap HBX1.out 2
  have c3 : w1.cell? ⟨w.heap.size, 3, none⟩ = some (.int .u64 t) := Lib.cell_of_heap HBX1.out 3
  have c4 : w1.cell? ⟨w.heap.size, 4, none⟩ = some (.int .u64 i) := Lib.cell_of_heap HBX1.out 4
  have c5 : w1.cell? ⟨w.heap.size, 5, none⟩ = some (.int .u64 p) := Lib.cell_of_heap HBX1.out 5
  have c6 : w1.cell? ⟨w.heap.size, 6, none⟩ = some (.int .u64 c) := Lib.cell_of_heap HBX1.out 6
  have c7 : w1.cell? ⟨w.heap.size, 7, none⟩ = some (.int .u64 mk) := Lib.cell_of_heap HBX1.out 7
  have c8 : w1.cell? ⟨w.heap.size, 8, none⟩ = some (.bool yes) := Lib.cell_of_heap HBX1.out 8
  have c9 : w1.cell? ⟨w.heap.size, 9, none⟩ = some (.slice va es.length vc) := Lib.cell_of_heap HBX1.out 9
  have c10 : w1.cell? ⟨w.heap.size, 10, none⟩ = some (.string ⟨sn.toArray⟩) := Lib.cell_of_heap HBX1.out 10
  go_wp2_with fail
  refine (HL.out _ HE1.out).mono ?_
  rintro x w2 ⟨rfl, hb2⟩
  have HBX2 := Lib.hid ((hb2.block w.heap.size (heap_lt HBX1.out)).trans HBX1.out)
  have HB2 := Lib.hid (HB1.out.trans (hb2.mono HB1.out.size) : Below w.heap.size w w2)
  have HE2 := Lib.hid (HE1.out.below hb2)
  have hlt2 : w.heap.size < w2.heap.size := heap_lt HBX2.out
  clear hb2 HL c0 c1 c2 c3 c4 c5 c6 c7 c8 c9 c10 HBX1 HB1 HE1
  have c0 : w2.cell? ⟨w.heap.size, 0, none⟩ = some (.int .i64 k) := Lib.cell_of_heap HBX2.out 0
  have c1 : w2.cell? ⟨w.heap.size, 1, none⟩ = some (.int .i64 f) := Lib.cell_of_heap HBX2.out 1
  have c2 : w2.cell? ⟨w.heap.size, 2, none⟩ = some (.int .i64 o) := Lib.cell_of_heap HBX2.out 2
  have c3 : w2.cell? ⟨w.heap.size, 3, none⟩ = some (.int .u64 t) := Lib.cell_of_heap HBX2.out 3
  have c4 : w2.cell? ⟨w.heap.size, 4, none⟩ = some (.int .u64 i) := Lib.cell_of_heap HBX2.out 4
  have c5 : w2.cell? ⟨w.heap.size, 5, none⟩ = some (.int .u64 p) := Lib.cell_of_heap HBX2.out 5
  have c6 : w2.cell? ⟨w.heap.size, 6, none⟩ = some (.int .u64 c) := Lib.cell_of_heap HBX2.out 6
  have c7 : w2.cell? ⟨w.heap.size, 7, none⟩ = some (.int .u64 mk) := Lib.cell_of_heap HBX2.out 7
  have c8 : w2.cell? ⟨w.heap.size, 8, none⟩ = some (.bool yes) := Lib.cell_of_heap HBX2.out 8
  have c9 : w2.cell? ⟨w.heap.size, 9, none⟩ = some (.slice va es.length vc) := Lib.cell_of_heap HBX2.out 9
  have c10 : w2.cell? ⟨w.heap.size, 10, none⟩ = some (.string ⟨sn.toArray⟩) := Lib.cell_of_heap HBX2.out 10
  go_upto_if 23 with fail
  go_cut [4] from 24 to 24 (fun s4 wx => s4 = .int .u64 ((if yes then 1 else 0 : Nat) : Int) ∧ wx = w2)
  case first =>
    cases yes
    · go_wp2_with fail
      go_meet
      exact ⟨rfl, rfl⟩
    · go_wp2_with fail
      go_meet
      exact ⟨rfl, rfl⟩
  case rest =>
  obtain ⟨rfl, rfl⟩ := hcut
  have hyv : (if yes = true then (1 : Nat) else 0) < 256 := by split <;> decide
  generalize hyn : (if yes = true then (1 : Nat) else 0) = yv at *
  clear c0 c1 c2 c3 c4 c5 c6 c7 c8 c9 c10
  have c0 : (wc.alloc (.cells #[.pointer none, .slice none 0 0] wrt.WrtT)).cell? ⟨w.heap.size, 0, none⟩ = some (.int .i64 k) := cell_al (Lib.cell_of_heap HBX2.out 0) _
  have c1 : (wc.alloc (.cells #[.pointer none, .slice none 0 0] wrt.WrtT)).cell? ⟨w.heap.size, 1, none⟩ = some (.int .i64 f) := cell_al (Lib.cell_of_heap HBX2.out 1) _
  have c2 : (wc.alloc (.cells #[.pointer none, .slice none 0 0] wrt.WrtT)).cell? ⟨w.heap.size, 2, none⟩ = some (.int .i64 o) := cell_al (Lib.cell_of_heap HBX2.out 2) _
  have c3 : (wc.alloc (.cells #[.pointer none, .slice none 0 0] wrt.WrtT)).cell? ⟨w.heap.size, 3, none⟩ = some (.int .u64 t) := cell_al (Lib.cell_of_heap HBX2.out 3) _
  have c4 : (wc.alloc (.cells #[.pointer none, .slice none 0 0] wrt.WrtT)).cell? ⟨w.heap.size, 4, none⟩ = some (.int .u64 i) := cell_al (Lib.cell_of_heap HBX2.out 4) _
  have c5 : (wc.alloc (.cells #[.pointer none, .slice none 0 0] wrt.WrtT)).cell? ⟨w.heap.size, 5, none⟩ = some (.int .u64 p) := cell_al (Lib.cell_of_heap HBX2.out 5) _
  have c6 : (wc.alloc (.cells #[.pointer none, .slice none 0 0] wrt.WrtT)).cell? ⟨w.heap.size, 6, none⟩ = some (.int .u64 c) := cell_al (Lib.cell_of_heap HBX2.out 6) _
  have c7 : (wc.alloc (.cells #[.pointer none, .slice none 0 0] wrt.WrtT)).cell? ⟨w.heap.size, 7, none⟩ = some (.int .u64 mk) := cell_al (Lib.cell_of_heap HBX2.out 7) _
  have c8 : (wc.alloc (.cells #[.pointer none, .slice none 0 0] wrt.WrtT)).cell? ⟨w.heap.size, 8, none⟩ = some (.bool yes) := cell_al (Lib.cell_of_heap HBX2.out 8) _
  have c9 : (wc.alloc (.cells #[.pointer none, .slice none 0 0] wrt.WrtT)).cell? ⟨w.heap.size, 9, none⟩ = some (.slice va es.length vc) := cell_al (Lib.cell_of_heap HBX2.out 9) _
  have c10 : (wc.alloc (.cells #[.pointer none, .slice none 0 0] wrt.WrtT)).cell? ⟨w.heap.size, 10, none⟩ = some (.string ⟨sn.toArray⟩) := cell_al (Lib.cell_of_heap HBX2.out 10) _
  have HW0 := Lib.hid (wrt.Bld.fresh wc)
  have HA2 := Lib.hid ((Below.refl wc.heap.size wc).alloc (Nat.le_refl _) (.cells #[.pointer none, .slice none 0 0] wrt.WrtT))
  go_wp2_with fail
  have hA1 := (Below.refl (wc.alloc (.cells #[.pointer none, .slice none 0 0] wrt.WrtT)).heap.size (wc.alloc (.cells #[.pointer none, .slice none 0 0] wrt.WrtT))).alloc (Nat.le_refl _) (.cells #[.int .i64 k, .int .i64 f, .int .i64 o] 3)
  have HW1 := Lib.hid (HW0.out.below hA1)
  have HBW := Lib.hid (HB2.out.trans ((HA2.out.mono (by omega)).trans (hA1.mono (by simp; omega))) : Below w.heap.size w ((wc.alloc (.cells #[.pointer none, .slice none 0 0] wrt.WrtT)).alloc (.cells #[.int .i64 k, .int .i64 f, .int .i64 o] 3)))
  have HBX3 := Lib.hid ((hA1.block w.heap.size (by simp; omega)).trans ((HA2.out.block _ hlt2).trans HBX2.out))
  have HSL := Lib.hid (heap_alloc_new (wc.alloc (.cells #[.pointer none, .slice none 0 0] wrt.WrtT)) (.cells #[.int .i64 k, .int .i64 f, .int .i64 o] 3))
  clear c0 c1 c2 c3 c4 c5 c6 c7 c8 c9 c10 hA1 HW0 HA2
  simp only [World.size_alloc] at HSL
  go_loopw [7, 32] (fun vx ix wr => ∃ (j : Nat), j ≤ 3 ∧ ix = .int .i64 j ∧ wrt.Bld (wc.heap.size + 1) wc.heap.size (Lib.byteCells (([k, f, o].take j).flatMap (fixL 1))) wr ∧ wr.heap[wc.heap.size + 1]? = some (.cells #[.int .i64 k, .int .i64 f, .int .i64 o] 3 (0, 0)) ∧ wr.heap[w.heap.size]? = some (.cells #[.int .i64 k, .int .i64 f, .int .i64 o, .int .u64 t, .int .u64 i, .int .u64 p, .int .u64 c, .int .u64 mk, .bool yes, .slice va es.length vc, .string ⟨sn.toArray⟩] MsgT (0, 0)) ∧ Below w.heap.size w wr) (fun vx ix _ => 3 - (intOf ix).toNat)
  case atStart => exact ⟨0, by decide, rfl, HW1.out, HSL.out, HBX3.out, HBW.out⟩
  case round =>
    obtain ⟨j, hj, rfl, hbld, hsl, hbx, hbr⟩ := hrel
    by_cases hlt : j < 3
    · have hcell : wr.cell? ⟨wc.heap.size + 1, j, none⟩ = some (.int .i64 (([k, f, o].getD j 0 : Nat) : Int)) := by
        rw [Lib.cell_of_heap hsl]
        match j, hlt with
        | 0, _ => rfl
        | 1, _ => rfl
        | 2, _ => rfl
        | j + 3, h => exact absurd h (by omega)
      have hbd : [k, f, o].getD j 0 < 1000 := by
        match j, hlt with
        | 0, _ => exact hk
        | 1, _ => exact hf
        | 2, _ => exact ho
        | j + 3, h => exact absurd h (by omega)
      have hfl := take_flat (fixL 1) [k, f, o] j hlt
      have HFL := Lib.hid hfl
      have HBLD := Lib.hid hbld
      have HSL2 := Lib.hid hsl
      have HBX := Lib.hid hbx
      have HBR := Lib.hid hbr
      have hlen : (([k, f, o].take j).flatMap (fixL 1)).length ≤ 1000 := by
        match j, hlt with
        | 0, _ => simp [fixL_length]
        | 1, _ => simp [fixL_length]
        | 2, _ => simp [fixL_length]
        | j + 3, h => exact absurd h (by omega)
      clear hfl hbld hsl hbx hbr
      generalize [k, f, o].getD j 0 = vj at *
      go_wp2_with fail
      refine (wrt.put_any (wc.heap.size + 1) wc.heap.size _ vj (by omega) 1 (.inl rfl) _ HBLD.out (by omega)).mono ?_
      rintro x w4 ⟨rfl, hb4, hk4⟩
      rw [← HFL.out] at hb4
      have hsl4 := (hk4.block (wc.heap.size + 1) (heap_lt HSL2.out) (by omega) (.inr (notBytes_of HSL2.out (by decide)))).trans HSL2.out
      have hbx4 := (hk4.block w.heap.size (heap_lt HBX.out) (by omega) (.inl (by omega))).trans HBX.out
      have hbr4 : Below w.heap.size w w4 := HBR.out.trans (hk4.below (by omega) (by omega) HBR.out.size)
      have H1 := Lib.hid hb4
      have H2 := Lib.hid hsl4
      have H3 := Lib.hid hbx4
      have H4 := Lib.hid hbr4
      clear hb4 hk4 hsl4 hbx4 hbr4 hcell
      go_wp2_with fail
      go_roundw
      case rel => exact ⟨j + 1, by omega, by go_num, H1.out, H2.out, H3.out, H4.out⟩
      case measure => simp [intOf]; omega
    · obtain rfl : j = 3 := by omega
      rw [show ((3 : Nat) : Int) = (3 : Int) from rfl]
      have hbld : wrt.Bld (wc.heap.size + 1) wc.heap.size (Lib.byteCells ([k, f, o].flatMap (fixL 1))) wr := hbld
      have hl3 : ([k, f, o].flatMap (fixL 1)).length = 3 := by simp [fixL_length]
      generalize hP : [k, f, o].flatMap (fixL 1) = P at *
      have hA := (Below.refl wr.heap.size wr).alloc (Nat.le_refl _) (.cells #[.int .u64 t, .int .u64 i, .int .u64 p, .int .u64 c, .int .u64 mk] 23)
      have HBLD := Lib.hid (hbld.below hA)
      have HBX := Lib.hid ((hA.block _ (heap_lt hbx)).trans hbx)
      have HBR := Lib.hid (hbr.trans (hA.mono hbr.size) : Below w.heap.size w (wr.alloc (.cells #[.int .u64 t, .int .u64 i, .int .u64 p, .int .u64 c, .int .u64 mk] 23)))
      have HSLB := Lib.hid (heap_alloc_new wr (.cells #[.int .u64 t, .int .u64 i, .int .u64 p, .int .u64 c, .int .u64 mk] 23))
      have hqb : wc.heap.size + 1 ≤ wr.heap.size := hbld.2.1
      have HBXo := Lib.hid hbx
      clear hbld hsl hbx hbr hA
      have c0 : wr.cell? ⟨w.heap.size, 0, none⟩ = some (.int .i64 k) := Lib.cell_of_heap HBXo.out 0
      have c1 : wr.cell? ⟨w.heap.size, 1, none⟩ = some (.int .i64 f) := Lib.cell_of_heap HBXo.out 1
      have c2 : wr.cell? ⟨w.heap.size, 2, none⟩ = some (.int .i64 o) := Lib.cell_of_heap HBXo.out 2
      have c3 : wr.cell? ⟨w.heap.size, 3, none⟩ = some (.int .u64 t) := Lib.cell_of_heap HBXo.out 3
      have c4 : wr.cell? ⟨w.heap.size, 4, none⟩ = some (.int .u64 i) := Lib.cell_of_heap HBXo.out 4
      have c5 : wr.cell? ⟨w.heap.size, 5, none⟩ = some (.int .u64 p) := Lib.cell_of_heap HBXo.out 5
      have c6 : wr.cell? ⟨w.heap.size, 6, none⟩ = some (.int .u64 c) := Lib.cell_of_heap HBXo.out 6
      have c7 : wr.cell? ⟨w.heap.size, 7, none⟩ = some (.int .u64 mk) := Lib.cell_of_heap HBXo.out 7
      have c8 : wr.cell? ⟨w.heap.size, 8, none⟩ = some (.bool yes) := Lib.cell_of_heap HBXo.out 8
      have c9 : wr.cell? ⟨w.heap.size, 9, none⟩ = some (.slice va es.length vc) := Lib.cell_of_heap HBXo.out 9
      have c10 : wr.cell? ⟨w.heap.size, 10, none⟩ = some (.string ⟨sn.toArray⟩) := Lib.cell_of_heap HBXo.out 10
      go_wp2_with fail
      clear c0 c1 c2 c3 c4 c5 c6 c7 c8 c9 c10 HBXo
      generalize hq : wr.heap.size = q at *
      go_loopw [9, 52] (fun vx ix wz => ∃ (j : Nat), j ≤ 5 ∧ ix = .int .i64 j ∧ wrt.Bld (wc.heap.size + 1) wc.heap.size (Lib.byteCells (P ++ ([t, i, p, c, mk].take j).flatMap (fixL 8))) wz ∧ wz.heap[q]? = some (.cells #[.int .u64 t, .int .u64 i, .int .u64 p, .int .u64 c, .int .u64 mk] 23 (0, 0)) ∧ wz.heap[w.heap.size]? = some (.cells #[.int .i64 k, .int .i64 f, .int .i64 o, .int .u64 t, .int .u64 i, .int .u64 p, .int .u64 c, .int .u64 mk, .bool yes, .slice va es.length vc, .string ⟨sn.toArray⟩] MsgT (0, 0)) ∧ Below w.heap.size w wz) (fun vx ix _ => 5 - (intOf ix).toNat)
      case atStart => exact ⟨0, by decide, rfl, by rw [List.take_zero, List.flatMap_nil, List.append_nil]; exact HBLD.out, HSLB.out, HBX.out, HBR.out⟩
      case round =>
        obtain ⟨j, hj, rfl, hbld, hsl, hbx, hbr⟩ := hrel
        clear HBLD HBX HBR HSLB
        by_cases hlt : j < 5
        · have hcell : wr.cell? ⟨q, j, none⟩ = some (.int .u64 (([t, i, p, c, mk].getD j 0 : Nat) : Int)) := by
            rw [Lib.cell_of_heap hsl]
            match j, hlt with
            | 0, _ => rfl
            | 1, _ => rfl
            | 2, _ => rfl
            | 3, _ => rfl
            | 4, _ => rfl
            | j + 5, h => exact absurd h (by omega)
          have hbd : [t, i, p, c, mk].getD j 0 < 18446744073709551616 := by
            match j, hlt with
            | 0, _ => exact ht
            | 1, _ => exact hi
            | 2, _ => exact hp
            | 3, _ => exact hc
            | 4, _ => exact hmk
            | j + 5, h => exact absurd h (by omega)
          have hfl := take_flat (fixL 8) [t, i, p, c, mk] j hlt
          have HFL := Lib.hid hfl
          have HBLD := Lib.hid hbld
          have HSL2 := Lib.hid hsl
          have HBX := Lib.hid hbx
          have HBR := Lib.hid hbr
          have hlen : (P ++ ([t, i, p, c, mk].take j).flatMap (fixL 8)).length ≤ 1000 := by
            match j, hlt with
            | 0, _ => simp [fixL_length, hl3]
            | 1, _ => simp [fixL_length, hl3]
            | 2, _ => simp [fixL_length, hl3]
            | 3, _ => simp [fixL_length, hl3]
            | 4, _ => simp [fixL_length, hl3]
            | j + 5, h => exact absurd h (by omega)
          clear hfl hbld hsl hbx hbr
          generalize [t, i, p, c, mk].getD j 0 = vj at *
          go_wp2_with fail
          refine (wrt.put_any (wc.heap.size + 1) wc.heap.size _ vj hbd 8 (.inr (.inr rfl)) _ HBLD.out (by omega)).mono ?_
          rintro x w4 ⟨rfl, hb4, hk4⟩
          rw [List.append_assoc, ← HFL.out] at hb4
          have hsl4 := (hk4.block q (heap_lt HSL2.out) (by omega) (.inr (notBytes_of HSL2.out (by decide)))).trans HSL2.out
          have hbx4 := (hk4.block w.heap.size (heap_lt HBX.out) (by omega) (.inl (by omega))).trans HBX.out
          have hbr4 : Below w.heap.size w w4 := HBR.out.trans (hk4.below (by omega) (by omega) HBR.out.size)
          have H1 := Lib.hid hb4
          have H2 := Lib.hid hsl4
          have H3 := Lib.hid hbx4
          have H4 := Lib.hid hbr4
          clear hb4 hk4 hsl4 hbx4 hbr4 hcell
          go_wp2_with fail
          go_roundw
          case rel => exact ⟨j + 1, by omega, by go_num, H1.out, H2.out, H3.out, H4.out⟩
          case measure => simp [intOf]; omega
        · obtain rfl : j = 5 := by omega
          rw [show ((5 : Nat) : Int) = (5 : Int) from rfl]
          have hbld : wrt.Bld (wc.heap.size + 1) wc.heap.size (Lib.byteCells (P ++ [t, i, p, c, mk].flatMap (fixL 8))) wr := hbld
          have hl8 : (P ++ [t, i, p, c, mk].flatMap (fixL 8)).length = 43 := by simp [fixL_length, hl3]
          generalize hQ : P ++ [t, i, p, c, mk].flatMap (fixL 8) = Q at *
          have HBLD := Lib.hid hbld
          have HBX := Lib.hid hbx
          have HBR := Lib.hid hbr
          clear hbld hsl hbx hbr
          have c0 : wr.cell? ⟨w.heap.size, 0, none⟩ = some (.int .i64 k) := Lib.cell_of_heap HBX.out 0
          have c1 : wr.cell? ⟨w.heap.size, 1, none⟩ = some (.int .i64 f) := Lib.cell_of_heap HBX.out 1
          have c2 : wr.cell? ⟨w.heap.size, 2, none⟩ = some (.int .i64 o) := Lib.cell_of_heap HBX.out 2
          have c3 : wr.cell? ⟨w.heap.size, 3, none⟩ = some (.int .u64 t) := Lib.cell_of_heap HBX.out 3
          have c4 : wr.cell? ⟨w.heap.size, 4, none⟩ = some (.int .u64 i) := Lib.cell_of_heap HBX.out 4
          have c5 : wr.cell? ⟨w.heap.size, 5, none⟩ = some (.int .u64 p) := Lib.cell_of_heap HBX.out 5
          have c6 : wr.cell? ⟨w.heap.size, 6, none⟩ = some (.int .u64 c) := Lib.cell_of_heap HBX.out 6
          have c7 : wr.cell? ⟨w.heap.size, 7, none⟩ = some (.int .u64 mk) := Lib.cell_of_heap HBX.out 7
          have c8 : wr.cell? ⟨w.heap.size, 8, none⟩ = some (.bool yes) := Lib.cell_of_heap HBX.out 8
          have c9 : wr.cell? ⟨w.heap.size, 9, none⟩ = some (.slice va es.length vc) := Lib.cell_of_heap HBX.out 9
          have c10 : wr.cell? ⟨w.heap.size, 10, none⟩ = some (.string ⟨sn.toArray⟩) := Lib.cell_of_heap HBX.out 10
          go_wp2_with fail
          refine (wrt.put_any (wc.heap.size + 1) wc.heap.size _ yv (by omega) 1 (.inl rfl) _ HBLD.out (by omega)).mono ?_
          rintro x w4 ⟨rfl, hb4, hk4⟩
          have HBX4 := Lib.hid ((hk4.block w.heap.size (heap_lt HBX.out) (by omega) (.inl (by omega))).trans HBX.out)
          have HBR4 := Lib.hid (HBR.out.trans (hk4.below (by omega) (by omega) HBR.out.size) : Below w.heap.size w w4)
          have HBLD4 := Lib.hid hb4
          clear hb4 hk4 c0 c1 c2 c3 c4 c5 c6 c7 c8 c9 c10 HBX HBR HBLD
          have c0 : w4.cell? ⟨w.heap.size, 0, none⟩ = some (.int .i64 k) := Lib.cell_of_heap HBX4.out 0
          have c1 : w4.cell? ⟨w.heap.size, 1, none⟩ = some (.int .i64 f) := Lib.cell_of_heap HBX4.out 1
          have c2 : w4.cell? ⟨w.heap.size, 2, none⟩ = some (.int .i64 o) := Lib.cell_of_heap HBX4.out 2
          have c3 : w4.cell? ⟨w.heap.size, 3, none⟩ = some (.int .u64 t) := Lib.cell_of_heap HBX4.out 3
          have c4 : w4.cell? ⟨w.heap.size, 4, none⟩ = some (.int .u64 i) := Lib.cell_of_heap HBX4.out 4
          have c5 : w4.cell? ⟨w.heap.size, 5, none⟩ = some (.int .u64 p) := Lib.cell_of_heap HBX4.out 5
          have c6 : w4.cell? ⟨w.heap.size, 6, none⟩ = some (.int .u64 c) := Lib.cell_of_heap HBX4.out 6
          have c7 : w4.cell? ⟨w.heap.size, 7, none⟩ = some (.int .u64 mk) := Lib.cell_of_heap HBX4.out 7
          have c8 : w4.cell? ⟨w.heap.size, 8, none⟩ = some (.bool yes) := Lib.cell_of_heap HBX4.out 8
          have c9 : w4.cell? ⟨w.heap.size, 9, none⟩ = some (.slice va es.length vc) := Lib.cell_of_heap HBX4.out 9
          have c10 : w4.cell? ⟨w.heap.size, 10, none⟩ = some (.string ⟨sn.toArray⟩) := Lib.cell_of_heap HBX4.out 10
          go_wp2_with fail
          refine (wrt.put_any (wc.heap.size + 1) wc.heap.size _ es.length (by omega) 1 (.inl rfl) _ HBLD4.out (by rw [List.length_append, fixL_length]; omega)).mono ?_
          rintro x w5 ⟨rfl, hb5, hk5⟩
          have HBX5 := Lib.hid ((hk5.block w.heap.size (heap_lt HBX4.out) (by omega) (.inl (by omega))).trans HBX4.out)
          have HBR5 := Lib.hid (HBR4.out.trans (hk5.below (by omega) (by omega) HBR4.out.size) : Below w.heap.size w w5)
          generalize hR : Q ++ fixL 1 yv ++ fixL 1 es.length = R at *
          have hRl : R.length = 45 := by rw [← hR]; simp [fixL_length, hl8]
          have HBLD5 := Lib.hid hb5
          clear hb5 hk5 c0 c1 c2 c3 c4 c5 c6 c7 c8 c9 c10 HBX4 HBR4 HBLD4
          have c0 : w5.cell? ⟨w.heap.size, 0, none⟩ = some (.int .i64 k) := Lib.cell_of_heap HBX5.out 0
          have c1 : w5.cell? ⟨w.heap.size, 1, none⟩ = some (.int .i64 f) := Lib.cell_of_heap HBX5.out 1
          have c2 : w5.cell? ⟨w.heap.size, 2, none⟩ = some (.int .i64 o) := Lib.cell_of_heap HBX5.out 2
          have c3 : w5.cell? ⟨w.heap.size, 3, none⟩ = some (.int .u64 t) := Lib.cell_of_heap HBX5.out 3
          have c4 : w5.cell? ⟨w.heap.size, 4, none⟩ = some (.int .u64 i) := Lib.cell_of_heap HBX5.out 4
          have c5 : w5.cell? ⟨w.heap.size, 5, none⟩ = some (.int .u64 p) := Lib.cell_of_heap HBX5.out 5
          have c6 : w5.cell? ⟨w.heap.size, 6, none⟩ = some (.int .u64 c) := Lib.cell_of_heap HBX5.out 6
          have c7 : w5.cell? ⟨w.heap.size, 7, none⟩ = some (.int .u64 mk) := Lib.cell_of_heap HBX5.out 7
          have c8 : w5.cell? ⟨w.heap.size, 8, none⟩ = some (.bool yes) := Lib.cell_of_heap HBX5.out 8
          have c9 : w5.cell? ⟨w.heap.size, 9, none⟩ = some (.slice va es.length vc) := Lib.cell_of_heap HBX5.out 9
          have c10 : w5.cell? ⟨w.heap.size, 10, none⟩ = some (.string ⟨sn.toArray⟩) := Lib.cell_of_heap HBX5.out 10
          go_wp2_with fail
          clear c0 c1 c2 c3 c4 c5 c6 c7 c8 c9 c10
          go_loopw [11, 12, 13, 69] (fun y1 y2 y3 ix wz => ∃ (j : Nat), j ≤ es.length ∧ ix = .int .i64 j ∧ wrt.Bld (wc.heap.size + 1) wc.heap.size (Lib.byteCells (R ++ (es.take j).flatMap putF)) wz ∧ wz.heap[w.heap.size]? = some (.cells #[.int .i64 k, .int .i64 f, .int .i64 o, .int .u64 t, .int .u64 i, .int .u64 p, .int .u64 c, .int .u64 mk, .bool yes, .slice va es.length vc, .string ⟨sn.toArray⟩] MsgT (0, 0)) ∧ Below w.heap.size w wz) (fun y1 y2 y3 ix _ => es.length - (intOf ix).toNat)
          case atStart => exact ⟨0, Nat.zero_le _, rfl, by rw [List.take_zero, List.flatMap_nil, List.append_nil]; exact HBLD5.out, HBX5.out, HBR5.out⟩
          case round =>
            obtain ⟨j, hj, rfl, hbld, hbx, hbr⟩ := hrel
            clear HBLD5 HBX5 HBR5
            by_cases hlt : j < es.length
            · obtain ⟨va', vc', hv1, _, _, hv4⟩ := HEW.out.below hbr
              obtain ⟨B, o2, hv5, hB, hEl⟩ := hv4 (fun h0 => by rw [h0] at hlt; exact absurd hlt (Nat.not_lt_zero _))
              cases hv1
              subst hv5
              have hel := hEl j hlt
              obtain ⟨hsm, hrt, hlv1⟩ := HES.out _ (List.getElem_mem hlt)
              have hsnoc : (es.take (j + 1)).flatMap putF = (es.take j).flatMap putF ++ putF es[j] := by
                rw [List.take_succ_eq_append_getElem hlt, List.flatMap_append]; simp
              have hlenk : ((es.take j).flatMap putF).length + (putF es[j]).length ≤ 1100 := by
                have h1 := flatF_len (es.take (j + 1)) (fun x hx => (HES.out x (List.mem_of_mem_take hx)).1)
                rw [hsnoc, List.length_append, List.length_take] at h1
                omega
              have hput := fun W => firstPut_any es[j] hsm hrt hlv1 W
              have HSN := Lib.hid hsnoc
              have HBR := Lib.hid hbr
              have HBX := Lib.hid hbx
              have HBLD := Lib.hid hbld
              have hbs := hbr.size
              have hbxl := heap_lt hbx
              have hbl2 := hbld.2.1
              clear hsnoc hEl hsm hrt hlv1 hbr hbld hbx hv4
              generalize putF es[j] = z at *
              generalize es[j] = y at *
              obtain ⟨y0, y1, y2, y3, y4, y5, y6, y7, y8, y9, y10⟩ := y
              simp only [Ent.val, Ent.cells] at hput
              have HPUT := Lib.hid hput
              clear hput
              obtain ⟨a0, a1, a2, a3, a4, a5, a6, a7, a8, a9, a10⟩ := hel
              simp only at a0 a1 a2 a3 a4 a5 a6 a7 a8 a9 a10
              go_wp2_with fail
              refine (HPUT.out _).mono ?_
              rintro x w6 ⟨rfl, hb6⟩
              have hb6r := ((Below.refl _ _).alloc (Nat.le_refl _) _).trans (hb6.mono (by simp))
              have hb6w := HBR.out.trans (hb6r.mono hbs)
              have hbld6 := HBLD.out.below hb6r
              have hbx6 := (hb6r.block _ hbxl).trans HBX.out
              have HB6 := Lib.hid hb6w
              have HBLD6 := Lib.hid hbld6
              have HBX6 := Lib.hid hbx6
              clear hb6 hb6w hb6r hbld6 hbx6 a0 a1 a2 a3 a4 a5 a6 a7 a8 a9 a10 HBR HBLD HBX
              go_wp2_with fail
              refine (wrt.writeString_any _ _ _ ⟨z.toArray⟩ _ HBLD6.out (by rw [Lib.byteCells_length, List.length_append]; show _ + z.length ≤ _; omega)).mono ?_
              rintro x w7 ⟨rfl, hbld7, hk7⟩
              have hb7 : Below w.heap.size w w7 := HB6.out.trans (hk7.below (by omega) (by omega) HB6.out.size)
              rw [show Lib.strCells ⟨z.toArray⟩ = Lib.byteCells z from rfl, ← wrt.byteCells_append, List.append_assoc, ← HSN.out] at hbld7
              have hbx7 := (hk7.block w.heap.size (heap_lt HBX6.out) (by omega) (.inl (by omega))).trans HBX6.out
              have H1 := Lib.hid hbld7
              have H2 := Lib.hid hbx7
              have H3 := Lib.hid hb7
              clear hbld7 hbx7 hb7 hk7
              go_wp2_with fail
              go_roundw
              case rel => exact ⟨j + 1, by omega, by go_num, H1.out, H2.out, H3.out⟩
              case measure => simp [intOf]; omega
            · obtain rfl : j = es.length := by omega
              rw [List.take_length] at hbld
              have hfl := flatF_len es (fun x hx => (HES.out x hx).1)
              have hl9 : (R ++ es.flatMap putF).length ≤ 1200 := by rw [List.length_append]; omega
              have hl9p : 0 < (R ++ es.flatMap putF).length := by rw [List.length_append]; omega
              generalize hZ : R ++ es.flatMap putF = Z at *
              have HBLD := Lib.hid hbld
              have HBX := Lib.hid hbx
              have HBR := Lib.hid hbr
              clear hbld hbx hbr
              have c0 : wr.cell? ⟨w.heap.size, 0, none⟩ = some (.int .i64 k) := Lib.cell_of_heap HBX.out 0
              have c1 : wr.cell? ⟨w.heap.size, 1, none⟩ = some (.int .i64 f) := Lib.cell_of_heap HBX.out 1
              have c2 : wr.cell? ⟨w.heap.size, 2, none⟩ = some (.int .i64 o) := Lib.cell_of_heap HBX.out 2
              have c3 : wr.cell? ⟨w.heap.size, 3, none⟩ = some (.int .u64 t) := Lib.cell_of_heap HBX.out 3
              have c4 : wr.cell? ⟨w.heap.size, 4, none⟩ = some (.int .u64 i) := Lib.cell_of_heap HBX.out 4
              have c5 : wr.cell? ⟨w.heap.size, 5, none⟩ = some (.int .u64 p) := Lib.cell_of_heap HBX.out 5
              have c6 : wr.cell? ⟨w.heap.size, 6, none⟩ = some (.int .u64 c) := Lib.cell_of_heap HBX.out 6
              have c7 : wr.cell? ⟨w.heap.size, 7, none⟩ = some (.int .u64 mk) := Lib.cell_of_heap HBX.out 7
              have c8 : wr.cell? ⟨w.heap.size, 8, none⟩ = some (.bool yes) := Lib.cell_of_heap HBX.out 8
              have c9 : wr.cell? ⟨w.heap.size, 9, none⟩ = some (.slice va es.length vc) := Lib.cell_of_heap HBX.out 9
              have c10 : wr.cell? ⟨w.heap.size, 10, none⟩ = some (.string ⟨sn.toArray⟩) := Lib.cell_of_heap HBX.out 10
              go_wp2_with fail
              refine (wrt.put_any (wc.heap.size + 1) wc.heap.size _ sn.length (by omega) 4 (.inr (.inl rfl)) _ HBLD.out (by omega)).mono ?_
              rintro x w6 ⟨rfl, hb6, hk6⟩
              have HBX6 := Lib.hid ((hk6.block w.heap.size (heap_lt HBX.out) (by omega) (.inl (by omega))).trans HBX.out)
              have HBR6 := Lib.hid (HBR.out.trans (hk6.below (by omega) (by omega) HBR.out.size) : Below w.heap.size w w6)
              have HBLD6 := Lib.hid hb6
              clear hb6 hk6 c0 c1 c2 c3 c4 c5 c6 c7 c8 c9 c10 HBX HBR HBLD
              have c0 : w6.cell? ⟨w.heap.size, 0, none⟩ = some (.int .i64 k) := Lib.cell_of_heap HBX6.out 0
              have c1 : w6.cell? ⟨w.heap.size, 1, none⟩ = some (.int .i64 f) := Lib.cell_of_heap HBX6.out 1
              have c2 : w6.cell? ⟨w.heap.size, 2, none⟩ = some (.int .i64 o) := Lib.cell_of_heap HBX6.out 2
              have c3 : w6.cell? ⟨w.heap.size, 3, none⟩ = some (.int .u64 t) := Lib.cell_of_heap HBX6.out 3
              have c4 : w6.cell? ⟨w.heap.size, 4, none⟩ = some (.int .u64 i) := Lib.cell_of_heap HBX6.out 4
              have c5 : w6.cell? ⟨w.heap.size, 5, none⟩ = some (.int .u64 p) := Lib.cell_of_heap HBX6.out 5
              have c6 : w6.cell? ⟨w.heap.size, 6, none⟩ = some (.int .u64 c) := Lib.cell_of_heap HBX6.out 6
              have c7 : w6.cell? ⟨w.heap.size, 7, none⟩ = some (.int .u64 mk) := Lib.cell_of_heap HBX6.out 7
              have c8 : w6.cell? ⟨w.heap.size, 8, none⟩ = some (.bool yes) := Lib.cell_of_heap HBX6.out 8
              have c9 : w6.cell? ⟨w.heap.size, 9, none⟩ = some (.slice va es.length vc) := Lib.cell_of_heap HBX6.out 9
              have c10 : w6.cell? ⟨w.heap.size, 10, none⟩ = some (.string ⟨sn.toArray⟩) := Lib.cell_of_heap HBX6.out 10
              go_wp2_with fail
              refine (wrt.writeString_any _ _ _ ⟨sn.toArray⟩ _ HBLD6.out (by rw [Lib.byteCells_length, List.length_append, fixL_length]; show _ + sn.length ≤ _; omega)).mono ?_
              rintro x w7 ⟨rfl, hbld7, hk7⟩
              have hb7 : Below w.heap.size w w7 := HBR6.out.trans (hk7.below (by omega) (by omega) HBR6.out.size)
              rw [show Lib.strCells ⟨sn.toArray⟩ = Lib.byteCells sn from rfl, ← wrt.byteCells_append] at hbld7
              have hne : Z ++ fixL 4 sn.length ++ sn ≠ [] := fun h0 => by
                have := congrArg List.length h0
                rw [List.length_append, List.length_append, List.length_nil] at this
                omega
              have HSTR := Lib.hid (wrt.string_any (wc.heap.size + 1) wc.heap.size _ w7 hbld7 hne)
              have HB7 := Lib.hid hb7
              clear hbld7 hk7 hb7 c0 c1 c2 c3 c4 c5 c6 c7 c8 c9 c10 HBX6 HBR6 HBLD6
              go_wp2_with fail
              refine HSTR.out.mono ?_
              rintro x w8 ⟨rfl, hb8⟩
              go_wp2_with fail
              go_ret2
              refine ⟨?_, HB7.out.trans (hb8.mono (by omega))⟩
              rw [HANS.out, ← hZ, ← hR, ← hQ]
              simp only [List.append_assoc]
              rfl

theorem firstPutMsg_any (m : Msg) (h : SmallM m) (hr : msgRightB m = true) (hl : msgLevelI m = 1) (sv : Value) (w : World) (hs : EntsAt w sv m.entries) :
    Calls Tryz.prog 24 #[.agg (m.cells sv)] w fun x w' => x = .returned (.tuple #[.string ⟨(putFM m).toArray⟩, .bool true]) ∧ Below w.heap.size w w' := by
  obtain ⟨va, vc, rfl, hs2, hs3, hs4⟩ := id hs
  have hlev := level_ents m hl
  obtain ⟨⟨a0, a1⟩, ⟨b0, b1⟩, ⟨c0, c1⟩, ⟨d0, d1⟩, ⟨e0, e1⟩, ⟨f0, f1⟩, ⟨g0, g1⟩, ⟨i0, i1⟩, hsn, hcn, he⟩ := h
  have hm : m = ⟨(m.kind.toNat : Nat), (m.frm.toNat : Nat), (m.to.toNat : Nat), (m.term.toNat : Nat), (m.index.toNat : Nat), (m.prev.toNat : Nat), (m.commit.toNat : Nat), (m.mark.toNat : Nat), m.ok, ⟨m.snap.data.toList.toArray⟩, m.entries⟩ := by
    rw [Int.toNat_of_nonneg (show 0 ≤ m.kind by omega), Int.toNat_of_nonneg (show 0 ≤ m.frm by omega), Int.toNat_of_nonneg (show 0 ≤ m.to by omega), Int.toNat_of_nonneg d0, Int.toNat_of_nonneg e0, Int.toNat_of_nonneg f0, Int.toNat_of_nonneg g0, Int.toNat_of_nonneg i0]
  have hsl : m.snap.data.toList.length ≤ 200 := hsn
  have hr2 := hr
  have hl2 := hl
  rw [hm] at hr2 hl2
  have hput := firstPutMsg_nat m.kind.toNat m.frm.toNat m.to.toNat m.term.toNat m.index.toNat m.prev.toNat m.commit.toNat m.mark.toNat m.ok m.snap.data.toList m.entries va vc (by omega) (by omega) (by omega) (by omega) (by omega) (by omega) (by omega) (by omega) hsl hcn (fun e hm => ⟨(he e hm).1, (he e hm).2, hlev e hm⟩) hr2 hl2 w hs
  have hv : (.agg (m.cells (.slice va m.entries.length vc)) : Value) = .agg #[.int .i64 (m.kind.toNat : Nat), .int .i64 (m.frm.toNat : Nat), .int .i64 (m.to.toNat : Nat), .int .u64 (m.term.toNat : Nat), .int .u64 (m.index.toNat : Nat), .int .u64 (m.prev.toNat : Nat), .int .u64 (m.commit.toNat : Nat), .int .u64 (m.mark.toNat : Nat), .bool m.ok, .slice va m.entries.length vc, .string ⟨m.snap.data.toList.toArray⟩] := by
    conv => lhs; rw [hm]
    rfl
  have hp : putFM m = [m.kind.toNat, m.frm.toNat, m.to.toNat].flatMap (fixL 1) ++ ([m.term.toNat, m.index.toNat, m.prev.toNat, m.commit.toNat, m.mark.toNat].flatMap (fixL 8) ++ (fixL 1 (if m.ok then 1 else 0) ++ (fixL 1 m.entries.length ++ (m.entries.flatMap putF ++ (fixL 4 m.snap.data.toList.length ++ m.snap.data.toList))))) := by
    have hdl : m.snap.data.toList.length = m.snap.size := rfl
    rw [hdl]
    simp only [putFM, List.flatMap_cons, List.flatMap_nil, List.append_nil, List.append_assoc]
  rw [hv, hp]
  exact hput

end Go.Proofs.YtbjbgdnjcppjhaaGreatDoor
