/-
  first.PutMsg over this translation: of a message of level 2 there are no bytes. Conditions: the message is right and small. By an AI agent.
-/
import Derived.Test.YtbjbgdnjcppjhaaGreatDoorJFirA
import Derived.Test.YtbjbgdnjcppjhaaGreatDoorMsgRight
import Derived.Test.YtbjbgdnjcppjhaaGreatDoorMsgLevel
import Derived.Test.YtbjbgdnjcppjhaaGreatDoorJFirB
import Derived.Test.YtbjbgdnjcppjhaaGreatDoorJFirC
import Derived.Test.YtbjbgdnjcppjhaaGreatDoorMsgIn
import Derived.Test.YtbjbgdnjcppjhaaGreatDoorSecQ
import Derived.Deep.AppendLies
namespace Go.Proofs.YtbjbgdnjcppjhaaGreatDoor
open Go.RowKit
set_option linter.unusedVariables false
set_option linter.unusedSimpArgs false

set_option maxRecDepth 100000 in
set_option maxHeartbeats 2000000 in
theorem firstPutMsg_two (m : Msg) (h : SmallM m) (hr : msgRightB m = true) (hl : msgLevelI m = 2) (sv : Value) (w : World) (hs : EntsAt w sv m.entries) :
    Calls Tryz.prog 24 #[.agg (m.cells sv)] w fun x w' => x = .returned (.tuple #[.string ⟨#[]⟩, .bool false]) ∧ Below w.heap.size w w' := by
  have hright := fun W hW => msgRight_any m sv (fun e he => (h.each e he).1.wf) (by have := h.count; omega) W hW
  have hlevel := fun W hW => msgLevel_any m sv (by have := h.count; omega) W hW
  rw [hr] at hright
  rw [hl] at hlevel
  have hbox := heap_alloc_new w (.cells (m.cells sv) MsgT)
  clear h hr hl
  obtain ⟨x0, x1, x2, x3, x4, x5, x6, x7, x8, x10, x9⟩ := m
  simp only [Msg.cells] at hright hlevel hbox hs ⊢
  obtain ⟨va, vc, rfl, -⟩ := id hs
  have HR := Lib.hid hright
  have HL := Lib.hid hlevel
  have HBOX := Lib.hid hbox
  have HS := Lib.hid hs
  clear hright hlevel hbox hs
  go_enter Tryz.func24, Tryz.ntmps24
  go_wp2_with fail
  have ha := (Below.refl w.heap.size w).alloc (Nat.le_refl _) (.cells #[.int .i64 x0, .int .i64 x1, .int .i64 x2, .int .u64 x3, .int .u64 x4, .int .u64 x5, .int .u64 x6, .int .u64 x7, .bool x8, .slice va x9.length vc, .string x10] MsgT)
  refine (HR.out _ (HS.out.below ha)).mono ?_
  rintro x w1 ⟨rfl, hb1⟩
  have hbx := (hb1.block w.heap.size (by simp)).trans HBOX.out
  have HB1 := Lib.hid (ha.trans (hb1.mono (by simp)) : Below w.heap.size w w1)
  have HS1 := Lib.hid ((HS.out.below ha).below hb1)
  have c0 : w1.cell? ⟨w.heap.size, 0, none⟩ = some (.int .i64 x0) := Lib.cell_of_heap hbx 0
  have c1 : w1.cell? ⟨w.heap.size, 1, none⟩ = some (.int .i64 x1) := Lib.cell_of_heap hbx 1
  have c2 : w1.cell? ⟨w.heap.size, 2, none⟩ = some (.int .i64 x2) := Lib.cell_of_heap hbx 2
  have c3 : w1.cell? ⟨w.heap.size, 3, none⟩ = some (.int .u64 x3) := Lib.cell_of_heap hbx 3
  have c4 : w1.cell? ⟨w.heap.size, 4, none⟩ = some (.int .u64 x4) := Lib.cell_of_heap hbx 4
  have c5 : w1.cell? ⟨w.heap.size, 5, none⟩ = some (.int .u64 x5) := Lib.cell_of_heap hbx 5
  have c6 : w1.cell? ⟨w.heap.size, 6, none⟩ = some (.int .u64 x6) := Lib.cell_of_heap hbx 6
  have c7 : w1.cell? ⟨w.heap.size, 7, none⟩ = some (.int .u64 x7) := Lib.cell_of_heap hbx 7
  have c8 : w1.cell? ⟨w.heap.size, 8, none⟩ = some (.bool x8) := Lib.cell_of_heap hbx 8
  have c9 : w1.cell? ⟨w.heap.size, 9, none⟩ = some (.slice va x9.length vc) := Lib.cell_of_heap hbx 9
  have c10 : w1.cell? ⟨w.heap.size, 10, none⟩ = some (.string x10) := Lib.cell_of_heap hbx 10
  clear hb1 HR hbx ha
  go_wp2_with fail
  refine (HL.out _ HS1.out).mono ?_
  rintro x w2 ⟨rfl, hb2⟩
  have HB2 := Lib.hid (HB1.out.trans (hb2.mono HB1.out.size) : Below w.heap.size w w2)
  clear hb2 HL c0 c1 c2 c3 c4 c5 c6 c7 c8 c9 c10
  go_wp2_with fail
  go_ret2
  exact ⟨rfl, HB2.out⟩

end Go.Proofs.YtbjbgdnjcppjhaaGreatDoor

/-
  first.PutMsg over this translation, of a message of level 1. Conditions: the message is right and small. (Printed by wip/genfirputm.py.) By an AI agent.
-/
namespace Go.Proofs.YtbjbgdnjcppjhaaGreatDoor
open Go.RowKit
set_option linter.unusedVariables false
set_option linter.unusedSimpArgs false

theorem flatF_len (l : List Ent) (h : ∀ e ∈ l, Small e) : (l.flatMap putF).length = 110 * l.length := by
  induction l with
  | nil => rfl
  | cons e l ih =>
    have h1 := ih (fun x hx => h x (List.mem_cons_of_mem _ hx))
    have hd := (h e (List.mem_cons_self ..)).data
    have h2 := putF_length e (by omega)
    rw [List.flatMap_cons, List.length_append, List.length_cons]
    omega

set_option maxRecDepth 100000 in
set_option maxHeartbeats 8000000 in
theorem firstPutMsg_nat (k f o t i p c mk : Nat) (yes : Bool) (sn : List UInt8) (es : List Ent) (va : Option Addr) (vc : Nat) (hk : k < 1000) (hf : f < 1000) (ho : o < 1000) (ht : t < 18446744073709551616) (hi : i < 18446744073709551616) (hp : p < 18446744073709551616) (hc : c < 18446744073709551616) (hmk : mk < 18446744073709551616)
    (hsn : sn.length ≤ 200) (hes : es.length ≤ 10) (he : ∀ e ∈ es, Small e ∧ rightB e = true ∧ levelI e.kind = 1) (hr : msgRightB ⟨k, f, o, t, i, p, c, mk, yes, ⟨sn.toArray⟩, es⟩ = true) (hlv : msgLevelI ⟨k, f, o, t, i, p, c, mk, yes, ⟨sn.toArray⟩, es⟩ = 1) (w : World) (hE : EntsAt w (.slice va es.length vc) es) :
    Calls Tryz.prog 24 #[.agg #[.int .i64 k, .int .i64 f, .int .i64 o, .int .u64 t, .int .u64 i, .int .u64 p, .int .u64 c, .int .u64 mk, .bool yes, .slice va es.length vc, .string ⟨sn.toArray⟩]] w fun x w' =>
      x = .returned (.tuple #[.string ⟨([k, f, o].flatMap (fixL 1) ++ ([t, i, p, c, mk].flatMap (fixL 8) ++ (fixL 1 (if yes then 1 else 0) ++ (fixL 1 es.length ++ (es.flatMap putF ++ (fixL 4 sn.length ++ sn)))))).toArray⟩, .bool true]) ∧ Below w.heap.size w w' := by
  have hright := fun W hW => msgRight_any ⟨k, f, o, t, i, p, c, mk, yes, ⟨sn.toArray⟩, es⟩ (.slice va es.length vc) (fun e h => (he e h).1.wf) (by show es.length ≤ _; omega) W hW
  have hlevel := fun W hW => msgLevel_any ⟨k, f, o, t, i, p, c, mk, yes, ⟨sn.toArray⟩, es⟩ (.slice va es.length vc) (by show es.length ≤ _; omega) W hW
  rw [hr] at hright
  rw [hlv] at hlevel
  simp only [Msg.cells] at hright hlevel
  have HR := Lib.hid hright
  have HL := Lib.hid hlevel
  obtain ⟨ans, hans⟩ : ∃ ans, ans = ([k, f, o].flatMap (fixL 1) ++ ([t, i, p, c, mk].flatMap (fixL 8) ++ (fixL 1 (if yes then 1 else 0) ++ (fixL 1 es.length ++ (es.flatMap putF ++ (fixL 4 sn.length ++ sn)))))) := ⟨_, rfl⟩
  rw [← hans]
  have HANS := Lib.hid hans
  clear hans
  have HES := Lib.hid he
  have HE := Lib.hid hE
  have HEW := Lib.hid hE
  have HBOX := Lib.hid (heap_alloc_new w (.cells #[.int .i64 k, .int .i64 f, .int .i64 o, .int .u64 t, .int .u64 i, .int .u64 p, .int .u64 c, .int .u64 mk, .bool yes, .slice va es.length vc, .string ⟨sn.toArray⟩] MsgT))
  clear hright hlevel hr hlv he hE
  go_enter Tryz.func24, Tryz.ntmps24
  go_wp2_with fail
  have ha := (Below.refl w.heap.size w).alloc (Nat.le_refl _) (.cells #[.int .i64 k, .int .i64 f, .int .i64 o, .int .u64 t, .int .u64 i, .int .u64 p, .int .u64 c, .int .u64 mk, .bool yes, .slice va es.length vc, .string ⟨sn.toArray⟩] MsgT)
  refine (HR.out _ (HE.out.below ha)).mono ?_
  rintro x w1 ⟨rfl, hb1⟩
  have HBX1 := Lib.hid ((hb1.block w.heap.size (by simp)).trans HBOX.out)
  have HB1 := Lib.hid (ha.trans (hb1.mono (by simp)) : Below w.heap.size w w1)
  have HE1 := Lib.hid ((HE.out.below ha).below hb1)
  clear hb1 HR ha HE HBOX
  have c0 : w1.cell? ⟨w.heap.size, 0, none⟩ = some (.int .i64 k) := Lib.cell_of_heap HBX1.out 0
  have c1 : w1.cell? ⟨w.heap.size, 1, none⟩ = some (.int .i64 f) := Lib.cell_of_heap HBX1.out 1
  have c2 : w1.cell? ⟨w.heap.size, 2, none⟩ = some (.int .i64 o) := Lib.cell_of_heap HBX1.out 2
  have c3 : w1.cell? ⟨w.heap.size, 3, none⟩ = some (.int .u64 t) := Lib.cell_of_heap HBX1.out 3
  have c4 : w1.cell? ⟨w.heap.size, 4, none⟩ = some (.int .u64 i) := Lib.cell_of_heap HBX1.out 4
  have c5 : w1.cell? ⟨w.heap.size, 5, none⟩ = some (.int .u64 p) := Lib.cell_of_heap HBX1.out 5
  have c6 : w1.cell? ⟨w.heap.size, 6, none⟩ = some (.int .u64 c) := Lib.cell_of_heap HBX1.out 6
  have c7 : w1.cell? ⟨w.heap.size, 7, none⟩ = some (.int .u64 mk) := Lib.cell_of_heap HBX1.out 7
  have c8 : w1.cell? ⟨w.heap.size, 8, none⟩ = some (.bool yes) := Lib.cell_of_heap HBX1.out 8
  have c9 : w1.cell? ⟨w.heap.size, 9, none⟩ = some (.slice va es.length vc) := Lib.cell_of_heap HBX1.out 9
  have c10 : w1.cell? ⟨w.heap.size, 10, none⟩ = some (.string ⟨sn.toArray⟩) := Lib.cell_of_heap HBX1.out 10
  go_wp2_with fail
  refine (HL.out _ HE1.out).mono ?_
  rintro x w2 ⟨rfl, hb2⟩
  have HBX2 := Lib.hid ((hb2.block w.heap.size (heap_lt HBX1.out)).trans HBX1.out)
  have HB2 := Lib.hid (HB1.out.trans (hb2.mono HB1.out.size) : Below w.heap.size w w2)
  have HE2 := Lib.hid (HE1.out.below hb2)
  have hlt2 : w.heap.size < w2.heap.size := heap_lt HBX2.out
  clear hb2 HL c0 c1 c2 c3 c4 c5 c6 c7 c8 c9 c10 HBX1 HB1 HE1
  have c0 : w2.cell? ⟨w.heap.size, 0, none⟩ = some (.int .i64 k) := Lib.cell_of_heap HBX2.out 0
  have c1 : w2.cell? ⟨w.heap.size, 1, none⟩ = some (.int .i64 f) := Lib.cell_of_heap HBX2.out 1
  have c2 : w2.cell? ⟨w.heap.size, 2, none⟩ = some (.int .i64 o) := Lib.cell_of_heap HBX2.out 2
  have c3 : w2.cell? ⟨w.heap.size, 3, none⟩ = some (.int .u64 t) := Lib.cell_of_heap HBX2.out 3
  have c4 : w2.cell? ⟨w.heap.size, 4, none⟩ = some (.int .u64 i) := Lib.cell_of_heap HBX2.out 4
  have c5 : w2.cell? ⟨w.heap.size, 5, none⟩ = some (.int .u64 p) := Lib.cell_of_heap HBX2.out 5
  have c6 : w2.cell? ⟨w.heap.size, 6, none⟩ = some (.int .u64 c) := Lib.cell_of_heap HBX2.out 6
  have c7 : w2.cell? ⟨w.heap.size, 7, none⟩ = some (.int .u64 mk) := Lib.cell_of_heap HBX2.out 7
  have c8 : w2.cell? ⟨w.heap.size, 8, none⟩ = some (.bool yes) := Lib.cell_of_heap HBX2.out 8
  have c9 : w2.cell? ⟨w.heap.size, 9, none⟩ = some (.slice va es.length vc) := Lib.cell_of_heap HBX2.out 9
  have c10 : w2.cell? ⟨w.heap.size, 10, none⟩ = some (.string ⟨sn.toArray⟩) := Lib.cell_of_heap HBX2.out 10
  go_upto_if 23 with fail
  go_cut [4] from 24 to 24 (fun s4 wx => s4 = .int .u64 ((if yes then 1 else 0 : Nat) : Int) ∧ wx = w2)
  case first =>
    cases yes
    · go_wp2_with fail
      go_meet
      exact ⟨rfl, rfl⟩
    · go_wp2_with fail
      go_meet
      exact ⟨rfl, rfl⟩
  case rest =>
  obtain ⟨rfl, rfl⟩ := hcut
  have hyv : (if yes = true then (1 : Nat) else 0) < 256 := by split <;> decide
  generalize hyn : (if yes = true then (1 : Nat) else 0) = yv at *
  clear c0 c1 c2 c3 c4 c5 c6 c7 c8 c9 c10
  have c0 : (wc.alloc (.cells #[.pointer none, .slice none 0 0] wrt.WrtT)).cell? ⟨w.heap.size, 0, none⟩ = some (.int .i64 k) := cell_al (Lib.cell_of_heap HBX2.out 0) _
  have c1 : (wc.alloc (.cells #[.pointer none, .slice none 0 0] wrt.WrtT)).cell? ⟨w.heap.size, 1, none⟩ = some (.int .i64 f) := cell_al (Lib.cell_of_heap HBX2.out 1) _
  have c2 : (wc.alloc (.cells #[.pointer none, .slice none 0 0] wrt.WrtT)).cell? ⟨w.heap.size, 2, none⟩ = some (.int .i64 o) := cell_al (Lib.cell_of_heap HBX2.out 2) _
  have c3 : (wc.alloc (.cells #[.pointer none, .slice none 0 0] wrt.WrtT)).cell? ⟨w.heap.size, 3, none⟩ = some (.int .u64 t) := cell_al (Lib.cell_of_heap HBX2.out 3) _
  have c4 : (wc.alloc (.cells #[.pointer none, .slice none 0 0] wrt.WrtT)).cell? ⟨w.heap.size, 4, none⟩ = some (.int .u64 i) := cell_al (Lib.cell_of_heap HBX2.out 4) _
  have c5 : (wc.alloc (.cells #[.pointer none, .slice none 0 0] wrt.WrtT)).cell? ⟨w.heap.size, 5, none⟩ = some (.int .u64 p) := cell_al (Lib.cell_of_heap HBX2.out 5) _
  have c6 : (wc.alloc (.cells #[.pointer none, .slice none 0 0] wrt.WrtT)).cell? ⟨w.heap.size, 6, none⟩ = some (.int .u64 c) := cell_al (Lib.cell_of_heap HBX2.out 6) _
  have c7 : (wc.alloc (.cells #[.pointer none, .slice none 0 0] wrt.WrtT)).cell? ⟨w.heap.size, 7, none⟩ = some (.int .u64 mk) := cell_al (Lib.cell_of_heap HBX2.out 7) _
  have c8 : (wc.alloc (.cells #[.pointer none, .slice none 0 0] wrt.WrtT)).cell? ⟨w.heap.size, 8, none⟩ = some (.bool yes) := cell_al (Lib.cell_of_heap HBX2.out 8) _
  have c9 : (wc.alloc (.cells #[.pointer none, .slice none 0 0] wrt.WrtT)).cell? ⟨w.heap.size, 9, none⟩ = some (.slice va es.length vc) := cell_al (Lib.cell_of_heap HBX2.out 9) _
  have c10 : (wc.alloc (.cells #[.pointer none, .slice none 0 0] wrt.WrtT)).cell? ⟨w.heap.size, 10, none⟩ = some (.string ⟨sn.toArray⟩) := cell_al (Lib.cell_of_heap HBX2.out 10) _
  have HW0 := Lib.hid (wrt.Bld.fresh wc)
  have HA2 := Lib.hid ((Below.refl wc.heap.size wc).alloc (Nat.le_refl _) (.cells #[.pointer none, .slice none 0 0] wrt.WrtT))
  go_wp2_with fail
  have hA1 := (Below.refl (wc.alloc (.cells #[.pointer none, .slice none 0 0] wrt.WrtT)).heap.size (wc.alloc (.cells #[.pointer none, .slice none 0 0] wrt.WrtT))).alloc (Nat.le_refl _) (.cells #[.int .i64 k, .int .i64 f, .int .i64 o] 3)
  have HW1 := Lib.hid (HW0.out.below hA1)
  have HBW := Lib.hid (HB2.out.trans ((HA2.out.mono (by omega)).trans (hA1.mono (by simp; omega))) : Below w.heap.size w ((wc.alloc (.cells #[.pointer none, .slice none 0 0] wrt.WrtT)).alloc (.cells #[.int .i64 k, .int .i64 f, .int .i64 o] 3)))
  have HBX3 := Lib.hid ((hA1.block w.heap.size (by simp; omega)).trans ((HA2.out.block _ hlt2).trans HBX2.out))
  have HSL := Lib.hid (heap_alloc_new (wc.alloc (.cells #[.pointer none, .slice none 0 0] wrt.WrtT)) (.cells #[.int .i64 k, .int .i64 f, .int .i64 o] 3))
  clear c0 c1 c2 c3 c4 c5 c6 c7 c8 c9 c10 hA1 HW0 HA2
  simp only [World.size_alloc] at HSL
  go_loopw [7, 32] (fun vx ix wr => ∃ (j : Nat), j ≤ 3 ∧ ix = .int .i64 j ∧ wrt.Bld (wc.heap.size + 1) wc.heap.size (Lib.byteCells (([k, f, o].take j).flatMap (fixL 1))) wr ∧ wr.heap[wc.heap.size + 1]? = some (.cells #[.int .i64 k, .int .i64 f, .int .i64 o] 3 (0, 0)) ∧ wr.heap[w.heap.size]? = some (.cells #[.int .i64 k, .int .i64 f, .int .i64 o, .int .u64 t, .int .u64 i, .int .u64 p, .int .u64 c, .int .u64 mk, .bool yes, .slice va es.length vc, .string ⟨sn.toArray⟩] MsgT (0, 0)) ∧ Below w.heap.size w wr) (fun vx ix _ => 3 - (intOf ix).toNat)
  case atStart => exact ⟨0, by decide, rfl, HW1.out, HSL.out, HBX3.out, HBW.out⟩
  case round =>
    obtain ⟨j, hj, rfl, hbld, hsl, hbx, hbr⟩ := hrel
    by_cases hlt : j < 3
    · have hcell : wr.cell? ⟨wc.heap.size + 1, j, none⟩ = some (.int .i64 (([k, f, o].getD j 0 : Nat) : Int)) := by
        rw [Lib.cell_of_heap hsl]
        match j, hlt with
        | 0, _ => rfl
        | 1, _ => rfl
        | 2, _ => rfl
        | j + 3, h => exact absurd h (by omega)
      have hbd : [k, f, o].getD j 0 < 1000 := by
        match j, hlt with
        | 0, _ => exact hk
        | 1, _ => exact hf
        | 2, _ => exact ho
        | j + 3, h => exact absurd h (by omega)
      have hfl := take_flat (fixL 1) [k, f, o] j hlt
      have HFL := Lib.hid hfl
      have HBLD := Lib.hid hbld
      have HSL2 := Lib.hid hsl
      have HBX := Lib.hid hbx
      have HBR := Lib.hid hbr
      have hlen : (([k, f, o].take j).flatMap (fixL 1)).length ≤ 1000 := by
        match j, hlt with
        | 0, _ => simp [fixL_length]
        | 1, _ => simp [fixL_length]
        | 2, _ => simp [fixL_length]
        | j + 3, h => exact absurd h (by omega)
      clear hfl hbld hsl hbx hbr
      generalize [k, f, o].getD j 0 = vj at *
      go_wp2_with fail
      refine (wrt.put_any (wc.heap.size + 1) wc.heap.size _ vj (by omega) 1 (.inl rfl) _ HBLD.out (by omega)).mono ?_
      rintro x w4 ⟨rfl, hb4, hk4⟩
      rw [← HFL.out] at hb4
      have hsl4 := (hk4.block (wc.heap.size + 1) (heap_lt HSL2.out) (by omega) (.inr (notBytes_of HSL2.out (by decide)))).trans HSL2.out
      have hbx4 := (hk4.block w.heap.size (heap_lt HBX.out) (by omega) (.inl (by omega))).trans HBX.out
      have hbr4 : Below w.heap.size w w4 := HBR.out.trans (hk4.below (by omega) (by omega) HBR.out.size)
      have H1 := Lib.hid hb4
      have H2 := Lib.hid hsl4
      have H3 := Lib.hid hbx4
      have H4 := Lib.hid hbr4
      clear hb4 hk4 hsl4 hbx4 hbr4 hcell
      go_wp2_with fail
      go_roundw
      case rel => exact ⟨j + 1, by omega, by go_num, H1.out, H2.out, H3.out, H4.out⟩
      case measure => simp [intOf]; omega
    · obtain rfl : j = 3 := by omega
      rw [show ((3 : Nat) : Int) = (3 : Int) from rfl]
      have hbld : wrt.Bld (wc.heap.size + 1) wc.heap.size (Lib.byteCells ([k, f, o].flatMap (fixL 1))) wr := hbld
      have hl3 : ([k, f, o].flatMap (fixL 1)).length = 3 := by simp [fixL_length]
      generalize hP : [k, f, o].flatMap (fixL 1) = P at *
      have hA := (Below.refl wr.heap.size wr).alloc (Nat.le_refl _) (.cells #[.int .u64 t, .int .u64 i, .int .u64 p, .int .u64 c, .int .u64 mk] 23)
      have HBLD := Lib.hid (hbld.below hA)
      have HBX := Lib.hid ((hA.block _ (heap_lt hbx)).trans hbx)
      have HBR := Lib.hid (hbr.trans (hA.mono hbr.size) : Below w.heap.size w (wr.alloc (.cells #[.int .u64 t, .int .u64 i, .int .u64 p, .int .u64 c, .int .u64 mk] 23)))
      have HSLB := Lib.hid (heap_alloc_new wr (.cells #[.int .u64 t, .int .u64 i, .int .u64 p, .int .u64 c, .int .u64 mk] 23))
      have hqb : wc.heap.size + 1 ≤ wr.heap.size := hbld.2.1
      have HBXo := Lib.hid hbx
      clear hbld hsl hbx hbr hA
      have c0 : wr.cell? ⟨w.heap.size, 0, none⟩ = some (.int .i64 k) := Lib.cell_of_heap HBXo.out 0
      have c1 : wr.cell? ⟨w.heap.size, 1, none⟩ = some (.int .i64 f) := Lib.cell_of_heap HBXo.out 1
      have c2 : wr.cell? ⟨w.heap.size, 2, none⟩ = some (.int .i64 o) := Lib.cell_of_heap HBXo.out 2
      have c3 : wr.cell? ⟨w.heap.size, 3, none⟩ = some (.int .u64 t) := Lib.cell_of_heap HBXo.out 3
      have c4 : wr.cell? ⟨w.heap.size, 4, none⟩ = some (.int .u64 i) := Lib.cell_of_heap HBXo.out 4
      have c5 : wr.cell? ⟨w.heap.size, 5, none⟩ = some (.int .u64 p) := Lib.cell_of_heap HBXo.out 5
      have c6 : wr.cell? ⟨w.heap.size, 6, none⟩ = some (.int .u64 c) := Lib.cell_of_heap HBXo.out 6
      have c7 : wr.cell? ⟨w.heap.size, 7, none⟩ = some (.int .u64 mk) := Lib.cell_of_heap HBXo.out 7
      have c8 : wr.cell? ⟨w.heap.size, 8, none⟩ = some (.bool yes) := Lib.cell_of_heap HBXo.out 8
      have c9 : wr.cell? ⟨w.heap.size, 9, none⟩ = some (.slice va es.length vc) := Lib.cell_of_heap HBXo.out 9
      have c10 : wr.cell? ⟨w.heap.size, 10, none⟩ = some (.string ⟨sn.toArray⟩) := Lib.cell_of_heap HBXo.out 10
      go_wp2_with fail
      clear c0 c1 c2 c3 c4 c5 c6 c7 c8 c9 c10 HBXo
      generalize hq : wr.heap.size = q at *
      go_loopw [9, 52] (fun vx ix wz => ∃ (j : Nat), j ≤ 5 ∧ ix = .int .i64 j ∧ wrt.Bld (wc.heap.size + 1) wc.heap.size (Lib.byteCells (P ++ ([t, i, p, c, mk].take j).flatMap (fixL 8))) wz ∧ wz.heap[q]? = some (.cells #[.int .u64 t, .int .u64 i, .int .u64 p, .int .u64 c, .int .u64 mk] 23 (0, 0)) ∧ wz.heap[w.heap.size]? = some (.cells #[.int .i64 k, .int .i64 f, .int .i64 o, .int .u64 t, .int .u64 i, .int .u64 p, .int .u64 c, .int .u64 mk, .bool yes, .slice va es.length vc, .string ⟨sn.toArray⟩] MsgT (0, 0)) ∧ Below w.heap.size w wz) (fun vx ix _ => 5 - (intOf ix).toNat)
      case atStart => exact ⟨0, by decide, rfl, by rw [List.take_zero, List.flatMap_nil, List.append_nil]; exact HBLD.out, HSLB.out, HBX.out, HBR.out⟩
      case round =>
        obtain ⟨j, hj, rfl, hbld, hsl, hbx, hbr⟩ := hrel
        clear HBLD HBX HBR HSLB
        by_cases hlt : j < 5
        · have hcell : wr.cell? ⟨q, j, none⟩ = some (.int .u64 (([t, i, p, c, mk].getD j 0 : Nat) : Int)) := by
            rw [Lib.cell_of_heap hsl]
            match j, hlt with
            | 0, _ => rfl
            | 1, _ => rfl
            | 2, _ => rfl
            | 3, _ => rfl
            | 4, _ => rfl
            | j + 5, h => exact absurd h (by omega)
          have hbd : [t, i, p, c, mk].getD j 0 < 18446744073709551616 := by
            match j, hlt with
            | 0, _ => exact ht
            | 1, _ => exact hi
            | 2, _ => exact hp
            | 3, _ => exact hc
            | 4, _ => exact hmk
            | j + 5, h => exact absurd h (by omega)
          have hfl := take_flat (fixL 8) [t, i, p, c, mk] j hlt
          have HFL := Lib.hid hfl
          have HBLD := Lib.hid hbld
          have HSL2 := Lib.hid hsl
          have HBX := Lib.hid hbx
          have HBR := Lib.hid hbr
          have hlen : (P ++ ([t, i, p, c, mk].take j).flatMap (fixL 8)).length ≤ 1000 := by
            match j, hlt with
            | 0, _ => simp [fixL_length, hl3]
            | 1, _ => simp [fixL_length, hl3]
            | 2, _ => simp [fixL_length, hl3]
            | 3, _ => simp [fixL_length, hl3]
            | 4, _ => simp [fixL_length, hl3]
            | j + 5, h => exact absurd h (by omega)
          clear hfl hbld hsl hbx hbr
          generalize [t, i, p, c, mk].getD j 0 = vj at *
          go_wp2_with fail
          refine (wrt.put_any (wc.heap.size + 1) wc.heap.size _ vj hbd 8 (.inr (.inr rfl)) _ HBLD.out (by omega)).mono ?_
          rintro x w4 ⟨rfl, hb4, hk4⟩
          rw [List.append_assoc, ← HFL.out] at hb4
          have hsl4 := (hk4.block q (heap_lt HSL2.out) (by omega) (.inr (notBytes_of HSL2.out (by decide)))).trans HSL2.out
          have hbx4 := (hk4.block w.heap.size (heap_lt HBX.out) (by omega) (.inl (by omega))).trans HBX.out
          have hbr4 : Below w.heap.size w w4 := HBR.out.trans (hk4.below (by omega) (by omega) HBR.out.size)
          have H1 := Lib.hid hb4
          have H2 := Lib.hid hsl4
          have H3 := Lib.hid hbx4
          have H4 := Lib.hid hbr4
          clear hb4 hk4 hsl4 hbx4 hbr4 hcell
          go_wp2_with fail
          go_roundw
          case rel => exact ⟨j + 1, by omega, by go_num, H1.out, H2.out, H3.out, H4.out⟩
          case measure => simp [intOf]; omega
        · obtain rfl : j = 5 := by omega
          rw [show ((5 : Nat) : Int) = (5 : Int) from rfl]
          have hbld : wrt.Bld (wc.heap.size + 1) wc.heap.size (Lib.byteCells (P ++ [t, i, p, c, mk].flatMap (fixL 8))) wr := hbld
          have hl8 : (P ++ [t, i, p, c, mk].flatMap (fixL 8)).length = 43 := by simp [fixL_length, hl3]
          generalize hQ : P ++ [t, i, p, c, mk].flatMap (fixL 8) = Q at *
          have HBLD := Lib.hid hbld
          have HBX := Lib.hid hbx
          have HBR := Lib.hid hbr
          clear hbld hsl hbx hbr
          have c0 : wr.cell? ⟨w.heap.size, 0, none⟩ = some (.int .i64 k) := Lib.cell_of_heap HBX.out 0
          have c1 : wr.cell? ⟨w.heap.size, 1, none⟩ = some (.int .i64 f) := Lib.cell_of_heap HBX.out 1
          have c2 : wr.cell? ⟨w.heap.size, 2, none⟩ = some (.int .i64 o) := Lib.cell_of_heap HBX.out 2
          have c3 : wr.cell? ⟨w.heap.size, 3, none⟩ = some (.int .u64 t) := Lib.cell_of_heap HBX.out 3
          have c4 : wr.cell? ⟨w.heap.size, 4, none⟩ = some (.int .u64 i) := Lib.cell_of_heap HBX.out 4
          have c5 : wr.cell? ⟨w.heap.size, 5, none⟩ = some (.int .u64 p) := Lib.cell_of_heap HBX.out 5
          have c6 : wr.cell? ⟨w.heap.size, 6, none⟩ = some (.int .u64 c) := Lib.cell_of_heap HBX.out 6
          have c7 : wr.cell? ⟨w.heap.size, 7, none⟩ = some (.int .u64 mk) := Lib.cell_of_heap HBX.out 7
          have c8 : wr.cell? ⟨w.heap.size, 8, none⟩ = some (.bool yes) := Lib.cell_of_heap HBX.out 8
          have c9 : wr.cell? ⟨w.heap.size, 9, none⟩ = some (.slice va es.length vc) := Lib.cell_of_heap HBX.out 9
          have c10 : wr.cell? ⟨w.heap.size, 10, none⟩ = some (.string ⟨sn.toArray⟩) := Lib.cell_of_heap HBX.out 10
          go_wp2_with fail
          refine (wrt.put_any (wc.heap.size + 1) wc.heap.size _ yv (by omega) 1 (.inl rfl) _ HBLD.out (by omega)).mono ?_
          rintro x w4 ⟨rfl, hb4, hk4⟩
          have HBX4 := Lib.hid ((hk4.block w.heap.size (heap_lt HBX.out) (by omega) (.inl (by omega))).trans HBX.out)
          have HBR4 := Lib.hid (HBR.out.trans (hk4.below (by omega) (by omega) HBR.out.size) : Below w.heap.size w w4)
          have HBLD4 := Lib.hid hb4
          clear hb4 hk4 c0 c1 c2 c3 c4 c5 c6 c7 c8 c9 c10 HBX HBR HBLD
          have c0 : w4.cell? ⟨w.heap.size, 0, none⟩ = some (.int .i64 k) := Lib.cell_of_heap HBX4.out 0
          have c1 : w4.cell? ⟨w.heap.size, 1, none⟩ = some (.int .i64 f) := Lib.cell_of_heap HBX4.out 1
          have c2 : w4.cell? ⟨w.heap.size, 2, none⟩ = some (.int .i64 o) := Lib.cell_of_heap HBX4.out 2
          have c3 : w4.cell? ⟨w.heap.size, 3, none⟩ = some (.int .u64 t) := Lib.cell_of_heap HBX4.out 3
          have c4 : w4.cell? ⟨w.heap.size, 4, none⟩ = some (.int .u64 i) := Lib.cell_of_heap HBX4.out 4
          have c5 : w4.cell? ⟨w.heap.size, 5, none⟩ = some (.int .u64 p) := Lib.cell_of_heap HBX4.out 5
          have c6 : w4.cell? ⟨w.heap.size, 6, none⟩ = some (.int .u64 c) := Lib.cell_of_heap HBX4.out 6
          have c7 : w4.cell? ⟨w.heap.size, 7, none⟩ = some (.int .u64 mk) := Lib.cell_of_heap HBX4.out 7
          have c8 : w4.cell? ⟨w.heap.size, 8, none⟩ = some (.bool yes) := Lib.cell_of_heap HBX4.out 8
          have c9 : w4.cell? ⟨w.heap.size, 9, none⟩ = some (.slice va es.length vc) := Lib.cell_of_heap HBX4.out 9
          have c10 : w4.cell? ⟨w.heap.size, 10, none⟩ = some (.string ⟨sn.toArray⟩) := Lib.cell_of_heap HBX4.out 10
          go_wp2_with fail
          refine (wrt.put_any (wc.heap.size + 1) wc.heap.size _ es.length (by omega) 1 (.inl rfl) _ HBLD4.out (by rw [List.length_append, fixL_length]; omega)).mono ?_
          rintro x w5 ⟨rfl, hb5, hk5⟩
          have HBX5 := Lib.hid ((hk5.block w.heap.size (heap_lt HBX4.out) (by omega) (.inl (by omega))).trans HBX4.out)
          have HBR5 := Lib.hid (HBR4.out.trans (hk5.below (by omega) (by omega) HBR4.out.size) : Below w.heap.size w w5)
          generalize hR : Q ++ fixL 1 yv ++ fixL 1 es.length = R at *
          have hRl : R.length = 45 := by rw [← hR]; simp [fixL_length, hl8]
          have HBLD5 := Lib.hid hb5
          clear hb5 hk5 c0 c1 c2 c3 c4 c5 c6 c7 c8 c9 c10 HBX4 HBR4 HBLD4
          have c0 : w5.cell? ⟨w.heap.size, 0, none⟩ = some (.int .i64 k) := Lib.cell_of_heap HBX5.out 0
          have c1 : w5.cell? ⟨w.heap.size, 1, none⟩ = some (.int .i64 f) := Lib.cell_of_heap HBX5.out 1
          have c2 : w5.cell? ⟨w.heap.size, 2, none⟩ = some (.int .i64 o) := Lib.cell_of_heap HBX5.out 2
          have c3 : w5.cell? ⟨w.heap.size, 3, none⟩ = some (.int .u64 t) := Lib.cell_of_heap HBX5.out 3
          have c4 : w5.cell? ⟨w.heap.size, 4, none⟩ = some (.int .u64 i) := Lib.cell_of_heap HBX5.out 4
          have c5 : w5.cell? ⟨w.heap.size, 5, none⟩ = some (.int .u64 p) := Lib.cell_of_heap HBX5.out 5
          have c6 : w5.cell? ⟨w.heap.size, 6, none⟩ = some (.int .u64 c) := Lib.cell_of_heap HBX5.out 6
          have c7 : w5.cell? ⟨w.heap.size, 7, none⟩ = some (.int .u64 mk) := Lib.cell_of_heap HBX5.out 7
          have c8 : w5.cell? ⟨w.heap.size, 8, none⟩ = some (.bool yes) := Lib.cell_of_heap HBX5.out 8
          have c9 : w5.cell? ⟨w.heap.size, 9, none⟩ = some (.slice va es.length vc) := Lib.cell_of_heap HBX5.out 9
          have c10 : w5.cell? ⟨w.heap.size, 10, none⟩ = some (.string ⟨sn.toArray⟩) := Lib.cell_of_heap HBX5.out 10
          go_wp2_with fail
          clear c0 c1 c2 c3 c4 c5 c6 c7 c8 c9 c10
          go_loopw [11, 12, 13, 69] (fun y1 y2 y3 ix wz => ∃ (j : Nat), j ≤ es.length ∧ ix = .int .i64 j ∧ wrt.Bld (wc.heap.size + 1) wc.heap.size (Lib.byteCells (R ++ (es.take j).flatMap putF)) wz ∧ wz.heap[w.heap.size]? = some (.cells #[.int .i64 k, .int .i64 f, .int .i64 o, .int .u64 t, .int .u64 i, .int .u64 p, .int .u64 c, .int .u64 mk, .bool yes, .slice va es.length vc, .string ⟨sn.toArray⟩] MsgT (0, 0)) ∧ Below w.heap.size w wz) (fun y1 y2 y3 ix _ => es.length - (intOf ix).toNat)
          case atStart => exact ⟨0, Nat.zero_le _, rfl, by rw [List.take_zero, List.flatMap_nil, List.append_nil]; exact HBLD5.out, HBX5.out, HBR5.out⟩
          case round =>
            obtain ⟨j, hj, rfl, hbld, hbx, hbr⟩ := hrel
            clear HBLD5 HBX5 HBR5
            by_cases hlt : j < es.length
            · obtain ⟨va', vc', hv1, _, _, hv4⟩ := HEW.out.below hbr
              obtain ⟨B, o2, hv5, hB, hEl⟩ := hv4 (fun h0 => by rw [h0] at hlt; exact absurd hlt (Nat.not_lt_zero _))
              cases hv1
              subst hv5
              have hel := hEl j hlt
              obtain ⟨hsm, hrt, hlv1⟩ := HES.out _ (List.getElem_mem hlt)
              have hsnoc : (es.take (j + 1)).flatMap putF = (es.take j).flatMap putF ++ putF es[j] := by
                rw [List.take_succ_eq_append_getElem hlt, List.flatMap_append]; simp
              have hlenk : ((es.take j).flatMap putF).length + (putF es[j]).length ≤ 1100 := by
                have h1 := flatF_len (es.take (j + 1)) (fun x hx => (HES.out x (List.mem_of_mem_take hx)).1)
                rw [hsnoc, List.length_append, List.length_take] at h1
                omega
              have hput := fun W => firstPut_any es[j] hsm hrt hlv1 W
              have HSN := Lib.hid hsnoc
              have HBR := Lib.hid hbr
              have HBX := Lib.hid hbx
              have HBLD := Lib.hid hbld
              have hbs := hbr.size
              have hbxl := heap_lt hbx
              have hbl2 := hbld.2.1
              clear hsnoc hEl hsm hrt hlv1 hbr hbld hbx hv4
              generalize putF es[j] = z at *
              generalize es[j] = y at *
              obtain ⟨y0, y1, y2, y3, y4, y5, y6, y7, y8, y9, y10⟩ := y
              simp only [Ent.val, Ent.cells] at hput
              have HPUT := Lib.hid hput
              clear hput
              obtain ⟨a0, a1, a2, a3, a4, a5, a6, a7, a8, a9, a10⟩ := hel
              simp only at a0 a1 a2 a3 a4 a5 a6 a7 a8 a9 a10
              go_wp2_with fail
              refine (HPUT.out _).mono ?_
              rintro x w6 ⟨rfl, hb6⟩
              have hb6r := ((Below.refl _ _).alloc (Nat.le_refl _) _).trans (hb6.mono (by simp))
              have hb6w := HBR.out.trans (hb6r.mono hbs)
              have hbld6 := HBLD.out.below hb6r
              have hbx6 := (hb6r.block _ hbxl).trans HBX.out
              have HB6 := Lib.hid hb6w
              have HBLD6 := Lib.hid hbld6
              have HBX6 := Lib.hid hbx6
              clear hb6 hb6w hb6r hbld6 hbx6 a0 a1 a2 a3 a4 a5 a6 a7 a8 a9 a10 HBR HBLD HBX
              go_wp2_with fail
              refine (wrt.writeString_any _ _ _ ⟨z.toArray⟩ _ HBLD6.out (by rw [Lib.byteCells_length, List.length_append]; show _ + z.length ≤ _; omega)).mono ?_
              rintro x w7 ⟨rfl, hbld7, hk7⟩
              have hb7 : Below w.heap.size w w7 := HB6.out.trans (hk7.below (by omega) (by omega) HB6.out.size)
              rw [show Lib.strCells ⟨z.toArray⟩ = Lib.byteCells z from rfl, ← wrt.byteCells_append, List.append_assoc, ← HSN.out] at hbld7
              have hbx7 := (hk7.block w.heap.size (heap_lt HBX6.out) (by omega) (.inl (by omega))).trans HBX6.out
              have H1 := Lib.hid hbld7
              have H2 := Lib.hid hbx7
              have H3 := Lib.hid hb7
              clear hbld7 hbx7 hb7 hk7
              go_wp2_with fail
              go_roundw
              case rel => exact ⟨j + 1, by omega, by go_num, H1.out, H2.out, H3.out⟩
              case measure => simp [intOf]; omega
            · obtain rfl : j = es.length := by omega
              rw [List.take_length] at hbld
              have hfl := flatF_len es (fun x hx => (HES.out x hx).1)
              have hl9 : (R ++ es.flatMap putF).length ≤ 1200 := by rw [List.length_append]; omega
              have hl9p : 0 < (R ++ es.flatMap putF).length := by rw [List.length_append]; omega
              generalize hZ : R ++ es.flatMap putF = Z at *
              have HBLD := Lib.hid hbld
              have HBX := Lib.hid hbx
              have HBR := Lib.hid hbr
              clear hbld hbx hbr
              have c0 : wr.cell? ⟨w.heap.size, 0, none⟩ = some (.int .i64 k) := Lib.cell_of_heap HBX.out 0
              have c1 : wr.cell? ⟨w.heap.size, 1, none⟩ = some (.int .i64 f) := Lib.cell_of_heap HBX.out 1
              have c2 : wr.cell? ⟨w.heap.size, 2, none⟩ = some (.int .i64 o) := Lib.cell_of_heap HBX.out 2
              have c3 : wr.cell? ⟨w.heap.size, 3, none⟩ = some (.int .u64 t) := Lib.cell_of_heap HBX.out 3
              have c4 : wr.cell? ⟨w.heap.size, 4, none⟩ = some (.int .u64 i) := Lib.cell_of_heap HBX.out 4
              have c5 : wr.cell? ⟨w.heap.size, 5, none⟩ = some (.int .u64 p) := Lib.cell_of_heap HBX.out 5
              have c6 : wr.cell? ⟨w.heap.size, 6, none⟩ = some (.int .u64 c) := Lib.cell_of_heap HBX.out 6
              have c7 : wr.cell? ⟨w.heap.size, 7, none⟩ = some (.int .u64 mk) := Lib.cell_of_heap HBX.out 7
              have c8 : wr.cell? ⟨w.heap.size, 8, none⟩ = some (.bool yes) := Lib.cell_of_heap HBX.out 8
              have c9 : wr.cell? ⟨w.heap.size, 9, none⟩ = some (.slice va es.length vc) := Lib.cell_of_heap HBX.out 9
              have c10 : wr.cell? ⟨w.heap.size, 10, none⟩ = some (.string ⟨sn.toArray⟩) := Lib.cell_of_heap HBX.out 10
              go_wp2_with fail
              refine (wrt.put_any (wc.heap.size + 1) wc.heap.size _ sn.length (by omega) 4 (.inr (.inl rfl)) _ HBLD.out (by omega)).mono ?_
              rintro x w6 ⟨rfl, hb6, hk6⟩
              have HBX6 := Lib.hid ((hk6.block w.heap.size (heap_lt HBX.out) (by omega) (.inl (by omega))).trans HBX.out)
              have HBR6 := Lib.hid (HBR.out.trans (hk6.below (by omega) (by omega) HBR.out.size) : Below w.heap.size w w6)
              have HBLD6 := Lib.hid hb6
              clear hb6 hk6 c0 c1 c2 c3 c4 c5 c6 c7 c8 c9 c10 HBX HBR HBLD
              have c0 : w6.cell? ⟨w.heap.size, 0, none⟩ = some (.int .i64 k) := Lib.cell_of_heap HBX6.out 0
              have c1 : w6.cell? ⟨w.heap.size, 1, none⟩ = some (.int .i64 f) := Lib.cell_of_heap HBX6.out 1
              have c2 : w6.cell? ⟨w.heap.size, 2, none⟩ = some (.int .i64 o) := Lib.cell_of_heap HBX6.out 2
              have c3 : w6.cell? ⟨w.heap.size, 3, none⟩ = some (.int .u64 t) := Lib.cell_of_heap HBX6.out 3
              have c4 : w6.cell? ⟨w.heap.size, 4, none⟩ = some (.int .u64 i) := Lib.cell_of_heap HBX6.out 4
              have c5 : w6.cell? ⟨w.heap.size, 5, none⟩ = some (.int .u64 p) := Lib.cell_of_heap HBX6.out 5
              have c6 : w6.cell? ⟨w.heap.size, 6, none⟩ = some (.int .u64 c) := Lib.cell_of_heap HBX6.out 6
              have c7 : w6.cell? ⟨w.heap.size, 7, none⟩ = some (.int .u64 mk) := Lib.cell_of_heap HBX6.out 7
              have c8 : w6.cell? ⟨w.heap.size, 8, none⟩ = some (.bool yes) := Lib.cell_of_heap HBX6.out 8
              have c9 : w6.cell? ⟨w.heap.size, 9, none⟩ = some (.slice va es.length vc) := Lib.cell_of_heap HBX6.out 9
              have c10 : w6.cell? ⟨w.heap.size, 10, none⟩ = some (.string ⟨sn.toArray⟩) := Lib.cell_of_heap HBX6.out 10
              go_wp2_with fail
              refine (wrt.writeString_any _ _ _ ⟨sn.toArray⟩ _ HBLD6.out (by rw [Lib.byteCells_length, List.length_append, fixL_length]; show _ + sn.length ≤ _; omega)).mono ?_
              rintro x w7 ⟨rfl, hbld7, hk7⟩
              have hb7 : Below w.heap.size w w7 := HBR6.out.trans (hk7.below (by omega) (by omega) HBR6.out.size)
              rw [show Lib.strCells ⟨sn.toArray⟩ = Lib.byteCells sn from rfl, ← wrt.byteCells_append] at hbld7
              have hne : Z ++ fixL 4 sn.length ++ sn ≠ [] := fun h0 => by
                have := congrArg List.length h0
                rw [List.length_append, List.length_append, List.length_nil] at this
                omega
              have HSTR := Lib.hid (wrt.string_any (wc.heap.size + 1) wc.heap.size _ w7 hbld7 hne)
              have HB7 := Lib.hid hb7
              clear hbld7 hk7 hb7 c0 c1 c2 c3 c4 c5 c6 c7 c8 c9 c10 HBX6 HBR6 HBLD6
              go_wp2_with fail
              refine HSTR.out.mono ?_
              rintro x w8 ⟨rfl, hb8⟩
              go_wp2_with fail
              go_ret2
              refine ⟨?_, HB7.out.trans (hb8.mono (by omega))⟩
              rw [HANS.out, ← hZ, ← hR, ← hQ]
              simp only [List.append_assoc]
              rfl

theorem firstPutMsg_any (m : Msg) (h : SmallM m) (hr : msgRightB m = true) (hl : msgLevelI m = 1) (sv : Value) (w : World) (hs : EntsAt w sv m.entries) :
    Calls Tryz.prog 24 #[.agg (m.cells sv)] w fun x w' => x = .returned (.tuple #[.string ⟨(putFM m).toArray⟩, .bool true]) ∧ Below w.heap.size w w' := by
  obtain ⟨va, vc, rfl, hs2, hs3, hs4⟩ := id hs
  have hlev := level_ents m hl
  obtain ⟨⟨a0, a1⟩, ⟨b0, b1⟩, ⟨c0, c1⟩, ⟨d0, d1⟩, ⟨e0, e1⟩, ⟨f0, f1⟩, ⟨g0, g1⟩, ⟨i0, i1⟩, hsn, hcn, he⟩ := h
  have hm : m = ⟨(m.kind.toNat : Nat), (m.frm.toNat : Nat), (m.to.toNat : Nat), (m.term.toNat : Nat), (m.index.toNat : Nat), (m.prev.toNat : Nat), (m.commit.toNat : Nat), (m.mark.toNat : Nat), m.ok, ⟨m.snap.data.toList.toArray⟩, m.entries⟩ := by
    rw [Int.toNat_of_nonneg (show 0 ≤ m.kind by omega), Int.toNat_of_nonneg (show 0 ≤ m.frm by omega), Int.toNat_of_nonneg (show 0 ≤ m.to by omega), Int.toNat_of_nonneg d0, Int.toNat_of_nonneg e0, Int.toNat_of_nonneg f0, Int.toNat_of_nonneg g0, Int.toNat_of_nonneg i0]
  have hsl : m.snap.data.toList.length ≤ 200 := hsn
  have hr2 := hr
  have hl2 := hl
  rw [hm] at hr2 hl2
  have hput := firstPutMsg_nat m.kind.toNat m.frm.toNat m.to.toNat m.term.toNat m.index.toNat m.prev.toNat m.commit.toNat m.mark.toNat m.ok m.snap.data.toList m.entries va vc (by omega) (by omega) (by omega) (by omega) (by omega) (by omega) (by omega) (by omega) hsl hcn (fun e hm => ⟨(he e hm).1, (he e hm).2, hlev e hm⟩) hr2 hl2 w hs
  have hv : (.agg (m.cells (.slice va m.entries.length vc)) : Value) = .agg #[.int .i64 (m.kind.toNat : Nat), .int .i64 (m.frm.toNat : Nat), .int .i64 (m.to.toNat : Nat), .int .u64 (m.term.toNat : Nat), .int .u64 (m.index.toNat : Nat), .int .u64 (m.prev.toNat : Nat), .int .u64 (m.commit.toNat : Nat), .int .u64 (m.mark.toNat : Nat), .bool m.ok, .slice va m.entries.length vc, .string ⟨m.snap.data.toList.toArray⟩] := by
    conv => lhs; rw [hm]
    rfl
  have hp : putFM m = [m.kind.toNat, m.frm.toNat, m.to.toNat].flatMap (fixL 1) ++ ([m.term.toNat, m.index.toNat, m.prev.toNat, m.commit.toNat, m.mark.toNat].flatMap (fixL 8) ++ (fixL 1 (if m.ok then 1 else 0) ++ (fixL 1 m.entries.length ++ (m.entries.flatMap putF ++ (fixL 4 m.snap.data.toList.length ++ m.snap.data.toList))))) := by
    have hdl : m.snap.data.toList.length = m.snap.size := rfl
    rw [hdl]
    simp only [putFM, List.flatMap_cons, List.flatMap_nil, List.append_nil, List.append_assoc]
  rw [hv, hp]
  exact hput

end Go.Proofs.YtbjbgdnjcppjhaaGreatDoor

/-
  first.GetMsg over this translation: the message of bytes. Condition: at most 2^40 bytes. (Printed by wip/genfirgetm.py.) By an AI agent.
-/
namespace Go.Proofs.YtbjbgdnjcppjhaaGreatDoor
open Go.RowKit Go.Sort
set_option linter.unusedVariables false
set_option linter.unusedSimpArgs false

theorem But.belowM {b n : Nat} {w w' : World} (h : But b w w') (hb : n ≤ b) (hn : n ≤ w.heap.size) : Below n w w' :=
  ⟨h.os, h.tape, h.output, h.size, fun k hk => h.block k (by omega) (fun h => by have := Option.some.inj h; omega)⟩
/-- what stands while a message is read -/
structure GetMSt (b z N : Nat) (w U : World) (r : Rd) : Prop where
  rd : RdAt U b r
  fn : U.cell? ⟨N, 0, none⟩ = some (fixV b)
  zero : U.heap[z]? = some (.cells (Msg.none.cells (.slice none 0 0)) MsgT (0, 0))
  below : Below z w U
  size : N < U.heap.size
theorem GetMSt.next {b z N : Nat} {w U U' : World} {r r' : Rd} (h : GetMSt b z N w U r) (hz : z < b) (hN : b < N) (hr : RdAt U' b r') (hb : But b U U') : GetMSt b z N w U' r' :=
  ⟨hr, (World.cell?_of_block (w := U) (a := ⟨N, 0, none⟩) (hb.block N h.size (fun h => by have := Option.some.inj h; omega))).trans h.fn,
   (hb.block z (by have := h.size; omega) (fun h => by have := Option.some.inj h; omega)).trans h.zero, h.below.trans (hb.belowM (Nat.le_of_lt hz) (by have := h.size; omega)), Nat.lt_of_lt_of_le h.size hb.size⟩
theorem GetMSt.keep {b z N : Nat} {w U U' : World} {r : Rd} (h : GetMSt b z N w U r) (hz : z < b) (hN : b < N) (hb : Below U.heap.size U U') : GetMSt b z N w U' r :=
  h.next hz hN (h.rd.keep hb) (But.of hb)
theorem GetMSt.own {b z N n0 : Nat} {w U U' : World} {r : Rd} (h : GetMSt b z N w U r) (hz : z < b) (hN : b < N) (hn : N < n0) (hb : Below n0 U U') : GetMSt b z N w U' r :=
  ⟨(hb.block b (by omega)).trans h.rd, (World.cell?_of_block (w := U) (a := ⟨N, 0, none⟩) (hb.block N hn)).trans h.fn, (hb.block z (by omega)).trans h.zero, h.below.trans (hb.mono (by omega)), Nat.lt_of_lt_of_le h.size hb.size⟩
theorem GetMSt.alloc {b z N : Nat} {w U : World} {r : Rd} (h : GetMSt b z N w U r) (hz : z < b) (hN : b < N) (o : Obj) : GetMSt b z N w (U.alloc o) r :=
  h.keep hz hN ((Below.refl _ _).alloc (Nat.le_refl _) o)
theorem GetMSt.set {b z N c o : Nat} {w U : World} {r : Rd} {v : Value} (h : GetMSt b z N w U r) (hz : z < b) (hN : b < N) (hc : N < c) : GetMSt b z N w (U.setCell ⟨c, o, none⟩ v) r := by
  have hne2 : c ≠ N := by omega
  have hne3 : c ≠ z := by omega
  refine ⟨fir_rd h.rd (by omega), ?_, ?_, h.below.setCell (by show z ≤ c; omega) _, by have := h.size; simpa [World.setCell] using this⟩
  · rw [World.cell?_setCell_far _ _ _ _ hne2]
    exact h.fn
  · have := h.zero
    simp [World.setCell, Array.getElem?_modify, hne3, this]

/-- the closure small -/
abbrev smallMV (N : Nat) : Value := .func (.func 59) #[] #[.pointer (some ⟨N, 0, none⟩)]
def getMAct (ss : ByteArray) (b z N : Nat) (val : Nat → Value) (k : Nat) (v7 : Value) : Act :=
  { tmps := #[.string ss, undef, .pointer (some ⟨z, 0, none⟩), .bool false, .pointer (some ⟨b, 0, none⟩), .pointer (some ⟨N, 0, none⟩), smallMV N, v7, undef, .string ss, .pointer (some ⟨b, 0, none⟩), .pointer (some ⟨b, 0, none⟩), fixV b, smallMV N, smallMV N, if 0 < k then val 0 else undef, smallMV N, if 1 < k then val 1 else undef, smallMV N, if 2 < k then val 2 else undef, fixV b, if 3 < k then val 3 else undef, fixV b, if 4 < k then val 4 else undef, fixV b, if 5 < k then val 5 else undef, fixV b, if 6 < k then val 6 else undef, fixV b, if 7 < k then val 7 else undef, if 8 < k then val 8 else undef, undef, undef, undef, undef, undef, undef, undef, undef, undef, undef, undef, undef, undef, undef, undef, undef, undef, undef, undef, undef, undef, undef, undef, undef, undef, undef, undef, undef, undef, undef, undef, undef, undef, undef, undef, undef, undef, undef, undef, undef, undef, undef, undef, undef, undef, undef, undef, undef, undef, undef], defers := [] }
/-- what stands behind k operations of the region, the box laid or not -/
structure GMInv (ss : ByteArray) (b z N : Nat) (w0 : World) (val : Nat → Value) (m : Msg) (rs : Nat → Rd) (k : Nat) (d : Bool) (a : Act) (w : World) : Prop where
  act : ∃ v7, a = getMAct ss b z N val k v7 ∧ (d = true → ∃ c, v7 = .pointer (some ⟨c, 0, none⟩) ∧ N < c ∧ w.heap[c]? = some (.cells (if k < 10 then Msg.none.cells (.slice none 0 0) else m.cells (.slice none 0 0)) MsgT (0, 0)))
  st : GetMSt b z N w0 w (rs (min k 8))
  lt : d = false → k < 10

set_option maxRecDepth 100000 in
set_option maxHeartbeats 16000000 in
theorem firstGetMsg_any (s : List UInt8) (hl : s.length ≤ 1099511627776) (w : World) :
    Calls Tryz.prog 26 #[.string ⟨s.toArray⟩] w fun x w' => ∃ m sv, x = .returned (.tuple #[.agg (m.cells sv), .bool (gotF s)]) ∧ (gotF s = true → m = (getFM s).1.1) ∧ (gotF s = false → m = Msg.none) ∧ EntsAt w' sv m.entries ∧ Below w.heap.size w w' := by
  obtain ⟨r, hr⟩ : ∃ r : Rd, r = (s, false) := ⟨_, rfl⟩
  have hl : r.1.length ≤ 1099511627776 := by rw [hr]; exact hl
  obtain ⟨⟨vk, r1⟩, h0⟩ : ∃ x, x = rdFix 1 r := ⟨_, rfl⟩
  have l0 : r1.1.length ≤ 1099511627776 := by
    have := (fine_fix 1).shrink r
    rw [← h0] at this
    exact Nat.le_trans this hl
  have v0 : vk < 256 ^ 1 := by
    have := rdFix_lt 1 r
    rw [← h0] at this
    exact this
  have C0 : ∀ N W, RdAt W (w.heap.size + 1) r → W.cell? ⟨N, 0, none⟩ = some (fixV (w.heap.size + 1)) → Calls Tryz.prog 59 #[.pointer (some ⟨N, 0, none⟩)] W fun x W' => x = .returned (.int .i64 vk) ∧ RdAt W' (w.heap.size + 1) r1 ∧ But (w.heap.size + 1) W W' := fun N W hW hc => by
    have := smallM_any (w.heap.size + 1) N r hl W hW hc
    rw [← h0] at this
    exact this
  obtain ⟨⟨vf, r2⟩, h1⟩ : ∃ x, x = rdFix 1 r1 := ⟨_, rfl⟩
  have l1 : r2.1.length ≤ 1099511627776 := by
    have := (fine_fix 1).shrink r1
    rw [← h1] at this
    exact Nat.le_trans this l0
  have v1 : vf < 256 ^ 1 := by
    have := rdFix_lt 1 r1
    rw [← h1] at this
    exact this
  have C1 : ∀ N W, RdAt W (w.heap.size + 1) r1 → W.cell? ⟨N, 0, none⟩ = some (fixV (w.heap.size + 1)) → Calls Tryz.prog 59 #[.pointer (some ⟨N, 0, none⟩)] W fun x W' => x = .returned (.int .i64 vf) ∧ RdAt W' (w.heap.size + 1) r2 ∧ But (w.heap.size + 1) W W' := fun N W hW hc => by
    have := smallM_any (w.heap.size + 1) N r1 l0 W hW hc
    rw [← h1] at this
    exact this
  obtain ⟨⟨vo, r3⟩, h2⟩ : ∃ x, x = rdFix 1 r2 := ⟨_, rfl⟩
  have l2 : r3.1.length ≤ 1099511627776 := by
    have := (fine_fix 1).shrink r2
    rw [← h2] at this
    exact Nat.le_trans this l1
  have v2 : vo < 256 ^ 1 := by
    have := rdFix_lt 1 r2
    rw [← h2] at this
    exact this
  have C2 : ∀ N W, RdAt W (w.heap.size + 1) r2 → W.cell? ⟨N, 0, none⟩ = some (fixV (w.heap.size + 1)) → Calls Tryz.prog 59 #[.pointer (some ⟨N, 0, none⟩)] W fun x W' => x = .returned (.int .i64 vo) ∧ RdAt W' (w.heap.size + 1) r3 ∧ But (w.heap.size + 1) W W' := fun N W hW hc => by
    have := smallM_any (w.heap.size + 1) N r2 l1 W hW hc
    rw [← h2] at this
    exact this
  obtain ⟨⟨vt, r4⟩, h3⟩ : ∃ x, x = rdFix 8 r3 := ⟨_, rfl⟩
  have l3 : r4.1.length ≤ 1099511627776 := by
    have := (fine_fix 8).shrink r3
    rw [← h3] at this
    exact Nat.le_trans this l2
  have v3 : vt < 256 ^ 8 := by
    have := rdFix_lt 8 r3
    rw [← h3] at this
    exact this
  have C3 : ∀ W, RdAt W (w.heap.size + 1) r3 → Calls Tryz.prog 54 #[.pointer (some ⟨w.heap.size + 1, 0, none⟩), .int .i64 8] W fun x W' => x = .returned (.int .u64 vt) ∧ RdAt W' (w.heap.size + 1) r4 ∧ But (w.heap.size + 1) W W' := fun W hW => by
    have := fixedRd_any (w.heap.size + 1) 8 r3 (by decide) l2 W hW
    rw [← h3] at this
    exact this
  obtain ⟨⟨vi, r5⟩, h4⟩ : ∃ x, x = rdFix 8 r4 := ⟨_, rfl⟩
  have l4 : r5.1.length ≤ 1099511627776 := by
    have := (fine_fix 8).shrink r4
    rw [← h4] at this
    exact Nat.le_trans this l3
  have v4 : vi < 256 ^ 8 := by
    have := rdFix_lt 8 r4
    rw [← h4] at this
    exact this
  have C4 : ∀ W, RdAt W (w.heap.size + 1) r4 → Calls Tryz.prog 54 #[.pointer (some ⟨w.heap.size + 1, 0, none⟩), .int .i64 8] W fun x W' => x = .returned (.int .u64 vi) ∧ RdAt W' (w.heap.size + 1) r5 ∧ But (w.heap.size + 1) W W' := fun W hW => by
    have := fixedRd_any (w.heap.size + 1) 8 r4 (by decide) l3 W hW
    rw [← h4] at this
    exact this
  obtain ⟨⟨vp, r6⟩, h5⟩ : ∃ x, x = rdFix 8 r5 := ⟨_, rfl⟩
  have l5 : r6.1.length ≤ 1099511627776 := by
    have := (fine_fix 8).shrink r5
    rw [← h5] at this
    exact Nat.le_trans this l4
  have v5 : vp < 256 ^ 8 := by
    have := rdFix_lt 8 r5
    rw [← h5] at this
    exact this
  have C5 : ∀ W, RdAt W (w.heap.size + 1) r5 → Calls Tryz.prog 54 #[.pointer (some ⟨w.heap.size + 1, 0, none⟩), .int .i64 8] W fun x W' => x = .returned (.int .u64 vp) ∧ RdAt W' (w.heap.size + 1) r6 ∧ But (w.heap.size + 1) W W' := fun W hW => by
    have := fixedRd_any (w.heap.size + 1) 8 r5 (by decide) l4 W hW
    rw [← h5] at this
    exact this
  obtain ⟨⟨vc, r7⟩, h6⟩ : ∃ x, x = rdFix 8 r6 := ⟨_, rfl⟩
  have l6 : r7.1.length ≤ 1099511627776 := by
    have := (fine_fix 8).shrink r6
    rw [← h6] at this
    exact Nat.le_trans this l5
  have v6 : vc < 256 ^ 8 := by
    have := rdFix_lt 8 r6
    rw [← h6] at this
    exact this
  have C6 : ∀ W, RdAt W (w.heap.size + 1) r6 → Calls Tryz.prog 54 #[.pointer (some ⟨w.heap.size + 1, 0, none⟩), .int .i64 8] W fun x W' => x = .returned (.int .u64 vc) ∧ RdAt W' (w.heap.size + 1) r7 ∧ But (w.heap.size + 1) W W' := fun W hW => by
    have := fixedRd_any (w.heap.size + 1) 8 r6 (by decide) l5 W hW
    rw [← h6] at this
    exact this
  obtain ⟨⟨vm, r8⟩, h7⟩ : ∃ x, x = rdFix 8 r7 := ⟨_, rfl⟩
  have l7 : r8.1.length ≤ 1099511627776 := by
    have := (fine_fix 8).shrink r7
    rw [← h7] at this
    exact Nat.le_trans this l6
  have v7 : vm < 256 ^ 8 := by
    have := rdFix_lt 8 r7
    rw [← h7] at this
    exact this
  have C7 : ∀ W, RdAt W (w.heap.size + 1) r7 → Calls Tryz.prog 54 #[.pointer (some ⟨w.heap.size + 1, 0, none⟩), .int .i64 8] W fun x W' => x = .returned (.int .u64 vm) ∧ RdAt W' (w.heap.size + 1) r8 ∧ But (w.heap.size + 1) W W' := fun W hW => by
    have := fixedRd_any (w.heap.size + 1) 8 r7 (by decide) l6 W hW
    rw [← h7] at this
    exact this
  obtain ⟨⟨vy, r9⟩, h8⟩ : ∃ x, x = rdFix 1 r8 := ⟨_, rfl⟩
  have l8 : r9.1.length ≤ 1099511627776 := by
    have := (fine_fix 1).shrink r8
    rw [← h8] at this
    exact Nat.le_trans this l7
  have v8 : vy < 256 ^ 1 := by
    have := rdFix_lt 1 r8
    rw [← h8] at this
    exact this
  have C8 : ∀ N W, RdAt W (w.heap.size + 1) r8 → W.cell? ⟨N, 0, none⟩ = some (fixV (w.heap.size + 1)) → Calls Tryz.prog 59 #[.pointer (some ⟨N, 0, none⟩)] W fun x W' => x = .returned (.int .i64 vy) ∧ RdAt W' (w.heap.size + 1) r9 ∧ But (w.heap.size + 1) W W' := fun N W hW hc => by
    have := smallM_any (w.heap.size + 1) N r8 l7 W hW hc
    rw [← h8] at this
    exact this
  obtain ⟨⟨vn, r10⟩, h9⟩ : ∃ x, x = rdFix 1 r9 := ⟨_, rfl⟩
  have l9 : r10.1.length ≤ 1099511627776 := by
    have := (fine_fix 1).shrink r9
    rw [← h9] at this
    exact Nat.le_trans this l8
  have v9 : vn < 256 ^ 1 := by
    have := rdFix_lt 1 r9
    rw [← h9] at this
    exact this
  have C9 : ∀ N W, RdAt W (w.heap.size + 1) r9 → W.cell? ⟨N, 0, none⟩ = some (fixV (w.heap.size + 1)) → Calls Tryz.prog 59 #[.pointer (some ⟨N, 0, none⟩)] W fun x W' => x = .returned (.int .i64 vn) ∧ RdAt W' (w.heap.size + 1) r10 ∧ But (w.heap.size + 1) W W' := fun N W hW hc => by
    have := smallM_any (w.heap.size + 1) N r9 l8 W hW hc
    rw [← h9] at this
    exact this
  obtain ⟨⟨es, r11⟩, h10⟩ : ∃ x, x = entsR vn r10 := ⟨_, rfl⟩
  have l10 : r11.1.length ≤ 1099511627776 := by
    have := (entsR_fine vn).shrink r10
    rw [← h10] at this
    exact Nat.le_trans this l9
  obtain ⟨⟨v4, r12⟩, h11⟩ : ∃ x, x = rdFix 4 r11 := ⟨_, rfl⟩
  have l11 : r12.1.length ≤ 1099511627776 := by
    have := (fine_fix 4).shrink r11
    rw [← h11] at this
    exact Nat.le_trans this l10
  have v11 : v4 < 256 ^ 4 := by
    have := rdFix_lt 4 r11
    rw [← h11] at this
    exact this
  have C11 : ∀ W, RdAt W (w.heap.size + 1) r11 → Calls Tryz.prog 54 #[.pointer (some ⟨w.heap.size + 1, 0, none⟩), .int .i64 4] W fun x W' => x = .returned (.int .u64 v4) ∧ RdAt W' (w.heap.size + 1) r12 ∧ But (w.heap.size + 1) W W' := fun W hW => by
    have := fixedRd_any (w.heap.size + 1) 4 r11 (by decide) l10 W hW
    rw [← h11] at this
    exact this
  simp only [show (256 : Nat) ^ 1 = 256 from rfl, show (256 : Nat) ^ 8 = 18446744073709551616 from rfl, show (256 : Nat) ^ 4 = 4294967296 from rfl] at v0 v1 v2 v3 v4 v5 v6 v7 v8 v9 v11
  obtain ⟨⟨sn, r13⟩, h12⟩ : ∃ x, x = rdBytes v4 r12 := ⟨_, rfl⟩
  have C12 : ∀ W, RdAt W (w.heap.size + 1) r12 → Calls Tryz.prog 56 #[.pointer (some ⟨w.heap.size + 1, 0, none⟩), .int .i64 v4] W fun x W' => x = .returned (.string ⟨sn.toArray⟩) ∧ RdAt W' (w.heap.size + 1) r13 ∧ But (w.heap.size + 1) W W' := fun W hW => by
    have := bytes_any (w.heap.size + 1) v4 r12 (by omega) (by omega) W hW
    rw [← h12] at this
    exact this
  have hm : getFM s = ((⟨(vk : Int), (vf : Int), (vo : Int), (vt : Int), (vi : Int), (vp : Int), (vc : Int), (vm : Int), vy == 1, ⟨sn.toArray⟩, es⟩, vy), r13) := by
    unfold getFM msgF bindR pureR
    rw [← hr]
    simp only [← h0, ← h1, ← h2, ← h3, ← h4, ← h5, ← h6, ← h7, ← h8, ← h9, ← h10, ← h11, ← h12]
  have hgot : gotF s = (!r13.2 && r13.1.isEmpty && !decide (1 < vy) && msgRightB ⟨(vk : Int), (vf : Int), (vo : Int), (vt : Int), (vi : Int), (vp : Int), (vc : Int), (vm : Int), vy == 1, ⟨sn.toArray⟩, es⟩ && !decide (1 < msgLevelI ⟨(vk : Int), (vf : Int), (vo : Int), (vt : Int), (vi : Int), (vp : Int), (vc : Int), (vm : Int), vy == 1, ⟨sn.toArray⟩, es⟩)) := by
    unfold gotF
    rw [hm]
  have hsnl : sn.length ≤ 4294967296 := by
    have := take_len v4 r12
    rw [← h12] at this
    have : sn.length ≤ v4 := this
    omega
  have hcnt : ∀ k, k ≤ vn → (entsR k r10).1.length ≤ 255 := fun k hk => by
    have := entsR_count k r10
    omega
  have hshr : ∀ k, (entsR k r10).2.1.length ≤ 1099511627776 := fun k => Nat.le_trans ((entsR_fine k).shrink r10) l9
  have hcn : es.length ≤ 255 := by
    have := hcnt vn (Nat.le_refl _)
    rw [← h10] at this
    exact this
  have hwf : ∀ e ∈ es, e.wf := fun e he => by
    have := entsR_wf vn r10
    rw [← h10] at this
    exact this e he
  have hright := fun W sv hW => msgRight_any ⟨(vk : Int), (vf : Int), (vo : Int), (vt : Int), (vi : Int), (vp : Int), (vc : Int), (vm : Int), vy == 1, ⟨sn.toArray⟩, es⟩ sv hwf (by show es.length ≤ _; omega) W hW
  have hlevel := fun W sv hW => msgLevel_any ⟨(vk : Int), (vf : Int), (vo : Int), (vt : Int), (vi : Int), (vp : Int), (vc : Int), (vm : Int), vy == 1, ⟨sn.toArray⟩, es⟩ sv (by show es.length ≤ _; omega) W hW
  rw [hm]
  simp only [Msg.cells] at hright hlevel
  generalize gotF s = got at *
  have HGOT0 := Lib.hid hgot
  have HRR := Lib.hid hright
  have HLV := Lib.hid hlevel
  have HENT := Lib.hid h10
  have HCNT := Lib.hid hcnt
  have HSHR := Lib.hid hshr
  have K0 := Lib.hid C0
  have K1 := Lib.hid C1
  have K2 := Lib.hid C2
  have K3 := Lib.hid C3
  have K4 := Lib.hid C4
  have K5 := Lib.hid C5
  have K6 := Lib.hid C6
  have K7 := Lib.hid C7
  have K8 := Lib.hid C8
  have K9 := Lib.hid C9
  have K11 := Lib.hid C11
  have K12 := Lib.hid C12
  clear hgot hright hlevel hm hwf hcnt hshr C0 C1 C2 C3 C4 C5 C6 C7 C8 C9 C11 C12 h0 h1 h2 h3 h4 h5 h6 h7 h8 h9 h10 h11 h12
  go_enter Tryz.func26, Tryz.ntmps26
  go_wp2_with fail
  have ha0 := (Below.refl w.heap.size w).alloc (Nat.le_refl _) (.cells (Msg.none.cells (.slice none 0 0)) MsgT)
  refine (new_any s _).mono ?_
  rintro x w1 ⟨rfl, h1, hb1, hs1⟩
  simp only [World.size_alloc] at h1 hs1
  rw [← hr] at h1
  have hzz : w1.heap[w.heap.size]? = some (.cells (Msg.none.cells (.slice none 0 0)) MsgT (0, 0)) := (hb1.block _ (by simp)).trans (heap_alloc_new w _)
  have H1 := Lib.hid h1
  have HZ1 := Lib.hid hzz
  have HB1 := Lib.hid (ha0.trans (hb1.mono (by simp)) : Below w.heap.size w w1)
  clear h1 hzz hb1 ha0 hr
  go_upto_region 4 with fail
  generalize hN : w1.heap.size = N at *
  go_cut [7] from 14 to 30 (fun s7 wx => ∃ c, s7 = .pointer (some ⟨c, 0, none⟩) ∧ N < c ∧ wx.heap[c]? = some (.cells (Msg.cells ⟨(vk : Int), (vf : Int), (vo : Int), (vt : Int), (vi : Int), (vp : Int), (vc : Int), (vm : Int), false, ⟨#[]⟩, []⟩ (.slice none 0 0)) MsgT (0, 0)) ∧ GetMSt (w.heap.size + 1) w.heap.size N w wx r8)
  case first =>
   go_wp2_with fail
   have hst : GetMSt (w.heap.size + 1) w.heap.size N w (w1.alloc (.cells #[fixV (w.heap.size + 1)] 102)).drew r := by
    have ha := (Below.refl w1.heap.size w1).alloc (Nat.le_refl _) (.cells #[fixV (w.heap.size + 1)] 102)
    have q0 := H1.out.keep ha
    refine ⟨q0, ?_, (Below.heap_alloc _ _ _ (by omega)).trans HZ1.out, ?_, ?_⟩
    · have := heap_alloc_new w1 (.cells #[fixV (w.heap.size + 1)] 102)
      rw [hN] at this
      exact Lib.cell_of_heap this 0
    · have q1 := HB1.out.trans (ha.mono HB1.out.size)
      exact ⟨q1.os, q1.tape, q1.output, q1.size, q1.block⟩
    · show N < (w1.alloc (.cells #[fixV (w.heap.size + 1)] 102)).heap.size
      rw [World.size_alloc]
      omega
   refine region_D (fun u => u.cell? ⟨N, 0, none⟩ = some (fixV (w.heap.size + 1))) [] 19 (by kernel_rfl) (by rfl) ?_
   have hst : GetMSt (w.heap.size + 1) w.heap.size N w (w1.alloc (.cells #[.func (.func 54) #[.pointer (some ⟨w.heap.size + 1, 0, none⟩)] #[]] 102)).drew r := hst
   generalize (w1.alloc (.cells #[.func (.func 54) #[.pointer (some ⟨w.heap.size + 1, 0, none⟩)] #[]] 102)).drew = U0 at *
   have ST0 := Lib.hid hst
   have hS0 := hst.fn
   have hzb : w.heap.size < w.heap.size + 1 := Nat.lt_succ_self _
   have hbN : w.heap.size + 1 < N := by omega
   refine takeD (i := 0) (v := (.func (.func 59) #[] #[.pointer (some ⟨N, 0, none⟩)])) (by rfl) (by kernel_rfl) (fun _ _ _ h => h) (by rfl) (fun u hu => by have hu0 : u.cell? ⟨N, 0, none⟩ = some (.func (.func 54) #[.pointer (some ⟨w.heap.size + 1, 0, none⟩)] #[]) := hu; go_simp) hS0 ?_
   simp only [Act.put, List.setIfInBounds_toArray, List.set_cons_zero, List.set_cons_succ]
   refine takeD (i := 2) (v := (.func (.func 59) #[] #[.pointer (some ⟨N, 0, none⟩)])) (by rfl) (by kernel_rfl) (fun _ _ _ h => h) (by rfl) (fun u hu => by have hu0 : u.cell? ⟨N, 0, none⟩ = some (.func (.func 54) #[.pointer (some ⟨w.heap.size + 1, 0, none⟩)] #[]) := hu; go_simp) hS0 ?_
   simp only [Act.put, List.setIfInBounds_toArray, List.set_cons_zero, List.set_cons_succ]
   refine takeD (i := 4) (v := (.func (.func 59) #[] #[.pointer (some ⟨N, 0, none⟩)])) (by rfl) (by kernel_rfl) (fun _ _ _ h => h) (by rfl) (fun u hu => by have hu0 : u.cell? ⟨N, 0, none⟩ = some (.func (.func 54) #[.pointer (some ⟨w.heap.size + 1, 0, none⟩)] #[]) := hu; go_simp) hS0 ?_
   simp only [Act.put, List.setIfInBounds_toArray, List.set_cons_zero, List.set_cons_succ]
   refine takeD (i := 6) (v := (.func (.func 54) #[.pointer (some ⟨w.heap.size + 1, 0, none⟩)] #[])) (by rfl) (by kernel_rfl) (fun _ _ _ h => h) (by rfl) (fun u hu => by have hu0 : u.cell? ⟨N, 0, none⟩ = some (.func (.func 54) #[.pointer (some ⟨w.heap.size + 1, 0, none⟩)] #[]) := hu; go_simp) hS0 ?_
   simp only [Act.put, List.setIfInBounds_toArray, List.set_cons_zero, List.set_cons_succ]
   refine takeD (i := 8) (v := (.func (.func 54) #[.pointer (some ⟨w.heap.size + 1, 0, none⟩)] #[])) (by rfl) (by kernel_rfl) (fun _ _ _ h => h) (by rfl) (fun u hu => by have hu0 : u.cell? ⟨N, 0, none⟩ = some (.func (.func 54) #[.pointer (some ⟨w.heap.size + 1, 0, none⟩)] #[]) := hu; go_simp) hS0 ?_
   simp only [Act.put, List.setIfInBounds_toArray, List.set_cons_zero, List.set_cons_succ]
   refine takeD (i := 10) (v := (.func (.func 54) #[.pointer (some ⟨w.heap.size + 1, 0, none⟩)] #[])) (by rfl) (by kernel_rfl) (fun _ _ _ h => h) (by rfl) (fun u hu => by have hu0 : u.cell? ⟨N, 0, none⟩ = some (.func (.func 54) #[.pointer (some ⟨w.heap.size + 1, 0, none⟩)] #[]) := hu; go_simp) hS0 ?_
   simp only [Act.put, List.setIfInBounds_toArray, List.set_cons_zero, List.set_cons_succ]
   refine takeD (i := 12) (v := (.func (.func 54) #[.pointer (some ⟨w.heap.size + 1, 0, none⟩)] #[])) (by rfl) (by kernel_rfl) (fun _ _ _ h => h) (by rfl) (fun u hu => by have hu0 : u.cell? ⟨N, 0, none⟩ = some (.func (.func 54) #[.pointer (some ⟨w.heap.size + 1, 0, none⟩)] #[]) := hu; go_simp) hS0 ?_
   simp only [Act.put, List.setIfInBounds_toArray, List.set_cons_zero, List.set_cons_succ]
   refine takeD (i := 14) (v := (.func (.func 54) #[.pointer (some ⟨w.heap.size + 1, 0, none⟩)] #[])) (by rfl) (by kernel_rfl) (fun _ _ _ h => h) (by rfl) (fun u hu => by have hu0 : u.cell? ⟨N, 0, none⟩ = some (.func (.func 54) #[.pointer (some ⟨w.heap.size + 1, 0, none⟩)] #[]) := hu; go_simp) hS0 ?_
   simp only [Act.put, List.setIfInBounds_toArray, List.set_cons_zero, List.set_cons_succ]
   refine chainD (chain := [1, 3, 5, 7, 9, 11, 13, 15, 16, 18]) (A := 17) (base := (((((((((Array.replicate 19 false).setIfInBounds 0 true).setIfInBounds 2 true).setIfInBounds 4 true).setIfInBounds 6 true).setIfInBounds 8 true).setIfInBounds 10 true).setIfInBounds 12 true).setIfInBounds 14 true)) (by kernel_rfl) _ (GMInv ⟨s.toArray⟩ (w.heap.size + 1) w.heap.size N w (fun j => [.int .i64 vk, .int .i64 vf, .int .i64 vo, .int .u64 vt, .int .u64 vi, .int .u64 vp, .int .u64 vc, .int .u64 vm, .agg #[.int .i64 vk, .int .i64 vf, .int .i64 vo, .int .u64 vt, .int .u64 vi, .int .u64 vp, .int .u64 vc, .int .u64 vm, .bool false, .slice none 0 0, .string ⟨#[]⟩]].getD j undef) (⟨vk, vf, vo, vt, vi, vp, vc, vm, false, ⟨#[]⟩, []⟩ : Msg) (fun j => [r, r1, r2, r3, r4, r5, r6, r7, r8].getD j r)) (fun k d a u hi => hi.st.fn) ?hstep ?halloc ?hend 11 0 false _ _ (by rfl) (by decide) ?hinit
   case hinit => exact ⟨⟨undef, rfl, fun h => by cases h⟩, ST0.out, fun _ => by decide⟩
   case hstep =>
    intro k hk d a u hi hready
    have hk10 : k < 10 := hk
    obtain ⟨⟨v7, rfl, hd⟩, st, _⟩ := hi
    match k, hk10, hk, hd, st, hready with
    | 0, _, _, hd, st, _ =>
      have hact : getMAct ⟨s.toArray⟩ (w.heap.size + 1) w.heap.size N (fun j => [.int .i64 vk, .int .i64 vf, .int .i64 vo, .int .u64 vt, .int .u64 vi, .int .u64 vp, .int .u64 vc, .int .u64 vm, .agg #[.int .i64 vk, .int .i64 vf, .int .i64 vo, .int .u64 vt, .int .u64 vi, .int .u64 vp, .int .u64 vc, .int .u64 vm, .bool false, .slice none 0 0, .string ⟨#[]⟩]].getD j undef) 0 v7 = { tmps := #[.string ⟨s.toArray⟩, undef, .pointer (some ⟨w.heap.size, 0, none⟩), .bool false, .pointer (some ⟨w.heap.size + 1, 0, none⟩), .pointer (some ⟨N, 0, none⟩), (.func (.func 59) #[] #[.pointer (some ⟨N, 0, none⟩)]), v7, undef, .string ⟨s.toArray⟩, .pointer (some ⟨w.heap.size + 1, 0, none⟩), .pointer (some ⟨w.heap.size + 1, 0, none⟩), .func (.func 54) #[.pointer (some ⟨w.heap.size + 1, 0, none⟩)] #[], (.func (.func 59) #[] #[.pointer (some ⟨N, 0, none⟩)]), (.func (.func 59) #[] #[.pointer (some ⟨N, 0, none⟩)]), undef, (.func (.func 59) #[] #[.pointer (some ⟨N, 0, none⟩)]), undef, (.func (.func 59) #[] #[.pointer (some ⟨N, 0, none⟩)]), undef, .func (.func 54) #[.pointer (some ⟨w.heap.size + 1, 0, none⟩)] #[], undef, .func (.func 54) #[.pointer (some ⟨w.heap.size + 1, 0, none⟩)] #[], undef, .func (.func 54) #[.pointer (some ⟨w.heap.size + 1, 0, none⟩)] #[], undef, .func (.func 54) #[.pointer (some ⟨w.heap.size + 1, 0, none⟩)] #[], undef, .func (.func 54) #[.pointer (some ⟨w.heap.size + 1, 0, none⟩)] #[], undef, undef, undef, undef, undef, undef, undef, undef, undef, undef, undef, undef, undef, undef, undef, undef, undef, undef, undef, undef, undef, undef, undef, undef, undef, undef, undef, undef, undef, undef, undef, undef, undef, undef, undef, undef, undef, undef, undef, undef, undef, undef, undef, undef, undef, undef, undef, undef, undef, undef, undef, undef], defers := [] } := rfl
      rw [hact]
      refine wpOp_of (i := 1) (by rfl) (by rfl) ?_
      go_simp
      refine (K0.out _ _ st.rd st.fn).mono ?_
      rintro _ u2 ⟨rfl, hr, hb⟩
      refine ⟨⟨v7, rfl, fun h => ?_⟩, st.next hzb hbN hr hb, fun _ => by decide⟩
      obtain ⟨c, h1, h2, h3⟩ := hd h
      exact ⟨c, h1, h2, (hb.block c (heap_lt h3) (fun h => by have := Option.some.inj h; omega)).trans h3⟩
    | 1, _, _, hd, st, _ =>
      have hact : getMAct ⟨s.toArray⟩ (w.heap.size + 1) w.heap.size N (fun j => [.int .i64 vk, .int .i64 vf, .int .i64 vo, .int .u64 vt, .int .u64 vi, .int .u64 vp, .int .u64 vc, .int .u64 vm, .agg #[.int .i64 vk, .int .i64 vf, .int .i64 vo, .int .u64 vt, .int .u64 vi, .int .u64 vp, .int .u64 vc, .int .u64 vm, .bool false, .slice none 0 0, .string ⟨#[]⟩]].getD j undef) 1 v7 = { tmps := #[.string ⟨s.toArray⟩, undef, .pointer (some ⟨w.heap.size, 0, none⟩), .bool false, .pointer (some ⟨w.heap.size + 1, 0, none⟩), .pointer (some ⟨N, 0, none⟩), (.func (.func 59) #[] #[.pointer (some ⟨N, 0, none⟩)]), v7, undef, .string ⟨s.toArray⟩, .pointer (some ⟨w.heap.size + 1, 0, none⟩), .pointer (some ⟨w.heap.size + 1, 0, none⟩), .func (.func 54) #[.pointer (some ⟨w.heap.size + 1, 0, none⟩)] #[], (.func (.func 59) #[] #[.pointer (some ⟨N, 0, none⟩)]), (.func (.func 59) #[] #[.pointer (some ⟨N, 0, none⟩)]), .int .i64 vk, (.func (.func 59) #[] #[.pointer (some ⟨N, 0, none⟩)]), undef, (.func (.func 59) #[] #[.pointer (some ⟨N, 0, none⟩)]), undef, .func (.func 54) #[.pointer (some ⟨w.heap.size + 1, 0, none⟩)] #[], undef, .func (.func 54) #[.pointer (some ⟨w.heap.size + 1, 0, none⟩)] #[], undef, .func (.func 54) #[.pointer (some ⟨w.heap.size + 1, 0, none⟩)] #[], undef, .func (.func 54) #[.pointer (some ⟨w.heap.size + 1, 0, none⟩)] #[], undef, .func (.func 54) #[.pointer (some ⟨w.heap.size + 1, 0, none⟩)] #[], undef, undef, undef, undef, undef, undef, undef, undef, undef, undef, undef, undef, undef, undef, undef, undef, undef, undef, undef, undef, undef, undef, undef, undef, undef, undef, undef, undef, undef, undef, undef, undef, undef, undef, undef, undef, undef, undef, undef, undef, undef, undef, undef, undef, undef, undef, undef, undef, undef, undef, undef, undef], defers := [] } := rfl
      rw [hact]
      refine wpOp_of (i := 3) (by rfl) (by rfl) ?_
      go_simp
      refine (K1.out _ _ st.rd st.fn).mono ?_
      rintro _ u2 ⟨rfl, hr, hb⟩
      refine ⟨⟨v7, rfl, fun h => ?_⟩, st.next hzb hbN hr hb, fun _ => by decide⟩
      obtain ⟨c, h1, h2, h3⟩ := hd h
      exact ⟨c, h1, h2, (hb.block c (heap_lt h3) (fun h => by have := Option.some.inj h; omega)).trans h3⟩
    | 2, _, _, hd, st, _ =>
      have hact : getMAct ⟨s.toArray⟩ (w.heap.size + 1) w.heap.size N (fun j => [.int .i64 vk, .int .i64 vf, .int .i64 vo, .int .u64 vt, .int .u64 vi, .int .u64 vp, .int .u64 vc, .int .u64 vm, .agg #[.int .i64 vk, .int .i64 vf, .int .i64 vo, .int .u64 vt, .int .u64 vi, .int .u64 vp, .int .u64 vc, .int .u64 vm, .bool false, .slice none 0 0, .string ⟨#[]⟩]].getD j undef) 2 v7 = { tmps := #[.string ⟨s.toArray⟩, undef, .pointer (some ⟨w.heap.size, 0, none⟩), .bool false, .pointer (some ⟨w.heap.size + 1, 0, none⟩), .pointer (some ⟨N, 0, none⟩), (.func (.func 59) #[] #[.pointer (some ⟨N, 0, none⟩)]), v7, undef, .string ⟨s.toArray⟩, .pointer (some ⟨w.heap.size + 1, 0, none⟩), .pointer (some ⟨w.heap.size + 1, 0, none⟩), .func (.func 54) #[.pointer (some ⟨w.heap.size + 1, 0, none⟩)] #[], (.func (.func 59) #[] #[.pointer (some ⟨N, 0, none⟩)]), (.func (.func 59) #[] #[.pointer (some ⟨N, 0, none⟩)]), .int .i64 vk, (.func (.func 59) #[] #[.pointer (some ⟨N, 0, none⟩)]), .int .i64 vf, (.func (.func 59) #[] #[.pointer (some ⟨N, 0, none⟩)]), undef, .func (.func 54) #[.pointer (some ⟨w.heap.size + 1, 0, none⟩)] #[], undef, .func (.func 54) #[.pointer (some ⟨w.heap.size + 1, 0, none⟩)] #[], undef, .func (.func 54) #[.pointer (some ⟨w.heap.size + 1, 0, none⟩)] #[], undef, .func (.func 54) #[.pointer (some ⟨w.heap.size + 1, 0, none⟩)] #[], undef, .func (.func 54) #[.pointer (some ⟨w.heap.size + 1, 0, none⟩)] #[], undef, undef, undef, undef, undef, undef, undef, undef, undef, undef, undef, undef, undef, undef, undef, undef, undef, undef, undef, undef, undef, undef, undef, undef, undef, undef, undef, undef, undef, undef, undef, undef, undef, undef, undef, undef, undef, undef, undef, undef, undef, undef, undef, undef, undef, undef, undef, undef, undef, undef, undef, undef], defers := [] } := rfl
      rw [hact]
      refine wpOp_of (i := 5) (by rfl) (by rfl) ?_
      go_simp
      refine (K2.out _ _ st.rd st.fn).mono ?_
      rintro _ u2 ⟨rfl, hr, hb⟩
      refine ⟨⟨v7, rfl, fun h => ?_⟩, st.next hzb hbN hr hb, fun _ => by decide⟩
      obtain ⟨c, h1, h2, h3⟩ := hd h
      exact ⟨c, h1, h2, (hb.block c (heap_lt h3) (fun h => by have := Option.some.inj h; omega)).trans h3⟩
    | 3, _, _, hd, st, _ =>
      have hact : getMAct ⟨s.toArray⟩ (w.heap.size + 1) w.heap.size N (fun j => [.int .i64 vk, .int .i64 vf, .int .i64 vo, .int .u64 vt, .int .u64 vi, .int .u64 vp, .int .u64 vc, .int .u64 vm, .agg #[.int .i64 vk, .int .i64 vf, .int .i64 vo, .int .u64 vt, .int .u64 vi, .int .u64 vp, .int .u64 vc, .int .u64 vm, .bool false, .slice none 0 0, .string ⟨#[]⟩]].getD j undef) 3 v7 = { tmps := #[.string ⟨s.toArray⟩, undef, .pointer (some ⟨w.heap.size, 0, none⟩), .bool false, .pointer (some ⟨w.heap.size + 1, 0, none⟩), .pointer (some ⟨N, 0, none⟩), (.func (.func 59) #[] #[.pointer (some ⟨N, 0, none⟩)]), v7, undef, .string ⟨s.toArray⟩, .pointer (some ⟨w.heap.size + 1, 0, none⟩), .pointer (some ⟨w.heap.size + 1, 0, none⟩), .func (.func 54) #[.pointer (some ⟨w.heap.size + 1, 0, none⟩)] #[], (.func (.func 59) #[] #[.pointer (some ⟨N, 0, none⟩)]), (.func (.func 59) #[] #[.pointer (some ⟨N, 0, none⟩)]), .int .i64 vk, (.func (.func 59) #[] #[.pointer (some ⟨N, 0, none⟩)]), .int .i64 vf, (.func (.func 59) #[] #[.pointer (some ⟨N, 0, none⟩)]), .int .i64 vo, .func (.func 54) #[.pointer (some ⟨w.heap.size + 1, 0, none⟩)] #[], undef, .func (.func 54) #[.pointer (some ⟨w.heap.size + 1, 0, none⟩)] #[], undef, .func (.func 54) #[.pointer (some ⟨w.heap.size + 1, 0, none⟩)] #[], undef, .func (.func 54) #[.pointer (some ⟨w.heap.size + 1, 0, none⟩)] #[], undef, .func (.func 54) #[.pointer (some ⟨w.heap.size + 1, 0, none⟩)] #[], undef, undef, undef, undef, undef, undef, undef, undef, undef, undef, undef, undef, undef, undef, undef, undef, undef, undef, undef, undef, undef, undef, undef, undef, undef, undef, undef, undef, undef, undef, undef, undef, undef, undef, undef, undef, undef, undef, undef, undef, undef, undef, undef, undef, undef, undef, undef, undef, undef, undef, undef, undef], defers := [] } := rfl
      rw [hact]
      refine wpOp_of (i := 7) (by rfl) (by rfl) ?_
      go_simp
      refine (K3.out _ st.rd).mono ?_
      rintro _ u2 ⟨rfl, hr, hb⟩
      refine ⟨⟨v7, rfl, fun h => ?_⟩, st.next hzb hbN hr hb, fun _ => by decide⟩
      obtain ⟨c, h1, h2, h3⟩ := hd h
      exact ⟨c, h1, h2, (hb.block c (heap_lt h3) (fun h => by have := Option.some.inj h; omega)).trans h3⟩
    | 4, _, _, hd, st, _ =>
      have hact : getMAct ⟨s.toArray⟩ (w.heap.size + 1) w.heap.size N (fun j => [.int .i64 vk, .int .i64 vf, .int .i64 vo, .int .u64 vt, .int .u64 vi, .int .u64 vp, .int .u64 vc, .int .u64 vm, .agg #[.int .i64 vk, .int .i64 vf, .int .i64 vo, .int .u64 vt, .int .u64 vi, .int .u64 vp, .int .u64 vc, .int .u64 vm, .bool false, .slice none 0 0, .string ⟨#[]⟩]].getD j undef) 4 v7 = { tmps := #[.string ⟨s.toArray⟩, undef, .pointer (some ⟨w.heap.size, 0, none⟩), .bool false, .pointer (some ⟨w.heap.size + 1, 0, none⟩), .pointer (some ⟨N, 0, none⟩), (.func (.func 59) #[] #[.pointer (some ⟨N, 0, none⟩)]), v7, undef, .string ⟨s.toArray⟩, .pointer (some ⟨w.heap.size + 1, 0, none⟩), .pointer (some ⟨w.heap.size + 1, 0, none⟩), .func (.func 54) #[.pointer (some ⟨w.heap.size + 1, 0, none⟩)] #[], (.func (.func 59) #[] #[.pointer (some ⟨N, 0, none⟩)]), (.func (.func 59) #[] #[.pointer (some ⟨N, 0, none⟩)]), .int .i64 vk, (.func (.func 59) #[] #[.pointer (some ⟨N, 0, none⟩)]), .int .i64 vf, (.func (.func 59) #[] #[.pointer (some ⟨N, 0, none⟩)]), .int .i64 vo, .func (.func 54) #[.pointer (some ⟨w.heap.size + 1, 0, none⟩)] #[], .int .u64 vt, .func (.func 54) #[.pointer (some ⟨w.heap.size + 1, 0, none⟩)] #[], undef, .func (.func 54) #[.pointer (some ⟨w.heap.size + 1, 0, none⟩)] #[], undef, .func (.func 54) #[.pointer (some ⟨w.heap.size + 1, 0, none⟩)] #[], undef, .func (.func 54) #[.pointer (some ⟨w.heap.size + 1, 0, none⟩)] #[], undef, undef, undef, undef, undef, undef, undef, undef, undef, undef, undef, undef, undef, undef, undef, undef, undef, undef, undef, undef, undef, undef, undef, undef, undef, undef, undef, undef, undef, undef, undef, undef, undef, undef, undef, undef, undef, undef, undef, undef, undef, undef, undef, undef, undef, undef, undef, undef, undef, undef, undef, undef], defers := [] } := rfl
      rw [hact]
      refine wpOp_of (i := 9) (by rfl) (by rfl) ?_
      go_simp
      refine (K4.out _ st.rd).mono ?_
      rintro _ u2 ⟨rfl, hr, hb⟩
      refine ⟨⟨v7, rfl, fun h => ?_⟩, st.next hzb hbN hr hb, fun _ => by decide⟩
      obtain ⟨c, h1, h2, h3⟩ := hd h
      exact ⟨c, h1, h2, (hb.block c (heap_lt h3) (fun h => by have := Option.some.inj h; omega)).trans h3⟩
    | 5, _, _, hd, st, _ =>
      have hact : getMAct ⟨s.toArray⟩ (w.heap.size + 1) w.heap.size N (fun j => [.int .i64 vk, .int .i64 vf, .int .i64 vo, .int .u64 vt, .int .u64 vi, .int .u64 vp, .int .u64 vc, .int .u64 vm, .agg #[.int .i64 vk, .int .i64 vf, .int .i64 vo, .int .u64 vt, .int .u64 vi, .int .u64 vp, .int .u64 vc, .int .u64 vm, .bool false, .slice none 0 0, .string ⟨#[]⟩]].getD j undef) 5 v7 = { tmps := #[.string ⟨s.toArray⟩, undef, .pointer (some ⟨w.heap.size, 0, none⟩), .bool false, .pointer (some ⟨w.heap.size + 1, 0, none⟩), .pointer (some ⟨N, 0, none⟩), (.func (.func 59) #[] #[.pointer (some ⟨N, 0, none⟩)]), v7, undef, .string ⟨s.toArray⟩, .pointer (some ⟨w.heap.size + 1, 0, none⟩), .pointer (some ⟨w.heap.size + 1, 0, none⟩), .func (.func 54) #[.pointer (some ⟨w.heap.size + 1, 0, none⟩)] #[], (.func (.func 59) #[] #[.pointer (some ⟨N, 0, none⟩)]), (.func (.func 59) #[] #[.pointer (some ⟨N, 0, none⟩)]), .int .i64 vk, (.func (.func 59) #[] #[.pointer (some ⟨N, 0, none⟩)]), .int .i64 vf, (.func (.func 59) #[] #[.pointer (some ⟨N, 0, none⟩)]), .int .i64 vo, .func (.func 54) #[.pointer (some ⟨w.heap.size + 1, 0, none⟩)] #[], .int .u64 vt, .func (.func 54) #[.pointer (some ⟨w.heap.size + 1, 0, none⟩)] #[], .int .u64 vi, .func (.func 54) #[.pointer (some ⟨w.heap.size + 1, 0, none⟩)] #[], undef, .func (.func 54) #[.pointer (some ⟨w.heap.size + 1, 0, none⟩)] #[], undef, .func (.func 54) #[.pointer (some ⟨w.heap.size + 1, 0, none⟩)] #[], undef, undef, undef, undef, undef, undef, undef, undef, undef, undef, undef, undef, undef, undef, undef, undef, undef, undef, undef, undef, undef, undef, undef, undef, undef, undef, undef, undef, undef, undef, undef, undef, undef, undef, undef, undef, undef, undef, undef, undef, undef, undef, undef, undef, undef, undef, undef, undef, undef, undef, undef, undef], defers := [] } := rfl
      rw [hact]
      refine wpOp_of (i := 11) (by rfl) (by rfl) ?_
      go_simp
      refine (K5.out _ st.rd).mono ?_
      rintro _ u2 ⟨rfl, hr, hb⟩
      refine ⟨⟨v7, rfl, fun h => ?_⟩, st.next hzb hbN hr hb, fun _ => by decide⟩
      obtain ⟨c, h1, h2, h3⟩ := hd h
      exact ⟨c, h1, h2, (hb.block c (heap_lt h3) (fun h => by have := Option.some.inj h; omega)).trans h3⟩
    | 6, _, _, hd, st, _ =>
      have hact : getMAct ⟨s.toArray⟩ (w.heap.size + 1) w.heap.size N (fun j => [.int .i64 vk, .int .i64 vf, .int .i64 vo, .int .u64 vt, .int .u64 vi, .int .u64 vp, .int .u64 vc, .int .u64 vm, .agg #[.int .i64 vk, .int .i64 vf, .int .i64 vo, .int .u64 vt, .int .u64 vi, .int .u64 vp, .int .u64 vc, .int .u64 vm, .bool false, .slice none 0 0, .string ⟨#[]⟩]].getD j undef) 6 v7 = { tmps := #[.string ⟨s.toArray⟩, undef, .pointer (some ⟨w.heap.size, 0, none⟩), .bool false, .pointer (some ⟨w.heap.size + 1, 0, none⟩), .pointer (some ⟨N, 0, none⟩), (.func (.func 59) #[] #[.pointer (some ⟨N, 0, none⟩)]), v7, undef, .string ⟨s.toArray⟩, .pointer (some ⟨w.heap.size + 1, 0, none⟩), .pointer (some ⟨w.heap.size + 1, 0, none⟩), .func (.func 54) #[.pointer (some ⟨w.heap.size + 1, 0, none⟩)] #[], (.func (.func 59) #[] #[.pointer (some ⟨N, 0, none⟩)]), (.func (.func 59) #[] #[.pointer (some ⟨N, 0, none⟩)]), .int .i64 vk, (.func (.func 59) #[] #[.pointer (some ⟨N, 0, none⟩)]), .int .i64 vf, (.func (.func 59) #[] #[.pointer (some ⟨N, 0, none⟩)]), .int .i64 vo, .func (.func 54) #[.pointer (some ⟨w.heap.size + 1, 0, none⟩)] #[], .int .u64 vt, .func (.func 54) #[.pointer (some ⟨w.heap.size + 1, 0, none⟩)] #[], .int .u64 vi, .func (.func 54) #[.pointer (some ⟨w.heap.size + 1, 0, none⟩)] #[], .int .u64 vp, .func (.func 54) #[.pointer (some ⟨w.heap.size + 1, 0, none⟩)] #[], undef, .func (.func 54) #[.pointer (some ⟨w.heap.size + 1, 0, none⟩)] #[], undef, undef, undef, undef, undef, undef, undef, undef, undef, undef, undef, undef, undef, undef, undef, undef, undef, undef, undef, undef, undef, undef, undef, undef, undef, undef, undef, undef, undef, undef, undef, undef, undef, undef, undef, undef, undef, undef, undef, undef, undef, undef, undef, undef, undef, undef, undef, undef, undef, undef, undef, undef], defers := [] } := rfl
      rw [hact]
      refine wpOp_of (i := 13) (by rfl) (by rfl) ?_
      go_simp
      refine (K6.out _ st.rd).mono ?_
      rintro _ u2 ⟨rfl, hr, hb⟩
      refine ⟨⟨v7, rfl, fun h => ?_⟩, st.next hzb hbN hr hb, fun _ => by decide⟩
      obtain ⟨c, h1, h2, h3⟩ := hd h
      exact ⟨c, h1, h2, (hb.block c (heap_lt h3) (fun h => by have := Option.some.inj h; omega)).trans h3⟩
    | 7, _, _, hd, st, _ =>
      have hact : getMAct ⟨s.toArray⟩ (w.heap.size + 1) w.heap.size N (fun j => [.int .i64 vk, .int .i64 vf, .int .i64 vo, .int .u64 vt, .int .u64 vi, .int .u64 vp, .int .u64 vc, .int .u64 vm, .agg #[.int .i64 vk, .int .i64 vf, .int .i64 vo, .int .u64 vt, .int .u64 vi, .int .u64 vp, .int .u64 vc, .int .u64 vm, .bool false, .slice none 0 0, .string ⟨#[]⟩]].getD j undef) 7 v7 = { tmps := #[.string ⟨s.toArray⟩, undef, .pointer (some ⟨w.heap.size, 0, none⟩), .bool false, .pointer (some ⟨w.heap.size + 1, 0, none⟩), .pointer (some ⟨N, 0, none⟩), (.func (.func 59) #[] #[.pointer (some ⟨N, 0, none⟩)]), v7, undef, .string ⟨s.toArray⟩, .pointer (some ⟨w.heap.size + 1, 0, none⟩), .pointer (some ⟨w.heap.size + 1, 0, none⟩), .func (.func 54) #[.pointer (some ⟨w.heap.size + 1, 0, none⟩)] #[], (.func (.func 59) #[] #[.pointer (some ⟨N, 0, none⟩)]), (.func (.func 59) #[] #[.pointer (some ⟨N, 0, none⟩)]), .int .i64 vk, (.func (.func 59) #[] #[.pointer (some ⟨N, 0, none⟩)]), .int .i64 vf, (.func (.func 59) #[] #[.pointer (some ⟨N, 0, none⟩)]), .int .i64 vo, .func (.func 54) #[.pointer (some ⟨w.heap.size + 1, 0, none⟩)] #[], .int .u64 vt, .func (.func 54) #[.pointer (some ⟨w.heap.size + 1, 0, none⟩)] #[], .int .u64 vi, .func (.func 54) #[.pointer (some ⟨w.heap.size + 1, 0, none⟩)] #[], .int .u64 vp, .func (.func 54) #[.pointer (some ⟨w.heap.size + 1, 0, none⟩)] #[], .int .u64 vc, .func (.func 54) #[.pointer (some ⟨w.heap.size + 1, 0, none⟩)] #[], undef, undef, undef, undef, undef, undef, undef, undef, undef, undef, undef, undef, undef, undef, undef, undef, undef, undef, undef, undef, undef, undef, undef, undef, undef, undef, undef, undef, undef, undef, undef, undef, undef, undef, undef, undef, undef, undef, undef, undef, undef, undef, undef, undef, undef, undef, undef, undef, undef, undef, undef, undef], defers := [] } := rfl
      rw [hact]
      refine wpOp_of (i := 15) (by rfl) (by rfl) ?_
      go_simp
      refine (K7.out _ st.rd).mono ?_
      rintro _ u2 ⟨rfl, hr, hb⟩
      refine ⟨⟨v7, rfl, fun h => ?_⟩, st.next hzb hbN hr hb, fun _ => by decide⟩
      obtain ⟨c, h1, h2, h3⟩ := hd h
      exact ⟨c, h1, h2, (hb.block c (heap_lt h3) (fun h => by have := Option.some.inj h; omega)).trans h3⟩
    | 8, _, _, hd, st, _ =>
      have hact : getMAct ⟨s.toArray⟩ (w.heap.size + 1) w.heap.size N (fun j => [.int .i64 vk, .int .i64 vf, .int .i64 vo, .int .u64 vt, .int .u64 vi, .int .u64 vp, .int .u64 vc, .int .u64 vm, .agg #[.int .i64 vk, .int .i64 vf, .int .i64 vo, .int .u64 vt, .int .u64 vi, .int .u64 vp, .int .u64 vc, .int .u64 vm, .bool false, .slice none 0 0, .string ⟨#[]⟩]].getD j undef) 8 v7 = { tmps := #[.string ⟨s.toArray⟩, undef, .pointer (some ⟨w.heap.size, 0, none⟩), .bool false, .pointer (some ⟨w.heap.size + 1, 0, none⟩), .pointer (some ⟨N, 0, none⟩), (.func (.func 59) #[] #[.pointer (some ⟨N, 0, none⟩)]), v7, undef, .string ⟨s.toArray⟩, .pointer (some ⟨w.heap.size + 1, 0, none⟩), .pointer (some ⟨w.heap.size + 1, 0, none⟩), .func (.func 54) #[.pointer (some ⟨w.heap.size + 1, 0, none⟩)] #[], (.func (.func 59) #[] #[.pointer (some ⟨N, 0, none⟩)]), (.func (.func 59) #[] #[.pointer (some ⟨N, 0, none⟩)]), .int .i64 vk, (.func (.func 59) #[] #[.pointer (some ⟨N, 0, none⟩)]), .int .i64 vf, (.func (.func 59) #[] #[.pointer (some ⟨N, 0, none⟩)]), .int .i64 vo, .func (.func 54) #[.pointer (some ⟨w.heap.size + 1, 0, none⟩)] #[], .int .u64 vt, .func (.func 54) #[.pointer (some ⟨w.heap.size + 1, 0, none⟩)] #[], .int .u64 vi, .func (.func 54) #[.pointer (some ⟨w.heap.size + 1, 0, none⟩)] #[], .int .u64 vp, .func (.func 54) #[.pointer (some ⟨w.heap.size + 1, 0, none⟩)] #[], .int .u64 vc, .func (.func 54) #[.pointer (some ⟨w.heap.size + 1, 0, none⟩)] #[], .int .u64 vm, undef, undef, undef, undef, undef, undef, undef, undef, undef, undef, undef, undef, undef, undef, undef, undef, undef, undef, undef, undef, undef, undef, undef, undef, undef, undef, undef, undef, undef, undef, undef, undef, undef, undef, undef, undef, undef, undef, undef, undef, undef, undef, undef, undef, undef, undef, undef, undef, undef, undef, undef], defers := [] } := rfl
      rw [hact]
      refine wpOp_of (i := 16) (by rfl) (by rfl) ?_
      go_simp
      exact ⟨⟨v7, rfl, fun h => hd h⟩, st, fun _ => by decide⟩
    | 9, _, _, hd, st, hready =>
      have hact : getMAct ⟨s.toArray⟩ (w.heap.size + 1) w.heap.size N (fun j => [.int .i64 vk, .int .i64 vf, .int .i64 vo, .int .u64 vt, .int .u64 vi, .int .u64 vp, .int .u64 vc, .int .u64 vm, .agg #[.int .i64 vk, .int .i64 vf, .int .i64 vo, .int .u64 vt, .int .u64 vi, .int .u64 vp, .int .u64 vc, .int .u64 vm, .bool false, .slice none 0 0, .string ⟨#[]⟩]].getD j undef) 9 v7 = { tmps := #[.string ⟨s.toArray⟩, undef, .pointer (some ⟨w.heap.size, 0, none⟩), .bool false, .pointer (some ⟨w.heap.size + 1, 0, none⟩), .pointer (some ⟨N, 0, none⟩), (.func (.func 59) #[] #[.pointer (some ⟨N, 0, none⟩)]), v7, undef, .string ⟨s.toArray⟩, .pointer (some ⟨w.heap.size + 1, 0, none⟩), .pointer (some ⟨w.heap.size + 1, 0, none⟩), .func (.func 54) #[.pointer (some ⟨w.heap.size + 1, 0, none⟩)] #[], (.func (.func 59) #[] #[.pointer (some ⟨N, 0, none⟩)]), (.func (.func 59) #[] #[.pointer (some ⟨N, 0, none⟩)]), .int .i64 vk, (.func (.func 59) #[] #[.pointer (some ⟨N, 0, none⟩)]), .int .i64 vf, (.func (.func 59) #[] #[.pointer (some ⟨N, 0, none⟩)]), .int .i64 vo, .func (.func 54) #[.pointer (some ⟨w.heap.size + 1, 0, none⟩)] #[], .int .u64 vt, .func (.func 54) #[.pointer (some ⟨w.heap.size + 1, 0, none⟩)] #[], .int .u64 vi, .func (.func 54) #[.pointer (some ⟨w.heap.size + 1, 0, none⟩)] #[], .int .u64 vp, .func (.func 54) #[.pointer (some ⟨w.heap.size + 1, 0, none⟩)] #[], .int .u64 vc, .func (.func 54) #[.pointer (some ⟨w.heap.size + 1, 0, none⟩)] #[], .int .u64 vm, .agg #[.int .i64 vk, .int .i64 vf, .int .i64 vo, .int .u64 vt, .int .u64 vi, .int .u64 vp, .int .u64 vc, .int .u64 vm, .bool false, .slice none 0 0, .string ⟨#[]⟩], undef, undef, undef, undef, undef, undef, undef, undef, undef, undef, undef, undef, undef, undef, undef, undef, undef, undef, undef, undef, undef, undef, undef, undef, undef, undef, undef, undef, undef, undef, undef, undef, undef, undef, undef, undef, undef, undef, undef, undef, undef, undef, undef, undef, undef, undef, undef, undef, undef, undef], defers := [] } := rfl
      rw [hact]
      cases d with
      | false => exact absurd hready (of_decide_eq_false (by kernel_rfl))
      | true =>
        obtain ⟨c, rfl, h2, h3⟩ := hd rfl
        refine wpOp_of (i := 18) (by rfl) (by rfl) ?_
        have h3 : u.heap[c]? = some (.cells (Msg.none.cells (.slice none 0 0)) MsgT (0, 0)) := h3
        have z0 : u.cell? ⟨c, 0, none⟩ = some (.int .i64 0) := Lib.cell_of_heap h3 0
        have z1 : u.cell? ⟨c, 1, none⟩ = some (.int .i64 0) := Lib.cell_of_heap h3 1
        have z2 : u.cell? ⟨c, 2, none⟩ = some (.int .i64 0) := Lib.cell_of_heap h3 2
        have z3 : u.cell? ⟨c, 3, none⟩ = some (.int .u64 0) := Lib.cell_of_heap h3 3
        have z4 : u.cell? ⟨c, 4, none⟩ = some (.int .u64 0) := Lib.cell_of_heap h3 4
        have z5 : u.cell? ⟨c, 5, none⟩ = some (.int .u64 0) := Lib.cell_of_heap h3 5
        have z6 : u.cell? ⟨c, 6, none⟩ = some (.int .u64 0) := Lib.cell_of_heap h3 6
        have z7 : u.cell? ⟨c, 7, none⟩ = some (.int .u64 0) := Lib.cell_of_heap h3 7
        have z8 : u.cell? ⟨c, 8, none⟩ = some (.bool false) := Lib.cell_of_heap h3 8
        have z9 : u.cell? ⟨c, 9, none⟩ = some (.slice none 0 0) := Lib.cell_of_heap h3 9
        have z10 : u.cell? ⟨c, 10, none⟩ = some (.string ⟨#[]⟩) := Lib.cell_of_heap h3 10
        have fz : ∀ o, u.frozen? ⟨c, o, none⟩ = false := fun o => Lib.frozen_of_heap h3 o
        have st9 : GetMSt (w.heap.size + 1) w.heap.size N w u r8 := st
        go_simp
        refine ⟨⟨.pointer (some ⟨c, 0, none⟩), rfl, fun _ => ⟨c, rfl, h2, ?_⟩⟩, ?_, fun h => by cases h⟩
        · simp [World.setCell, Array.getElem?_modify, h3, Msg.cells, Msg.none]
        · show GetMSt (w.heap.size + 1) w.heap.size N w _ r8
          repeat' (first | with_reducible exact st9 | with_reducible exact hzb | with_reducible exact hbN | with_reducible exact h2 | with_reducible refine GetMSt.set ?_ ?_ ?_ ?_)
    | k + 10, h, _, _, _, _ => exact absurd h (by omega)
   case halloc =>
    intro k hk a u hi
    obtain ⟨⟨v7, rfl, _⟩, st, hlt⟩ := hi
    refine wpOp_of (i := 17) (by rfl) (by rfl) ?_
    have hk10 := hlt rfl
    go_simp
    refine ⟨⟨.pointer (some ⟨u.heap.size, 0, none⟩), rfl, fun _ => ⟨u.heap.size, rfl, st.size, ?_⟩⟩, st.alloc hzb hbN _, fun h => by cases h⟩
    rw [if_pos hk10]
    exact heap_alloc_new u _
   case hend =>
    intro a u hi
    obtain ⟨⟨v7, rfl, hd⟩, st, _⟩ := hi
    obtain ⟨c, rfl, h2, h3⟩ := hd rfl
    refine NoPanic.normal ?_
    go_wp2_with fail
    go_meet
    exact ⟨c, rfl, h2, h3, st⟩
  case rest =>
  obtain ⟨c, rfl, hc, he, hst⟩ := hcut
  have hzb : w.heap.size < w.heap.size + 1 := Nat.lt_succ_self _
  have hbN : w.heap.size + 1 < N := by omega
  have HE := Lib.hid he
  have ST := Lib.hid hst
  clear he hst H1 HZ1 HB1
  go_wp2_with fail
  refine (K8.out _ _ ST.out.rd ST.out.fn).mono ?_
  rintro x w2 ⟨rfl, hr, hb⟩
  have HE2 := Lib.hid ((hb.block c (heap_lt HE.out) (fun h => by have := Option.some.inj h; omega)).trans HE.out)
  have ST2 := Lib.hid (ST.out.next hzb hbN hr hb)
  clear hr hb HE ST
  have c0 : w2.cell? ⟨c, 0, none⟩ = some (.int .i64 vk) := Lib.cell_of_heap HE2.out 0
  have c1 : w2.cell? ⟨c, 1, none⟩ = some (.int .i64 vf) := Lib.cell_of_heap HE2.out 1
  have c2 : w2.cell? ⟨c, 2, none⟩ = some (.int .i64 vo) := Lib.cell_of_heap HE2.out 2
  have c3 : w2.cell? ⟨c, 3, none⟩ = some (.int .u64 vt) := Lib.cell_of_heap HE2.out 3
  have c4 : w2.cell? ⟨c, 4, none⟩ = some (.int .u64 vi) := Lib.cell_of_heap HE2.out 4
  have c5 : w2.cell? ⟨c, 5, none⟩ = some (.int .u64 vp) := Lib.cell_of_heap HE2.out 5
  have c6 : w2.cell? ⟨c, 6, none⟩ = some (.int .u64 vc) := Lib.cell_of_heap HE2.out 6
  have c7 : w2.cell? ⟨c, 7, none⟩ = some (.int .u64 vm) := Lib.cell_of_heap HE2.out 7
  have c8 : w2.cell? ⟨c, 8, none⟩ = some (.bool false) := Lib.cell_of_heap HE2.out 8
  have c9 : w2.cell? ⟨c, 9, none⟩ = some (.slice none 0 0) := Lib.cell_of_heap HE2.out 9
  have c10 : w2.cell? ⟨c, 10, none⟩ = some (.string ⟨#[]⟩) := Lib.cell_of_heap HE2.out 10
  have hfz : ∀ o, w2.frozen? ⟨c, o, none⟩ = false := fun o => Lib.frozen_of_heap HE2.out o
  have hyb : ((vy : Int) == 1) = (vy == 1) := by
    by_cases h : vy = 1
    · subst h; rfl
    · rw [beq_eq_false_iff_ne.2 h]
      exact beq_eq_false_iff_ne.2 (by omega)
  generalize hyv : (vy == 1) = yb at *
  have HYV := Lib.hid hyv
  clear hyv
  go_upto_region 7 with fail
  have hE3 : (w2.setCell ⟨c, 8, none⟩ (.bool yb)).heap[c]? = some (.cells (Msg.cells ⟨(vk : Int), (vf : Int), (vo : Int), (vt : Int), (vi : Int), (vp : Int), (vc : Int), (vm : Int), yb, ⟨#[]⟩, []⟩ (.slice none 0 0)) MsgT (0, 0)) := by
    have := HE2.out
    simp [World.setCell, Array.getElem?_modify, this, Msg.cells]
  have ST3 := Lib.hid (ST2.out.set (o := 8) (v := .bool yb) hzb hbN hc)
  have HE3 := Lib.hid hE3
  clear hE3 c0 c1 c2 c3 c4 c5 c6 c7 c8 c9 c10 hfz HE2 ST2
  generalize (w2.setCell ⟨c, 8, none⟩ (.bool yb)) = w3 at *
  have hfn3 := ST3.out.fn
  go_wp2_with fail
  refine (K9.out _ _ ST3.out.rd ST3.out.fn).mono ?_
  rintro x w4 ⟨rfl, hr, hb⟩
  have HE4 := Lib.hid ((hb.block c (heap_lt HE3.out) (fun h => by have := Option.some.inj h; omega)).trans HE3.out)
  have ST4 := Lib.hid (ST3.out.next hzb hbN hr hb)
  have hfn4 := ST4.out.fn
  have hc4 := heap_lt HE4.out
  have hNn := ST4.out.size
  clear hr hb HE3 ST3 hfn3
  obtain ⟨n0, hn0⟩ : ∃ n0, n0 = w4.heap.size := ⟨_, rfl⟩
  have HN0 := Lib.hid hn0
  rw [← hn0] at hc4 hNn
  clear hn0
  go_upto_block 0 with fail
  go_cut [] from 38 to 50 (fun wx => ∃ v', MsgIn n0 c ⟨(vk : Int), (vf : Int), (vo : Int), (vt : Int), (vi : Int), (vp : Int), (vc : Int), (vm : Int), yb, ⟨#[]⟩, es⟩ v' wx ∧ GetMSt (w.heap.size + 1) w.heap.size N w wx r11)
  case first =>
    go_wp2_with fail
    go_loopw [38] (fun ix wr => ∃ (k : Nat) (v' : Value), k ≤ vn ∧ ix = .int .i64 k ∧ MsgIn n0 c ⟨(vk : Int), (vf : Int), (vo : Int), (vt : Int), (vi : Int), (vp : Int), (vc : Int), (vm : Int), yb, ⟨#[]⟩, (entsR k r10).1⟩ v' wr ∧ GetMSt (w.heap.size + 1) w.heap.size N w wr (entsR k r10).2 ∧ n0 ≤ wr.heap.size) (fun ix _ => vn - (intOf ix).toNat)
    case atStart => exact ⟨0, .slice none 0 0, Nat.zero_le _, rfl, ⟨HE4.out, World.ownsRow_nil _ _ _ _⟩, ST4.out, Nat.le_of_eq HN0.out⟩
    case round =>
      obtain ⟨k, v', hk, rfl, hmi, hst, hnw⟩ := hrel
      clear HE4 ST4 hfn4
      by_cases hlt : k < vn
      · have hck := HCNT.out k hk
        have hshrk := HSHR.out k
        have hsn := entsR_snoc k r10
        have hstop := entsR_stop k r10
        generalize hz : entsR k r10 = z at hck hshrk hsn hstop hmi hst
        clear hz
        obtain ⟨zs, u, bad⟩ := z
        simp only at hck hshrk hmi hst
        have HMI := Lib.hid hmi
        have HST := Lib.hid hst
        clear hmi hst
        cases bad
        case true =>
          have he : entsR vn r10 = (zs, u, true) := by
            have := hstop rfl (vn - k)
            rwa [show k + (vn - k) = vn by omega] at this
          obtain ⟨e1, e2⟩ := Prod.mk.inj (HENT.out.trans he)
          have HE1 := Lib.hid e1
          have HE2 := Lib.hid e2
          clear e1 e2 he hstop hsn
          go_wp2_with fail
          refine (ok_any _ (u, true) wr HST.out.rd).mono ?_
          rintro x wr' ⟨rfl, rfl⟩
          go_wp2_with fail
          go_meet
          exact ⟨v', by rw [HE1.out]; exact HMI.out, by rw [HE2.out]; exact HST.out⟩
        case false =>
          have hget := firstGet_any (w.heap.size + 1) (u, false) hshrk
          rw [if_neg (by simp)] at hsn
          simp only at hsn
          clear hstop
          generalize getF (u, false) = q at hget hsn
          obtain ⟨y, r4⟩ := q
          simp only at hsn hget
          obtain ⟨y0, y1, y2, y3, y4, y5, y6, y7, y8, y9, y10⟩ := y
          simp only [Ent.val, Ent.cells] at hget
          have HSN := Lib.hid hsn
          have HGET := Lib.hid hget
          clear hsn hget
          obtain ⟨qa, qc, hv⟩ := HMI.out.slice
          have hv : v' = .slice qa zs.length qc := hv
          subst hv
          have hrow : wr.ownsRow n0 EntT 11 (.slice qa zs.length qc) zs.length (zs.flatMap fun e => e.cells.toList) := HMI.out.row
          have hblk : wr.heap[c]? = some (.cells #[.int .i64 vk, .int .i64 vf, .int .i64 vo, .int .u64 vt, .int .u64 vi, .int .u64 vp, .int .u64 vc, .int .u64 vm, .bool yb, .slice qa zs.length qc, .string ⟨#[]⟩] MsgT (0, 0)) := HMI.out.block
          have ROW := Lib.hid hrow
          have HBLK := Lib.hid hblk
          clear hrow hblk
          go_wp2_with fail
          refine (ok_any _ (u, false) wr HST.out.rd).mono ?_
          rintro x wr' ⟨rfl, rfl⟩
          go_wp2_with fail
          have hS0 : wr'.drew.cell? ⟨c, 9, none⟩ = some (.slice qa zs.length qc) := by
            have : wr'.cell? ⟨c, 9, none⟩ = some (.slice qa zs.length qc) := Lib.cell_of_heap HBLK.out 9
            exact this
          refine region_D (fun u => u.cell? ⟨c, 9, none⟩ = some (.slice qa zs.length qc)) [7] 8 (by kernel_rfl) (by rfl) ?_
          refine takeD (i := 0) (v := .pointer (some ⟨c, 9, none⟩)) (by rfl) (by kernel_rfl) (fun _ _ _ h => h) (by rfl) (fun u hu => by go_simp) hS0 ?_
          simp only [Act.put, List.setIfInBounds_toArray, List.set_cons_zero, List.set_cons_succ]
          refine takeD (i := 1) (v := .slice qa zs.length qc) (by rfl) (by kernel_rfl) (fun _ _ _ h => h) (by rfl) (fun u hu => by go_simp) hS0 ?_
          simp only [Act.put, List.setIfInBounds_toArray, List.set_cons_zero, List.set_cons_succ]
          refine takeD (i := 2) (v := .pointer (some ⟨w.heap.size + 1, 0, none⟩)) (by rfl) (by kernel_rfl) (fun _ _ _ h => h) (by rfl) (fun u hu => by go_simp) hS0 ?_
          simp only [Act.put, List.setIfInBounds_toArray, List.set_cons_zero, List.set_cons_succ]
          refine oneD (i := 3) (by rfl) (by kernel_rfl) (by rfl) ?_
          go_simp
          refine (HGET.out wr'.drew HST.out.rd).mono ?_
          rintro _ w2 ⟨rfl, h2, hb2d⟩
          have hb2 : But (w.heap.size + 1) wr' w2 := ⟨hb2d.os, hb2d.tape, hb2d.output, hb2d.size, hb2d.block⟩
          have hS2 : w2.cell? ⟨c, 9, none⟩ = some (.slice qa zs.length qc) := (World.cell?_of_block (w := wr') (hb2.block c (heap_lt HBLK.out) (fun h => by have := Option.some.inj h; omega))).trans hS0
          have hn2w : n0 ≤ w2.heap.size := Nat.le_trans hnw hb2.size
          have hrow2 : w2.ownsRow n0 EntT 11 (.slice qa zs.length qc) zs.length (zs.flatMap fun e => e.cells.toList) := ROW.out.kept hb2 (own_not ROW.out (by omega))
          have hblk2 := (hb2.block c (heap_lt HBLK.out) (fun h => by have := Option.some.inj h; omega)).trans HBLK.out
          have HST2 := Lib.hid (HST.out.next hzb hbN h2 hb2)
          refine ⟨hS2, ?_⟩
          try simp only [Act.put, List.setIfInBounds_toArray, List.set_cons_zero, List.set_cons_succ]
          refine oneD (i := 4) (by rfl) (by kernel_rfl) (by rfl) ?_
          go_simp
          have hS2a : (w2.alloc (.cells #[.int .u64 y0, .int .u64 y1, .int .i64 y2, .int .u64 y3, .int .u64 y4, .int .u64 y5, .int .u64 y6, .int .i64 y7, .int .i64 y8, .string y9, .string y10] EntT)).cell? ⟨c, 9, none⟩ = some (.slice qa zs.length qc) := cell_al hS2 _
          refine ⟨hS2a, ?_⟩
          try simp only [Act.put, List.setIfInBounds_toArray, List.set_cons_zero, List.set_cons_succ]
          obtain ⟨i0, hi0, hz0, hz1, hz2⟩ := info_parts infoEnt
          refine oneD (i := 5) (by rfl) (by kernel_rfl) (by rfl) ?_
          refine wp_append_lies _ _ _ _ (by rfl) n0 EntT i0 Ent.zero.val 11 104 Tryz.underlying24 hi0 hz0 hz1 hz2 rfl (by decide) (.slice qa zs.length qc) zs.length _ (by rfl) (hrow2.alloc _)
            ⟨w2.heap.size, 0, none⟩ 1 1 (Ent.cells ⟨y0, y1, y2, y3, y4, y5, y6, y7, y8, y9, y10⟩).toList (by rfl) (by rfl) (World.news_of_block (cs := Ent.cells ⟨y0, y1, y2, y3, y4, y5, y6, y7, y8, y9, y10⟩) (t := EntT) (fr := (0, 0)) (heap_alloc_new w2 _)) (by intro u hu; simp [Ent.cells] at hu; rcases hu with rfl | rfl | rfl | rfl | rfl | rfl | rfl | rfl | rfl | rfl | rfl <;> rfl)
            (by omega) (by unfold maxLen; omega) (by omega) (by simp; omega) _ rfl ?_
          intro g cap w3 hown3 hgrow hat hlt3
          have hB23 : Below n0 w2 w3 := (((Below.refl _ _).alloc (Nat.le_refl _) _).mono hn2w).trans (grown_below hgrow (hrow2.alloc _) (by simp; omega))
          have hS3 : w3.cell? ⟨c, 9, none⟩ = some (.slice qa zs.length qc) := (World.cell?_of_block (w := w2) (hB23.block c hc4)).trans hS2
          refine ⟨fun _ => hS3, ?_⟩
          try simp only [Act.put, List.setIfInBounds_toArray, List.set_cons_zero, List.set_cons_succ]
          have hblk3 := (hB23.block c hc4).trans hblk2
          have hst3 := (HST2.out.own hzb hbN hNn hB23).set (o := 9) (v := (.slice (some ⟨g, 0, none⟩) (zs.length + 1) cap)) hzb hbN hc
          have hmi3 : MsgIn n0 c ⟨(vk : Int), (vf : Int), (vo : Int), (vt : Int), (vi : Int), (vp : Int), (vc : Int), (vm : Int), yb, ⟨#[]⟩, (zs ++ [⟨y0, y1, y2, y3, y4, y5, y6, y7, y8, y9, y10⟩])⟩ (.slice (some ⟨g, 0, none⟩) (zs.length + 1) cap) (w3.setCell ⟨c, 9, none⟩ (.slice (some ⟨g, 0, none⟩) (zs.length + 1) cap)) := by
            refine ⟨?_, ?_⟩
            · simp [World.setCell, Array.getElem?_modify, hblk3, Msg.cells]
            · have h1 := hown3.kept (set_grown (w := w3) (b := c) (o := 9) (u := (.slice (some ⟨g, 0, none⟩) (zs.length + 1) cap))) (own_not hown3 hc4)
              have e1 : (zs ++ [(⟨y0, y1, y2, y3, y4, y5, y6, y7, y8, y9, y10⟩ : Ent)]).length = zs.length + 1 := by simp
              have e2 : zs.flatMap (fun e => e.cells.toList) ++ (Ent.cells ⟨y0, y1, y2, y3, y4, y5, y6, y7, y8, y9, y10⟩).toList = (zs ++ [(⟨y0, y1, y2, y3, y4, y5, y6, y7, y8, y9, y10⟩ : Ent)]).flatMap (fun e => e.cells.toList) := by
                rw [List.flatMap_append]; simp
              rw [e2] at h1
              show World.ownsRow _ n0 EntT 11 _ (zs ++ [(⟨y0, y1, y2, y3, y4, y5, y6, y7, y8, y9, y10⟩ : Ent)]).length _
              rw [e1]
              exact h1
          have hnw3 : n0 ≤ (w3.setCell ⟨c, 9, none⟩ (.slice (some ⟨g, 0, none⟩) (zs.length + 1) cap)).heap.size := by
            have := hB23.size
            simp [World.setCell]
            omega
          have f3 := Lib.frozen_of_heap hblk3 9
          have HM3 := Lib.hid hmi3
          have HST3 := Lib.hid hst3
          clear hmi3 hst3 hblk3 hrow2 hblk2 hown3 hgrow hat h2 hb2 hb2d hS2 hS2a hB23 HST2
          refine oneD (i := 6) (by rfl) (by kernel_rfl) (by rfl) ?_
          go_simp
          try refine ⟨hS3, ?_⟩
          try simp only [Act.put, List.setIfInBounds_toArray, List.set_cons_zero, List.set_cons_succ]
          refine oneD (i := 7) (by rfl) (by kernel_rfl) (by rfl) ?_
          go_simp
          refine ⟨by kernel_rfl, NoPanic.normal ?_⟩
          try simp only [Act.put, List.setIfInBounds_toArray, List.set_cons_zero, List.set_cons_succ]
          go_wp2_with fail
          go_roundw
          case rel => exact ⟨k + 1, _, by omega, by go_num, by rw [HSN.out]; exact HM3.out, by rw [HSN.out]; exact HST3.out, hnw3⟩
          case measure => simp [intOf]; omega
      · obtain rfl : k = vn := by omega
        obtain ⟨e1, e2⟩ : es = (entsR k r10).1 ∧ r11 = (entsR k r10).2 := by
          rw [← HENT.out]
          exact ⟨rfl, rfl⟩
        have HE1 := Lib.hid e1
        have HE2 := Lib.hid e2
        have HMI := Lib.hid hmi
        have HST := Lib.hid hst
        clear e1 e2 hmi hst
        go_wp2_with fail
        go_meet
        exact ⟨v', by rw [HE1.out]; exact HMI.out, by rw [HE2.out]; exact HST.out⟩
  case rest =>
  obtain ⟨v', hmi, hst⟩ := hcut
  obtain ⟨qa, qc, hv⟩ := hmi.slice
  have hv : v' = .slice qa es.length qc := hv
  subst hv
  have HM5 := Lib.hid hmi
  have ST5 := Lib.hid hst
  have hfn5 := hst.fn
  clear hmi hst HE4 ST4 hfn4 HENT HCNT HSHR
  go_wp2_with fail
  refine (K11.out _ ST5.out.rd).mono ?_
  rintro x w5 ⟨rfl, hr, hb⟩
  have HM6 := Lib.hid (HM5.out.but hb (by omega) (by omega))
  have ST6 := Lib.hid (ST5.out.next hzb hbN hr hb)
  clear hr hb HM5 ST5 hfn5
  go_wp2_with fail
  refine (K12.out _ ST6.out.rd).mono ?_
  rintro x w6 ⟨rfl, hr, hb⟩
  have HM7 := Lib.hid (HM6.out.but hb (by omega) (by omega))
  have ST7 := Lib.hid (ST6.out.next hzb hbN hr hb)
  clear hr hb HM6 ST6
  have hblk : w6.heap[c]? = some (.cells #[.int .i64 vk, .int .i64 vf, .int .i64 vo, .int .u64 vt, .int .u64 vi, .int .u64 vp, .int .u64 vc, .int .u64 vm, .bool yb, .slice qa es.length qc, .string ⟨#[]⟩] MsgT (0, 0)) := HM7.out.block
  have HBLK := Lib.hid hblk
  clear hblk
  have c0 : w6.cell? ⟨c, 0, none⟩ = some (.int .i64 vk) := Lib.cell_of_heap HBLK.out 0
  have c1 : w6.cell? ⟨c, 1, none⟩ = some (.int .i64 vf) := Lib.cell_of_heap HBLK.out 1
  have c2 : w6.cell? ⟨c, 2, none⟩ = some (.int .i64 vo) := Lib.cell_of_heap HBLK.out 2
  have c3 : w6.cell? ⟨c, 3, none⟩ = some (.int .u64 vt) := Lib.cell_of_heap HBLK.out 3
  have c4 : w6.cell? ⟨c, 4, none⟩ = some (.int .u64 vi) := Lib.cell_of_heap HBLK.out 4
  have c5 : w6.cell? ⟨c, 5, none⟩ = some (.int .u64 vp) := Lib.cell_of_heap HBLK.out 5
  have c6 : w6.cell? ⟨c, 6, none⟩ = some (.int .u64 vc) := Lib.cell_of_heap HBLK.out 6
  have c7 : w6.cell? ⟨c, 7, none⟩ = some (.int .u64 vm) := Lib.cell_of_heap HBLK.out 7
  have c8 : w6.cell? ⟨c, 8, none⟩ = some (.bool yb) := Lib.cell_of_heap HBLK.out 8
  have c9 : w6.cell? ⟨c, 9, none⟩ = some (.slice qa es.length qc) := Lib.cell_of_heap HBLK.out 9
  have c10 : w6.cell? ⟨c, 10, none⟩ = some (.string ⟨#[]⟩) := Lib.cell_of_heap HBLK.out 10
  have hfz : ∀ o, w6.frozen? ⟨c, o, none⟩ = false := fun o => Lib.frozen_of_heap HBLK.out o
  have hmi8 : MsgIn n0 c ⟨(vk : Int), (vf : Int), (vo : Int), (vt : Int), (vi : Int), (vp : Int), (vc : Int), (vm : Int), yb, ⟨sn.toArray⟩, es⟩ (.slice qa es.length qc) (w6.setCell ⟨c, 10, none⟩ (.string ⟨sn.toArray⟩)) := by
    refine ⟨?_, ?_⟩
    · have := HBLK.out
      simp [World.setCell, Array.getElem?_modify, this, Msg.cells]
    · exact HM7.out.row.kept (set_grown (w := w6) (b := c) (o := 10) (u := .string ⟨sn.toArray⟩)) (own_not HM7.out.row hc4)
  have HM8 := Lib.hid hmi8
  have ST8 := Lib.hid (ST7.out.set (o := 10) (v := .string ⟨sn.toArray⟩) hzb hbN hc)
  clear hmi8 HM7 ST7
  go_upto_region 13 with fail
  generalize (w6.setCell ⟨c, 10, none⟩ (.string ⟨sn.toArray⟩)) = w7 at *
  clear c0 c1 c2 c3 c4 c5 c6 c7 c8 c9 c10 hfz HBLK
  obtain ⟨u, bad⟩ := r13
  simp only at HGOT0
  cases bad
  case true =>
    have HGOT := Lib.hid (HGOT0.out.trans rfl : got = false)
    clear HGOT0 HRR HLV
    go_wp2_with fail
    refine (ok_any _ (u, true) w7 ST8.out.rd).mono ?_
    rintro x w7a ⟨rfl, rfl⟩
    have z0 : w7a.cell? ⟨w.heap.size, 0, none⟩ = some (.int .i64 0) := Lib.cell_of_heap ST8.out.zero 0
    have z1 : w7a.cell? ⟨w.heap.size, 1, none⟩ = some (.int .i64 0) := Lib.cell_of_heap ST8.out.zero 1
    have z2 : w7a.cell? ⟨w.heap.size, 2, none⟩ = some (.int .i64 0) := Lib.cell_of_heap ST8.out.zero 2
    have z3 : w7a.cell? ⟨w.heap.size, 3, none⟩ = some (.int .u64 0) := Lib.cell_of_heap ST8.out.zero 3
    have z4 : w7a.cell? ⟨w.heap.size, 4, none⟩ = some (.int .u64 0) := Lib.cell_of_heap ST8.out.zero 4
    have z5 : w7a.cell? ⟨w.heap.size, 5, none⟩ = some (.int .u64 0) := Lib.cell_of_heap ST8.out.zero 5
    have z6 : w7a.cell? ⟨w.heap.size, 6, none⟩ = some (.int .u64 0) := Lib.cell_of_heap ST8.out.zero 6
    have z7 : w7a.cell? ⟨w.heap.size, 7, none⟩ = some (.int .u64 0) := Lib.cell_of_heap ST8.out.zero 7
    have z8 : w7a.cell? ⟨w.heap.size, 8, none⟩ = some (.bool false) := Lib.cell_of_heap ST8.out.zero 8
    have z9 : w7a.cell? ⟨w.heap.size, 9, none⟩ = some (.slice none 0 0) := Lib.cell_of_heap ST8.out.zero 9
    have z10 : w7a.cell? ⟨w.heap.size, 10, none⟩ = some (.string ⟨#[]⟩) := Lib.cell_of_heap ST8.out.zero 10
    have fz : ∀ o, w7a.frozen? ⟨w.heap.size, o, none⟩ = false := fun o => Lib.frozen_of_heap ST8.out.zero o
    go_wp2_with fail
    have hz := ST8.out.zero
    refine bodyPost_ret (results_cell_row_tmp rfl _ _ w.heap.size MsgT (Msg.none.cells (.slice none 0 0)) (0, 0) _ rfl ?_ Tryz.underlying26 rfl (by kernel_rfl)) rfl ?_
    · simp [World.setCell, Array.getElem?_modify, hz, Msg.cells, Msg.none]
    · refine ⟨Msg.none, .slice none 0 0, by rw [HGOT.out]; rfl, fun h => (by rw [HGOT.out] at h; cases h), fun _ => rfl, entsAt_nil _, ?_⟩
      repeat' (first | with_reducible exact ST8.out.below | with_reducible exact Nat.le_refl _ | with_reducible refine Below.setCell ?_ ?_ _)
  case false =>
    cases u with
    | cons u0 ul =>
      have HGOT := Lib.hid (HGOT0.out.trans rfl : got = false)
      have hpos : (0 : Int) < (((u0 :: ul).length : Nat) : Int) := by simp
      clear HGOT0 HRR HLV
      go_wp2_with fail
      refine (ok_any _ (u0 :: ul, false) w7 ST8.out.rd).mono ?_
      rintro x w7a ⟨rfl, rfl⟩
      go_wp2_with fail
      refine (left_any _ (u0 :: ul, false) _ ST8.out.rd).mono ?_
      rintro x w7b ⟨rfl, rfl⟩
      have z0 : w7b.cell? ⟨w.heap.size, 0, none⟩ = some (.int .i64 0) := Lib.cell_of_heap ST8.out.zero 0
      have z1 : w7b.cell? ⟨w.heap.size, 1, none⟩ = some (.int .i64 0) := Lib.cell_of_heap ST8.out.zero 1
      have z2 : w7b.cell? ⟨w.heap.size, 2, none⟩ = some (.int .i64 0) := Lib.cell_of_heap ST8.out.zero 2
      have z3 : w7b.cell? ⟨w.heap.size, 3, none⟩ = some (.int .u64 0) := Lib.cell_of_heap ST8.out.zero 3
      have z4 : w7b.cell? ⟨w.heap.size, 4, none⟩ = some (.int .u64 0) := Lib.cell_of_heap ST8.out.zero 4
      have z5 : w7b.cell? ⟨w.heap.size, 5, none⟩ = some (.int .u64 0) := Lib.cell_of_heap ST8.out.zero 5
      have z6 : w7b.cell? ⟨w.heap.size, 6, none⟩ = some (.int .u64 0) := Lib.cell_of_heap ST8.out.zero 6
      have z7 : w7b.cell? ⟨w.heap.size, 7, none⟩ = some (.int .u64 0) := Lib.cell_of_heap ST8.out.zero 7
      have z8 : w7b.cell? ⟨w.heap.size, 8, none⟩ = some (.bool false) := Lib.cell_of_heap ST8.out.zero 8
      have z9 : w7b.cell? ⟨w.heap.size, 9, none⟩ = some (.slice none 0 0) := Lib.cell_of_heap ST8.out.zero 9
      have z10 : w7b.cell? ⟨w.heap.size, 10, none⟩ = some (.string ⟨#[]⟩) := Lib.cell_of_heap ST8.out.zero 10
      have fz : ∀ o, w7b.frozen? ⟨w.heap.size, o, none⟩ = false := fun o => Lib.frozen_of_heap ST8.out.zero o
      go_wp2_with fail
      have hz := ST8.out.zero
      refine bodyPost_ret (results_cell_row_tmp rfl _ _ w.heap.size MsgT (Msg.none.cells (.slice none 0 0)) (0, 0) _ rfl ?_ Tryz.underlying26 rfl (by kernel_rfl)) rfl ?_
      · simp [World.setCell, Array.getElem?_modify, hz, Msg.cells, Msg.none]
      · refine ⟨Msg.none, .slice none 0 0, by rw [HGOT.out]; rfl, fun h => (by rw [HGOT.out] at h; cases h), fun _ => rfl, entsAt_nil _, ?_⟩
        repeat' (first | with_reducible exact ST8.out.below | with_reducible exact Nat.le_refl _ | with_reducible refine Below.setCell ?_ ?_ _)
    | nil =>
      by_cases hy : 1 < vy
      · have HGOT := Lib.hid (HGOT0.out.trans (by rw [decide_eq_true hy]; rfl) : got = false)
        have hy2 : (1 : Int) < (vy : Int) := by omega
        clear HGOT0 HRR HLV
        go_wp2_with fail
        refine (ok_any _ ([], false) w7 ST8.out.rd).mono ?_
        rintro x w7a ⟨rfl, rfl⟩
        go_wp2_with fail
        refine (left_any _ ([], false) _ ST8.out.rd).mono ?_
        rintro x w7b ⟨rfl, rfl⟩
        have z0 : w7b.cell? ⟨w.heap.size, 0, none⟩ = some (.int .i64 0) := Lib.cell_of_heap ST8.out.zero 0
        have z1 : w7b.cell? ⟨w.heap.size, 1, none⟩ = some (.int .i64 0) := Lib.cell_of_heap ST8.out.zero 1
        have z2 : w7b.cell? ⟨w.heap.size, 2, none⟩ = some (.int .i64 0) := Lib.cell_of_heap ST8.out.zero 2
        have z3 : w7b.cell? ⟨w.heap.size, 3, none⟩ = some (.int .u64 0) := Lib.cell_of_heap ST8.out.zero 3
        have z4 : w7b.cell? ⟨w.heap.size, 4, none⟩ = some (.int .u64 0) := Lib.cell_of_heap ST8.out.zero 4
        have z5 : w7b.cell? ⟨w.heap.size, 5, none⟩ = some (.int .u64 0) := Lib.cell_of_heap ST8.out.zero 5
        have z6 : w7b.cell? ⟨w.heap.size, 6, none⟩ = some (.int .u64 0) := Lib.cell_of_heap ST8.out.zero 6
        have z7 : w7b.cell? ⟨w.heap.size, 7, none⟩ = some (.int .u64 0) := Lib.cell_of_heap ST8.out.zero 7
        have z8 : w7b.cell? ⟨w.heap.size, 8, none⟩ = some (.bool false) := Lib.cell_of_heap ST8.out.zero 8
        have z9 : w7b.cell? ⟨w.heap.size, 9, none⟩ = some (.slice none 0 0) := Lib.cell_of_heap ST8.out.zero 9
        have z10 : w7b.cell? ⟨w.heap.size, 10, none⟩ = some (.string ⟨#[]⟩) := Lib.cell_of_heap ST8.out.zero 10
        have fz : ∀ o, w7b.frozen? ⟨w.heap.size, o, none⟩ = false := fun o => Lib.frozen_of_heap ST8.out.zero o
        go_wp2_with fail
        have hz := ST8.out.zero
        refine bodyPost_ret (results_cell_row_tmp rfl _ _ w.heap.size MsgT (Msg.none.cells (.slice none 0 0)) (0, 0) _ rfl ?_ Tryz.underlying26 rfl (by kernel_rfl)) rfl ?_
        · simp [World.setCell, Array.getElem?_modify, hz, Msg.cells, Msg.none]
        · refine ⟨Msg.none, .slice none 0 0, by rw [HGOT.out]; rfl, fun h => (by rw [HGOT.out] at h; cases h), fun _ => rfl, entsAt_nil _, ?_⟩
          repeat' (first | with_reducible exact ST8.out.below | with_reducible exact Nat.le_refl _ | with_reducible refine Below.setCell ?_ ?_ _)
      · have hy2 : ¬ (1 : Int) < (vy : Int) := by omega
        have HG1 := Lib.hid (HGOT0.out.trans (by rw [decide_eq_false hy]; rfl) : got = (msgRightB ⟨(vk : Int), (vf : Int), (vo : Int), (vt : Int), (vi : Int), (vp : Int), (vc : Int), (vm : Int), yb, ⟨sn.toArray⟩, es⟩ && !decide (1 < msgLevelI ⟨(vk : Int), (vf : Int), (vo : Int), (vt : Int), (vi : Int), (vp : Int), (vc : Int), (vm : Int), yb, ⟨sn.toArray⟩, es⟩)))
        have HEN8 := Lib.hid (own_entsAt HM8.out.row rfl : EntsAt w7 (.slice qa es.length qc) es)
        have HR8 := Lib.hid (HRR.out w7 _ HEN8.out)
        clear HGOT0 hy HRR
        have HBLK8 := Lib.hid (show w7.heap[c]? = some (.cells #[.int .i64 vk, .int .i64 vf, .int .i64 vo, .int .u64 vt, .int .u64 vi, .int .u64 vp, .int .u64 vc, .int .u64 vm, .bool yb, .slice qa es.length qc, .string ⟨sn.toArray⟩] MsgT (0, 0)) from HM8.out.block)
        cases hg : msgRightB ⟨(vk : Int), (vf : Int), (vo : Int), (vt : Int), (vi : Int), (vp : Int), (vc : Int), (vm : Int), yb, ⟨sn.toArray⟩, es⟩
        · have HGOT := Lib.hid (HG1.out.trans (by rw [hg]; rfl) : got = false)
          rw [hg] at HR8
          clear HG1 HLV hg
          go_wp2_with fail
          refine (ok_any _ ([], false) w7 ST8.out.rd).mono ?_
          rintro x w7a ⟨rfl, rfl⟩
          go_wp2_with fail
          refine (left_any _ ([], false) _ ST8.out.rd).mono ?_
          rintro x w7b ⟨rfl, rfl⟩
          have c0 : w7b.cell? ⟨c, 0, none⟩ = some (.int .i64 vk) := Lib.cell_of_heap HBLK8.out 0
          have c1 : w7b.cell? ⟨c, 1, none⟩ = some (.int .i64 vf) := Lib.cell_of_heap HBLK8.out 1
          have c2 : w7b.cell? ⟨c, 2, none⟩ = some (.int .i64 vo) := Lib.cell_of_heap HBLK8.out 2
          have c3 : w7b.cell? ⟨c, 3, none⟩ = some (.int .u64 vt) := Lib.cell_of_heap HBLK8.out 3
          have c4 : w7b.cell? ⟨c, 4, none⟩ = some (.int .u64 vi) := Lib.cell_of_heap HBLK8.out 4
          have c5 : w7b.cell? ⟨c, 5, none⟩ = some (.int .u64 vp) := Lib.cell_of_heap HBLK8.out 5
          have c6 : w7b.cell? ⟨c, 6, none⟩ = some (.int .u64 vc) := Lib.cell_of_heap HBLK8.out 6
          have c7 : w7b.cell? ⟨c, 7, none⟩ = some (.int .u64 vm) := Lib.cell_of_heap HBLK8.out 7
          have c8 : w7b.cell? ⟨c, 8, none⟩ = some (.bool yb) := Lib.cell_of_heap HBLK8.out 8
          have c9 : w7b.cell? ⟨c, 9, none⟩ = some (.slice qa es.length qc) := Lib.cell_of_heap HBLK8.out 9
          have c10 : w7b.cell? ⟨c, 10, none⟩ = some (.string ⟨sn.toArray⟩) := Lib.cell_of_heap HBLK8.out 10
          go_wp2_with fail
          refine HR8.out.mono ?_
          rintro x w8 ⟨rfl, hb8⟩
          have ST9 := Lib.hid (ST8.out.keep hzb hbN hb8)
          clear hb8 c0 c1 c2 c3 c4 c5 c6 c7 c8 c9 c10
          have z0 : w8.cell? ⟨w.heap.size, 0, none⟩ = some (.int .i64 0) := Lib.cell_of_heap ST9.out.zero 0
          have z1 : w8.cell? ⟨w.heap.size, 1, none⟩ = some (.int .i64 0) := Lib.cell_of_heap ST9.out.zero 1
          have z2 : w8.cell? ⟨w.heap.size, 2, none⟩ = some (.int .i64 0) := Lib.cell_of_heap ST9.out.zero 2
          have z3 : w8.cell? ⟨w.heap.size, 3, none⟩ = some (.int .u64 0) := Lib.cell_of_heap ST9.out.zero 3
          have z4 : w8.cell? ⟨w.heap.size, 4, none⟩ = some (.int .u64 0) := Lib.cell_of_heap ST9.out.zero 4
          have z5 : w8.cell? ⟨w.heap.size, 5, none⟩ = some (.int .u64 0) := Lib.cell_of_heap ST9.out.zero 5
          have z6 : w8.cell? ⟨w.heap.size, 6, none⟩ = some (.int .u64 0) := Lib.cell_of_heap ST9.out.zero 6
          have z7 : w8.cell? ⟨w.heap.size, 7, none⟩ = some (.int .u64 0) := Lib.cell_of_heap ST9.out.zero 7
          have z8 : w8.cell? ⟨w.heap.size, 8, none⟩ = some (.bool false) := Lib.cell_of_heap ST9.out.zero 8
          have z9 : w8.cell? ⟨w.heap.size, 9, none⟩ = some (.slice none 0 0) := Lib.cell_of_heap ST9.out.zero 9
          have z10 : w8.cell? ⟨w.heap.size, 10, none⟩ = some (.string ⟨#[]⟩) := Lib.cell_of_heap ST9.out.zero 10
          have fz : ∀ o, w8.frozen? ⟨w.heap.size, o, none⟩ = false := fun o => Lib.frozen_of_heap ST9.out.zero o
          go_wp2_with fail
          have hz := ST9.out.zero
          refine bodyPost_ret (results_cell_row_tmp rfl _ _ w.heap.size MsgT (Msg.none.cells (.slice none 0 0)) (0, 0) _ rfl ?_ Tryz.underlying26 rfl (by kernel_rfl)) rfl ?_
          · simp [World.setCell, Array.getElem?_modify, hz, Msg.cells, Msg.none]
          · refine ⟨Msg.none, .slice none 0 0, by rw [HGOT.out]; rfl, fun h => (by rw [HGOT.out] at h; cases h), fun _ => rfl, entsAt_nil _, ?_⟩
            repeat' (first | with_reducible exact ST9.out.below | with_reducible exact Nat.le_refl _ | with_reducible refine Below.setCell ?_ ?_ _)
        · have HG2 := Lib.hid (HG1.out.trans (by rw [hg]; rfl) : got = !decide (1 < msgLevelI ⟨(vk : Int), (vf : Int), (vo : Int), (vt : Int), (vi : Int), (vp : Int), (vc : Int), (vm : Int), yb, ⟨sn.toArray⟩, es⟩))
          rw [hg] at HR8
          clear HG1 hg
          go_wp2_with fail
          refine (ok_any _ ([], false) w7 ST8.out.rd).mono ?_
          rintro x w7a ⟨rfl, rfl⟩
          go_wp2_with fail
          refine (left_any _ ([], false) _ ST8.out.rd).mono ?_
          rintro x w7b ⟨rfl, rfl⟩
          have c0 : w7b.cell? ⟨c, 0, none⟩ = some (.int .i64 vk) := Lib.cell_of_heap HBLK8.out 0
          have c1 : w7b.cell? ⟨c, 1, none⟩ = some (.int .i64 vf) := Lib.cell_of_heap HBLK8.out 1
          have c2 : w7b.cell? ⟨c, 2, none⟩ = some (.int .i64 vo) := Lib.cell_of_heap HBLK8.out 2
          have c3 : w7b.cell? ⟨c, 3, none⟩ = some (.int .u64 vt) := Lib.cell_of_heap HBLK8.out 3
          have c4 : w7b.cell? ⟨c, 4, none⟩ = some (.int .u64 vi) := Lib.cell_of_heap HBLK8.out 4
          have c5 : w7b.cell? ⟨c, 5, none⟩ = some (.int .u64 vp) := Lib.cell_of_heap HBLK8.out 5
          have c6 : w7b.cell? ⟨c, 6, none⟩ = some (.int .u64 vc) := Lib.cell_of_heap HBLK8.out 6
          have c7 : w7b.cell? ⟨c, 7, none⟩ = some (.int .u64 vm) := Lib.cell_of_heap HBLK8.out 7
          have c8 : w7b.cell? ⟨c, 8, none⟩ = some (.bool yb) := Lib.cell_of_heap HBLK8.out 8
          have c9 : w7b.cell? ⟨c, 9, none⟩ = some (.slice qa es.length qc) := Lib.cell_of_heap HBLK8.out 9
          have c10 : w7b.cell? ⟨c, 10, none⟩ = some (.string ⟨sn.toArray⟩) := Lib.cell_of_heap HBLK8.out 10
          go_wp2_with fail
          refine HR8.out.mono ?_
          rintro x w8 ⟨rfl, hb8⟩
          have ST9 := Lib.hid (ST8.out.keep hzb hbN hb8)
          have HBLK9 := Lib.hid ((hb8.block c (heap_lt HBLK8.out)).trans HBLK8.out)
          have HROW9 := Lib.hid (ownsRow_below HM8.out.row hb8)
          have HL9 := Lib.hid (HLV.out w8 _ (HEN8.out.below hb8))
          clear hb8 HLV c0 c1 c2 c3 c4 c5 c6 c7 c8 c9 c10
          have c0 : w8.cell? ⟨c, 0, none⟩ = some (.int .i64 vk) := Lib.cell_of_heap HBLK9.out 0
          have c1 : w8.cell? ⟨c, 1, none⟩ = some (.int .i64 vf) := Lib.cell_of_heap HBLK9.out 1
          have c2 : w8.cell? ⟨c, 2, none⟩ = some (.int .i64 vo) := Lib.cell_of_heap HBLK9.out 2
          have c3 : w8.cell? ⟨c, 3, none⟩ = some (.int .u64 vt) := Lib.cell_of_heap HBLK9.out 3
          have c4 : w8.cell? ⟨c, 4, none⟩ = some (.int .u64 vi) := Lib.cell_of_heap HBLK9.out 4
          have c5 : w8.cell? ⟨c, 5, none⟩ = some (.int .u64 vp) := Lib.cell_of_heap HBLK9.out 5
          have c6 : w8.cell? ⟨c, 6, none⟩ = some (.int .u64 vc) := Lib.cell_of_heap HBLK9.out 6
          have c7 : w8.cell? ⟨c, 7, none⟩ = some (.int .u64 vm) := Lib.cell_of_heap HBLK9.out 7
          have c8 : w8.cell? ⟨c, 8, none⟩ = some (.bool yb) := Lib.cell_of_heap HBLK9.out 8
          have c9 : w8.cell? ⟨c, 9, none⟩ = some (.slice qa es.length qc) := Lib.cell_of_heap HBLK9.out 9
          have c10 : w8.cell? ⟨c, 10, none⟩ = some (.string ⟨sn.toArray⟩) := Lib.cell_of_heap HBLK9.out 10
          rcases level_two ⟨(vk : Int), (vf : Int), (vo : Int), (vt : Int), (vi : Int), (vp : Int), (vc : Int), (vm : Int), yb, ⟨sn.toArray⟩, es⟩ with hlv | hlv
          rotate_left
          · have HGOT := Lib.hid (HG2.out.trans (by rw [hlv]; rfl) : got = false)
            rw [hlv] at HL9
            clear HG2 hlv
            go_wp2_with fail
            refine HL9.out.mono ?_
            rintro x w9 ⟨rfl, hb9⟩
            have ST10 := Lib.hid (ST9.out.keep hzb hbN hb9)
            clear hb9 c0 c1 c2 c3 c4 c5 c6 c7 c8 c9 c10
            have z0 : w9.cell? ⟨w.heap.size, 0, none⟩ = some (.int .i64 0) := Lib.cell_of_heap ST10.out.zero 0
            have z1 : w9.cell? ⟨w.heap.size, 1, none⟩ = some (.int .i64 0) := Lib.cell_of_heap ST10.out.zero 1
            have z2 : w9.cell? ⟨w.heap.size, 2, none⟩ = some (.int .i64 0) := Lib.cell_of_heap ST10.out.zero 2
            have z3 : w9.cell? ⟨w.heap.size, 3, none⟩ = some (.int .u64 0) := Lib.cell_of_heap ST10.out.zero 3
            have z4 : w9.cell? ⟨w.heap.size, 4, none⟩ = some (.int .u64 0) := Lib.cell_of_heap ST10.out.zero 4
            have z5 : w9.cell? ⟨w.heap.size, 5, none⟩ = some (.int .u64 0) := Lib.cell_of_heap ST10.out.zero 5
            have z6 : w9.cell? ⟨w.heap.size, 6, none⟩ = some (.int .u64 0) := Lib.cell_of_heap ST10.out.zero 6
            have z7 : w9.cell? ⟨w.heap.size, 7, none⟩ = some (.int .u64 0) := Lib.cell_of_heap ST10.out.zero 7
            have z8 : w9.cell? ⟨w.heap.size, 8, none⟩ = some (.bool false) := Lib.cell_of_heap ST10.out.zero 8
            have z9 : w9.cell? ⟨w.heap.size, 9, none⟩ = some (.slice none 0 0) := Lib.cell_of_heap ST10.out.zero 9
            have z10 : w9.cell? ⟨w.heap.size, 10, none⟩ = some (.string ⟨#[]⟩) := Lib.cell_of_heap ST10.out.zero 10
            have fz : ∀ o, w9.frozen? ⟨w.heap.size, o, none⟩ = false := fun o => Lib.frozen_of_heap ST10.out.zero o
            go_wp2_with fail
            have hz := ST10.out.zero
            refine bodyPost_ret (results_cell_row_tmp rfl _ _ w.heap.size MsgT (Msg.none.cells (.slice none 0 0)) (0, 0) _ rfl ?_ Tryz.underlying26 rfl (by kernel_rfl)) rfl ?_
            · simp [World.setCell, Array.getElem?_modify, hz, Msg.cells, Msg.none]
            · refine ⟨Msg.none, .slice none 0 0, by rw [HGOT.out]; rfl, fun h => (by rw [HGOT.out] at h; cases h), fun _ => rfl, entsAt_nil _, ?_⟩
              repeat' (first | with_reducible exact ST10.out.below | with_reducible exact Nat.le_refl _ | with_reducible refine Below.setCell ?_ ?_ _)
          have HGOT := Lib.hid (HG2.out.trans (by rw [hlv]; rfl) : got = true)
          rw [hlv] at HL9
          clear HG2 hlv
          go_wp2_with fail
          refine HL9.out.mono ?_
          rintro x w9 ⟨rfl, hb9⟩
          have ST10 := Lib.hid (ST9.out.keep hzb hbN hb9)
          have HBLK10 := Lib.hid ((hb9.block c (heap_lt HBLK9.out)).trans HBLK9.out)
          have HROW10 := Lib.hid (ownsRow_below HROW9.out hb9)
          have hzn0 : w.heap.size < n0 := by omega
          clear hb9 c0 c1 c2 c3 c4 c5 c6 c7 c8 c9 c10
          have c0 : w9.cell? ⟨c, 0, none⟩ = some (.int .i64 vk) := Lib.cell_of_heap HBLK10.out 0
          have c1 : w9.cell? ⟨c, 1, none⟩ = some (.int .i64 vf) := Lib.cell_of_heap HBLK10.out 1
          have c2 : w9.cell? ⟨c, 2, none⟩ = some (.int .i64 vo) := Lib.cell_of_heap HBLK10.out 2
          have c3 : w9.cell? ⟨c, 3, none⟩ = some (.int .u64 vt) := Lib.cell_of_heap HBLK10.out 3
          have c4 : w9.cell? ⟨c, 4, none⟩ = some (.int .u64 vi) := Lib.cell_of_heap HBLK10.out 4
          have c5 : w9.cell? ⟨c, 5, none⟩ = some (.int .u64 vp) := Lib.cell_of_heap HBLK10.out 5
          have c6 : w9.cell? ⟨c, 6, none⟩ = some (.int .u64 vc) := Lib.cell_of_heap HBLK10.out 6
          have c7 : w9.cell? ⟨c, 7, none⟩ = some (.int .u64 vm) := Lib.cell_of_heap HBLK10.out 7
          have c8 : w9.cell? ⟨c, 8, none⟩ = some (.bool yb) := Lib.cell_of_heap HBLK10.out 8
          have c9 : w9.cell? ⟨c, 9, none⟩ = some (.slice qa es.length qc) := Lib.cell_of_heap HBLK10.out 9
          have c10 : w9.cell? ⟨c, 10, none⟩ = some (.string ⟨sn.toArray⟩) := Lib.cell_of_heap HBLK10.out 10
          have z0 : w9.cell? ⟨w.heap.size, 0, none⟩ = some (.int .i64 0) := Lib.cell_of_heap ST10.out.zero 0
          have z1 : w9.cell? ⟨w.heap.size, 1, none⟩ = some (.int .i64 0) := Lib.cell_of_heap ST10.out.zero 1
          have z2 : w9.cell? ⟨w.heap.size, 2, none⟩ = some (.int .i64 0) := Lib.cell_of_heap ST10.out.zero 2
          have z3 : w9.cell? ⟨w.heap.size, 3, none⟩ = some (.int .u64 0) := Lib.cell_of_heap ST10.out.zero 3
          have z4 : w9.cell? ⟨w.heap.size, 4, none⟩ = some (.int .u64 0) := Lib.cell_of_heap ST10.out.zero 4
          have z5 : w9.cell? ⟨w.heap.size, 5, none⟩ = some (.int .u64 0) := Lib.cell_of_heap ST10.out.zero 5
          have z6 : w9.cell? ⟨w.heap.size, 6, none⟩ = some (.int .u64 0) := Lib.cell_of_heap ST10.out.zero 6
          have z7 : w9.cell? ⟨w.heap.size, 7, none⟩ = some (.int .u64 0) := Lib.cell_of_heap ST10.out.zero 7
          have z8 : w9.cell? ⟨w.heap.size, 8, none⟩ = some (.bool false) := Lib.cell_of_heap ST10.out.zero 8
          have z9 : w9.cell? ⟨w.heap.size, 9, none⟩ = some (.slice none 0 0) := Lib.cell_of_heap ST10.out.zero 9
          have z10 : w9.cell? ⟨w.heap.size, 10, none⟩ = some (.string ⟨#[]⟩) := Lib.cell_of_heap ST10.out.zero 10
          have fz : ∀ o, w9.frozen? ⟨w.heap.size, o, none⟩ = false := fun o => Lib.frozen_of_heap ST10.out.zero o
          go_wp2_with fail
          have hz := ST10.out.zero
          refine bodyPost_ret (results_cell_row_tmp rfl _ _ w.heap.size MsgT (Msg.cells ⟨(vk : Int), (vf : Int), (vo : Int), (vt : Int), (vi : Int), (vp : Int), (vc : Int), (vm : Int), yb, ⟨sn.toArray⟩, es⟩ (.slice qa es.length qc)) (0, 0) _ rfl ?_ Tryz.underlying26 rfl (by kernel_rfl)) rfl ?_
          · simp [World.setCell, Array.getElem?_modify, hz, Msg.cells]
          · refine ⟨⟨(vk : Int), (vf : Int), (vo : Int), (vt : Int), (vi : Int), (vp : Int), (vc : Int), (vm : Int), yb, ⟨sn.toArray⟩, es⟩, .slice qa es.length qc, by rw [HGOT.out]; rfl, fun _ => (by rw [HYV.out]), fun h => (by rw [HGOT.out] at h; cases h), ?_, ?_⟩
            · refine own_entsAt (base := n0) (n := es.length) ?_ rfl
              repeat' (first | with_reducible exact HROW10.out | with_reducible exact hzn0 | with_reducible refine own_set ?_ ?_)
            · repeat' (first | with_reducible exact ST10.out.below | with_reducible exact Nat.le_refl _ | with_reducible refine Below.setCell ?_ ?_ _)

end Go.Proofs.YtbjbgdnjcppjhaaGreatDoor
