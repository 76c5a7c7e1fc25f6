/-
  EntryTexts, the walk: what it answers, of an entry that is right. Condition: the table of the powers of ten reads as the program lays it. By an AI agent.
-/
import Derived.Test.YtbjbgdnjcppjhaaDoorEx04
import Derived.Test.YtbjbgdnjcppjhaaDoorMade04
import Derived.Test.YtbjbgdnjcppjhaaDoorSame
import Derived.Test.YtbjbgdnjcppjhaaDoorTextsP
import Derived.Deep.CutBlock
import Derived.BigQuiet
namespace Go.Proofs.YtbjbgdnjcppjhaaDoor
open Go.RowKit Go.Sort
set_option linter.unusedVariables false
set_option linter.unusedSimpArgs false

set_option maxRecDepth 100000 in
set_option maxHeartbeats 4000000 in
theorem texts_any (e : Ent) (own : Bool) (how n : Int) (s : ByteArray) (h : e.wf) (hh : 0 ≤ how ∧ how ≤ 255) (hn : 0 ≤ n ∧ n ≤ 255) (hs : s.size ≤ 9223372036854775807) (w : World) (ht : Tabs w) :
    Calls Tryd.prog 5 #[.agg (e.cells ++ #[.bool own]), .int .u8 how, .int .u8 n, .string s] w fun x w' => x = .returned (.bool true) ∧ Below w.heap.size w w' := by
  have hval : (.agg (e.cells ++ #[.bool own]) : Value) = .agg #[.int .u64 e.term, .int .u64 e.index, .int .i64 e.kind, .int .u64 e.client, .int .u64 e.seq, .int .u64 e.block, .int .u64 e.many, .int .i64 e.node, .int .i64 e.level, .string e.data, .string e.old, .bool own] := rfl
  have hval2 : (.agg (e.cells ++ #[.bool true]) : Value) = .agg #[.int .u64 e.term, .int .u64 e.index, .int .i64 e.kind, .int .u64 e.client, .int .u64 e.seq, .int .u64 e.block, .int .u64 e.many, .int .i64 e.node, .int .i64 e.level, .string e.data, .string e.old, .bool true] := rfl
  have hown := fun W => made04_own e h W
  rw [hval2] at hown
  rw [hval]
  obtain ⟨h0, h1⟩ := hh
  obtain ⟨n0, n1⟩ := hn
  have hx := own_small e
  have hex := fun W hW => examples04 W hW
  have HX := Lib.hid hx
  clear hx
  generalize ownEnt e = x at *
  have hxv : x.val = .agg #[.int .u64 x.term, .int .u64 x.index, .int .i64 x.kind, .int .u64 x.client, .int .u64 x.seq, .int .u64 x.block, .int .u64 x.many, .int .i64 x.node, .int .i64 x.level, .string x.data, .string x.old] := rfl
  rw [hxv] at hown
  have HO := Lib.hid hown
  have HE := Lib.hid hex
  clear hval hval2 hown hxv hex h
  go_enter Tryd.func5, Tryd.ntmps5
  go_wp2_with fail
  refine (HE.out _ (ht.alloc _)).mono ?_
  rintro v w1 ⟨rfl, hb1⟩
  have hm : w1.heap[w.heap.size]? = some (.cells #[.int .u64 e.term, .int .u64 e.index, .int .i64 e.kind, .int .u64 e.client, .int .u64 e.seq, .int .u64 e.block, .int .u64 e.many, .int .i64 e.node, .int .i64 e.level, .string e.data, .string e.old, .bool own] 30 (0, 0)) := by
    rw [hb1.block _ (by simp)]; exact heap_alloc_new w _
  have hc : ∀ o, w1.cell? ⟨w.heap.size, o, none⟩ = (#[.int .u64 e.term, .int .u64 e.index, .int .i64 e.kind, .int .u64 e.client, .int .u64 e.seq, .int .u64 e.block, .int .u64 e.many, .int .i64 e.node, .int .i64 e.level, .string e.data, .string e.old, .bool own] : Array Value)[o]? := fun o => Lib.cell_of_heap hm o
  have a0 := hc 0
  have a1 := hc 1
  have a2 := hc 2
  have a3 := hc 3
  have a4 := hc 4
  have a5 := hc 5
  have a6 := hc 6
  have a7 := hc 7
  have a8 := hc 8
  have a9 := hc 9
  have a10 := hc 10
  have a11 := hc 11
  have f11 : w1.frozen? ⟨w.heap.size, 11, none⟩ = false := Lib.frozen_of_heap hm 11
  have hb01 : Below w.heap.size w w1 := ((Below.refl _ _).alloc (Nat.le_refl _) _).trans (hb1.mono (by simp))
  have ht1 := ht.next hb01
  simp only [List.getElem?_toArray, List.getElem?_cons_zero, List.getElem?_cons_succ] at a0 a1 a2 a3 a4 a5 a6 a7 a8 a9 a10 a11
  clear hc hm hb1
  have hown1 := fun W => HO.out W
  go_wp2_with fail
  refine (HO.out _).mono ?_
  rintro v w2 ⟨rfl, hb2⟩
  have hb02 : Below w.heap.size w w2 := (hb01.setCell (Nat.le_refl _) _).trans (hb2.mono (by have := hb01.size; simpa using this))
  have ht2 := ht.next hb02
  clear a0 a1 a2 a3 a4 a5 a6 a7 a8 a9 a10 a11 f11 hb2 hown1
  have hlv : 0 ≤ x.level ∧ x.level ≤ 2 := HX.out.1.level
  go_upto_block 0 with fail
  go_cut [] from 21 to 64 (fun wx => ∃ y : Ent, y = textY x how n s ∧ wx = (w2.alloc (.cells #[.int .u64 x.term, .int .u64 x.index, .int .i64 x.kind, .int .u64 x.client, .int .u64 x.seq, .int .u64 x.block, .int .u64 x.many, .int .i64 x.node, .int .i64 x.level, .string x.data, .string x.old] EntT)).alloc (.cells #[.int .u64 y.term, .int .u64 y.index, .int .i64 y.kind, .int .u64 y.client, .int .u64 y.seq, .int .u64 y.block, .int .u64 y.many, .int .i64 y.node, .int .i64 y.level, .string y.data, .string y.old] EntT))
  case first =>
    rcases seven how with hj | hj | hj | hj | hj | hj | hj
    · have e := textY_0 x how n s hj
      have HEQ := Lib.hid e
      clear e
      go_wp2_with fail
      go_meet
      exact ⟨_, HEQ.out.symm, rfl⟩
    · have e := textY_1 x how n s hj
      have HEQ := Lib.hid e
      clear e
      go_wp2_with fail
      go_meet
      exact ⟨_, HEQ.out.symm, rfl⟩
    · have e := textY_2 x how n s hj
      have HEQ := Lib.hid e
      clear e
      go_wp2_with fail
      go_meet
      exact ⟨_, HEQ.out.symm, rfl⟩
    · have e := textY_3 x how n s hj
      have HEQ := Lib.hid e
      clear e
      go_wp2_with fail
      go_meet
      exact ⟨_, HEQ.out.symm, rfl⟩
    · have e := textY_4 x how n s hj
      have HEQ := Lib.hid e
      clear e
      go_wp2_with fail
      go_meet
      exact ⟨_, HEQ.out.symm, rfl⟩
    · have e := textY_5 x how n s hj
      have HEQ := Lib.hid e
      clear e
      go_wp2_with fail
      go_meet
      exact ⟨_, HEQ.out.symm, rfl⟩
    · have e := textY_6 x how n s hj
      have HEQ := Lib.hid e
      clear e
      go_wp2_with fail
      go_meet
      exact ⟨_, HEQ.out.symm, rfl⟩
  case rest =>
  obtain ⟨y, hy, rfl⟩ := hcut
  obtain ⟨hsx, hrx, hkx⟩ := HX.out
  obtain ⟨hyw, hyd, hyo⟩ := textY_wf x how n s hsx ⟨n0, n1⟩
  have hlaw := texts_law x how n s hsx n0 hrx
  rw [← hy] at hyw hyd hyo hlaw
  have hxw := hsx.wf
  have hRx := fun W => right_any x hxw W
  have hRy := fun W => right_any y hyw W
  have hTx := fun W hW => text_any x hxw (Nat.le_trans hsx.data (by decide)) (Nat.le_trans hsx.old (by decide)) W hW
  have hTy := fun W hW => text_any y hyw (Nat.le_trans hyd (by decide)) (Nat.le_trans hyo (by decide)) W hW
  have hSm := fun W => same_any x y W
  have hEq := ent_eq_run x y
  have vx : x.val = .agg #[.int .u64 x.term, .int .u64 x.index, .int .i64 x.kind, .int .u64 x.client, .int .u64 x.seq, .int .u64 x.block, .int .u64 x.many, .int .i64 x.node, .int .i64 x.level, .string x.data, .string x.old] := rfl
  have vy : y.val = .agg #[.int .u64 y.term, .int .u64 y.index, .int .i64 y.kind, .int .u64 y.client, .int .u64 y.seq, .int .u64 y.block, .int .u64 y.many, .int .i64 y.node, .int .i64 y.level, .string y.data, .string y.old] := rfl
  rw [hrx] at hRx
  rw [vx] at hRx hTx hSm hEq
  rw [vy] at hRy hTy hSm hEq
  have ex := (entAt_new w2 x EntT).below ((Below.refl _ _).alloc (Nat.le_refl _) (.cells #[.int .u64 y.term, .int .u64 y.index, .int .i64 y.kind, .int .u64 y.client, .int .u64 y.seq, .int .u64 y.block, .int .u64 y.many, .int .i64 y.node, .int .i64 y.level, .string y.data, .string y.old] EntT))
  have ey := entAt_new (w2.alloc (.cells #[.int .u64 x.term, .int .u64 x.index, .int .i64 x.kind, .int .u64 x.client, .int .u64 x.seq, .int .u64 x.block, .int .u64 x.many, .int .i64 x.node, .int .i64 x.level, .string x.data, .string x.old] EntT)) y EntT
  simp only [World.size_alloc, Ent.cells] at ex ey
  have hbW : Below w.heap.size w ((w2.alloc (.cells #[.int .u64 x.term, .int .u64 x.index, .int .i64 x.kind, .int .u64 x.client, .int .u64 x.seq, .int .u64 x.block, .int .u64 x.many, .int .i64 x.node, .int .i64 x.level, .string x.data, .string x.old] EntT)).alloc (.cells #[.int .u64 y.term, .int .u64 y.index, .int .i64 y.kind, .int .u64 y.client, .int .u64 y.seq, .int .u64 y.block, .int .u64 y.many, .int .i64 y.node, .int .i64 y.level, .string y.data, .string y.old] EntT)) := (hb02.alloc hb02.size _).alloc (by have := hb02.size; simp; omega) _
  have htW := ht.next hbW
  generalize (w2.alloc (.cells #[.int .u64 x.term, .int .u64 x.index, .int .i64 x.kind, .int .u64 x.client, .int .u64 x.seq, .int .u64 x.block, .int .u64 x.many, .int .i64 x.node, .int .i64 x.level, .string x.data, .string x.old] EntT)).alloc (.cells #[.int .u64 y.term, .int .u64 y.index, .int .i64 y.kind, .int .u64 y.client, .int .u64 y.seq, .int .u64 y.block, .int .u64 y.many, .int .i64 y.node, .int .i64 y.level, .string y.data, .string y.old] EntT) = W at *
  generalize w2.heap.size + 1 = b11 at *
  generalize w2.heap.size = b10 at *
  have KY := Lib.hid ey
  have KW := Lib.hid hlaw
  have KTX := Lib.hid hTx
  have KTY := Lib.hid hTy
  have KRX := Lib.hid hRx
  have KRY := Lib.hid hRy
  have KSM := Lib.hid hSm
  have KX := Lib.hid ex
  generalize hv0 : Value.agg #[.int .u64 e.term, .int .u64 e.index, .int .i64 e.kind, .int .u64 e.client, .int .u64 e.seq, .int .u64 e.block, .int .u64 e.many, .int .i64 e.node, .int .i64 e.level, .string e.data, .string e.old, .bool own] = v0 at *
  generalize hv1 : Value.agg #[.int .u64 e.term, .int .u64 e.index, .int .i64 e.kind, .int .u64 e.client, .int .u64 e.seq, .int .u64 e.block, .int .u64 e.many, .int .i64 e.node, .int .i64 e.level, .string e.data, .string e.old, .bool true] = v1 at *
  generalize hvx : Value.agg #[.int .u64 x.term, .int .u64 x.index, .int .i64 x.kind, .int .u64 x.client, .int .u64 x.seq, .int .u64 x.block, .int .u64 x.many, .int .i64 x.node, .int .i64 x.level, .string x.data, .string x.old] = zx at *
  generalize hvy : Value.agg #[.int .u64 y.term, .int .u64 y.index, .int .i64 y.kind, .int .u64 y.client, .int .u64 y.seq, .int .u64 y.block, .int .u64 y.many, .int .i64 y.node, .int .i64 y.level, .string y.data, .string y.old] = zy at *
  have hG : ∀ (a b : Nat) (U : World), (eqGuard BinOp.eql 26 (.tmp a) (.tmp b) zx zy).run Tryd.prog U = .ok () U := fun a b U => by
    rw [← hvx, ← hvy]
    go_simp
  clear hv0 hv1
  clear HX HO HE hsx hrx hkx hyw hyd hyo hlaw hxw hRx hRy hTx hTy hSm vx vy hy ht hb02 ht2 hb01 ht1
  obtain ⟨a0, a1, a2, a3, a4, a5, a6, a7, a8, a9, a10⟩ := ex
  simp only [Nat.zero_add] at a1 a2 a3 a4 a5 a6 a7 a8 a9 a10
  clear ey
  go_wp2_with fail
  refine (KRX.out _).mono ?_
  rintro v w3 ⟨rfl, hb3⟩
  clear a0 a1 a2 a3 a4 a5 a6 a7 a8 a9 a10
  obtain ⟨a0, a1, a2, a3, a4, a5, a6, a7, a8, a9, a10⟩ := KY.out.below hb3
  simp only [Nat.zero_add] at a1 a2 a3 a4 a5 a6 a7 a8 a9 a10
  go_wp2_with fail
  refine (KRY.out _).mono ?_
  rintro v w4 ⟨rfl, hb4⟩
  have hb34 := hb3.trans (hb4.mono hb3.size)
  clear a0 a1 a2 a3 a4 a5 a6 a7 a8 a9 a10
  have hx4 := KX.out.below hb34
  have hy4 := KY.out.below hb34
  have hbw4 := hbW.trans (hb34.mono hbW.size)
  have ht4 := htW.next hb34
  clear hb3 hb4 hb34 KX KY hbW htW
  cases hry : rightB y
  · clear hy4
    obtain ⟨a0, a1, a2, a3, a4, a5, a6, a7, a8, a9, a10⟩ := hx4
    simp only [Nat.zero_add] at a1 a2 a3 a4 a5 a6 a7 a8 a9 a10
    go_wp2_with fail
    refine (KRX.out _).mono ?_
    rintro v w5 ⟨rfl, hb5⟩
    clear a0 a1 a2 a3 a4 a5 a6 a7 a8 a9 a10
    go_wp2_with fail
    go_ret
    exact ⟨rfl, hbw4.trans (hb5.mono hbw4.size)⟩
  · have hl := KW.out hry
    have hs1 := sameB_iff x y
    obtain ⟨a0, a1, a2, a3, a4, a5, a6, a7, a8, a9, a10⟩ := hx4
    obtain ⟨b0, b1, b2, b3, b4, b5, b6, b7, b8, b9, b10'⟩ := hy4
    simp only [Nat.zero_add] at a1 a2 a3 a4 a5 a6 a7 a8 a9 a10 b1 b2 b3 b4 b5 b6 b7 b8 b9 b10'
    have d0 := cell_regrown a0
    have g0 := cell_regrown b0
    have d1 := cell_regrown a1
    have g1 := cell_regrown b1
    have d2 := cell_regrown a2
    have g2 := cell_regrown b2
    have d3 := cell_regrown a3
    have g3 := cell_regrown b3
    have d4 := cell_regrown a4
    have g4 := cell_regrown b4
    have d5 := cell_regrown a5
    have g5 := cell_regrown b5
    have d6 := cell_regrown a6
    have g6 := cell_regrown b6
    have d7 := cell_regrown a7
    have g7 := cell_regrown b7
    have d8 := cell_regrown a8
    have g8 := cell_regrown b8
    have d9 := cell_regrown a9
    have g9 := cell_regrown b9
    have d10 := cell_regrown a10
    have g10 := cell_regrown b10'
    have hSM := KSM.out
    have hTX := KTX.out
    have hTY := KTY.out
    have ha : Hid (sameB x y = true → textL y = textL x) := fun h => by rw [hs1.1 h]
    have hb : Hid (sameB x y = false → textL x ≠ textL y) := fun h he => by
      have := hs1.2 (hl he)
      rw [h] at this
      cases this
    clear KW KSM KTX KTY KRX KRY hs1 hl
    generalize sameB x y = r at *
    generalize textL x = tx at *
    generalize textL y = ty at *
    cases r
    · have hne : (tx == ty) = false := beq_eq_false_iff_ne.2 (hb.out rfl)
      clear ha hb
      go_wp2_with fail
      refine wp_region_quiet_below (by kernel_rfl) (by kernel_rfl) ?_
      go_big_quiet_step (fail)
      go_big_quiet_step (fail)
      go_big_quiet_step (fail)
      go_big_quiet_step ((go_at_call 17; exact meetB fun U hb => hTX U (ht4.next hb)))
      go_big_quiet_step (fail)
      repeat (go_big_quiet_step (first | (go_at_call 17; exact meetB fun U hb => hTY U (ht4.next hb)) | (go_at_call 19; exact meetB fun U hb => hSM U)))
      refine wpQuiet_nil ?_
      intro w5 hw5
      obtain ⟨p5, hw5⟩ := hw5
      have hb5 := below_regrown w4 p5.d p5.os
      rw [← hw5] at hb5
      clear hw5 d0 d1 d2 d3 d4 d5 d6 d7 d8 d9 d10 g0 g1 g2 g3 g4 g5 g6 g7 g8 g9 g10 a0 a1 a2 a3 a4 a5 a6 a7 a8 a9 a10 b0 b1 b2 b3 b4 b5 b6 b7 b8 b9 b10' hTX hTY hSM hEq
      go_wp2_with fail
      go_ret
      exact ⟨rfl, hbw4.trans (hb5.mono hbw4.size)⟩
    · obtain rfl := ha.out rfl
      go_wp2_with fail
      refine wp_region_quiet_below (by kernel_rfl) (by kernel_rfl) ?_
      go_big_quiet_step (fail)
      go_big_quiet_step (fail)
      go_big_quiet_step (fail)
      go_big_quiet_step ((go_at_call 17; exact meetB fun U hb => hTX U (ht4.next hb)))
      go_big_quiet_step (fail)
      repeat (go_big_quiet_step (first | (go_at_call 17; exact meetB fun U hb => hTY U (ht4.next hb)) | (go_at_call 19; exact meetB fun U hb => hSM U)))
      refine wpQuiet_nil ?_
      intro w5 hw5
      obtain ⟨p5, hw5⟩ := hw5
      have hb5 := below_regrown w4 p5.d p5.os
      rw [← hw5] at hb5
      clear hw5 d0 d1 d2 d3 d4 d5 d6 d7 d8 d9 d10 g0 g1 g2 g3 g4 g5 g6 g7 g8 g9 g10 a0 a1 a2 a3 a4 a5 a6 a7 a8 a9 a10 b0 b1 b2 b3 b4 b5 b6 b7 b8 b9 b10' hTX hTY hSM hEq
      go_wp2_with fail
      go_ret
      exact ⟨rfl, hbw4.trans (hb5.mono hbw4.size)⟩

end Go.Proofs.YtbjbgdnjcppjhaaDoor
