/-
  EntryRight: the walk. Conditions: the arguments are of their kinds, their texts of at most 2^20 bytes; the table of the powers of ten reads as the program lays it. By an AI agent.
-/
import Derived.Test.YtbjbgdnjcppjhaaDoorRefText
import Derived.Test.YtbjbgdnjcppjhaaDoorRefRight
import Derived.Test.YtbjbgdnjcppjhaaDoorMade04
import Derived.Test.YtbjbgdnjcppjhaaDoorTextsP
import Derived.Test.YtbjbgdnjcppjhaaDoorEx04
namespace Go.Proofs.YtbjbgdnjcppjhaaDoor
open Go.RowKit Go.Sort
set_option linter.unusedVariables false
set_option linter.unusedSimpArgs false

/-- what is made of an entry's parts -/
def madeEnt (e : Ent) (own : Bool) : Ent := if own then ownEnt e else e
theorem madeEnt_fine (e : Ent) (own : Bool) (h : e.wf) (hd : e.data.size ≤ 1048576) (ho : e.old.size ≤ 1048576) : (madeEnt e own).wf ∧ (madeEnt e own).data.size ≤ 1048576 ∧ (madeEnt e own).old.size ≤ 1048576 := by
  cases own
  · exact ⟨h, hd, ho⟩
  · have hs := (own_small e).1
    exact ⟨hs.wf, Nat.le_trans hs.data (by decide), Nat.le_trans hs.old (by decide)⟩
theorem sameB_self (a : Ent) : sameB a a = true := (sameB_iff a a).2 rfl

set_option maxRecDepth 100000 in
set_option maxHeartbeats 8000000 in
theorem entRight_any (a b : Ent) (own1 own2 : Bool) (k : Int) (ha : a.wf) (had : a.data.size ≤ 1048576) (hao : a.old.size ≤ 1048576) (hb : b.wf) (hbd : b.data.size ≤ 1048576) (hbo : b.old.size ≤ 1048576) (w : World) (ht : Tabs w) :
    Calls Tryd.prog 4 #[.agg (a.cells ++ #[.bool own1]), .agg (b.cells ++ #[.bool own2]), .int .i64 k] w fun x w' => x = .returned (.bool true) ∧ Below w.heap.size w w' := by
  have hva : (.agg (a.cells ++ #[.bool own1]) : Value) = .agg #[.int .u64 a.term, .int .u64 a.index, .int .i64 a.kind, .int .u64 a.client, .int .u64 a.seq, .int .u64 a.block, .int .u64 a.many, .int .i64 a.node, .int .i64 a.level, .string a.data, .string a.old, .bool own1] := rfl
  have hvb : (.agg (b.cells ++ #[.bool own2]) : Value) = .agg #[.int .u64 b.term, .int .u64 b.index, .int .i64 b.kind, .int .u64 b.client, .int .u64 b.seq, .int .u64 b.block, .int .u64 b.many, .int .i64 b.node, .int .i64 b.level, .string b.data, .string b.old, .bool own2] := rfl
  rw [hva, hvb]
  have hma : ∀ W, Calls Tryd.prog 11 #[.agg #[.int .u64 a.term, .int .u64 a.index, .int .i64 a.kind, .int .u64 a.client, .int .u64 a.seq, .int .u64 a.block, .int .u64 a.many, .int .i64 a.node, .int .i64 a.level, .string a.data, .string a.old, .bool own1]] W fun r W' => r = .returned (.agg #[.int .u64 (madeEnt a own1).term, .int .u64 (madeEnt a own1).index, .int .i64 (madeEnt a own1).kind, .int .u64 (madeEnt a own1).client, .int .u64 (madeEnt a own1).seq, .int .u64 (madeEnt a own1).block, .int .u64 (madeEnt a own1).many, .int .i64 (madeEnt a own1).node, .int .i64 (madeEnt a own1).level, .string (madeEnt a own1).data, .string (madeEnt a own1).old]) ∧ Below W.heap.size W W' := fun W => made04_any a own1 ha W
  have hmb : ∀ W, Calls Tryd.prog 11 #[.agg #[.int .u64 b.term, .int .u64 b.index, .int .i64 b.kind, .int .u64 b.client, .int .u64 b.seq, .int .u64 b.block, .int .u64 b.many, .int .i64 b.node, .int .i64 b.level, .string b.data, .string b.old, .bool own2]] W fun r W' => r = .returned (.agg #[.int .u64 (madeEnt b own2).term, .int .u64 (madeEnt b own2).index, .int .i64 (madeEnt b own2).kind, .int .u64 (madeEnt b own2).client, .int .u64 (madeEnt b own2).seq, .int .u64 (madeEnt b own2).block, .int .u64 (madeEnt b own2).many, .int .i64 (madeEnt b own2).node, .int .i64 (madeEnt b own2).level, .string (madeEnt b own2).data, .string (madeEnt b own2).old]) ∧ Below W.heap.size W W' := fun W => made04_any b own2 hb W
  obtain ⟨hx1, hx2, hx3⟩ := madeEnt_fine a own1 ha had hao
  have hex := fun W hW => examples04 W hW
  generalize madeEnt a own1 = x at *
  generalize madeEnt b own2 = y at *
  have hr1 : ∀ W, Calls Tryd.prog 10 #[.agg #[.int .u64 x.term, .int .u64 x.index, .int .i64 x.kind, .int .u64 x.client, .int .u64 x.seq, .int .u64 x.block, .int .u64 x.many, .int .i64 x.node, .int .i64 x.level, .string x.data, .string x.old]] W fun r W' => r = .returned (.bool (rightB x)) ∧ Below W.heap.size W W' := fun W => right_any x hx1 W
  have hr2 : ∀ W, Calls Tryd.prog 14 #[.agg #[.int .u64 x.term, .int .u64 x.index, .int .i64 x.kind, .int .u64 x.client, .int .u64 x.seq, .int .u64 x.block, .int .u64 x.many, .int .i64 x.node, .int .i64 x.level, .string x.data, .string x.old]] W fun r W' => r = .returned (.bool (rightB x)) ∧ Below W.heap.size W W' := fun W => refRight_any x hx1 W
  have hl1 : ∀ W, Calls Tryd.prog 15 #[.agg #[.int .u64 x.term, .int .u64 x.index, .int .i64 x.kind, .int .u64 x.client, .int .u64 x.seq, .int .u64 x.block, .int .u64 x.many, .int .i64 x.node, .int .i64 x.level, .string x.data, .string x.old]] W fun r W' => r = .returned (.int .i64 (levelI x.kind)) ∧ Below W.heap.size W W' := fun W => level_any x W
  have hl2 : ∀ W, Calls Tryd.prog 16 #[.agg #[.int .u64 x.term, .int .u64 x.index, .int .i64 x.kind, .int .u64 x.client, .int .u64 x.seq, .int .u64 x.block, .int .u64 x.many, .int .i64 x.node, .int .i64 x.level, .string x.data, .string x.old]] W fun r W' => r = .returned (.int .i64 (levelI x.kind)) ∧ Below W.heap.size W W' := fun W => refLevel_any x W
  have ht1 : ∀ W, Tabs W → Calls Tryd.prog 17 #[.agg #[.int .u64 x.term, .int .u64 x.index, .int .i64 x.kind, .int .u64 x.client, .int .u64 x.seq, .int .u64 x.block, .int .u64 x.many, .int .i64 x.node, .int .i64 x.level, .string x.data, .string x.old]] W fun r W' => r = .returned (.string ⟨(textL x).toArray⟩) ∧ Below W.heap.size W W' := fun W hW => text_any x hx1 hx2 hx3 W hW
  have ht2 : ∀ W, Calls Tryd.prog 18 #[.agg #[.int .u64 x.term, .int .u64 x.index, .int .i64 x.kind, .int .u64 x.client, .int .u64 x.seq, .int .u64 x.block, .int .u64 x.many, .int .i64 x.node, .int .i64 x.level, .string x.data, .string x.old]] W fun r W' => r = .returned (.string ⟨(textL x).toArray⟩) ∧ Below W.heap.size W W' := fun W => refText_any x hx1 hx2 hx3 W
  have hs1 : ∀ W, Calls Tryd.prog 19 #[.agg #[.int .u64 x.term, .int .u64 x.index, .int .i64 x.kind, .int .u64 x.client, .int .u64 x.seq, .int .u64 x.block, .int .u64 x.many, .int .i64 x.node, .int .i64 x.level, .string x.data, .string x.old], .agg #[.int .u64 y.term, .int .u64 y.index, .int .i64 y.kind, .int .u64 y.client, .int .u64 y.seq, .int .u64 y.block, .int .u64 y.many, .int .i64 y.node, .int .i64 y.level, .string y.data, .string y.old]] W fun r W' => r = .returned (.bool (sameB x y)) ∧ Below W.heap.size W W' := fun W => same_any x y W
  have hs2 : ∀ W, Calls Tryd.prog 20 #[.agg #[.int .u64 x.term, .int .u64 x.index, .int .i64 x.kind, .int .u64 x.client, .int .u64 x.seq, .int .u64 x.block, .int .u64 x.many, .int .i64 x.node, .int .i64 x.level, .string x.data, .string x.old], .agg #[.int .u64 y.term, .int .u64 y.index, .int .i64 y.kind, .int .u64 y.client, .int .u64 y.seq, .int .u64 y.block, .int .u64 y.many, .int .i64 y.node, .int .i64 y.level, .string y.data, .string y.old]] W fun r W' => r = .returned (.bool (sameB x y)) ∧ Below W.heap.size W W' := fun W => refSame_any x y W
  have hs3 : ∀ W, Calls Tryd.prog 19 #[.agg #[.int .u64 x.term, .int .u64 x.index, .int .i64 x.kind, .int .u64 x.client, .int .u64 x.seq, .int .u64 x.block, .int .u64 x.many, .int .i64 x.node, .int .i64 x.level, .string x.data, .string x.old], .agg #[.int .u64 x.term, .int .u64 x.index, .int .i64 x.kind, .int .u64 x.client, .int .u64 x.seq, .int .u64 x.block, .int .u64 x.many, .int .i64 x.node, .int .i64 x.level, .string x.data, .string x.old]] W fun r W' => r = .returned (.bool true) ∧ Below W.heap.size W W' := fun W => sameB_self x ▸ same_any x x W
  have hf1 : ∀ W, Calls Tryd.prog 12 #[.int .i64 k] W fun r W' => r = .returned (.tuple #[.string ⟨(entL k).toArray⟩, .bool (entOk k)]) ∧ Below W.heap.size W W' := fun W => fields_any k W
  have hf2 : ∀ W, Calls Tryd.prog 13 #[.int .i64 k] W fun r W' => r = .returned (.tuple #[.string ⟨(entL k).toArray⟩, .bool (entOk k)]) ∧ Below W.heap.size W W' := fun W => refFields_any k W
  generalize rightB x = vr at *
  generalize levelI x.kind = vl at *
  generalize textL x = vt at *
  generalize sameB x y = vs at *
  generalize entL k = vf at *
  generalize entOk k = vo at *
  have HMA := Lib.hid hma
  have HMB := Lib.hid hmb
  have HEX := Lib.hid hex
  have HR1 := Lib.hid hr1
  have HR2 := Lib.hid hr2
  have HL1 := Lib.hid hl1
  have HL2 := Lib.hid hl2
  have HT1 := Lib.hid ht1
  have HT2 := Lib.hid ht2
  have HS1 := Lib.hid hs1
  have HS2 := Lib.hid hs2
  have HS3 := Lib.hid hs3
  have HF1 := Lib.hid hf1
  have HF2 := Lib.hid hf2
  clear hva hvb hma hmb hex hr1 hr2 hl1 hl2 ht1 ht2 hs1 hs2 hs3 hf1 hf2 hx1 hx2 hx3 ha hb had hao hbd hbo
  go_enter Tryd.func4, Tryd.ntmps4
  go_wp2_with fail
  refine (HEX.out _ ((ht.alloc _).alloc _)).mono ?_
  rintro v w1 ⟨rfl, hb1⟩
  have hm1 : w1.heap[w.heap.size]? = some (.cells #[.int .u64 a.term, .int .u64 a.index, .int .i64 a.kind, .int .u64 a.client, .int .u64 a.seq, .int .u64 a.block, .int .u64 a.many, .int .i64 a.node, .int .i64 a.level, .string a.data, .string a.old, .bool own1] 30 (0, 0)) := by
    rw [hb1.block _ (by simp; omega), Below.heap_alloc _ _ _ (by simp)]; exact heap_alloc_new w _
  have hm2 : w1.heap[w.heap.size + 1]? = some (.cells #[.int .u64 b.term, .int .u64 b.index, .int .i64 b.kind, .int .u64 b.client, .int .u64 b.seq, .int .u64 b.block, .int .u64 b.many, .int .i64 b.node, .int .i64 b.level, .string b.data, .string b.old, .bool own2] 30 (0, 0)) := by
    rw [hb1.block _ (by simp)]
    have := heap_alloc_new (w.alloc (.cells #[.int .u64 a.term, .int .u64 a.index, .int .i64 a.kind, .int .u64 a.client, .int .u64 a.seq, .int .u64 a.block, .int .u64 a.many, .int .i64 a.node, .int .i64 a.level, .string a.data, .string a.old, .bool own1] 30)) (.cells #[.int .u64 b.term, .int .u64 b.index, .int .i64 b.kind, .int .u64 b.client, .int .u64 b.seq, .int .u64 b.block, .int .u64 b.many, .int .i64 b.node, .int .i64 b.level, .string b.data, .string b.old, .bool own2] 30)
    simp only [World.size_alloc] at this
    exact this
  have hb01 : Below w.heap.size w w1 := (((Below.refl _ _).alloc (Nat.le_refl _) _).alloc (by simp) _).trans (hb1.mono (by simp; omega))
  have hsz1 : w.heap.size + 1 < w1.heap.size := (Array.getElem?_eq_some_iff.1 hm2).1
  have a0 := Lib.cell_of_heap hm1 0
  have a1 := Lib.cell_of_heap hm1 1
  have a2 := Lib.cell_of_heap hm1 2
  have a3 := Lib.cell_of_heap hm1 3
  have a4 := Lib.cell_of_heap hm1 4
  have a5 := Lib.cell_of_heap hm1 5
  have a6 := Lib.cell_of_heap hm1 6
  have a7 := Lib.cell_of_heap hm1 7
  have a8 := Lib.cell_of_heap hm1 8
  have a9 := Lib.cell_of_heap hm1 9
  have a10 := Lib.cell_of_heap hm1 10
  have a11 := Lib.cell_of_heap hm1 11
  simp only [List.getElem?_toArray, List.getElem?_cons_zero, List.getElem?_cons_succ] at a0 a1 a2 a3 a4 a5 a6 a7 a8 a9 a10 a11
  have HM2 := Lib.hid hm2
  have HB01 := Lib.hid hb01
  clear hm1 hm2 hb1 hb01
  go_wp2_with fail
  refine (HMA.out _).mono ?_
  rintro v w2 ⟨rfl, hb2⟩
  clear a0 a1 a2 a3 a4 a5 a6 a7 a8 a9 a10 a11
  have hm3 := (hb2.block _ hsz1).trans HM2.out
  have hsz2 : w.heap.size + 1 < w2.heap.size := Nat.lt_of_lt_of_le hsz1 hb2.size
  have a0 := Lib.cell_of_heap hm3 0
  have a1 := Lib.cell_of_heap hm3 1
  have a2 := Lib.cell_of_heap hm3 2
  have a3 := Lib.cell_of_heap hm3 3
  have a4 := Lib.cell_of_heap hm3 4
  have a5 := Lib.cell_of_heap hm3 5
  have a6 := Lib.cell_of_heap hm3 6
  have a7 := Lib.cell_of_heap hm3 7
  have a8 := Lib.cell_of_heap hm3 8
  have a9 := Lib.cell_of_heap hm3 9
  have a10 := Lib.cell_of_heap hm3 10
  have a11 := Lib.cell_of_heap hm3 11
  simp only [List.getElem?_toArray, List.getElem?_cons_zero, List.getElem?_cons_succ] at a0 a1 a2 a3 a4 a5 a6 a7 a8 a9 a10 a11
  have HB02 := Lib.hid (HB01.out.trans (hb2.mono HB01.out.size))
  clear hm3 hb2 HM2 HB01
  go_wp2_with fail
  refine (HMB.out _).mono ?_
  rintro v w3 ⟨rfl, hb3⟩
  clear a0 a1 a2 a3 a4 a5 a6 a7 a8 a9 a10 a11
  have hx3 : EntAt w3 w2.heap.size 0 x := (entAt_new w2 x EntT).below hb3
  have hsz3 : w2.heap.size < w3.heap.size := by have h := hb3.size; simp at h; omega
  have HX3 := Lib.hid hx3
  have HB03 := Lib.hid (HB02.out.trans ((((Below.refl _ _).alloc (Nat.le_refl _) _).trans (hb3.mono (by simp))).mono HB02.out.size))
  clear hb3 hx3 HB02 hsz1 hsz2
  go_wp2_with fail
  refine (HF1.out _).mono ?_
  rintro v w4 ⟨rfl, hb4⟩
  have HY4 := Lib.hid ((entAt_new w3 y EntT).below hb4)
  have HB34 := Lib.hid (((Below.refl _ _).alloc (Nat.le_refl _) _).trans (hb4.mono (by simp)) : Below w3.heap.size w3 w4)
  have hsz4 : w3.heap.size < w4.heap.size := by have h := hb4.size; simp at h; omega
  clear hb4
  go_wp2_with fail
  refine (HF2.out _).mono ?_
  rintro v w5 ⟨rfl, hb5⟩
  have hx5 := (HX3.out.below HB34.out).below hb5
  have hy5 := HY4.out.below hb5
  have hb05 := HB03.out.trans ((HB34.out.trans (hb5.mono HB34.out.size)).mono HB03.out.size)
  have ht5 := ht.next hb05
  have HB05 := Lib.hid hb05
  have HT5 := Lib.hid ht5
  clear hb5 hb05 ht5 HB34 HB03 HX3 HY4 HF1 HF2 HMA HMB HEX ht
  generalize hvx : Value.agg #[.int .u64 x.term, .int .u64 x.index, .int .i64 x.kind, .int .u64 x.client, .int .u64 x.seq, .int .u64 x.block, .int .u64 x.many, .int .i64 x.node, .int .i64 x.level, .string x.data, .string x.old] = zx at *
  generalize hvy : Value.agg #[.int .u64 y.term, .int .u64 y.index, .int .i64 y.kind, .int .u64 y.client, .int .u64 y.seq, .int .u64 y.block, .int .u64 y.many, .int .i64 y.node, .int .i64 y.level, .string y.data, .string y.old] = zy at *
  obtain ⟨a0, a1, a2, a3, a4, a5, a6, a7, a8, a9, a10⟩ := hx5
  obtain ⟨b0, b1, b2, b3, b4, b5, b6, b7, b8, b9, b10⟩ := hy5
  simp only [Nat.zero_add] at a1 a2 a3 a4 a5 a6 a7 a8 a9 a10 b1 b2 b3 b4 b5 b6 b7 b8 b9 b10
  have d0 := cell_regrown a0
  have g0 := cell_regrown b0
  have d1 := cell_regrown a1
  have g1 := cell_regrown b1
  have d2 := cell_regrown a2
  have g2 := cell_regrown b2
  have d3 := cell_regrown a3
  have g3 := cell_regrown b3
  have d4 := cell_regrown a4
  have g4 := cell_regrown b4
  have d5 := cell_regrown a5
  have g5 := cell_regrown b5
  have d6 := cell_regrown a6
  have g6 := cell_regrown b6
  have d7 := cell_regrown a7
  have g7 := cell_regrown b7
  have d8 := cell_regrown a8
  have g8 := cell_regrown b8
  have d9 := cell_regrown a9
  have g9 := cell_regrown b9
  have d10 := cell_regrown a10
  have g10 := cell_regrown b10
  have hr1 := HR1.out
  have hr2 := HR2.out
  have hl1 := HL1.out
  have hl2 := HL2.out
  have ht1 := HT1.out
  have ht2 := HT2.out
  have hs1 := HS1.out
  have hs2 := HS2.out
  have hs3 := HS3.out
  clear HR1 HR2 HL1 HL2 HT1 HT2 HS1 HS2 HS3
  go_wp2_with fail
  refine wp_region_quiet_below (by kernel_rfl) (by kernel_rfl) ?_
  go_big_quiet_step (fail)
  go_big_quiet_step (fail)
  go_big_quiet_step (fail)
  go_big_quiet_step ((go_at_call 10; exact meetB fun U hb => hr1 U))
  go_big_quiet_step (fail)
  go_big_quiet_step ((go_at_call 14; exact meetB fun U hb => hr2 U))
  go_big_quiet_step (fail)
  go_big_quiet_step (fail)
  go_big_quiet_step (fail)
  go_big_quiet_step (fail)
  go_big_quiet_step ((go_at_call 15; exact meetB fun U hb => hl1 U))
  go_big_quiet_step (fail)
  go_big_quiet_step ((go_at_call 16; exact meetB fun U hb => hl2 U))
  go_big_quiet_step (fail)
  go_big_quiet_step (fail)
  go_big_quiet_step (fail)
  go_big_quiet_step (fail)
  go_big_quiet_step ((go_at_call 17; exact meetB fun U hb => ht1 U (HT5.out.next hb)))
  go_big_quiet_step (fail)
  go_big_quiet_step ((go_at_call 18; exact meetB fun U hb => ht2 U))
  go_big_quiet_step (fail)
  go_big_quiet_step (fail)
  go_big_quiet_step (fail)
  go_big_quiet_step (fail)
  go_big_quiet_step (fail)
  go_big_quiet_step ((go_at_call 19; exact meetB fun U hb => hs1 U))
  go_big_quiet_step (fail)
  go_big_quiet_step (fail)
  go_big_quiet_step ((go_at_call 20; exact meetB fun U hb => hs2 U))
  go_big_quiet_step (fail)
  go_big_quiet_step (fail)
  go_big_quiet_step (fail)
  go_big_quiet_step (fail)
  go_big_quiet_step (fail)
  go_big_quiet_step ((go_at_call 19; exact meetB fun U hb => hs3 U))
  go_big_quiet_step (fail)
  go_big_quiet_step (fail)
  go_big_quiet_step (fail)
  go_big_quiet_step (fail)
  go_big_quiet_step (fail)
  go_big_quiet_step (fail)
  go_big_quiet_step (fail)
  go_big_quiet_step (fail)
  go_big_quiet_step (fail)
  go_big_quiet_step (fail)
  go_big_quiet_step (fail)
  go_big_quiet_step (fail)
  refine wpQuiet_nil ?_
  intro w6 hw6
  obtain ⟨p6, hw6⟩ := hw6
  have hb6 := below_regrown w5 p6.d p6.os
  rw [← hw6] at hb6
  clear hw6 a0 b0 d0 g0 a1 b1 d1 g1 a2 b2 d2 g2 a3 b3 d3 g3 a4 b4 d4 g4 a5 b5 d5 g5 a6 b6 d6 g6 a7 b7 d7 g7 a8 b8 d8 g8 a9 b9 d9 g9 a10 b10 d10 g10 hr1 hr2 hl1 hl2 ht1 ht2 hs1 hs2 hs3
  go_wp2_with fail
  go_ret
  exact ⟨rfl, HB05.out.trans (hb6.mono HB05.out.size)⟩

end Go.Proofs.YtbjbgdnjcppjhaaDoor
