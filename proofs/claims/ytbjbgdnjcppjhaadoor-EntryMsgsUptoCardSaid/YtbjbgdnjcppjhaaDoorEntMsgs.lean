/-
  EntryMsgs: the walk. Conditions: the arguments are of their kinds, their texts of at most 2^20 bytes, at most 2^20 entries; the table of the powers of ten reads as the program lays it. By an AI agent.
-/
import Derived.Test.YtbjbgdnjcppjhaaDoorOpenM
import Derived.Test.YtbjbgdnjcppjhaaDoorMsgRight
import Derived.Test.YtbjbgdnjcppjhaaDoorRefMsgRight
import Derived.Test.YtbjbgdnjcppjhaaDoorMsgLevel
import Derived.Test.YtbjbgdnjcppjhaaDoorRefMsgLevel
import Derived.Test.YtbjbgdnjcppjhaaDoorRefMsgText
import Derived.Test.YtbjbgdnjcppjhaaDoorMsgSame
import Derived.Test.YtbjbgdnjcppjhaaDoorRefMsgSame
import Derived.Test.YtbjbgdnjcppjhaaDoorEx04
namespace Go.Proofs.YtbjbgdnjcppjhaaDoor
open Go.RowKit Go.Sort
set_option linter.unusedVariables false
set_option linter.unusedSimpArgs false

set_option maxRecDepth 100000 in
set_option maxHeartbeats 16000000 in
theorem entMsgs_any (m1 : Msg) (own1 : Bool) (sa1 : Option Addr) (sn1 sc1 : Nat) (la1 : Option Addr) (ln1 lc1 : Nat) (L1 : List (Ent × Bool)) (hm1 : (I64 m1.kind ∧ I64 m1.frm ∧ I64 m1.to ∧ U64 m1.term ∧ U64 m1.index ∧ U64 m1.prev ∧ U64 m1.commit ∧ U64 m1.mark)) (hsn1 : m1.snap.size ≤ 1048576) (hen1 : m1.entries.length ≤ 1048576) (hee1 : ∀ e ∈ m1.entries, e.wf ∧ e.upTo 1048576) (hL1 : ∀ p ∈ L1, p.1.wf) (m2 : Msg) (own2 : Bool) (sa2 : Option Addr) (sn2 sc2 : Nat) (la2 : Option Addr) (ln2 lc2 : Nat) (L2 : List (Ent × Bool)) (hm2 : (I64 m2.kind ∧ I64 m2.frm ∧ I64 m2.to ∧ U64 m2.term ∧ U64 m2.index ∧ U64 m2.prev ∧ U64 m2.commit ∧ U64 m2.mark)) (hsn2 : m2.snap.size ≤ 1048576) (hen2 : m2.entries.length ≤ 1048576) (hee2 : ∀ e ∈ m2.entries, e.wf ∧ e.upTo 1048576) (hL2 : ∀ p ∈ L2, p.1.wf) (k : Int) (w : World) (ht : Tabs w)
    (hs1 : EntsAt w (.slice sa1 sn1 sc1) m1.entries) (hl1 : MadesAt w (.slice la1 ln1 lc1) L1) (hs2 : EntsAt w (.slice sa2 sn2 sc2) m2.entries) (hl2 : MadesAt w (.slice la2 ln2 lc2) L2) :
    Calls Tryd.prog 8 #[.agg (m1.cells (.slice sa1 sn1 sc1) ++ #[.bool own1, .slice la1 ln1 lc1]), .agg (m2.cells (.slice sa2 sn2 sc2) ++ #[.bool own2, .slice la2 ln2 lc2]), .int .i64 k] w fun x w' => x = .returned (.bool true) ∧ Below w.heap.size w w' := by
  have hva : (.agg (m1.cells (.slice sa1 sn1 sc1) ++ #[.bool own1, .slice la1 ln1 lc1]) : Value) = .agg #[.int .i64 m1.kind, .int .i64 m1.frm, .int .i64 m1.to, .int .u64 m1.term, .int .u64 m1.index, .int .u64 m1.prev, .int .u64 m1.commit, .int .u64 m1.mark, .bool m1.ok, .slice sa1 sn1 sc1, .string m1.snap, .bool own1, .slice la1 ln1 lc1] := rfl
  have hvb : (.agg (m2.cells (.slice sa2 sn2 sc2) ++ #[.bool own2, .slice la2 ln2 lc2]) : Value) = .agg #[.int .i64 m2.kind, .int .i64 m2.frm, .int .i64 m2.to, .int .u64 m2.term, .int .u64 m2.index, .int .u64 m2.prev, .int .u64 m2.commit, .int .u64 m2.mark, .bool m2.ok, .slice sa2 sn2 sc2, .string m2.snap, .bool own2, .slice la2 ln2 lc2] := rfl
  rw [hva, hvb]
  have hna : ∀ W, Below w.heap.size w W → Calls Tryd.prog 23 #[.agg #[.int .i64 m1.kind, .int .i64 m1.frm, .int .i64 m1.to, .int .u64 m1.term, .int .u64 m1.index, .int .u64 m1.prev, .int .u64 m1.commit, .int .u64 m1.mark, .bool m1.ok, .slice sa1 sn1 sc1, .string m1.snap, .bool own1, .slice la1 ln1 lc1]] W fun r W' => ∃ s', r = .returned (.agg #[.int .i64 (noted m1 own1 L1).kind, .int .i64 (noted m1 own1 L1).frm, .int .i64 (noted m1 own1 L1).to, .int .u64 (noted m1 own1 L1).term, .int .u64 (noted m1 own1 L1).index, .int .u64 (noted m1 own1 L1).prev, .int .u64 (noted m1 own1 L1).commit, .int .u64 (noted m1 own1 L1).mark, .bool (noted m1 own1 L1).ok, s', .string (noted m1 own1 L1).snap]) ∧ EntsAt W' s' (noted m1 own1 L1).entries ∧ Below W.heap.size W W' := fun W hW => note04_any m1 own1 sa1 sn1 sc1 la1 ln1 lc1 L1 hm1 hL1 W (hs1.below hW) (hl1.below hW)
  have hnb : ∀ W, Below w.heap.size w W → Calls Tryd.prog 23 #[.agg #[.int .i64 m2.kind, .int .i64 m2.frm, .int .i64 m2.to, .int .u64 m2.term, .int .u64 m2.index, .int .u64 m2.prev, .int .u64 m2.commit, .int .u64 m2.mark, .bool m2.ok, .slice sa2 sn2 sc2, .string m2.snap, .bool own2, .slice la2 ln2 lc2]] W fun r W' => ∃ s', r = .returned (.agg #[.int .i64 (noted m2 own2 L2).kind, .int .i64 (noted m2 own2 L2).frm, .int .i64 (noted m2 own2 L2).to, .int .u64 (noted m2 own2 L2).term, .int .u64 (noted m2 own2 L2).index, .int .u64 (noted m2 own2 L2).prev, .int .u64 (noted m2 own2 L2).commit, .int .u64 (noted m2 own2 L2).mark, .bool (noted m2 own2 L2).ok, s', .string (noted m2 own2 L2).snap]) ∧ EntsAt W' s' (noted m2 own2 L2).entries ∧ Below W.heap.size W W' := fun W hW => note04_any m2 own2 sa2 sn2 sc2 la2 ln2 lc2 L2 hm2 hL2 W (hs2.below hW) (hl2.below hW)
  have hfx := noted_fine m1 own1 L1 hm1 hsn1 hen1 hee1
  have hfy := noted_fine m2 own2 L2 hm2 hsn2 hen2 hee2
  have hex := fun W hW => examples04 W hW
  generalize noted m1 own1 L1 = x at *
  generalize noted m2 own2 L2 = y at *
  have hf1 : ∀ W, Calls Tryd.prog 21 #[.int .i64 k] W fun r W' => r = .returned (.tuple #[.string ⟨(msgL k).toArray⟩, .bool (msgOk k)]) ∧ Below W.heap.size W W' := fun W => msgFields_any k W
  have hf2 : ∀ W, Calls Tryd.prog 25 #[.int .i64 k] W fun r W' => r = .returned (.tuple #[.string ⟨(msgL k).toArray⟩, .bool (msgOk k)]) ∧ Below W.heap.size W W' := fun W => refMsgFields_any k W
  generalize msgL k = vf at *
  generalize msgOk k = vo at *
  have HNA := Lib.hid hna
  have HNB := Lib.hid hnb
  have HEX := Lib.hid hex
  have HF1 := Lib.hid hf1
  have HF2 := Lib.hid hf2
  have HFX := Lib.hid hfx
  have HFY := Lib.hid hfy
  clear hva hvb hna hnb hex hf1 hf2 hfx hfy hs1 hl1 hs2 hl2 hm1 hm2 hsn1 hsn2 hen1 hen2 hee1 hee2 hL1 hL2
  go_enter Tryd.func8, Tryd.ntmps8
  go_wp2_with fail
  refine (HEX.out _ ((ht.alloc _).alloc _)).mono ?_
  rintro v w1 ⟨rfl, hb1⟩
  have hm1 : w1.heap[w.heap.size]? = some (.cells #[.int .i64 m1.kind, .int .i64 m1.frm, .int .i64 m1.to, .int .u64 m1.term, .int .u64 m1.index, .int .u64 m1.prev, .int .u64 m1.commit, .int .u64 m1.mark, .bool m1.ok, .slice sa1 sn1 sc1, .string m1.snap, .bool own1, .slice la1 ln1 lc1] 47 (0, 0)) := by
    rw [hb1.block _ (by simp; omega), Below.heap_alloc _ _ _ (by simp)]; exact heap_alloc_new w _
  have hm2 : w1.heap[w.heap.size + 1]? = some (.cells #[.int .i64 m2.kind, .int .i64 m2.frm, .int .i64 m2.to, .int .u64 m2.term, .int .u64 m2.index, .int .u64 m2.prev, .int .u64 m2.commit, .int .u64 m2.mark, .bool m2.ok, .slice sa2 sn2 sc2, .string m2.snap, .bool own2, .slice la2 ln2 lc2] 47 (0, 0)) := by
    rw [hb1.block _ (by simp)]
    have := heap_alloc_new (w.alloc (.cells #[.int .i64 m1.kind, .int .i64 m1.frm, .int .i64 m1.to, .int .u64 m1.term, .int .u64 m1.index, .int .u64 m1.prev, .int .u64 m1.commit, .int .u64 m1.mark, .bool m1.ok, .slice sa1 sn1 sc1, .string m1.snap, .bool own1, .slice la1 ln1 lc1] 47)) (.cells #[.int .i64 m2.kind, .int .i64 m2.frm, .int .i64 m2.to, .int .u64 m2.term, .int .u64 m2.index, .int .u64 m2.prev, .int .u64 m2.commit, .int .u64 m2.mark, .bool m2.ok, .slice sa2 sn2 sc2, .string m2.snap, .bool own2, .slice la2 ln2 lc2] 47)
    simp only [World.size_alloc] at this
    exact this
  have hb01 : Below w.heap.size w w1 := (((Below.refl _ _).alloc (Nat.le_refl _) _).alloc (by simp) _).trans (hb1.mono (by simp; omega))
  have hsz1 : w.heap.size + 1 < w1.heap.size := (Array.getElem?_eq_some_iff.1 hm2).1
  have a0 := Lib.cell_of_heap hm1 0
  have a1 := Lib.cell_of_heap hm1 1
  have a2 := Lib.cell_of_heap hm1 2
  have a3 := Lib.cell_of_heap hm1 3
  have a4 := Lib.cell_of_heap hm1 4
  have a5 := Lib.cell_of_heap hm1 5
  have a6 := Lib.cell_of_heap hm1 6
  have a7 := Lib.cell_of_heap hm1 7
  have a8 := Lib.cell_of_heap hm1 8
  have a9 := Lib.cell_of_heap hm1 9
  have a10 := Lib.cell_of_heap hm1 10
  have a11 := Lib.cell_of_heap hm1 11
  have a12 := Lib.cell_of_heap hm1 12
  simp only [List.getElem?_toArray, List.getElem?_cons_zero, List.getElem?_cons_succ] at a0 a1 a2 a3 a4 a5 a6 a7 a8 a9 a10 a11 a12
  have HM2 := Lib.hid hm2
  have HB01 := Lib.hid hb01
  clear hm1 hm2 hb1 hb01
  go_wp2_with fail
  refine (HNA.out _ HB01.out).mono ?_
  rintro v w2 ⟨s', rfl, hes, hb2⟩
  obtain ⟨xa, xc, rfl, _⟩ := id hes
  clear a0 a1 a2 a3 a4 a5 a6 a7 a8 a9 a10 a11 a12
  have hm3 := (hb2.block _ hsz1).trans HM2.out
  have hsz2 : w.heap.size + 1 < w2.heap.size := Nat.lt_of_lt_of_le hsz1 hb2.size
  have a0 := Lib.cell_of_heap hm3 0
  have a1 := Lib.cell_of_heap hm3 1
  have a2 := Lib.cell_of_heap hm3 2
  have a3 := Lib.cell_of_heap hm3 3
  have a4 := Lib.cell_of_heap hm3 4
  have a5 := Lib.cell_of_heap hm3 5
  have a6 := Lib.cell_of_heap hm3 6
  have a7 := Lib.cell_of_heap hm3 7
  have a8 := Lib.cell_of_heap hm3 8
  have a9 := Lib.cell_of_heap hm3 9
  have a10 := Lib.cell_of_heap hm3 10
  have a11 := Lib.cell_of_heap hm3 11
  have a12 := Lib.cell_of_heap hm3 12
  simp only [List.getElem?_toArray, List.getElem?_cons_zero, List.getElem?_cons_succ] at a0 a1 a2 a3 a4 a5 a6 a7 a8 a9 a10 a11 a12
  have HB02 := Lib.hid (HB01.out.trans (hb2.mono HB01.out.size))
  have HES2 := Lib.hid hes
  clear hm3 hb2 HM2 HB01 hes
  go_wp2_with fail
  refine (HNB.out _ (HB02.out.trans (((Below.refl _ _).alloc (Nat.le_refl _) _).mono HB02.out.size))).mono ?_
  rintro v w3 ⟨s', rfl, hes, hb3⟩
  obtain ⟨ya, yc, rfl, _⟩ := id hes
  clear a0 a1 a2 a3 a4 a5 a6 a7 a8 a9 a10 a11 a12
  have HX3 := Lib.hid ((msgAt_block (r := []) (heap_alloc_new w2 (.cells (x.cells (.slice xa x.entries.length xc)) 42))).below hb3)
  have hsz3 : w2.heap.size < w3.heap.size := by have h := hb3.size; simp at h; omega
  have hb23 : Below w2.heap.size w2 w3 := ((Below.refl _ _).alloc (Nat.le_refl _) _).trans (hb3.mono (by simp))
  have HESX := Lib.hid (HES2.out.below hb23)
  have HESY := Lib.hid hes
  have HB03 := Lib.hid (HB02.out.trans (hb23.mono HB02.out.size))
  clear hb3 hb23 hes HB02 HES2 hsz1 hsz2
  go_wp2_with fail
  refine (HF1.out _).mono ?_
  rintro v w4 ⟨rfl, hb4⟩
  have HY4 := Lib.hid ((msgAt_block (r := []) (heap_alloc_new w3 (.cells (y.cells (.slice ya y.entries.length yc)) 42))).below hb4)
  have HB34 := Lib.hid (((Below.refl _ _).alloc (Nat.le_refl _) _).trans (hb4.mono (by simp)) : Below w3.heap.size w3 w4)
  have hsz4 : w3.heap.size < w4.heap.size := by have h := hb4.size; simp at h; omega
  clear hb4
  go_wp2_with fail
  refine (HF2.out _).mono ?_
  rintro v w5 ⟨rfl, hb5⟩
  have hb35 := HB34.out.trans (hb5.mono HB34.out.size)
  have hx5 := HX3.out.below hb35
  have hy5 := HY4.out.below hb5
  have hb05 := HB03.out.trans (hb35.mono HB03.out.size)
  have ht5 := ht.next hb05
  have hex5 := HESX.out.below hb35
  have hey5 := HESY.out.below hb35
  have HB05 := Lib.hid hb05
  have hwx := fun e h => HFX.out.wf.entries e h
  have hr1 : ∀ U, Below w5.heap.size w5 U → Calls Tryd.prog 22 #[.agg #[.int .i64 x.kind, .int .i64 x.frm, .int .i64 x.to, .int .u64 x.term, .int .u64 x.index, .int .u64 x.prev, .int .u64 x.commit, .int .u64 x.mark, .bool x.ok, .slice xa x.entries.length xc, .string x.snap]] U fun r W' => r = .returned (.bool (msgRightB x)) ∧ Below U.heap.size U W' := fun U hU => msgRight_any x _ hwx HFX.out.count U (hex5.below hU)
  have hr2 : ∀ U, Below w5.heap.size w5 U → Calls Tryd.prog 26 #[.agg #[.int .i64 x.kind, .int .i64 x.frm, .int .i64 x.to, .int .u64 x.term, .int .u64 x.index, .int .u64 x.prev, .int .u64 x.commit, .int .u64 x.mark, .bool x.ok, .slice xa x.entries.length xc, .string x.snap]] U fun r W' => r = .returned (.bool (msgRightB x)) ∧ Below U.heap.size U W' := fun U hU => refMsgRight_any x _ hwx HFX.out.count U (hex5.below hU)
  have hl1 : ∀ U, Below w5.heap.size w5 U → Calls Tryd.prog 24 #[.agg #[.int .i64 x.kind, .int .i64 x.frm, .int .i64 x.to, .int .u64 x.term, .int .u64 x.index, .int .u64 x.prev, .int .u64 x.commit, .int .u64 x.mark, .bool x.ok, .slice xa x.entries.length xc, .string x.snap]] U fun r W' => r = .returned (.int .i64 (msgLevelI x)) ∧ Below U.heap.size U W' := fun U hU => msgLevel_any x _ HFX.out.count U (hex5.below hU)
  have hl2 : ∀ U, Below w5.heap.size w5 U → Calls Tryd.prog 27 #[.agg #[.int .i64 x.kind, .int .i64 x.frm, .int .i64 x.to, .int .u64 x.term, .int .u64 x.index, .int .u64 x.prev, .int .u64 x.commit, .int .u64 x.mark, .bool x.ok, .slice xa x.entries.length xc, .string x.snap]] U fun r W' => r = .returned (.int .i64 (msgLevelI x)) ∧ Below U.heap.size U W' := fun U hU => refMsgLevel_any x _ HFX.out.count U (hex5.below hU)
  have ht1 : ∀ U, Below w5.heap.size w5 U → Calls Tryd.prog 28 #[.agg #[.int .i64 x.kind, .int .i64 x.frm, .int .i64 x.to, .int .u64 x.term, .int .u64 x.index, .int .u64 x.prev, .int .u64 x.commit, .int .u64 x.mark, .bool x.ok, .slice xa x.entries.length xc, .string x.snap]] U fun r W' => r = .returned (.string ⟨(msgTextL x).toArray⟩) ∧ Below U.heap.size U W' := fun U hU => msgText_any x _ HFX.out U (ht5.next hU) (hex5.below hU)
  have ht2 : ∀ U, Below w5.heap.size w5 U → Calls Tryd.prog 29 #[.agg #[.int .i64 x.kind, .int .i64 x.frm, .int .i64 x.to, .int .u64 x.term, .int .u64 x.index, .int .u64 x.prev, .int .u64 x.commit, .int .u64 x.mark, .bool x.ok, .slice xa x.entries.length xc, .string x.snap]] U fun r W' => r = .returned (.string ⟨(msgTextL x).toArray⟩) ∧ Below U.heap.size U W' := fun U hU => refMsgText_any x _ HFX.out U (hex5.below hU)
  have hs1 : ∀ U, Below w5.heap.size w5 U → Calls Tryd.prog 30 #[.agg #[.int .i64 x.kind, .int .i64 x.frm, .int .i64 x.to, .int .u64 x.term, .int .u64 x.index, .int .u64 x.prev, .int .u64 x.commit, .int .u64 x.mark, .bool x.ok, .slice xa x.entries.length xc, .string x.snap], .agg #[.int .i64 y.kind, .int .i64 y.frm, .int .i64 y.to, .int .u64 y.term, .int .u64 y.index, .int .u64 y.prev, .int .u64 y.commit, .int .u64 y.mark, .bool y.ok, .slice ya y.entries.length yc, .string y.snap]] U fun r W' => r = .returned (.bool (msgSameB x y)) ∧ Below U.heap.size U W' := fun U hU => msgSame_any x y _ _ HFX.out HFY.out U (ht5.next hU) (hex5.below hU) (hey5.below hU)
  have hs2 : ∀ U, Below w5.heap.size w5 U → Calls Tryd.prog 31 #[.agg #[.int .i64 x.kind, .int .i64 x.frm, .int .i64 x.to, .int .u64 x.term, .int .u64 x.index, .int .u64 x.prev, .int .u64 x.commit, .int .u64 x.mark, .bool x.ok, .slice xa x.entries.length xc, .string x.snap], .agg #[.int .i64 y.kind, .int .i64 y.frm, .int .i64 y.to, .int .u64 y.term, .int .u64 y.index, .int .u64 y.prev, .int .u64 y.commit, .int .u64 y.mark, .bool y.ok, .slice ya y.entries.length yc, .string y.snap]] U fun r W' => r = .returned (.bool (msgSameB x y)) ∧ Below U.heap.size U W' := fun U hU => refMsgSame_any x y _ _ HFX.out.count HFY.out.count U (hex5.below hU) (hey5.below hU)
  have hs3 : ∀ U, Below w5.heap.size w5 U → Calls Tryd.prog 30 #[.agg #[.int .i64 x.kind, .int .i64 x.frm, .int .i64 x.to, .int .u64 x.term, .int .u64 x.index, .int .u64 x.prev, .int .u64 x.commit, .int .u64 x.mark, .bool x.ok, .slice xa x.entries.length xc, .string x.snap], .agg #[.int .i64 x.kind, .int .i64 x.frm, .int .i64 x.to, .int .u64 x.term, .int .u64 x.index, .int .u64 x.prev, .int .u64 x.commit, .int .u64 x.mark, .bool x.ok, .slice xa x.entries.length xc, .string x.snap]] U fun r W' => r = .returned (.bool true) ∧ Below U.heap.size U W' := fun U hU => msgSame_self x ▸ msgSame_any x x _ _ HFX.out HFX.out U (ht5.next hU) (hex5.below hU) (hex5.below hU)
  clear hb5 hb05 ht5 hb35 HB34 HB03 HX3 HY4 HF1 HF2 HNA HNB HEX ht HESX HESY hex5 hey5 hwx
  generalize msgRightB x = vr at *
  generalize msgLevelI x = vl at *
  generalize msgTextL x = vt at *
  generalize msgSameB x y = vs at *
  obtain ⟨a0, a1, a2, a3, a4, a5, a6, a7, a8, a9, a10⟩ := hx5
  obtain ⟨b0, b1, b2, b3, b4, b5, b6, b7, b8, b9, b10⟩ := hy5
  generalize hvx : Value.agg #[.int .i64 x.kind, .int .i64 x.frm, .int .i64 x.to, .int .u64 x.term, .int .u64 x.index, .int .u64 x.prev, .int .u64 x.commit, .int .u64 x.mark, .bool x.ok, .slice xa x.entries.length xc, .string x.snap] = zx at *
  generalize hvy : Value.agg #[.int .i64 y.kind, .int .i64 y.frm, .int .i64 y.to, .int .u64 y.term, .int .u64 y.index, .int .u64 y.prev, .int .u64 y.commit, .int .u64 y.mark, .bool y.ok, .slice ya y.entries.length yc, .string y.snap] = zy at *
  have d0 := cell_regrown a0
  have g0 := cell_regrown b0
  have d1 := cell_regrown a1
  have g1 := cell_regrown b1
  have d2 := cell_regrown a2
  have g2 := cell_regrown b2
  have d3 := cell_regrown a3
  have g3 := cell_regrown b3
  have d4 := cell_regrown a4
  have g4 := cell_regrown b4
  have d5 := cell_regrown a5
  have g5 := cell_regrown b5
  have d6 := cell_regrown a6
  have g6 := cell_regrown b6
  have d7 := cell_regrown a7
  have g7 := cell_regrown b7
  have d8 := cell_regrown a8
  have g8 := cell_regrown b8
  have d9 := cell_regrown a9
  have g9 := cell_regrown b9
  have d10 := cell_regrown a10
  have g10 := cell_regrown b10
  go_wp2_with fail
  refine wp_region_quiet_below (by kernel_rfl) (by kernel_rfl) ?_
  go_big_quiet_step (fail)
  go_big_quiet_step (fail)
  go_big_quiet_step (fail)
  go_big_quiet_step ((go_at_call 22; exact meetB fun U hb => hr1 U hb))
  go_big_quiet_step (fail)
  go_big_quiet_step ((go_at_call 26; exact meetB fun U hb => hr2 U hb))
  go_big_quiet_step (fail)
  go_big_quiet_step (fail)
  go_big_quiet_step (fail)
  go_big_quiet_step (fail)
  go_big_quiet_step ((go_at_call 24; exact meetB fun U hb => hl1 U hb))
  go_big_quiet_step (fail)
  go_big_quiet_step ((go_at_call 27; exact meetB fun U hb => hl2 U hb))
  go_big_quiet_step (fail)
  go_big_quiet_step (fail)
  go_big_quiet_step (fail)
  go_big_quiet_step (fail)
  go_big_quiet_step ((go_at_call 28; exact meetB fun U hb => ht1 U hb))
  go_big_quiet_step (fail)
  go_big_quiet_step ((go_at_call 29; exact meetB fun U hb => ht2 U hb))
  go_big_quiet_step (fail)
  go_big_quiet_step (fail)
  go_big_quiet_step (fail)
  go_big_quiet_step (fail)
  go_big_quiet_step (fail)
  go_big_quiet_step ((go_at_call 30; exact meetB fun U hb => hs1 U hb))
  go_big_quiet_step (fail)
  go_big_quiet_step (fail)
  go_big_quiet_step ((go_at_call 31; exact meetB fun U hb => hs2 U hb))
  go_big_quiet_step (fail)
  go_big_quiet_step (fail)
  go_big_quiet_step (fail)
  go_big_quiet_step (fail)
  go_big_quiet_step (fail)
  go_big_quiet_step ((go_at_call 30; exact meetB fun U hb => hs3 U hb))
  go_big_quiet_step (fail)
  go_big_quiet_step (fail)
  go_big_quiet_step (fail)
  go_big_quiet_step (fail)
  go_big_quiet_step (fail)
  go_big_quiet_step (fail)
  go_big_quiet_step (fail)
  go_big_quiet_step (fail)
  go_big_quiet_step (fail)
  go_big_quiet_step (fail)
  go_big_quiet_step (fail)
  go_big_quiet_step (fail)
  refine wpQuiet_nil ?_
  intro w6 hw6
  obtain ⟨p6, hw6⟩ := hw6
  have hb6 := below_regrown w5 p6.d p6.os
  rw [← hw6] at hb6
  clear hw6 a0 b0 d0 g0 a1 b1 d1 g1 a2 b2 d2 g2 a3 b3 d3 g3 a4 b4 d4 g4 a5 b5 d5 g5 a6 b6 d6 g6 a7 b7 d7 g7 a8 b8 d8 g8 a9 b9 d9 g9 a10 b10 d10 g10 hr1 hr2 hl1 hl2 ht1 ht2 hs1 hs2 hs3
  go_wp2_with fail
  go_ret
  exact ⟨rfl, HB05.out.trans (hb6.mono HB05.out.size)⟩

end Go.Proofs.YtbjbgdnjcppjhaaDoor
