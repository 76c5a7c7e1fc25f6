/-
  EntryKinds, the walk: it answers true. Condition: the table of the powers of ten reads as the program lays it. By an AI agent.
-/
import Derived.Test.YtbjbgdnjcppjhaaDoorEx04
import Derived.Test.YtbjbgdnjcppjhaaDoorMsgRight
import Derived.Test.YtbjbgdnjcppjhaaDoorKindsP
namespace Go.Proofs.YtbjbgdnjcppjhaaDoor
open Go.RowKit Go.Sort
set_option linter.unusedVariables false
set_option linter.unusedSimpArgs false

set_option maxRecDepth 100000 in
set_option maxHeartbeats 4000000 in
theorem kinds_any (k : Int) (h0 : -128 ≤ k) (h1 : k ≤ 127) (w : World) (ht : Tabs w) :
    Calls Tryd.prog 6 #[.int .i8 k] w fun x w' => x = .returned (.bool true) ∧ Below w.heap.size w w' := by
  have HX := Lib.hid (examples04 w ht)
  have hfn := entL_len k
  have hdef : kindEnt k = (entL k).foldl kindPut (kindBase k) := rfl
  clear ht
  go_enter Tryd.func6, Tryd.ntmps6
  go_wp2_with fail
  refine HX.out.mono ?_
  rintro x w1 ⟨rfl, hb1⟩
  go_wp2_with fail
  refine (fields_any _ _).mono ?_
  rintro x w2 ⟨rfl, hb2⟩
  go_wp2_with fail
  refine (msgFields_any _ _).mono ?_
  rintro x w3 ⟨rfl, hb3⟩
  have hb03 := (hb1.trans (hb2.mono hb1.size)).trans (hb3.mono (hb1.trans (hb2.mono hb1.size)).size)
  clear hb1 hb2 hb3
  generalize hf : entL k = f at *
  go_wp2_with fail
  have hbase : Ent.mk 1 1 k 0 0 0 0 0 0 ⟨#[]⟩ ⟨#[]⟩ = kindBase k := rfl
  go_loopw [10] (fun i wr => ∃ (j : Nat) (x : Ent), j ≤ f.length ∧ i = .int .i64 j ∧ wr = w3.alloc (.cells #[.int .u64 x.term, .int .u64 x.index, .int .i64 x.kind, .int .u64 x.client, .int .u64 x.seq, .int .u64 x.block, .int .u64 x.many, .int .i64 x.node, .int .i64 x.level, .string x.data, .string x.old] EntT) ∧ (f.take j).foldl kindPut (kindBase k) = x) (fun i _ => f.length - (intOf i).toNat)
  case atStart => exact ⟨0, _, Nat.zero_le _, rfl, rfl, hbase.symm⟩
  case round =>
    obtain ⟨j, x, hj, rfl, rfl, hx⟩ := hrel
    by_cases hlt : j < f.length
    · have hst := foldl_snoc kindPut f j hlt (kindBase k)
      rw [hx] at hst
      have hi : (ByteArray.mk f.toArray)[j]'hlt = f[j] := rfl
      have hc : f[j] = 99 ∨ f[j] = 110 ∨ f[j] = 108 ∨ (f[j] = 98 ∨ f[j] = 109 ∨ f[j] = 100 ∨ f[j] = 111) := by
        have := entL_letters k f[j] (by rw [hf]; exact List.getElem_mem hlt)
        rcases this with h | h | h | h | h | h | h <;> simp [h]
      have HST := Lib.hid hst
      clear hst hx hf
      generalize f[j] = c at *
      rcases hc with rfl | rfl | rfl | (rfl | rfl | rfl | rfl)
      all_goals
        go_wp2_with fail
        go_roundw
        case rel => exact ⟨j + 1, _, by omega, by go_num, rfl, HST.out⟩
        case measure => simp [intOf]; omega
    · have hk : x = kindEnt k := by rw [hdef, ← hx, List.take_of_length_le (by omega)]
      obtain ⟨r1, r2⟩ := kind_right k
      obtain ⟨m1, m2⟩ := kind_msg k
      rw [← hk] at r1 r2
      have hwx : x.wf := by
        rw [hk]
        exact kind_wf k h0 h1
      have hw3 : ({ x with level := 3 } : Ent).wf := ⟨hwx.term, hwx.index, hwx.kind, hwx.client, hwx.seq, hwx.block, hwx.many, hwx.node, (show I64 3 from ⟨by decide, by decide⟩), hwx.data, hwx.old⟩
      have hR1 := fun W => right_any x hwx W
      have hR2 := fun W => right_any { x with level := 3 } hw3 W
      have hM1 := fun W => msgRight_any (kindMsg k 2) (.slice none 0 0) (fun e h => by cases h) (Nat.zero_le _) W (entsAt_nil W)
      have hM2 := fun W => msgRight_any (kindMsg k 8) (.slice none 0 0) (fun e h => by cases h) (Nat.zero_le _) W (entsAt_nil W)
      rw [r1] at hR1
      rw [r2] at hR2
      rw [m1] at hM1
      rw [m2] at hM2
      have KR1 := Lib.hid hR1
      have KR2 := Lib.hid hR2
      have KM1 := Lib.hid hM1
      have KM2 := Lib.hid hM2
      have hko : (entOk k = true ∨ f = []) := by
        rcases kind_cases k with h | ⟨h, _⟩
        · left; unfold entOk; simp; omega
        · right; rw [← hf]; exact h
      clear hR1 hR2 hM1 hM2 r1 r2 m1 m2 hx hdef hbase hk hf
      go_wp2_with fail
      have hxb : ((w3.alloc (.cells #[.int .u64 x.term, .int .u64 x.index, .int .i64 x.kind, .int .u64 x.client, .int .u64 x.seq, .int .u64 x.block, .int .u64 x.many, .int .i64 x.node, .int .i64 x.level, .string x.data, .string x.old] EntT)).alloc (.cells #[.int .i64 k, .int .i64 1, .int .i64 2, .int .u64 0, .int .u64 0, .int .u64 0, .int .u64 0, .int .u64 0, .bool false, .slice none 0 0, .string ⟨#[]⟩] 42)).heap[w3.heap.size]? = some (.cells x.cells EntT (0, 0)) := by
        rw [Below.heap_alloc _ _ _ (by simp)]; exact heap_alloc_new w3 _
      have hmb := heap_alloc_new (w3.alloc (.cells #[.int .u64 x.term, .int .u64 x.index, .int .i64 x.kind, .int .u64 x.client, .int .u64 x.seq, .int .u64 x.block, .int .u64 x.many, .int .i64 x.node, .int .i64 x.level, .string x.data, .string x.old] EntT)) (.cells #[.int .i64 k, .int .i64 1, .int .i64 2, .int .u64 0, .int .u64 0, .int .u64 0, .int .u64 0, .int .u64 0, .bool false, .slice none 0 0, .string ⟨#[]⟩] 42)
      have hbW : Below w.heap.size w ((w3.alloc (.cells #[.int .u64 x.term, .int .u64 x.index, .int .i64 x.kind, .int .u64 x.client, .int .u64 x.seq, .int .u64 x.block, .int .u64 x.many, .int .i64 x.node, .int .i64 x.level, .string x.data, .string x.old] EntT)).alloc (.cells #[.int .i64 k, .int .i64 1, .int .i64 2, .int .u64 0, .int .u64 0, .int .u64 0, .int .u64 0, .int .u64 0, .bool false, .slice none 0 0, .string ⟨#[]⟩] 42)) := (hb03.alloc hb03.size _).alloc (by have := hb03.size; simp; omega) _
      have hg := hb03.size
      simp only [World.size_alloc] at hmb
      refine (KR1.out _).mono ?_
      rintro v w4 ⟨rfl, hb4⟩
      have hx4 := (hb4.block _ (by simp; omega)).trans hxb
      have hm4 := (hb4.block _ (by simp)).trans hmb
      have hbw4 := hbW.trans (hb4.mono hbW.size)
      have g9 : w.heap.size ≤ w3.heap.size := hg
      have g11 : w.heap.size ≤ w3.heap.size + 1 := by omega
      have gne : w3.heap.size + 1 ≠ w3.heap.size := by omega
      clear hxb hmb hbW hb4 hg hb03
      generalize w3.heap.size + 1 = b11 at *
      generalize w3.heap.size = b9 at *
      have e9 : EntAt w4 b9 0 x := by
        refine ⟨?_, ?_, ?_, ?_, ?_, ?_, ?_, ?_, ?_, ?_, ?_⟩ <;> exact Lib.cell_of_heap hx4 _
      have f9 : ∀ o, w4.frozen? ⟨b9, o, none⟩ = false := fun o => Lib.frozen_of_heap hx4 o
      have k9 := (Array.getElem?_eq_some_iff.1 hx4).1
      have k11 := (Array.getElem?_eq_some_iff.1 hm4).1
      obtain ⟨a0, a1, a2, a3, a4, a5, a6, a7, a8, a9, a10⟩ := e9
      simp only [Nat.zero_add] at a1 a2 a3 a4 a5 a6 a7 a8 a9 a10
      have HM4 := Lib.hid hm4
      clear hx4 hm4
      go_wp2_with fail
      refine (KR2.out _).mono ?_
      rintro v w5 ⟨rfl, hb5⟩
      have hbw5 : Below w.heap.size w w5 := (hbw4.setCell g9 _).trans (hb5.mono (by have := hbw4.size; simp; omega))
      have hm5 : w5.heap[b11]? = some (.cells #[.int .i64 k, .int .i64 1, .int .i64 2, .int .u64 0, .int .u64 0, .int .u64 0, .int .u64 0, .int .u64 0, .bool false, .slice none 0 0, .string ⟨#[]⟩] 42 (0, 0)) := by
        rw [hb5.block _ (by simpa using k11), Below.heap_setCell _ _ _ _ (by simpa using gne)]; exact HM4.out
      have c0 : w5.cell? ⟨b11, 0, none⟩ = some (.int .i64 k) := Lib.cell_of_heap hm5 _
      have c1 : w5.cell? ⟨b11, 1, none⟩ = some (.int .i64 1) := Lib.cell_of_heap hm5 _
      have c2 : w5.cell? ⟨b11, 2, none⟩ = some (.int .i64 2) := Lib.cell_of_heap hm5 _
      have c3 : w5.cell? ⟨b11, 3, none⟩ = some (.int .u64 0) := Lib.cell_of_heap hm5 _
      have c4 : w5.cell? ⟨b11, 4, none⟩ = some (.int .u64 0) := Lib.cell_of_heap hm5 _
      have c5 : w5.cell? ⟨b11, 5, none⟩ = some (.int .u64 0) := Lib.cell_of_heap hm5 _
      have c6 : w5.cell? ⟨b11, 6, none⟩ = some (.int .u64 0) := Lib.cell_of_heap hm5 _
      have c7 : w5.cell? ⟨b11, 7, none⟩ = some (.int .u64 0) := Lib.cell_of_heap hm5 _
      have c8 : w5.cell? ⟨b11, 8, none⟩ = some (.bool false) := Lib.cell_of_heap hm5 _
      have c9 : w5.cell? ⟨b11, 9, none⟩ = some (.slice none 0 0) := Lib.cell_of_heap hm5 _
      have c10 : w5.cell? ⟨b11, 10, none⟩ = some (.string ⟨#[]⟩) := Lib.cell_of_heap hm5 _
      have HM5 := Lib.hid hm5
      clear a0 a1 a2 a3 a4 a5 a6 a7 a8 a9 a10 f9 hm5 hb5 hbw4
      go_wp2_with fail
      refine (KM1.out _).mono ?_
      rintro v w6 ⟨rfl, hb6⟩
      have hm6 := (hb6.block _ (Array.getElem?_eq_some_iff.1 HM5.out).1).trans HM5.out
      have hbw6 := hbw5.trans (hb6.mono hbw5.size)
      clear c0 c1 c2 c3 c4 c5 c6 c7 c8 c9 c10 hb6
      have c0 : w6.cell? ⟨b11, 0, none⟩ = some (.int .i64 k) := Lib.cell_of_heap hm6 _
      have c1 : w6.cell? ⟨b11, 1, none⟩ = some (.int .i64 1) := Lib.cell_of_heap hm6 _
      have c2 : w6.cell? ⟨b11, 2, none⟩ = some (.int .i64 2) := Lib.cell_of_heap hm6 _
      have c3 : w6.cell? ⟨b11, 3, none⟩ = some (.int .u64 0) := Lib.cell_of_heap hm6 _
      have c4 : w6.cell? ⟨b11, 4, none⟩ = some (.int .u64 0) := Lib.cell_of_heap hm6 _
      have c5 : w6.cell? ⟨b11, 5, none⟩ = some (.int .u64 0) := Lib.cell_of_heap hm6 _
      have c6 : w6.cell? ⟨b11, 6, none⟩ = some (.int .u64 0) := Lib.cell_of_heap hm6 _
      have c7 : w6.cell? ⟨b11, 7, none⟩ = some (.int .u64 0) := Lib.cell_of_heap hm6 _
      have c8 : w6.cell? ⟨b11, 8, none⟩ = some (.bool false) := Lib.cell_of_heap hm6 _
      have c9 : w6.cell? ⟨b11, 9, none⟩ = some (.slice none 0 0) := Lib.cell_of_heap hm6 _
      have c10 : w6.cell? ⟨b11, 10, none⟩ = some (.string ⟨#[]⟩) := Lib.cell_of_heap hm6 _
      have f11 : ∀ o, w6.frozen? ⟨b11, o, none⟩ = false := fun o => Lib.frozen_of_heap hm6 o
      clear hm6
      go_wp2_with fail
      refine (KM2.out _).mono ?_
      rintro v w7 ⟨rfl, hb7⟩
      have hbw7 : Below w.heap.size w w7 := (hbw6.setCell g11 _).trans (hb7.mono (by have := hbw6.size; simp; omega))
      clear c0 c1 c2 c3 c4 c5 c6 c7 c8 c9 c10 f11 hb7
      have hml : msgOk k = true ∨ msgL k = [] := by
        by_cases h : 1 ≤ k ∧ k ≤ 10
        · left; unfold msgOk; simp; omega
        · right
          unfold msgL
          repeat (rw [if_neg (by omega)])
      have he : entOk k = (decide (0 ≤ k) && decide (k ≤ 11)) := rfl
      have hm : msgOk k = (decide (1 ≤ k) && decide (k ≤ 10)) := rfl
      generalize entOk k = eo at *
      generalize msgOk k = mo at *
      generalize msgL k = ml at *
      rcases (show k < 0 ∨ k = 0 ∨ (1 ≤ k ∧ k ≤ 10) ∨ k = 11 ∨ 11 < k by omega) with h | h | h | h | h
      · have d1 : decide (0 ≤ k) = false := decide_eq_false (by omega)
        have d2 : decide (k ≤ 11) = true := decide_eq_true (by omega)
        have d3 : decide (1 ≤ k) = false := decide_eq_false (by omega)
        have d4 : decide (k ≤ 10) = true := decide_eq_true (by omega)
        have e1 : eo = false := by rw [he, d1, d2]; rfl
        have e2 : mo = false := by rw [hm, d3, d4]; rfl
        subst e1
        subst e2
        obtain rfl := hko.resolve_left (by simp)
        obtain rfl := hml.resolve_left (by simp)
        clear he hm hko hml KR1 KR2 KM1 KM2 h
        go_wp2_with fail
        go_ret
        exact ⟨rfl, hbw7⟩
      · have d1 : decide (0 ≤ k) = true := decide_eq_true (by omega)
        have d2 : decide (k ≤ 11) = true := decide_eq_true (by omega)
        have d3 : decide (1 ≤ k) = false := decide_eq_false (by omega)
        have d4 : decide (k ≤ 10) = true := decide_eq_true (by omega)
        have e1 : eo = true := by rw [he, d1, d2]; rfl
        have e2 : mo = false := by rw [hm, d3, d4]; rfl
        subst e1
        subst e2
        obtain rfl := hml.resolve_left (by simp)
        clear he hm hko hml KR1 KR2 KM1 KM2 h
        go_wp2_with fail
        go_ret
        exact ⟨rfl, hbw7⟩
      · have d1 : decide (0 ≤ k) = true := decide_eq_true (by omega)
        have d2 : decide (k ≤ 11) = true := decide_eq_true (by omega)
        have d3 : decide (1 ≤ k) = true := decide_eq_true (by omega)
        have d4 : decide (k ≤ 10) = true := decide_eq_true (by omega)
        have e1 : eo = true := by rw [he, d1, d2]; rfl
        have e2 : mo = true := by rw [hm, d3, d4]; rfl
        subst e1
        subst e2
        clear he hm hko hml KR1 KR2 KM1 KM2 h
        go_wp2_with fail
        go_ret
        exact ⟨rfl, hbw7⟩
      · have d1 : decide (0 ≤ k) = true := decide_eq_true (by omega)
        have d2 : decide (k ≤ 11) = true := decide_eq_true (by omega)
        have d3 : decide (1 ≤ k) = true := decide_eq_true (by omega)
        have d4 : decide (k ≤ 10) = false := decide_eq_false (by omega)
        have e1 : eo = true := by rw [he, d1, d2]; rfl
        have e2 : mo = false := by rw [hm, d3, d4]; rfl
        subst e1
        subst e2
        obtain rfl := hml.resolve_left (by simp)
        clear he hm hko hml KR1 KR2 KM1 KM2 h
        go_wp2_with fail
        go_ret
        exact ⟨rfl, hbw7⟩
      · have d1 : decide (0 ≤ k) = true := decide_eq_true (by omega)
        have d2 : decide (k ≤ 11) = false := decide_eq_false (by omega)
        have d3 : decide (1 ≤ k) = true := decide_eq_true (by omega)
        have d4 : decide (k ≤ 10) = false := decide_eq_false (by omega)
        have e1 : eo = false := by rw [he, d1, d2]; rfl
        have e2 : mo = false := by rw [hm, d3, d4]; rfl
        subst e1
        subst e2
        obtain rfl := hko.resolve_left (by simp)
        obtain rfl := hml.resolve_left (by simp)
        clear he hm hko hml KR1 KR2 KM1 KM2 h
        go_wp2_with fail
        go_ret
        exact ⟨rfl, hbw7⟩

end Go.Proofs.YtbjbgdnjcppjhaaDoor
