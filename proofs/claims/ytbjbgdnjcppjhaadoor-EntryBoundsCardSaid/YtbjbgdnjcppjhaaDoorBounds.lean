/-
  EntryBounds answers true. Condition: the table of the powers of ten reads as the program lays it. By an AI agent.
-/
import Derived.Test.YtbjbgdnjcppjhaaDoorEx04
import Derived.Deep.Cut
import Derived.Deep.CutRange
import Derived.BigRegion
import Derived.Deep.OwnRows
import Derived.Lib.AppendStr
namespace Go.Proofs.YtbjbgdnjcppjhaaDoor
open Go.RowKit Go.Sort
set_option linter.unusedVariables false
set_option linter.unusedSimpArgs false

def z64 : ByteArray := ⟨(List.replicate 64 (0 : UInt8)).toArray⟩

def exBig : Ent := ⟨1, 1, 11, 1, 18446744073709551615, 4294967295, 0, 0, 0, z64, z64⟩
def exReg : Ent := ⟨18446744073709551615, 1, 7, 0, 0, 0, 0, 7, 2, ⟨#[]⟩, ⟨#[]⟩⟩
def mc64 : Obj := .cells (madeCells #[.int .u8 0] 64) 5
theorem make64 (W : World) : (Instr.makeSlice 24 (.int .i64 64) (.int .i64 64)).run Tryd.prog W = .ok (.slice (some ⟨W.heap.size, 0, none⟩) 64 64) (W.alloc mc64) :=
  run_make_row' (P := Tryd.prog) 24 5 (.int .u8 0) 1 Tryd.underlying24 (by kernel_rfl) rfl .i64 .i64 64 (by decide) (by decide) W
theorem conv64 (W : World) (b : Nat) (h : ∀ j, j < 64 → W.cell? ⟨b, j, none⟩ = some (.int .u8 0)) : (convert 24 9 (.slice (some ⟨b, 0, none⟩) 64 64)).run Tryd.prog W = .ok (.string z64) W :=
  run_convert_bytes_back W 24 9 5 ⟨b, 0, none⟩ 64 (List.replicate 64 0) Tryd.underlying24 Tryd.underlying5 Tryd.underlying9 (fun j hj => by
    have hj' : j < 64 := by simpa using hj
    rw [show (⟨b, 0, none⟩ : Addr).add j = ⟨b, j, none⟩ from by simp only [Addr.add, Nat.zero_add]; split <;> simp_all, h j hj', List.getElem_replicate]
    rfl)
theorem mc64_cell (X : World) (j : Nat) (h : j < 64) : (X.alloc mc64).cell? ⟨X.heap.size, j, none⟩ = some (.int .u8 0) := by
  unfold mc64
  rw [World.cell?_alloc_new]
  have e : madeCells #[Value.int .u8 0] 64 = Array.replicate 64 (Value.int .u8 0) := by
    unfold madeCells
    apply Array.ext
    · simp
    · intro i h1 h2
      simp [Nat.mod_one]
  rw [e, Array.getElem?_replicate, if_pos h]
theorem conv64_0 (X : World) (b : Nat) (h : X.heap.size = b) : (convert 24 9 (.slice (some ⟨b, 0, none⟩) 64 64)).run Tryd.prog (X.alloc mc64).drew = .ok (.string z64) (X.alloc mc64).drew :=
  conv64 _ b fun j hj => by subst h; exact mc64_cell X j hj
theorem conv64_1 (X : World) (o : Obj) (b : Nat) (h : X.heap.size = b) : (convert 24 9 (.slice (some ⟨b, 0, none⟩) 64 64)).run Tryd.prog ((X.alloc mc64).alloc o).drew = .ok (.string z64) ((X.alloc mc64).alloc o).drew :=
  conv64 _ b fun j hj => by subst h; exact cell_al (mc64_cell X j hj) o
theorem conv64_2 (X : World) (o o' : Obj) (b : Nat) (h : X.heap.size = b) : (convert 24 9 (.slice (some ⟨b, 0, none⟩) 64 64)).run Tryd.prog (((X.alloc mc64).alloc o).alloc o').drew = .ok (.string z64) (((X.alloc mc64).alloc o).alloc o').drew :=
  conv64 _ b fun j hj => by subst h; exact cell_al (cell_al (mc64_cell X j hj) o) o'

theorem three_heap (w : World) (a b c : Obj) : (((w.alloc a).alloc b).alloc c).drew.heap[w.heap.size]? = some a ∧ (((w.alloc a).alloc b).alloc c).drew.heap[w.heap.size + 1]? = some b ∧ (((w.alloc a).alloc b).alloc c).drew.heap[w.heap.size + 1 + 1]? = some c ∧ Below w.heap.size w (((w.alloc a).alloc b).alloc c).drew := by
  have s1 : (w.alloc a).heap.size = w.heap.size + 1 := by simp
  have s2 : ((w.alloc a).alloc b).heap.size = w.heap.size + 1 + 1 := by simp
  refine ⟨?_, ?_, ?_, ((((Below.refl _ _).alloc (by omega) _).alloc (by omega) _).alloc (by omega) _).drew⟩
  · show (((w.alloc a).alloc b).alloc c).heap[_]? = _
    rw [Below.heap_alloc _ _ _ (by omega), Below.heap_alloc _ _ _ (by omega)]
    exact heap_alloc_new w a
  · show (((w.alloc a).alloc b).alloc c).heap[_]? = _
    rw [Below.heap_alloc _ _ _ (by omega), ← s1]
    exact heap_alloc_new _ b
  · show (((w.alloc a).alloc b).alloc c).heap[_]? = _
    rw [← s2]
    exact heap_alloc_new _ c

theorem right_raw (term index kind client seq block many node level : Int) (data old : ByteArray) (h : (Ent.mk term index kind client seq block many node level data old).wf) (r : Bool) (hr : rightB (Ent.mk term index kind client seq block many node level data old) = r) (w : World) :
    Calls Tryd.prog 10 #[.agg #[.int .u64 term, .int .u64 index, .int .i64 kind, .int .u64 client, .int .u64 seq, .int .u64 block, .int .u64 many, .int .i64 node, .int .i64 level, .string data, .string old]] w fun x w' => x = .returned (.bool r) ∧ Below w.heap.size w w' := by
  rw [← hr]
  exact right_any _ h w
theorem wf_of (e : Ent) (h : (decide (0 ≤ e.term ∧ e.term ≤ 18446744073709551615) && decide (0 ≤ e.index ∧ e.index ≤ 18446744073709551615) && decide (-9223372036854775808 ≤ e.kind ∧ e.kind ≤ 9223372036854775807) && decide (0 ≤ e.client ∧ e.client ≤ 18446744073709551615) && decide (0 ≤ e.seq ∧ e.seq ≤ 18446744073709551615) && decide (0 ≤ e.block ∧ e.block ≤ 18446744073709551615) && decide (0 ≤ e.many ∧ e.many ≤ 18446744073709551615)
    && decide (-9223372036854775808 ≤ e.node ∧ e.node ≤ 9223372036854775807) && decide (-9223372036854775808 ≤ e.level ∧ e.level ≤ 9223372036854775807) && decide (e.data.size ≤ 140737488351232) && decide (e.old.size ≤ 140737488351232)) = true) : e.wf := by
  simp only [Bool.and_eq_true, decide_eq_true_eq] at h
  obtain ⟨⟨⟨⟨⟨⟨⟨⟨⟨⟨a, b⟩, c⟩, d⟩, e'⟩, f⟩, g⟩, i⟩, j⟩, k⟩, l⟩ := h
  exact ⟨a, b, c, d, e', f, g, i, j, k, l⟩

set_option maxRecDepth 100000 in
set_option maxHeartbeats 4000000 in
theorem bounds_any (which : Int) (h0 : 0 ≤ which) (h1 : which ≤ 255) (w : World) (ht : Tabs w) : Calls Tryd.prog 3 #[.int .u8 which] w fun x w' => x = .returned (.bool true) ∧ Below w.heap.size w w' := by
  have HX := Lib.hid (examples04 w ht)
  clear ht
  have m64 := make64
  have v0 := conv64_0
  have v1 := conv64_1
  have v2 := conv64_2
  go_enter Tryd.func3, Tryd.ntmps3
  go_wp2_with fail
  refine HX.out.mono ?_
  rintro x w1 ⟨rfl, hb1⟩
  go_wp2_with fail
  go_upto_region 4 with fail
  go_cut [4] from 9 to 13 (fun s4 wx => ∃ b4, s4 = .pointer (some ⟨b4, 0, none⟩) ∧ wx.heap[b4]? = some (.cells exBig.cells EntT (0, 0)) ∧ w1.heap.size ≤ b4 ∧ Below w1.heap.size w1 wx)
  case first =>
    go_region
    all_goals (go_wp2_with fail; go_meet)
    all_goals refine ⟨_, rfl, ?_, ?_, ?_⟩
    all_goals first | exact (three_heap w1 _ _ _).1 | exact (three_heap w1 _ _ _).2.1 | exact (three_heap w1 _ _ _).2.2.1 | exact (three_heap w1 _ _ _).2.2.2 | omega
  case rest =>
  obtain ⟨b4, rfl, hb4, hlt, hbw⟩ := hcut
  clear m64 v0 v1 v2
  have he4 : EntAt wc b4 0 exBig := by
    refine ⟨?_, ?_, ?_, ?_, ?_, ?_, ?_, ?_, ?_, ?_, ?_⟩ <;> exact Lib.cell_of_heap hb4 _
  have hf4 : ∀ o, wc.frozen? ⟨b4, o, none⟩ = false := fun o => Lib.frozen_of_heap hb4 o
  have hl4 := (Array.getElem?_eq_some_iff.1 hb4).1
  obtain ⟨c0, c1, c2, c3, c4, c5, c6, c7, c8, c9, c10⟩ := he4
  simp only [Nat.zero_add, exBig] at c0 c1 c2 c3 c4 c5 c6 c7 c8 c9 c10
  go_wp2_with fail
  refine (right_raw _ _ _ _ _ _ _ _ _ _ _ (wf_of _ (by decide)) true (by rfl) _).mono ?_
  rintro x w2 ⟨rfl, hb2⟩
  have hreg : w2.heap[wc.heap.size]? = some (.cells exReg.cells EntT (0, 0)) := by rw [hb2.block _ (by simp)]; exact heap_alloc_new wc _
  have hbig : w2.heap[b4]? = some (.cells exBig.cells EntT (0, 0)) := by rw [hb2.block _ (by simp; omega), Below.heap_alloc _ _ _ hl4]; exact hb4
  have hbw2 : Below w1.heap.size w1 w2 := (hbw.alloc (by omega) _).trans (hb2.mono (by simp; omega))
  clear hb2 hb4 hf4 c0 c1 c2 c3 c4 c5 c6 c7 c8 c9 c10 hbw
  generalize hb5 : wc.heap.size = b5 at *
  have he5 : EntAt w2 b5 0 exReg := by
    refine ⟨?_, ?_, ?_, ?_, ?_, ?_, ?_, ?_, ?_, ?_, ?_⟩ <;> exact Lib.cell_of_heap hreg _
  obtain ⟨c0, c1, c2, c3, c4, c5, c6, c7, c8, c9, c10⟩ := he5
  simp only [Nat.zero_add, exReg] at c0 c1 c2 c3 c4 c5 c6 c7 c8 c9 c10
  go_wp2_with fail
  refine (right_raw _ _ _ _ _ _ _ _ _ _ _ (wf_of _ (by decide)) true (by rfl) _).mono ?_
  rintro x w3 ⟨rfl, hb3⟩
  have hreg3 : w3.heap[b5]? = some (.cells exReg.cells EntT (0, 0)) := by rw [hb3.block _ (Array.getElem?_eq_some_iff.1 hreg).1]; exact hreg
  have hbig3 : w3.heap[b4]? = some (.cells exBig.cells EntT (0, 0)) := by rw [hb3.block _ (Array.getElem?_eq_some_iff.1 hbig).1]; exact hbig
  have hbw3 : Below w.heap.size w w3 := hb1.trans ((hbw2.trans (hb3.mono hbw2.size)).mono hb1.size)
  have g4 : w.heap.size ≤ b4 := Nat.le_trans hb1.size hlt
  have g5 : w.heap.size ≤ b5 := by omega
  have g45 : b4 ≠ b5 := by omega
  have e4 : EntAt w3 b4 0 exBig := by
    refine ⟨?_, ?_, ?_, ?_, ?_, ?_, ?_, ?_, ?_, ?_, ?_⟩ <;> exact Lib.cell_of_heap hbig3 _
  have e5 : EntAt w3 b5 0 exReg := by
    refine ⟨?_, ?_, ?_, ?_, ?_, ?_, ?_, ?_, ?_, ?_, ?_⟩ <;> exact Lib.cell_of_heap hreg3 _
  have f4 : ∀ o, w3.frozen? ⟨b4, o, none⟩ = false := fun o => Lib.frozen_of_heap hbig3 o
  have f5 : ∀ o, w3.frozen? ⟨b5, o, none⟩ = false := fun o => Lib.frozen_of_heap hreg3 o
  have k4 := (Array.getElem?_eq_some_iff.1 hbig3).1
  have k5 := (Array.getElem?_eq_some_iff.1 hreg3).1
  clear c0 c1 c2 c3 c4 c5 c6 c7 c8 c9 c10 hb3 hbw2 hreg hbig hb1 hb5 hlt hl4 hreg3 hbig3
  obtain ⟨c0, c1, c2, c3, c4, c5, c6, c7, c8, c9, c10⟩ := e4
  obtain ⟨d0, d1, d2, d3, d4, d5, d6, d7, d8, d9, d10⟩ := e5
  simp only [Nat.zero_add, exBig, exReg] at c0 c1 c2 c3 c4 c5 c6 c7 c8 c9 c10 d0 d1 d2 d3 d4 d5 d6 d7 d8 d9 d10
  have hm : which % 10 = 0 ∨ which % 10 = 1 ∨ which % 10 = 2 ∨ which % 10 = 3 ∨ which % 10 = 4 ∨ which % 10 = 5 ∨ which % 10 = 6 ∨ which % 10 = 7 ∨ which % 10 = 8 ∨ which % 10 = 9 := by omega
  rcases hm with hm | hm | hm | hm | hm | hm | hm | hm | hm | hm
  all_goals
    go_wp2_with fail
    refine (right_raw _ _ _ _ _ _ _ _ _ _ _ (wf_of _ (by decide)) false (by rfl) _).mono ?_
    rintro x w5 ⟨rfl, hb5⟩
    clear c0 c1 c2 c3 c4 c5 c6 c7 c8 c9 c10 d0 d1 d2 d3 d4 d5 d6 d7 d8 d9 d10 f4 f5 hm
    go_wp2_with fail
    go_ret
    refine ⟨rfl, Below.trans ?_ (hb5.mono (by have := hbw3.size; simp; omega))⟩
    repeat' (first | with_reducible exact hbw3 | with_reducible exact g4 | with_reducible exact g5 | with_reducible refine Below.setCell ?_ ?_ _)

end Go.Proofs.YtbjbgdnjcppjhaaDoor
