/-
  law06's Made.made over this translation. No condition. By an AI agent.
-/
import Derived.Test.YtbjbgdnjcppjhaaGreatDoorMade
import Derived.Deep.Cut
import Derived.Deep.CutRange
namespace Go.Proofs.YtbjbgdnjcppjhaaGreatDoor
open Go.RowKit
set_option linter.unusedVariables false
set_option linter.unusedSimpArgs false

set_option maxRecDepth 100000 in
set_option maxHeartbeats 4000000 in
theorem made06_own (e : Ent) (h : e.wf) (w : World) :
    Calls Tryz.prog 8 #[.agg (e.cells ++ #[.bool true])] w fun x w' => x = .returned (ownEnt e).val ∧ Below w.heap.size w w' := by
  have hval : (.agg (e.cells ++ #[.bool true]) : Value) = .agg #[.int .u64 e.term, .int .u64 e.index, .int .i64 e.kind, .int .u64 e.client, .int .u64 e.seq, .int .u64 e.block, .int .u64 e.many, .int .i64 e.node, .int .i64 e.level, .string e.data, .string e.old, .bool true] := rfl
  rw [hval]
  obtain ⟨⟨t0, t1⟩, ⟨i0, i1⟩, ⟨k0, k1⟩, ⟨c0, c1⟩, ⟨s0, s1⟩, ⟨b0, b1⟩, ⟨m0, m1⟩, ⟨n0, n1⟩, ⟨l0, l1⟩, d0, o0⟩ := h
  clear hval
  go_enter Tryz.func8, Tryz.ntmps8
  go_upto_if 20 with fail
  go_cut [4] from 21 to 22 (fun s4 wx => s4 = .int .i64 (e.kind % 12) ∧ wx = ((w.alloc (.cells #[.int .u64 e.term, .int .u64 e.index, .int .i64 e.kind, .int .u64 e.client, .int .u64 e.seq, .int .u64 e.block, .int .u64 e.many, .int .i64 e.node, .int .i64 e.level, .string e.data, .string e.old, .bool true] 34)).alloc (.cells #[.int .u64 0, .int .u64 0, .int .i64 0, .int .u64 0, .int .u64 0, .int .u64 0, .int .u64 0, .int .i64 0, .int .i64 0, .string ⟨#[]⟩, .string ⟨#[]⟩] EntT)).alloc (.cells #[.int .u64 e.term, .int .u64 e.index, .int .i64 e.kind, .int .u64 e.client, .int .u64 e.seq, .int .u64 e.block, .int .u64 e.many, .int .i64 e.node, .int .i64 e.level, .string e.data, .string e.old] EntT))
  case first =>
    go_wp2_with fail
    all_goals go_meet
    all_goals
      refine ⟨congrArg (Value.int IntKind.i64) ?_, rfl⟩
      obtain ⟨q1, q2, q3, q4⟩ := tmod_at e.kind 12 (by decide)
      first
        | (unfold wrap64; omega)
        | omega
  case rest =>
  obtain ⟨rfl, rfl⟩ := hcut
  go_wp2_with fail
  refine (refFields_any _ _).mono ?_
  rintro x w1 ⟨rfl, hb1⟩
  have hb01 : Below w.heap.size w w1 := ((((Below.refl _ _).alloc (Nat.le_refl _) _).alloc (by simp) _).alloc (by simp; omega) _).trans (hb1.mono (by simp; omega))
  have he3 : EntAt w1 (w.heap.size + 1 + 1) 0 e := by
    have h3 := entAt_new ((w.alloc (.cells #[.int .u64 e.term, .int .u64 e.index, .int .i64 e.kind, .int .u64 e.client, .int .u64 e.seq, .int .u64 e.block, .int .u64 e.many, .int .i64 e.node, .int .i64 e.level, .string e.data, .string e.old, .bool true] 34)).alloc (.cells #[.int .u64 0, .int .u64 0, .int .i64 0, .int .u64 0, .int .u64 0, .int .u64 0, .int .u64 0, .int .i64 0, .int .i64 0, .string ⟨#[]⟩, .string ⟨#[]⟩] EntT)) e EntT
    simp only [World.size_alloc] at h3
    exact h3.below hb1
  have hz2 : w1.heap[w.heap.size + 1]? = some (.cells Ent.zero.cells EntT (0, 0)) := by
    rw [hb1.block _ (by simp), Below.heap_alloc _ _ _ (by simp)]
    have := heap_alloc_new (w.alloc (.cells #[.int .u64 e.term, .int .u64 e.index, .int .i64 e.kind, .int .u64 e.client, .int .u64 e.seq, .int .u64 e.block, .int .u64 e.many, .int .i64 e.node, .int .i64 e.level, .string e.data, .string e.old, .bool true] 34)) (.cells Ent.zero.cells EntT)
    simp only [World.size_alloc] at this
    exact this
  have hlt : w.heap.size + 1 + 1 < w1.heap.size := by have := hb1.size; simp at this; omega
  have hown : ownEnt e = (entL (e.kind % 12)).foldl (putL e) (ownBase e) := rfl
  have hfl := entL_letters (e.kind % 12)
  have hfn := entL_len (e.kind % 12)
  have HOWN := Lib.hid hown
  have HZ := Lib.hid hz2
  clear hown hb1 hz2
  have hbase : Ent.mk (e.term % 1000 + 1) (e.index % 1000 + 1) (e.kind % 12) 0 0 0 0 0 0 ⟨#[]⟩ ⟨#[]⟩ = ownBase e := rfl
  generalize entL (e.kind % 12) = f at *
  obtain ⟨a0, a1, a2, a3, a4, a5, a6, a7, a8, a9, a10⟩ := he3
  simp only [Nat.zero_add] at a1 a2 a3 a4 a5 a6 a7 a8 a9 a10
  go_wp2_with fail
  go_loopw [8] (fun i wr => ∃ (k : Nat) (x : Ent), k ≤ f.length ∧ i = .int .i64 k ∧ wr = w1.alloc (.cells #[.int .u64 x.term, .int .u64 x.index, .int .i64 x.kind, .int .u64 x.client, .int .u64 x.seq, .int .u64 x.block, .int .u64 x.many, .int .i64 x.node, .int .i64 x.level, .string x.data, .string x.old] EntT) ∧ (f.take k).foldl (putL e) (ownBase e) = x) (fun i _ => f.length - (intOf i).toNat)
  case atStart => exact ⟨0, _, Nat.zero_le _, rfl, rfl, hbase.symm⟩
  case round =>
    obtain ⟨k, x, hk, rfl, rfl, hx⟩ := hrel
    by_cases hlt2 : k < f.length
    · have hc := hfl f[k] (List.getElem_mem hlt2)
      have hst := foldl_snoc (putL e) f k hlt2 (ownBase e)
      rw [hx] at hst
      have HST := Lib.hid hst
      clear hst hx
      have hi : (ByteArray.mk f.toArray)[k]'hlt2 = f[k] := rfl
      clear hfl
      generalize f[k] = c at *
      rcases hc with rfl | rfl | rfl | rfl | rfl | rfl | rfl
      all_goals
        go_wp2_with fail
        go_roundw
        case rel => exact ⟨k + 1, _, by omega, by go_num, rfl, HST.out⟩
        case measure => simp [intOf]; omega
    · have hres : x = ownEnt e := by rw [HOWN.out, ← hx, List.take_of_length_le (by omega)]
      have HR := Lib.hid hres
      have e7 := entAt_new w1 x EntT
      simp only [Ent.cells] at e7
      have hbW := hb01.trans (((Below.refl _ _).alloc (Nat.le_refl _) (.cells #[.int .u64 x.term, .int .u64 x.index, .int .i64 x.kind, .int .u64 x.client, .int .u64 x.seq, .int .u64 x.block, .int .u64 x.many, .int .i64 x.node, .int .i64 x.level, .string x.data, .string x.old] EntT)).mono hb01.size)
      have hz : (w1.alloc (.cells #[.int .u64 x.term, .int .u64 x.index, .int .i64 x.kind, .int .u64 x.client, .int .u64 x.seq, .int .u64 x.block, .int .u64 x.many, .int .i64 x.node, .int .i64 x.level, .string x.data, .string x.old] EntT)).heap[w.heap.size + 1]? = some (.cells Ent.zero.cells EntT (0, 0)) := by
        rw [Below.heap_alloc _ _ _ (by omega)]; exact HZ.out
      generalize w1.alloc (.cells #[.int .u64 x.term, .int .u64 x.index, .int .i64 x.kind, .int .u64 x.client, .int .u64 x.seq, .int .u64 x.block, .int .u64 x.many, .int .i64 x.node, .int .i64 x.level, .string x.data, .string x.old] EntT) = W at *
      have e2 : EntAt W (w.heap.size + 1) 0 Ent.zero := by
        refine ⟨?_, ?_, ?_, ?_, ?_, ?_, ?_, ?_, ?_, ?_, ?_⟩ <;> exact Lib.cell_of_heap hz _
      have f2 : ∀ o, W.frozen? ⟨w.heap.size + 1, o, none⟩ = false := fun o => Lib.frozen_of_heap hz o
      have hb2 : w.heap.size ≤ w.heap.size + 1 := by omega
      have hne : w.heap.size + 1 ≠ w1.heap.size := by omega
      have HZW := Lib.hid hz
      clear hlt hb01 a0 a1 a2 a3 a4 a5 a6 a7 a8 a9 a10 hz HZ hres hx hfl
      generalize w.heap.size + 1 = b2 at *
      generalize w1.heap.size = b7 at *
      obtain ⟨y0, y1, y2, y3, y4, y5, y6, y7, y8, y9, y10⟩ := e7
      obtain ⟨z0, z1, z2, z3, z4, z5, z6, z7, z8, z9, z10⟩ := e2
      simp only [Nat.zero_add, Ent.zero] at y1 y2 y3 y4 y5 y6 y7 y8 y9 y10 z0 z1 z2 z3 z4 z5 z6 z7 z8 z9 z10
      go_wp2_with fail
      have hz := HZW.out
      refine bodyPost_ret (results_cell_row rfl _ _ b2 EntT x.cells (0, 0) _ rfl ?_ Tryz.underlying32 rfl (by kernel_rfl)) rfl ?_
      · simp [World.setCell, Array.getElem?_modify, hz, Ent.zero, Ent.cells]
      · refine ⟨by rw [HR.out]; rfl, ?_⟩
        repeat' (first | with_reducible exact hbW | with_reducible exact hb2 | with_reducible refine Below.setCell ?_ ?_ _)

set_option maxRecDepth 100000 in
set_option maxHeartbeats 4000000 in
theorem made06_raw (e : Ent) (w : World) :
    Calls Tryz.prog 8 #[.agg (e.cells ++ #[.bool false])] w fun x w' => x = .returned e.val ∧ Below w.heap.size w w' := by
  have hval : (.agg (e.cells ++ #[.bool false]) : Value) = .agg #[.int .u64 e.term, .int .u64 e.index, .int .i64 e.kind, .int .u64 e.client, .int .u64 e.seq, .int .u64 e.block, .int .u64 e.many, .int .i64 e.node, .int .i64 e.level, .string e.data, .string e.old, .bool false] := rfl
  rw [hval]
  clear hval
  go_enter Tryz.func8, Tryz.ntmps8
  go_wp2_with fail
  have hz := heap_alloc_new (w.alloc (.cells #[.int .u64 e.term, .int .u64 e.index, .int .i64 e.kind, .int .u64 e.client, .int .u64 e.seq, .int .u64 e.block, .int .u64 e.many, .int .i64 e.node, .int .i64 e.level, .string e.data, .string e.old, .bool false] 34)) (.cells e.cells EntT)
  simp only [World.size_alloc] at hz
  refine bodyPost_ret (results_cell_row rfl _ _ (w.heap.size + 1) EntT e.cells (0, 0) _ rfl hz Tryz.underlying32 rfl (by kernel_rfl)) rfl ?_
  exact ⟨rfl, ((Below.refl _ _).alloc (Nat.le_refl _) _).alloc (by simp) _⟩

/-- made: an entry, right or as it is -/
theorem made06_any (e : Ent) (own : Bool) (h : e.wf) (w : World) :
    Calls Tryz.prog 8 #[.agg (e.cells ++ #[.bool own])] w fun x w' => x = .returned (if own then ownEnt e else e).val ∧ Below w.heap.size w w' := by
  cases own
  · exact made06_raw e w
  · exact made06_own e h w

end Go.Proofs.YtbjbgdnjcppjhaaGreatDoor
