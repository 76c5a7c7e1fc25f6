/-
  law05's Made.made over this translation. No condition. By an AI agent.
-/
import Derived.Test.YtbjbgdnjcppjhaaGreatDoorMade
import Derived.Deep.Cut
import Derived.Deep.CutRange
import Derived.Test.YtbjbgdnjcppjhaaGreatDoorNoteP
import Derived.Test.YtbjbgdnjcppjhaaGreatDoorHeld
import Derived.Test.YtbjbgdnjcppjhaaGreatDoorVar
import Derived.Test.YtbjbgdnjcppjhaaGreatDoorZOpen
namespace Go.Proofs.YtbjbgdnjcppjhaaGreatDoor
open Go.RowKit
set_option linter.unusedVariables false
set_option linter.unusedSimpArgs false

set_option maxRecDepth 100000 in
set_option maxHeartbeats 4000000 in
theorem made05_own (e : Ent) (h : e.wf) (w : World) :
    Calls Tryz.prog 20 #[.agg (e.cells ++ #[.bool true])] w fun x w' => x = .returned (ownEnt e).val ∧ Below w.heap.size w w' := by
  have hval : (.agg (e.cells ++ #[.bool true]) : Value) = .agg #[.int .u64 e.term, .int .u64 e.index, .int .i64 e.kind, .int .u64 e.client, .int .u64 e.seq, .int .u64 e.block, .int .u64 e.many, .int .i64 e.node, .int .i64 e.level, .string e.data, .string e.old, .bool true] := rfl
  rw [hval]
  obtain ⟨⟨t0, t1⟩, ⟨i0, i1⟩, ⟨k0, k1⟩, ⟨c0, c1⟩, ⟨s0, s1⟩, ⟨b0, b1⟩, ⟨m0, m1⟩, ⟨n0, n1⟩, ⟨l0, l1⟩, d0, o0⟩ := h
  clear hval
  go_enter Tryz.func20, Tryz.ntmps20
  go_upto_if 20 with fail
  go_cut [4] from 21 to 22 (fun s4 wx => s4 = .int .i64 (e.kind % 12) ∧ wx = ((w.alloc (.cells #[.int .u64 e.term, .int .u64 e.index, .int .i64 e.kind, .int .u64 e.client, .int .u64 e.seq, .int .u64 e.block, .int .u64 e.many, .int .i64 e.node, .int .i64 e.level, .string e.data, .string e.old, .bool true] 52)).alloc (.cells #[.int .u64 0, .int .u64 0, .int .i64 0, .int .u64 0, .int .u64 0, .int .u64 0, .int .u64 0, .int .i64 0, .int .i64 0, .string ⟨#[]⟩, .string ⟨#[]⟩] EntT)).alloc (.cells #[.int .u64 e.term, .int .u64 e.index, .int .i64 e.kind, .int .u64 e.client, .int .u64 e.seq, .int .u64 e.block, .int .u64 e.many, .int .i64 e.node, .int .i64 e.level, .string e.data, .string e.old] EntT))
  case first =>
    go_wp2_with fail
    all_goals go_meet
    all_goals
      refine ⟨congrArg (Value.int IntKind.i64) ?_, rfl⟩
      obtain ⟨q1, q2, q3, q4⟩ := tmod_at e.kind 12 (by decide)
      first
        | (unfold wrap64; omega)
        | omega
  case rest =>
  obtain ⟨rfl, rfl⟩ := hcut
  go_wp2_with fail
  refine (refFields_any _ _).mono ?_
  rintro x w1 ⟨rfl, hb1⟩
  have hb01 : Below w.heap.size w w1 := ((((Below.refl _ _).alloc (Nat.le_refl _) _).alloc (by simp) _).alloc (by simp; omega) _).trans (hb1.mono (by simp; omega))
  have he3 : EntAt w1 (w.heap.size + 1 + 1) 0 e := by
    have h3 := entAt_new ((w.alloc (.cells #[.int .u64 e.term, .int .u64 e.index, .int .i64 e.kind, .int .u64 e.client, .int .u64 e.seq, .int .u64 e.block, .int .u64 e.many, .int .i64 e.node, .int .i64 e.level, .string e.data, .string e.old, .bool true] 52)).alloc (.cells #[.int .u64 0, .int .u64 0, .int .i64 0, .int .u64 0, .int .u64 0, .int .u64 0, .int .u64 0, .int .i64 0, .int .i64 0, .string ⟨#[]⟩, .string ⟨#[]⟩] EntT)) e EntT
    simp only [World.size_alloc] at h3
    exact h3.below hb1
  have hz2 : w1.heap[w.heap.size + 1]? = some (.cells Ent.zero.cells EntT (0, 0)) := by
    rw [hb1.block _ (by simp), Below.heap_alloc _ _ _ (by simp)]
    have := heap_alloc_new (w.alloc (.cells #[.int .u64 e.term, .int .u64 e.index, .int .i64 e.kind, .int .u64 e.client, .int .u64 e.seq, .int .u64 e.block, .int .u64 e.many, .int .i64 e.node, .int .i64 e.level, .string e.data, .string e.old, .bool true] 52)) (.cells Ent.zero.cells EntT)
    simp only [World.size_alloc] at this
    exact this
  have hlt : w.heap.size + 1 + 1 < w1.heap.size := by have := hb1.size; simp at this; omega
  have hown : ownEnt e = (entL (e.kind % 12)).foldl (putL e) (ownBase e) := rfl
  have hfl := entL_letters (e.kind % 12)
  have hfn := entL_len (e.kind % 12)
  have HOWN := Lib.hid hown
  have HZ := Lib.hid hz2
  clear hown hb1 hz2
  have hbase : Ent.mk (e.term % 1000 + 1) (e.index % 1000 + 1) (e.kind % 12) 0 0 0 0 0 0 ⟨#[]⟩ ⟨#[]⟩ = ownBase e := rfl
  generalize entL (e.kind % 12) = f at *
  obtain ⟨a0, a1, a2, a3, a4, a5, a6, a7, a8, a9, a10⟩ := he3
  simp only [Nat.zero_add] at a1 a2 a3 a4 a5 a6 a7 a8 a9 a10
  go_wp2_with fail
  go_loopw [8] (fun i wr => ∃ (k : Nat) (x : Ent), k ≤ f.length ∧ i = .int .i64 k ∧ wr = w1.alloc (.cells #[.int .u64 x.term, .int .u64 x.index, .int .i64 x.kind, .int .u64 x.client, .int .u64 x.seq, .int .u64 x.block, .int .u64 x.many, .int .i64 x.node, .int .i64 x.level, .string x.data, .string x.old] EntT) ∧ (f.take k).foldl (putL e) (ownBase e) = x) (fun i _ => f.length - (intOf i).toNat)
  case atStart => exact ⟨0, _, Nat.zero_le _, rfl, rfl, hbase.symm⟩
  case round =>
    obtain ⟨k, x, hk, rfl, rfl, hx⟩ := hrel
    by_cases hlt2 : k < f.length
    · have hc := hfl f[k] (List.getElem_mem hlt2)
      have hst := foldl_snoc (putL e) f k hlt2 (ownBase e)
      rw [hx] at hst
      have HST := Lib.hid hst
      clear hst hx
      have hi : (ByteArray.mk f.toArray)[k]'hlt2 = f[k] := rfl
      clear hfl
      generalize f[k] = c at *
      rcases hc with rfl | rfl | rfl | rfl | rfl | rfl | rfl
      all_goals
        go_wp2_with fail
        go_roundw
        case rel => exact ⟨k + 1, _, by omega, by go_num, rfl, HST.out⟩
        case measure => simp [intOf]; omega
    · have hres : x = ownEnt e := by rw [HOWN.out, ← hx, List.take_of_length_le (by omega)]
      have HR := Lib.hid hres
      have e7 := entAt_new w1 x EntT
      simp only [Ent.cells] at e7
      have hbW := hb01.trans (((Below.refl _ _).alloc (Nat.le_refl _) (.cells #[.int .u64 x.term, .int .u64 x.index, .int .i64 x.kind, .int .u64 x.client, .int .u64 x.seq, .int .u64 x.block, .int .u64 x.many, .int .i64 x.node, .int .i64 x.level, .string x.data, .string x.old] EntT)).mono hb01.size)
      have hz : (w1.alloc (.cells #[.int .u64 x.term, .int .u64 x.index, .int .i64 x.kind, .int .u64 x.client, .int .u64 x.seq, .int .u64 x.block, .int .u64 x.many, .int .i64 x.node, .int .i64 x.level, .string x.data, .string x.old] EntT)).heap[w.heap.size + 1]? = some (.cells Ent.zero.cells EntT (0, 0)) := by
        rw [Below.heap_alloc _ _ _ (by omega)]; exact HZ.out
      generalize w1.alloc (.cells #[.int .u64 x.term, .int .u64 x.index, .int .i64 x.kind, .int .u64 x.client, .int .u64 x.seq, .int .u64 x.block, .int .u64 x.many, .int .i64 x.node, .int .i64 x.level, .string x.data, .string x.old] EntT) = W at *
      have e2 : EntAt W (w.heap.size + 1) 0 Ent.zero := by
        refine ⟨?_, ?_, ?_, ?_, ?_, ?_, ?_, ?_, ?_, ?_, ?_⟩ <;> exact Lib.cell_of_heap hz _
      have f2 : ∀ o, W.frozen? ⟨w.heap.size + 1, o, none⟩ = false := fun o => Lib.frozen_of_heap hz o
      have hb2 : w.heap.size ≤ w.heap.size + 1 := by omega
      have hne : w.heap.size + 1 ≠ w1.heap.size := by omega
      have HZW := Lib.hid hz
      clear hlt hb01 a0 a1 a2 a3 a4 a5 a6 a7 a8 a9 a10 hz HZ hres hx hfl
      generalize w.heap.size + 1 = b2 at *
      generalize w1.heap.size = b7 at *
      obtain ⟨y0, y1, y2, y3, y4, y5, y6, y7, y8, y9, y10⟩ := e7
      obtain ⟨z0, z1, z2, z3, z4, z5, z6, z7, z8, z9, z10⟩ := e2
      simp only [Nat.zero_add, Ent.zero] at y1 y2 y3 y4 y5 y6 y7 y8 y9 y10 z0 z1 z2 z3 z4 z5 z6 z7 z8 z9 z10
      go_wp2_with fail
      have hz := HZW.out
      refine bodyPost_ret (results_cell_row rfl _ _ b2 EntT x.cells (0, 0) _ rfl ?_ Tryz.underlying32 rfl (by kernel_rfl)) rfl ?_
      · simp [World.setCell, Array.getElem?_modify, hz, Ent.zero, Ent.cells]
      · refine ⟨by rw [HR.out]; rfl, ?_⟩
        repeat' (first | with_reducible exact hbW | with_reducible exact hb2 | with_reducible refine Below.setCell ?_ ?_ _)

set_option maxRecDepth 100000 in
set_option maxHeartbeats 4000000 in
theorem made05_raw (e : Ent) (w : World) :
    Calls Tryz.prog 20 #[.agg (e.cells ++ #[.bool false])] w fun x w' => x = .returned e.val ∧ Below w.heap.size w w' := by
  have hval : (.agg (e.cells ++ #[.bool false]) : Value) = .agg #[.int .u64 e.term, .int .u64 e.index, .int .i64 e.kind, .int .u64 e.client, .int .u64 e.seq, .int .u64 e.block, .int .u64 e.many, .int .i64 e.node, .int .i64 e.level, .string e.data, .string e.old, .bool false] := rfl
  rw [hval]
  clear hval
  go_enter Tryz.func20, Tryz.ntmps20
  go_wp2_with fail
  have hz := heap_alloc_new (w.alloc (.cells #[.int .u64 e.term, .int .u64 e.index, .int .i64 e.kind, .int .u64 e.client, .int .u64 e.seq, .int .u64 e.block, .int .u64 e.many, .int .i64 e.node, .int .i64 e.level, .string e.data, .string e.old, .bool false] 52)) (.cells e.cells EntT)
  simp only [World.size_alloc] at hz
  refine bodyPost_ret (results_cell_row rfl _ _ (w.heap.size + 1) EntT e.cells (0, 0) _ rfl hz Tryz.underlying32 rfl (by kernel_rfl)) rfl ?_
  exact ⟨rfl, ((Below.refl _ _).alloc (Nat.le_refl _) _).alloc (by simp) _⟩

/-- made: an entry, right or as it is -/
theorem made05_any (e : Ent) (own : Bool) (h : e.wf) (w : World) :
    Calls Tryz.prog 20 #[.agg (e.cells ++ #[.bool own])] w fun x w' => x = .returned (if own then ownEnt e else e).val ∧ Below w.heap.size w w' := by
  cases own
  · exact made05_raw e w
  · exact made05_own e h w

end Go.Proofs.YtbjbgdnjcppjhaaGreatDoor

/-
  law05's Note.note over this translation. Conditions: the numbers are of their kinds. By an AI agent.
-/
namespace Go.Proofs.YtbjbgdnjcppjhaaGreatDoor
open Go.RowKit
set_option linter.unusedVariables false
set_option linter.unusedSimpArgs false
attribute [local go_sem ↓] Go.wp_at_zero Go.wp_at_succ

set_option maxRecDepth 100000 in
set_option maxHeartbeats 4000000 in
theorem note05_own (m : Msg) (sa : Option Addr) (sn sc : Nat) (sL : Value) (L : List (Ent × Bool)) (hm : I64 m.kind ∧ I64 m.frm ∧ I64 m.to ∧ U64 m.term ∧ U64 m.index ∧ U64 m.prev ∧ U64 m.commit ∧ U64 m.mark) (hL : ∀ p ∈ L, p.1.wf) (w : World) (hs : MadesAt w sL L) :
    Calls Tryz.prog 23 #[.agg (m.cells (.slice sa sn sc) ++ #[.bool true, sL])] w fun x w' => ∃ s', x = .returned (.agg ((ownMsg m (L.map (·.1))).cells s')) ∧ EntsAt w' s' (ownMsg m (L.map (·.1))).entries ∧ Below w.heap.size w w' := by
  obtain ⟨la, lc, rfl, hc1, hc2, hLs⟩ := hs
  have hval : (.agg (m.cells (.slice sa sn sc) ++ #[.bool true, .slice la L.length lc]) : Value) = .agg #[.int .i64 m.kind, .int .i64 m.frm, .int .i64 m.to, .int .u64 m.term, .int .u64 m.index, .int .u64 m.prev, .int .u64 m.commit, .int .u64 m.mark, .bool m.ok, .slice sa sn sc, .string m.snap, .bool true, .slice la L.length lc] := rfl
  rw [hval]
  obtain ⟨⟨k0, k1⟩, ⟨f0, f1⟩, ⟨t0, t1⟩, ⟨te0, te1⟩, ⟨i0, i1⟩, ⟨p0, p1⟩, ⟨c0, c1⟩, ⟨mk0, mk1⟩⟩ := hm
  clear hval
  have HS := Lib.hid hLs
  have HL := Lib.hid hL
  clear hLs hL
  obtain ⟨i0, hi0, hz0, hz1, hz2⟩ := info_parts infoEnt
  have HI := Lib.hid hi0
  clear hi0
  go_enter Tryz.func23, Tryz.ntmps23
  go_upto_if 22 with fail
  go_cut [4] from 23 to 24 (fun s4 wx => s4 = .int .i64 (m.kind % 10) ∧ wx = ((w.alloc (.cells #[.int .i64 m.kind, .int .i64 m.frm, .int .i64 m.to, .int .u64 m.term, .int .u64 m.index, .int .u64 m.prev, .int .u64 m.commit, .int .u64 m.mark, .bool m.ok, .slice sa sn sc, .string m.snap, .bool true, .slice la L.length lc] 51)).alloc (.cells #[.int .i64 0, .int .i64 0, .int .i64 0, .int .u64 0, .int .u64 0, .int .u64 0, .int .u64 0, .int .u64 0, .bool false, .slice none 0 0, .string ⟨#[]⟩] 26)).alloc (.cells #[.int .i64 m.kind, .int .i64 m.frm, .int .i64 m.to, .int .u64 m.term, .int .u64 m.index, .int .u64 m.prev, .int .u64 m.commit, .int .u64 m.mark, .bool m.ok, .slice sa sn sc, .string m.snap] 26))
  case first =>
    go_wp2_with fail
    all_goals go_meet
    all_goals
      refine ⟨congrArg (Value.int IntKind.i64) ?_, rfl⟩
      obtain ⟨q1, q2, q3, q4⟩ := tmod_at m.kind 10 (by decide)
      first
        | (unfold wrap64; omega)
        | omega
  case rest =>
  obtain ⟨rfl, rfl⟩ := hcut
  have hkr : 0 ≤ m.kind % 10 ∧ m.kind % 10 ≤ 9 := by omega
  go_wp2_with fail
  refine (refMsgFields_any _ _).mono ?_
  rintro x w1 ⟨rfl, hb1⟩
  have hb01 : Below w.heap.size w w1 := ((((Below.refl _ _).alloc (Nat.le_refl _) _).alloc (by simp) _).alloc (by simp; omega) _).trans (hb1.mono (by simp; omega))
  have hlt : w.heap.size + 1 + 1 < w1.heap.size := by have := hb1.size; simp at this; omega
  have hm3 : MsgAt w1 (w.heap.size + 1 + 1) m (.slice sa sn sc) := by
    refine msgAt_block (r := []) (t := MsgT) ?_
    rw [hb1.block _ (by simp)]
    have := heap_alloc_new ((w.alloc (.cells #[.int .i64 m.kind, .int .i64 m.frm, .int .i64 m.to, .int .u64 m.term, .int .u64 m.index, .int .u64 m.prev, .int .u64 m.commit, .int .u64 m.mark, .bool m.ok, .slice sa sn sc, .string m.snap, .bool true, .slice la L.length lc] 51)).alloc (.cells #[.int .i64 0, .int .i64 0, .int .i64 0, .int .u64 0, .int .u64 0, .int .u64 0, .int .u64 0, .int .u64 0, .bool false, .slice none 0 0, .string ⟨#[]⟩] 26)) (.cells (m.cells (.slice sa sn sc)) MsgT)
    simp only [World.size_alloc] at this
    exact this
  have hz2 : w1.heap[w.heap.size + 1]? = some (.cells #[.int .i64 0, .int .i64 0, .int .i64 0, .int .u64 0, .int .u64 0, .int .u64 0, .int .u64 0, .int .u64 0, .bool false, .slice none 0 0, .string ⟨#[]⟩] MsgT (0, 0)) := by
    rw [hb1.block _ (by simp), Below.heap_alloc _ _ _ (by simp)]
    have := heap_alloc_new (w.alloc (.cells #[.int .i64 m.kind, .int .i64 m.frm, .int .i64 m.to, .int .u64 m.term, .int .u64 m.index, .int .u64 m.prev, .int .u64 m.commit, .int .u64 m.mark, .bool m.ok, .slice sa sn sc, .string m.snap, .bool true, .slice la L.length lc] 51)) (.cells #[.int .i64 0, .int .i64 0, .int .i64 0, .int .u64 0, .int .u64 0, .int .u64 0, .int .u64 0, .int .u64 0, .bool false, .slice none 0 0, .string ⟨#[]⟩] MsgT)
    simp only [World.size_alloc] at this
    exact this
  have hn1 : w1.cell? ⟨w.heap.size, 12, none⟩ = some (.slice la L.length lc) := by
    have := heap_alloc_new w (.cells #[.int .i64 m.kind, .int .i64 m.frm, .int .i64 m.to, .int .u64 m.term, .int .u64 m.index, .int .u64 m.prev, .int .u64 m.commit, .int .u64 m.mark, .bool m.ok, .slice sa sn sc, .string m.snap, .bool true, .slice la L.length lc] 51)
    have hh : w1.heap[w.heap.size]? = _ := (hb1.block _ (by simp; omega)).trans ((Below.heap_alloc _ _ _ (by simp; omega)).trans ((Below.heap_alloc _ _ _ (by simp)).trans this))
    rw [Lib.cell_of_heap hh]
    rfl
  have hM : L.length = (L.map (·.1)).length := by simp
  have hown : ownMsg m (L.map (·.1)) = (msgL (m.kind % 10 + 1)).foldl (putM m (L.map (·.1))) (noteBase m) := rfl
  have hfl := msgL_letters (m.kind % 10 + 1)
  have hfn := msgL_len (m.kind % 10 + 1)
  have HOWN := Lib.hid hown
  have HZ := Lib.hid hz2
  have HB := Lib.hid hb01
  have hs1 : L ≠ [] → ∃ B o, la = some ⟨B, o, none⟩ ∧ B < w1.heap.size ∧ ∀ i (h : i < L.length), EntAt w1 B (o + i * 12) L[i].1 ∧ w1.cell? ⟨B, o + i * 12 + 11, none⟩ = some (.bool L[i].2) := fun h => by
    obtain ⟨B, o, h1, h2, h3⟩ := HS.out h
    exact ⟨B, o, h1, Nat.lt_of_lt_of_le h2 hb01.size, fun i hi => ⟨(h3 i hi).1.below hb01, cell_later hb01 (h3 i hi).2⟩⟩
  have HS1 := Lib.hid hs1
  have HM := Lib.hid hM
  clear hown hb1 hz2 hb01 HS hM hs1
  have hms := hm3
  obtain ⟨a0, a1, a2, a3, a4, a5, a6, a7, a8, a9, a10⟩ := hm3
  generalize msgL (m.kind % 10 + 1) = f at *
  have hpos : w1.heap.size < (w1.alloc (.cells ((noteBase m).cells (.slice none 0 0)) MsgT)).heap.size := by simp
  go_wp2_with fail
  go_loopw [8] (fun i wr => ∃ (k : Nat) (x : Msg) (v : Value), k ≤ f.length ∧ i = .int .i64 k ∧ NoteSt w1 wr x v ∧ (f.take k).foldl (putM m (L.map (·.1))) (noteBase m) = x) (fun i _ => f.length - (intOf i).toNat)
  case atStart => exact ⟨0, _, _, Nat.zero_le _, rfl, NoteSt.new w1 m, rfl⟩
  case round =>
    obtain ⟨k, x, v, hk, rfl, st, hx⟩ := hrel
    clear a0 a1 a2 a3 a4 a5 a6 a7 a8 a9 a10
    by_cases hlt2 : k < f.length
    · have hc := hfl f[k] (List.getElem_mem hlt2)
      have hst := foldl_snoc (putM m (L.map (·.1))) f k hlt2 (noteBase m)
      have hcnt := putM_count m (L.map (·.1)) (f.take k) (noteBase m) 0 (Nat.le_refl _)
      rw [hx] at hst hcnt
      have hcnt : x.entries.length ≤ 10000 := by have := List.length_take_le k f; omega
      have HST := Lib.hid hst
      clear hst hx
      have hi : (ByteArray.mk f.toArray)[k]'hlt2 = f[k] := rfl
      clear hfl
      generalize f[k] = c at *
      obtain ⟨va, vc, rfl, _⟩ := st.ents
      have hf7 : ∀ o, wr.frozen? ⟨w1.heap.size, o, none⟩ = false := fun o => Lib.frozen_of_heap st.block o
      obtain ⟨a0, a1, a2, a3, a4, a5, a6, a7, a8, a9, a10⟩ := hms.below st.below
      obtain ⟨b0, b1, b2, b3, b4, b5, b6, b7, b8, b9, b10⟩ := msgAt_block (r := []) st.block
      have hn2 := cell_later st.below hn1
      have hsz := st.below.size
      have ST := Lib.hid st
      have HN := Lib.hid hn1
      clear st hms hn1
      rcases hc with rfl | rfl | rfl | rfl | rfl | rfl | rfl
      · go_wp2_with fail
        go_roundw
        case rel => exact ⟨k + 1, { x with index := m.index }, _, by omega, by go_num, ST.out.set 4 _ rfl rfl, HST.out⟩
        case measure => simp [intOf]; omega
      · go_wp2_with fail
        go_roundw
        case rel => exact ⟨k + 1, { x with prev := m.prev }, _, by omega, by go_num, ST.out.set 5 _ rfl rfl, HST.out⟩
        case measure => simp [intOf]; omega
      · go_wp2_with fail
        go_roundw
        case rel => exact ⟨k + 1, { x with commit := m.commit }, _, by omega, by go_num, ST.out.set 6 _ rfl rfl, HST.out⟩
        case measure => simp [intOf]; omega
      · go_wp2_with fail
        go_roundw
        case rel => exact ⟨k + 1, { x with mark := m.mark }, _, by omega, by go_num, ST.out.set 7 _ rfl rfl, HST.out⟩
        case measure => simp [intOf]; omega
      · go_wp2_with fail
        go_roundw
        case rel => exact ⟨k + 1, { x with ok := m.ok }, _, by omega, by go_num, ST.out.set 8 _ rfl rfl, HST.out⟩
        case measure => simp [intOf]; omega
      · go_wp2_with fail
        go_loopw [9] (fun i wr' => ∃ (j : Nat) (v' : Value), j ≤ L.length ∧ j ≤ 10 ∧ i = .int .i64 j ∧ NoteSt w1 wr' { x with entries := x.entries ++ ((L.map (·.1)).take j).map ownEnt } v') (fun i _ => 10 - (intOf i).toNat)
        case atStart =>
          refine ⟨0, .slice va x.entries.length vc, Nat.zero_le _, Nat.zero_le _, rfl, ?_⟩
          rw [List.take_zero, List.map_nil, List.append_nil]
          exact ST.out
        case round =>
          obtain ⟨j, v', hjl, hj10, rfl, st'⟩ := hrel
          clear a0 a1 a2 a3 a4 a5 a6 a7 a8 a9 a10 b0 b1 b2 b3 b4 b5 b6 b7 b8 b9 b10 hn2 hf7 hsz
          obtain ⟨va', vc', rfl, _⟩ := st'.ents
          have hf7 : ∀ o, wr.frozen? ⟨w1.heap.size, o, none⟩ = false := fun o => Lib.frozen_of_heap st'.block o
          obtain ⟨b0, b1, b2, b3, b4, b5, b6, b7, b8, b9, b10⟩ := msgAt_block (r := []) st'.block
          have hn2 := cell_later st'.below HN.out
          have hsz : w1.heap.size < wr.heap.size := (Array.getElem?_eq_some_iff.1 st'.block).1
          have hlen : (x.entries ++ ((L.map (·.1)).take j).map ownEnt).length = x.entries.length + j := by simp; omega
          simp only [hlen] at b9
          have ST2 := Lib.hid st'
          clear st'
          by_cases hjL : j < L.length
          · by_cases hj : j < 10
            · obtain ⟨B, o, rfl, hBlt, hEl⟩ := HS1.out (show L ≠ [] from fun h0 => by rw [h0] at hjL; exact absurd hjL (Nat.not_lt_zero _))
              obtain ⟨hel, how⟩ := hEl j hjL
              have hwf := HL.out _ (List.getElem_mem hjL)
              have hst2 : ((L.map (·.1)).take (j + 1)).map ownEnt = ((L.map (·.1)).take j).map ownEnt ++ [ownEnt L[j].1] := by
                rw [List.take_succ_eq_append_getElem (by simpa using hjL)]
                simp
              have hel2 := hel.below ST2.out.below
              have how2 := cell_later ST2.out.below how
              clear hel how hEl
              have HST2 := Lib.hid hst2
              have HWF := Lib.hid hwf
              clear hst2 hwf
              generalize L[j] = p at *
              obtain ⟨e, ow⟩ := p
              simp only at hel2 how2
              obtain ⟨a0, a1, a2, a3, a4, a5, a6, a7, a8, a9, a10⟩ := hel2
              have hcall : ∀ W, Calls Tryz.prog 20 #[.agg #[.int .u64 e.term, .int .u64 e.index, .int .i64 e.kind, .int .u64 e.client, .int .u64 e.seq, .int .u64 e.block, .int .u64 e.many, .int .i64 e.node, .int .i64 e.level, .string e.data, .string e.old, .bool true]] W fun r W' => r = .returned (.agg #[.int .u64 (ownEnt e).term, .int .u64 (ownEnt e).index, .int .i64 (ownEnt e).kind, .int .u64 (ownEnt e).client, .int .u64 (ownEnt e).seq, .int .u64 (ownEnt e).block, .int .u64 (ownEnt e).many, .int .i64 (ownEnt e).node, .int .i64 (ownEnt e).level, .string (ownEnt e).data, .string (ownEnt e).old]) ∧ Below W.heap.size W W' := fun W => made05_own e HWF.out W
              have HC := Lib.hid hcall
              clear hcall
              simp only at HST2
              generalize ownEnt e = y at *
              have far1 : (Value.slice va' (x.entries.length + j) vc').ownBlock ≠ some w1.heap.size := by
                have h := own_far ST2.out.row
                rw [hlen] at h
                rcases h with h | h
                · rw [h]; simp
                · exact h
              have far2 : (Value.slice va' (x.entries.length + j) vc').ownBlock ≠ some wr.heap.size := fun h => by
                have h1 := ST2.out.row
                rw [hlen] at h1
                have := (h1.lt _ h).2
                omega
              have hrow := ST2.out.row
              rw [hlen] at hrow
              have ROW := Lib.hid hrow
              clear hrow
              have h90 : (wr.alloc (.cells #[.int .u64 e.term, .int .u64 e.index, .int .i64 e.kind, .int .u64 e.client, .int .u64 e.seq, .int .u64 e.block, .int .u64 e.many, .int .i64 e.node, .int .i64 e.level, .string e.data, .string e.old, .bool true] 52)).cell? ⟨w1.heap.size, 9, none⟩ = some (.slice va' (x.entries.length + j) vc') := cell_al b9 _
              have h9f : (wr.alloc (.cells #[.int .u64 e.term, .int .u64 e.index, .int .i64 e.kind, .int .u64 e.client, .int .u64 e.seq, .int .u64 e.block, .int .u64 e.many, .int .i64 e.node, .int .i64 e.level, .string e.data, .string e.old, .bool true] 52)).heap[w1.heap.size]? = some (.cells (Msg.cells { x with entries := x.entries ++ ((L.map (·.1)).take j).map ownEnt } (.slice va' (x.entries.length + j) vc')) MsgT (0, 0)) := by
                rw [Below.heap_alloc _ _ _ hsz, ← hlen]
                exact ST2.out.block
              have H90 := Lib.hid h90
              have H9F := Lib.hid h9f
              have HB9 := Lib.hid b9
              clear h90 h9f
              go_wp2_with fail
              clear a0 a1 a2 a3 a4 a5 a6 a7 a8 a9 a10 b0 b1 b2 b3 b4 b5 b6 b7 b8 b9 b10 how2 hn2
              have hS0 : AppS w1.heap.size 9 wr.heap.size (.slice va' (x.entries.length + j) vc') e (wr.alloc (.cells #[.int .u64 e.term, .int .u64 e.index, .int .i64 e.kind, .int .u64 e.client, .int .u64 e.seq, .int .u64 e.block, .int .u64 e.many, .int .i64 e.node, .int .i64 e.level, .string e.data, .string e.old, .bool true] 52)).drew := by
                refine ⟨H90.out, ⟨?_, ?_, ?_, ?_, ?_, ?_, ?_, ?_, ?_, ?_, ?_⟩, ?_⟩ <;> simp
              refine region_D (AppS w1.heap.size 9 wr.heap.size (.slice va' (x.entries.length + j) vc') e) [7] 8 (by kernel_rfl) (by rfl) ?_
              refine takeD (i := 0) (v := .pointer (some ⟨w1.heap.size, 9, none⟩)) (by rfl) (by kernel_rfl) (fun _ _ _ h => h) (by rfl) (fun u hu => ?_) hS0 ?_
              · go_simp
              simp only [Act.put, List.setIfInBounds_toArray, List.set_cons_zero, List.set_cons_succ]
              refine takeD (i := 1) (v := .slice va' (x.entries.length + j) vc') (by rfl) (by kernel_rfl) (fun _ _ _ h => h) (by rfl) (fun u hu => ?_) hS0 ?_
              · have hu0 := hu.1
                go_simp
              simp only [Act.put, List.setIfInBounds_toArray, List.set_cons_zero, List.set_cons_succ]
              refine takeD (i := 2) (v := .agg #[.int .u64 e.term, .int .u64 e.index, .int .i64 e.kind, .int .u64 e.client, .int .u64 e.seq, .int .u64 e.block, .int .u64 e.many, .int .i64 e.node, .int .i64 e.level, .string e.data, .string e.old, .bool true]) (by rfl) (by kernel_rfl) (fun _ _ _ h => h) (by rfl) (fun u hu => ?_) hS0 ?_
              · obtain ⟨_, ⟨hu0, hu1, hu2, hu3, hu4, hu5, hu6, hu7, hu8, hu9, hu10⟩, hu11⟩ := hu
                simp only [Nat.zero_add] at hu1 hu2 hu3 hu4 hu5 hu6 hu7 hu8 hu9 hu10
                go_simp
              simp only [Act.put, List.setIfInBounds_toArray, List.set_cons_zero, List.set_cons_succ]
              refine oneD (i := 3) (by rfl) (by kernel_rfl) (by rfl) ?_
              go_simp
              refine (HC.out _).mono ?_
              rintro _ w2 ⟨rfl, hb2⟩
              have hS2 := hS0.below hb2
              have hb2s : wr.heap.size < w2.heap.size := by
                have h : (wr.alloc (.cells #[.int .u64 e.term, .int .u64 e.index, .int .i64 e.kind, .int .u64 e.client, .int .u64 e.seq, .int .u64 e.block, .int .u64 e.many, .int .i64 e.node, .int .i64 e.level, .string e.data, .string e.old, .bool true] 52)).heap.size ≤ w2.heap.size := hb2.size
                rw [World.size_alloc] at h
                omega
              refine ⟨hS2, ?_⟩
              try simp only [Act.put, List.setIfInBounds_toArray, List.set_cons_zero, List.set_cons_succ]
              refine oneD (i := 4) (by rfl) (by kernel_rfl) (by rfl) ?_
              go_simp
              refine ⟨hS2.below ((Below.refl _ _).alloc (Nat.le_refl _) _), ?_⟩
              try simp only [Act.put, List.setIfInBounds_toArray, List.set_cons_zero, List.set_cons_succ]
              refine oneD (i := 5) (by rfl) (by kernel_rfl) (by rfl) ?_
              refine wp_append_lies _ _ _ _ (by rfl) (w1.heap.size + 1) EntT i0 Ent.zero.val 11 104 Tryz.underlying24 HI.out hz0 hz1 hz2 rfl (by decide) (.slice va' (x.entries.length + j) vc') (x.entries.length + j) _ (by rfl) ((ownsRow_below ((ROW.out.alloc _).drew) hb2).alloc _)
                ⟨w2.heap.size, 0, none⟩ 1 1 y.cells.toList (by rfl) (by rfl) (World.news_of_block (cs := y.cells) (t := EntT) (fr := (0, 0)) (heap_alloc_new w2 _)) (by intro u hu; simp [Ent.cells] at hu; rcases hu with rfl | rfl | rfl | rfl | rfl | rfl | rfl | rfl | rfl | rfl | rfl <;> rfl)
                (by omega) (by unfold maxLen; omega) (by omega) (by simp; omega) _ rfl ?_
              intro g cap w3 hown3 hgrow hat hlt3
              refine ⟨fun _ => (hS2.below ((Below.refl _ _).alloc (Nat.le_refl _) _)).grown hgrow (by simp; omega) (by simp; omega) far1 far2, ?_⟩
              try simp only [Act.put, List.setIfInBounds_toArray, List.set_cons_zero, List.set_cons_succ]
              have hS3 := (hS2.below ((Below.refl _ _).alloc (Nat.le_refl _) (.cells y.cells EntT))).grown hgrow (by simp; omega) (by simp; omega) far1 far2
              have hb93 : w3.heap[w1.heap.size]? = some (.cells (Msg.cells { x with entries := x.entries ++ ((L.map (·.1)).take j).map ownEnt } (.slice va' (x.entries.length + j) vc')) MsgT (0, 0)) := by
                rw [hgrow.block _ (by simp; omega) (fun h => far1 h.symm), Below.heap_alloc _ _ _ (by omega), hb2.block _ (by simp; omega)]
                exact H9F.out
              have hB2 : Below w1.heap.size w1 w2 := by
                have h0 : Below wr.heap.size (wr.alloc (.cells #[.int .u64 e.term, .int .u64 e.index, .int .i64 e.kind, .int .u64 e.client, .int .u64 e.seq, .int .u64 e.block, .int .u64 e.many, .int .i64 e.node, .int .i64 e.level, .string e.data, .string e.old, .bool true] 52)) w2 := (⟨hb2.os, hb2.tape, hb2.output, hb2.size, hb2.block⟩ : Below (wr.alloc (.cells #[.int .u64 e.term, .int .u64 e.index, .int .i64 e.kind, .int .u64 e.client, .int .u64 e.seq, .int .u64 e.block, .int .u64 e.many, .int .i64 e.node, .int .i64 e.level, .string e.data, .string e.old, .bool true] 52)).heap.size (wr.alloc (.cells #[.int .u64 e.term, .int .u64 e.index, .int .i64 e.kind, .int .u64 e.client, .int .u64 e.seq, .int .u64 e.block, .int .u64 e.many, .int .i64 e.node, .int .i64 e.level, .string e.data, .string e.old, .bool true] 52)) w2).mono (by simp)
                exact ST2.out.below.trans ((((Below.refl _ _).alloc (Nat.le_refl _) _).trans h0).mono (by omega))
              have hB3 : Below w1.heap.size w1 w3 := (hB2.trans (((Below.refl _ _).alloc (Nat.le_refl _) _).mono (by omega))).trans ((grown_below hgrow ((ownsRow_below ((ROW.out.alloc _).drew) hb2).alloc _) (by simp; omega)).mono (by omega))
              have hnst : NoteSt w1 (w3.setCell ⟨w1.heap.size, 9, none⟩ (.slice (some ⟨g, 0, none⟩) (x.entries.length + j + 1) cap)) { x with entries := x.entries ++ ((L.map (·.1)).take (j + 1)).map ownEnt } (.slice (some ⟨g, 0, none⟩) (x.entries.length + j + 1) cap) := by
                refine ⟨hB3.setCell (Nat.le_refl _) _, ?_, ?_⟩
                · simp [World.setCell, Array.getElem?_modify, hb93, Msg.cells]
                · have h1 := hown3.kept (set_grown (w := w3) (b := w1.heap.size) (o := 9) (u := .slice (some ⟨g, 0, none⟩) (x.entries.length + j + 1) cap)) (own_far hown3)
                  have h2 : x.entries.length + j + 1 = (x.entries ++ ((L.map (·.1)).take (j + 1)).map ownEnt).length := by
                    rw [HST2.out, ← List.append_assoc, List.length_append, hlen]; rfl
                  have h3 : (x.entries ++ ((L.map (·.1)).take j).map ownEnt).flatMap (fun e => e.cells.toList) ++ y.cells.toList = (x.entries ++ ((L.map (·.1)).take (j + 1)).map ownEnt).flatMap (fun e => e.cells.toList) := by
                    rw [HST2.out, ← List.append_assoc, List.flatMap_append]; simp
                  rw [h3] at h1
                  dsimp only
                  rw [← h2]
                  exact h1
              have hcc := Lib.cell_of_heap hb93 9
              have hff := Lib.frozen_of_heap hb93 9
              have HN3 := Lib.hid hnst
              clear hnst hB3 hB2 hown3 hgrow hat
              refine takeD (i := 6) (v := .pointer (some ⟨w1.heap.size, 9, none⟩)) (by rfl) (by kernel_rfl) (fun _ _ _ h => h) (by rfl) (fun u hu => ?_) hS3 ?_
              · go_simp
              simp only [Act.put, List.setIfInBounds_toArray, List.set_cons_zero, List.set_cons_succ]
              refine oneD (i := 7) (by rfl) (by kernel_rfl) (by rfl) ?_
              go_simp
              refine ⟨by kernel_rfl, NoPanic.normal ?_⟩
              try simp only [Act.put, List.setIfInBounds_toArray, List.set_cons_zero, List.set_cons_succ]
              go_wp2_with fail
              go_roundw
              case rel => exact ⟨j + 1, _, by omega, by omega, by go_num, HN3.out⟩
              case measure => simp [intOf]; omega
            · have hend : ((L.map (·.1)).take j) = ((L.map (·.1)).take 10) := by rw [show j = 10 by omega]
              go_wp2_with fail
              go_roundw
              case rel => exact ⟨k + 1, _, _, by omega, by go_num, ST2.out, by rw [HST.out, hend]; rfl⟩
              case measure => simp [intOf]; omega
          · have hend : ((L.map (·.1)).take j) = ((L.map (·.1)).take 10) := by rw [List.take_of_length_le (by simp; omega), List.take_of_length_le (by simp; omega)]
            go_wp2_with fail
            go_roundw
            case rel => exact ⟨k + 1, _, _, by omega, by go_num, ST2.out, by rw [HST.out, hend]; rfl⟩
            case measure => simp [intOf]; omega
      · go_wp2_with fail
        go_roundw
        case rel => exact ⟨k + 1, { x with snap := cutTo m.snap 200 }, _, by omega, by go_num, ST.out.set 10 _ rfl rfl, HST.out⟩
        case measure => simp [intOf]; omega
    · have hres : x = ownMsg m (L.map (·.1)) := by rw [HOWN.out, ← hx, List.take_of_length_le (by omega)]
      have HR := Lib.hid hres
      obtain ⟨va, vc, rfl, _⟩ := st.ents
      have HE := Lib.hid st.row
      have hBW := Lib.hid (HB.out.trans (st.below.mono HB.out.size))
      obtain ⟨b0, b1, b2, b3, b4, b5, b6, b7, b8, b9, b10⟩ := msgAt_block (r := []) st.block
      have hz : wr.heap[w.heap.size + 1]? = some (.cells #[.int .i64 0, .int .i64 0, .int .i64 0, .int .u64 0, .int .u64 0, .int .u64 0, .int .u64 0, .int .u64 0, .bool false, .slice none 0 0, .string ⟨#[]⟩] MsgT (0, 0)) := by
        rw [st.below.block _ (by omega)]; exact HZ.out
      have z0 : wr.cell? ⟨w.heap.size + 1, 0, none⟩ = some (.int .i64 0) := Lib.cell_of_heap hz 0
      have z1 : wr.cell? ⟨w.heap.size + 1, 1, none⟩ = some (.int .i64 0) := Lib.cell_of_heap hz 1
      have z2 : wr.cell? ⟨w.heap.size + 1, 2, none⟩ = some (.int .i64 0) := Lib.cell_of_heap hz 2
      have z3 : wr.cell? ⟨w.heap.size + 1, 3, none⟩ = some (.int .u64 0) := Lib.cell_of_heap hz 3
      have z4 : wr.cell? ⟨w.heap.size + 1, 4, none⟩ = some (.int .u64 0) := Lib.cell_of_heap hz 4
      have z5 : wr.cell? ⟨w.heap.size + 1, 5, none⟩ = some (.int .u64 0) := Lib.cell_of_heap hz 5
      have z6 : wr.cell? ⟨w.heap.size + 1, 6, none⟩ = some (.int .u64 0) := Lib.cell_of_heap hz 6
      have z7 : wr.cell? ⟨w.heap.size + 1, 7, none⟩ = some (.int .u64 0) := Lib.cell_of_heap hz 7
      have z8 : wr.cell? ⟨w.heap.size + 1, 8, none⟩ = some (.bool false) := Lib.cell_of_heap hz 8
      have z9 : wr.cell? ⟨w.heap.size + 1, 9, none⟩ = some (.slice none 0 0) := Lib.cell_of_heap hz 9
      have z10 : wr.cell? ⟨w.heap.size + 1, 10, none⟩ = some (.string ⟨#[]⟩) := Lib.cell_of_heap hz 10
      have f2 : ∀ o, wr.frozen? ⟨w.heap.size + 1, o, none⟩ = false := fun o => Lib.frozen_of_heap hz o
      have hb2 : w.heap.size ≤ w.heap.size + 1 := by omega
      have hne : w.heap.size + 1 ≠ w1.heap.size := by omega
      have hbase : w.heap.size + 1 < w1.heap.size + 1 := by omega
      have HZW := Lib.hid hz
      clear st hms hz HZ hres hx hfl hn1 HB hlt
      generalize w.heap.size + 1 = b2' at *
      generalize w1.heap.size = b7' at *
      go_wp2_with fail
      have hz := HZW.out
      refine bodyPost_ret (results_cell_row rfl _ _ b2' MsgT (x.cells (.slice va x.entries.length vc)) (0, 0) _ rfl ?_ Tryz.underlying26 rfl (by kernel_rfl)) rfl ?_
      · simp [World.setCell, Array.getElem?_modify, hz, Msg.cells]
      · refine ⟨.slice va x.entries.length vc, by rw [← HR.out], ?_, ?_⟩
        · rw [← HR.out]
          refine own_entsAt (base := b7' + 1) (n := x.entries.length) ?_ rfl
          repeat' (first | with_reducible exact HE.out | with_reducible exact hbase | with_reducible refine own_set ?_ ?_)
        · repeat' (first | with_reducible exact hBW.out | with_reducible exact hb2 | with_reducible refine Below.setCell ?_ ?_ _)

set_option maxRecDepth 100000 in
set_option maxHeartbeats 4000000 in
theorem note05_raw (m : Msg) (sa : Option Addr) (sn sc : Nat) (la : Option Addr) (ln lc : Nat) (w : World) :
    Calls Tryz.prog 23 #[.agg (m.cells (.slice sa sn sc) ++ #[.bool false, .slice la ln lc])] w fun x w' => x = .returned (.agg (m.cells (.slice sa sn sc))) ∧ Below w.heap.size w w' := by
  have hval : (.agg (m.cells (.slice sa sn sc) ++ #[.bool false, .slice la ln lc]) : Value) = .agg #[.int .i64 m.kind, .int .i64 m.frm, .int .i64 m.to, .int .u64 m.term, .int .u64 m.index, .int .u64 m.prev, .int .u64 m.commit, .int .u64 m.mark, .bool m.ok, .slice sa sn sc, .string m.snap, .bool false, .slice la ln lc] := rfl
  rw [hval]
  clear hval
  go_enter Tryz.func23, Tryz.ntmps23
  go_wp2_with fail
  have hz := heap_alloc_new (w.alloc (.cells #[.int .i64 m.kind, .int .i64 m.frm, .int .i64 m.to, .int .u64 m.term, .int .u64 m.index, .int .u64 m.prev, .int .u64 m.commit, .int .u64 m.mark, .bool m.ok, .slice sa sn sc, .string m.snap, .bool false, .slice la ln lc] 51)) (.cells (m.cells (.slice sa sn sc)) MsgT)
  simp only [World.size_alloc] at hz
  refine bodyPost_ret (results_cell_row rfl _ _ (w.heap.size + 1) MsgT (m.cells (.slice sa sn sc)) (0, 0) _ rfl hz Tryz.underlying26 rfl (by kernel_rfl)) rfl ?_
  exact ⟨rfl, ((Below.refl _ _).alloc (Nat.le_refl _) _).alloc (by simp) _⟩

end Go.Proofs.YtbjbgdnjcppjhaaGreatDoor

/-
  The law's copy of its list of parts of entries: a row of its own; what Own is so far. No condition. By an AI agent.
-/
namespace Go.Proofs.YtbjbgdnjcppjhaaGreatDoor.of05
open Go.RowKit
set_option linter.unusedVariables false
set_option linter.unusedSimpArgs false

abbrev MadeT : TypeId := 52
def madeZero : Value := .agg #[.int .u64 0, .int .u64 0, .int .i64 0, .int .u64 0, .int .u64 0, .int .u64 0, .int .u64 0, .int .i64 0, .int .i64 0, .string ⟨#[]⟩, .string ⟨#[]⟩, .bool false]
theorem infoMade : (Tryz.prog.info? MadeT).map (fun i => (i.zero, i.size, i.bytes)) = some (some madeZero, 12, 112) := by kernel_rfl
def madeRow (p : Ent × Bool) : List Value := p.1.cells.toList ++ [.bool p.2]
theorem madeRow_at (l : List (Ent × Bool)) : ∀ j (h : j < l.length) q, q < 12 → (l.flatMap madeRow)[j * 12 + q]? = (madeRow l[j])[q]? := by
  induction l with
  | nil => intro j h; simp at h
  | cons x r ih =>
    intro j h q hq
    have hx : (madeRow x).length = 12 := rfl
    cases j with
    | zero =>
      simp only [List.flatMap_cons, Nat.zero_mul, Nat.zero_add, List.getElem_cons_zero]
      rw [List.getElem?_append_left (by omega)]
    | succ j =>
      simp only [List.flatMap_cons, List.getElem_cons_succ]
      rw [List.getElem?_append_right (by omega), hx, show (j + 1) * 12 + q - 12 = j * 12 + q by omega]
      exact ih j (by simpa using h) q hq

/-- the copy lies in block g; of the first i of it Own is true -/
def Cop (g : Nat) (E : List Ent) (i : Nat) (w : World) : Prop :=
  ∃ cur : Array Value, w.heap[g]? = some (.cells cur MadeT (0, 0)) ∧ ∀ j (h : j < E.length), (∀ q, q < 11 → cur[j * 12 + q]? = (E[j].cells)[q]?) ∧ (∃ b, cur[j * 12 + 11]? = some (.bool b)) ∧ (j < i → cur[j * 12 + 11]? = some (.bool true))
theorem Cop.lt {g i : Nat} {E : List Ent} {w : World} (h : Cop g E i w) : g < w.heap.size := by
  obtain ⟨cur, h1, _⟩ := h
  exact (Array.getElem?_eq_some_iff.1 h1).1
theorem Cop.same {g i : Nat} {E : List Ent} {w w' : World} (h : Cop g E i w) (hb : w'.heap[g]? = w.heap[g]?) : Cop g E i w' := by
  obtain ⟨cur, h1, h2⟩ := h
  exact ⟨cur, hb.trans h1, h2⟩
theorem Cop.below {g i : Nat} {E : List Ent} {w w' : World} (h : Cop g E i w) (hb : Below w.heap.size w w') : Cop g E i w' := h.same (hb.block g h.lt)
theorem Cop.frozen {g i o : Nat} {E : List Ent} {w : World} (h : Cop g E i w) : w.frozen? ⟨g, o, none⟩ = false := by
  obtain ⟨cur, h1, _⟩ := h
  exact Lib.frozen_of_heap h1 o
theorem Cop.ent {g i j : Nat} {E : List Ent} {w : World} (h : Cop g E i w) (hj : j < E.length) : EntAt w g (j * 12) E[j] := by
  obtain ⟨cur, h1, h2⟩ := h
  have hq : ∀ q, q < 11 → w.cell? ⟨g, j * 12 + q, none⟩ = (E[j].cells)[q]? := fun q hq => (Lib.cell_of_heap h1 _).trans ((h2 j hj).1 q hq)
  exact ⟨hq 0 (by decide), hq 1 (by decide), hq 2 (by decide), hq 3 (by decide), hq 4 (by decide), hq 5 (by decide), hq 6 (by decide), hq 7 (by decide), hq 8 (by decide), hq 9 (by decide), hq 10 (by decide)⟩
theorem Cop.flag {g i j : Nat} {E : List Ent} {w : World} (h : Cop g E i w) (hj : j < E.length) : ∃ b, w.cell? ⟨g, j * 12 + 11, none⟩ = some (.bool b) := by
  obtain ⟨cur, h1, h2⟩ := h
  obtain ⟨b, hb⟩ := (h2 j hj).2.1
  exact ⟨b, (Lib.cell_of_heap h1 _).trans hb⟩
theorem Cop.own {g i j : Nat} {E : List Ent} {w : World} (h : Cop g E i w) (hj : j < E.length) (hi : j < i) : w.cell? ⟨g, j * 12 + 11, none⟩ = some (.bool true) := by
  obtain ⟨cur, h1, h2⟩ := h
  exact (Lib.cell_of_heap h1 _).trans ((h2 j hj).2.2 hi)
theorem Cop.set {g i : Nat} {E : List Ent} {w : World} (h : Cop g E i w) (hi : i < E.length) : Cop g E (i + 1) (w.setCell ⟨g, i * 12 + 11, none⟩ (.bool true)) := by
  obtain ⟨cur, h1, h2⟩ := h
  refine ⟨cur.setIfInBounds (i * 12 + 11) (.bool true), by simp [World.setCell, Array.getElem?_modify, h1], fun j hj => ?_⟩
  obtain ⟨a1, ⟨b, a2⟩, a3⟩ := h2 j hj
  have hsz : i * 12 + 11 < cur.size := by
    obtain ⟨b', hb'⟩ := (h2 i hi).2.1
    exact (Array.getElem?_eq_some_iff.1 hb').1
  refine ⟨fun q hq => ?_, ?_, fun hji => ?_⟩
  · rw [Array.getElem?_setIfInBounds_ne (by omega)]
    exact a1 q hq
  · by_cases hji : j = i
    · subst hji
      exact ⟨true, by simp [hsz]⟩
    · exact ⟨b, by rw [Array.getElem?_setIfInBounds_ne (by omega)]; exact a2⟩
  · by_cases he : j = i
    · subst he
      simp [hsz]
    · rw [Array.getElem?_setIfInBounds_ne (by omega)]
      exact a3 (by omega)
/-- the copy, as append answers it -/
theorem cop_of_row {w : World} {base n : Nat} {v : Value} {l : List (Ent × Bool)} (h : w.ownsRow base MadeT 12 v n (l.flatMap madeRow)) (hn : n = l.length) (hb : base ≤ w.heap.size) :
    ∃ g a c, v = .slice a l.length c ∧ base ≤ g ∧ (l ≠ [] → a = some ⟨g, 0, none⟩ ∧ Cop g (l.map (·.1)) 0 w) := by
  subst hn
  rcases h.2 with ⟨hv, h0⟩ | ⟨g, cap, cur, hv, hbg, hg, h1, h2, h3, h4⟩
  · exact ⟨base, none, 0, by rw [hv, h0], Nat.le_refl _, fun hne => absurd (List.length_eq_zero_iff.1 h0) hne⟩
  · refine ⟨g, some ⟨g, 0, none⟩, cap, hv, hbg, fun _ => ⟨rfl, cur, hg, fun j hj => ?_⟩⟩
    rw [List.length_map] at hj
    have hc : ∀ q, q < 12 → cur[j * 12 + q]? = (madeRow l[j])[q]? := fun q hq => by
      rw [← madeRow_at l j hj q hq, ← h4, List.getElem?_take_of_lt (by have : j + 1 ≤ l.length := hj; have := Nat.mul_le_mul_right 12 this; omega)]
      simp
    refine ⟨fun q hq => ?_, ⟨l[j].2, hc 11 (by decide)⟩, fun h => absurd h (Nat.not_lt_zero _)⟩
    rw [hc q (by omega), List.getElem_map]
    unfold madeRow
    rw [List.getElem?_append_left (by show q < 11; exact hq)]
    simp

theorem entAt_cell {w : World} {B o : Nat} {e : Ent} (h : EntAt w B o e) : ∀ q, q < 11 → w.cell? ⟨B, o + q, none⟩ = (e.cells.toList)[q]? := by
  obtain ⟨c0, c1, c2, c3, c4, c5, c6, c7, c8, c9, c10⟩ := h
  intro q hq
  match q, hq with
  | 0, _ => exact c0
  | 1, _ => exact c1
  | 2, _ => exact c2
  | 3, _ => exact c3
  | 4, _ => exact c4
  | 5, _ => exact c5
  | 6, _ => exact c6
  | 7, _ => exact c7
  | 8, _ => exact c8
  | 9, _ => exact c9
  | 10, _ => exact c10
  | q + 11, h => exact absurd h (by omega)
theorem madeRow_len (l : List (Ent × Bool)) : (l.flatMap madeRow).length = l.length * 12 := by
  induction l with
  | nil => rfl
  | cons x r ih =>
    have hx : (madeRow x).length = 12 := rfl
    rw [List.flatMap_cons, List.length_append, ih, hx, List.length_cons]
    omega
/-- what is copied -/
theorem news_of {w : World} {B o : Nat} {l : List (Ent × Bool)} (n : Nat) (h : ∀ i (h : i < l.length), EntAt w B (o + i * 12) l[i].1 ∧ w.cell? ⟨B, o + i * 12 + 11, none⟩ = some (.bool l[i].2)) :
    ∀ j u, ((l.take n).flatMap madeRow)[j]? = some u → w.cell? ((⟨B, o, none⟩ : Addr).add j) = some u := by
  intro j u hu
  have hj : j < ((l.take n).flatMap madeRow).length := (List.getElem?_eq_some_iff.1 hu).1
  rw [madeRow_len] at hj
  have hi : j / 12 < (l.take n).length := Nat.div_lt_of_lt_mul (by omega)
  have hil : j / 12 < l.length := by simp at hi; omega
  have hq : j % 12 < 12 := Nat.mod_lt _ (by decide)
  have hd : j / 12 * 12 + j % 12 = j := by have := Nat.div_add_mod j 12; omega
  rw [← hd, madeRow_at (l.take n) (j / 12) hi (j % 12) hq, List.getElem_take] at hu
  have hadd : (⟨B, o, none⟩ : Addr).add j = ⟨B, o + j / 12 * 12 + j % 12, none⟩ := by
    have e : o + j / 12 * 12 + j % 12 = o + j := by omega
    rw [e]
    unfold Addr.add
    split
    · simp_all
    · rfl
  rw [hadd]
  obtain ⟨he, hf⟩ := h (j / 12) hil
  generalize j % 12 = q at *
  unfold madeRow at hu
  by_cases h11 : q = 11
  · subst h11
    have : (l[j / 12].1.cells.toList ++ [Value.bool l[j / 12].2])[11]? = some (.bool l[j / 12].2) := rfl
    rw [this] at hu
    rw [hf, ← hu]
  · rw [entAt_cell he q (by omega), ← hu, List.getElem?_append_left (by show q < 11; omega)]

end Go.Proofs.YtbjbgdnjcppjhaaGreatDoor.of05

/-
  What an argument of law05 may be: an entry by its parts, a note by its parts. No condition. By an AI agent.
-/
namespace Go.Proofs.YtbjbgdnjcppjhaaGreatDoor.of05
open Go.RowKit
set_option linter.unusedVariables false

theorem madeCells : Tryz.prog.cellTypes Tryz.prog.depth 52 = some [23, 23, 3, 23, 23, 23, 23, 3, 3, 9, 9, 4] := by kernel_rfl
theorem madeSize : Tryz.prog.cellsOf 52 = 12 := by kernel_rfl

set_option maxRecDepth 100000 in
theorem open_made {W : World} {r : Reach} {base : Nat} {v : Value} (h : Value.okWide Tryz.prog W r base 52 v) : ∃ (e : Ent) (own : Bool), e.wf ∧ v = .agg (e.cells ++ #[.bool own]) := by
  unfold Value.okWide at h
  rw [Tryz.underlying52] at h
  obtain ⟨cs, rfl, hsz, ts, hts, _, hc⟩ := h
  rw [madeSize] at hsz
  rw [madeCells] at hts
  cases hts
  obtain ⟨l⟩ := cs
  match l, hsz with
  | [v0, v1, v2, v3, v4, v5, v6, v7, v8, v9, v10, v11], _ =>
    obtain ⟨_, e0, h0⟩ := hc 0 v0 rfl
    obtain ⟨_, e1, h1⟩ := hc 1 v1 rfl
    obtain ⟨_, e2, h2⟩ := hc 2 v2 rfl
    obtain ⟨_, e3, h3⟩ := hc 3 v3 rfl
    obtain ⟨_, e4, h4⟩ := hc 4 v4 rfl
    obtain ⟨_, e5, h5⟩ := hc 5 v5 rfl
    obtain ⟨_, e6, h6⟩ := hc 6 v6 rfl
    obtain ⟨_, e7, h7⟩ := hc 7 v7 rfl
    obtain ⟨_, e8, h8⟩ := hc 8 v8 rfl
    obtain ⟨_, e9, h9⟩ := hc 9 v9 rfl
    obtain ⟨_, e10, h10⟩ := hc 10 v10 rfl
    obtain ⟨_, e11, h11⟩ := hc 11 v11 rfl
    cases e0; cases e1; cases e2; cases e3; cases e4; cases e5; cases e6; cases e7; cases e8; cases e9; cases e10; cases e11
    obtain ⟨a0, rfl, b0⟩ := cell_int Tryz.underlying23 h0
    obtain ⟨a1, rfl, b1⟩ := cell_int Tryz.underlying23 h1
    obtain ⟨a2, rfl, b2⟩ := cell_int Tryz.underlying3 h2
    obtain ⟨a3, rfl, b3⟩ := cell_int Tryz.underlying23 h3
    obtain ⟨a4, rfl, b4⟩ := cell_int Tryz.underlying23 h4
    obtain ⟨a5, rfl, b5⟩ := cell_int Tryz.underlying23 h5
    obtain ⟨a6, rfl, b6⟩ := cell_int Tryz.underlying23 h6
    obtain ⟨a7, rfl, b7⟩ := cell_int Tryz.underlying3 h7
    obtain ⟨a8, rfl, b8⟩ := cell_int Tryz.underlying3 h8
    obtain ⟨a9, rfl, b9⟩ := cell_string Tryz.underlying9 h9
    obtain ⟨a10, rfl, b10⟩ := cell_string Tryz.underlying9 h10
    obtain ⟨a11, rfl⟩ := cell_bool Tryz.underlying4 h11
    exact ⟨⟨a0, a1, a2, a3, a4, a5, a6, a7, a8, a9, a10⟩, a11, ⟨b0, b1, b2, b3, b4, b5, b6, b7, b8, b9, b10⟩, rfl⟩

section
variable {H : Type} {enc : TypeId × Value → H} {w : World} {base : Nat} {spare : Nat → Bool} {held : Bool} {fuel : Nat} {cs : List Value} {x : DataW H × List MemPlace}
theorem cells_made : Tryz.prog.cellsOf 52 = 12 := by kernel_rfl
set_option maxRecDepth 100000 in
theorem made_trod (h : DataW.trod enc Tryz.prog w base spare held fuel 52 cs = some x) : ∃ (e : Ent) (own : Bool), e.wf ∧ cs = e.cells.toList ++ [.bool own] := by
  obtain ⟨xs, n, _, _, hl, hxl, hf⟩ := DataW.trod_struct Tryz.underlying52 h
  rw [cells_made] at hl
  have hxl' : xs.length = 2 := hxl
  have g0 := (hf 0 ⟨ "E", 32, 0, false, "", "", 0⟩ rfl).trans (List.getElem?_eq_getElem (show 0 < xs.length by omega))
  have g1 := (hf 1 ⟨ "Own", 4, 11, false, "", "", 104⟩ rfl).trans (List.getElem?_eq_getElem (show 1 < xs.length by omega))
  simp only [cells_ent, one_bool] at g0 g1
  obtain ⟨e, he, hc⟩ := ent_trod g0
  obtain ⟨own, ho, _⟩ := DataW.trod_bool Tryz.underlying4 g1
  refine ⟨e, own, he, ?_⟩
  rw [← hc, ← ho]
  match cs, hl with
  | [v0, v1, v2, v3, v4, v5, v6, v7, v8, v9, v10, v11], _ => rfl

/-- a slice of entries' parts, as it lies in memory -/
theorem mades_trod {s : Value} (hs : ∀ a n c, s = .slice (some a) n c → a.spot = none) (h : DataW.trod enc Tryz.prog w base spare held fuel 49 [s] = some x) : ∃ l : List (Ent × Bool), MadesAt w s l ∧ (∀ p ∈ l, p.1.wf) ∧ ∀ c, s = .slice none l.length c → c = 0 := by
  rcases DataW.trod_slice Tryz.underlying49 h with ⟨h1, _⟩ | ⟨a, len, cap, elems, rest, n, _, h1, _, _, hlc, hcm, hel, hE, _⟩
  · obtain rfl := List.head_eq_of_cons_eq h1
    exact ⟨[], ⟨none, 0, rfl, Nat.le_refl _, by decide, fun h => absurd rfl h⟩, fun p hp => (by cases hp), fun c h => (by cases h; rfl)⟩
  · obtain rfl := List.head_eq_of_cons_eq h1
    have hsp := hs _ _ _ rfl
    obtain ⟨B, o, sp⟩ := a
    dsimp only at hsp
    subst hsp
    have hone : ∀ i : Fin len, ∃ p : Ent × Bool, p.1.wf ∧ EntAt w B (o + i.1 * 12) p.1 ∧ w.cell? ⟨B, o + i.1 * 12 + 11, none⟩ = some (.bool p.2) := fun i => by
      have h2 := (hE i.1 i.2).trans (List.getElem?_eq_getElem (show i.1 < elems.length by omega))
      rw [cells_made, add_none] at h2
      obtain ⟨cs', hc, ht⟩ := Option.bind_eq_some_iff.1 h2
      obtain ⟨_, _, hat⟩ := World.cells?_some hc
      obtain ⟨e, own, he, rfl⟩ := made_trod ht
      refine ⟨(e, own), he, entAt_cells hat (by decide), ?_⟩
      have := hat 11 (by decide)
      rw [add_none] at this
      exact this
    let f : Fin len → Ent × Bool := fun i => (hone i).choose
    have hf := fun i => (hone i).choose_spec
    have hlen : (List.ofFn f).length = len := List.length_ofFn
    refine ⟨List.ofFn f, ⟨some ⟨B, o, none⟩, cap, by rw [hlen], by omega, by have : maxLen ≤ 9223372036854775807 := by decide
                                                                             omega, fun hne => ⟨B, o, rfl, ?_, fun i hi => ?_⟩⟩, fun p hp => ?_, fun c h => (by cases h)⟩
    · have hpos : 0 < len := by
        rcases Nat.eq_zero_or_pos len with h0 | h0
        · exact absurd (List.length_eq_zero_iff.1 (hlen.trans h0)) hne
        · exact h0
      exact cell_lt (hf ⟨0, hpos⟩).2.2
    · rw [hlen] at hi
      have e1 : (List.ofFn f)[i]'(by rw [hlen]; exact hi) = f ⟨i, hi⟩ := by simp
      rw [e1]
      exact (hf ⟨i, hi⟩).2
    · obtain ⟨i, hi⟩ := List.mem_ofFn.1 hp
      rw [← hi]
      exact (hf i).1
end

theorem noteCells : Tryz.prog.cellTypes Tryz.prog.depth 51 = some [3, 3, 3, 23, 23, 23, 23, 23, 4, 24, 9, 4, 49] := by kernel_rfl
theorem noteSize : Tryz.prog.cellsOf 51 = 13 := by kernel_rfl
theorem one_mades : Tryz.prog.cellsOf 49 = 1 := by kernel_rfl

set_option maxRecDepth 100000 in
/-- a note: a message's numbers, whether it is to be right, the parts of its entries; its own entries' slice as it stands -/
theorem open_note {H : Type} {enc : TypeId × Value → H} {W : World} {r : Reach} {base b0 : Nat} {spare : Nat → Bool} {held : Bool} {v : Value} {d : DataW H} {ps : List MemPlace} (h : Value.okWide Tryz.prog W r base 51 v)
    (ht : DataW.Trod enc Tryz.prog W b0 spare held 51 v d ps) :
    ∃ (m : Msg) (sa : Option Addr) (sn sc : Nat) (own : Bool) (sL : Value) (L : List (Ent × Bool)), (I64 m.kind ∧ I64 m.frm ∧ I64 m.to ∧ U64 m.term ∧ U64 m.index ∧ U64 m.prev ∧ U64 m.commit ∧ U64 m.mark) ∧ m.snap.size ≤ 9223372036854775807 ∧ (∀ p ∈ L, p.1.wf) ∧
      MadesAt W sL L ∧ (∀ a', sa = some a' → a'.spot = none) ∧ (∃ n x, DataW.trod enc Tryz.prog W b0 spare held n 24 [.slice sa sn sc] = some x) ∧ v = .agg (m.cells (.slice sa sn sc) ++ #[.bool own, sL]) := by
  unfold Value.okWide at h
  rw [Tryz.underlying51] at h
  obtain ⟨cs, rfl, hsz, ts, hts, _, hc⟩ := h
  rw [noteSize] at hsz
  rw [noteCells] at hts
  cases hts
  obtain ⟨l⟩ := cs
  match l, hsz with
  | [v0, v1, v2, v3, v4, v5, v6, v7, v8, v9, v10, v11, v12], _ =>
    obtain ⟨_, e0, h0⟩ := hc 0 v0 rfl
    obtain ⟨_, e1, h1⟩ := hc 1 v1 rfl
    obtain ⟨_, e2, h2⟩ := hc 2 v2 rfl
    obtain ⟨_, e3, h3⟩ := hc 3 v3 rfl
    obtain ⟨_, e4, h4⟩ := hc 4 v4 rfl
    obtain ⟨_, e5, h5⟩ := hc 5 v5 rfl
    obtain ⟨_, e6, h6⟩ := hc 6 v6 rfl
    obtain ⟨_, e7, h7⟩ := hc 7 v7 rfl
    obtain ⟨_, e8, h8⟩ := hc 8 v8 rfl
    obtain ⟨_, e9, h9⟩ := hc 9 v9 rfl
    obtain ⟨_, e10, h10⟩ := hc 10 v10 rfl
    obtain ⟨_, e11, h11⟩ := hc 11 v11 rfl
    obtain ⟨_, e12, h12⟩ := hc 12 v12 rfl
    cases e0; cases e1; cases e2; cases e3; cases e4; cases e5; cases e6; cases e7; cases e8; cases e9; cases e10; cases e11; cases e12
    obtain ⟨a0, rfl, b0⟩ := cell_int Tryz.underlying3 h0
    obtain ⟨a1, rfl, b1⟩ := cell_int Tryz.underlying3 h1
    obtain ⟨a2, rfl, b2⟩ := cell_int Tryz.underlying3 h2
    obtain ⟨a3, rfl, b3⟩ := cell_int Tryz.underlying23 h3
    obtain ⟨a4, rfl, b4⟩ := cell_int Tryz.underlying23 h4
    obtain ⟨a5, rfl, b5⟩ := cell_int Tryz.underlying23 h5
    obtain ⟨a6, rfl, b6⟩ := cell_int Tryz.underlying23 h6
    obtain ⟨a7, rfl, b7⟩ := cell_int Tryz.underlying23 h7
    obtain ⟨a8, rfl⟩ := cell_bool Tryz.underlying4 h8
    obtain ⟨sa, sn, sc, rfl, hsa⟩ := cell_slice Tryz.underlying24 h9
    obtain ⟨a10, rfl, b10⟩ := cell_string Tryz.underlying9 h10
    obtain ⟨a11, rfl⟩ := cell_bool Tryz.underlying4 h11
    obtain ⟨la, ln, lc, rfl, hla⟩ := cell_slice Tryz.underlying49 h12
    obtain ⟨fuel, ht⟩ := ht
    obtain ⟨xs, n, _, _, _, hxl, hf⟩ := DataW.trod_struct Tryz.underlying51 ht
    have hxl' : xs.length = 3 := hxl
    have g0 := (hf 0 ⟨ "M", 26, 0, false, "", "", 0⟩ rfl).trans (List.getElem?_eq_getElem (show 0 < xs.length by omega))
    have g2 := (hf 2 ⟨ "L", 49, 12, false, "", "", 120⟩ rfl).trans (List.getElem?_eq_getElem (show 2 < xs.length by omega))
    simp only [one_mades] at g2
    obtain ⟨L, hL, hw, _⟩ := mades_trod (s := .slice la ln lc) (fun a n c h => by cases h; exact hla a rfl) g2
    obtain ⟨ys, n', _, _, _, hyl, hg⟩ := DataW.trod_struct Tryz.underlying26 g0
    have hyl' : ys.length = 11 := hyl
    have k9 := (hg 9 ⟨ "Entries", 24, 9, false, "", "", 72⟩ rfl).trans (List.getElem?_eq_getElem (show 9 < ys.length by omega))
    simp only [one_ents, show Tryz.prog.cellsOf 26 = 11 by kernel_rfl] at k9
    exact ⟨⟨a0, a1, a2, a3, a4, a5, a6, a7, a8, a10, []⟩, sa, sn, sc, a11, .slice la ln lc, L, ⟨b0, b1, b2, b3, b4, b5, b6, b7⟩, b10, hw, hL, hsa, ⟨n', _, k9⟩, rfl⟩

end Go.Proofs.YtbjbgdnjcppjhaaGreatDoor.of05
