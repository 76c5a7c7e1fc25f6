/-
  EntryLevels: the walk. Conditions: the arguments are of their kinds; the table of the powers of ten reads as the program lays it. By an AI agent.
-/
import Derived.Test.YtbjbgdnjcppjhaaDoorLevelsP
import Derived.Test.YtbjbgdnjcppjhaaDoorNote04
import Derived.Test.YtbjbgdnjcppjhaaDoorMsgRight
import Derived.Test.YtbjbgdnjcppjhaaDoorMsgLevel
import Derived.Test.YtbjbgdnjcppjhaaDoorEx04
namespace Go.Proofs.YtbjbgdnjcppjhaaDoor
open Go.RowKit Go.Sort
set_option linter.unusedVariables false
set_option linter.unusedSimpArgs false

set_option maxRecDepth 100000 in
set_option maxHeartbeats 4000000 in
theorem levels_any (e : Ent) (own : Bool) (he : e.wf) (m : Msg) (sa : Option Addr) (sn sc : Nat) (own2 : Bool) (sL : Value) (L : List (Ent × Bool)) (hm : I64 m.kind ∧ I64 m.frm ∧ I64 m.to ∧ U64 m.term ∧ U64 m.index ∧ U64 m.prev ∧ U64 m.commit ∧ U64 m.mark) (hL : ∀ p ∈ L, p.1.wf) (w : World) (ht : Tabs w) (hs : MadesAt w sL L) :
    Calls Tryd.prog 7 #[.agg (e.cells ++ #[.bool own]), .agg (m.cells (.slice sa sn sc) ++ #[.bool own2, sL])] w fun x w' => x = .returned (.bool true) ∧ Below w.heap.size w w' := by
  have hsL : ∃ la ln lc, sL = .slice la ln lc := by obtain ⟨a, c, h, _⟩ := hs; exact ⟨a, _, c, h⟩
  obtain ⟨la, ln, lc, rfl⟩ := hsL
  have hval : (.agg (e.cells ++ #[.bool own]) : Value) = .agg #[.int .u64 e.term, .int .u64 e.index, .int .i64 e.kind, .int .u64 e.client, .int .u64 e.seq, .int .u64 e.block, .int .u64 e.many, .int .i64 e.node, .int .i64 e.level, .string e.data, .string e.old, .bool own] := rfl
  have hval2 : (.agg (m.cells (.slice sa sn sc) ++ #[.bool own2, .slice la ln lc]) : Value) = .agg #[.int .i64 m.kind, .int .i64 m.frm, .int .i64 m.to, .int .u64 m.term, .int .u64 m.index, .int .u64 m.prev, .int .u64 m.commit, .int .u64 m.mark, .bool m.ok, .slice sa sn sc, .string m.snap, .bool own2, .slice la ln lc] := rfl
  rw [hval, hval2]
  have hmade : ∀ W, Calls Tryd.prog 11 #[.agg #[.int .u64 e.term, .int .u64 e.index, .int .i64 e.kind, .int .u64 e.client, .int .u64 e.seq, .int .u64 e.block, .int .u64 e.many, .int .i64 e.node, .int .i64 e.level, .string e.data, .string e.old, .bool true]] W fun r W' => r = .returned (.agg #[.int .u64 (ownEnt e).term, .int .u64 (ownEnt e).index, .int .i64 (ownEnt e).kind, .int .u64 (ownEnt e).client, .int .u64 (ownEnt e).seq, .int .u64 (ownEnt e).block, .int .u64 (ownEnt e).many, .int .i64 (ownEnt e).node, .int .i64 (ownEnt e).level, .string (ownEnt e).data, .string (ownEnt e).old]) ∧ Below W.heap.size W W' := fun W => made04_own e he W
  have hnote : ∀ W, MadesAt W (.slice la ln lc) L → Calls Tryd.prog 23 #[.agg #[.int .i64 m.kind, .int .i64 m.frm, .int .i64 m.to, .int .u64 m.term, .int .u64 m.index, .int .u64 m.prev, .int .u64 m.commit, .int .u64 m.mark, .bool m.ok, .slice sa sn sc, .string m.snap, .bool true, .slice la ln lc]] W fun r W' => ∃ s', r = .returned (.agg #[.int .i64 (ownMsg m (L.map (·.1))).kind, .int .i64 (ownMsg m (L.map (·.1))).frm, .int .i64 (ownMsg m (L.map (·.1))).to, .int .u64 (ownMsg m (L.map (·.1))).term, .int .u64 (ownMsg m (L.map (·.1))).index, .int .u64 (ownMsg m (L.map (·.1))).prev, .int .u64 (ownMsg m (L.map (·.1))).commit, .int .u64 (ownMsg m (L.map (·.1))).mark, .bool (ownMsg m (L.map (·.1))).ok, s', .string (ownMsg m (L.map (·.1))).snap]) ∧ EntsAt W' s' (ownMsg m (L.map (·.1))).entries ∧ Below W.heap.size W W' := fun W hW => note04_own m sa sn sc (.slice la ln lc) L hm hL W hW
  have hxs := own_small e
  have hMs := ownMsg_small m (L.map (·.1)) hm.2.2.2.1 hm.2.2.2.2.1 hm.2.2.2.2.2.1 hm.2.2.2.2.2.2.1 hm.2.2.2.2.2.2.2
  have hex := fun W hW => examples04 W hW
  generalize ownEnt e = x at *
  generalize ownMsg m (L.map (·.1)) = M at *
  have HX := Lib.hid hxs
  have HM := Lib.hid hMs
  have HMADE := Lib.hid hmade
  have HNOTE := Lib.hid hnote
  have HE := Lib.hid hex
  clear hval hval2 hxs hMs hmade hnote hex he hm hL
  go_enter Tryd.func7, Tryd.ntmps7
  go_wp2_with fail
  refine (HE.out _ ((ht.alloc _).alloc _)).mono ?_
  rintro v w1 ⟨rfl, hb1⟩
  have hm1 : w1.heap[w.heap.size]? = some (.cells #[.int .u64 e.term, .int .u64 e.index, .int .i64 e.kind, .int .u64 e.client, .int .u64 e.seq, .int .u64 e.block, .int .u64 e.many, .int .i64 e.node, .int .i64 e.level, .string e.data, .string e.old, .bool own] 30 (0, 0)) := by
    rw [hb1.block _ (by simp; omega), Below.heap_alloc _ _ _ (by simp)]; exact heap_alloc_new w _
  have hm2 : w1.heap[w.heap.size + 1]? = some (.cells #[.int .i64 m.kind, .int .i64 m.frm, .int .i64 m.to, .int .u64 m.term, .int .u64 m.index, .int .u64 m.prev, .int .u64 m.commit, .int .u64 m.mark, .bool m.ok, .slice sa sn sc, .string m.snap, .bool own2, .slice la ln lc] 47 (0, 0)) := by
    rw [hb1.block _ (by simp)]
    have := heap_alloc_new (w.alloc (.cells #[.int .u64 e.term, .int .u64 e.index, .int .i64 e.kind, .int .u64 e.client, .int .u64 e.seq, .int .u64 e.block, .int .u64 e.many, .int .i64 e.node, .int .i64 e.level, .string e.data, .string e.old, .bool own] 30)) (.cells #[.int .i64 m.kind, .int .i64 m.frm, .int .i64 m.to, .int .u64 m.term, .int .u64 m.index, .int .u64 m.prev, .int .u64 m.commit, .int .u64 m.mark, .bool m.ok, .slice sa sn sc, .string m.snap, .bool own2, .slice la ln lc] 47)
    simp only [World.size_alloc] at this
    exact this
  have hb01 : Below w.heap.size w w1 := (((Below.refl _ _).alloc (Nat.le_refl _) _).alloc (by simp) _).trans (hb1.mono (by simp; omega))
  have hsz1 : w.heap.size + 1 < w1.heap.size := (Array.getElem?_eq_some_iff.1 hm2).1
  have ht1 := ht.next hb01
  have a0 := Lib.cell_of_heap hm1 0
  have a1 := Lib.cell_of_heap hm1 1
  have a2 := Lib.cell_of_heap hm1 2
  have a3 := Lib.cell_of_heap hm1 3
  have a4 := Lib.cell_of_heap hm1 4
  have a5 := Lib.cell_of_heap hm1 5
  have a6 := Lib.cell_of_heap hm1 6
  have a7 := Lib.cell_of_heap hm1 7
  have a8 := Lib.cell_of_heap hm1 8
  have a9 := Lib.cell_of_heap hm1 9
  have a10 := Lib.cell_of_heap hm1 10
  have a11 := Lib.cell_of_heap hm1 11
  have a11' := Lib.cell_of_heap hm2 11
  have f11 : w1.frozen? ⟨w.heap.size, 11, none⟩ = false := Lib.frozen_of_heap hm1 11
  have f12 : w1.frozen? ⟨w.heap.size + 1, 11, none⟩ = false := Lib.frozen_of_heap hm2 11
  simp only [List.getElem?_toArray, List.getElem?_cons_zero, List.getElem?_cons_succ] at a0 a1 a2 a3 a4 a5 a6 a7 a8 a9 a10 a11 a11'
  have HM2 := Lib.hid hm2
  have HB01 := Lib.hid hb01
  clear hm1 hm2 hb1 hb01
  go_wp2_with fail
  refine (HMADE.out _).mono ?_
  rintro v w2 ⟨rfl, hb2⟩
  have hW2 : ((w1.setCell ⟨w.heap.size, 11, none⟩ (.bool true)).setCell ⟨w.heap.size + 1, 11, none⟩ (.bool true)).heap[w.heap.size + 1]? = some (.cells #[.int .i64 m.kind, .int .i64 m.frm, .int .i64 m.to, .int .u64 m.term, .int .u64 m.index, .int .u64 m.prev, .int .u64 m.commit, .int .u64 m.mark, .bool m.ok, .slice sa sn sc, .string m.snap, .bool true, .slice la ln lc] 47 (0, 0)) := by
    simp [World.setCell, Array.getElem?_modify, HM2.out]
  have hsz2 : w.heap.size + 1 < ((w1.setCell ⟨w.heap.size, 11, none⟩ (.bool true)).setCell ⟨w.heap.size + 1, 11, none⟩ (.bool true)).heap.size := (Array.getElem?_eq_some_iff.1 hW2).1
  have hm3 : w2.heap[w.heap.size + 1]? = some (.cells #[.int .i64 m.kind, .int .i64 m.frm, .int .i64 m.to, .int .u64 m.term, .int .u64 m.index, .int .u64 m.prev, .int .u64 m.commit, .int .u64 m.mark, .bool m.ok, .slice sa sn sc, .string m.snap, .bool true, .slice la ln lc] 47 (0, 0)) := (hb2.block _ hsz2).trans hW2
  have hb02 : Below w.heap.size w w2 := (((HB01.out.setCell (Nat.le_refl _) _).setCell (Nat.le_succ _) _)).trans (hb2.mono (by have := HB01.out.size; simpa [World.setCell] using this))
  have hsz3 : w.heap.size + 1 < w2.heap.size := (Array.getElem?_eq_some_iff.1 hm3).1
  clear a0 a1 a2 a3 a4 a5 a6 a7 a8 a9 a10 a11 a11' f11 f12 hb2 hW2 hsz2
  have a0 := Lib.cell_of_heap hm3 0
  have a1 := Lib.cell_of_heap hm3 1
  have a2 := Lib.cell_of_heap hm3 2
  have a3 := Lib.cell_of_heap hm3 3
  have a4 := Lib.cell_of_heap hm3 4
  have a5 := Lib.cell_of_heap hm3 5
  have a6 := Lib.cell_of_heap hm3 6
  have a7 := Lib.cell_of_heap hm3 7
  have a8 := Lib.cell_of_heap hm3 8
  have a9 := Lib.cell_of_heap hm3 9
  have a10 := Lib.cell_of_heap hm3 10
  have a11 := Lib.cell_of_heap hm3 11
  have a12 := Lib.cell_of_heap hm3 12
  simp only [List.getElem?_toArray, List.getElem?_cons_zero, List.getElem?_cons_succ] at a0 a1 a2 a3 a4 a5 a6 a7 a8 a9 a10 a11 a12
  have HM3 := Lib.hid hm3
  have HB02 := Lib.hid hb02
  have hs2 := hs.below hb02
  clear hm3 hb02
  go_wp2_with fail
  refine (HNOTE.out _ (hs2.below ((Below.refl _ _).alloc (Nat.le_refl _) _))).mono ?_
  rintro v w3 ⟨s', rfl, hes, hb3⟩
  obtain ⟨sa', sc', rfl, _⟩ := id hes
  have hx3 : EntAt w3 w2.heap.size 0 x := (entAt_new w2 x EntT).below hb3
  have hb03 : Below w.heap.size w w3 := HB02.out.trans ((((Below.refl _ _).alloc (Nat.le_refl _) _).trans (hb3.mono (by simp))).mono HB02.out.size)
  have HX3 := Lib.hid hx3
  have HES := Lib.hid hes
  have HB03 := Lib.hid hb03
  have hsz4 : w2.heap.size < w3.heap.size := by have h := hb3.size; simp at h; omega
  clear a0 a1 a2 a3 a4 a5 a6 a7 a8 a9 a10 a11 a12 hb3 hx3 hes hb03 hs2 ht1 HM2 HM3 HB01 HB02
  go_upto_region 8 with fail
  go_cut [8] from 19 to 26 (fun s8 wx => s8 = .bool (M.kind == 9 || M.kind == 10) ∧ wx = w3.alloc (.cells #[.int .i64 M.kind, .int .i64 M.frm, .int .i64 M.to, .int .u64 M.term, .int .u64 M.index, .int .u64 M.prev, .int .u64 M.commit, .int .u64 M.mark, .bool M.ok, .slice sa' M.entries.length sc', .string M.snap] MsgT))
  case first =>
    by_cases h9 : M.kind = 9
    · have k9 : (M.kind == 9) = true := by rw [h9]; rfl
      clear h9
      go_wp2_with fail
      go_meet
      exact ⟨by rw [k9]; rfl, rfl⟩
    · have k9 : (M.kind == 9) = false := by simpa using h9
      clear h9
      go_wp2_with fail
      go_meet
      exact ⟨by rw [k9]; rfl, rfl⟩
  case rest =>
  obtain ⟨rfl, rfl⟩ := hcut
  generalize hh0 : (M.kind == 9 || M.kind == 10) = h0
  have hcount : M.entries.length ≤ 10 := HM.out.1.count
  have HH0 := Lib.hid hh0
  clear hh0
  go_wp2_with fail
  have he4 := HES.out.below ((Below.refl w3.heap.size w3).alloc (Nat.le_refl _) (.cells #[.int .i64 M.kind, .int .i64 M.frm, .int .i64 M.to, .int .u64 M.term, .int .u64 M.index, .int .u64 M.prev, .int .u64 M.commit, .int .u64 M.mark, .bool M.ok, .slice sa' M.entries.length sc', .string M.snap] MsgT))
  obtain ⟨sa2, sc2, hsl, hcap1, hcap2, hE4⟩ := he4
  cases hsl
  have HE4 := Lib.hid hE4
  clear hE4
  go_loopw [8, 9] (fun h i wr => ∃ k : Nat, k ≤ M.entries.length ∧ i = .int .i64 k ∧ h = .bool (h0 || (M.entries.take k).any fun e => decide (e.kind = 11)) ∧ wr = w3.alloc (.cells #[.int .i64 M.kind, .int .i64 M.frm, .int .i64 M.to, .int .u64 M.term, .int .u64 M.index, .int .u64 M.prev, .int .u64 M.commit, .int .u64 M.mark, .bool M.ok, .slice sa' M.entries.length sc', .string M.snap] MsgT)) (fun h i _ => M.entries.length - (intOf i).toNat)
  case atStart => exact ⟨0, Nat.zero_le _, rfl, by simp, rfl⟩
  case round =>
    obtain ⟨k, hk, rfl, rfl, rfl⟩ := hrel
    by_cases hlt : k < M.entries.length
    · obtain ⟨B, o', rfl, hBlt, hEl⟩ := HE4.out (fun h => by rw [h] at hlt; exact absurd hlt (Nat.not_lt_zero _))
      have hel := hEl k hlt
      have htk := take_snoc M.entries k hlt
      have hnx : ((M.entries.take (k + 1)).any fun e => decide (e.kind = 11)) = (((M.entries.take k).any fun e => decide (e.kind = 11)) || decide (M.entries[k].kind = 11)) := by rw [htk, List.any_append]; simp only [List.any_cons, List.any_nil, Bool.or_false]
      have HNX := Lib.hid hnx
      clear hEl htk hnx
      generalize M.entries[k] = en at *
      have hkd := hel.2.2.1
      clear hel
      cases hcur : (h0 || (M.entries.take k).any fun e => decide (e.kind = 11))
      · cases hen : decide (en.kind = 11)
        · have hen2 : (en.kind == 11) = false := hen
          have HN := Lib.hid (show (h0 || (M.entries.take (k + 1)).any fun e => decide (e.kind = 11)) = false by rw [HNX.out, hen, ← Bool.or_assoc, hcur]; rfl)
          clear hen hcur
          go_wp2_with fail
          go_roundw
          case rel => exact ⟨k + 1, by omega, by go_num, by rw [HN.out], by first | rfl | trivial⟩
          case measure => simp [intOf]; omega
        · have hen2 : (en.kind == 11) = true := hen
          have HN := Lib.hid (show (h0 || (M.entries.take (k + 1)).any fun e => decide (e.kind = 11)) = true by rw [HNX.out, hen, ← Bool.or_assoc, hcur]; rfl)
          clear hen hcur
          go_wp2_with fail
          go_roundw
          case rel => exact ⟨k + 1, by omega, by go_num, by rw [HN.out], by first | rfl | trivial⟩
          case measure => simp [intOf]; omega
      · have HN := Lib.hid (show (h0 || (M.entries.take (k + 1)).any fun e => decide (e.kind = 11)) = true by rw [HNX.out, ← Bool.or_assoc, hcur]; rfl)
        clear hcur
        go_wp2_with fail
        go_roundw
        case rel => exact ⟨k + 1, by omega, by go_num, by rw [HN.out], by first | rfl | trivial⟩
        case measure => simp [intOf]; omega
    · have hend : (h0 || (M.entries.take k).any fun e => decide (e.kind = 11)) = highB M := by
        rw [List.take_of_length_le (by omega), ← HH0.out]; rfl
      rw [hend]
      clear hend HE4
      have hl1 := levelI_is x.kind
      have hl2 := msgLevelI_is M
      have hR1 : ∀ W, Calls Tryd.prog 10 #[.agg #[.int .u64 x.term, .int .u64 x.index, .int .i64 x.kind, .int .u64 x.client, .int .u64 x.seq, .int .u64 x.block, .int .u64 x.many, .int .i64 x.node, .int .i64 x.level, .string x.data, .string x.old]] W fun r W' => r = .returned (.bool true) ∧ Below W.heap.size W W' := fun W => HX.out.2.1 ▸ right_any x HX.out.1.wf W
      have hR2 : ∀ W, Below w3.heap.size w3 W → Calls Tryd.prog 22 #[.agg #[.int .i64 M.kind, .int .i64 M.frm, .int .i64 M.to, .int .u64 M.term, .int .u64 M.index, .int .u64 M.prev, .int .u64 M.commit, .int .u64 M.mark, .bool M.ok, .slice sa' M.entries.length sc', .string M.snap]] W fun r W' => r = .returned (.bool true) ∧ Below W.heap.size W W' := fun W hW => HM.out.2.1 ▸ msgRight_any M (.slice sa' M.entries.length sc') (fun e h => (HM.out.1.each e h).1.wf) (by omega) W (HES.out.below hW)
      have hR3 : ∀ W, Calls Tryd.prog 15 #[.agg #[.int .u64 x.term, .int .u64 x.index, .int .i64 x.kind, .int .u64 x.client, .int .u64 x.seq, .int .u64 x.block, .int .u64 x.many, .int .i64 x.node, .int .i64 x.level, .string x.data, .string x.old]] W fun r W' => r = .returned (.int .i64 (levelI x.kind)) ∧ Below W.heap.size W W' := fun W => level_any x W
      have hR4 : ∀ W, Below w3.heap.size w3 W → Calls Tryd.prog 24 #[.agg #[.int .i64 M.kind, .int .i64 M.frm, .int .i64 M.to, .int .u64 M.term, .int .u64 M.index, .int .u64 M.prev, .int .u64 M.commit, .int .u64 M.mark, .bool M.ok, .slice sa' M.entries.length sc', .string M.snap]] W fun r W' => r = .returned (.int .i64 (msgLevelI M)) ∧ Below W.heap.size W W' := fun W hW => msgLevel_any M (.slice sa' M.entries.length sc') (by omega) W (HES.out.below hW)
      generalize levelI x.kind = lx at *
      generalize msgLevelI M = lm at *
      generalize highB M = hi at *
      obtain ⟨hl1a, hl1b, hl1c⟩ := hl1
      obtain ⟨hl2a, hl2b, hl2c⟩ := hl2
      obtain ⟨a0, a1, a2, a3, a4, a5, a6, a7, a8, a9, a10⟩ := HX3.out.below ((Below.refl w3.heap.size w3).alloc (Nat.le_refl _) (.cells #[.int .i64 M.kind, .int .i64 M.frm, .int .i64 M.to, .int .u64 M.term, .int .u64 M.index, .int .u64 M.prev, .int .u64 M.commit, .int .u64 M.mark, .bool M.ok, .slice sa' M.entries.length sc', .string M.snap] MsgT))
      simp only [Nat.zero_add] at a1 a2 a3 a4 a5 a6 a7 a8 a9 a10
      obtain ⟨b0, b1, b2, b3, b4, b5, b6, b7, b8, b9, b10⟩ := msgAt_block (r := []) (heap_alloc_new w3 (.cells (M.cells (.slice sa' M.entries.length sc')) MsgT))
      have hbA := (Below.refl w3.heap.size w3).alloc (Nat.le_refl _) (.cells #[.int .i64 M.kind, .int .i64 M.frm, .int .i64 M.to, .int .u64 M.term, .int .u64 M.index, .int .u64 M.prev, .int .u64 M.commit, .int .u64 M.mark, .bool M.ok, .slice sa' M.entries.length sc', .string M.snap] MsgT)
      simp only [Msg.cells] at b0 b1 b2 b3 b4 b5 b6 b7 b8 b9 b10
      generalize hW4 : w3.alloc (.cells #[.int .i64 M.kind, .int .i64 M.frm, .int .i64 M.to, .int .u64 M.term, .int .u64 M.index, .int .u64 M.prev, .int .u64 M.commit, .int .u64 M.mark, .bool M.ok, .slice sa' M.entries.length sc', .string M.snap] MsgT) = w4 at *
      have hb04 := HB03.out.trans (hbA.mono HB03.out.size)
      have hR2' : ∀ W, Below w4.heap.size w4 W → Calls Tryd.prog 22 #[.agg #[.int .i64 M.kind, .int .i64 M.frm, .int .i64 M.to, .int .u64 M.term, .int .u64 M.index, .int .u64 M.prev, .int .u64 M.commit, .int .u64 M.mark, .bool M.ok, .slice sa' M.entries.length sc', .string M.snap]] W fun r W' => r = .returned (.bool true) ∧ Below W.heap.size W W' := fun W hW => hR2 W (hbA.trans (hW.mono hbA.size))
      have hR4' : ∀ W, Below w4.heap.size w4 W → Calls Tryd.prog 24 #[.agg #[.int .i64 M.kind, .int .i64 M.frm, .int .i64 M.to, .int .u64 M.term, .int .u64 M.index, .int .u64 M.prev, .int .u64 M.commit, .int .u64 M.mark, .bool M.ok, .slice sa' M.entries.length sc', .string M.snap]] W fun r W' => r = .returned (.int .i64 lm) ∧ Below W.heap.size W W' := fun W hW => hR4 W (hbA.trans (hW.mono hbA.size))
      have d0 := cell_regrown a0
      have g0 := cell_regrown b0
      have d1 := cell_regrown a1
      have g1 := cell_regrown b1
      have d2 := cell_regrown a2
      have g2 := cell_regrown b2
      have d3 := cell_regrown a3
      have g3 := cell_regrown b3
      have d4 := cell_regrown a4
      have g4 := cell_regrown b4
      have d5 := cell_regrown a5
      have g5 := cell_regrown b5
      have d6 := cell_regrown a6
      have g6 := cell_regrown b6
      have d7 := cell_regrown a7
      have g7 := cell_regrown b7
      have d8 := cell_regrown a8
      have g8 := cell_regrown b8
      have d9 := cell_regrown a9
      have g9 := cell_regrown b9
      have d10 := cell_regrown a10
      have g10 := cell_regrown b10
      clear hR2 hR4 hbA
      clear hW4 ht HX3 HES HB03 HMADE HNOTE HE HX HM HH0
      go_wp2_with fail
      refine wp_region_quiet_below (by kernel_rfl) (by kernel_rfl) ?_
      repeat (go_big_quiet_step (first | (go_at_call 10; exact meetB fun U hb => hR1 U) | (go_at_call 22; exact meetB fun U hb => hR2' U hb) | (go_at_call 15; exact meetB fun U hb => hR3 U) | (go_at_call 24; exact meetB fun U hb => hR4' U hb)))
      refine wpQuiet_nil ?_
      intro w5 hw5
      obtain ⟨p5, hw5⟩ := hw5
      have hb5 := below_regrown w4 p5.d p5.os
      rw [← hw5] at hb5
      clear hw5 hR1 hR2' hR3 hR4' a0 b0 d0 g0 a1 b1 d1 g1 a2 b2 d2 g2 a3 b3 d3 g3 a4 b4 d4 g4 a5 b5 d5 g5 a6 b6 d6 g6 a7 b7 d7 g7 a8 b8 d8 g8 a9 b9 d9 g9 a10 b10 d10 g10
      go_wp2_with fail
      go_ret
      exact ⟨rfl, hb04.trans (hb5.mono hb04.size)⟩

end Go.Proofs.YtbjbgdnjcppjhaaDoor
