/-
  pintleref04's MsgLevel over this translation. Condition: at most 2^20 entries. By an AI agent.
-/
import Derived.Test.YtbjbgdnjcppjhaaDoorRefLeaf
import Derived.Test.YtbjbgdnjcppjhaaDoorLevelsP
import Derived.Test.YtbjbgdnjcppjhaaDoorOwn
namespace Go.Proofs.YtbjbgdnjcppjhaaDoor
open Go.RowKit Go.Sort
set_option linter.unusedVariables false
set_option linter.unusedSimpArgs false

set_option maxRecDepth 100000 in
set_option maxHeartbeats 4000000 in
theorem refMsgLevel_any (m : Msg) (s : Value) (hn : m.entries.length ≤ 1048576) (w : World) (hs : EntsAt w s m.entries) :
    Calls Tryd.prog 27 #[.agg (m.cells s)] w fun x w' => x = .returned (.int .i64 (msgLevelI m)) ∧ Below w.heap.size w w' := by
  have hdef : msgLevelI m = if m.kind = 9 ∨ m.kind = 10 ∨ m.entries.any (fun e => decide (e.kind = 11)) = true then 2 else 1 := rfl
  obtain ⟨sa, sc, rfl, h2, h3, h4⟩ := hs
  have HD := Lib.hid hdef
  have H4 := Lib.hid h4
  clear hdef h4
  simp only [Msg.cells]
  go_enter Tryd.func27, Tryd.ntmps27
  have hbox := heap_alloc_new w (.cells (m.cells (.slice sa m.entries.length sc)) 42)
  have HBOX := Lib.hid hbox
  clear hbox
  go_wp2_with fail
  go_loopw [3] (fun i wr => ∃ k : Nat, k ≤ m.entries.length ∧ i = .int .i64 k ∧ ((m.entries.take k).any fun e => decide (e.kind = 11)) = false ∧ wr.heap[w.heap.size]? = some (.cells (m.cells (.slice sa m.entries.length sc)) 42 (0, 0)) ∧ Below w.heap.size w wr) (fun i _ => m.entries.length - (intOf i).toNat)
  case atStart => exact ⟨0, Nat.zero_le _, rfl, rfl, HBOX.out, (Below.refl _ _).alloc (Nat.le_refl _) _⟩
  case round =>
    obtain ⟨k, hk, rfl, hno, hbx, hbr⟩ := hrel
    obtain ⟨b0, b1, b2, b3, b4, b5, b6, b7, b8, b9, b10⟩ := msgAt_block (r := []) hbx
    have hsz : w.heap.size < wr.heap.size := (Array.getElem?_eq_some_iff.1 hbx).1
    have HNO := Lib.hid hno
    have HBX := Lib.hid hbx
    clear hno hbx
    by_cases hlt : k < m.entries.length
    · obtain ⟨B, o', rfl, hBlt, hEl⟩ := H4.out (fun h => by rw [h] at hlt; exact absurd hlt (Nat.not_lt_zero _))
      have hel := (hEl k hlt).below hbr
      have htk := take_snoc m.entries k hlt
      have hnx : ((m.entries.take (k + 1)).any fun e => decide (e.kind = 11)) = decide (m.entries[k].kind = 11) := by rw [htk, List.any_append, HNO.out]; simp only [List.any_cons, List.any_nil, Bool.or_false, Bool.false_or]
      have hall : m.entries[k].kind = 11 → msgLevelI m = 2 := fun h => by
        rw [HD.out, if_pos (.inr (.inr (List.any_eq_true.2 ⟨m.entries[k], List.getElem_mem _, by rw [h]; rfl⟩)))]
      have HNX := Lib.hid hnx
      have HALL := Lib.hid hall
      clear hEl htk hnx hall H4
      generalize m.entries[k] = e at *
      have hcall : ∀ W, Calls Tryd.prog 16 #[.agg #[.int .u64 e.term, .int .u64 e.index, .int .i64 e.kind, .int .u64 e.client, .int .u64 e.seq, .int .u64 e.block, .int .u64 e.many, .int .i64 e.node, .int .i64 e.level, .string e.data, .string e.old]] W fun x W' => x = .returned (.int .i64 (levelI e.kind)) ∧ Below W.heap.size W W' := fun W => refLevel_any e W
      have hlv := levelI_is e.kind
      obtain ⟨a0, a1, a2, a3, a4, a5, a6, a7, a8, a9, a10⟩ := hel
      have HC := Lib.hid hcall
      clear hcall
      by_cases h11 : e.kind = 11
      · have hl : (levelI e.kind == 2) = true := by rw [hlv.1, h11]; rfl
        have HR := Lib.hid (HALL.out h11)
        generalize levelI e.kind = lv at *
        clear h11 hlv
        go_wp2_with fail
        refine (HC.out _).mono ?_
        rintro x w1 ⟨rfl, hb1⟩
        clear a0 a1 a2 a3 a4 a5 a6 a7 a8 a9 a10 b0 b1 b2 b3 b4 b5 b6 b7 b8 b9 b10
        go_wp2_with fail
        go_ret
        exact ⟨by rw [HR.out]; rfl, hbr.trans (hb1.mono hbr.size)⟩
      · have hl : (levelI e.kind == 2) = false := by rw [hlv.1]; simpa using h11
        have H11 := Lib.hid h11
        generalize levelI e.kind = lv at *
        clear h11 hlv
        go_wp2_with fail
        refine (HC.out _).mono ?_
        rintro x w1 ⟨rfl, hb1⟩
        clear a0 a1 a2 a3 a4 a5 a6 a7 a8 a9 a10 b0 b1 b2 b3 b4 b5 b6 b7 b8 b9 b10
        go_wp2_with fail
        go_roundw
        case rel => exact ⟨k + 1, by omega, by go_num, by rw [HNX.out, decide_eq_false H11.out], (hb1.block _ hsz).trans HBX.out, hbr.trans (hb1.mono hbr.size)⟩
        case measure => simp [intOf]; omega
    · have hfin : (m.entries.any fun e => decide (e.kind = 11)) = false := by rw [← HNO.out, List.take_of_length_le (by omega)]
      have hr : msgLevelI m = if m.kind = 9 ∨ m.kind = 10 then 2 else 1 := by rw [HD.out]; simp [hfin]
      have HR := Lib.hid hr
      clear hfin hr H4
      by_cases h9 : m.kind = 9
      · have k9 : (m.kind == 9) = true := by rw [h9]; rfl
        have H9 := Lib.hid h9
        clear h9
        go_wp2_with fail
        go_ret
        exact ⟨by rw [HR.out, if_pos (.inl H9.out)]; rfl, hbr⟩
      · have k9 : (m.kind == 9) = false := by simpa using h9
        have H9 := Lib.hid h9
        clear h9
        by_cases h10 : m.kind = 10
        · have k10 : (m.kind == 10) = true := by rw [h10]; rfl
          have H10 := Lib.hid h10
          clear h10
          go_wp2_with fail
          go_ret
          exact ⟨by rw [HR.out, if_pos (.inr H10.out)]; rfl, hbr⟩
        · have k10 : (m.kind == 10) = false := by simpa using h10
          have H10 := Lib.hid h10
          clear h10
          go_wp2_with fail
          go_ret
          exact ⟨by rw [HR.out, if_neg (fun h => h.elim H9.out H10.out)]; rfl, hbr⟩

end Go.Proofs.YtbjbgdnjcppjhaaDoor
