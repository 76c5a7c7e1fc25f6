/-
  pintleref04's MsgRight over this translation. Condition: the entries' numbers are of their kinds; at most 2^20 entries. By an AI agent.
-/
import Derived.Test.YtbjbgdnjcppjhaaDoorRefRight
import Derived.Test.YtbjbgdnjcppjhaaDoorRefMsgRightP
import Derived.Test.YtbjbgdnjcppjhaaDoorNoteP
import Derived.Deep.Cut
import Derived.Deep.CutRange
namespace Go.Proofs.YtbjbgdnjcppjhaaDoor
open Go.RowKit Go.Sort
set_option linter.unusedVariables false
set_option linter.unusedSimpArgs false

set_option maxRecDepth 100000 in
set_option maxHeartbeats 16000000 in
/-- pintleref04.MsgRight (P4.2) -/
theorem refMsgRight_any (m : Msg) (s : Value) (he : ∀ e ∈ m.entries, e.wf) (hn : m.entries.length ≤ 1048576) (w : World) (hs : EntsAt w s m.entries) :
    Calls Tryd.prog 26 #[.agg (m.cells s)] w fun x w' => x = .returned (.bool (msgRightB m)) ∧ Below w.heap.size w w' := by
  obtain ⟨q, hq⟩ : ∃ q : UInt8 → Bool, ∀ c, q c = (msgL m.kind).contains c := ⟨_, fun _ => rfl⟩
  have hhas : ∀ (c : UInt8) W, Calls Tryd.prog 35 #[.string ⟨(msgL m.kind).toArray⟩, .int .u8 c.toNat] W fun x w' => x = .returned (.bool (q c)) ∧ W = w' := fun c W => hq c ▸ (refHas_same (msgL m.kind) (msgL_len m.kind) c W).mono fun _ _ ⟨h1, h2⟩ => ⟨h1, h2.symm⟩
  have h105 : ∀ W, Calls Tryd.prog 35 #[.string ⟨(msgL m.kind).toArray⟩, .int .u8 105] W fun x w' => x = .returned (.bool (q 105)) ∧ W = w' := fun W => hhas 105 W
  have h112 : ∀ W, Calls Tryd.prog 35 #[.string ⟨(msgL m.kind).toArray⟩, .int .u8 112] W fun x w' => x = .returned (.bool (q 112)) ∧ W = w' := fun W => hhas 112 W
  have h116 : ∀ W, Calls Tryd.prog 35 #[.string ⟨(msgL m.kind).toArray⟩, .int .u8 116] W fun x w' => x = .returned (.bool (q 116)) ∧ W = w' := fun W => hhas 116 W
  have h107 : ∀ W, Calls Tryd.prog 35 #[.string ⟨(msgL m.kind).toArray⟩, .int .u8 107] W fun x w' => x = .returned (.bool (q 107)) ∧ W = w' := fun W => hhas 107 W
  have h121 : ∀ W, Calls Tryd.prog 35 #[.string ⟨(msgL m.kind).toArray⟩, .int .u8 121] W fun x w' => x = .returned (.bool (q 121)) ∧ W = w' := fun W => hhas 121 W
  have h101 : ∀ W, Calls Tryd.prog 35 #[.string ⟨(msgL m.kind).toArray⟩, .int .u8 101] W fun x w' => x = .returned (.bool (q 101)) ∧ W = w' := fun W => hhas 101 W
  have h115 : ∀ W, Calls Tryd.prog 35 #[.string ⟨(msgL m.kind).toArray⟩, .int .u8 115] W fun x w' => x = .returned (.bool (q 115)) ∧ W = w' := fun W => hhas 115 W
  have H105 := Lib.hid h105
  have H112 := Lib.hid h112
  have H116 := Lib.hid h116
  have H107 := Lib.hid h107
  have H121 := Lib.hid h121
  have H101 := Lib.hid h101
  have H115 := Lib.hid h115
  have hR := msgRightB_asked m q hq
  clear hq
  clear hhas h105 h112 h116 h107 h121 h101 h115
  generalize hq105 : q 105 = q105 at *
  generalize hq112 : q 112 = q112 at *
  generalize hq116 : q 116 = q116 at *
  generalize hq107 : q 107 = q107 at *
  generalize hq121 : q 121 = q121 at *
  generalize hq101 : q 101 = q101 at *
  generalize hq115 : q 115 = q115 at *
  clear hq105 hq112 hq116 hq107 hq121 hq101 hq115
  generalize msgRightB m = r at *
  have HR := Lib.hid hR
  obtain ⟨sa, sc, rfl, hs2, hs3, hs4⟩ := hs
  have HS := Lib.hid hs4
  have HWF := Lib.hid he
  clear hR hs4 he
  simp only [Msg.cells]
  go_enter Tryd.func26, Tryd.ntmps26
  go_wp2_with fail
  refine (refMsgFields_any _ _).mono ?_
  rintro x w1 ⟨rfl, hb1⟩
  have he1 : MsgAt w1 w.heap.size m (.slice sa m.entries.length sc) := (msgAt_block (r := []) (heap_alloc_new w (.cells (m.cells (.slice sa m.entries.length sc)) 42))).below hb1
  have hb01 : Below w.heap.size w w1 := ((Below.refl _ _).alloc (Nat.le_refl _) _).trans (hb1.mono (by simp))
  have HB01 := Lib.hid hb01
  have HE1 := Lib.hid he1
  obtain ⟨a0, a1, a2, a3, a4, a5, a6, a7, a8, a9, a10⟩ := he1
  clear hb1 hb01
  cases hk : msgOk m.kind
  · have HK := Lib.hid hk
    clear hk
    go_wp2_with fail
    go_ret
    exact ⟨congrArg (fun b => Ending.returned (Value.bool b)) (show false = r from by rw [HR.out, HK.out]; simp), HB01.out⟩
  have HK := Lib.hid hk
  clear hk
  by_cases x1 : m.frm < 1
  · go_wp2_with fail
    go_ret
    exact ⟨congrArg (fun b => Ending.returned (Value.bool b)) (show false = r from by rw [HR.out, nodeB, decide_eq_false (show ¬ 1 ≤ m.frm by omega)]; simp), HB01.out⟩
  by_cases x2 : 7 < m.frm
  · go_wp2_with fail
    go_ret
    exact ⟨congrArg (fun b => Ending.returned (Value.bool b)) (show false = r from by rw [HR.out, nodeB, decide_eq_false (show ¬ m.frm ≤ 7 by omega)]; simp), HB01.out⟩
  by_cases x3 : m.to < 1
  · go_wp2_with fail
    go_ret
    exact ⟨congrArg (fun b => Ending.returned (Value.bool b)) (show false = r from by rw [HR.out, nodeB, nodeB, decide_eq_false (show ¬ 1 ≤ m.to by omega)]; simp), HB01.out⟩
  by_cases x4 : 7 < m.to
  · go_wp2_with fail
    go_ret
    exact ⟨congrArg (fun b => Ending.returned (Value.bool b)) (show false = r from by rw [HR.out, nodeB, nodeB, decide_eq_false (show ¬ m.to ≤ 7 by omega)]; simp), HB01.out⟩
  by_cases y1 : 64 < m.entries.length
  · go_wp2_with fail
    go_ret
    exact ⟨congrArg (fun b => Ending.returned (Value.bool b)) (show false = r from by rw [HR.out, decide_eq_false (show ¬ m.entries.length ≤ 64 by omega)]; simp), HB01.out⟩
  by_cases y2 : 16384 < m.snap.size
  · go_wp2_with fail
    go_ret
    exact ⟨congrArg (fun b => Ending.returned (Value.bool b)) (show false = r from by rw [HR.out, decide_eq_false (show ¬ m.snap.size ≤ 16384 by omega)]; simp), HB01.out⟩
  have hr2 : r = (m.entries.all rightB && !ask4 m q105 q112 q116 q107 && ask3 m q121 q101 q115) := by
    rw [HR.out, HK.out, nodeB, nodeB, decide_eq_true (show 1 ≤ m.frm by omega), decide_eq_true (show m.frm ≤ 7 by omega), decide_eq_true (show 1 ≤ m.to by omega), decide_eq_true (show m.to ≤ 7 by omega), decide_eq_true (show m.entries.length ≤ 64 by omega), decide_eq_true (show m.snap.size ≤ 16384 by omega)]
    simp
  have HR2 := Lib.hid hr2
  clear hr2 HR HK
  go_wp2_with fail
  clear x1 x2 x3 x4 y1 y2
  go_loopw [5, 6] (fun i u wr => ∃ k : Nat, k ≤ m.entries.length ∧ i = .int .i64 k ∧ (m.entries.take k).all rightB = true ∧ Below w1.heap.size w1 wr) (fun i u _ => m.entries.length - (intOf i).toNat)
  case atStart => exact ⟨0, Nat.zero_le _, rfl, rfl, Below.refl _ _⟩
  case round =>
    obtain ⟨k, hk, rfl, hall, hbr⟩ := hrel
    clear a0 a1 a2 a3 a4 a5 a6 a7 a8 a9 a10
    obtain ⟨a0, a1, a2, a3, a4, a5, a6, a7, a8, a9, a10⟩ := HE1.out.below hbr
    have HALL := Lib.hid hall
    have HBR := Lib.hid hbr
    clear hall
    by_cases hlt : k < m.entries.length
    · obtain ⟨B, o', rfl, hB1, hE1⟩ := HS.out (fun h => by rw [h] at hlt; exact absurd hlt (Nat.not_lt_zero _))
      have hel := (hE1 k hlt).below (HB01.out.trans (hbr.mono HB01.out.size))
      have hwf := HWF.out m.entries[k] (List.getElem_mem hlt)
      have hnx : (m.entries.take (k + 1)).all rightB = rightB m.entries[k] := by rw [take_snoc m.entries k hlt, List.all_append, HALL.out]; simp
      have hno : rightB m.entries[k] = false → m.entries.all rightB = false := fun h => by
        rw [List.all_eq_false]
        exact ⟨m.entries[k], List.getElem_mem _, by rw [h]; decide⟩
      have HNX := Lib.hid hnx
      have HNO := Lib.hid hno
      clear hnx hno hE1 hbr
      generalize m.entries[k] = e at *
      have hcall : ∀ W, Calls Tryd.prog 14 #[.agg #[.int .u64 e.term, .int .u64 e.index, .int .i64 e.kind, .int .u64 e.client, .int .u64 e.seq, .int .u64 e.block, .int .u64 e.many, .int .i64 e.node, .int .i64 e.level, .string e.data, .string e.old]] W fun x W' => x = .returned (.bool (rightB e)) ∧ Below W.heap.size W W' := fun W => refRight_any e hwf W
      generalize rightB e = re at *
      obtain ⟨b0, b1, b2, b3, b4, b5, b6, b7, b8, b9, b10⟩ := hel
      have HC := Lib.hid hcall
      clear hcall hwf
      go_wp2_with fail
      refine (HC.out _).mono ?_
      rintro x u ⟨rfl, hbu⟩
      have HBU := Lib.hid (HBR.out.trans (hbu.mono HBR.out.size))
      clear b0 b1 b2 b3 b4 b5 b6 b7 b8 b9 b10 a0 a1 a2 a3 a4 a5 a6 a7 a8 a9 a10 hbu
      cases re
      · go_wp2_with fail
        go_ret
        exact ⟨congrArg (fun b => Ending.returned (Value.bool b)) (show false = r from by rw [HR2.out, HNO.out (by trivial)]; rfl), HB01.out.trans (HBU.out.mono HB01.out.size)⟩
      · go_wp2_with fail
        go_roundw
        case rel => exact ⟨k + 1, by omega, by go_num, HNX.out, HBU.out⟩
        case measure => simp [intOf]; omega
    · have hr3 : r = (!ask4 m q105 q112 q116 q107 && ask3 m q121 q101 q115) := by
        have := HALL.out
        rw [List.take_of_length_le (by omega)] at this
        rw [HR2.out, this]; rfl
      have HR3 := Lib.hid hr3
      clear hr3 HR2 HALL hbr HS HWF
      go_upto_region 10 with fail
      go_cut [99] from 62 to 98 (fun s wx => s = .bool (ask4 m q105 q112 q116 q107) ∧ Below w1.heap.size w1 wx)
      case first =>
        have e105 := H105.out
        have e112 := H112.out
        have e116 := H116.out
        have e107 := H107.out
        cases q105
        case false =>
          by_cases z0 : 0 < m.index
          · skip
            go_wp2_with (first | (go_at_call 35; with_reducible refine (e105 _).mono ?_; rintro _ _ ⟨rfl, rfl⟩) | (go_at_call 35; with_reducible refine (e112 _).mono ?_; rintro _ _ ⟨rfl, rfl⟩) | (go_at_call 35; with_reducible refine (e116 _).mono ?_; rintro _ _ ⟨rfl, rfl⟩) | (go_at_call 35; with_reducible refine (e107 _).mono ?_; rintro _ _ ⟨rfl, rfl⟩))
            go_meet
            exact ⟨congrArg Value.bool (by simp [ask4, z0]), HBR.out⟩
          · skip
            cases q112
            case false =>
              by_cases z1 : 0 < m.prev
              · skip
                go_wp2_with (first | (go_at_call 35; with_reducible refine (e105 _).mono ?_; rintro _ _ ⟨rfl, rfl⟩) | (go_at_call 35; with_reducible refine (e112 _).mono ?_; rintro _ _ ⟨rfl, rfl⟩) | (go_at_call 35; with_reducible refine (e116 _).mono ?_; rintro _ _ ⟨rfl, rfl⟩) | (go_at_call 35; with_reducible refine (e107 _).mono ?_; rintro _ _ ⟨rfl, rfl⟩))
                go_meet
                exact ⟨congrArg Value.bool (by simp [ask4, z0, z1]), HBR.out⟩
              · skip
                cases q116
                case false =>
                  by_cases z2 : 0 < m.commit
                  · skip
                    go_wp2_with (first | (go_at_call 35; with_reducible refine (e105 _).mono ?_; rintro _ _ ⟨rfl, rfl⟩) | (go_at_call 35; with_reducible refine (e112 _).mono ?_; rintro _ _ ⟨rfl, rfl⟩) | (go_at_call 35; with_reducible refine (e116 _).mono ?_; rintro _ _ ⟨rfl, rfl⟩) | (go_at_call 35; with_reducible refine (e107 _).mono ?_; rintro _ _ ⟨rfl, rfl⟩))
                    go_meet
                    exact ⟨congrArg Value.bool (by simp [ask4, z0, z1, z2]), HBR.out⟩
                  · skip
                    cases q107
                    case false =>
                      by_cases z3 : 0 < m.mark
                      · skip
                        go_wp2_with (first | (go_at_call 35; with_reducible refine (e105 _).mono ?_; rintro _ _ ⟨rfl, rfl⟩) | (go_at_call 35; with_reducible refine (e112 _).mono ?_; rintro _ _ ⟨rfl, rfl⟩) | (go_at_call 35; with_reducible refine (e116 _).mono ?_; rintro _ _ ⟨rfl, rfl⟩) | (go_at_call 35; with_reducible refine (e107 _).mono ?_; rintro _ _ ⟨rfl, rfl⟩))
                        go_meet
                        exact ⟨congrArg Value.bool (by simp [ask4, z0, z1, z2, z3]), HBR.out⟩
                      · skip
                        go_wp2_with (first | (go_at_call 35; with_reducible refine (e105 _).mono ?_; rintro _ _ ⟨rfl, rfl⟩) | (go_at_call 35; with_reducible refine (e112 _).mono ?_; rintro _ _ ⟨rfl, rfl⟩) | (go_at_call 35; with_reducible refine (e116 _).mono ?_; rintro _ _ ⟨rfl, rfl⟩) | (go_at_call 35; with_reducible refine (e107 _).mono ?_; rintro _ _ ⟨rfl, rfl⟩))
                        go_meet
                        exact ⟨congrArg Value.bool (by simp [ask4, z0, z1, z2, z3]), HBR.out⟩
                    case true =>
                      go_wp2_with (first | (go_at_call 35; with_reducible refine (e105 _).mono ?_; rintro _ _ ⟨rfl, rfl⟩) | (go_at_call 35; with_reducible refine (e112 _).mono ?_; rintro _ _ ⟨rfl, rfl⟩) | (go_at_call 35; with_reducible refine (e116 _).mono ?_; rintro _ _ ⟨rfl, rfl⟩) | (go_at_call 35; with_reducible refine (e107 _).mono ?_; rintro _ _ ⟨rfl, rfl⟩))
                      go_meet
                      exact ⟨congrArg Value.bool (by simp [ask4, z0, z1, z2]), HBR.out⟩
                case true =>
                  cases q107
                  case false =>
                    by_cases z3 : 0 < m.mark
                    · skip
                      go_wp2_with (first | (go_at_call 35; with_reducible refine (e105 _).mono ?_; rintro _ _ ⟨rfl, rfl⟩) | (go_at_call 35; with_reducible refine (e112 _).mono ?_; rintro _ _ ⟨rfl, rfl⟩) | (go_at_call 35; with_reducible refine (e116 _).mono ?_; rintro _ _ ⟨rfl, rfl⟩) | (go_at_call 35; with_reducible refine (e107 _).mono ?_; rintro _ _ ⟨rfl, rfl⟩))
                      go_meet
                      exact ⟨congrArg Value.bool (by simp [ask4, z0, z1, z3]), HBR.out⟩
                    · skip
                      go_wp2_with (first | (go_at_call 35; with_reducible refine (e105 _).mono ?_; rintro _ _ ⟨rfl, rfl⟩) | (go_at_call 35; with_reducible refine (e112 _).mono ?_; rintro _ _ ⟨rfl, rfl⟩) | (go_at_call 35; with_reducible refine (e116 _).mono ?_; rintro _ _ ⟨rfl, rfl⟩) | (go_at_call 35; with_reducible refine (e107 _).mono ?_; rintro _ _ ⟨rfl, rfl⟩))
                      go_meet
                      exact ⟨congrArg Value.bool (by simp [ask4, z0, z1, z3]), HBR.out⟩
                  case true =>
                    go_wp2_with (first | (go_at_call 35; with_reducible refine (e105 _).mono ?_; rintro _ _ ⟨rfl, rfl⟩) | (go_at_call 35; with_reducible refine (e112 _).mono ?_; rintro _ _ ⟨rfl, rfl⟩) | (go_at_call 35; with_reducible refine (e116 _).mono ?_; rintro _ _ ⟨rfl, rfl⟩) | (go_at_call 35; with_reducible refine (e107 _).mono ?_; rintro _ _ ⟨rfl, rfl⟩))
                    go_meet
                    exact ⟨congrArg Value.bool (by simp [ask4, z0, z1]), HBR.out⟩
            case true =>
              cases q116
              case false =>
                by_cases z2 : 0 < m.commit
                · skip
                  go_wp2_with (first | (go_at_call 35; with_reducible refine (e105 _).mono ?_; rintro _ _ ⟨rfl, rfl⟩) | (go_at_call 35; with_reducible refine (e112 _).mono ?_; rintro _ _ ⟨rfl, rfl⟩) | (go_at_call 35; with_reducible refine (e116 _).mono ?_; rintro _ _ ⟨rfl, rfl⟩) | (go_at_call 35; with_reducible refine (e107 _).mono ?_; rintro _ _ ⟨rfl, rfl⟩))
                  go_meet
                  exact ⟨congrArg Value.bool (by simp [ask4, z0, z2]), HBR.out⟩
                · skip
                  cases q107
                  case false =>
                    by_cases z3 : 0 < m.mark
                    · skip
                      go_wp2_with (first | (go_at_call 35; with_reducible refine (e105 _).mono ?_; rintro _ _ ⟨rfl, rfl⟩) | (go_at_call 35; with_reducible refine (e112 _).mono ?_; rintro _ _ ⟨rfl, rfl⟩) | (go_at_call 35; with_reducible refine (e116 _).mono ?_; rintro _ _ ⟨rfl, rfl⟩) | (go_at_call 35; with_reducible refine (e107 _).mono ?_; rintro _ _ ⟨rfl, rfl⟩))
                      go_meet
                      exact ⟨congrArg Value.bool (by simp [ask4, z0, z2, z3]), HBR.out⟩
                    · skip
                      go_wp2_with (first | (go_at_call 35; with_reducible refine (e105 _).mono ?_; rintro _ _ ⟨rfl, rfl⟩) | (go_at_call 35; with_reducible refine (e112 _).mono ?_; rintro _ _ ⟨rfl, rfl⟩) | (go_at_call 35; with_reducible refine (e116 _).mono ?_; rintro _ _ ⟨rfl, rfl⟩) | (go_at_call 35; with_reducible refine (e107 _).mono ?_; rintro _ _ ⟨rfl, rfl⟩))
                      go_meet
                      exact ⟨congrArg Value.bool (by simp [ask4, z0, z2, z3]), HBR.out⟩
                  case true =>
                    go_wp2_with (first | (go_at_call 35; with_reducible refine (e105 _).mono ?_; rintro _ _ ⟨rfl, rfl⟩) | (go_at_call 35; with_reducible refine (e112 _).mono ?_; rintro _ _ ⟨rfl, rfl⟩) | (go_at_call 35; with_reducible refine (e116 _).mono ?_; rintro _ _ ⟨rfl, rfl⟩) | (go_at_call 35; with_reducible refine (e107 _).mono ?_; rintro _ _ ⟨rfl, rfl⟩))
                    go_meet
                    exact ⟨congrArg Value.bool (by simp [ask4, z0, z2]), HBR.out⟩
              case true =>
                cases q107
                case false =>
                  by_cases z3 : 0 < m.mark
                  · skip
                    go_wp2_with (first | (go_at_call 35; with_reducible refine (e105 _).mono ?_; rintro _ _ ⟨rfl, rfl⟩) | (go_at_call 35; with_reducible refine (e112 _).mono ?_; rintro _ _ ⟨rfl, rfl⟩) | (go_at_call 35; with_reducible refine (e116 _).mono ?_; rintro _ _ ⟨rfl, rfl⟩) | (go_at_call 35; with_reducible refine (e107 _).mono ?_; rintro _ _ ⟨rfl, rfl⟩))
                    go_meet
                    exact ⟨congrArg Value.bool (by simp [ask4, z0, z3]), HBR.out⟩
                  · skip
                    go_wp2_with (first | (go_at_call 35; with_reducible refine (e105 _).mono ?_; rintro _ _ ⟨rfl, rfl⟩) | (go_at_call 35; with_reducible refine (e112 _).mono ?_; rintro _ _ ⟨rfl, rfl⟩) | (go_at_call 35; with_reducible refine (e116 _).mono ?_; rintro _ _ ⟨rfl, rfl⟩) | (go_at_call 35; with_reducible refine (e107 _).mono ?_; rintro _ _ ⟨rfl, rfl⟩))
                    go_meet
                    exact ⟨congrArg Value.bool (by simp [ask4, z0, z3]), HBR.out⟩
                case true =>
                  go_wp2_with (first | (go_at_call 35; with_reducible refine (e105 _).mono ?_; rintro _ _ ⟨rfl, rfl⟩) | (go_at_call 35; with_reducible refine (e112 _).mono ?_; rintro _ _ ⟨rfl, rfl⟩) | (go_at_call 35; with_reducible refine (e116 _).mono ?_; rintro _ _ ⟨rfl, rfl⟩) | (go_at_call 35; with_reducible refine (e107 _).mono ?_; rintro _ _ ⟨rfl, rfl⟩))
                  go_meet
                  exact ⟨congrArg Value.bool (by simp [ask4, z0]), HBR.out⟩
        case true =>
          cases q112
          case false =>
            by_cases z1 : 0 < m.prev
            · skip
              go_wp2_with (first | (go_at_call 35; with_reducible refine (e105 _).mono ?_; rintro _ _ ⟨rfl, rfl⟩) | (go_at_call 35; with_reducible refine (e112 _).mono ?_; rintro _ _ ⟨rfl, rfl⟩) | (go_at_call 35; with_reducible refine (e116 _).mono ?_; rintro _ _ ⟨rfl, rfl⟩) | (go_at_call 35; with_reducible refine (e107 _).mono ?_; rintro _ _ ⟨rfl, rfl⟩))
              go_meet
              exact ⟨congrArg Value.bool (by simp [ask4, z1]), HBR.out⟩
            · skip
              cases q116
              case false =>
                by_cases z2 : 0 < m.commit
                · skip
                  go_wp2_with (first | (go_at_call 35; with_reducible refine (e105 _).mono ?_; rintro _ _ ⟨rfl, rfl⟩) | (go_at_call 35; with_reducible refine (e112 _).mono ?_; rintro _ _ ⟨rfl, rfl⟩) | (go_at_call 35; with_reducible refine (e116 _).mono ?_; rintro _ _ ⟨rfl, rfl⟩) | (go_at_call 35; with_reducible refine (e107 _).mono ?_; rintro _ _ ⟨rfl, rfl⟩))
                  go_meet
                  exact ⟨congrArg Value.bool (by simp [ask4, z1, z2]), HBR.out⟩
                · skip
                  cases q107
                  case false =>
                    by_cases z3 : 0 < m.mark
                    · skip
                      go_wp2_with (first | (go_at_call 35; with_reducible refine (e105 _).mono ?_; rintro _ _ ⟨rfl, rfl⟩) | (go_at_call 35; with_reducible refine (e112 _).mono ?_; rintro _ _ ⟨rfl, rfl⟩) | (go_at_call 35; with_reducible refine (e116 _).mono ?_; rintro _ _ ⟨rfl, rfl⟩) | (go_at_call 35; with_reducible refine (e107 _).mono ?_; rintro _ _ ⟨rfl, rfl⟩))
                      go_meet
                      exact ⟨congrArg Value.bool (by simp [ask4, z1, z2, z3]), HBR.out⟩
                    · skip
                      go_wp2_with (first | (go_at_call 35; with_reducible refine (e105 _).mono ?_; rintro _ _ ⟨rfl, rfl⟩) | (go_at_call 35; with_reducible refine (e112 _).mono ?_; rintro _ _ ⟨rfl, rfl⟩) | (go_at_call 35; with_reducible refine (e116 _).mono ?_; rintro _ _ ⟨rfl, rfl⟩) | (go_at_call 35; with_reducible refine (e107 _).mono ?_; rintro _ _ ⟨rfl, rfl⟩))
                      go_meet
                      exact ⟨congrArg Value.bool (by simp [ask4, z1, z2, z3]), HBR.out⟩
                  case true =>
                    go_wp2_with (first | (go_at_call 35; with_reducible refine (e105 _).mono ?_; rintro _ _ ⟨rfl, rfl⟩) | (go_at_call 35; with_reducible refine (e112 _).mono ?_; rintro _ _ ⟨rfl, rfl⟩) | (go_at_call 35; with_reducible refine (e116 _).mono ?_; rintro _ _ ⟨rfl, rfl⟩) | (go_at_call 35; with_reducible refine (e107 _).mono ?_; rintro _ _ ⟨rfl, rfl⟩))
                    go_meet
                    exact ⟨congrArg Value.bool (by simp [ask4, z1, z2]), HBR.out⟩
              case true =>
                cases q107
                case false =>
                  by_cases z3 : 0 < m.mark
                  · skip
                    go_wp2_with (first | (go_at_call 35; with_reducible refine (e105 _).mono ?_; rintro _ _ ⟨rfl, rfl⟩) | (go_at_call 35; with_reducible refine (e112 _).mono ?_; rintro _ _ ⟨rfl, rfl⟩) | (go_at_call 35; with_reducible refine (e116 _).mono ?_; rintro _ _ ⟨rfl, rfl⟩) | (go_at_call 35; with_reducible refine (e107 _).mono ?_; rintro _ _ ⟨rfl, rfl⟩))
                    go_meet
                    exact ⟨congrArg Value.bool (by simp [ask4, z1, z3]), HBR.out⟩
                  · skip
                    go_wp2_with (first | (go_at_call 35; with_reducible refine (e105 _).mono ?_; rintro _ _ ⟨rfl, rfl⟩) | (go_at_call 35; with_reducible refine (e112 _).mono ?_; rintro _ _ ⟨rfl, rfl⟩) | (go_at_call 35; with_reducible refine (e116 _).mono ?_; rintro _ _ ⟨rfl, rfl⟩) | (go_at_call 35; with_reducible refine (e107 _).mono ?_; rintro _ _ ⟨rfl, rfl⟩))
                    go_meet
                    exact ⟨congrArg Value.bool (by simp [ask4, z1, z3]), HBR.out⟩
                case true =>
                  go_wp2_with (first | (go_at_call 35; with_reducible refine (e105 _).mono ?_; rintro _ _ ⟨rfl, rfl⟩) | (go_at_call 35; with_reducible refine (e112 _).mono ?_; rintro _ _ ⟨rfl, rfl⟩) | (go_at_call 35; with_reducible refine (e116 _).mono ?_; rintro _ _ ⟨rfl, rfl⟩) | (go_at_call 35; with_reducible refine (e107 _).mono ?_; rintro _ _ ⟨rfl, rfl⟩))
                  go_meet
                  exact ⟨congrArg Value.bool (by simp [ask4, z1]), HBR.out⟩
          case true =>
            cases q116
            case false =>
              by_cases z2 : 0 < m.commit
              · skip
                go_wp2_with (first | (go_at_call 35; with_reducible refine (e105 _).mono ?_; rintro _ _ ⟨rfl, rfl⟩) | (go_at_call 35; with_reducible refine (e112 _).mono ?_; rintro _ _ ⟨rfl, rfl⟩) | (go_at_call 35; with_reducible refine (e116 _).mono ?_; rintro _ _ ⟨rfl, rfl⟩) | (go_at_call 35; with_reducible refine (e107 _).mono ?_; rintro _ _ ⟨rfl, rfl⟩))
                go_meet
                exact ⟨congrArg Value.bool (by simp [ask4, z2]), HBR.out⟩
              · skip
                cases q107
                case false =>
                  by_cases z3 : 0 < m.mark
                  · skip
                    go_wp2_with (first | (go_at_call 35; with_reducible refine (e105 _).mono ?_; rintro _ _ ⟨rfl, rfl⟩) | (go_at_call 35; with_reducible refine (e112 _).mono ?_; rintro _ _ ⟨rfl, rfl⟩) | (go_at_call 35; with_reducible refine (e116 _).mono ?_; rintro _ _ ⟨rfl, rfl⟩) | (go_at_call 35; with_reducible refine (e107 _).mono ?_; rintro _ _ ⟨rfl, rfl⟩))
                    go_meet
                    exact ⟨congrArg Value.bool (by simp [ask4, z2, z3]), HBR.out⟩
                  · skip
                    go_wp2_with (first | (go_at_call 35; with_reducible refine (e105 _).mono ?_; rintro _ _ ⟨rfl, rfl⟩) | (go_at_call 35; with_reducible refine (e112 _).mono ?_; rintro _ _ ⟨rfl, rfl⟩) | (go_at_call 35; with_reducible refine (e116 _).mono ?_; rintro _ _ ⟨rfl, rfl⟩) | (go_at_call 35; with_reducible refine (e107 _).mono ?_; rintro _ _ ⟨rfl, rfl⟩))
                    go_meet
                    exact ⟨congrArg Value.bool (by simp [ask4, z2, z3]), HBR.out⟩
                case true =>
                  go_wp2_with (first | (go_at_call 35; with_reducible refine (e105 _).mono ?_; rintro _ _ ⟨rfl, rfl⟩) | (go_at_call 35; with_reducible refine (e112 _).mono ?_; rintro _ _ ⟨rfl, rfl⟩) | (go_at_call 35; with_reducible refine (e116 _).mono ?_; rintro _ _ ⟨rfl, rfl⟩) | (go_at_call 35; with_reducible refine (e107 _).mono ?_; rintro _ _ ⟨rfl, rfl⟩))
                  go_meet
                  exact ⟨congrArg Value.bool (by simp [ask4, z2]), HBR.out⟩
            case true =>
              cases q107
              case false =>
                by_cases z3 : 0 < m.mark
                · skip
                  go_wp2_with (first | (go_at_call 35; with_reducible refine (e105 _).mono ?_; rintro _ _ ⟨rfl, rfl⟩) | (go_at_call 35; with_reducible refine (e112 _).mono ?_; rintro _ _ ⟨rfl, rfl⟩) | (go_at_call 35; with_reducible refine (e116 _).mono ?_; rintro _ _ ⟨rfl, rfl⟩) | (go_at_call 35; with_reducible refine (e107 _).mono ?_; rintro _ _ ⟨rfl, rfl⟩))
                  go_meet
                  exact ⟨congrArg Value.bool (by simp [ask4, z3]), HBR.out⟩
                · skip
                  go_wp2_with (first | (go_at_call 35; with_reducible refine (e105 _).mono ?_; rintro _ _ ⟨rfl, rfl⟩) | (go_at_call 35; with_reducible refine (e112 _).mono ?_; rintro _ _ ⟨rfl, rfl⟩) | (go_at_call 35; with_reducible refine (e116 _).mono ?_; rintro _ _ ⟨rfl, rfl⟩) | (go_at_call 35; with_reducible refine (e107 _).mono ?_; rintro _ _ ⟨rfl, rfl⟩))
                  go_meet
                  exact ⟨congrArg Value.bool (by simp [ask4, z3]), HBR.out⟩
              case true =>
                go_wp2_with (first | (go_at_call 35; with_reducible refine (e105 _).mono ?_; rintro _ _ ⟨rfl, rfl⟩) | (go_at_call 35; with_reducible refine (e112 _).mono ?_; rintro _ _ ⟨rfl, rfl⟩) | (go_at_call 35; with_reducible refine (e116 _).mono ?_; rintro _ _ ⟨rfl, rfl⟩) | (go_at_call 35; with_reducible refine (e107 _).mono ?_; rintro _ _ ⟨rfl, rfl⟩))
                go_meet
                exact ⟨congrArg Value.bool (by simp [ask4]), HBR.out⟩
      case rest =>
      obtain ⟨rfl, hb6⟩ := hcut
      have HB6 := Lib.hid hb6
      clear a0 a1 a2 a3 a4 a5 a6 a7 a8 a9 a10
      obtain ⟨a0, a1, a2, a3, a4, a5, a6, a7, a8, a9, a10⟩ := HE1.out.below hb6
      clear hb6 HBR
      generalize ask4 m q105 q112 q116 q107 = vB at *
      cases vB
      case true =>
        go_wp2_with fail
        go_ret
        exact ⟨congrArg (fun b => Ending.returned (Value.bool b)) (show false = r from by rw [HR3.out]; rfl), HB01.out.trans (HB6.out.mono HB01.out.size)⟩
      have e121 := H121.out
      have e101 := H101.out
      have e115 := H115.out
      cases q121
      case false =>
        cases hz0 : m.ok
        case false =>
          have Z0 := Lib.hid hz0
          rw [hz0] at a8
          clear hz0
          cases q101
          case false =>
            by_cases z1 : m.entries.length = 0
            · have Z1 := Lib.hid z1
              have y1 : ((m.entries.length : Int) == 0) = true := by rw [z1]; rfl
              clear z1
              cases q115
              case false =>
                by_cases z2 : m.snap.size = 0
                · have Z2 := Lib.hid z2
                  have y2 := emptyR z2
                  clear z2
                  go_wp2_with (first | (go_at_call 35; with_reducible refine (e121 _).mono ?_; rintro _ _ ⟨rfl, rfl⟩) | (go_at_call 35; with_reducible refine (e101 _).mono ?_; rintro _ _ ⟨rfl, rfl⟩) | (go_at_call 35; with_reducible refine (e115 _).mono ?_; rintro _ _ ⟨rfl, rfl⟩))
                  go_ret
                  exact ⟨congrArg (fun b => Ending.returned (Value.bool b)) (show true = r from by rw [HR3.out]; simp [ask3, Z0.out, Z1.out, Z2.out]), HB01.out.trans (HB6.out.mono HB01.out.size)⟩
                · have Z2 := Lib.hid z2
                  have y2 := fullR z2
                  clear z2
                  go_wp2_with (first | (go_at_call 35; with_reducible refine (e121 _).mono ?_; rintro _ _ ⟨rfl, rfl⟩) | (go_at_call 35; with_reducible refine (e101 _).mono ?_; rintro _ _ ⟨rfl, rfl⟩) | (go_at_call 35; with_reducible refine (e115 _).mono ?_; rintro _ _ ⟨rfl, rfl⟩))
                  go_ret
                  exact ⟨congrArg (fun b => Ending.returned (Value.bool b)) (show false = r from by rw [HR3.out]; simp [ask3, Z0.out, Z1.out, Z2.out]), HB01.out.trans (HB6.out.mono HB01.out.size)⟩
              case true =>
                go_wp2_with (first | (go_at_call 35; with_reducible refine (e121 _).mono ?_; rintro _ _ ⟨rfl, rfl⟩) | (go_at_call 35; with_reducible refine (e101 _).mono ?_; rintro _ _ ⟨rfl, rfl⟩) | (go_at_call 35; with_reducible refine (e115 _).mono ?_; rintro _ _ ⟨rfl, rfl⟩))
                go_ret
                exact ⟨congrArg (fun b => Ending.returned (Value.bool b)) (show true = r from by rw [HR3.out]; simp [ask3, Z0.out, Z1.out]), HB01.out.trans (HB6.out.mono HB01.out.size)⟩
            · have Z1 := Lib.hid z1
              have y1 : ((m.entries.length : Int) == 0) = false := beq_eq_false_iff_ne.2 (by omega)
              clear z1
              go_wp2_with (first | (go_at_call 35; with_reducible refine (e121 _).mono ?_; rintro _ _ ⟨rfl, rfl⟩) | (go_at_call 35; with_reducible refine (e101 _).mono ?_; rintro _ _ ⟨rfl, rfl⟩) | (go_at_call 35; with_reducible refine (e115 _).mono ?_; rintro _ _ ⟨rfl, rfl⟩))
              go_ret
              exact ⟨congrArg (fun b => Ending.returned (Value.bool b)) (show false = r from by rw [HR3.out]; simp [ask3, Z0.out, Z1.out]), HB01.out.trans (HB6.out.mono HB01.out.size)⟩
          case true =>
            cases q115
            case false =>
              by_cases z2 : m.snap.size = 0
              · have Z2 := Lib.hid z2
                have y2 := emptyR z2
                clear z2
                go_wp2_with (first | (go_at_call 35; with_reducible refine (e121 _).mono ?_; rintro _ _ ⟨rfl, rfl⟩) | (go_at_call 35; with_reducible refine (e101 _).mono ?_; rintro _ _ ⟨rfl, rfl⟩) | (go_at_call 35; with_reducible refine (e115 _).mono ?_; rintro _ _ ⟨rfl, rfl⟩))
                go_ret
                exact ⟨congrArg (fun b => Ending.returned (Value.bool b)) (show true = r from by rw [HR3.out]; simp [ask3, Z0.out, Z2.out]), HB01.out.trans (HB6.out.mono HB01.out.size)⟩
              · have Z2 := Lib.hid z2
                have y2 := fullR z2
                clear z2
                go_wp2_with (first | (go_at_call 35; with_reducible refine (e121 _).mono ?_; rintro _ _ ⟨rfl, rfl⟩) | (go_at_call 35; with_reducible refine (e101 _).mono ?_; rintro _ _ ⟨rfl, rfl⟩) | (go_at_call 35; with_reducible refine (e115 _).mono ?_; rintro _ _ ⟨rfl, rfl⟩))
                go_ret
                exact ⟨congrArg (fun b => Ending.returned (Value.bool b)) (show false = r from by rw [HR3.out]; simp [ask3, Z0.out, Z2.out]), HB01.out.trans (HB6.out.mono HB01.out.size)⟩
            case true =>
              go_wp2_with (first | (go_at_call 35; with_reducible refine (e121 _).mono ?_; rintro _ _ ⟨rfl, rfl⟩) | (go_at_call 35; with_reducible refine (e101 _).mono ?_; rintro _ _ ⟨rfl, rfl⟩) | (go_at_call 35; with_reducible refine (e115 _).mono ?_; rintro _ _ ⟨rfl, rfl⟩))
              go_ret
              exact ⟨congrArg (fun b => Ending.returned (Value.bool b)) (show true = r from by rw [HR3.out]; simp [ask3, Z0.out]), HB01.out.trans (HB6.out.mono HB01.out.size)⟩
        case true =>
          have Z0 := Lib.hid hz0
          rw [hz0] at a8
          clear hz0
          go_wp2_with (first | (go_at_call 35; with_reducible refine (e121 _).mono ?_; rintro _ _ ⟨rfl, rfl⟩) | (go_at_call 35; with_reducible refine (e101 _).mono ?_; rintro _ _ ⟨rfl, rfl⟩) | (go_at_call 35; with_reducible refine (e115 _).mono ?_; rintro _ _ ⟨rfl, rfl⟩))
          go_ret
          exact ⟨congrArg (fun b => Ending.returned (Value.bool b)) (show false = r from by rw [HR3.out]; simp [ask3, Z0.out]), HB01.out.trans (HB6.out.mono HB01.out.size)⟩
      case true =>
        cases q101
        case false =>
          by_cases z1 : m.entries.length = 0
          · have Z1 := Lib.hid z1
            have y1 : ((m.entries.length : Int) == 0) = true := by rw [z1]; rfl
            clear z1
            cases q115
            case false =>
              by_cases z2 : m.snap.size = 0
              · have Z2 := Lib.hid z2
                have y2 := emptyR z2
                clear z2
                go_wp2_with (first | (go_at_call 35; with_reducible refine (e121 _).mono ?_; rintro _ _ ⟨rfl, rfl⟩) | (go_at_call 35; with_reducible refine (e101 _).mono ?_; rintro _ _ ⟨rfl, rfl⟩) | (go_at_call 35; with_reducible refine (e115 _).mono ?_; rintro _ _ ⟨rfl, rfl⟩))
                go_ret
                exact ⟨congrArg (fun b => Ending.returned (Value.bool b)) (show true = r from by rw [HR3.out]; simp [ask3, Z1.out, Z2.out]), HB01.out.trans (HB6.out.mono HB01.out.size)⟩
              · have Z2 := Lib.hid z2
                have y2 := fullR z2
                clear z2
                go_wp2_with (first | (go_at_call 35; with_reducible refine (e121 _).mono ?_; rintro _ _ ⟨rfl, rfl⟩) | (go_at_call 35; with_reducible refine (e101 _).mono ?_; rintro _ _ ⟨rfl, rfl⟩) | (go_at_call 35; with_reducible refine (e115 _).mono ?_; rintro _ _ ⟨rfl, rfl⟩))
                go_ret
                exact ⟨congrArg (fun b => Ending.returned (Value.bool b)) (show false = r from by rw [HR3.out]; simp [ask3, Z1.out, Z2.out]), HB01.out.trans (HB6.out.mono HB01.out.size)⟩
            case true =>
              go_wp2_with (first | (go_at_call 35; with_reducible refine (e121 _).mono ?_; rintro _ _ ⟨rfl, rfl⟩) | (go_at_call 35; with_reducible refine (e101 _).mono ?_; rintro _ _ ⟨rfl, rfl⟩) | (go_at_call 35; with_reducible refine (e115 _).mono ?_; rintro _ _ ⟨rfl, rfl⟩))
              go_ret
              exact ⟨congrArg (fun b => Ending.returned (Value.bool b)) (show true = r from by rw [HR3.out]; simp [ask3, Z1.out]), HB01.out.trans (HB6.out.mono HB01.out.size)⟩
          · have Z1 := Lib.hid z1
            have y1 : ((m.entries.length : Int) == 0) = false := beq_eq_false_iff_ne.2 (by omega)
            clear z1
            go_wp2_with (first | (go_at_call 35; with_reducible refine (e121 _).mono ?_; rintro _ _ ⟨rfl, rfl⟩) | (go_at_call 35; with_reducible refine (e101 _).mono ?_; rintro _ _ ⟨rfl, rfl⟩) | (go_at_call 35; with_reducible refine (e115 _).mono ?_; rintro _ _ ⟨rfl, rfl⟩))
            go_ret
            exact ⟨congrArg (fun b => Ending.returned (Value.bool b)) (show false = r from by rw [HR3.out]; simp [ask3, Z1.out]), HB01.out.trans (HB6.out.mono HB01.out.size)⟩
        case true =>
          cases q115
          case false =>
            by_cases z2 : m.snap.size = 0
            · have Z2 := Lib.hid z2
              have y2 := emptyR z2
              clear z2
              go_wp2_with (first | (go_at_call 35; with_reducible refine (e121 _).mono ?_; rintro _ _ ⟨rfl, rfl⟩) | (go_at_call 35; with_reducible refine (e101 _).mono ?_; rintro _ _ ⟨rfl, rfl⟩) | (go_at_call 35; with_reducible refine (e115 _).mono ?_; rintro _ _ ⟨rfl, rfl⟩))
              go_ret
              exact ⟨congrArg (fun b => Ending.returned (Value.bool b)) (show true = r from by rw [HR3.out]; simp [ask3, Z2.out]), HB01.out.trans (HB6.out.mono HB01.out.size)⟩
            · have Z2 := Lib.hid z2
              have y2 := fullR z2
              clear z2
              go_wp2_with (first | (go_at_call 35; with_reducible refine (e121 _).mono ?_; rintro _ _ ⟨rfl, rfl⟩) | (go_at_call 35; with_reducible refine (e101 _).mono ?_; rintro _ _ ⟨rfl, rfl⟩) | (go_at_call 35; with_reducible refine (e115 _).mono ?_; rintro _ _ ⟨rfl, rfl⟩))
              go_ret
              exact ⟨congrArg (fun b => Ending.returned (Value.bool b)) (show false = r from by rw [HR3.out]; simp [ask3, Z2.out]), HB01.out.trans (HB6.out.mono HB01.out.size)⟩
          case true =>
            go_wp2_with (first | (go_at_call 35; with_reducible refine (e121 _).mono ?_; rintro _ _ ⟨rfl, rfl⟩) | (go_at_call 35; with_reducible refine (e101 _).mono ?_; rintro _ _ ⟨rfl, rfl⟩) | (go_at_call 35; with_reducible refine (e115 _).mono ?_; rintro _ _ ⟨rfl, rfl⟩))
            go_ret
            exact ⟨congrArg (fun b => Ending.returned (Value.bool b)) (show true = r from by rw [HR3.out]; simp [ask3]), HB01.out.trans (HB6.out.mono HB01.out.size)⟩

end Go.Proofs.YtbjbgdnjcppjhaaDoor
