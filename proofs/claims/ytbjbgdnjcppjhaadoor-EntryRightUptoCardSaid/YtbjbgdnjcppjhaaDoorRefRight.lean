/-
  pintleref04's Right over this translation. Condition: the numbers are of their kinds. By an AI agent.
-/
import Derived.Test.YtbjbgdnjcppjhaaDoorRefLeaf
import Derived.Test.YtbjbgdnjcppjhaaDoorRefRightP
import Derived.Test.YtbjbgdnjcppjhaaDoorRef04Fields

import Derived.Deep.Cut
import Derived.Deep.CutRange
namespace Go.Proofs.YtbjbgdnjcppjhaaDoor
open Go.RowKit Go.Sort
set_option linter.unusedVariables false
set_option linter.unusedSimpArgs false

set_option maxRecDepth 100000 in
set_option maxHeartbeats 16000000 in
/-- pintleref04.Right (P4.1) -/
theorem refRight_any (e : Ent) (h : e.wf) (w : World) :
    Calls Tryd.prog 14 #[e.val] w fun x w' => x = .returned (.bool (rightB e)) ∧ Below w.heap.size w w' := by
  have hval : e.val = .agg #[.int .u64 e.term, .int .u64 e.index, .int .i64 e.kind, .int .u64 e.client, .int .u64 e.seq, .int .u64 e.block, .int .u64 e.many, .int .i64 e.node, .int .i64 e.level, .string e.data, .string e.old] := rfl
  obtain ⟨q, hq⟩ : ∃ q : UInt8 → Bool, ∀ c, q c = (entL e.kind).contains c := ⟨_, fun _ => rfl⟩
  have hhas : ∀ (c : UInt8) W, Calls Tryd.prog 35 #[.string ⟨(entL e.kind).toArray⟩, .int .u8 c.toNat] W fun x w' => x = .returned (.bool (q c)) ∧ W = w' := fun c W => hq c ▸ (refHas_same (entL e.kind) (entL_len e.kind) c W).mono fun _ _ ⟨h1, h2⟩ => ⟨h1, h2.symm⟩
  have h99 : ∀ W, Calls Tryd.prog 35 #[.string ⟨(entL e.kind).toArray⟩, .int .u8 99] W fun x w' => x = .returned (.bool (q 99)) ∧ W = w' := fun W => hhas 99 W
  have h98 : ∀ W, Calls Tryd.prog 35 #[.string ⟨(entL e.kind).toArray⟩, .int .u8 98] W fun x w' => x = .returned (.bool (q 98)) ∧ W = w' := fun W => hhas 98 W
  have h109 : ∀ W, Calls Tryd.prog 35 #[.string ⟨(entL e.kind).toArray⟩, .int .u8 109] W fun x w' => x = .returned (.bool (q 109)) ∧ W = w' := fun W => hhas 109 W
  have h110 : ∀ W, Calls Tryd.prog 35 #[.string ⟨(entL e.kind).toArray⟩, .int .u8 110] W fun x w' => x = .returned (.bool (q 110)) ∧ W = w' := fun W => hhas 110 W
  have h108 : ∀ W, Calls Tryd.prog 35 #[.string ⟨(entL e.kind).toArray⟩, .int .u8 108] W fun x w' => x = .returned (.bool (q 108)) ∧ W = w' := fun W => hhas 108 W
  have h100 : ∀ W, Calls Tryd.prog 35 #[.string ⟨(entL e.kind).toArray⟩, .int .u8 100] W fun x w' => x = .returned (.bool (q 100)) ∧ W = w' := fun W => hhas 100 W
  have h111 : ∀ W, Calls Tryd.prog 35 #[.string ⟨(entL e.kind).toArray⟩, .int .u8 111] W fun x w' => x = .returned (.bool (q 111)) ∧ W = w' := fun W => hhas 111 W
  have H99 := Lib.hid h99
  have H98 := Lib.hid h98
  have H109 := Lib.hid h109
  have H110 := Lib.hid h110
  have H108 := Lib.hid h108
  have H100 := Lib.hid h100
  have H111 := Lib.hid h111
  have hR := rightB_asked e q hq
  clear hq
  clear hhas h99 h98 h109 h110 h108 h100 h111
  generalize hq99 : q 99 = q99 at *
  generalize hq98 : q 98 = q98 at *
  generalize hq109 : q 109 = q109 at *
  generalize hq110 : q 110 = q110 at *
  generalize hq108 : q 108 = q108 at *
  generalize hq100 : q 100 = q100 at *
  generalize hq111 : q 111 = q111 at *
  try simp only [hq99, hq98, hq109, hq110, hq108, hq100, hq111] at hR
  clear hq99 hq98 hq109 hq110 hq108 hq100 hq111
  generalize rightB e = r at *
  have HR := Lib.hid hR
  clear hR
  rw [hval]
  obtain ⟨⟨t0, t1⟩, ⟨i0, i1⟩, ⟨k0, k1⟩, ⟨c0, c1⟩, ⟨s0, s1⟩, ⟨b0, b1⟩, ⟨m0, m1⟩, ⟨n0, n1⟩, ⟨l0, l1⟩, d0, o0⟩ := h
  clear hval
  go_enter Tryd.func14, Tryd.ntmps14
  go_wp2_with fail
  refine (refFields_any _ _).mono ?_
  rintro x w1 ⟨rfl, hb1⟩
  have he1 : EntAt w1 w.heap.size 0 e := (entAt_new w e 26).below hb1
  have hb01 : Below w.heap.size w w1 := ((Below.refl _ _).alloc (Nat.le_refl _) _).trans (hb1.mono (by simp))
  have HB01 := Lib.hid hb01
  have HE1 := Lib.hid he1
  obtain ⟨a0, a1, a2, a3, a4, a5, a6, a7, a8, a9, a10⟩ := he1
  simp only [Nat.zero_add] at a1 a2 a3 a4 a5 a6 a7 a8 a9 a10
  clear hb1 hb01
  cases hk : entOk e.kind
  · have HK := Lib.hid hk
    clear hk
    go_wp2_with fail
    go_ret
    exact ⟨congrArg (fun b => Ending.returned (Value.bool b)) (show false = r from by rw [HR.out, HK.out]; simp), HB01.out⟩
  have HK := Lib.hid hk
  clear hk
  by_cases x1 : e.term < 1
  · go_wp2_with fail
    go_ret
    exact ⟨congrArg (fun b => Ending.returned (Value.bool b)) (show false = r from by rw [HR.out, decide_eq_false (show ¬ 0 < e.term by omega)]; simp), HB01.out⟩
  by_cases x2 : e.index < 1
  · go_wp2_with fail
    go_ret
    exact ⟨congrArg (fun b => Ending.returned (Value.bool b)) (show false = r from by rw [HR.out, decide_eq_false (show ¬ 0 < e.index by omega)]; simp), HB01.out⟩
  by_cases y1 : 64 < e.data.size
  · go_wp2_with fail
    go_ret
    exact ⟨congrArg (fun b => Ending.returned (Value.bool b)) (show false = r from by rw [HR.out, bigB, decide_eq_true y1]; simp), HB01.out⟩
  by_cases y2 : 64 < e.old.size
  · go_wp2_with fail
    go_ret
    exact ⟨congrArg (fun b => Ending.returned (Value.bool b)) (show false = r from by rw [HR.out, bigB, decide_eq_true y2]; simp), HB01.out⟩
  by_cases y3 : 4294967296 ≤ e.block
  · go_wp2_with fail
    go_ret
    exact ⟨congrArg (fun b => Ending.returned (Value.bool b)) (show false = r from by rw [HR.out, bigB, decide_eq_true y3]; simp), HB01.out⟩
  by_cases y4 : 4294967296 ≤ e.many
  · go_wp2_with fail
    go_ret
    exact ⟨congrArg (fun b => Ending.returned (Value.bool b)) (show false = r from by rw [HR.out, bigB, decide_eq_true y4]; simp), HB01.out⟩
  have hr2 : r = (!askC q99 e.client e.seq && !askBMDO e q98 q109 q100 q111 && !askN q110 e.node && askL q108 e.level) := by
    rw [HR.out, HK.out, bigB, decide_eq_true (show 0 < e.term by omega), decide_eq_true (show 0 < e.index by omega), decide_eq_false y1, decide_eq_false y2, decide_eq_false y3, decide_eq_false y4]
    rfl
  have HR2 := Lib.hid hr2
  clear hr2 HR HK
  go_upto_region 4 with fail
  clear y1 y2 y3 y4 x1 x2
  go_cut [60] from 45 to 59 (fun s wx => s = .bool (askC q99 e.client e.seq) ∧ Below w1.heap.size w1 wx)
  case first =>
    have g3 := cell_regrown a3
    have g4 := cell_regrown a4
    have e99 := H99.out
    clear a0 a1 a2 a5 a6 a7 a8 a9 a10
    cases q99
    case false =>
      by_cases z1 : 0 < e.client
      · skip
        refine wp_region_quiet_below (by kernel_rfl) (by kernel_rfl) ?_
        repeat (go_big_quiet_step ((go_at_call 35; exact meet_same e99)))
        refine wpQuiet_nil ?_
        intro u hu
        obtain ⟨p, hu⟩ := hu
        have hbu := below_regrown w1 p.d p.os
        rw [← hu] at hbu
        clear hu
        go_wp2_with fail
        go_meet
        exact ⟨congrArg Value.bool (by simp [askC, z1]), hbu⟩
      · skip
        by_cases z2 : 0 < e.seq
        · skip
          refine wp_region_quiet_below (by kernel_rfl) (by kernel_rfl) ?_
          repeat (go_big_quiet_step ((go_at_call 35; exact meet_same e99)))
          refine wpQuiet_nil ?_
          intro u hu
          obtain ⟨p, hu⟩ := hu
          have hbu := below_regrown w1 p.d p.os
          rw [← hu] at hbu
          clear hu
          go_wp2_with fail
          go_meet
          exact ⟨congrArg Value.bool (by simp [askC, z1, z2]), hbu⟩
        · skip
          refine wp_region_quiet_below (by kernel_rfl) (by kernel_rfl) ?_
          repeat (go_big_quiet_step ((go_at_call 35; exact meet_same e99)))
          refine wpQuiet_nil ?_
          intro u hu
          obtain ⟨p, hu⟩ := hu
          have hbu := below_regrown w1 p.d p.os
          rw [← hu] at hbu
          clear hu
          go_wp2_with fail
          go_meet
          exact ⟨congrArg Value.bool (by simp [askC, z1, z2]), hbu⟩
    case true =>
      by_cases z1 : 0 < e.client
      · skip
        refine wp_region_quiet_below (by kernel_rfl) (by kernel_rfl) ?_
        repeat (go_big_quiet_step ((go_at_call 35; exact meet_same e99)))
        refine wpQuiet_nil ?_
        intro u hu
        obtain ⟨p, hu⟩ := hu
        have hbu := below_regrown w1 p.d p.os
        rw [← hu] at hbu
        clear hu
        go_wp2_with fail
        go_meet
        exact ⟨congrArg Value.bool (by simp [askC, z1]), hbu⟩
      · skip
        refine wp_region_quiet_below (by kernel_rfl) (by kernel_rfl) ?_
        repeat (go_big_quiet_step ((go_at_call 35; exact meet_same e99)))
        refine wpQuiet_nil ?_
        intro u hu
        obtain ⟨p, hu⟩ := hu
        have hbu := below_regrown w1 p.d p.os
        rw [← hu] at hbu
        clear hu
        go_wp2_with fail
        go_meet
        exact ⟨congrArg Value.bool (by simp [askC, z1]), hbu⟩
  case rest =>
  obtain ⟨rfl, hb4⟩ := hcut
  have HB4 := Lib.hid hb4
  clear a0 a1 a2 a3 a4 a5 a6 a7 a8 a9 a10
  obtain ⟨a0, a1, a2, a3, a4, a5, a6, a7, a8, a9, a10⟩ := HE1.out.below hb4
  simp only [Nat.zero_add] at a1 a2 a3 a4 a5 a6 a7 a8 a9 a10
  clear hb4
  generalize askC q99 e.client e.seq = vC at *
  cases vC
  case true =>
    go_wp2_with fail
    go_ret
    exact ⟨congrArg (fun b => Ending.returned (Value.bool b)) (show false = r from by rw [HR2.out]; rfl), HB01.out.trans (HB4.out.mono HB01.out.size)⟩
  go_upto_region 6 with fail
  go_cut [98] from 61 to 97 (fun s wx => s = .bool (askBMDO e q98 q109 q100 q111) ∧ Below w1.heap.size w1 wx)
  case first =>
    have e98 := H98.out
    have e109 := H109.out
    have e100 := H100.out
    have e111 := H111.out
    cases q98
    case false =>
      by_cases z0 : 0 < e.block
      · skip
        go_wp2_with (first | (go_at_call 35; with_reducible refine (e98 _).mono ?_; rintro _ _ ⟨rfl, rfl⟩) | (go_at_call 35; with_reducible refine (e109 _).mono ?_; rintro _ _ ⟨rfl, rfl⟩) | (go_at_call 35; with_reducible refine (e100 _).mono ?_; rintro _ _ ⟨rfl, rfl⟩) | (go_at_call 35; with_reducible refine (e111 _).mono ?_; rintro _ _ ⟨rfl, rfl⟩))
        go_meet
        exact ⟨congrArg Value.bool (by simp [askBMDO, z0]), HB4.out⟩
      · skip
        cases q109
        case false =>
          by_cases z1 : 0 < e.many
          · skip
            go_wp2_with (first | (go_at_call 35; with_reducible refine (e98 _).mono ?_; rintro _ _ ⟨rfl, rfl⟩) | (go_at_call 35; with_reducible refine (e109 _).mono ?_; rintro _ _ ⟨rfl, rfl⟩) | (go_at_call 35; with_reducible refine (e100 _).mono ?_; rintro _ _ ⟨rfl, rfl⟩) | (go_at_call 35; with_reducible refine (e111 _).mono ?_; rintro _ _ ⟨rfl, rfl⟩))
            go_meet
            exact ⟨congrArg Value.bool (by simp [askBMDO, z0, z1]), HB4.out⟩
          · skip
            cases q100
            case false =>
              by_cases z2 : e.data.size = 0
              · have y2 := emptyR z2
                have Z2 := Lib.hid z2
                clear z2
                cases q111
                case false =>
                  by_cases z3 : e.old.size = 0
                  · have y3 := emptyR z3
                    have Z3 := Lib.hid z3
                    clear z3
                    go_wp2_with (first | (go_at_call 35; with_reducible refine (e98 _).mono ?_; rintro _ _ ⟨rfl, rfl⟩) | (go_at_call 35; with_reducible refine (e109 _).mono ?_; rintro _ _ ⟨rfl, rfl⟩) | (go_at_call 35; with_reducible refine (e100 _).mono ?_; rintro _ _ ⟨rfl, rfl⟩) | (go_at_call 35; with_reducible refine (e111 _).mono ?_; rintro _ _ ⟨rfl, rfl⟩))
                    go_meet
                    exact ⟨congrArg Value.bool (by simp [askBMDO, z0, z1, Z2.out, Z3.out]), HB4.out⟩
                  · have y3 := fullR z3
                    have Z3 := Lib.hid z3
                    clear z3
                    go_wp2_with (first | (go_at_call 35; with_reducible refine (e98 _).mono ?_; rintro _ _ ⟨rfl, rfl⟩) | (go_at_call 35; with_reducible refine (e109 _).mono ?_; rintro _ _ ⟨rfl, rfl⟩) | (go_at_call 35; with_reducible refine (e100 _).mono ?_; rintro _ _ ⟨rfl, rfl⟩) | (go_at_call 35; with_reducible refine (e111 _).mono ?_; rintro _ _ ⟨rfl, rfl⟩))
                    go_meet
                    exact ⟨congrArg Value.bool (by simp [askBMDO, z0, z1, Z2.out, Z3.out]), HB4.out⟩
                case true =>
                  go_wp2_with (first | (go_at_call 35; with_reducible refine (e98 _).mono ?_; rintro _ _ ⟨rfl, rfl⟩) | (go_at_call 35; with_reducible refine (e109 _).mono ?_; rintro _ _ ⟨rfl, rfl⟩) | (go_at_call 35; with_reducible refine (e100 _).mono ?_; rintro _ _ ⟨rfl, rfl⟩) | (go_at_call 35; with_reducible refine (e111 _).mono ?_; rintro _ _ ⟨rfl, rfl⟩))
                  go_meet
                  exact ⟨congrArg Value.bool (by simp [askBMDO, z0, z1, Z2.out]), HB4.out⟩
              · have y2 := fullR z2
                have Z2 := Lib.hid z2
                clear z2
                go_wp2_with (first | (go_at_call 35; with_reducible refine (e98 _).mono ?_; rintro _ _ ⟨rfl, rfl⟩) | (go_at_call 35; with_reducible refine (e109 _).mono ?_; rintro _ _ ⟨rfl, rfl⟩) | (go_at_call 35; with_reducible refine (e100 _).mono ?_; rintro _ _ ⟨rfl, rfl⟩) | (go_at_call 35; with_reducible refine (e111 _).mono ?_; rintro _ _ ⟨rfl, rfl⟩))
                go_meet
                exact ⟨congrArg Value.bool (by simp [askBMDO, z0, z1, Z2.out]), HB4.out⟩
            case true =>
              cases q111
              case false =>
                by_cases z3 : e.old.size = 0
                · have y3 := emptyR z3
                  have Z3 := Lib.hid z3
                  clear z3
                  go_wp2_with (first | (go_at_call 35; with_reducible refine (e98 _).mono ?_; rintro _ _ ⟨rfl, rfl⟩) | (go_at_call 35; with_reducible refine (e109 _).mono ?_; rintro _ _ ⟨rfl, rfl⟩) | (go_at_call 35; with_reducible refine (e100 _).mono ?_; rintro _ _ ⟨rfl, rfl⟩) | (go_at_call 35; with_reducible refine (e111 _).mono ?_; rintro _ _ ⟨rfl, rfl⟩))
                  go_meet
                  exact ⟨congrArg Value.bool (by simp [askBMDO, z0, z1, Z3.out]), HB4.out⟩
                · have y3 := fullR z3
                  have Z3 := Lib.hid z3
                  clear z3
                  go_wp2_with (first | (go_at_call 35; with_reducible refine (e98 _).mono ?_; rintro _ _ ⟨rfl, rfl⟩) | (go_at_call 35; with_reducible refine (e109 _).mono ?_; rintro _ _ ⟨rfl, rfl⟩) | (go_at_call 35; with_reducible refine (e100 _).mono ?_; rintro _ _ ⟨rfl, rfl⟩) | (go_at_call 35; with_reducible refine (e111 _).mono ?_; rintro _ _ ⟨rfl, rfl⟩))
                  go_meet
                  exact ⟨congrArg Value.bool (by simp [askBMDO, z0, z1, Z3.out]), HB4.out⟩
              case true =>
                go_wp2_with (first | (go_at_call 35; with_reducible refine (e98 _).mono ?_; rintro _ _ ⟨rfl, rfl⟩) | (go_at_call 35; with_reducible refine (e109 _).mono ?_; rintro _ _ ⟨rfl, rfl⟩) | (go_at_call 35; with_reducible refine (e100 _).mono ?_; rintro _ _ ⟨rfl, rfl⟩) | (go_at_call 35; with_reducible refine (e111 _).mono ?_; rintro _ _ ⟨rfl, rfl⟩))
                go_meet
                exact ⟨congrArg Value.bool (by simp [askBMDO, z0, z1]), HB4.out⟩
        case true =>
          cases q100
          case false =>
            by_cases z2 : e.data.size = 0
            · have y2 := emptyR z2
              have Z2 := Lib.hid z2
              clear z2
              cases q111
              case false =>
                by_cases z3 : e.old.size = 0
                · have y3 := emptyR z3
                  have Z3 := Lib.hid z3
                  clear z3
                  go_wp2_with (first | (go_at_call 35; with_reducible refine (e98 _).mono ?_; rintro _ _ ⟨rfl, rfl⟩) | (go_at_call 35; with_reducible refine (e109 _).mono ?_; rintro _ _ ⟨rfl, rfl⟩) | (go_at_call 35; with_reducible refine (e100 _).mono ?_; rintro _ _ ⟨rfl, rfl⟩) | (go_at_call 35; with_reducible refine (e111 _).mono ?_; rintro _ _ ⟨rfl, rfl⟩))
                  go_meet
                  exact ⟨congrArg Value.bool (by simp [askBMDO, z0, Z2.out, Z3.out]), HB4.out⟩
                · have y3 := fullR z3
                  have Z3 := Lib.hid z3
                  clear z3
                  go_wp2_with (first | (go_at_call 35; with_reducible refine (e98 _).mono ?_; rintro _ _ ⟨rfl, rfl⟩) | (go_at_call 35; with_reducible refine (e109 _).mono ?_; rintro _ _ ⟨rfl, rfl⟩) | (go_at_call 35; with_reducible refine (e100 _).mono ?_; rintro _ _ ⟨rfl, rfl⟩) | (go_at_call 35; with_reducible refine (e111 _).mono ?_; rintro _ _ ⟨rfl, rfl⟩))
                  go_meet
                  exact ⟨congrArg Value.bool (by simp [askBMDO, z0, Z2.out, Z3.out]), HB4.out⟩
              case true =>
                go_wp2_with (first | (go_at_call 35; with_reducible refine (e98 _).mono ?_; rintro _ _ ⟨rfl, rfl⟩) | (go_at_call 35; with_reducible refine (e109 _).mono ?_; rintro _ _ ⟨rfl, rfl⟩) | (go_at_call 35; with_reducible refine (e100 _).mono ?_; rintro _ _ ⟨rfl, rfl⟩) | (go_at_call 35; with_reducible refine (e111 _).mono ?_; rintro _ _ ⟨rfl, rfl⟩))
                go_meet
                exact ⟨congrArg Value.bool (by simp [askBMDO, z0, Z2.out]), HB4.out⟩
            · have y2 := fullR z2
              have Z2 := Lib.hid z2
              clear z2
              go_wp2_with (first | (go_at_call 35; with_reducible refine (e98 _).mono ?_; rintro _ _ ⟨rfl, rfl⟩) | (go_at_call 35; with_reducible refine (e109 _).mono ?_; rintro _ _ ⟨rfl, rfl⟩) | (go_at_call 35; with_reducible refine (e100 _).mono ?_; rintro _ _ ⟨rfl, rfl⟩) | (go_at_call 35; with_reducible refine (e111 _).mono ?_; rintro _ _ ⟨rfl, rfl⟩))
              go_meet
              exact ⟨congrArg Value.bool (by simp [askBMDO, z0, Z2.out]), HB4.out⟩
          case true =>
            cases q111
            case false =>
              by_cases z3 : e.old.size = 0
              · have y3 := emptyR z3
                have Z3 := Lib.hid z3
                clear z3
                go_wp2_with (first | (go_at_call 35; with_reducible refine (e98 _).mono ?_; rintro _ _ ⟨rfl, rfl⟩) | (go_at_call 35; with_reducible refine (e109 _).mono ?_; rintro _ _ ⟨rfl, rfl⟩) | (go_at_call 35; with_reducible refine (e100 _).mono ?_; rintro _ _ ⟨rfl, rfl⟩) | (go_at_call 35; with_reducible refine (e111 _).mono ?_; rintro _ _ ⟨rfl, rfl⟩))
                go_meet
                exact ⟨congrArg Value.bool (by simp [askBMDO, z0, Z3.out]), HB4.out⟩
              · have y3 := fullR z3
                have Z3 := Lib.hid z3
                clear z3
                go_wp2_with (first | (go_at_call 35; with_reducible refine (e98 _).mono ?_; rintro _ _ ⟨rfl, rfl⟩) | (go_at_call 35; with_reducible refine (e109 _).mono ?_; rintro _ _ ⟨rfl, rfl⟩) | (go_at_call 35; with_reducible refine (e100 _).mono ?_; rintro _ _ ⟨rfl, rfl⟩) | (go_at_call 35; with_reducible refine (e111 _).mono ?_; rintro _ _ ⟨rfl, rfl⟩))
                go_meet
                exact ⟨congrArg Value.bool (by simp [askBMDO, z0, Z3.out]), HB4.out⟩
            case true =>
              go_wp2_with (first | (go_at_call 35; with_reducible refine (e98 _).mono ?_; rintro _ _ ⟨rfl, rfl⟩) | (go_at_call 35; with_reducible refine (e109 _).mono ?_; rintro _ _ ⟨rfl, rfl⟩) | (go_at_call 35; with_reducible refine (e100 _).mono ?_; rintro _ _ ⟨rfl, rfl⟩) | (go_at_call 35; with_reducible refine (e111 _).mono ?_; rintro _ _ ⟨rfl, rfl⟩))
              go_meet
              exact ⟨congrArg Value.bool (by simp [askBMDO, z0]), HB4.out⟩
    case true =>
      cases q109
      case false =>
        by_cases z1 : 0 < e.many
        · skip
          go_wp2_with (first | (go_at_call 35; with_reducible refine (e98 _).mono ?_; rintro _ _ ⟨rfl, rfl⟩) | (go_at_call 35; with_reducible refine (e109 _).mono ?_; rintro _ _ ⟨rfl, rfl⟩) | (go_at_call 35; with_reducible refine (e100 _).mono ?_; rintro _ _ ⟨rfl, rfl⟩) | (go_at_call 35; with_reducible refine (e111 _).mono ?_; rintro _ _ ⟨rfl, rfl⟩))
          go_meet
          exact ⟨congrArg Value.bool (by simp [askBMDO, z1]), HB4.out⟩
        · skip
          cases q100
          case false =>
            by_cases z2 : e.data.size = 0
            · have y2 := emptyR z2
              have Z2 := Lib.hid z2
              clear z2
              cases q111
              case false =>
                by_cases z3 : e.old.size = 0
                · have y3 := emptyR z3
                  have Z3 := Lib.hid z3
                  clear z3
                  go_wp2_with (first | (go_at_call 35; with_reducible refine (e98 _).mono ?_; rintro _ _ ⟨rfl, rfl⟩) | (go_at_call 35; with_reducible refine (e109 _).mono ?_; rintro _ _ ⟨rfl, rfl⟩) | (go_at_call 35; with_reducible refine (e100 _).mono ?_; rintro _ _ ⟨rfl, rfl⟩) | (go_at_call 35; with_reducible refine (e111 _).mono ?_; rintro _ _ ⟨rfl, rfl⟩))
                  go_meet
                  exact ⟨congrArg Value.bool (by simp [askBMDO, z1, Z2.out, Z3.out]), HB4.out⟩
                · have y3 := fullR z3
                  have Z3 := Lib.hid z3
                  clear z3
                  go_wp2_with (first | (go_at_call 35; with_reducible refine (e98 _).mono ?_; rintro _ _ ⟨rfl, rfl⟩) | (go_at_call 35; with_reducible refine (e109 _).mono ?_; rintro _ _ ⟨rfl, rfl⟩) | (go_at_call 35; with_reducible refine (e100 _).mono ?_; rintro _ _ ⟨rfl, rfl⟩) | (go_at_call 35; with_reducible refine (e111 _).mono ?_; rintro _ _ ⟨rfl, rfl⟩))
                  go_meet
                  exact ⟨congrArg Value.bool (by simp [askBMDO, z1, Z2.out, Z3.out]), HB4.out⟩
              case true =>
                go_wp2_with (first | (go_at_call 35; with_reducible refine (e98 _).mono ?_; rintro _ _ ⟨rfl, rfl⟩) | (go_at_call 35; with_reducible refine (e109 _).mono ?_; rintro _ _ ⟨rfl, rfl⟩) | (go_at_call 35; with_reducible refine (e100 _).mono ?_; rintro _ _ ⟨rfl, rfl⟩) | (go_at_call 35; with_reducible refine (e111 _).mono ?_; rintro _ _ ⟨rfl, rfl⟩))
                go_meet
                exact ⟨congrArg Value.bool (by simp [askBMDO, z1, Z2.out]), HB4.out⟩
            · have y2 := fullR z2
              have Z2 := Lib.hid z2
              clear z2
              go_wp2_with (first | (go_at_call 35; with_reducible refine (e98 _).mono ?_; rintro _ _ ⟨rfl, rfl⟩) | (go_at_call 35; with_reducible refine (e109 _).mono ?_; rintro _ _ ⟨rfl, rfl⟩) | (go_at_call 35; with_reducible refine (e100 _).mono ?_; rintro _ _ ⟨rfl, rfl⟩) | (go_at_call 35; with_reducible refine (e111 _).mono ?_; rintro _ _ ⟨rfl, rfl⟩))
              go_meet
              exact ⟨congrArg Value.bool (by simp [askBMDO, z1, Z2.out]), HB4.out⟩
          case true =>
            cases q111
            case false =>
              by_cases z3 : e.old.size = 0
              · have y3 := emptyR z3
                have Z3 := Lib.hid z3
                clear z3
                go_wp2_with (first | (go_at_call 35; with_reducible refine (e98 _).mono ?_; rintro _ _ ⟨rfl, rfl⟩) | (go_at_call 35; with_reducible refine (e109 _).mono ?_; rintro _ _ ⟨rfl, rfl⟩) | (go_at_call 35; with_reducible refine (e100 _).mono ?_; rintro _ _ ⟨rfl, rfl⟩) | (go_at_call 35; with_reducible refine (e111 _).mono ?_; rintro _ _ ⟨rfl, rfl⟩))
                go_meet
                exact ⟨congrArg Value.bool (by simp [askBMDO, z1, Z3.out]), HB4.out⟩
              · have y3 := fullR z3
                have Z3 := Lib.hid z3
                clear z3
                go_wp2_with (first | (go_at_call 35; with_reducible refine (e98 _).mono ?_; rintro _ _ ⟨rfl, rfl⟩) | (go_at_call 35; with_reducible refine (e109 _).mono ?_; rintro _ _ ⟨rfl, rfl⟩) | (go_at_call 35; with_reducible refine (e100 _).mono ?_; rintro _ _ ⟨rfl, rfl⟩) | (go_at_call 35; with_reducible refine (e111 _).mono ?_; rintro _ _ ⟨rfl, rfl⟩))
                go_meet
                exact ⟨congrArg Value.bool (by simp [askBMDO, z1, Z3.out]), HB4.out⟩
            case true =>
              go_wp2_with (first | (go_at_call 35; with_reducible refine (e98 _).mono ?_; rintro _ _ ⟨rfl, rfl⟩) | (go_at_call 35; with_reducible refine (e109 _).mono ?_; rintro _ _ ⟨rfl, rfl⟩) | (go_at_call 35; with_reducible refine (e100 _).mono ?_; rintro _ _ ⟨rfl, rfl⟩) | (go_at_call 35; with_reducible refine (e111 _).mono ?_; rintro _ _ ⟨rfl, rfl⟩))
              go_meet
              exact ⟨congrArg Value.bool (by simp [askBMDO, z1]), HB4.out⟩
      case true =>
        cases q100
        case false =>
          by_cases z2 : e.data.size = 0
          · have y2 := emptyR z2
            have Z2 := Lib.hid z2
            clear z2
            cases q111
            case false =>
              by_cases z3 : e.old.size = 0
              · have y3 := emptyR z3
                have Z3 := Lib.hid z3
                clear z3
                go_wp2_with (first | (go_at_call 35; with_reducible refine (e98 _).mono ?_; rintro _ _ ⟨rfl, rfl⟩) | (go_at_call 35; with_reducible refine (e109 _).mono ?_; rintro _ _ ⟨rfl, rfl⟩) | (go_at_call 35; with_reducible refine (e100 _).mono ?_; rintro _ _ ⟨rfl, rfl⟩) | (go_at_call 35; with_reducible refine (e111 _).mono ?_; rintro _ _ ⟨rfl, rfl⟩))
                go_meet
                exact ⟨congrArg Value.bool (by simp [askBMDO, Z2.out, Z3.out]), HB4.out⟩
              · have y3 := fullR z3
                have Z3 := Lib.hid z3
                clear z3
                go_wp2_with (first | (go_at_call 35; with_reducible refine (e98 _).mono ?_; rintro _ _ ⟨rfl, rfl⟩) | (go_at_call 35; with_reducible refine (e109 _).mono ?_; rintro _ _ ⟨rfl, rfl⟩) | (go_at_call 35; with_reducible refine (e100 _).mono ?_; rintro _ _ ⟨rfl, rfl⟩) | (go_at_call 35; with_reducible refine (e111 _).mono ?_; rintro _ _ ⟨rfl, rfl⟩))
                go_meet
                exact ⟨congrArg Value.bool (by simp [askBMDO, Z2.out, Z3.out]), HB4.out⟩
            case true =>
              go_wp2_with (first | (go_at_call 35; with_reducible refine (e98 _).mono ?_; rintro _ _ ⟨rfl, rfl⟩) | (go_at_call 35; with_reducible refine (e109 _).mono ?_; rintro _ _ ⟨rfl, rfl⟩) | (go_at_call 35; with_reducible refine (e100 _).mono ?_; rintro _ _ ⟨rfl, rfl⟩) | (go_at_call 35; with_reducible refine (e111 _).mono ?_; rintro _ _ ⟨rfl, rfl⟩))
              go_meet
              exact ⟨congrArg Value.bool (by simp [askBMDO, Z2.out]), HB4.out⟩
          · have y2 := fullR z2
            have Z2 := Lib.hid z2
            clear z2
            go_wp2_with (first | (go_at_call 35; with_reducible refine (e98 _).mono ?_; rintro _ _ ⟨rfl, rfl⟩) | (go_at_call 35; with_reducible refine (e109 _).mono ?_; rintro _ _ ⟨rfl, rfl⟩) | (go_at_call 35; with_reducible refine (e100 _).mono ?_; rintro _ _ ⟨rfl, rfl⟩) | (go_at_call 35; with_reducible refine (e111 _).mono ?_; rintro _ _ ⟨rfl, rfl⟩))
            go_meet
            exact ⟨congrArg Value.bool (by simp [askBMDO, Z2.out]), HB4.out⟩
        case true =>
          cases q111
          case false =>
            by_cases z3 : e.old.size = 0
            · have y3 := emptyR z3
              have Z3 := Lib.hid z3
              clear z3
              go_wp2_with (first | (go_at_call 35; with_reducible refine (e98 _).mono ?_; rintro _ _ ⟨rfl, rfl⟩) | (go_at_call 35; with_reducible refine (e109 _).mono ?_; rintro _ _ ⟨rfl, rfl⟩) | (go_at_call 35; with_reducible refine (e100 _).mono ?_; rintro _ _ ⟨rfl, rfl⟩) | (go_at_call 35; with_reducible refine (e111 _).mono ?_; rintro _ _ ⟨rfl, rfl⟩))
              go_meet
              exact ⟨congrArg Value.bool (by simp [askBMDO, Z3.out]), HB4.out⟩
            · have y3 := fullR z3
              have Z3 := Lib.hid z3
              clear z3
              go_wp2_with (first | (go_at_call 35; with_reducible refine (e98 _).mono ?_; rintro _ _ ⟨rfl, rfl⟩) | (go_at_call 35; with_reducible refine (e109 _).mono ?_; rintro _ _ ⟨rfl, rfl⟩) | (go_at_call 35; with_reducible refine (e100 _).mono ?_; rintro _ _ ⟨rfl, rfl⟩) | (go_at_call 35; with_reducible refine (e111 _).mono ?_; rintro _ _ ⟨rfl, rfl⟩))
              go_meet
              exact ⟨congrArg Value.bool (by simp [askBMDO, Z3.out]), HB4.out⟩
          case true =>
            go_wp2_with (first | (go_at_call 35; with_reducible refine (e98 _).mono ?_; rintro _ _ ⟨rfl, rfl⟩) | (go_at_call 35; with_reducible refine (e109 _).mono ?_; rintro _ _ ⟨rfl, rfl⟩) | (go_at_call 35; with_reducible refine (e100 _).mono ?_; rintro _ _ ⟨rfl, rfl⟩) | (go_at_call 35; with_reducible refine (e111 _).mono ?_; rintro _ _ ⟨rfl, rfl⟩))
            go_meet
            exact ⟨congrArg Value.bool (by simp [askBMDO]), HB4.out⟩
  case rest =>
  obtain ⟨rfl, hb6⟩ := hcut
  have HB6 := Lib.hid hb6
  clear a0 a1 a2 a3 a4 a5 a6 a7 a8 a9 a10
  obtain ⟨a0, a1, a2, a3, a4, a5, a6, a7, a8, a9, a10⟩ := HE1.out.below hb6
  simp only [Nat.zero_add] at a1 a2 a3 a4 a5 a6 a7 a8 a9 a10
  clear hb6 HB4
  generalize askBMDO e q98 q109 q100 q111 = vB at *
  cases vB
  case true =>
    go_wp2_with fail
    go_ret
    exact ⟨congrArg (fun b => Ending.returned (Value.bool b)) (show false = r from by rw [HR2.out]; rfl), HB01.out.trans (HB6.out.mono HB01.out.size)⟩
  go_upto_region 8 with fail
  go_cut [120] from 99 to 119 (fun s wx => s = .bool (askN q110 e.node) ∧ Below w1.heap.size w1 wx)
  case first =>
    have e110 := H110.out
    cases q110
    case false =>
      by_cases z1 : e.node = 0
      · have z2 : (e.node == 0) = true := by rw [z1]; rfl
        have Z1 := Lib.hid z1
        clear z1
        go_wp2_with (first | (go_at_call 35; with_reducible refine (e110 _).mono ?_; rintro _ _ ⟨rfl, rfl⟩))
        go_meet
        exact ⟨congrArg Value.bool (by simp [askN, Z1.out]), HB6.out⟩
      · have z2 : (e.node == 0) = false := by simpa using z1
        go_wp2_with (first | (go_at_call 35; with_reducible refine (e110 _).mono ?_; rintro _ _ ⟨rfl, rfl⟩))
        go_meet
        exact ⟨congrArg Value.bool (by simp [askN, z1]), HB6.out⟩
    case true =>
      by_cases z1 : e.node < 1
      · skip
        go_wp2_with (first | (go_at_call 35; with_reducible refine (e110 _).mono ?_; rintro _ _ ⟨rfl, rfl⟩))
        go_meet
        exact ⟨congrArg Value.bool (by simp [askN, z1]), HB6.out⟩
      by_cases z2 : 7 < e.node
      · skip
        go_wp2_with (first | (go_at_call 35; with_reducible refine (e110 _).mono ?_; rintro _ _ ⟨rfl, rfl⟩))
        go_meet
        exact ⟨congrArg Value.bool (by simp [askN, z1, z2]), HB6.out⟩
      · skip
        go_wp2_with (first | (go_at_call 35; with_reducible refine (e110 _).mono ?_; rintro _ _ ⟨rfl, rfl⟩))
        go_meet
        exact ⟨congrArg Value.bool (by simp [askN, z1, z2]), HB6.out⟩
  case rest =>
  obtain ⟨rfl, hb8⟩ := hcut
  have HB8 := Lib.hid hb8
  clear a0 a1 a2 a3 a4 a5 a6 a7 a8 a9 a10
  obtain ⟨a0, a1, a2, a3, a4, a5, a6, a7, a8, a9, a10⟩ := HE1.out.below hb8
  simp only [Nat.zero_add] at a1 a2 a3 a4 a5 a6 a7 a8 a9 a10
  clear hb8 HB6
  generalize askN q110 e.node = vN at *
  cases vN
  case true =>
    go_wp2_with fail
    go_ret
    exact ⟨congrArg (fun b => Ending.returned (Value.bool b)) (show false = r from by rw [HR2.out]; rfl), HB01.out.trans (HB8.out.mono HB01.out.size)⟩
  have e108 := H108.out
  cases q108
  case false =>
    by_cases z1 : e.level = 0
    · have z2 : (e.level == 0) = true := by rw [z1]; rfl
      go_wp2_with (first | (go_at_call 35; with_reducible refine (e108 _).mono ?_; rintro _ _ ⟨rfl, rfl⟩))
      go_ret
      exact ⟨congrArg (fun b => Ending.returned (Value.bool b)) (show true = r from by rw [HR2.out, askL, z1]; rfl), HB01.out.trans (HB8.out.mono HB01.out.size)⟩
    · have z2 : (e.level == 0) = false := by simpa using z1
      go_wp2_with (first | (go_at_call 35; with_reducible refine (e108 _).mono ?_; rintro _ _ ⟨rfl, rfl⟩))
      go_ret
      exact ⟨congrArg (fun b => Ending.returned (Value.bool b)) (show false = r from by rw [HR2.out, askL, decide_eq_false z1]; rfl), HB01.out.trans (HB8.out.mono HB01.out.size)⟩
  case true =>
    by_cases z1 : e.level = 1
    · have z2 : (e.level == 1) = true := by rw [z1]; rfl
      go_wp2_with (first | (go_at_call 35; with_reducible refine (e108 _).mono ?_; rintro _ _ ⟨rfl, rfl⟩))
      go_ret
      exact ⟨congrArg (fun b => Ending.returned (Value.bool b)) (show true = r from by rw [HR2.out, askL, z1]; rfl), HB01.out.trans (HB8.out.mono HB01.out.size)⟩
    have y1 : (e.level == 1) = false := by simpa using z1
    by_cases z3 : e.level = 2
    · have z2 : (e.level == 2) = true := by rw [z3]; rfl
      go_wp2_with (first | (go_at_call 35; with_reducible refine (e108 _).mono ?_; rintro _ _ ⟨rfl, rfl⟩))
      go_ret
      exact ⟨congrArg (fun b => Ending.returned (Value.bool b)) (show true = r from by rw [HR2.out, askL, z3]; rfl), HB01.out.trans (HB8.out.mono HB01.out.size)⟩
    · have z2 : (e.level == 2) = false := by simpa using z3
      go_wp2_with (first | (go_at_call 35; with_reducible refine (e108 _).mono ?_; rintro _ _ ⟨rfl, rfl⟩))
      go_ret
      exact ⟨congrArg (fun b => Ending.returned (Value.bool b)) (show false = r from by rw [HR2.out, askL, decide_eq_false z1, decide_eq_false z3]; rfl), HB01.out.trans (HB8.out.mono HB01.out.size)⟩

end Go.Proofs.YtbjbgdnjcppjhaaDoor
