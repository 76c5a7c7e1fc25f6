/-
  entry.MsgSame over this translation. Conditions: the messages are fine (numbers of their kinds, texts of at most 2^20 bytes, at most 2^20 entries); the table of the powers of ten reads as the program lays it. By an AI agent.
-/
import Derived.Test.YtbjbgdnjcppjhaaGreatDoorEqEnts
import Derived.Test.YtbjbgdnjcppjhaaGreatDoorMsgText
import Derived.Test.YtbjbgdnjcppjhaaGreatDoorNoteP
namespace Go.Proofs.YtbjbgdnjcppjhaaGreatDoor
open Go.RowKit Go.Sort
set_option linter.unusedVariables false
set_option linter.unusedSimpArgs false

set_option maxRecDepth 100000 in
set_option maxHeartbeats 16000000 in
theorem msgSame_any (a b : Msg) (s1 s2 : Value) (ha : a.fine) (hb : b.fine) (w : World) (ht : Tabs w) (h1 : EntsAt w s1 a.entries) (h2 : EntsAt w s2 b.entries) :
    Calls Tryz.prog 15 #[.agg (a.cells s1), .agg (b.cells s2)] w fun x w' => x = .returned (.bool (msgSameB a b)) ∧ Below w.heap.size w w' := by
  have hr := msgSame_asked a b ha.wf.term.1 hb.wf.term.1
  have hs1 : ∃ sa ca, s1 = .slice sa a.entries.length ca := by obtain ⟨x, c, h, _⟩ := h1; exact ⟨x, c, h⟩
  have hs2 : ∃ sb cb, s2 = .slice sb b.entries.length cb := by obtain ⟨x, c, h, _⟩ := h2; exact ⟨x, c, h⟩
  obtain ⟨sa, ca, rfl⟩ := hs1
  obtain ⟨sb, cb, rfl⟩ := hs2
  have hta : ∀ W, Tabs W → Below w.heap.size w W → Calls Tryz.prog 49 #[.agg #[.int .i64 a.kind, .int .i64 a.frm, .int .i64 a.to, .int .u64 a.term, .int .u64 a.index, .int .u64 a.prev, .int .u64 a.commit, .int .u64 a.mark, .bool a.ok, .slice sa a.entries.length ca, .string a.snap]] W fun x W' => x = .returned (.string ⟨(msgTextL a).toArray⟩) ∧ Below W.heap.size W W' := fun W hW hb => msgText_any a _ ha W hW (h1.below hb)
  have htb : ∀ W, Tabs W → Below w.heap.size w W → Calls Tryz.prog 49 #[.agg #[.int .i64 b.kind, .int .i64 b.frm, .int .i64 b.to, .int .u64 b.term, .int .u64 b.index, .int .u64 b.prev, .int .u64 b.commit, .int .u64 b.mark, .bool b.ok, .slice sb b.entries.length cb, .string b.snap]] W fun x W' => x = .returned (.string ⟨(msgTextL b).toArray⟩) ∧ Below W.heap.size W W' := fun W hW hb' => msgText_any b _ hb W hW (h2.below hb')
  have heq : ∀ W, Below w.heap.size w W → Calls Tryz.prog 48 #[.slice sa a.entries.length ca, .slice sb b.entries.length cb] W fun x W' => x = .returned (.bool (entsB a.entries b.entries)) ∧ Below W.heap.size W W' := fun W hW => equalEnt_any _ _ _ _ ha.count hb.count W (h1.below hW) (h2.below hW)
  generalize entsB a.entries b.entries = ve at *
  generalize msgTextL a = ta at *
  generalize msgTextL b = tb at *
  generalize msgSameB a b = r at *
  have HR := Lib.hid hr
  have HTA := Lib.hid hta
  have HTB := Lib.hid htb
  have HEQ := Lib.hid heq
  clear hr hta htb heq h1 h2 ha hb
  simp only [Msg.cells]
  go_enter Tryz.func15, Tryz.ntmps15
  have hAB : Below w.heap.size w ((w.alloc (.cells #[.int .i64 a.kind, .int .i64 a.frm, .int .i64 a.to, .int .u64 a.term, .int .u64 a.index, .int .u64 a.prev, .int .u64 a.commit, .int .u64 a.mark, .bool a.ok, .slice sa a.entries.length ca, .string a.snap] 26)).alloc (.cells #[.int .i64 b.kind, .int .i64 b.frm, .int .i64 b.to, .int .u64 b.term, .int .u64 b.index, .int .u64 b.prev, .int .u64 b.commit, .int .u64 b.mark, .bool b.ok, .slice sb b.entries.length cb, .string b.snap] 26)) := ((Below.refl _ _).alloc (Nat.le_refl _) _).alloc (by simp) _
  have hA0 : MsgAt ((w.alloc (.cells #[.int .i64 a.kind, .int .i64 a.frm, .int .i64 a.to, .int .u64 a.term, .int .u64 a.index, .int .u64 a.prev, .int .u64 a.commit, .int .u64 a.mark, .bool a.ok, .slice sa a.entries.length ca, .string a.snap] 26)).alloc (.cells #[.int .i64 b.kind, .int .i64 b.frm, .int .i64 b.to, .int .u64 b.term, .int .u64 b.index, .int .u64 b.prev, .int .u64 b.commit, .int .u64 b.mark, .bool b.ok, .slice sb b.entries.length cb, .string b.snap] 26)) w.heap.size a (.slice sa a.entries.length ca) := (msgAt_block (r := []) (heap_alloc_new w (.cells (a.cells (.slice sa a.entries.length ca)) 26))).below ((Below.refl _ _).alloc (Nat.le_refl _) _)
  have hB0 : MsgAt ((w.alloc (.cells #[.int .i64 a.kind, .int .i64 a.frm, .int .i64 a.to, .int .u64 a.term, .int .u64 a.index, .int .u64 a.prev, .int .u64 a.commit, .int .u64 a.mark, .bool a.ok, .slice sa a.entries.length ca, .string a.snap] 26)).alloc (.cells #[.int .i64 b.kind, .int .i64 b.frm, .int .i64 b.to, .int .u64 b.term, .int .u64 b.index, .int .u64 b.prev, .int .u64 b.commit, .int .u64 b.mark, .bool b.ok, .slice sb b.entries.length cb, .string b.snap] 26)) (w.heap.size + 1) b (.slice sb b.entries.length cb) := by
    have h := heap_alloc_new (w.alloc (.cells #[.int .i64 a.kind, .int .i64 a.frm, .int .i64 a.to, .int .u64 a.term, .int .u64 a.index, .int .u64 a.prev, .int .u64 a.commit, .int .u64 a.mark, .bool a.ok, .slice sa a.entries.length ca, .string a.snap] 26)) (.cells (b.cells (.slice sb b.entries.length cb)) 26)
    simp only [World.size_alloc] at h
    exact msgAt_block (r := []) h
  have HAB := Lib.hid hAB
  have HA0 := Lib.hid hA0
  have HB0 := Lib.hid hB0
  clear hAB hA0 hB0
  go_wp2_with fail
  refine (HEQ.out _ HAB.out).mono ?_
  rintro x w1 ⟨rfl, hb1⟩
  have hA := HA0.out.below hb1
  have hB := HB0.out.below hb1
  have hb01 := HAB.out.trans (hb1.mono HAB.out.size)
  have ht1 := ht.next hb01
  have HB01 := Lib.hid hb01
  have HT1 := Lib.hid ht1
  clear hb1 hb01 ht1 HA0 HB0 HAB HEQ
  cases ve
  · go_wp2_with fail
    go_ret
    exact ⟨by rw [HR.out]; rfl, HB01.out⟩
  have hta : ∀ U, Below w1.heap.size w1 U → Calls Tryz.prog 49 #[.agg #[.int .i64 a.kind, .int .i64 a.frm, .int .i64 a.to, .int .u64 a.term, .int .u64 a.index, .int .u64 a.prev, .int .u64 a.commit, .int .u64 a.mark, .bool a.ok, .slice sa a.entries.length ca, .string a.snap]] U fun x W' => x = .returned (.string ⟨ta.toArray⟩) ∧ Below U.heap.size U W' := fun U hU => HTA.out U (HT1.out.next hU) (HB01.out.trans (hU.mono HB01.out.size))
  have htb : ∀ U, Below w1.heap.size w1 U → Calls Tryz.prog 49 #[.agg #[.int .i64 b.kind, .int .i64 b.frm, .int .i64 b.to, .int .u64 b.term, .int .u64 b.index, .int .u64 b.prev, .int .u64 b.commit, .int .u64 b.mark, .bool b.ok, .slice sb b.entries.length cb, .string b.snap]] U fun x W' => x = .returned (.string ⟨tb.toArray⟩) ∧ Below U.heap.size U W' := fun U hU => HTB.out U (HT1.out.next hU) (HB01.out.trans (hU.mono HB01.out.size))
  clear HTA HTB
  obtain ⟨a0, a1, a2, a3, a4, a5, a6, a7, a8, a9, a10⟩ := hA
  obtain ⟨b0, b1, b2, b3, b4, b5, b6, b7, b8, b9, b10⟩ := hB
  generalize hva : Value.agg #[.int .i64 a.kind, .int .i64 a.frm, .int .i64 a.to, .int .u64 a.term, .int .u64 a.index, .int .u64 a.prev, .int .u64 a.commit, .int .u64 a.mark, .bool a.ok, .slice sa a.entries.length ca, .string a.snap] = za at *
  generalize hvb : Value.agg #[.int .i64 b.kind, .int .i64 b.frm, .int .i64 b.to, .int .u64 b.term, .int .u64 b.index, .int .u64 b.prev, .int .u64 b.commit, .int .u64 b.mark, .bool b.ok, .slice sb b.entries.length cb, .string b.snap] = zb at *
  have d0 := cell_regrown a0
  have g0 := cell_regrown b0
  have d1 := cell_regrown a1
  have g1 := cell_regrown b1
  have d2 := cell_regrown a2
  have g2 := cell_regrown b2
  have d3 := cell_regrown a3
  have g3 := cell_regrown b3
  have d4 := cell_regrown a4
  have g4 := cell_regrown b4
  have d5 := cell_regrown a5
  have g5 := cell_regrown b5
  have d6 := cell_regrown a6
  have g6 := cell_regrown b6
  have d7 := cell_regrown a7
  have g7 := cell_regrown b7
  have d8 := cell_regrown a8
  have g8 := cell_regrown b8
  have d9 := cell_regrown a9
  have g9 := cell_regrown b9
  have d10 := cell_regrown a10
  have g10 := cell_regrown b10
  go_wp2_with fail
  by_cases htt : ta = tb
  · have qt : (ta == tb) = true := by rw [htt]; simp
    have HTT := Lib.hid htt
    clear htt
    by_cases hindex : a.index = b.index
    · have qindex : (a.index == b.index) = true := by rw [hindex]; simp
      have Hindex := Lib.hid hindex
      clear hindex
      by_cases hprev : a.prev = b.prev
      · have qprev : (a.prev == b.prev) = true := by rw [hprev]; simp
        have Hprev := Lib.hid hprev
        clear hprev
        by_cases hcommit : a.commit = b.commit
        · have qcommit : (a.commit == b.commit) = true := by rw [hcommit]; simp
          have Hcommit := Lib.hid hcommit
          clear hcommit
          by_cases hmark : a.mark = b.mark
          · have qmark : (a.mark == b.mark) = true := by rw [hmark]; simp
            have Hmark := Lib.hid hmark
            clear hmark
            by_cases hok : a.ok = b.ok
            · have qok : (a.ok == b.ok) = true := by rw [hok]; simp
              have Hok := Lib.hid hok
              clear hok
              by_cases hsnap : a.snap = b.snap
              · have qsnap : (a.snap.toList == b.snap.toList) = true := by rw [hsnap]; simp
                have Hsnap := Lib.hid hsnap
                clear hsnap
                refine wp_region_quiet_below (by kernel_rfl) (by kernel_rfl) ?_
                go_big_quiet_step (fail)
                go_big_quiet_step ((go_at_call 49; exact meetB fun U hb => hta U hb))
                go_big_quiet_step (fail)
                go_big_quiet_step ((go_at_call 49; exact meetB fun U hb => htb U hb))
                repeat (go_big_quiet_step (fail))
                refine wpQuiet_nil ?_
                intro u hu
                obtain ⟨p, hu⟩ := hu
                have hbu := below_regrown w1 p.d p.os
                rw [← hu] at hbu
                clear hu a0 b0 d0 g0 a1 b1 d1 g1 a2 b2 d2 g2 a3 b3 d3 g3 a4 b4 d4 g4 a5 b5 d5 g5 a6 b6 d6 g6 a7 b7 d7 g7 a8 b8 d8 g8 a9 b9 d9 g9 a10 b10 d10 g10
                go_wp2_with fail
                go_ret
                exact ⟨congrArg (fun z => Ending.returned (Value.bool z)) (show true = r from by rw [HR.out]; simp [fldsB, HTT.out, Hindex.out, Hprev.out, Hcommit.out, Hmark.out, Hok.out, Hsnap.out]), HB01.out.trans (hbu.mono HB01.out.size)⟩
              · have qsnap : (a.snap.toList == b.snap.toList) = false := beq_eq_false_iff_ne.2 fun g => hsnap ((bytes_ext _ _).1 g)
                have Hsnap := Lib.hid hsnap
                clear hsnap
                refine wp_region_quiet_below (by kernel_rfl) (by kernel_rfl) ?_
                go_big_quiet_step (fail)
                go_big_quiet_step ((go_at_call 49; exact meetB fun U hb => hta U hb))
                go_big_quiet_step (fail)
                go_big_quiet_step ((go_at_call 49; exact meetB fun U hb => htb U hb))
                repeat (go_big_quiet_step (fail))
                refine wpQuiet_nil ?_
                intro u hu
                obtain ⟨p, hu⟩ := hu
                have hbu := below_regrown w1 p.d p.os
                rw [← hu] at hbu
                clear hu a0 b0 d0 g0 a1 b1 d1 g1 a2 b2 d2 g2 a3 b3 d3 g3 a4 b4 d4 g4 a5 b5 d5 g5 a6 b6 d6 g6 a7 b7 d7 g7 a8 b8 d8 g8 a9 b9 d9 g9 a10 b10 d10 g10
                go_wp2_with fail
                go_ret
                exact ⟨congrArg (fun z => Ending.returned (Value.bool z)) (show false = r from by rw [HR.out]; simp [fldsB, HTT.out, Hindex.out, Hprev.out, Hcommit.out, Hmark.out, Hok.out, Hsnap.out]), HB01.out.trans (hbu.mono HB01.out.size)⟩
            · have qok : (a.ok == b.ok) = false := beq_eq_false_iff_ne.2 hok
              have Hok := Lib.hid hok
              clear hok
              refine wp_region_quiet_below (by kernel_rfl) (by kernel_rfl) ?_
              go_big_quiet_step (fail)
              go_big_quiet_step ((go_at_call 49; exact meetB fun U hb => hta U hb))
              go_big_quiet_step (fail)
              go_big_quiet_step ((go_at_call 49; exact meetB fun U hb => htb U hb))
              repeat (go_big_quiet_step (fail))
              refine wpQuiet_nil ?_
              intro u hu
              obtain ⟨p, hu⟩ := hu
              have hbu := below_regrown w1 p.d p.os
              rw [← hu] at hbu
              clear hu a0 b0 d0 g0 a1 b1 d1 g1 a2 b2 d2 g2 a3 b3 d3 g3 a4 b4 d4 g4 a5 b5 d5 g5 a6 b6 d6 g6 a7 b7 d7 g7 a8 b8 d8 g8 a9 b9 d9 g9 a10 b10 d10 g10
              go_wp2_with fail
              go_ret
              exact ⟨congrArg (fun z => Ending.returned (Value.bool z)) (show false = r from by rw [HR.out]; simp [fldsB, HTT.out, Hindex.out, Hprev.out, Hcommit.out, Hmark.out, Hok.out]), HB01.out.trans (hbu.mono HB01.out.size)⟩
          · have qmark : (a.mark == b.mark) = false := beq_eq_false_iff_ne.2 hmark
            have Hmark := Lib.hid hmark
            clear hmark
            refine wp_region_quiet_below (by kernel_rfl) (by kernel_rfl) ?_
            go_big_quiet_step (fail)
            go_big_quiet_step ((go_at_call 49; exact meetB fun U hb => hta U hb))
            go_big_quiet_step (fail)
            go_big_quiet_step ((go_at_call 49; exact meetB fun U hb => htb U hb))
            repeat (go_big_quiet_step (fail))
            refine wpQuiet_nil ?_
            intro u hu
            obtain ⟨p, hu⟩ := hu
            have hbu := below_regrown w1 p.d p.os
            rw [← hu] at hbu
            clear hu a0 b0 d0 g0 a1 b1 d1 g1 a2 b2 d2 g2 a3 b3 d3 g3 a4 b4 d4 g4 a5 b5 d5 g5 a6 b6 d6 g6 a7 b7 d7 g7 a8 b8 d8 g8 a9 b9 d9 g9 a10 b10 d10 g10
            go_wp2_with fail
            go_ret
            exact ⟨congrArg (fun z => Ending.returned (Value.bool z)) (show false = r from by rw [HR.out]; simp [fldsB, HTT.out, Hindex.out, Hprev.out, Hcommit.out, Hmark.out]), HB01.out.trans (hbu.mono HB01.out.size)⟩
        · have qcommit : (a.commit == b.commit) = false := beq_eq_false_iff_ne.2 hcommit
          have Hcommit := Lib.hid hcommit
          clear hcommit
          refine wp_region_quiet_below (by kernel_rfl) (by kernel_rfl) ?_
          go_big_quiet_step (fail)
          go_big_quiet_step ((go_at_call 49; exact meetB fun U hb => hta U hb))
          go_big_quiet_step (fail)
          go_big_quiet_step ((go_at_call 49; exact meetB fun U hb => htb U hb))
          repeat (go_big_quiet_step (fail))
          refine wpQuiet_nil ?_
          intro u hu
          obtain ⟨p, hu⟩ := hu
          have hbu := below_regrown w1 p.d p.os
          rw [← hu] at hbu
          clear hu a0 b0 d0 g0 a1 b1 d1 g1 a2 b2 d2 g2 a3 b3 d3 g3 a4 b4 d4 g4 a5 b5 d5 g5 a6 b6 d6 g6 a7 b7 d7 g7 a8 b8 d8 g8 a9 b9 d9 g9 a10 b10 d10 g10
          go_wp2_with fail
          go_ret
          exact ⟨congrArg (fun z => Ending.returned (Value.bool z)) (show false = r from by rw [HR.out]; simp [fldsB, HTT.out, Hindex.out, Hprev.out, Hcommit.out]), HB01.out.trans (hbu.mono HB01.out.size)⟩
      · have qprev : (a.prev == b.prev) = false := beq_eq_false_iff_ne.2 hprev
        have Hprev := Lib.hid hprev
        clear hprev
        refine wp_region_quiet_below (by kernel_rfl) (by kernel_rfl) ?_
        go_big_quiet_step (fail)
        go_big_quiet_step ((go_at_call 49; exact meetB fun U hb => hta U hb))
        go_big_quiet_step (fail)
        go_big_quiet_step ((go_at_call 49; exact meetB fun U hb => htb U hb))
        repeat (go_big_quiet_step (fail))
        refine wpQuiet_nil ?_
        intro u hu
        obtain ⟨p, hu⟩ := hu
        have hbu := below_regrown w1 p.d p.os
        rw [← hu] at hbu
        clear hu a0 b0 d0 g0 a1 b1 d1 g1 a2 b2 d2 g2 a3 b3 d3 g3 a4 b4 d4 g4 a5 b5 d5 g5 a6 b6 d6 g6 a7 b7 d7 g7 a8 b8 d8 g8 a9 b9 d9 g9 a10 b10 d10 g10
        go_wp2_with fail
        go_ret
        exact ⟨congrArg (fun z => Ending.returned (Value.bool z)) (show false = r from by rw [HR.out]; simp [fldsB, HTT.out, Hindex.out, Hprev.out]), HB01.out.trans (hbu.mono HB01.out.size)⟩
    · have qindex : (a.index == b.index) = false := beq_eq_false_iff_ne.2 hindex
      have Hindex := Lib.hid hindex
      clear hindex
      refine wp_region_quiet_below (by kernel_rfl) (by kernel_rfl) ?_
      go_big_quiet_step (fail)
      go_big_quiet_step ((go_at_call 49; exact meetB fun U hb => hta U hb))
      go_big_quiet_step (fail)
      go_big_quiet_step ((go_at_call 49; exact meetB fun U hb => htb U hb))
      repeat (go_big_quiet_step (fail))
      refine wpQuiet_nil ?_
      intro u hu
      obtain ⟨p, hu⟩ := hu
      have hbu := below_regrown w1 p.d p.os
      rw [← hu] at hbu
      clear hu a0 b0 d0 g0 a1 b1 d1 g1 a2 b2 d2 g2 a3 b3 d3 g3 a4 b4 d4 g4 a5 b5 d5 g5 a6 b6 d6 g6 a7 b7 d7 g7 a8 b8 d8 g8 a9 b9 d9 g9 a10 b10 d10 g10
      go_wp2_with fail
      go_ret
      exact ⟨congrArg (fun z => Ending.returned (Value.bool z)) (show false = r from by rw [HR.out]; simp [fldsB, HTT.out, Hindex.out]), HB01.out.trans (hbu.mono HB01.out.size)⟩
  · have qt : (ta == tb) = false := beq_eq_false_iff_ne.2 htt
    have HTT := Lib.hid htt
    clear htt
    refine wp_region_quiet_below (by kernel_rfl) (by kernel_rfl) ?_
    go_big_quiet_step (fail)
    go_big_quiet_step ((go_at_call 49; exact meetB fun U hb => hta U hb))
    go_big_quiet_step (fail)
    go_big_quiet_step ((go_at_call 49; exact meetB fun U hb => htb U hb))
    repeat (go_big_quiet_step (fail))
    refine wpQuiet_nil ?_
    intro u hu
    obtain ⟨p, hu⟩ := hu
    have hbu := below_regrown w1 p.d p.os
    rw [← hu] at hbu
    clear hu a0 b0 d0 g0 a1 b1 d1 g1 a2 b2 d2 g2 a3 b3 d3 g3 a4 b4 d4 g4 a5 b5 d5 g5 a6 b6 d6 g6 a7 b7 d7 g7 a8 b8 d8 g8 a9 b9 d9 g9 a10 b10 d10 g10
    go_wp2_with fail
    go_ret
    exact ⟨congrArg (fun z => Ending.returned (Value.bool z)) (show false = r from by rw [HR.out]; simp [fldsB, HTT.out]), HB01.out.trans (hbu.mono HB01.out.size)⟩

end Go.Proofs.YtbjbgdnjcppjhaaGreatDoor
