/-
  pintleref04's MsgSame over this translation. Condition: at most 2^20 entries. By an AI agent.
-/
import Derived.Test.YtbjbgdnjcppjhaaDoorEqEnts
import Derived.Test.YtbjbgdnjcppjhaaDoorMsgText
import Derived.Test.YtbjbgdnjcppjhaaDoorNoteP
namespace Go.Proofs.YtbjbgdnjcppjhaaDoor
open Go.RowKit Go.Sort
set_option linter.unusedVariables false
set_option linter.unusedSimpArgs false

set_option maxRecDepth 100000 in
set_option maxHeartbeats 16000000 in
theorem refMsgSame_any (a b : Msg) (s1 s2 : Value) (hna : a.entries.length ≤ 1048576) (hnb : b.entries.length ≤ 1048576) (w : World) (h1 : EntsAt w s1 a.entries) (h2 : EntsAt w s2 b.entries) :
    Calls Tryd.prog 31 #[.agg (a.cells s1), .agg (b.cells s2)] w fun x w' => x = .returned (.bool (msgSameB a b)) ∧ Below w.heap.size w w' := by
  have hr : msgSameB a b = (entsB a.entries b.entries && headB a b && fldsB a b) := rfl
  obtain ⟨sa, ca, rfl, i1, j1, k1⟩ := h1
  obtain ⟨sb, cb, rfl, i2, j2, k2⟩ := h2
  have K1 := Lib.hid k1
  have K2 := Lib.hid k2
  have HR := Lib.hid hr
  clear k1 k2 hr
  generalize msgSameB a b = r at *
  simp only [Msg.cells]
  have hA0 : MsgAt ((w.alloc (.cells #[.int .i64 a.kind, .int .i64 a.frm, .int .i64 a.to, .int .u64 a.term, .int .u64 a.index, .int .u64 a.prev, .int .u64 a.commit, .int .u64 a.mark, .bool a.ok, .slice sa a.entries.length ca, .string a.snap] 42)).alloc (.cells #[.int .i64 b.kind, .int .i64 b.frm, .int .i64 b.to, .int .u64 b.term, .int .u64 b.index, .int .u64 b.prev, .int .u64 b.commit, .int .u64 b.mark, .bool b.ok, .slice sb b.entries.length cb, .string b.snap] 42)) w.heap.size a (.slice sa a.entries.length ca) := (msgAt_block (r := []) (heap_alloc_new w (.cells (a.cells (.slice sa a.entries.length ca)) 42))).below ((Below.refl _ _).alloc (Nat.le_refl _) _)
  have hB0 : MsgAt ((w.alloc (.cells #[.int .i64 a.kind, .int .i64 a.frm, .int .i64 a.to, .int .u64 a.term, .int .u64 a.index, .int .u64 a.prev, .int .u64 a.commit, .int .u64 a.mark, .bool a.ok, .slice sa a.entries.length ca, .string a.snap] 42)).alloc (.cells #[.int .i64 b.kind, .int .i64 b.frm, .int .i64 b.to, .int .u64 b.term, .int .u64 b.index, .int .u64 b.prev, .int .u64 b.commit, .int .u64 b.mark, .bool b.ok, .slice sb b.entries.length cb, .string b.snap] 42)) (w.heap.size + 1) b (.slice sb b.entries.length cb) := by
    have h := heap_alloc_new (w.alloc (.cells #[.int .i64 a.kind, .int .i64 a.frm, .int .i64 a.to, .int .u64 a.term, .int .u64 a.index, .int .u64 a.prev, .int .u64 a.commit, .int .u64 a.mark, .bool a.ok, .slice sa a.entries.length ca, .string a.snap] 42)) (.cells (b.cells (.slice sb b.entries.length cb)) 42)
    simp only [World.size_alloc] at h
    exact msgAt_block (r := []) h
  have hAB : Below w.heap.size w ((w.alloc (.cells #[.int .i64 a.kind, .int .i64 a.frm, .int .i64 a.to, .int .u64 a.term, .int .u64 a.index, .int .u64 a.prev, .int .u64 a.commit, .int .u64 a.mark, .bool a.ok, .slice sa a.entries.length ca, .string a.snap] 42)).alloc (.cells #[.int .i64 b.kind, .int .i64 b.frm, .int .i64 b.to, .int .u64 b.term, .int .u64 b.index, .int .u64 b.prev, .int .u64 b.commit, .int .u64 b.mark, .bool b.ok, .slice sb b.entries.length cb, .string b.snap] 42)) := ((Below.refl _ _).alloc (Nat.le_refl _) _).alloc (by simp) _
  have HAB := Lib.hid hAB
  have HA0 := Lib.hid hA0
  have HB0 := Lib.hid hB0
  clear hA0 hB0 hAB
  by_cases hlen : a.entries.length = b.entries.length
  case neg =>
    have hf : entsB a.entries b.entries = false := by
      cases hb : entsB a.entries b.entries with
      | false => rfl
      | true => exact absurd (by rw [(entsB_iff _ _).1 hb]) hlen
    have HF := Lib.hid hf
    have hne : ((a.entries.length : Int) != (b.entries.length : Int)) = true := by simpa [bne_iff_ne] using fun h => hlen (by omega)
    clear hf hlen
    go_enter Tryd.func31, Tryd.ntmps31
    go_wp2_with fail
    go_ret
    exact ⟨by rw [HR.out, HF.out]; rfl, HAB.out⟩
  case pos =>
  have HLEN := Lib.hid hlen
  have h21 : b.entries.length = a.entries.length := hlen.symm
  rw [h21] at i2 hnb HAB HA0 HB0 ⊢
  clear hlen h21
  go_enter Tryd.func31, Tryd.ntmps31
  go_wp2_with fail
  go_loopw [5] (fun i wr => ∃ k : Nat, k ≤ a.entries.length ∧ i = .int .i64 k ∧ a.entries.take k = b.entries.take k ∧ Below ((w.alloc (.cells #[.int .i64 a.kind, .int .i64 a.frm, .int .i64 a.to, .int .u64 a.term, .int .u64 a.index, .int .u64 a.prev, .int .u64 a.commit, .int .u64 a.mark, .bool a.ok, .slice sa a.entries.length ca, .string a.snap] 42)).alloc (.cells #[.int .i64 b.kind, .int .i64 b.frm, .int .i64 b.to, .int .u64 b.term, .int .u64 b.index, .int .u64 b.prev, .int .u64 b.commit, .int .u64 b.mark, .bool b.ok, .slice sb a.entries.length cb, .string b.snap] 42)).heap.size ((w.alloc (.cells #[.int .i64 a.kind, .int .i64 a.frm, .int .i64 a.to, .int .u64 a.term, .int .u64 a.index, .int .u64 a.prev, .int .u64 a.commit, .int .u64 a.mark, .bool a.ok, .slice sa a.entries.length ca, .string a.snap] 42)).alloc (.cells #[.int .i64 b.kind, .int .i64 b.frm, .int .i64 b.to, .int .u64 b.term, .int .u64 b.index, .int .u64 b.prev, .int .u64 b.commit, .int .u64 b.mark, .bool b.ok, .slice sb a.entries.length cb, .string b.snap] 42)) wr) (fun i _ => a.entries.length - (intOf i).toNat)
  case atStart => exact ⟨0, Nat.zero_le _, rfl, rfl, Below.refl _ _⟩
  case round =>
    obtain ⟨k, hk, rfl, hsame, hbx⟩ := hrel
    have hA := HA0.out.below hbx
    have hB := HB0.out.below hbx
    have hbr := HAB.out.trans (hbx.mono HAB.out.size)
    have HBX := Lib.hid hbx
    clear hbx
    obtain ⟨m0, m1, m2, m3, m4, m5, m6, m7, m8, m9, m10⟩ := hA
    obtain ⟨n0, n1, n2, n3, n4, n5, n6, n7, n8, n9, n10⟩ := hB
    by_cases hlt : k < a.entries.length
    · have hlt2 : k < b.entries.length := by rw [← HLEN.out]; exact hlt
      obtain ⟨B1, o1, rfl, hB1, hE1⟩ := K1.out (fun h => by rw [h] at hlt; exact absurd hlt (Nat.not_lt_zero _))
      obtain ⟨B2, o2, rfl, hB2, hE2⟩ := K2.out (fun h => by rw [h] at hlt2; exact absurd hlt2 (Nat.not_lt_zero _))
      have e1 := (hE1 k hlt).below hbr
      have e2 := (hE2 k hlt2).below hbr
      have hstep : a.entries[k] = b.entries[k] → a.entries.take (k + 1) = b.entries.take (k + 1) := fun h => by rw [take_snoc a.entries k hlt, take_snoc b.entries k hlt2, hsame, h]
      have hdiff : a.entries[k] ≠ b.entries[k] → entsB a.entries b.entries = false := fun h => by
        cases hb : entsB a.entries b.entries with
        | false => rfl
        | true => exact absurd (by have := (entsB_iff _ _).1 hb; simp [this]) h
      have HST := Lib.hid hstep
      have HDI := Lib.hid hdiff
      have hne := ent_ne_run a.entries[k] b.entries[k]
      clear hstep hdiff hsame hE1 hE2 K1 K2
      generalize a.entries[k] = x at *
      generalize b.entries[k] = y at *
      have hiff := sameB_iff x y
      have HIFF := Lib.hid hiff
      clear hiff
      generalize sameB x y = q at *
      obtain ⟨a0, a1, a2, a3, a4, a5, a6, a7, a8, a9, a10⟩ := e1
      obtain ⟨b0, b1, b2, b3, b4, b5, b6, b7, b8, b9, b10⟩ := e2
      simp only [Ent.val, Ent.cells] at hne
      have hG : ∀ (a b : Nat) (U : World), (eqGuard BinOp.neq 26 (.tmp a) (.tmp b) (.agg #[.int .u64 x.term, .int .u64 x.index, .int .i64 x.kind, .int .u64 x.client, .int .u64 x.seq, .int .u64 x.block, .int .u64 x.many, .int .i64 x.node, .int .i64 x.level, .string x.data, .string x.old]) (.agg #[.int .u64 y.term, .int .u64 y.index, .int .i64 y.kind, .int .u64 y.client, .int .u64 y.seq, .int .u64 y.block, .int .u64 y.many, .int .i64 y.node, .int .i64 y.level, .string y.data, .string y.old])).run Tryd.prog U = .ok () U := fun a b U => by
        go_simp
      generalize hvx : Value.agg #[.int .u64 x.term, .int .u64 x.index, .int .i64 x.kind, .int .u64 x.client, .int .u64 x.seq, .int .u64 x.block, .int .u64 x.many, .int .i64 x.node, .int .i64 x.level, .string x.data, .string x.old] = zx at *
      generalize hvy : Value.agg #[.int .u64 y.term, .int .u64 y.index, .int .i64 y.kind, .int .u64 y.client, .int .u64 y.seq, .int .u64 y.block, .int .u64 y.many, .int .i64 y.node, .int .i64 y.level, .string y.data, .string y.old] = zy at *
      have dm := cell_regrown m9
      have dn := cell_regrown n9
      have d0 := cell_regrown a0
      have g0 := cell_regrown b0
      have d1 := cell_regrown a1
      have g1 := cell_regrown b1
      have d2 := cell_regrown a2
      have g2 := cell_regrown b2
      have d3 := cell_regrown a3
      have g3 := cell_regrown b3
      have d4 := cell_regrown a4
      have g4 := cell_regrown b4
      have d5 := cell_regrown a5
      have g5 := cell_regrown b5
      have d6 := cell_regrown a6
      have g6 := cell_regrown b6
      have d7 := cell_regrown a7
      have g7 := cell_regrown b7
      have d8 := cell_regrown a8
      have g8 := cell_regrown b8
      have d9 := cell_regrown a9
      have g9 := cell_regrown b9
      have d10 := cell_regrown a10
      have g10 := cell_regrown b10
      go_wp2_with fail
      refine wp_region_quiet_below (by kernel_rfl) (by kernel_rfl) ?_
      repeat (go_big_quiet_step (fail))
      refine wpQuiet_nil ?_
      intro u hu
      obtain ⟨p, hu⟩ := hu
      have hbu := below_regrown wr p.d p.os
      rw [← hu] at hbu
      have hbu2 := hbr.trans (hbu.mono hbr.size)
      have hbu3 := Lib.hid (HBX.out.trans (hbu.mono HBX.out.size))
      clear hu hbu hne hG dm dn a0 b0 d0 g0 m0 n0 a1 b1 d1 g1 m1 n1 a2 b2 d2 g2 m2 n2 a3 b3 d3 g3 m3 n3 a4 b4 d4 g4 m4 n4 a5 b5 d5 g5 m5 n5 a6 b6 d6 g6 m6 n6 a7 b7 d7 g7 m7 n7 a8 b8 d8 g8 m8 n8 a9 b9 d9 g9 m9 n9 a10 b10 d10 g10 m10 n10
      cases q
      · have hf := Lib.hid (HDI.out fun h => by have := HIFF.out.2 h; cases this)
        go_wp2_with fail
        go_ret
        exact ⟨by rw [HR.out, hf.out]; rfl, hbu2⟩
      · have ht := Lib.hid (HST.out (HIFF.out.1 rfl))
        go_wp2_with fail
        go_roundw
        case rel => exact ⟨k + 1, by omega, by go_num, ht.out, hbu3.out⟩
        case measure => simp [intOf]; omega
    · have hfin : entsB a.entries b.entries = true := by
        rw [entsB_iff]
        rw [List.take_of_length_le (by omega), List.take_of_length_le (by have := HLEN.out; omega)] at hsame
        exact hsame
      have HF := Lib.hid hfin
      clear hfin hsame K1 K2
      by_cases hkind : a.kind = b.kind
      · have qkind : (a.kind == b.kind) = true := by rw [hkind]; simp
        have Hkind := Lib.hid hkind
        clear hkind
        by_cases hfrm : a.frm = b.frm
        · have qfrm : (a.frm == b.frm) = true := by rw [hfrm]; simp
          have Hfrm := Lib.hid hfrm
          clear hfrm
          by_cases hto : a.to = b.to
          · have qto : (a.to == b.to) = true := by rw [hto]; simp
            have Hto := Lib.hid hto
            clear hto
            by_cases hterm : a.term = b.term
            · have qterm : (a.term == b.term) = true := by rw [hterm]; simp
              have Hterm := Lib.hid hterm
              clear hterm
              by_cases hindex : a.index = b.index
              · have qindex : (a.index == b.index) = true := by rw [hindex]; simp
                have Hindex := Lib.hid hindex
                clear hindex
                by_cases hprev : a.prev = b.prev
                · have qprev : (a.prev == b.prev) = true := by rw [hprev]; simp
                  have Hprev := Lib.hid hprev
                  clear hprev
                  by_cases hcommit : a.commit = b.commit
                  · have qcommit : (a.commit == b.commit) = true := by rw [hcommit]; simp
                    have Hcommit := Lib.hid hcommit
                    clear hcommit
                    by_cases hmark : a.mark = b.mark
                    · have qmark : (a.mark == b.mark) = true := by rw [hmark]; simp
                      have Hmark := Lib.hid hmark
                      clear hmark
                      by_cases hok : a.ok = b.ok
                      · have qok : (a.ok == b.ok) = true := by rw [hok]; simp
                        have Hok := Lib.hid hok
                        clear hok
                        by_cases hsnap : a.snap = b.snap
                        · have qsnap : (a.snap.toList == b.snap.toList) = true := by rw [hsnap]; simp
                          have Hsnap := Lib.hid hsnap
                          clear hsnap
                          go_wp2_with fail
                          go_ret
                          exact ⟨congrArg (fun z => Ending.returned (Value.bool z)) (show true = r from by rw [HR.out, HF.out]; simp [headB, fldsB, Hkind.out, Hfrm.out, Hto.out, Hterm.out, Hindex.out, Hprev.out, Hcommit.out, Hmark.out, Hok.out, Hsnap.out]), hbr⟩
                        · have qsnap : (a.snap.toList == b.snap.toList) = false := beq_eq_false_iff_ne.2 fun g => hsnap ((bytes_ext _ _).1 g)
                          have Hsnap := Lib.hid hsnap
                          clear hsnap
                          go_wp2_with fail
                          go_ret
                          exact ⟨congrArg (fun z => Ending.returned (Value.bool z)) (show false = r from by rw [HR.out, HF.out]; simp [headB, fldsB, Hkind.out, Hfrm.out, Hto.out, Hterm.out, Hindex.out, Hprev.out, Hcommit.out, Hmark.out, Hok.out, Hsnap.out]), hbr⟩
                      · have qok : (a.ok == b.ok) = false := beq_eq_false_iff_ne.2 hok
                        have Hok := Lib.hid hok
                        clear hok
                        go_wp2_with fail
                        go_ret
                        exact ⟨congrArg (fun z => Ending.returned (Value.bool z)) (show false = r from by rw [HR.out, HF.out]; simp [headB, fldsB, Hkind.out, Hfrm.out, Hto.out, Hterm.out, Hindex.out, Hprev.out, Hcommit.out, Hmark.out, Hok.out]), hbr⟩
                    · have qmark : (a.mark == b.mark) = false := beq_eq_false_iff_ne.2 hmark
                      have Hmark := Lib.hid hmark
                      clear hmark
                      go_wp2_with fail
                      go_ret
                      exact ⟨congrArg (fun z => Ending.returned (Value.bool z)) (show false = r from by rw [HR.out, HF.out]; simp [headB, fldsB, Hkind.out, Hfrm.out, Hto.out, Hterm.out, Hindex.out, Hprev.out, Hcommit.out, Hmark.out]), hbr⟩
                  · have qcommit : (a.commit == b.commit) = false := beq_eq_false_iff_ne.2 hcommit
                    have Hcommit := Lib.hid hcommit
                    clear hcommit
                    go_wp2_with fail
                    go_ret
                    exact ⟨congrArg (fun z => Ending.returned (Value.bool z)) (show false = r from by rw [HR.out, HF.out]; simp [headB, fldsB, Hkind.out, Hfrm.out, Hto.out, Hterm.out, Hindex.out, Hprev.out, Hcommit.out]), hbr⟩
                · have qprev : (a.prev == b.prev) = false := beq_eq_false_iff_ne.2 hprev
                  have Hprev := Lib.hid hprev
                  clear hprev
                  go_wp2_with fail
                  go_ret
                  exact ⟨congrArg (fun z => Ending.returned (Value.bool z)) (show false = r from by rw [HR.out, HF.out]; simp [headB, fldsB, Hkind.out, Hfrm.out, Hto.out, Hterm.out, Hindex.out, Hprev.out]), hbr⟩
              · have qindex : (a.index == b.index) = false := beq_eq_false_iff_ne.2 hindex
                have Hindex := Lib.hid hindex
                clear hindex
                go_wp2_with fail
                go_ret
                exact ⟨congrArg (fun z => Ending.returned (Value.bool z)) (show false = r from by rw [HR.out, HF.out]; simp [headB, fldsB, Hkind.out, Hfrm.out, Hto.out, Hterm.out, Hindex.out]), hbr⟩
            · have qterm : (a.term == b.term) = false := beq_eq_false_iff_ne.2 hterm
              have Hterm := Lib.hid hterm
              clear hterm
              go_wp2_with fail
              go_ret
              exact ⟨congrArg (fun z => Ending.returned (Value.bool z)) (show false = r from by rw [HR.out, HF.out]; simp [headB, fldsB, Hkind.out, Hfrm.out, Hto.out, Hterm.out]), hbr⟩
          · have qto : (a.to == b.to) = false := beq_eq_false_iff_ne.2 hto
            have Hto := Lib.hid hto
            clear hto
            go_wp2_with fail
            go_ret
            exact ⟨congrArg (fun z => Ending.returned (Value.bool z)) (show false = r from by rw [HR.out, HF.out]; simp [headB, fldsB, Hkind.out, Hfrm.out, Hto.out]), hbr⟩
        · have qfrm : (a.frm == b.frm) = false := beq_eq_false_iff_ne.2 hfrm
          have Hfrm := Lib.hid hfrm
          clear hfrm
          go_wp2_with fail
          go_ret
          exact ⟨congrArg (fun z => Ending.returned (Value.bool z)) (show false = r from by rw [HR.out, HF.out]; simp [headB, fldsB, Hkind.out, Hfrm.out]), hbr⟩
      · have qkind : (a.kind == b.kind) = false := beq_eq_false_iff_ne.2 hkind
        have Hkind := Lib.hid hkind
        clear hkind
        go_wp2_with fail
        go_ret
        exact ⟨congrArg (fun z => Ending.returned (Value.bool z)) (show false = r from by rw [HR.out, HF.out]; simp [headB, fldsB, Hkind.out]), hbr⟩

end Go.Proofs.YtbjbgdnjcppjhaaDoor
