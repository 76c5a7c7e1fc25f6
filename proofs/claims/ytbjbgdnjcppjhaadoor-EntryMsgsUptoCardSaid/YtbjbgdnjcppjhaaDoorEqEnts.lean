/-
  slices.Equal over entries; entries compared for being other ones. Condition: at most 2^20 entries. By an AI agent.
-/
import Derived.Test.YtbjbgdnjcppjhaaDoorOwn
import Derived.Test.YtbjbgdnjcppjhaaDoorSameE
import Derived.Test.YtbjbgdnjcppjhaaDoorMsgSameP
namespace Go.Proofs.YtbjbgdnjcppjhaaDoor
open Go.RowKit Go.Sort
set_option linter.unusedVariables false
set_option linter.unusedSimpArgs false

/-- entries compared for being other ones, in any world -/
theorem ent_ne_run (a b : Ent) (W : World) : (binOp .neq 26 a.val b.val).run Tryd.prog W = .ok (.bool (!sameB a b)) W := by
  have h := ent_eq_run a b W
  have e1 : binOp .eql 26 a.val b.val = (do let r ← Op.equal 26 a.val b.val; pure (.bool r)) := rfl
  have e2 : binOp .neq 26 a.val b.val = (do let r ← Op.equal 26 a.val b.val; pure (.bool (!r))) := rfl
  rw [e1, Sem.run_bind] at h
  rw [e2, Sem.run_bind]
  cases hr : (Op.equal 26 a.val b.val).run Tryd.prog W with
  | ok r w' =>
    rw [hr] at h
    simp only [Result.andThen, Sem.run_pure, Result.ok.injEq, Value.bool.injEq] at h ⊢
    rw [h.1, h.2]; exact ⟨rfl, rfl⟩
  | halt x w' =>
    rw [hr] at h
    cases h

set_option maxRecDepth 100000 in
set_option maxHeartbeats 4000000 in
theorem equalEnt_any (l1 l2 : List Ent) (s1 s2 : Value) (hn1 : l1.length ≤ 1048576) (hn2 : l2.length ≤ 1048576) (w : World) (h1 : EntsAt w s1 l1) (h2 : EntsAt w s2 l2) :
    Calls Tryd.prog 55 #[s1, s2] w fun x w' => x = .returned (.bool (entsB l1 l2)) ∧ Below w.heap.size w w' := by
  obtain ⟨a1, c1, rfl, i1, j1, k1⟩ := h1
  obtain ⟨a2, c2, rfl, i2, j2, k2⟩ := h2
  have K1 := Lib.hid k1
  have K2 := Lib.hid k2
  clear k1 k2
  by_cases hlen : l1.length = l2.length
  · have h21 : l2.length = l1.length := hlen.symm
    rw [h21] at i2 hn2 ⊢
    have HLEN := Lib.hid hlen
    clear hlen h21
    go_enter Tryd.func55, Tryd.ntmps55
    go_wp2_with fail
    go_loopw [5, 13] (fun u i wr => ∃ k : Nat, k ≤ l1.length ∧ i = .int .i64 k ∧ l1.take k = l2.take k ∧ Below w.heap.size w wr) (fun u i _ => l1.length - (intOf i).toNat)
    case atStart => exact ⟨0, Nat.zero_le _, rfl, rfl, Below.refl _ _⟩
    case round =>
      obtain ⟨k, hk, rfl, hsame, hbr⟩ := hrel
      by_cases hlt : k < l1.length
      · have hlt2 : k < l2.length := by rw [← HLEN.out]; exact hlt
        obtain ⟨B1, o1, rfl, hB1, hE1⟩ := K1.out (fun h => by rw [h] at hlt; exact absurd hlt (Nat.not_lt_zero _))
        obtain ⟨B2, o2, rfl, hB2, hE2⟩ := K2.out (fun h => by rw [h] at hlt2; exact absurd hlt2 (Nat.not_lt_zero _))
        have e1 := (hE1 k hlt).below hbr
        have e2 := (hE2 k hlt2).below hbr
        have hstep : l1[k] = l2[k] → l1.take (k + 1) = l2.take (k + 1) := fun h => by rw [take_snoc l1 k hlt, take_snoc l2 k hlt2, hsame, h]
        have hdiff : l1[k] ≠ l2[k] → entsB l1 l2 = false := fun h => by
          cases hb : entsB l1 l2 with
          | false => rfl
          | true => exact absurd (by have := (entsB_iff _ _).1 hb; simp [this]) h
        have HST := Lib.hid hstep
        have HDI := Lib.hid hdiff
        have hne := ent_ne_run l1[k] l2[k]
        clear hstep hdiff hsame hE1 hE2 K1 K2
        generalize l1[k] = x at *
        generalize l2[k] = y at *
        have hiff := sameB_iff x y
        have HIFF := Lib.hid hiff
        clear hiff
        generalize sameB x y = r at *
        obtain ⟨a0, a1, a2, a3, a4, a5, a6, a7, a8, a9, a10⟩ := e1
        obtain ⟨b0, b1, b2, b3, b4, b5, b6, b7, b8, b9, b10⟩ := e2
        simp only [Ent.val, Ent.cells] at hne
        have hG : ∀ (a b : Nat) (U : World), (eqGuard BinOp.neq 26 (.tmp a) (.tmp b) (.agg #[.int .u64 x.term, .int .u64 x.index, .int .i64 x.kind, .int .u64 x.client, .int .u64 x.seq, .int .u64 x.block, .int .u64 x.many, .int .i64 x.node, .int .i64 x.level, .string x.data, .string x.old]) (.agg #[.int .u64 y.term, .int .u64 y.index, .int .i64 y.kind, .int .u64 y.client, .int .u64 y.seq, .int .u64 y.block, .int .u64 y.many, .int .i64 y.node, .int .i64 y.level, .string y.data, .string y.old])).run Tryd.prog U = .ok () U := fun a b U => by
          go_simp
        generalize hvx : Value.agg #[.int .u64 x.term, .int .u64 x.index, .int .i64 x.kind, .int .u64 x.client, .int .u64 x.seq, .int .u64 x.block, .int .u64 x.many, .int .i64 x.node, .int .i64 x.level, .string x.data, .string x.old] = zx at *
        generalize hvy : Value.agg #[.int .u64 y.term, .int .u64 y.index, .int .i64 y.kind, .int .u64 y.client, .int .u64 y.seq, .int .u64 y.block, .int .u64 y.many, .int .i64 y.node, .int .i64 y.level, .string y.data, .string y.old] = zy at *
        have d0 := cell_regrown a0
        have d1 := cell_regrown a1
        have d2 := cell_regrown a2
        have d3 := cell_regrown a3
        have d4 := cell_regrown a4
        have d5 := cell_regrown a5
        have d6 := cell_regrown a6
        have d7 := cell_regrown a7
        have d8 := cell_regrown a8
        have d9 := cell_regrown a9
        have d10 := cell_regrown a10
        have g0 := cell_regrown b0
        have g1 := cell_regrown b1
        have g2 := cell_regrown b2
        have g3 := cell_regrown b3
        have g4 := cell_regrown b4
        have g5 := cell_regrown b5
        have g6 := cell_regrown b6
        have g7 := cell_regrown b7
        have g8 := cell_regrown b8
        have g9 := cell_regrown b9
        have g10 := cell_regrown b10
        go_wp2_with fail
        refine wp_region_quiet_below (by kernel_rfl) (by kernel_rfl) ?_
        repeat (go_big_quiet_step (fail))
        refine wpQuiet_nil ?_
        intro u hu
        obtain ⟨p, hu⟩ := hu
        have hbu := below_regrown wr p.d p.os
        rw [← hu] at hbu
        have hbu2 := hbr.trans (hbu.mono hbr.size)
        clear hu hbu a0 a1 a2 a3 a4 a5 a6 a7 a8 a9 a10 b0 b1 b2 b3 b4 b5 b6 b7 b8 b9 b10 d0 d1 d2 d3 d4 d5 d6 d7 d8 d9 d10 g0 g1 g2 g3 g4 g5 g6 g7 g8 g9 g10 hne hG
        cases r
        · have hf := Lib.hid (HDI.out fun h => by have := HIFF.out.2 h; cases this)
          go_wp2_with fail
          go_ret
          exact ⟨by rw [hf.out]; rfl, hbu2⟩
        · have ht := Lib.hid (HST.out (HIFF.out.1 rfl))
          go_wp2_with fail
          go_roundw
          case rel => exact ⟨k + 1, by omega, by go_num, ht.out, hbu2⟩
          case measure => simp [intOf]; omega
      · have hfin : entsB l1 l2 = true := by
          rw [entsB_iff]
          rw [List.take_of_length_le (by omega), List.take_of_length_le (by have := HLEN.out; omega)] at hsame
          exact hsame
        have HF := Lib.hid hfin
        clear hfin hsame K1 K2
        go_wp2_with fail
        go_ret
        exact ⟨by rw [HF.out]; rfl, hbr⟩
  · have hf : entsB l1 l2 = false := by
      cases hb : entsB l1 l2 with
      | false => rfl
      | true => exact absurd (by rw [(entsB_iff _ _).1 hb]) hlen
    have HF := Lib.hid hf
    have hne : ((l1.length : Int) != (l2.length : Int)) = true := by simpa [bne_iff_ne] using fun h => hlen (by omega)
    clear hf hlen
    go_enter Tryd.func55, Tryd.ntmps55
    go_wp2_with fail
    go_ret
    exact ⟨by rw [HF.out]; rfl, Below.refl _ _⟩

end Go.Proofs.YtbjbgdnjcppjhaaDoor
