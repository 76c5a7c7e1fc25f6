/-
  second.entries' take closure: so many entries are read behind the list. Conditions: as the theorem says. By an AI agent.
-/
import Derived.Test.YtbjbgdnjcppjhaaGreatDoorSecEnts
import Derived.Test.YtbjbgdnjcppjhaaGreatDoorHeld
namespace Go.Proofs.YtbjbgdnjcppjhaaGreatDoor
open Go.RowKit Go.Sort
set_option linter.unusedVariables false
set_option linter.unusedSimpArgs false

/-- below n all is as it was, but for two blocks -/
structure ButN (n b e : Nat) (w w' : World) : Prop where
  os : w'.os = w.os
  tape : w'.tape = w.tape
  output : w'.output = w.output
  size : w.heap.size ≤ w'.heap.size
  block : ∀ k, k < n → k ≠ b → k ≠ e → w'.heap[k]? = w.heap[k]?
theorem ButN.refl (n b e : Nat) (w : World) : ButN n b e w w := ⟨rfl, rfl, rfl, Nat.le_refl _, fun _ _ _ _ => rfl⟩
theorem ButN.trans {n b e : Nat} {w w' w'' : World} (h : ButN n b e w w') (g : ButN n b e w' w'') : ButN n b e w w'' :=
  ⟨g.os.trans h.os, g.tape.trans h.tape, g.output.trans h.output, Nat.le_trans h.size g.size, fun k hk h1 h2 => (g.block k hk h1 h2).trans (h.block k hk h1 h2)⟩
theorem ButN.of2 {n b e : Nat} {w w' : World} (h : But2 b e w w') (hn : n ≤ w.heap.size) : ButN n b e w w' := ⟨h.os, h.tape, h.output, h.size, fun k hk => h.block k (Nat.lt_of_lt_of_le hk hn)⟩
theorem ButN.of1 {n b e : Nat} {w w' : World} (h : But b w w') (hn : n ≤ w.heap.size) : ButN n b e w w' := ButN.of2 (But2.ofBut h) hn
theorem ButN.below {n b e : Nat} {w w' : World} (h : Below n w w') : ButN n b e w w' := ⟨h.os, h.tape, h.output, h.size, fun k hk _ _ => h.block k hk⟩
theorem own_not {w : World} {base size n b : Nat} {e : TypeId} {v : Value} {xs : List Value} (h : w.ownsRow base e size v n xs) (hb : b < base) : v.ownBlock = none ∨ v.ownBlock ≠ some b := by
  cases hv : v.ownBlock with
  | none => exact .inl rfl
  | some x =>
    refine .inr (fun h2 => ?_)
    cases h2
    have := (h.lt _ hv).1
    omega

/-- a message lies in block e; its entries in a row from n on -/
structure MsgIn (n e : Nat) (m : Msg) (v : Value) (w : World) : Prop where
  block : w.heap[e]? = some (.cells (m.cells v) MsgT (0, 0))
  row : w.ownsRow n EntT 11 v m.entries.length (m.entries.flatMap fun e => e.cells.toList)
theorem MsgIn.slice {n e : Nat} {m : Msg} {v : Value} {w : World} (h : MsgIn n e m v w) : ∃ a c, v = .slice a m.entries.length c := by
  rcases h.row.2 with ⟨hv, h0⟩ | ⟨g, cap, cur, hv, _⟩
  · exact ⟨none, 0, by rw [hv, h0]⟩
  · exact ⟨_, _, hv⟩
theorem MsgIn.but {n b e : Nat} {m : Msg} {v : Value} {w w' : World} (h : MsgIn n e m v w) (hb : But b w w') (hbn : b < n) (hbe : b ≠ e) : MsgIn n e m v w' :=
  ⟨(hb.block e (heap_lt h.block) (fun h => hbe (Option.some.inj h).symm)).trans h.block, h.row.kept hb (own_not h.row hbn)⟩

set_option maxRecDepth 100000 in
set_option maxHeartbeats 4000000 in
theorem ents_take (b c e n0 : Nat) (r : Rd) (m : Msg) (sv : Value) (t : TypeId) (hbe : b ≠ e) (hbc : b ≠ c) (hce : c ≠ e) (hbn : b < n0) (hcn : c < n0) (hen : e < n0) (hm : m.entries.length ≤ 10000) (hl : r.1.length ≤ 1099511627776) (w : World) (hnw : n0 ≤ w.heap.size)
    (h : RdAt w b r) (hp : PtrAt w c e 9 t) (hin : MsgIn n0 e m sv w) :
    Calls Tryz.prog 111 #[.pointer (some ⟨b, 0, none⟩), .pointer (some ⟨c, 0, none⟩)] w fun x w' => x = .returned (.tuple #[]) ∧ RdAt w' b (takeE m r).2 ∧ (∃ v', MsgIn n0 e (takeE m r).1 v' w') ∧ ButN n0 b e w w' := by
  have HV := Lib.hid (var_any b r hl w h)
  have hvl := rdVar_less r
  have hdef : takeE m r = if (rdVar r).1 = 0 ∨ 64 < (rdVar r).1 then (m, rdFail) else ({ m with entries := m.entries ++ (entsN (rdVar r).1 (rdVar r).2).1 }, (entsN (rdVar r).1 (rdVar r).2).2) := rfl
  generalize takeE m r = y at *
  generalize rdVar r = x at *
  obtain ⟨n, r2⟩ := x
  have hrl : r2.1.length ≤ 1099511627776 := Nat.le_trans hvl hl
  have HD := Lib.hid hdef
  have HP := Lib.hid hp
  have HIN := Lib.hid hin
  obtain ⟨i0, hi0, hz0, hz1, hz2⟩ := info_parts infoEnt
  have HI := Lib.hid hi0
  clear hi0 h hp hin hdef hvl
  simp only at HD hrl
  go_enter Tryz.func111, Tryz.ntmps111
  go_wp2_with fail
  refine HV.out.mono ?_
  rintro x w1 ⟨rfl, h1, hb1⟩
  have H1 := Lib.hid h1
  have HIN1 := Lib.hid (HIN.out.but hb1 hbn hbe)
  have HB1 := Lib.hid (ButN.of1 hb1 hnw : ButN n0 b e w w1)
  have hnw1 : n0 ≤ w1.heap.size := Nat.le_trans hnw hb1.size
  have HP1 := Lib.hid (((hb1.block c (by omega) (fun h => hbc (Option.some.inj h).symm)).trans HP.out : PtrAt w1 c e 9 t))
  clear h1 hb1 HIN HV
  by_cases hn : n = 0 ∨ 64 < n
  · have HQ := Lib.hid (HD.out.trans (if_pos hn))
    have HF := Lib.hid (fail_any b r2 w1 H1.out)
    rcases hn with rfl | hn
    · go_wp2_with fail
      refine HF.out.mono ?_
      rintro x w2 ⟨rfl, h2, hb2⟩
      go_wp2_with fail
      refine ⟨rfl, .tuple #[], results_none rfl _ _ _, rfl, ?_, ?_, HB1.out.trans (ButN.of1 hb2 hnw1)⟩
      · rw [HQ.out]; exact h2
      · rw [HQ.out]; exact ⟨sv, HIN1.out.but hb2 hbn hbe⟩
    · have hn2 : (64 : Int) < (n : Int) := by omega
      have hz : ((n : Int) == 0) = false := beq_eq_false_iff_ne.2 (by omega)
      go_wp2_with fail
      refine HF.out.mono ?_
      rintro x w2 ⟨rfl, h2, hb2⟩
      go_wp2_with fail
      refine ⟨rfl, .tuple #[], results_none rfl _ _ _, rfl, ?_, ?_, HB1.out.trans (ButN.of1 hb2 hnw1)⟩
      · rw [HQ.out]; exact h2
      · rw [HQ.out]; exact ⟨sv, HIN1.out.but hb2 hbn hbe⟩
  · have HQ := Lib.hid (HD.out.trans (if_neg hn))
    have hz : ((n : Int) == 0) = false := beq_eq_false_iff_ne.2 (by omega)
    have hn2 : ¬ (64 : Int) < (n : Int) := by omega
    have hn64 : n ≤ 64 := by omega
    clear hn HD
    go_wp2_with fail
    go_loopw [15] (fun i wr => ∃ (k : Nat) (v' : Value), k ≤ n ∧ i = .int .u64 k ∧ RdAt wr b (entsN k r2).2 ∧ MsgIn n0 e { m with entries := m.entries ++ (entsN k r2).1 } v' wr ∧ ButN n0 b e w wr) (fun i _ => n - (intOf i).toNat)
    case atStart =>
      refine ⟨0, sv, Nat.zero_le _, rfl, H1.out, ?_, HB1.out⟩
      have : (entsN 0 r2).1 = [] := rfl
      rw [this, List.append_nil]
      exact HIN1.out
    case round =>
      obtain ⟨k, v', hk, rfl, hrd, hmi, hbr⟩ := hrel
      by_cases hlt : k < n
      · have hshr := entsN_shrink k r2
        have hsn := entsN_snoc k r2
        have hkl := entsN_len k r2
        generalize entsN k r2 = z at *
        obtain ⟨es, r3⟩ := z
        simp only at hsn hshr hkl hrd hmi
        have hget := secondGet_any b r3 (Nat.le_trans hshr hrl)
        generalize getEnt r3 = q at *
        obtain ⟨y, r4⟩ := q
        simp only at hsn
        obtain ⟨va, vc, rfl⟩ := hmi.slice
        have hlen : (m.entries ++ es).length = m.entries.length + k := by simp [hkl]
        have hrow := hmi.row
        have hblk := hmi.block
        simp only [hlen] at hrow hblk
        have hnwr : n0 ≤ wr.heap.size := Nat.le_trans hnw hbr.size
        have q1 : wr.cell? ⟨c, 0, none⟩ = some (.pointer (some ⟨e, 9, none⟩)) := Lib.cell_of_heap ((hbr.block c hcn (by omega) hce).trans HP.out) 0
        have q2 : wr.cell? ⟨e, 9, none⟩ = some (.slice va (m.entries.length + k) vc) := Lib.cell_of_heap hblk 9
        have hS0 : wr.drew.cell? ⟨c, 0, none⟩ = some (.pointer (some ⟨e, 9, none⟩)) ∧ wr.drew.cell? ⟨e, 9, none⟩ = some (.slice va (m.entries.length + k) vc) := ⟨q1, q2⟩
        obtain ⟨y0, y1, y2, y3, y4, y5, y6, y7, y8, y9, y10⟩ := y
        simp only [Ent.val, Ent.cells] at hget
        have HSN := Lib.hid hsn
        clear hsn
        have ROW := Lib.hid hrow
        have HBLK := Lib.hid hblk
        have HBR := Lib.hid hbr
        have HRD := Lib.hid hrd
        have HGET := Lib.hid hget
        have HMI := Lib.hid hmi
        clear hrow hblk hbr hrd hget hmi q1 q2
        go_wp2_with fail
        refine region_D (fun u => u.cell? ⟨c, 0, none⟩ = some (.pointer (some ⟨e, 9, none⟩)) ∧ u.cell? ⟨e, 9, none⟩ = some (.slice va (m.entries.length + k) vc)) [9] 10 (by kernel_rfl) (by rfl) ?_
        refine takeD (i := 0) (v := .pointer (some ⟨e, 9, none⟩)) (by rfl) (by kernel_rfl) (fun _ _ _ h => h) (by rfl) (fun u hu => ?_) hS0 ?_
        · obtain ⟨hu0, hu1⟩ := hu
          go_simp
        simp only [Act.put, List.setIfInBounds_toArray, List.set_cons_zero, List.set_cons_succ]
        refine takeD (i := 1) (v := .pointer (some ⟨e, 9, none⟩)) (by rfl) (by kernel_rfl) (fun _ _ _ h => h) (by rfl) (fun u hu => ?_) hS0 ?_
        · obtain ⟨hu0, hu1⟩ := hu
          go_simp
        simp only [Act.put, List.setIfInBounds_toArray, List.set_cons_zero, List.set_cons_succ]
        refine takeD (i := 2) (v := .pointer (some ⟨e, 9, none⟩)) (by rfl) (by kernel_rfl) (fun _ _ _ h => h) (by rfl) (fun u hu => ?_) hS0 ?_
        · obtain ⟨hu0, hu1⟩ := hu
          go_simp
        simp only [Act.put, List.setIfInBounds_toArray, List.set_cons_zero, List.set_cons_succ]
        refine takeD (i := 3) (v := .slice va (m.entries.length + k) vc) (by rfl) (by kernel_rfl) (fun _ _ _ h => h) (by rfl) (fun u hu => ?_) hS0 ?_
        · obtain ⟨hu0, hu1⟩ := hu
          go_simp
        simp only [Act.put, List.setIfInBounds_toArray, List.set_cons_zero, List.set_cons_succ]
        refine takeD (i := 4) (v := .pointer (some ⟨b, 0, none⟩)) (by rfl) (by kernel_rfl) (fun _ _ _ h => h) (by rfl) (fun u hu => ?_) hS0 ?_
        · obtain ⟨hu0, hu1⟩ := hu
          go_simp
        simp only [Act.put, List.setIfInBounds_toArray, List.set_cons_zero, List.set_cons_succ]
        refine oneD (i := 5) (by rfl) (by kernel_rfl) (by rfl) ?_
        go_simp
        refine (HGET.out wr.drew HRD.out).mono ?_
        rintro _ w2 ⟨rfl, h2, hb2d⟩
        have hb2 : But b wr w2 := ⟨hb2d.os, hb2d.tape, hb2d.output, hb2d.size, hb2d.block⟩
        have hS2 : w2.cell? ⟨c, 0, none⟩ = some (.pointer (some ⟨e, 9, none⟩)) ∧ w2.cell? ⟨e, 9, none⟩ = some (.slice va (m.entries.length + k) vc) := by
          have e1 := hb2.block c (by omega) (fun h => hbc (Option.some.inj h).symm)
          have e2 := hb2.block e (by omega) (fun h => hbe (Option.some.inj h).symm)
          exact ⟨(World.cell?_of_block (w := wr) e1).trans hS0.1, (World.cell?_of_block (w := wr) e2).trans hS0.2⟩
        have hn2w : n0 ≤ w2.heap.size := Nat.le_trans hnwr hb2.size
        have hrow2 : w2.ownsRow n0 EntT 11 (.slice va (m.entries.length + k) vc) (m.entries.length + k) ((m.entries ++ es).flatMap fun e => e.cells.toList) := ROW.out.kept hb2 (own_not ROW.out hbn)
        have hblk2 := (hb2.block e (by omega) (fun h => hbe (Option.some.inj h).symm)).trans HBLK.out
        have HB2 := Lib.hid (HBR.out.trans (ButN.of1 hb2 hnwr))
        refine ⟨hS2, ?_⟩
        try simp only [Act.put, List.setIfInBounds_toArray, List.set_cons_zero, List.set_cons_succ]
        refine oneD (i := 6) (by rfl) (by kernel_rfl) (by rfl) ?_
        go_simp
        have hS2a : (w2.alloc (.cells #[.int .u64 y0, .int .u64 y1, .int .i64 y2, .int .u64 y3, .int .u64 y4, .int .u64 y5, .int .u64 y6, .int .i64 y7, .int .i64 y8, .string y9, .string y10] EntT)).cell? ⟨c, 0, none⟩ = some (.pointer (some ⟨e, 9, none⟩)) ∧ (w2.alloc (.cells #[.int .u64 y0, .int .u64 y1, .int .i64 y2, .int .u64 y3, .int .u64 y4, .int .u64 y5, .int .u64 y6, .int .i64 y7, .int .i64 y8, .string y9, .string y10] EntT)).cell? ⟨e, 9, none⟩ = some (.slice va (m.entries.length + k) vc) := ⟨cell_al hS2.1 _, cell_al hS2.2 _⟩
        refine ⟨hS2a, ?_⟩
        try simp only [Act.put, List.setIfInBounds_toArray, List.set_cons_zero, List.set_cons_succ]
        refine oneD (i := 7) (by rfl) (by kernel_rfl) (by rfl) ?_
        refine wp_append_lies _ _ _ _ (by rfl) n0 EntT i0 Ent.zero.val 11 104 Tryz.underlying24 HI.out hz0 hz1 hz2 rfl (by decide) (.slice va (m.entries.length + k) vc) (m.entries.length + k) _ (by rfl) (hrow2.alloc _)
          ⟨w2.heap.size, 0, none⟩ 1 1 (Ent.cells ⟨y0, y1, y2, y3, y4, y5, y6, y7, y8, y9, y10⟩).toList (by rfl) (by rfl) (World.news_of_block (cs := Ent.cells ⟨y0, y1, y2, y3, y4, y5, y6, y7, y8, y9, y10⟩) (t := EntT) (fr := (0, 0)) (heap_alloc_new w2 _)) (by intro u hu; simp [Ent.cells] at hu; rcases hu with rfl | rfl | rfl | rfl | rfl | rfl | rfl | rfl | rfl | rfl | rfl <;> rfl)
          (by omega) (by unfold maxLen; omega) (by omega) (by simp; omega) _ rfl ?_
        intro g cap w3 hown3 hgrow hat hlt3
        have hB23 : Below n0 w2 w3 := (((Below.refl _ _).alloc (Nat.le_refl _) _).mono hn2w).trans (grown_below hgrow (hrow2.alloc _) (by simp; omega))
        have hS3 : w3.cell? ⟨c, 0, none⟩ = some (.pointer (some ⟨e, 9, none⟩)) ∧ w3.cell? ⟨e, 9, none⟩ = some (.slice va (m.entries.length + k) vc) :=
          ⟨(World.cell?_of_block (w := w2) (hB23.block c hcn)).trans hS2.1, (World.cell?_of_block (w := w2) (hB23.block e hen)).trans hS2.2⟩
        refine ⟨fun _ => hS3, ?_⟩
        try simp only [Act.put, List.setIfInBounds_toArray, List.set_cons_zero, List.set_cons_succ]
        have hblk3 := (hB23.block e hen).trans hblk2
        have hrd3 : RdAt w3 b r4 := (hB23.block b hbn).trans h2
        have hmi3 : MsgIn n0 e { m with entries := m.entries ++ (es ++ [⟨y0, y1, y2, y3, y4, y5, y6, y7, y8, y9, y10⟩]) } (.slice (some ⟨g, 0, none⟩) (m.entries.length + k + 1) cap) (w3.setCell ⟨e, 9, none⟩ (.slice (some ⟨g, 0, none⟩) (m.entries.length + k + 1) cap)) := by
          refine ⟨?_, ?_⟩
          · simp [World.setCell, Array.getElem?_modify, hblk3, Msg.cells]
          · have h1 := hown3.kept (set_grown (w := w3) (b := e) (o := 9) (u := .slice (some ⟨g, 0, none⟩) (m.entries.length + k + 1) cap)) (own_not hown3 hen)
            have e1 : (m.entries ++ (es ++ [(⟨y0, y1, y2, y3, y4, y5, y6, y7, y8, y9, y10⟩ : Ent)])).length = m.entries.length + k + 1 := by simp [hkl]; omega
            have e2 : (m.entries ++ es).flatMap (fun e => e.cells.toList) ++ (Ent.cells ⟨y0, y1, y2, y3, y4, y5, y6, y7, y8, y9, y10⟩).toList = (m.entries ++ (es ++ [(⟨y0, y1, y2, y3, y4, y5, y6, y7, y8, y9, y10⟩ : Ent)])).flatMap (fun e => e.cells.toList) := by
              rw [← List.append_assoc, List.flatMap_append]; simp
            rw [e2] at h1
            show World.ownsRow _ n0 EntT 11 _ (m.entries ++ (es ++ [(⟨y0, y1, y2, y3, y4, y5, y6, y7, y8, y9, y10⟩ : Ent)])).length _
            rw [e1]
            exact h1
        have hbn3 : ButN n0 b e w (w3.setCell ⟨e, 9, none⟩ (.slice (some ⟨g, 0, none⟩) (m.entries.length + k + 1) cap)) :=
          (HB2.out.trans (ButN.below hB23)).trans (ButN.of2 (But2.set (b := b)) (by have := hB23.size; omega))
        have hrd4 : RdAt (w3.setCell ⟨e, 9, none⟩ (.slice (some ⟨g, 0, none⟩) (m.entries.length + k + 1) cap)) b r4 := hrd3.set_far hbe
        have f3 := Lib.frozen_of_heap hblk3 9
        have q2 := hS3.2
        have HM3 := Lib.hid hmi3
        have HBN3 := Lib.hid hbn3
        have HRD4 := Lib.hid hrd4
        clear hmi3 hbn3 hrd4 hrd3 hblk3 hrow2 hblk2 hown3 hgrow hat h2 hb2 hb2d hS2 hS2a hB23 HB2
        refine oneD (i := 8) (by rfl) (by kernel_rfl) (by rfl) ?_
        go_simp
        try refine ⟨hS3, ?_⟩
        try simp only [Act.put, List.setIfInBounds_toArray, List.set_cons_zero, List.set_cons_succ]
        refine oneD (i := 9) (by rfl) (by kernel_rfl) (by rfl) ?_
        go_simp
        refine ⟨by kernel_rfl, NoPanic.normal ?_⟩
        try simp only [Act.put, List.setIfInBounds_toArray, List.set_cons_zero, List.set_cons_succ]
        go_wp2_with fail
        go_roundw
        case rel => exact ⟨k + 1, _, by omega, by go_num, by rw [HSN.out]; exact HRD4.out, by rw [HSN.out]; exact HM3.out, HBN3.out⟩
        case measure => simp [intOf]; omega
      · have hke : k = n := by omega
        subst hke
        have HRD := Lib.hid hrd
        have HMI := Lib.hid hmi
        have HBR := Lib.hid hbr
        clear hrd hmi hbr
        go_wp2_with fail
        refine ⟨rfl, .tuple #[], results_none rfl _ _ _, rfl, ?_, ?_, HBR.out⟩
        · rw [HQ.out]; exact HRD.out
        · rw [HQ.out]; exact ⟨v', HMI.out⟩

end Go.Proofs.YtbjbgdnjcppjhaaGreatDoor
