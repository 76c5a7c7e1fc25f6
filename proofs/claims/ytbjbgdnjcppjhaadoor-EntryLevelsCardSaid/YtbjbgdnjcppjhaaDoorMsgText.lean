/-
  entry.MsgText over this translation. Conditions: the table of the powers of ten reads as the program lays it; the numbers are of their kinds; the texts of at most 2^20 bytes, at most 2^20 entries. By an AI agent.
-/
import Derived.Test.YtbjbgdnjcppjhaaDoorOwn
namespace Go.Proofs.YtbjbgdnjcppjhaaDoor
open Go.RowKit Go.Sort
set_option linter.unusedVariables false
set_option linter.unusedSimpArgs false

structure Msg.fine (m : Msg) : Prop where
  wf : m.wf
  snap : m.snap.size ≤ 1048576
  count : m.entries.length ≤ 1048576
  each : ∀ e ∈ m.entries, e.data.size ≤ 1048576 ∧ e.old.size ≤ 1048576

theorem textL_len (e : Ent) (h : e.wf) (hd : e.data.size ≤ 1048576) (ho : e.old.size ≤ 1048576) : (textL e).length ≤ 14680600 := by
  have h1 := dec_len _ h.term.1 h.term.2
  have h2 := dec_len _ h.index.1 h.index.2
  have h3 := itoa_len _ h.kind.1 h.kind.2
  have hp : ∀ c, (e.piece c).length ≤ 2097155 := fun c => by
    have := fldT_len e h hd ho c
    unfold Ent.piece
    split
    · simp only [List.length_append, List.length_cons, List.length_nil]; omega
    · simp
  have p1 := hp 99
  have p2 := hp 98
  have p3 := hp 109
  have p4 := hp 110
  have p5 := hp 108
  have p6 := hp 100
  have p7 := hp 111
  unfold textL Ent.headT entOrder
  simp only [List.flatMap_cons, List.flatMap_nil, List.length_append, List.length_cons, List.length_nil]
  omega

/-- the texts of a message's parts, in their order -/
def Msg.parts (m : Msg) : List (List UInt8) := [dec m.index, dec m.prev, dec m.commit, dec m.mark, if m.ok then [49] else [48], [91] ++ Lib.join (m.entries.map textL) [59] ++ [93], hexL m.snap.data.toList]

/-- texts, as values -/
def strVals (l : List (List UInt8)) : List Value := l.map fun x => .string ⟨x.toArray⟩
theorem strVals_snoc (l : List (List UInt8)) (x : List UInt8) : strVals (l ++ [x]) = strVals l ++ [.string ⟨x.toArray⟩] := by simp [strVals]

/-- the texts of the first k entries, as values -/
def textsTo (l : List Ent) (k : Nat) : List Value := strVals ((l.take k).map textL)

theorem parts_at (m : Msg) (k : Nat) (h : k < 7) : m.parts.getD k [] = m.fldT (msgOrder.getD k 0) ∧ msgOrder.take (k + 1) = msgOrder.take k ++ [msgOrder.getD k 0] := by
  have : k = 0 ∨ k = 1 ∨ k = 2 ∨ k = 3 ∨ k = 4 ∨ k = 5 ∨ k = 6 := by omega
  rcases this with rfl | rfl | rfl | rfl | rfl | rfl | rfl <;> exact ⟨rfl, rfl⟩
def msgOrderB : ByteArray := ⟨#[105, 112, 116, 107, 121, 101, 115]⟩
theorem msgOrder_cut (k : Nat) (h : k < 7) : (ByteArray.mk #[105, 112, 116, 107, 121, 101, 115]).extract k (k + 1) = ⟨#[msgOrder.getD k 0]⟩ := by
  have : k = 0 ∨ k = 1 ∨ k = 2 ∨ k = 3 ∨ k = 4 ∨ k = 5 ∨ k = 6 := by omega
  rcases this with rfl | rfl | rfl | rfl | rfl | rfl | rfl <;> decide

/-- the text, letter by letter -/
def msgSo (m : Msg) (k : Nat) (o : List UInt8) : Prop := o = m.headT ++ (msgOrder.take k).flatMap m.piece ∧ o.length ≤ 200 + k * 15393742291000
theorem msgSo_step {m : Msg} {k : Nat} {o : List UInt8} (hs : msgSo m k o) (h : k < 7) (x : List UInt8) (hx : m.piece (msgOrder.getD k 0) = x) (hl : x.length ≤ 15393742291000) : msgSo m (k + 1) (o ++ x) := by
  obtain ⟨h1, h2⟩ := hs
  refine ⟨?_, by rw [List.length_append, Nat.add_mul]; omega⟩
  rw [h1, (parts_at m k h).2, List.flatMap_append]
  simp only [List.flatMap_cons, List.flatMap_nil, List.append_nil, hx, List.append_assoc]
theorem msgSo_in {m : Msg} {k : Nat} {o : List UInt8} (hs : msgSo m k o) (h : k < 7) (hin : (msgL m.kind).contains (msgOrder.getD k 0) = true) (hf : (m.parts.getD k []).length ≤ 15393742290990) :
    msgSo m (k + 1) (o ++ ([32, msgOrder.getD k 0, 61] ++ m.parts.getD k [])) :=
  msgSo_step hs h _ (by unfold Msg.piece; rw [if_pos hin, (parts_at m k h).1]) (by generalize m.parts.getD k [] = f at *; simp only [List.length_append, List.length_cons, List.length_nil]; omega)
theorem msgSo_out {m : Msg} {k : Nat} {o : List UInt8} (hs : msgSo m k o) (h : k < 7) (hin : (msgL m.kind).contains (msgOrder.getD k 0) = false) : msgSo m (k + 1) o := by
  have := msgSo_step hs h [] (by unfold Msg.piece; rw [hin]; rfl) (Nat.zero_le _)
  rwa [List.append_nil] at this
theorem parts_len (m : Msg) (h : m.fine) (hj : (Lib.join (m.entries.map textL) [59]).length ≤ 15393742290944) (k : Nat) : (m.parts.getD k []).length ≤ 15393742290990 := by
  have h1 := dec_len _ h.wf.index.1 h.wf.index.2
  have h2 := dec_len _ h.wf.prev.1 h.wf.prev.2
  have h3 := dec_len _ h.wf.commit.1 h.wf.commit.2
  have h4 := dec_len _ h.wf.mark.1 h.wf.mark.2
  have h5 : (if m.ok then [49] else [48] : List UInt8).length = 1 := by split <;> rfl
  have h7 : (hexL m.snap.data.toList).length ≤ 2097152 := by
    rw [hexL_length]; have := h.snap; have : m.snap.data.toList.length = m.snap.size := rfl; omega
  unfold Msg.parts
  match k with
  | 0 => exact Nat.le_trans h1 (by decide)
  | 1 => exact Nat.le_trans h2 (by decide)
  | 2 => exact Nat.le_trans h3 (by decide)
  | 3 => exact Nat.le_trans h4 (by decide)
  | 4 => exact Nat.le_trans (Nat.le_of_eq h5) (by decide)
  | 5 =>
    show ([91] ++ Lib.join (m.entries.map textL) [59] ++ [93]).length ≤ _
    simp only [List.length_append, List.length_cons, List.length_nil]; omega
  | 6 => exact Nat.le_trans h7 (by decide)
  | k + 7 => exact Nat.zero_le _

noncomputable def msgTextOps : Array Oper := regionOf Tryd.f28 12
theorem msgTextFree : (Region.noSelect msgTextOps && Region.free .any msgTextOps (Array.replicate 23 false) 22 && (Region.ready .any msgTextOps (Array.replicate 23 false)).contains 22) = true := by kernel_rfl
theorem msgTextSeg : (segOk .any msgTextOps ((Array.replicate 23 false).setIfInBounds 22 true) (List.range' 0 20) 20 && decide (0 + 20 ≤ msgTextOps.size)) = true := by kernel_rfl
theorem msgTextTail : (seqI .any msgTextOps (List.range' 20 2) (setAll ((Array.replicate 23 false).setIfInBounds 22 true) (List.range' 0 20)) && decide (20 + 2 ≤ msgTextOps.size)) = true := by kernel_rfl

set_option maxRecDepth 100000 in
set_option maxHeartbeats 4000000 in
/-- entry.MsgText (P4.3) -/
theorem msgText_any (m : Msg) (s : Value) (h : m.fine) (w : World) (ht : Tabs w) (hs : EntsAt w s m.entries) :
    Calls Tryd.prog 28 #[.agg (m.cells s)] w fun x w' => x = .returned (.string ⟨(msgTextL m).toArray⟩) ∧ Below w.heap.size w w' := by
  obtain ⟨i0, hi, hz0, hz1, hz2⟩ := info_parts infoStr
  have hfine := Lib.hid h
  obtain ⟨⟨⟨k0, k1⟩, ⟨f0, f1⟩, ⟨o0, o1⟩, ⟨t0, t1⟩, ⟨x0, x1⟩, ⟨p0, p1⟩, ⟨c0, c1⟩, ⟨m0, m1⟩, _, hew⟩, hsn, hcn, hea⟩ := h
  have htx : ∀ e ∈ m.entries, ∀ W, Tabs W → Calls Tryd.prog 17 #[e.val] W fun x w' => x = .returned (.string ⟨(textL e).toArray⟩) ∧ Below W.heap.size W w' := fun e he W hW => text_any e (hew e he) (hea e he).1 (hea e he).2 W hW
  have hlen : (Lib.join (m.entries.map textL) [59]).length ≤ 15393742290944 := by
    have := join_le (m.entries.map textL) [59] 14680600 (fun x hx => by
      obtain ⟨e, he, rfl⟩ := List.mem_map.1 hx
      exact textL_len e (hew e he) (hea e he).1 (hea e he).2)
    rw [List.length_map] at this
    refine Nat.le_trans this (Nat.le_trans (Nat.mul_le_mul_left _ hcn) (by decide))
  have hpl := parts_len m hfine.out hlen
  obtain ⟨sa, sc, hs1, hs2, hs3, hs4⟩ := id hs
  have hT : msgTextL m = m.headT ++ msgOrder.flatMap m.piece := rfl
  have hH : m.headT = Lib.itoa m.kind ++ [32] ++ Lib.itoa m.frm ++ [62] ++ Lib.itoa m.to ++ [32] ++ dec m.term := rfl
  have hP : m.parts = [dec m.index, dec m.prev, dec m.commit, dec m.mark, if m.ok then [49] else [48], [91] ++ Lib.join (m.entries.map textL) [59] ++ [93], hexL m.snap.data.toList] := rfl
  generalize hres : msgTextL m = res at *
  have HT := Lib.hid hT
  have HH := Lib.hid hH
  have HP := Lib.hid hP
  have HX := Lib.hid htx
  have HL := Lib.hid hlen
  have HPL := Lib.hid hpl
  have l1 := itoa_len _ k0 k1
  have l2 := itoa_len _ f0 f1
  have l3 := itoa_len _ o0 o1
  have l4 := dec_len _ t0 t1
  have HS := Lib.hid hs
  have HI := Lib.hid hi
  clear hres hT hH hP htx hlen hew hea hs4 hs hi hpl
  rw [hs1]
  simp only [Msg.cells]
  go_enter Tryd.func28, Tryd.ntmps28
  go_wp2_with fail
  refine (msgFields_any _ _).mono ?_
  rintro x w1 ⟨rfl, hb1⟩
  obtain ⟨hc1, hf1⟩ := bcell hb1
  go_wp2_with fail
  have hsz1 : w.heap.size < w1.heap.size := by have := hb1.size; simp at this; omega
  have hb01 : Below w.heap.size w w1 := ((Below.refl _ _).alloc (Nat.le_refl _) _).trans (hb1.mono (by simp))
  have ht1 := ht.next hb01
  have hs1' := HS.out.below hb01
  rw [hs1] at hs1'
  have HE := Lib.hid hs1'
  have hkk : (m.entries.take 0).map textL = [] := rfl
  go_loopw [5, 22] (fun x i wr => ∃ k : Nat, k ≤ m.entries.length ∧ i = .int .i64 k ∧ wr.ownsRow w1.heap.size StrT 1 x k (textsTo m.entries k) ∧ Below w1.heap.size w1 wr) (fun x i _ => m.entries.length - (intOf i).toNat)
  case atStart => exact ⟨0, Nat.zero_le _, rfl, World.ownsRow_nil _ _ _ _, Below.refl _ _⟩
  case round =>
    obtain ⟨k, hk, rfl, hown, hbr⟩ := hrel
    by_cases hlt : k < m.entries.length
    · obtain ⟨a', c', q1, _, _, q4⟩ := HE.out
      obtain ⟨B, o', q5, q6, q7⟩ := q4 (by intro h0; rw [h0] at hlt; simp at hlt)
      cases q1
      subst q5
      have he := (q7 k hlt).below hbr
      have hstep : textsTo m.entries (k + 1) = textsTo m.entries k ++ [.string ⟨(textL m.entries[k]).toArray⟩] := by
        unfold textsTo
        rw [take_snoc m.entries k hlt, List.map_append, List.map_singleton, strVals_snoc]
      have hcall := HX.out m.entries[k] (List.getElem_mem hlt)
      generalize m.entries[k] = e at *
      rw [show e.val = .agg #[.int .u64 e.term, .int .u64 e.index, .int .i64 e.kind, .int .u64 e.client, .int .u64 e.seq, .int .u64 e.block, .int .u64 e.many, .int .i64 e.node, .int .i64 e.level, .string e.data, .string e.old] from rfl] at hcall
      have HC := Lib.hid hcall
      have HST := Lib.hid hstep
      have HO := Lib.hid hown
      clear hcall hstep hown q7
      obtain ⟨b0, b1, b2, b3, b4, b5, b6, b7, b8, b9, b10⟩ := he
      go_wp2_with fail
      refine (HC.out _ ((ht1.next hbr).alloc _)).mono ?_
      rintro x w2 ⟨rfl, hb2⟩
      have hbr2 : Below w1.heap.size w1 w2 := hbr.trans ((((Below.refl _ _).alloc (Nat.le_refl _) _).trans (hb2.mono (by simp))).mono hbr.size)
      have hown2 := ownsRow_below (HO.out.alloc _) hb2
      have hb12 := hbr2.size
      clear b0 b1 b2 b3 b4 b5 b6 b7 b8 b9 b10 HC HO hb2 HE q4 hs1'
      go_wp2_with (at_builtin; refine wpList_append_own _ rfl _ _ 61 rfl w1.heap.size StrT i0 (.string ⟨#[]⟩) 1 16 Tryd.underlying61 HI.out hz0 hz1 hz2 rfl (by decide) _ _ _ rfl (hown2.alloc _) ⟨w2.heap.size, 0, none⟩ 1 1 [.string ⟨(textL e).toArray⟩] rfl rfl ?c1 ?c2 ?c3 ?c4 ?c5 ?_)
      case c1 => exact cell_one_new _ _ _
      case c2 => intro u hu; simp at hu; subst hu; rfl
      case c3 => unfold maxLen; omega
      case c4 => omega
      case c5 => simp; omega
      intro v' w3 hown' hgrow _
      have hb3 := grown_below hgrow (hown2.alloc _) (by simp; omega)
      have hb13 : Below w1.heap.size w1 w3 := (hbr2.trans (((Below.refl _ _).alloc (Nat.le_refl _) _).mono hb12)).trans hb3
      rw [← HST.out] at hown'
      have HO' := Lib.hid hown'
      clear hown' hgrow hown2 HST
      go_wp2_with fail
      go_roundw
      case rel => exact ⟨k + 1, by omega, by go_num, HO'.out, hb13⟩
      case measure => simp [intOf]; omega
    · have hown' : wr.ownsRow w1.heap.size StrT 1 u5 (m.entries.map textL).length (strVals (m.entries.map textL)) := by
        rw [List.length_map]
        have : k = m.entries.length := by omega
        subst this
        unfold textsTo at hown
        rw [List.take_length] at hown
        exact hown
      have HO := Lib.hid hown'
      have htr := ht1.next hbr
      have hb0r := hb01.trans (hbr.mono hb01.size)
      have g0 := fun o => hbr.cell (p := ⟨w.heap.size, o, none⟩) hsz1
      simp only [hc1 _ _ (show w.heap.size < (w.alloc _).heap.size by simp)] at g0
      have gk : wr.cell? ⟨w.heap.size, 0, none⟩ = some (.int .i64 m.kind) := by rw [g0]; simp
      have gf : wr.cell? ⟨w.heap.size, 1, none⟩ = some (.int .i64 m.frm) := by rw [g0]; simp
      have go : wr.cell? ⟨w.heap.size, 2, none⟩ = some (.int .i64 m.to) := by rw [g0]; simp
      have gt : wr.cell? ⟨w.heap.size, 3, none⟩ = some (.int .u64 m.term) := by rw [g0]; simp
      have gx : wr.cell? ⟨w.heap.size, 4, none⟩ = some (.int .u64 m.index) := by rw [g0]; simp
      have gp : wr.cell? ⟨w.heap.size, 5, none⟩ = some (.int .u64 m.prev) := by rw [g0]; simp
      have gc : wr.cell? ⟨w.heap.size, 6, none⟩ = some (.int .u64 m.commit) := by rw [g0]; simp
      have gm : wr.cell? ⟨w.heap.size, 7, none⟩ = some (.int .u64 m.mark) := by rw [g0]; simp
      have gy : wr.cell? ⟨w.heap.size, 8, none⟩ = some (.bool m.ok) := by rw [g0]; simp
      have gs : wr.cell? ⟨w.heap.size, 10, none⟩ = some (.string m.snap) := by rw [g0]; simp
      have hP := HP.out
      clear hown' hown hb1 hc1 hf1 HE hs1' hkk HP g0
      have hesl : (m.entries.map textL).length ≤ 140737488355328 := by rw [List.length_map]; omega
      generalize m.entries.map textL = es at *
      cases hok : m.ok
      all_goals
        rw [hok] at hP gy
        simp only [Bool.false_eq_true, if_false, if_true] at hP
        have HP := Lib.hid hP
        clear hP
        go_wp2_with fail
      all_goals
        have d0 := cell_regrown gk
        have d1 := cell_regrown gf
        have d2 := cell_regrown go
        have d3 := cell_regrown gt
        refine wp_region_quiet_below (by kernel_rfl) (by kernel_rfl) ?_
        repeat (go_big_quiet_step (first | (go_at_call 43; exact meetB fun U hb => itoa_any _ (by assumption) (by assumption) U (htr.next hb)) | (go_at_call 44; exact meetB fun U hb => number_any _ (by assumption) (by assumption) U (htr.next hb))))
        refine wpQuiet_nil ?_
        intro w2 hw2
        obtain ⟨p2, hw2⟩ := hw2
        have hb2 := below_regrown wr p2.d p2.os
        rw [← hw2] at hb2
        clear hw2 d0 d1 d2 d3
        have hh2 : msgSo m 0 (Lib.itoa m.kind ++ [32] ++ Lib.itoa m.frm ++ [62] ++ Lib.itoa m.to ++ [32] ++ dec m.term) := by
          refine ⟨by rw [HH.out]; simp, ?_⟩
          simp only [List.length_append, List.length_cons, List.length_nil]; omega
        have HO2 := Lib.hid (ownsRow_below HO.out hb2)
        have ht2 := htr.next hb2
        have hb02 := hb0r.trans (hb2.mono hb0r.size)
        have d4 := cell_regrown (cell_later hb2 gx)
        have d5 := cell_regrown (cell_later hb2 gp)
        have d6 := cell_regrown (cell_later hb2 gc)
        have d7 := cell_regrown (cell_later hb2 gm)
        have d10 := cell_regrown (cell_later hb2 gs)
        clear gk gf go gt gx gp gc gm gy gs hb2 hb0r htr HO HH ht1 hbr hb01
        go_wp2_with fail
        have hjl := HL.out
        refine wp_region_segs 23 (by kernel_rfl) (by rfl) ?_
        intro w4 hw4
        refine any_move (i := 22) (.int .i64 0) (by rfl) (by rfl) (by rfl) (by exact msgTextFree) (fun _ _ _ h => h) (by rfl) (by rfl) ?_
        simp only [Act.put, List.setIfInBounds_toArray, List.set_cons_zero, List.set_cons_succ]
        refine seg_as w2 0 20 20 2 (R := msgTextOps) (by kernel_rfl) msgTextSeg ?_ (by rfl) w4 hw4
        simp only [List.drop_zero, List.take_succ_cons, List.take_zero]
        repeat (go_big_quiet_step (first | (go_at_call 44; exact meetB fun U hb => number_any _ (by assumption) (by assumption) U (ht2.next hb)) | (go_at_call 53; exact meetB fun U hb => hex_any _ hsn U) | (go_at_call 52; exact meetB fun U hb => join_any w1.heap.size u5 es [59] U (ownsRow_below HO2.out hb) hesl (Nat.le_trans HL.out (by decide)))))
        refine wpQuiet_nil ?_
        intro w5 hw5
        obtain ⟨p5, hw5⟩ := hw5
        have hb5 := below_regrown w2 p5.d p5.os
        rw [← hw5] at hb5
        clear hw5 hw4 d4 d5 d6 d7 d10 hjl
        refine tail_at 20 2 (by exact msgTextTail) ?_
        simp only [List.drop_succ_cons, List.drop_zero, List.take_succ_cons, List.take_zero]
        go_wp2_with fail
        refine NoPanic.normal ?_
      generalize hw6 : w5.alloc (.cells #[.string ⟨(dec m.index).toArray⟩, .string ⟨(dec m.prev).toArray⟩, .string ⟨(dec m.commit).toArray⟩, .string ⟨(dec m.mark).toArray⟩, .string ⟨#[48]⟩, .string (⟨#[91]⟩ ++ ⟨(Lib.join es [59]).toArray⟩ ++ ⟨#[93]⟩), .string ⟨(hexL m.snap.data.toList).toArray⟩] StrT) = w6
      rotate_left
      generalize hw6 : w5.alloc (.cells #[.string ⟨(dec m.index).toArray⟩, .string ⟨(dec m.prev).toArray⟩, .string ⟨(dec m.commit).toArray⟩, .string ⟨(dec m.mark).toArray⟩, .string ⟨#[49]⟩, .string (⟨#[91]⟩ ++ ⟨(Lib.join es [59]).toArray⟩ ++ ⟨#[93]⟩), .string ⟨(hexL m.snap.data.toList).toArray⟩] StrT) = w6
      all_goals
        have hcell : ∀ j, j < 7 → w6.cell? ⟨w5.heap.size, j, none⟩ = some (.string ⟨(m.parts.getD j []).toArray⟩) := by
          intro j hj
          rw [← hw6, HP.out]
          have : j = 0 ∨ j = 1 ∨ j = 2 ∨ j = 3 ∨ j = 4 ∨ j = 5 ∨ j = 6 := by omega
          rcases this with rfl | rfl | rfl | rfl | rfl | rfl | rfl <;> simp [one_sum]
        have hb6 : Below w.heap.size w w6 := by
          rw [← hw6]
          exact (hb02.trans (hb5.mono hb02.size)).trans (((Below.refl _ _).alloc (Nat.le_refl _) _).mono (hb02.trans (hb5.mono hb02.size)).size)
        clear hw6 hb02 hb5 HO2 ht2 HL HP HX
        go_wp2_with fail
        go_loopw [9, 74] (fun x i wr => ∃ (k : Nat) (o : List UInt8), k ≤ 7 ∧ i = .int .i64 k ∧ x = .string ⟨o.toArray⟩ ∧ msgSo m k o ∧ Below w6.heap.size w6 wr) (fun x i _ => 7 - (intOf i).toNat)
        case atStart => exact ⟨0, _, by omega, rfl, by simp only [one_sum], hh2, Below.refl _ _⟩
        case round =>
          obtain ⟨k, o, hk, rfl, rfl, hso, hbr⟩ := hrel
          by_cases hlt : k < 7
          · have hcut := msgOrder_cut k hlt
            have hin := fun h => msgSo_in hso hlt h (HPL.out k)
            have hout := fun h => msgSo_out hso hlt h
            have hlen := HPL.out k
            have holen := hso.2
            have hcl := cell_later hbr (hcell k hlt)
            have hcon := fun W => contains_any (msgL m.kind) (msgOrder.getD k 0) W
            generalize m.parts.getD k [] = part at *
            generalize msgOrder.getD k 0 = c at *
            have HIN := Lib.hid hin
            have HOUT := Lib.hid hout
            clear hin hout hso hh2
            cases hc : (msgL m.kind).contains c
            all_goals
              rw [hc] at hcon
            · have HSO := Lib.hid (HOUT.out hc)
              clear HOUT HIN hc
              go_wp2_with fail
              refine (hcon _).mono ?_
              rintro x w7 ⟨rfl, rfl⟩
              go_wp2_with fail
              go_roundw
              case rel => exact ⟨k + 1, o, by omega, by go_num, rfl, HSO.out, hbr⟩
              case measure => simp [intOf]; omega
            · have HSO := Lib.hid (HIN.out hc)
              clear HOUT HIN hc
              go_wp2_with fail
              refine (hcon _).mono ?_
              rintro x w7 ⟨rfl, rfl⟩
              go_wp2_with fail
              go_roundw
              case rel => exact ⟨k + 1, _, by omega, by go_num, by simp only [one_sum]; rfl, by simpa using HSO.out, hbr⟩
              case measure => simp [intOf]; omega
          · have hk7 : k = 7 := by omega
            subst hk7
            have hres : o = res := by rw [HT.out, hso.1]; rfl
            have HR := Lib.hid hres
            clear hres
            go_wp2_with fail
            go_ret
            exact ⟨by rw [HR.out]; rfl, hb6.trans (hbr.mono hb6.size)⟩

end Go.Proofs.YtbjbgdnjcppjhaaDoor
