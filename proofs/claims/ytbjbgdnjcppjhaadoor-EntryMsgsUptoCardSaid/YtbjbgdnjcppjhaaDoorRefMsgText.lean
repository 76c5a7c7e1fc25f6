/-
  pintleref04's MsgText over this translation. Condition: the message is fine (numbers of their kinds, texts of at most 2^20 bytes, at most 2^20 entries). By an AI agent.
-/
import Derived.Test.YtbjbgdnjcppjhaaDoorRefText
import Derived.Test.YtbjbgdnjcppjhaaDoorMsgText
import Derived.Test.YtbjbgdnjcppjhaaDoorNoteP
import Derived.Deep.Cut
import Derived.Deep.CutRange
namespace Go.Proofs.YtbjbgdnjcppjhaaDoor
open Go.RowKit Go.Sort
set_option linter.unusedVariables false
set_option linter.unusedSimpArgs false

theorem join_snoc (l : List Ent) (k : Nat) (h : k < l.length) (h0 : 0 < k) : Lib.join ((l.take (k + 1)).map textL) [59] = Lib.join ((l.take k).map textL) [59] ++ ([59] ++ textL l[k]) := by
  rw [take_snoc l k h, List.map_append, List.map_singleton]
  cases hl : (l.take k).map textL with
  | nil =>
    have : ((l.take k).map textL).length = 0 := by rw [hl]; rfl
    rw [List.length_map, List.length_take] at this
    omega
  | cons y r =>
    rw [List.cons_append, Lib.join_cons, Lib.join_cons, List.append_assoc]
    congr 1
    unfold Lib.joinTail
    simp
theorem join_first (l : List Ent) (h : 0 < l.length) : Lib.join ((l.take 1).map textL) [59] = textL l[0] := by
  rw [show l.take 1 = l.take 0 ++ [l[0]] from take_snoc l 0 h]
  exact Lib.join_one _ _

set_option maxRecDepth 100000 in
set_option maxHeartbeats 8000000 in
/-- pintleref04.MsgText (P4.3) -/
theorem refMsgText_any (m : Msg) (s : Value) (h : m.fine) (w : World) (hs : EntsAt w s m.entries) :
    Calls Tryd.prog 29 #[.agg (m.cells s)] w fun x w' => x = .returned (.string ⟨(msgTextL m).toArray⟩) ∧ Below w.heap.size w w' := by
  have hfine := h
  obtain ⟨⟨⟨k0, k1⟩, ⟨f0, f1⟩, ⟨o0, o1⟩, ⟨t0, t1⟩, ⟨x0, x1⟩, ⟨p0, p1⟩, ⟨c0, c1⟩, ⟨m0, m1⟩, _, hew⟩, hsn, hcn, hea⟩ := h
  have htx : ∀ e ∈ m.entries, ∀ W, Calls Tryd.prog 18 #[e.val] W fun x w' => x = .returned (.string ⟨(textL e).toArray⟩) ∧ Below W.heap.size W w' := fun e he W => refText_any e (hew e he) (hea e he).1 (hea e he).2 W
  have htl : ∀ e ∈ m.entries, (textL e).length ≤ 14680600 := fun e he => textL_len e (hew e he) (hea e he).1 (hea e he).2
  have hjk : ∀ k, (Lib.join ((m.entries.take k).map textL) [59]).length ≤ 15393742290944 := fun k => by
    have := join_le ((m.entries.take k).map textL) [59] 14680600 (fun x hx => by
      obtain ⟨e, he, rfl⟩ := List.mem_map.1 hx
      exact htl e (List.mem_of_mem_take he))
    rw [List.length_map, List.length_take] at this
    refine Nat.le_trans this (Nat.le_trans (Nat.mul_le_mul_left _ (show _ ≤ 1048576 by omega)) (by decide))
  have hlen : (Lib.join (m.entries.map textL) [59]).length ≤ 15393742290944 := by
    have := hjk m.entries.length
    rwa [List.take_length] at this
  have hpl := parts_len m hfine hlen
  obtain ⟨sa, sc, rfl, hs2, hs3, hs4⟩ := id hs
  have hT : msgTextL m = m.headT ++ msgOrder.flatMap m.piece := rfl
  have hH : m.headT = Lib.itoa m.kind ++ [32] ++ Lib.itoa m.frm ++ [62] ++ Lib.itoa m.to ++ [32] ++ dec m.term := rfl
  have l1 := itoa_len _ k0 k1
  have l2 := itoa_len _ f0 f1
  have l3 := itoa_len _ o0 o1
  have l4 := dec_len _ t0 t1
  have HN1 := Lib.hid (fun W => refNumber_any m.kind k0 k1 W)
  have HN2 := Lib.hid (fun W => refNumber_any m.frm f0 f1 W)
  have HN3 := Lib.hid (fun W => refNumber_any m.to o0 o1 W)
  have HN4 := Lib.hid (fun W => refDigits_any m.term t0 t1 W)
  have HD0 := Lib.hid (fun W => refDigits_any m.index x0 x1 W)
  have HD1 := Lib.hid (fun W => refDigits_any m.prev p0 p1 W)
  have HD2 := Lib.hid (fun W => refDigits_any m.commit c0 c1 W)
  have HD3 := Lib.hid (fun W => refDigits_any m.mark m0 m1 W)
  have HD6 := Lib.hid (fun W => refHex_any m.snap hsn W)
  obtain ⟨q, hq⟩ : ∃ q : UInt8 → Bool, ∀ c, q c = (msgL m.kind).contains c := ⟨_, fun _ => rfl⟩
  have hhas : ∀ (c : UInt8) W, Calls Tryd.prog 35 #[.string ⟨(msgL m.kind).toArray⟩, .int .u8 c.toNat] W fun x w' => x = .returned (.bool (q c)) ∧ Below W.heap.size W w' := fun c W => hq c ▸ refHas_any (msgL m.kind) (msgL_len m.kind) c W
  have HQ := Lib.hid hq
  have HHAS := Lib.hid hhas
  have HT := Lib.hid hT
  have HH := Lib.hid hH
  have HPL := Lib.hid hpl
  have HTX := Lib.hid htx
  have HTL := Lib.hid htl
  have HJK := Lib.hid hjk
  have HS := Lib.hid hs
  have HCN := Lib.hid hcn
  clear hhas hq hT hH hpl htx htl hjk hlen hs hs4 hew hea hfine hcn hsn
  simp only [Msg.cells]
  go_enter Tryd.func29, Tryd.ntmps29
  go_wp2_with fail
  refine (refMsgFields_any _ _).mono ?_
  rintro x w1 ⟨rfl, hb1⟩
  have he1 : MsgAt w1 w.heap.size m (.slice sa m.entries.length sc) := (msgAt_block (r := []) (heap_alloc_new w (.cells (m.cells (.slice sa m.entries.length sc)) 42))).below hb1
  have hb01 : Below w.heap.size w w1 := ((Below.refl _ _).alloc (Nat.le_refl _) _).trans (hb1.mono (by simp))
  have hsz1 : w.heap.size < w1.heap.size := by have h := hb1.size; simp at h; omega
  have HE1 := Lib.hid he1
  have HB01 := Lib.hid hb01
  obtain ⟨c0, c1, c2, c3, _⟩ := he1
  clear hb1 hb01
  go_wp2_with fail
  have g0 := cell_regrown c0
  have g1 := cell_regrown c1
  have g2 := cell_regrown c2
  have g3 := cell_regrown c3
  have hN1 := HN1.out
  have hN2 := HN2.out
  have hN3 := HN3.out
  have hN4 := HN4.out
  generalize hk : Lib.itoa m.kind = tk at *
  generalize hf : Lib.itoa m.frm = tf at *
  generalize ho : Lib.itoa m.to = tt at *
  generalize hi : dec m.term = ti at *
  refine wp_region_quiet_below (by kernel_rfl) (by kernel_rfl) ?_
  go_big_quiet_step (fail)
  go_big_quiet_step (fail)
  go_big_quiet_step ((go_at_call 46; exact meetB fun U hb => hN1 U))
  go_big_quiet_step (fail)
  go_big_quiet_step (fail)
  go_big_quiet_step (fail)
  go_big_quiet_step ((go_at_call 46; exact meetB fun U hb => hN2 U))
  go_big_quiet_step (fail)
  go_big_quiet_step (fail)
  go_big_quiet_step (fail)
  go_big_quiet_step (fail)
  go_big_quiet_step ((go_at_call 46; exact meetB fun U hb => hN3 U))
  go_big_quiet_step (fail)
  go_big_quiet_step (fail)
  go_big_quiet_step (fail)
  go_big_quiet_step (fail)
  go_big_quiet_step ((go_at_call 47; exact meetB fun U hb => hN4 U))
  repeat (go_big_quiet_step (fail))
  refine wpQuiet_nil ?_
  intro w2 hw2
  obtain ⟨p2, hw2⟩ := hw2
  have hb2 := below_regrown w1 p2.d p2.os
  rw [← hw2] at hb2
  have hstr : (ByteArray.mk tk.toArray ++ ⟨#[32]⟩ ++ ⟨tf.toArray⟩ ++ ⟨#[62]⟩ ++ ⟨tt.toArray⟩ ++ ⟨#[32]⟩ ++ ⟨ti.toArray⟩ : ByteArray) = ⟨m.headT.toArray⟩ := by
    rw [HH.out, show (⟨#[32]⟩ : ByteArray) = ⟨[32].toArray⟩ from rfl, show (⟨#[62]⟩ : ByteArray) = ⟨[62].toArray⟩ from rfl, one_sum, one_sum, one_sum, one_sum, one_sum, one_sum]
  have hso : msgSo m 0 m.headT := by
    refine ⟨by simp [msgOrder], ?_⟩
    rw [HH.out]
    simp only [List.length_append, List.length_cons, List.length_nil]; omega
  have HS0 := Lib.hid hso
  rw [hstr]
  clear hw2 g0 g1 g2 g3 c0 c1 c2 c3 hN1 hN2 hN3 hN4 hso hstr hk hf ho hi HH HN1 HN2 HN3 HN4 l1 l2 l3 l4
  have HB2 := Lib.hid hb2
  clear hb2
  go_wp2_with fail
  refine (HHAS.out 105 _).mono ?_
  rintro x v0 ⟨rfl, hbv⟩
  have hbv0 := HB2.out.trans (hbv.mono HB2.out.size)
  clear hbv
  have HV0 := Lib.hid hbv0
  clear hbv0
  go_upto_if 32 with fail
  go_cut [5, 32] from 33 to 38 (fun s5 sc wx => ∃ o, msgSo m 1 o ∧ s5 = .string ⟨o.toArray⟩ ∧ Below w1.heap.size w1 wx)
  case first =>
    have hol := HS0.out.2
    cases hc : q 105
    · have HC := Lib.hid ((HQ.out 105).symm.trans hc)
      clear hc
      go_wp2_with fail
      go_meet
      exact ⟨m.headT, msgSo_out HS0.out (by decide) HC.out, rfl, HV0.out⟩
    · have HC := Lib.hid ((HQ.out 105).symm.trans hc)
      obtain ⟨c0, c1, c2, c3, c4, c5, c6, c7, c8, c9, c10⟩ := HE1.out.below HV0.out
      have hfl := HPL.out 0
      have hnx := msgSo_in HS0.out (by decide) HC.out (HPL.out 0)
      rw [show msgOrder.getD 0 0 = 105 from rfl, show m.parts.getD 0 [] = dec m.index from rfl] at hnx
      rw [show m.parts.getD 0 [] = dec m.index from rfl] at hfl
      have HNX := Lib.hid hnx
      have hD := HD0.out
      clear hc hnx HPL
      generalize dec m.index = tx at *
      go_wp2_with fail
      refine (hD _).mono ?_
      rintro x u ⟨rfl, hbu⟩
      clear hD c0 c1 c2 c3 c4 c5 c6 c7 c8 c9 c10
      go_wp2_with fail
      go_meet
      exact ⟨_, HNX.out, congrArg Value.string (sum3 m.headT [32, 105, 61] tx), HV0.out.trans (hbu.mono HV0.out.size)⟩
  case rest =>
  obtain ⟨o1, hso, rfl, hbx⟩ := hcut
  have HS1 := Lib.hid hso
  have HB3 := Lib.hid hbx
  clear hso hbx HS0 HV0 HB2
  go_wp2_with fail
  refine (HHAS.out 112 _).mono ?_
  rintro x v1 ⟨rfl, hbv⟩
  have hbv1 := HB3.out.trans (hbv.mono HB3.out.size)
  clear hbv
  have HV1 := Lib.hid hbv1
  clear hbv1
  go_upto_if 40 with fail
  go_cut [5, 40] from 41 to 46 (fun s5 sc wx => ∃ o, msgSo m 2 o ∧ s5 = .string ⟨o.toArray⟩ ∧ Below w1.heap.size w1 wx)
  case first =>
    have hol := HS1.out.2
    cases hc : q 112
    · have HC := Lib.hid ((HQ.out 112).symm.trans hc)
      clear hc
      go_wp2_with fail
      go_meet
      exact ⟨o1, msgSo_out HS1.out (by decide) HC.out, rfl, HV1.out⟩
    · have HC := Lib.hid ((HQ.out 112).symm.trans hc)
      obtain ⟨c0, c1, c2, c3, c4, c5, c6, c7, c8, c9, c10⟩ := HE1.out.below HV1.out
      have hfl := HPL.out 1
      have hnx := msgSo_in HS1.out (by decide) HC.out (HPL.out 1)
      rw [show msgOrder.getD 1 0 = 112 from rfl, show m.parts.getD 1 [] = dec m.prev from rfl] at hnx
      rw [show m.parts.getD 1 [] = dec m.prev from rfl] at hfl
      have HNX := Lib.hid hnx
      have hD := HD1.out
      clear hc hnx HPL
      generalize dec m.prev = tx at *
      go_wp2_with fail
      refine (hD _).mono ?_
      rintro x u ⟨rfl, hbu⟩
      clear hD c0 c1 c2 c3 c4 c5 c6 c7 c8 c9 c10
      go_wp2_with fail
      go_meet
      exact ⟨_, HNX.out, congrArg Value.string (sum3 o1 [32, 112, 61] tx), HV1.out.trans (hbu.mono HV1.out.size)⟩
  case rest =>
  obtain ⟨o2, hso, rfl, hbx⟩ := hcut
  have HS2 := Lib.hid hso
  have HB4 := Lib.hid hbx
  clear hso hbx HS1 HV1 HB3
  go_wp2_with fail
  refine (HHAS.out 116 _).mono ?_
  rintro x v2 ⟨rfl, hbv⟩
  have hbv2 := HB4.out.trans (hbv.mono HB4.out.size)
  clear hbv
  have HV2 := Lib.hid hbv2
  clear hbv2
  go_upto_if 48 with fail
  go_cut [5, 48] from 49 to 54 (fun s5 sc wx => ∃ o, msgSo m 3 o ∧ s5 = .string ⟨o.toArray⟩ ∧ Below w1.heap.size w1 wx)
  case first =>
    have hol := HS2.out.2
    cases hc : q 116
    · have HC := Lib.hid ((HQ.out 116).symm.trans hc)
      clear hc
      go_wp2_with fail
      go_meet
      exact ⟨o2, msgSo_out HS2.out (by decide) HC.out, rfl, HV2.out⟩
    · have HC := Lib.hid ((HQ.out 116).symm.trans hc)
      obtain ⟨c0, c1, c2, c3, c4, c5, c6, c7, c8, c9, c10⟩ := HE1.out.below HV2.out
      have hfl := HPL.out 2
      have hnx := msgSo_in HS2.out (by decide) HC.out (HPL.out 2)
      rw [show msgOrder.getD 2 0 = 116 from rfl, show m.parts.getD 2 [] = dec m.commit from rfl] at hnx
      rw [show m.parts.getD 2 [] = dec m.commit from rfl] at hfl
      have HNX := Lib.hid hnx
      have hD := HD2.out
      clear hc hnx HPL
      generalize dec m.commit = tx at *
      go_wp2_with fail
      refine (hD _).mono ?_
      rintro x u ⟨rfl, hbu⟩
      clear hD c0 c1 c2 c3 c4 c5 c6 c7 c8 c9 c10
      go_wp2_with fail
      go_meet
      exact ⟨_, HNX.out, congrArg Value.string (sum3 o2 [32, 116, 61] tx), HV2.out.trans (hbu.mono HV2.out.size)⟩
  case rest =>
  obtain ⟨o3, hso, rfl, hbx⟩ := hcut
  have HS3 := Lib.hid hso
  have HB5 := Lib.hid hbx
  clear hso hbx HS2 HV2 HB4
  go_wp2_with fail
  refine (HHAS.out 107 _).mono ?_
  rintro x v3 ⟨rfl, hbv⟩
  have hbv3 := HB5.out.trans (hbv.mono HB5.out.size)
  clear hbv
  have HV3 := Lib.hid hbv3
  clear hbv3
  go_upto_if 56 with fail
  go_cut [5, 56] from 57 to 62 (fun s5 sc wx => ∃ o, msgSo m 4 o ∧ s5 = .string ⟨o.toArray⟩ ∧ Below w1.heap.size w1 wx)
  case first =>
    have hol := HS3.out.2
    cases hc : q 107
    · have HC := Lib.hid ((HQ.out 107).symm.trans hc)
      clear hc
      go_wp2_with fail
      go_meet
      exact ⟨o3, msgSo_out HS3.out (by decide) HC.out, rfl, HV3.out⟩
    · have HC := Lib.hid ((HQ.out 107).symm.trans hc)
      obtain ⟨c0, c1, c2, c3, c4, c5, c6, c7, c8, c9, c10⟩ := HE1.out.below HV3.out
      have hfl := HPL.out 3
      have hnx := msgSo_in HS3.out (by decide) HC.out (HPL.out 3)
      rw [show msgOrder.getD 3 0 = 107 from rfl, show m.parts.getD 3 [] = dec m.mark from rfl] at hnx
      rw [show m.parts.getD 3 [] = dec m.mark from rfl] at hfl
      have HNX := Lib.hid hnx
      have hD := HD3.out
      clear hc hnx HPL
      generalize dec m.mark = tx at *
      go_wp2_with fail
      refine (hD _).mono ?_
      rintro x u ⟨rfl, hbu⟩
      clear hD c0 c1 c2 c3 c4 c5 c6 c7 c8 c9 c10
      go_wp2_with fail
      go_meet
      exact ⟨_, HNX.out, congrArg Value.string (sum3 o3 [32, 107, 61] tx), HV3.out.trans (hbu.mono HV3.out.size)⟩
  case rest =>
  obtain ⟨o4, hso, rfl, hbx⟩ := hcut
  have HS4 := Lib.hid hso
  have HB6 := Lib.hid hbx
  clear hso hbx HS3 HV3 HB5
  have hol4 := HS4.out.2
  go_upto_region 11 with fail
  go_cut [68] from 63 to 67 (fun s68 wx => s68 = .bool (q 121 && m.ok) ∧ Below w1.heap.size w1 wx)
  case first =>
    go_wp2_with fail
    refine (HHAS.out 121 _).mono ?_
    rintro x v4 ⟨rfl, hbv⟩
    have hbv4 := HB6.out.trans (hbv.mono HB6.out.size)
    clear hbv
    have HV4 := Lib.hid hbv4
    clear hbv4
    obtain ⟨c0, c1, c2, c3, c4, c5, c6, c7, c8, c9, c10⟩ := HE1.out.below HV4.out
    cases hc : q 121
    · have HC := Lib.hid hc
      clear hc
      go_wp2_with fail
      go_meet
      exact ⟨by rw [HC.out]; rfl, HV4.out⟩
    · have HC := Lib.hid hc
      clear hc
      go_wp2_with fail
      go_meet
      exact ⟨by rw [HC.out]; simp, HV4.out⟩
  case rest =>
  obtain ⟨rfl, hbx⟩ := hcut
  have HY1 := Lib.hid hbx
  clear hbx
  generalize hy1 : (q 121 && m.ok) = y1
  go_upto_if 68 with fail
  go_cut [5, 68] from 69 to 70 (fun s5 sc wx => s5 = .string ⟨(if y1 then o4 ++ [32, 121, 61, 49] else o4).toArray⟩ ∧ Below w1.heap.size w1 wx)
  case first =>
    cases y1
    · go_wp2_with fail
      go_meet
      exact ⟨rfl, HY1.out⟩
    · go_wp2_with fail
      go_meet
      exact ⟨congrArg Value.string (one_sum o4 [32, 121, 61, 49]), HY1.out⟩
  case rest =>
  obtain ⟨rfl, hbx⟩ := hcut
  have HY2 := Lib.hid hbx
  clear hbx HY1
  have hp4 : (if y1 then o4 ++ [32, 121, 61, 49] else o4).length ≤ o4.length + 4 := by
    cases y1 <;> simp
  generalize hp : (if y1 then o4 ++ [32, 121, 61, 49] else o4) = p4 at *
  have HP4 := Lib.hid hp
  clear hp
  go_upto_region 13 with fail
  go_cut [77] from 71 to 76 (fun s77 wx => s77 = .bool (q 121 && !m.ok) ∧ Below w1.heap.size w1 wx)
  case first =>
    have HB6 := HY2
    go_wp2_with fail
    refine (HHAS.out 121 _).mono ?_
    rintro x v4 ⟨rfl, hbv⟩
    have hbv4 := HY2.out.trans (hbv.mono HY2.out.size)
    clear hbv
    have HV4 := Lib.hid hbv4
    clear hbv4
    obtain ⟨c0, c1, c2, c3, c4, c5, c6, c7, c8, c9, c10⟩ := HE1.out.below HV4.out
    cases hc : q 121
    · have HC := Lib.hid hc
      clear hc
      go_wp2_with fail
      go_meet
      exact ⟨by rw [HC.out]; rfl, HV4.out⟩
    · have HC := Lib.hid hc
      clear hc
      go_wp2_with fail
      go_meet
      exact ⟨by rw [HC.out]; simp, HV4.out⟩
  case rest =>
  obtain ⟨rfl, hbx⟩ := hcut
  have HY3 := Lib.hid hbx
  clear hbx HY2
  generalize hy2 : (q 121 && !m.ok) = y2
  go_upto_if 77 with fail
  go_cut [5, 77] from 78 to 79 (fun s5 sc wx => s5 = .string ⟨(if y2 then p4 ++ [32, 121, 61, 48] else p4).toArray⟩ ∧ Below w1.heap.size w1 wx)
  case first =>
    cases y2
    · go_wp2_with fail
      go_meet
      exact ⟨rfl, HY3.out⟩
    · go_wp2_with fail
      go_meet
      exact ⟨congrArg Value.string (one_sum p4 [32, 121, 61, 48]), HY3.out⟩
  case rest =>
  obtain ⟨rfl, hbx⟩ := hcut
  have HB7 := Lib.hid hbx
  have hso5 : msgSo m 5 (if y2 then p4 ++ [32, 121, 61, 48] else p4) := by
    rw [← HP4.out, ← hy1, ← hy2]
    cases hc : q 121
    · exact msgSo_out HS4.out (by decide) ((HQ.out 121).symm.trans hc)
    · have hn := msgSo_in HS4.out (by decide) ((HQ.out 121).symm.trans hc) (HPL.out 4)
      rw [show msgOrder.getD 4 0 = 121 from rfl, show m.parts.getD 4 [] = if m.ok then [49] else [48] from rfl] at hn
      cases hok : m.ok <;> simp [hok] at hn ⊢ <;> exact hn
  generalize (if y2 then p4 ++ [32, 121, 61, 48] else p4) = o5 at *
  have HS5 := Lib.hid hso5
  clear hbx hso5 hy1 hy2 hp4 hol4 HY3 HP4 HS4
  go_wp2_with fail
  refine (HHAS.out 101 _).mono ?_
  rintro x v5 ⟨rfl, hbv⟩
  have hbv5 := HB7.out.trans (hbv.mono HB7.out.size)
  clear hbv
  have HV5 := Lib.hid hbv5
  clear hbv5
  go_upto_if 81 with fail
  go_cut [5, 81] from 82 to 104 (fun s5 sc wx => ∃ o, msgSo m 6 o ∧ s5 = .string ⟨o.toArray⟩ ∧ Below w1.heap.size w1 wx)
  case first =>
    have hol := HS5.out.2
    cases hc : q 101
    · have HC := Lib.hid ((HQ.out 101).symm.trans hc)
      clear hc
      go_wp2_with fail
      go_meet
      exact ⟨o5, msgSo_out HS5.out (by decide) HC.out, rfl, HV5.out⟩
    · have HC := Lib.hid ((HQ.out 101).symm.trans hc)
      have hnx := msgSo_in HS5.out (by decide) HC.out (HPL.out 5)
      rw [show msgOrder.getD 5 0 = 101 from rfl, show m.parts.getD 5 [] = [91] ++ Lib.join (m.entries.map textL) [59] ++ [93] from rfl] at hnx
      have HNX := Lib.hid hnx
      clear hc hnx
      go_wp2_with fail
      go_loopw [5, 6] (fun s i wr => ∃ k : Nat, k ≤ m.entries.length ∧ i = .int .i64 k ∧ s = .string ⟨(o5 ++ ([32, 101, 61, 91] ++ Lib.join ((m.entries.take k).map textL) [59])).toArray⟩ ∧ Below w1.heap.size w1 wr) (fun s i _ => m.entries.length - (intOf i).toNat)
      case atStart => exact ⟨0, Nat.zero_le _, rfl, congrArg Value.string ((one_sum o5 [32, 101, 61, 91]).trans (by simp [Lib.join_nil])), HV5.out⟩
      case round =>
        obtain ⟨k, hk, rfl, rfl, hbr⟩ := hrel
        obtain ⟨c0, c1, c2, c3, c4, c5, c6, c7, c8, c9, c10⟩ := HE1.out.below hbr
        have hcn := HCN.out
        have hjl := HJK.out k
        by_cases hlt : k < m.entries.length
        · obtain ⟨a', c', q1, _, _, q4⟩ := HS.out
          cases q1
          obtain ⟨B, o', rfl, q6, q7⟩ := q4 (fun h => by rw [h] at hlt; exact absurd hlt (Nat.not_lt_zero _))
          have hel := (q7 k hlt).below (HB01.out.trans (hbr.mono HB01.out.size))
          have hcall := HTX.out m.entries[k] (List.getElem_mem hlt)
          have htl := HTL.out m.entries[k] (List.getElem_mem hlt)
          by_cases hk0 : k = 0
          · subst hk0
            rw [Nat.zero_mul, Nat.add_zero] at hel
            have hj := join_first m.entries hlt
            have HJ := Lib.hid hj
            clear hj q7 q4
            generalize m.entries[0] = e at *
            rw [show e.val = .agg #[.int .u64 e.term, .int .u64 e.index, .int .i64 e.kind, .int .u64 e.client, .int .u64 e.seq, .int .u64 e.block, .int .u64 e.many, .int .i64 e.node, .int .i64 e.level, .string e.data, .string e.old] from rfl] at hcall
            generalize textL e = te at *
            obtain ⟨a0, a1, a2, a3, a4, a5, a6, a7, a8, a9, a10⟩ := hel
            have HC2 := Lib.hid hcall
            clear hcall
            have hz : Lib.join ((m.entries.take 0).map textL) [59] = [] := rfl
            rw [hz]
            rw [hz] at hjl
            go_wp2_with fail
            refine (HC2.out _).mono ?_
            rintro x u ⟨rfl, hbu⟩
            clear a0 a1 a2 a3 a4 a5 a6 a7 a8 a9 a10 c0 c1 c2 c3 c4 c5 c6 c7 c8 c9 c10
            go_wp2_with fail
            go_roundw
            case rel => exact ⟨1, by omega, by go_num, congrArg Value.string ((one_sum _ te).trans (by rw [HJ.out]; simp)), hbr.trans (hbu.mono hbr.size)⟩
            case measure => simp [intOf]; omega
          · have hkp : 0 < k := by omega
            have hj := join_snoc m.entries k hlt hkp
            have HJ := Lib.hid hj
            clear hj q7 q4 hk0
            generalize m.entries[k] = e at *
            rw [show e.val = .agg #[.int .u64 e.term, .int .u64 e.index, .int .i64 e.kind, .int .u64 e.client, .int .u64 e.seq, .int .u64 e.block, .int .u64 e.many, .int .i64 e.node, .int .i64 e.level, .string e.data, .string e.old] from rfl] at hcall
            generalize textL e = te at *
            obtain ⟨a0, a1, a2, a3, a4, a5, a6, a7, a8, a9, a10⟩ := hel
            have HC2 := Lib.hid hcall
            clear hcall
            generalize Lib.join ((m.entries.take k).map textL) [59] = jk at *
            go_wp2_with fail
            refine (HC2.out _).mono ?_
            rintro x u ⟨rfl, hbu⟩
            clear a0 a1 a2 a3 a4 a5 a6 a7 a8 a9 a10 c0 c1 c2 c3 c4 c5 c6 c7 c8 c9 c10
            go_wp2_with fail
            go_roundw
            case rel => exact ⟨k + 1, by omega, by go_num, congrArg Value.string ((sum3 _ [59] te).trans (by rw [HJ.out]; simp)), hbr.trans (hbu.mono hbr.size)⟩
            case measure => simp [intOf]; omega
        · have hend : (m.entries.take k).map textL = m.entries.map textL := by rw [List.take_of_length_le (by omega)]
          rw [hend] at hjl ⊢
          generalize Lib.join (m.entries.map textL) [59] = jj at *
          go_wp2_with fail
          go_meet
          exact ⟨_, HNX.out, congrArg Value.string ((one_sum _ [93]).trans (by simp)), hbr⟩
  case rest =>
  obtain ⟨o6, hso, rfl, hbx⟩ := hcut
  have HS6 := Lib.hid hso
  have HB8 := Lib.hid hbx
  clear hso hbx HS5 HV5 HB7
  go_wp2_with fail
  refine (HHAS.out 115 _).mono ?_
  rintro x v6 ⟨rfl, hbv⟩
  have hbv6 := HB8.out.trans (hbv.mono HB8.out.size)
  clear hbv
  have HV6 := Lib.hid hbv6
  clear hbv6
  go_upto_if 106 with fail
  go_cut [5, 106] from 107 to 112 (fun s5 sc wx => ∃ o, msgSo m 7 o ∧ s5 = .string ⟨o.toArray⟩ ∧ Below w1.heap.size w1 wx)
  case first =>
    have hol := HS6.out.2
    cases hc : q 115
    · have HC := Lib.hid ((HQ.out 115).symm.trans hc)
      clear hc
      go_wp2_with fail
      go_meet
      exact ⟨o6, msgSo_out HS6.out (by decide) HC.out, rfl, HV6.out⟩
    · have HC := Lib.hid ((HQ.out 115).symm.trans hc)
      obtain ⟨c0, c1, c2, c3, c4, c5, c6, c7, c8, c9, c10⟩ := HE1.out.below HV6.out
      have hfl := HPL.out 6
      have hnx := msgSo_in HS6.out (by decide) HC.out (HPL.out 6)
      rw [show msgOrder.getD 6 0 = 115 from rfl, show m.parts.getD 6 [] = hexL m.snap.data.toList from rfl] at hnx
      rw [show m.parts.getD 6 [] = hexL m.snap.data.toList from rfl] at hfl
      have HNX := Lib.hid hnx
      have hD := HD6.out
      clear hc hnx HPL
      generalize hexL m.snap.data.toList = tx at *
      go_wp2_with fail
      refine (hD _).mono ?_
      rintro x u ⟨rfl, hbu⟩
      clear hD c0 c1 c2 c3 c4 c5 c6 c7 c8 c9 c10
      go_wp2_with fail
      go_meet
      exact ⟨_, HNX.out, congrArg Value.string (sum3 o6 [32, 115, 61] tx), HV6.out.trans (hbu.mono HV6.out.size)⟩
  case rest =>
  obtain ⟨o7, hso, rfl, hbx⟩ := hcut
  have HS7 := Lib.hid hso
  have HB9 := Lib.hid hbx
  clear hso hbx HS6 HV6 HB8
  have hfin : o7 = msgTextL m := by rw [HT.out, HS7.out.1]; rfl
  have HFIN := Lib.hid hfin
  clear hfin
  go_wp2_with fail
  go_ret
  exact ⟨by rw [← HFIN.out]; rfl, HB01.out.trans (HB9.out.mono HB01.out.size)⟩

end Go.Proofs.YtbjbgdnjcppjhaaDoor
