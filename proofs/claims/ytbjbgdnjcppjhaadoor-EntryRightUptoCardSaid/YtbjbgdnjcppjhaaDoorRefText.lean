/-
  pintleref04's Text over this translation. Conditions: the numbers are of their kinds; the texts of at most 2^20 bytes. By an AI agent.
-/
import Derived.Test.YtbjbgdnjcppjhaaDoorRefLeaf
import Derived.Test.YtbjbgdnjcppjhaaDoorRef04Fields

import Derived.Deep.Cut
import Derived.Deep.CutRange
namespace Go.Proofs.YtbjbgdnjcppjhaaDoor
open Go.RowKit Go.Sort
set_option linter.unusedVariables false
set_option linter.unusedSimpArgs false

/-- three texts joined -/
theorem sum3 (a b c : List UInt8) : ByteArray.mk a.toArray ++ ByteArray.mk b.toArray ++ ByteArray.mk c.toArray = ByteArray.mk (a ++ (b ++ c)).toArray := by rw [one_sum, one_sum, List.append_assoc]

set_option maxRecDepth 100000 in
set_option maxHeartbeats 4000000 in
/-- pintleref04.Text (P4.3) -/
theorem refText_any (e : Ent) (h : e.wf) (hd : e.data.size ≤ 1048576) (ho : e.old.size ≤ 1048576) (w : World) :
    Calls Tryd.prog 18 #[e.val] w fun x w' => x = .returned (.string ⟨(textL e).toArray⟩) ∧ Below w.heap.size w w' := by
  have hfl := fldT_len e h hd ho
  have hval : e.val = .agg #[.int .u64 e.term, .int .u64 e.index, .int .i64 e.kind, .int .u64 e.client, .int .u64 e.seq, .int .u64 e.block, .int .u64 e.many, .int .i64 e.node, .int .i64 e.level, .string e.data, .string e.old] := rfl
  have ht1 := dec_len _ h.term.1 h.term.2
  have ht2 := dec_len _ h.index.1 h.index.2
  have ht3 := itoa_len _ h.kind.1 h.kind.2
  have hhead : e.headT = Lib.itoa e.kind ++ [32] ++ dec e.term ++ [46] ++ dec e.index := rfl
  have hT : textL e = e.headT ++ entOrder.flatMap e.piece := rfl
  have n1 := fun W => refNumber_any e.kind h.kind.1 h.kind.2 W
  have d1 := fun W => refDigits_any e.term h.term.1 h.term.2 W
  have d2 := fun W => refDigits_any e.index h.index.1 h.index.2 W
  have HD3 := Lib.hid (fun W => refDigits_any e.client h.client.1 h.client.2 W)
  have HD4 := Lib.hid (fun W => refDigits_any e.seq h.seq.1 h.seq.2 W)
  have HD5 := Lib.hid (fun W => refDigits_any e.block h.block.1 h.block.2 W)
  have HD6 := Lib.hid (fun W => refDigits_any e.many h.many.1 h.many.2 W)
  have HD7 := Lib.hid (fun W => refNumber_any e.node h.node.1 h.node.2 W)
  have HD8 := Lib.hid (fun W => refNumber_any e.level h.level.1 h.level.2 W)
  have HD9 := Lib.hid (fun W => refHex_any e.data hd W)
  have HD10 := Lib.hid (fun W => refHex_any e.old ho W)
  have hlc := dec_len _ h.client.1 h.client.2
  rw [hval]
  obtain ⟨q, hq⟩ : ∃ q : UInt8 → Bool, ∀ c, q c = (entL e.kind).contains c := ⟨_, fun _ => rfl⟩
  have hhas : ∀ (c : UInt8) W, Calls Tryd.prog 35 #[.string ⟨(entL e.kind).toArray⟩, .int .u8 c.toNat] W fun x w' => x = .returned (.bool (q c)) ∧ Below W.heap.size W w' := fun c W => hq c ▸ refHas_any (entL e.kind) (entL_len e.kind) c W
  have HQ := Lib.hid hq
  clear hq
  have HHAS := Lib.hid hhas
  have HT := Lib.hid hT
  have HH := Lib.hid hhead
  have HF := Lib.hid hfl
  have HN1 := Lib.hid n1
  have HD1 := Lib.hid d1
  have HD2 := Lib.hid d2
  clear hval hT hhead hfl hhas n1 d1 d2 h hd ho
  go_enter Tryd.func18, Tryd.ntmps18
  go_wp2_with fail
  refine (refFields_any _ _).mono ?_
  rintro x w1 ⟨rfl, hb1⟩
  have he1 : EntAt w1 w.heap.size 0 e := (entAt_new w e 26).below hb1
  have hb01 : Below w.heap.size w w1 := ((Below.refl _ _).alloc (Nat.le_refl _) _).trans (hb1.mono (by simp))
  have hsz1 : w.heap.size < w1.heap.size := by have h := hb1.size; simp at h; omega
  have HE1 := Lib.hid he1
  have HB01 := Lib.hid hb01
  obtain ⟨c0, c1, c2, _⟩ := he1
  simp only [Nat.zero_add] at c1 c2
  clear hb1 hb01
  go_wp2_with fail
  have g0 := cell_regrown c0
  have g1 := cell_regrown c1
  have g2 := cell_regrown c2
  have hN1 := HN1.out
  have hD1 := HD1.out
  have hD2 := HD2.out
  generalize hk : Lib.itoa e.kind = tk at *
  generalize ht : dec e.term = tt at *
  generalize hi : dec e.index = ti at *
  refine wp_region_quiet_below (by kernel_rfl) (by kernel_rfl) ?_
  go_big_quiet_step (fail)
  go_big_quiet_step (fail)
  go_big_quiet_step ((go_at_call 46; exact meetB fun U hb => hN1 U))
  go_big_quiet_step (fail)
  go_big_quiet_step (fail)
  go_big_quiet_step (fail)
  go_big_quiet_step ((go_at_call 47; exact meetB fun U hb => hD1 U))
  go_big_quiet_step (fail)
  go_big_quiet_step (fail)
  go_big_quiet_step (fail)
  go_big_quiet_step (fail)
  go_big_quiet_step ((go_at_call 47; exact meetB fun U hb => hD2 U))
  repeat (go_big_quiet_step (fail))
  refine wpQuiet_nil ?_
  intro w2 hw2
  obtain ⟨p2, hw2⟩ := hw2
  have hb2 := below_regrown w1 p2.d p2.os
  rw [← hw2] at hb2
  have hstr : (ByteArray.mk tk.toArray ++ ⟨#[32]⟩ ++ ⟨tt.toArray⟩ ++ ⟨#[46]⟩ ++ ⟨ti.toArray⟩ : ByteArray) = ⟨e.headT.toArray⟩ := by
    rw [HH.out, show (⟨#[32]⟩ : ByteArray) = ⟨[32].toArray⟩ from rfl, show (⟨#[46]⟩ : ByteArray) = ⟨[46].toArray⟩ from rfl, one_sum, one_sum, one_sum, one_sum]
  have hso : soFar e 0 e.headT := by
    refine ⟨by simp [entOrder], ?_⟩
    rw [HH.out]
    simp only [List.length_append, List.length_cons, List.length_nil]; omega
  have HS0 := Lib.hid hso
  have HSTR := Lib.hid hstr
  have hb02 := hb2
  rw [hstr]
  clear hw2 g0 g1 g2 c0 c1 c2 hN1 hD1 hD2 hso hstr hb02 hk ht hi HH HN1 HD1 HD2 ht1 ht2 ht3
  have HB2 := Lib.hid hb2
  clear hb2
  go_wp2_with fail
  refine (HHAS.out 99 _).mono ?_
  rintro x v0 ⟨rfl, hbv⟩
  have hbv0 := HB2.out.trans (hbv.mono HB2.out.size)
  clear hbv
  have HV0 := Lib.hid hbv0
  clear hbv0
  go_upto_if 26 with fail
  go_cut [5, 26] from 27 to 37 (fun s5 sc wx => ∃ o, soFar e 1 o ∧ s5 = .string ⟨o.toArray⟩ ∧ Below w1.heap.size w1 wx)
  case first =>
    have hol := HS0.out.2
    cases hc : q 99
    · have HC := Lib.hid ((HQ.out 99).symm.trans hc)
      clear hc
      go_wp2_with fail
      go_meet
      exact ⟨e.headT, soFar_out HS0.out (by decide) HC.out, rfl, HV0.out⟩
    · have HC := Lib.hid ((HQ.out 99).symm.trans hc)
      have hev := HE1.out.below HV0.out
      have hfl : (e.fldT 99).length ≤ 2097152 := HF.out 99
      obtain ⟨c0, c1, c2, c3, c4, c5, c6, c7, c8, c9, c10⟩ := hev
      simp only [Nat.zero_add] at c1 c2 c3 c4 c5 c6 c7 c8 c9 c10
      clear hc
      have hnx := soFar_in HS0.out (by decide) HC.out (HF.out 99)
      rw [show entOrder.getD 0 0 = 99 from rfl] at hnx
      have HNX := Lib.hid hnx
      clear hnx
      have hfe : e.fldT 99 = dec e.client ++ [47] ++ dec e.seq := rfl
      rw [hfe] at hfl HNX
      simp only [List.length_append, List.length_cons, List.length_nil] at hfl
      clear hfe
      have hD3 := HD3.out
      have hD4 := HD4.out
      clear HS0 HD3 HD4 HF
      generalize dec e.client = tc at *
      generalize dec e.seq = ts at *
      generalize e.headT = o at *
      have g3 := cell_regrown c3
      have g4 := cell_regrown c4
      clear c0 c1 c2 c5 c6 c7 c8 c9 c10
      go_wp2_with fail
      refine wp_region_quiet_below (by kernel_rfl) (by kernel_rfl) ?_
      go_big_quiet_step (fail)
      go_big_quiet_step (fail)
      go_big_quiet_step (fail)
      go_big_quiet_step (fail)
      go_big_quiet_step ((go_at_call 47; exact meetB fun U hb => hD3 U))
      go_big_quiet_step (fail)
      go_big_quiet_step (fail)
      go_big_quiet_step (fail)
      go_big_quiet_step (fail)
      go_big_quiet_step ((go_at_call 47; exact meetB fun U hb => hD4 U))
      repeat (go_big_quiet_step (fail))
      refine wpQuiet_nil ?_
      intro u hu
      obtain ⟨p, hu⟩ := hu
      have hbu := below_regrown v0 p.d p.os
      rw [← hu] at hbu
      clear hu g3 g4 c3 c4 hD3 hD4
      go_wp2_with fail
      go_meet
      refine ⟨_, HNX.out, ?_, HV0.out.trans (hbu.mono HV0.out.size)⟩
      rw [show (⟨#[32, 99, 61]⟩ : ByteArray) = ⟨[32, 99, 61].toArray⟩ from rfl, show (⟨#[47]⟩ : ByteArray) = ⟨[47].toArray⟩ from rfl, one_sum, one_sum, one_sum, one_sum]
      simp only [List.append_assoc]
  case rest =>
  obtain ⟨o1, hso, rfl, hbx⟩ := hcut
  have HS1 := Lib.hid hso
  have HB3 := Lib.hid hbx
  clear hso hbx HS0 HV0 HB2
  go_wp2_with fail
  refine (HHAS.out 98 _).mono ?_
  rintro x v1 ⟨rfl, hbv⟩
  have hbv1 := HB3.out.trans (hbv.mono HB3.out.size)
  clear hbv
  have HV1 := Lib.hid hbv1
  clear hbv1
  go_upto_if 39 with fail
  go_cut [5, 39] from 40 to 45 (fun s5 sc wx => ∃ o, soFar e 2 o ∧ s5 = .string ⟨o.toArray⟩ ∧ Below w1.heap.size w1 wx)
  case first =>
    have hol := HS1.out.2
    cases hc : q 98
    · have HC := Lib.hid ((HQ.out 98).symm.trans hc)
      clear hc
      go_wp2_with fail
      go_meet
      exact ⟨o1, soFar_out HS1.out (by decide) HC.out, rfl, HV1.out⟩
    · have HC := Lib.hid ((HQ.out 98).symm.trans hc)
      have hev := HE1.out.below HV1.out
      have hfl : (e.fldT 98).length ≤ 2097152 := HF.out 98
      obtain ⟨c0, c1, c2, c3, c4, c5, c6, c7, c8, c9, c10⟩ := hev
      simp only [Nat.zero_add] at c1 c2 c3 c4 c5 c6 c7 c8 c9 c10
      clear hc
      have hnx := soFar_in HS1.out (by decide) HC.out (HF.out 98)
      rw [show entOrder.getD 1 0 = 98 from rfl] at hnx
      have HNX := Lib.hid hnx
      clear hnx
      have hfe : e.fldT 98 = dec e.block := rfl
      rw [hfe] at hfl HNX
      clear hfe
      have hD := HD5.out
      clear HF
      generalize dec e.block = tx at *
      go_wp2_with fail
      refine (hD _).mono ?_
      rintro x u ⟨rfl, hbu⟩
      clear hD c0 c1 c2 c3 c4 c5 c6 c7 c8 c9 c10
      go_wp2_with fail
      go_meet
      exact ⟨_, HNX.out, congrArg Value.string (sum3 o1 [32, 98, 61] tx), HV1.out.trans (hbu.mono HV1.out.size)⟩
  case rest =>
  obtain ⟨o2, hso, rfl, hbx⟩ := hcut
  have HS2 := Lib.hid hso
  have HB4 := Lib.hid hbx
  clear hso hbx HS1 HV1 HB3
  go_wp2_with fail
  refine (HHAS.out 109 _).mono ?_
  rintro x v2 ⟨rfl, hbv⟩
  have hbv2 := HB4.out.trans (hbv.mono HB4.out.size)
  clear hbv
  have HV2 := Lib.hid hbv2
  clear hbv2
  go_upto_if 47 with fail
  go_cut [5, 47] from 48 to 53 (fun s5 sc wx => ∃ o, soFar e 3 o ∧ s5 = .string ⟨o.toArray⟩ ∧ Below w1.heap.size w1 wx)
  case first =>
    have hol := HS2.out.2
    cases hc : q 109
    · have HC := Lib.hid ((HQ.out 109).symm.trans hc)
      clear hc
      go_wp2_with fail
      go_meet
      exact ⟨o2, soFar_out HS2.out (by decide) HC.out, rfl, HV2.out⟩
    · have HC := Lib.hid ((HQ.out 109).symm.trans hc)
      have hev := HE1.out.below HV2.out
      have hfl : (e.fldT 109).length ≤ 2097152 := HF.out 109
      obtain ⟨c0, c1, c2, c3, c4, c5, c6, c7, c8, c9, c10⟩ := hev
      simp only [Nat.zero_add] at c1 c2 c3 c4 c5 c6 c7 c8 c9 c10
      clear hc
      have hnx := soFar_in HS2.out (by decide) HC.out (HF.out 109)
      rw [show entOrder.getD 2 0 = 109 from rfl] at hnx
      have HNX := Lib.hid hnx
      clear hnx
      have hfe : e.fldT 109 = dec e.many := rfl
      rw [hfe] at hfl HNX
      clear hfe
      have hD := HD6.out
      clear HF
      generalize dec e.many = tx at *
      go_wp2_with fail
      refine (hD _).mono ?_
      rintro x u ⟨rfl, hbu⟩
      clear hD c0 c1 c2 c3 c4 c5 c6 c7 c8 c9 c10
      go_wp2_with fail
      go_meet
      exact ⟨_, HNX.out, congrArg Value.string (sum3 o2 [32, 109, 61] tx), HV2.out.trans (hbu.mono HV2.out.size)⟩
  case rest =>
  obtain ⟨o3, hso, rfl, hbx⟩ := hcut
  have HS3 := Lib.hid hso
  have HB5 := Lib.hid hbx
  clear hso hbx HS2 HV2 HB4
  go_wp2_with fail
  refine (HHAS.out 110 _).mono ?_
  rintro x v3 ⟨rfl, hbv⟩
  have hbv3 := HB5.out.trans (hbv.mono HB5.out.size)
  clear hbv
  have HV3 := Lib.hid hbv3
  clear hbv3
  go_upto_if 55 with fail
  go_cut [5, 55] from 56 to 61 (fun s5 sc wx => ∃ o, soFar e 4 o ∧ s5 = .string ⟨o.toArray⟩ ∧ Below w1.heap.size w1 wx)
  case first =>
    have hol := HS3.out.2
    cases hc : q 110
    · have HC := Lib.hid ((HQ.out 110).symm.trans hc)
      clear hc
      go_wp2_with fail
      go_meet
      exact ⟨o3, soFar_out HS3.out (by decide) HC.out, rfl, HV3.out⟩
    · have HC := Lib.hid ((HQ.out 110).symm.trans hc)
      have hev := HE1.out.below HV3.out
      have hfl : (e.fldT 110).length ≤ 2097152 := HF.out 110
      obtain ⟨c0, c1, c2, c3, c4, c5, c6, c7, c8, c9, c10⟩ := hev
      simp only [Nat.zero_add] at c1 c2 c3 c4 c5 c6 c7 c8 c9 c10
      clear hc
      have hnx := soFar_in HS3.out (by decide) HC.out (HF.out 110)
      rw [show entOrder.getD 3 0 = 110 from rfl] at hnx
      have HNX := Lib.hid hnx
      clear hnx
      have hfe : e.fldT 110 = Lib.itoa e.node := rfl
      rw [hfe] at hfl HNX
      clear hfe
      have hD := HD7.out
      clear HF
      generalize Lib.itoa e.node = tx at *
      go_wp2_with fail
      refine (hD _).mono ?_
      rintro x u ⟨rfl, hbu⟩
      clear hD c0 c1 c2 c3 c4 c5 c6 c7 c8 c9 c10
      go_wp2_with fail
      go_meet
      exact ⟨_, HNX.out, congrArg Value.string (sum3 o3 [32, 110, 61] tx), HV3.out.trans (hbu.mono HV3.out.size)⟩
  case rest =>
  obtain ⟨o4, hso, rfl, hbx⟩ := hcut
  have HS4 := Lib.hid hso
  have HB6 := Lib.hid hbx
  clear hso hbx HS3 HV3 HB5
  go_wp2_with fail
  refine (HHAS.out 108 _).mono ?_
  rintro x v4 ⟨rfl, hbv⟩
  have hbv4 := HB6.out.trans (hbv.mono HB6.out.size)
  clear hbv
  have HV4 := Lib.hid hbv4
  clear hbv4
  go_upto_if 63 with fail
  go_cut [5, 63] from 64 to 69 (fun s5 sc wx => ∃ o, soFar e 5 o ∧ s5 = .string ⟨o.toArray⟩ ∧ Below w1.heap.size w1 wx)
  case first =>
    have hol := HS4.out.2
    cases hc : q 108
    · have HC := Lib.hid ((HQ.out 108).symm.trans hc)
      clear hc
      go_wp2_with fail
      go_meet
      exact ⟨o4, soFar_out HS4.out (by decide) HC.out, rfl, HV4.out⟩
    · have HC := Lib.hid ((HQ.out 108).symm.trans hc)
      have hev := HE1.out.below HV4.out
      have hfl : (e.fldT 108).length ≤ 2097152 := HF.out 108
      obtain ⟨c0, c1, c2, c3, c4, c5, c6, c7, c8, c9, c10⟩ := hev
      simp only [Nat.zero_add] at c1 c2 c3 c4 c5 c6 c7 c8 c9 c10
      clear hc
      have hnx := soFar_in HS4.out (by decide) HC.out (HF.out 108)
      rw [show entOrder.getD 4 0 = 108 from rfl] at hnx
      have HNX := Lib.hid hnx
      clear hnx
      have hfe : e.fldT 108 = Lib.itoa e.level := rfl
      rw [hfe] at hfl HNX
      clear hfe
      have hD := HD8.out
      clear HF
      generalize Lib.itoa e.level = tx at *
      go_wp2_with fail
      refine (hD _).mono ?_
      rintro x u ⟨rfl, hbu⟩
      clear hD c0 c1 c2 c3 c4 c5 c6 c7 c8 c9 c10
      go_wp2_with fail
      go_meet
      exact ⟨_, HNX.out, congrArg Value.string (sum3 o4 [32, 108, 61] tx), HV4.out.trans (hbu.mono HV4.out.size)⟩
  case rest =>
  obtain ⟨o5, hso, rfl, hbx⟩ := hcut
  have HS5 := Lib.hid hso
  have HB7 := Lib.hid hbx
  clear hso hbx HS4 HV4 HB6
  go_wp2_with fail
  refine (HHAS.out 100 _).mono ?_
  rintro x v5 ⟨rfl, hbv⟩
  have hbv5 := HB7.out.trans (hbv.mono HB7.out.size)
  clear hbv
  have HV5 := Lib.hid hbv5
  clear hbv5
  go_upto_if 71 with fail
  go_cut [5, 71] from 72 to 77 (fun s5 sc wx => ∃ o, soFar e 6 o ∧ s5 = .string ⟨o.toArray⟩ ∧ Below w1.heap.size w1 wx)
  case first =>
    have hol := HS5.out.2
    cases hc : q 100
    · have HC := Lib.hid ((HQ.out 100).symm.trans hc)
      clear hc
      go_wp2_with fail
      go_meet
      exact ⟨o5, soFar_out HS5.out (by decide) HC.out, rfl, HV5.out⟩
    · have HC := Lib.hid ((HQ.out 100).symm.trans hc)
      have hev := HE1.out.below HV5.out
      have hfl : (e.fldT 100).length ≤ 2097152 := HF.out 100
      obtain ⟨c0, c1, c2, c3, c4, c5, c6, c7, c8, c9, c10⟩ := hev
      simp only [Nat.zero_add] at c1 c2 c3 c4 c5 c6 c7 c8 c9 c10
      clear hc
      have hnx := soFar_in HS5.out (by decide) HC.out (HF.out 100)
      rw [show entOrder.getD 5 0 = 100 from rfl] at hnx
      have HNX := Lib.hid hnx
      clear hnx
      have hfe : e.fldT 100 = hexL e.data.data.toList := rfl
      rw [hfe] at hfl HNX
      clear hfe
      have hD := HD9.out
      clear HF
      generalize hexL e.data.data.toList = tx at *
      go_wp2_with fail
      refine (hD _).mono ?_
      rintro x u ⟨rfl, hbu⟩
      clear hD c0 c1 c2 c3 c4 c5 c6 c7 c8 c9 c10
      go_wp2_with fail
      go_meet
      exact ⟨_, HNX.out, congrArg Value.string (sum3 o5 [32, 100, 61] tx), HV5.out.trans (hbu.mono HV5.out.size)⟩
  case rest =>
  obtain ⟨o6, hso, rfl, hbx⟩ := hcut
  have HS6 := Lib.hid hso
  have HB8 := Lib.hid hbx
  clear hso hbx HS5 HV5 HB7
  go_wp2_with fail
  refine (HHAS.out 111 _).mono ?_
  rintro x v6 ⟨rfl, hbv⟩
  have hbv6 := HB8.out.trans (hbv.mono HB8.out.size)
  clear hbv
  have HV6 := Lib.hid hbv6
  clear hbv6
  go_upto_if 79 with fail
  go_cut [5, 79] from 80 to 85 (fun s5 sc wx => ∃ o, soFar e 7 o ∧ s5 = .string ⟨o.toArray⟩ ∧ Below w1.heap.size w1 wx)
  case first =>
    have hol := HS6.out.2
    cases hc : q 111
    · have HC := Lib.hid ((HQ.out 111).symm.trans hc)
      clear hc
      go_wp2_with fail
      go_meet
      exact ⟨o6, soFar_out HS6.out (by decide) HC.out, rfl, HV6.out⟩
    · have HC := Lib.hid ((HQ.out 111).symm.trans hc)
      have hev := HE1.out.below HV6.out
      have hfl : (e.fldT 111).length ≤ 2097152 := HF.out 111
      obtain ⟨c0, c1, c2, c3, c4, c5, c6, c7, c8, c9, c10⟩ := hev
      simp only [Nat.zero_add] at c1 c2 c3 c4 c5 c6 c7 c8 c9 c10
      clear hc
      have hnx := soFar_in HS6.out (by decide) HC.out (HF.out 111)
      rw [show entOrder.getD 6 0 = 111 from rfl] at hnx
      have HNX := Lib.hid hnx
      clear hnx
      have hfe : e.fldT 111 = hexL e.old.data.toList := rfl
      rw [hfe] at hfl HNX
      clear hfe
      have hD := HD10.out
      clear HF
      generalize hexL e.old.data.toList = tx at *
      go_wp2_with fail
      refine (hD _).mono ?_
      rintro x u ⟨rfl, hbu⟩
      clear hD c0 c1 c2 c3 c4 c5 c6 c7 c8 c9 c10
      go_wp2_with fail
      go_meet
      exact ⟨_, HNX.out, congrArg Value.string (sum3 o6 [32, 111, 61] tx), HV6.out.trans (hbu.mono HV6.out.size)⟩
  case rest =>
  obtain ⟨o7, hso, rfl, hbx⟩ := hcut
  have HS7 := Lib.hid hso
  have HB9 := Lib.hid hbx
  clear hso hbx HS6 HV6 HB8
  have hfin : o7 = textL e := by rw [HT.out, HS7.out.1]; rfl
  have HFIN := Lib.hid hfin
  clear hfin
  go_wp2_with fail
  go_ret
  exact ⟨by rw [← HFIN.out]; rfl, HB01.out.trans (HB9.out.mono HB01.out.size)⟩

end Go.Proofs.YtbjbgdnjcppjhaaDoor
