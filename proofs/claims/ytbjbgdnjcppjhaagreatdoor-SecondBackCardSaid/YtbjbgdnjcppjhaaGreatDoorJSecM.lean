/-
  second.entries: a field over a list of entries: what it answers, and its put closure. Conditions: as each theorem says. By an AI agent.
-/
import Derived.Test.YtbjbgdnjcppjhaaGreatDoorJSec
import Derived.Test.YtbjbgdnjcppjhaaGreatDoorNoteP
import Derived.Test.YtbjbgdnjcppjhaaGreatDoorHeld
import Derived.Test.YtbjbgdnjcppjhaaGreatDoorMsgIn
import Derived.Test.YtbjbgdnjcppjhaaGreatDoorMsgRight
import Derived.Laws.ResultCell
namespace Go.Proofs.YtbjbgdnjcppjhaaGreatDoor
open Go.RowKit Go.Sort
set_option linter.unusedVariables false
set_option linter.unusedSimpArgs false

set_option maxRecDepth 100000 in
set_option maxHeartbeats 1000000 in
theorem ents_make (e o : Nat) (w : World) :
    Calls Tryz.prog 72 #[.pointer (some ⟨e, o, none⟩)] w fun x w' => x = .returned (.agg #[.func (.func 110) #[] #[.pointer (some ⟨w.heap.size, 0, none⟩)], .func (.func 111) #[] #[.pointer (some ⟨w.heap.size, 0, none⟩)]]) ∧ PtrAt w' w.heap.size e o 130 ∧ Below w.heap.size w w' ∧ w.heap.size < w'.heap.size := by
  go_enter Tryz.func72, Tryz.ntmps72
  go_wp2_with fail
  have hz := heap_alloc_new (w.alloc (.cells #[.pointer (some ⟨e, o, none⟩)] 130)) (.cells #[.func (.func 110) #[] #[.pointer (some ⟨w.heap.size, 0, none⟩)], .func (.func 111) #[] #[.pointer (some ⟨w.heap.size, 0, none⟩)]] 117)
  simp only [World.size_alloc] at hz
  refine bodyPost_ret (results_cell_row rfl _ _ (w.heap.size + 1) 117 _ (0, 0) _ rfl hz Tryz.underlying117 rfl (by kernel_rfl)) rfl ?_
  refine ⟨rfl, ?_, ((Below.refl _ _).alloc (Nat.le_refl _) _).alloc (by simp) _, by simp; omega⟩
  unfold PtrAt
  rw [Below.heap_alloc _ _ _ (by simp)]
  exact heap_alloc_new w _

theorem flatE_len (l : List Ent) (h : ∀ e ∈ l, Small e) : (l.flatMap secE).length ≤ 1000 * l.length := by
  induction l with
  | nil => simp
  | cons e l ih =>
    have h1 := ih (fun x hx => h x (List.mem_cons_of_mem _ hx))
    have h2 := secE_len e (h e (List.mem_cons_self ..))
    rw [List.flatMap_cons, List.length_append, List.length_cons]
    omega

set_option maxRecDepth 100000 in
set_option maxHeartbeats 4000000 in
theorem ents_put (c e o : Nat) (s : Value) (l : List Ent) (t : TypeId) (hl : ∀ x ∈ l, Small x ∧ rightB x = true) (hn : l.length ≤ 64) (w : World) (hp : PtrAt w c e o t) (hcell : w.cell? ⟨e, o, none⟩ = some s) (hs : EntsAt w s l) :
    Calls Tryz.prog 110 #[.pointer (some ⟨c, 0, none⟩)] w fun x w' => x = .returned (.string ⟨(entsF l).toArray⟩) ∧ Below w.heap.size w w' := by
  have hc : w.cell? ⟨c, 0, none⟩ = some (.pointer (some ⟨e, o, none⟩)) := Lib.cell_of_heap hp 0
  obtain ⟨sa, sc, rfl, hc1, hc2, hE⟩ := hs
  have hall := flatE_len l (fun x hx => (hl x hx).1)
  have HALL := Lib.hid hall
  have HL := Lib.hid hl
  have HE := Lib.hid hE
  have HC := Lib.hid hc
  have HCELL := Lib.hid hcell
  clear hall hl hE hp
  have ha1 : ∀ x, (w.alloc x).cell? ⟨c, 0, none⟩ = some (.pointer (some ⟨e, o, none⟩)) := fun x => cell_al hc x
  have ha2 : ∀ x, (w.alloc x).cell? ⟨e, o, none⟩ = some (.slice sa l.length sc) := fun x => cell_al hcell x
  go_enter Tryz.func110, Tryz.ntmps110
  go_wp2_with fail
  go_loopw [4, 5, 6, 11] (fun x4 x5 x6 i wr => ∃ (k : Nat), k ≤ l.length ∧ i = .int .i64 k ∧ Bld (w.heap.size + 1) w.heap.size (Lib.byteCells ((l.take k).flatMap secE)) wr ∧ Below w.heap.size w wr) (fun x4 x5 x6 i _ => l.length - (intOf i).toNat)
  case atStart => exact ⟨0, Nat.zero_le _, rfl, Bld.fresh w, (Below.refl _ _).alloc (Nat.le_refl _) _⟩
  case round =>
    obtain ⟨k, hk, rfl, hbld, hbr⟩ := hrel
    clear ha1 ha2 hc hcell
    by_cases hlt : k < l.length
    · obtain ⟨B, o2, rfl, hB, hEl⟩ := HE.out (fun h0 => by rw [h0] at hlt; exact absurd hlt (Nat.not_lt_zero _))
      have hel := (hEl k hlt).below hbr
      obtain ⟨hsm, hrt⟩ := HL.out _ (List.getElem_mem hlt)
      have hsnoc : (l.take (k + 1)).flatMap secE = (l.take k).flatMap secE ++ secE l[k] := by
        rw [List.take_succ_eq_append_getElem hlt, List.flatMap_append]; simp
      have hlenk : ((l.take k).flatMap secE).length + (secE l[k]).length ≤ 64000 := by
        have h1 := flatE_len (l.take (k + 1)) (fun x hx => (HL.out x (List.mem_of_mem_take hx)).1)
        rw [hsnoc, List.length_append, List.length_take] at h1
        omega
      have hput := fun W => secondPut_any l[k] hsm hrt W
      have HSN := Lib.hid hsnoc
      have HBR := Lib.hid hbr
      have HBLD := Lib.hid hbld
      have hbs := hbr.size
      clear hsnoc hEl hsm hrt hbr hbld
      generalize secE l[k] = z at *
      generalize l[k] = y at *
      obtain ⟨y0, y1, y2, y3, y4, y5, y6, y7, y8, y9, y10⟩ := y
      simp only [Ent.val, Ent.cells] at hput
      have HPUT := Lib.hid hput
      clear hput
      obtain ⟨a0, a1, a2, a3, a4, a5, a6, a7, a8, a9, a10⟩ := hel
      simp only at a0 a1 a2 a3 a4 a5 a6 a7 a8 a9 a10
      go_wp2_with fail
      refine (HPUT.out _).mono ?_
      rintro x w3 ⟨rfl, hb3⟩
      have hb3w : Below w.heap.size w w3 := (HBR.out.trans (((Below.refl _ _).alloc (Nat.le_refl _) _).mono hbs)).trans (hb3.mono (by simp; omega))
      have hbld3 := (HBLD.out.below ((Below.refl _ _).alloc (Nat.le_refl _) _)).below hb3
      have HB3 := Lib.hid hb3w
      have HBLD3 := Lib.hid hbld3
      clear hb3 hb3w hbld3 a0 a1 a2 a3 a4 a5 a6 a7 a8 a9 a10
      go_wp2_with fail
      refine (writeString_any _ _ _ ⟨z.toArray⟩ _ HBLD3.out (by rw [Lib.byteCells_length]; show _ + z.length ≤ _; omega)).mono ?_
      rintro x w5 ⟨rfl, hbld5, hk5⟩
      have hb5 : Below w.heap.size w w5 := HB3.out.trans (hk5.below (Nat.le_refl _) (by omega) HB3.out.size)
      rw [bytes_strCells] at hbld5
      have hbld6 : Bld (w.heap.size + 1) w.heap.size (Lib.byteCells ((l.take (k + 1)).flatMap secE)) w5 := by
        rw [HSN.out]
        have : Lib.byteCells ((l.take k).flatMap secE ++ z) = Lib.byteCells ((l.take k).flatMap secE) ++ Lib.byteCells z := by simp [Lib.byteCells]
        rw [this]
        exact hbld5
      have HB5 := Lib.hid hb5
      have HBLD5 := Lib.hid hbld6
      clear hbld5 hbld6 hb5 hk5
      go_wp2_with fail
      go_roundw
      case rel => exact ⟨k + 1, by omega, by go_num, HBLD5.out, HB5.out⟩
      case measure => simp [intOf]; omega
    · have hke : k = l.length := by omega
      rw [hke, List.take_length] at hbld
      have hput := fun W => put_any l.length (by omega) W
      have hvl := varL_len 10 l.length (Nat.lt_of_le_of_lt hn (by decide)) (by decide)
      have hz : ((l.length : Int) == 0) = l.isEmpty := by cases l with
        | nil => rfl
        | cons a r => exact beq_eq_false_iff_ne.2 (by simp; omega)
      have hfin : (if l.isEmpty then (⟨#[]⟩ : ByteArray) else ⟨(varL l.length ++ l.flatMap secE).toArray⟩) = ⟨(entsF l).toArray⟩ := by
        unfold entsF
        cases l with
        | nil => rfl
        | cons a r => rfl
      have HZ := Lib.hid hz
      have HF := Lib.hid hfin
      have HPUT := Lib.hid hput
      have HBR := Lib.hid hbr
      have HALL2 := HALL.out
      have HBLD := Lib.hid hbld
      have hS0 : wr.drew.cell? ⟨c, 0, none⟩ = some (.pointer (some ⟨e, o, none⟩)) ∧ wr.drew.cell? ⟨e, o, none⟩ = some (.slice sa l.length sc) := by
        have q1 := cell_later hbr HC.out
        have q2 := cell_later hbr HCELL.out
        exact ⟨q1, q2⟩
      clear hz hfin hput hbr hbld hke
      generalize varL l.length = tg at *
      generalize l.flatMap secE = body at *
      go_wp2_with fail
      refine region_D (fun u => u.cell? ⟨c, 0, none⟩ = some (.pointer (some ⟨e, o, none⟩)) ∧ u.cell? ⟨e, o, none⟩ = some (.slice sa l.length sc)) [] 15 (by kernel_rfl) (by rfl) ?_
      refine takeD (i := 0) (v := .pointer (some ⟨e, o, none⟩)) (by rfl) (by kernel_rfl) (fun _ _ _ h => h) (by rfl) (fun u hu => ?_) hS0 ?_
      · obtain ⟨hu0, hu1⟩ := hu
        go_simp
      simp only [Act.put, List.setIfInBounds_toArray, List.set_cons_zero, List.set_cons_succ]
      refine takeD (i := 1) (v := .pointer (some ⟨e, o, none⟩)) (by rfl) (by kernel_rfl) (fun _ _ _ h => h) (by rfl) (fun u hu => ?_) hS0 ?_
      · obtain ⟨hu0, hu1⟩ := hu
        go_simp
      simp only [Act.put, List.setIfInBounds_toArray, List.set_cons_zero, List.set_cons_succ]
      refine takeD (i := 2) (v := .slice sa l.length sc) (by rfl) (by kernel_rfl) (fun _ _ _ h => h) (by rfl) (fun u hu => ?_) hS0 ?_
      · obtain ⟨hu0, hu1⟩ := hu
        go_simp
      simp only [Act.put, List.setIfInBounds_toArray, List.set_cons_zero, List.set_cons_succ]
      refine takeD (i := 3) (v := .int .i64 l.length) (by rfl) (by kernel_rfl) (fun _ _ _ h => h) (by rfl) (fun u hu => ?_) hS0 ?_
      · obtain ⟨hu0, hu1⟩ := hu
        go_simp
      simp only [Act.put, List.setIfInBounds_toArray, List.set_cons_zero, List.set_cons_succ]
      refine takeD (i := 4) (v := .bool ((l.length : Int) == 0)) (by rfl) (by kernel_rfl) (fun _ _ _ h => h) (by rfl) (fun u hu => ?_) hS0 ?_
      · obtain ⟨hu0, hu1⟩ := hu
        go_simp
      simp only [Act.put, List.setIfInBounds_toArray, List.set_cons_zero, List.set_cons_succ]
      refine takeD (i := 5) (v := .pointer (some ⟨e, o, none⟩)) (by rfl) (by kernel_rfl) (fun _ _ _ h => h) (by rfl) (fun u hu => ?_) hS0 ?_
      · obtain ⟨hu0, hu1⟩ := hu
        go_simp
      simp only [Act.put, List.setIfInBounds_toArray, List.set_cons_zero, List.set_cons_succ]
      refine takeD (i := 6) (v := .pointer (some ⟨e, o, none⟩)) (by rfl) (by kernel_rfl) (fun _ _ _ h => h) (by rfl) (fun u hu => ?_) hS0 ?_
      · obtain ⟨hu0, hu1⟩ := hu
        go_simp
      simp only [Act.put, List.setIfInBounds_toArray, List.set_cons_zero, List.set_cons_succ]
      refine takeD (i := 7) (v := .slice sa l.length sc) (by rfl) (by kernel_rfl) (fun _ _ _ h => h) (by rfl) (fun u hu => ?_) hS0 ?_
      · obtain ⟨hu0, hu1⟩ := hu
        go_simp
      simp only [Act.put, List.setIfInBounds_toArray, List.set_cons_zero, List.set_cons_succ]
      refine takeD (i := 8) (v := .int .i64 l.length) (by rfl) (by kernel_rfl) (fun _ _ _ h => h) (by rfl) (fun u hu => ?_) hS0 ?_
      · obtain ⟨hu0, hu1⟩ := hu
        go_simp
      simp only [Act.put, List.setIfInBounds_toArray, List.set_cons_zero, List.set_cons_succ]
      refine takeD (i := 9) (v := .int .u64 l.length) (by rfl) (by kernel_rfl) (fun _ _ _ h => h) (by rfl) (fun u hu => ?_) hS0 ?_
      · obtain ⟨hu0, hu1⟩ := hu
        go_simp
        exact wrapU_small (by omega) (by omega)
      simp only [Act.put, List.setIfInBounds_toArray, List.set_cons_zero, List.set_cons_succ]
      have hbd : Below w.heap.size w wr.drew := ⟨HBR.out.os, HBR.out.tape, HBR.out.output, HBR.out.size, HBR.out.block⟩
      refine oneD (i := 10) (by rfl) (by kernel_rfl) (by rfl) ?_
      go_simp
      refine (HPUT.out _).mono ?_
      rintro _ w1 ⟨rfl, hb1⟩
      have hbd1 := hbd.trans (hb1.mono hbd.size)
      refine ⟨⟨cell_later hbd1 HC.out, cell_later hbd1 HCELL.out⟩, ?_⟩
      try simp only [Act.put, List.setIfInBounds_toArray, List.set_cons_zero, List.set_cons_succ]
      refine oneD (i := 11) (by rfl) (by kernel_rfl) (by rfl) ?_
      go_simp
      have hbl := (HBLD.out.below (⟨rfl, rfl, rfl, Nat.le_refl _, fun _ _ => rfl⟩ : Below wr.heap.size wr wr.drew)).below hb1
      refine (Tryz.Builder_String_any w.heap.size w.heap.size body w1 (hbl.isBuilder (Nat.le_refl _)) hbd1.size).mono ?_
      rintro _ w2 ⟨rfl, hb2⟩
      have hbd2 := hbd1.trans hb2
      refine ⟨⟨cell_later hbd2 HC.out, cell_later hbd2 HCELL.out⟩, ?_⟩
      try simp only [Act.put, List.setIfInBounds_toArray, List.set_cons_zero, List.set_cons_succ]
      have hnot : ¬ 9223372036854775807 < tg.length + body.length := by omega
      have hcat : (⟨tg.toArray⟩ : ByteArray) ++ ⟨body.toArray⟩ = ⟨(tg ++ body).toArray⟩ := ByteArray.mk_append_mk tg body
      refine oneD (i := 12) (by rfl) (by kernel_rfl) (by rfl) ?_
      go_simp
      refine ⟨⟨cell_later hbd2 HC.out, cell_later hbd2 HCELL.out⟩, ?_⟩
      rw [HZ.out]
      try simp only [Act.put, List.setIfInBounds_toArray, List.set_cons_zero, List.set_cons_succ]
      refine oneD (i := 13) (by rfl) (by kernel_rfl) (by rfl) ?_
      go_simp
      refine (none_any l.isEmpty _ _).mono ?_
      rintro _ w3 ⟨rfl, rfl⟩
      refine ⟨⟨cell_later hbd2 HC.out, cell_later hbd2 HCELL.out⟩, ?_⟩
      rw [HF.out]
      try simp only [Act.put, List.setIfInBounds_toArray, List.set_cons_zero, List.set_cons_succ]
      refine oneD (i := 14) (by rfl) (by kernel_rfl) (by rfl) ?_
      go_simp
      refine ⟨⟨cell_later hbd2 HC.out, cell_later hbd2 HCELL.out⟩, by kernel_rfl, NoPanic.normal ?_⟩
      try simp only [Act.put, List.setIfInBounds_toArray, List.set_cons_zero, List.set_cons_succ]
      clear hS0 hbl hb1 hb2 hbd hbd1
      go_wp2_with fail
      go_ret
      exact ⟨rfl, hbd2⟩

end Go.Proofs.YtbjbgdnjcppjhaaGreatDoor

/-
  second.entries' take closure: so many entries are read behind the list. Conditions: as the theorem says. By an AI agent.
-/
namespace Go.Proofs.YtbjbgdnjcppjhaaGreatDoor
open Go.RowKit Go.Sort
set_option linter.unusedVariables false
set_option linter.unusedSimpArgs false

/-- below n all is as it was, but for two blocks -/
structure ButN (n b e : Nat) (w w' : World) : Prop where
  os : w'.os = w.os
  tape : w'.tape = w.tape
  output : w'.output = w.output
  size : w.heap.size ≤ w'.heap.size
  block : ∀ k, k < n → k ≠ b → k ≠ e → w'.heap[k]? = w.heap[k]?
theorem ButN.refl (n b e : Nat) (w : World) : ButN n b e w w := ⟨rfl, rfl, rfl, Nat.le_refl _, fun _ _ _ _ => rfl⟩
theorem ButN.trans {n b e : Nat} {w w' w'' : World} (h : ButN n b e w w') (g : ButN n b e w' w'') : ButN n b e w w'' :=
  ⟨g.os.trans h.os, g.tape.trans h.tape, g.output.trans h.output, Nat.le_trans h.size g.size, fun k hk h1 h2 => (g.block k hk h1 h2).trans (h.block k hk h1 h2)⟩
theorem ButN.of2 {n b e : Nat} {w w' : World} (h : But2 b e w w') (hn : n ≤ w.heap.size) : ButN n b e w w' := ⟨h.os, h.tape, h.output, h.size, fun k hk => h.block k (Nat.lt_of_lt_of_le hk hn)⟩
theorem ButN.of1 {n b e : Nat} {w w' : World} (h : But b w w') (hn : n ≤ w.heap.size) : ButN n b e w w' := ButN.of2 (But2.ofBut h) hn
theorem ButN.below {n b e : Nat} {w w' : World} (h : Below n w w') : ButN n b e w w' := ⟨h.os, h.tape, h.output, h.size, fun k hk _ _ => h.block k hk⟩
set_option maxRecDepth 100000 in
set_option maxHeartbeats 4000000 in
theorem ents_take (b c e n0 : Nat) (r : Rd) (m : Msg) (sv : Value) (t : TypeId) (hbe : b ≠ e) (hbc : b ≠ c) (hce : c ≠ e) (hbn : b < n0) (hcn : c < n0) (hen : e < n0) (hm : m.entries.length ≤ 10000) (hl : r.1.length ≤ 1099511627776) (w : World) (hnw : n0 ≤ w.heap.size)
    (h : RdAt w b r) (hp : PtrAt w c e 9 t) (hin : MsgIn n0 e m sv w) :
    Calls Tryz.prog 111 #[.pointer (some ⟨b, 0, none⟩), .pointer (some ⟨c, 0, none⟩)] w fun x w' => x = .returned (.tuple #[]) ∧ RdAt w' b (takeE m r).2 ∧ (∃ v', MsgIn n0 e (takeE m r).1 v' w') ∧ ButN n0 b e w w' := by
  have HV := Lib.hid (var_any b r hl w h)
  have hvl := rdVar_less r
  have hdef : takeE m r = if (rdVar r).1 = 0 ∨ 64 < (rdVar r).1 then (m, rdFail) else ({ m with entries := m.entries ++ (entsN (rdVar r).1 (rdVar r).2).1 }, (entsN (rdVar r).1 (rdVar r).2).2) := rfl
  generalize takeE m r = y at *
  generalize rdVar r = x at *
  obtain ⟨n, r2⟩ := x
  have hrl : r2.1.length ≤ 1099511627776 := Nat.le_trans hvl hl
  have HD := Lib.hid hdef
  have HP := Lib.hid hp
  have HIN := Lib.hid hin
  obtain ⟨i0, hi0, hz0, hz1, hz2⟩ := info_parts infoEnt
  have HI := Lib.hid hi0
  clear hi0 h hp hin hdef hvl
  simp only at HD hrl
  go_enter Tryz.func111, Tryz.ntmps111
  go_wp2_with fail
  refine HV.out.mono ?_
  rintro x w1 ⟨rfl, h1, hb1⟩
  have H1 := Lib.hid h1
  have HIN1 := Lib.hid (HIN.out.but hb1 hbn hbe)
  have HB1 := Lib.hid (ButN.of1 hb1 hnw : ButN n0 b e w w1)
  have hnw1 : n0 ≤ w1.heap.size := Nat.le_trans hnw hb1.size
  have HP1 := Lib.hid (((hb1.block c (by omega) (fun h => hbc (Option.some.inj h).symm)).trans HP.out : PtrAt w1 c e 9 t))
  clear h1 hb1 HIN HV
  by_cases hn : n = 0 ∨ 64 < n
  · have HQ := Lib.hid (HD.out.trans (if_pos hn))
    have HF := Lib.hid (fail_any b r2 w1 H1.out)
    rcases hn with rfl | hn
    · go_wp2_with fail
      refine HF.out.mono ?_
      rintro x w2 ⟨rfl, h2, hb2⟩
      go_wp2_with fail
      refine ⟨rfl, .tuple #[], results_none rfl _ _ _, rfl, ?_, ?_, HB1.out.trans (ButN.of1 hb2 hnw1)⟩
      · rw [HQ.out]; exact h2
      · rw [HQ.out]; exact ⟨sv, HIN1.out.but hb2 hbn hbe⟩
    · have hn2 : (64 : Int) < (n : Int) := by omega
      have hz : ((n : Int) == 0) = false := beq_eq_false_iff_ne.2 (by omega)
      go_wp2_with fail
      refine HF.out.mono ?_
      rintro x w2 ⟨rfl, h2, hb2⟩
      go_wp2_with fail
      refine ⟨rfl, .tuple #[], results_none rfl _ _ _, rfl, ?_, ?_, HB1.out.trans (ButN.of1 hb2 hnw1)⟩
      · rw [HQ.out]; exact h2
      · rw [HQ.out]; exact ⟨sv, HIN1.out.but hb2 hbn hbe⟩
  · have HQ := Lib.hid (HD.out.trans (if_neg hn))
    have hz : ((n : Int) == 0) = false := beq_eq_false_iff_ne.2 (by omega)
    have hn2 : ¬ (64 : Int) < (n : Int) := by omega
    have hn64 : n ≤ 64 := by omega
    clear hn HD
    go_wp2_with fail
    go_loopw [15] (fun i wr => ∃ (k : Nat) (v' : Value), k ≤ n ∧ i = .int .u64 k ∧ RdAt wr b (entsN k r2).2 ∧ MsgIn n0 e { m with entries := m.entries ++ (entsN k r2).1 } v' wr ∧ ButN n0 b e w wr) (fun i _ => n - (intOf i).toNat)
    case atStart =>
      refine ⟨0, sv, Nat.zero_le _, rfl, H1.out, ?_, HB1.out⟩
      have : (entsN 0 r2).1 = [] := rfl
      rw [this, List.append_nil]
      exact HIN1.out
    case round =>
      obtain ⟨k, v', hk, rfl, hrd, hmi, hbr⟩ := hrel
      by_cases hlt : k < n
      · have hshr := entsN_shrink k r2
        have hsn := entsN_snoc k r2
        have hkl := entsN_len k r2
        generalize entsN k r2 = z at *
        obtain ⟨es, r3⟩ := z
        simp only at hsn hshr hkl hrd hmi
        have hget := secondGet_any b r3 (Nat.le_trans hshr hrl)
        generalize getEnt r3 = q at *
        obtain ⟨y, r4⟩ := q
        simp only at hsn
        obtain ⟨va, vc, rfl⟩ := hmi.slice
        have hlen : (m.entries ++ es).length = m.entries.length + k := by simp [hkl]
        have hrow := hmi.row
        have hblk := hmi.block
        simp only [hlen] at hrow hblk
        have hnwr : n0 ≤ wr.heap.size := Nat.le_trans hnw hbr.size
        have q1 : wr.cell? ⟨c, 0, none⟩ = some (.pointer (some ⟨e, 9, none⟩)) := Lib.cell_of_heap ((hbr.block c hcn (by omega) hce).trans HP.out) 0
        have q2 : wr.cell? ⟨e, 9, none⟩ = some (.slice va (m.entries.length + k) vc) := Lib.cell_of_heap hblk 9
        have hS0 : wr.drew.cell? ⟨c, 0, none⟩ = some (.pointer (some ⟨e, 9, none⟩)) ∧ wr.drew.cell? ⟨e, 9, none⟩ = some (.slice va (m.entries.length + k) vc) := ⟨q1, q2⟩
        obtain ⟨y0, y1, y2, y3, y4, y5, y6, y7, y8, y9, y10⟩ := y
        simp only [Ent.val, Ent.cells] at hget
        have HSN := Lib.hid hsn
        clear hsn
        have ROW := Lib.hid hrow
        have HBLK := Lib.hid hblk
        have HBR := Lib.hid hbr
        have HRD := Lib.hid hrd
        have HGET := Lib.hid hget
        have HMI := Lib.hid hmi
        clear hrow hblk hbr hrd hget hmi q1 q2
        go_wp2_with fail
        refine region_D (fun u => u.cell? ⟨c, 0, none⟩ = some (.pointer (some ⟨e, 9, none⟩)) ∧ u.cell? ⟨e, 9, none⟩ = some (.slice va (m.entries.length + k) vc)) [9] 10 (by kernel_rfl) (by rfl) ?_
        refine takeD (i := 0) (v := .pointer (some ⟨e, 9, none⟩)) (by rfl) (by kernel_rfl) (fun _ _ _ h => h) (by rfl) (fun u hu => ?_) hS0 ?_
        · obtain ⟨hu0, hu1⟩ := hu
          go_simp
        simp only [Act.put, List.setIfInBounds_toArray, List.set_cons_zero, List.set_cons_succ]
        refine takeD (i := 1) (v := .pointer (some ⟨e, 9, none⟩)) (by rfl) (by kernel_rfl) (fun _ _ _ h => h) (by rfl) (fun u hu => ?_) hS0 ?_
        · obtain ⟨hu0, hu1⟩ := hu
          go_simp
        simp only [Act.put, List.setIfInBounds_toArray, List.set_cons_zero, List.set_cons_succ]
        refine takeD (i := 2) (v := .pointer (some ⟨e, 9, none⟩)) (by rfl) (by kernel_rfl) (fun _ _ _ h => h) (by rfl) (fun u hu => ?_) hS0 ?_
        · obtain ⟨hu0, hu1⟩ := hu
          go_simp
        simp only [Act.put, List.setIfInBounds_toArray, List.set_cons_zero, List.set_cons_succ]
        refine takeD (i := 3) (v := .slice va (m.entries.length + k) vc) (by rfl) (by kernel_rfl) (fun _ _ _ h => h) (by rfl) (fun u hu => ?_) hS0 ?_
        · obtain ⟨hu0, hu1⟩ := hu
          go_simp
        simp only [Act.put, List.setIfInBounds_toArray, List.set_cons_zero, List.set_cons_succ]
        refine takeD (i := 4) (v := .pointer (some ⟨b, 0, none⟩)) (by rfl) (by kernel_rfl) (fun _ _ _ h => h) (by rfl) (fun u hu => ?_) hS0 ?_
        · obtain ⟨hu0, hu1⟩ := hu
          go_simp
        simp only [Act.put, List.setIfInBounds_toArray, List.set_cons_zero, List.set_cons_succ]
        refine oneD (i := 5) (by rfl) (by kernel_rfl) (by rfl) ?_
        go_simp
        refine (HGET.out wr.drew HRD.out).mono ?_
        rintro _ w2 ⟨rfl, h2, hb2d⟩
        have hb2 : But b wr w2 := ⟨hb2d.os, hb2d.tape, hb2d.output, hb2d.size, hb2d.block⟩
        have hS2 : w2.cell? ⟨c, 0, none⟩ = some (.pointer (some ⟨e, 9, none⟩)) ∧ w2.cell? ⟨e, 9, none⟩ = some (.slice va (m.entries.length + k) vc) := by
          have e1 := hb2.block c (by omega) (fun h => hbc (Option.some.inj h).symm)
          have e2 := hb2.block e (by omega) (fun h => hbe (Option.some.inj h).symm)
          exact ⟨(World.cell?_of_block (w := wr) e1).trans hS0.1, (World.cell?_of_block (w := wr) e2).trans hS0.2⟩
        have hn2w : n0 ≤ w2.heap.size := Nat.le_trans hnwr hb2.size
        have hrow2 : w2.ownsRow n0 EntT 11 (.slice va (m.entries.length + k) vc) (m.entries.length + k) ((m.entries ++ es).flatMap fun e => e.cells.toList) := ROW.out.kept hb2 (own_not ROW.out hbn)
        have hblk2 := (hb2.block e (by omega) (fun h => hbe (Option.some.inj h).symm)).trans HBLK.out
        have HB2 := Lib.hid (HBR.out.trans (ButN.of1 hb2 hnwr))
        refine ⟨hS2, ?_⟩
        try simp only [Act.put, List.setIfInBounds_toArray, List.set_cons_zero, List.set_cons_succ]
        refine oneD (i := 6) (by rfl) (by kernel_rfl) (by rfl) ?_
        go_simp
        have hS2a : (w2.alloc (.cells #[.int .u64 y0, .int .u64 y1, .int .i64 y2, .int .u64 y3, .int .u64 y4, .int .u64 y5, .int .u64 y6, .int .i64 y7, .int .i64 y8, .string y9, .string y10] EntT)).cell? ⟨c, 0, none⟩ = some (.pointer (some ⟨e, 9, none⟩)) ∧ (w2.alloc (.cells #[.int .u64 y0, .int .u64 y1, .int .i64 y2, .int .u64 y3, .int .u64 y4, .int .u64 y5, .int .u64 y6, .int .i64 y7, .int .i64 y8, .string y9, .string y10] EntT)).cell? ⟨e, 9, none⟩ = some (.slice va (m.entries.length + k) vc) := ⟨cell_al hS2.1 _, cell_al hS2.2 _⟩
        refine ⟨hS2a, ?_⟩
        try simp only [Act.put, List.setIfInBounds_toArray, List.set_cons_zero, List.set_cons_succ]
        refine oneD (i := 7) (by rfl) (by kernel_rfl) (by rfl) ?_
        refine wp_append_lies _ _ _ _ (by rfl) n0 EntT i0 Ent.zero.val 11 104 Tryz.underlying24 HI.out hz0 hz1 hz2 rfl (by decide) (.slice va (m.entries.length + k) vc) (m.entries.length + k) _ (by rfl) (hrow2.alloc _)
          ⟨w2.heap.size, 0, none⟩ 1 1 (Ent.cells ⟨y0, y1, y2, y3, y4, y5, y6, y7, y8, y9, y10⟩).toList (by rfl) (by rfl) (World.news_of_block (cs := Ent.cells ⟨y0, y1, y2, y3, y4, y5, y6, y7, y8, y9, y10⟩) (t := EntT) (fr := (0, 0)) (heap_alloc_new w2 _)) (by intro u hu; simp [Ent.cells] at hu; rcases hu with rfl | rfl | rfl | rfl | rfl | rfl | rfl | rfl | rfl | rfl | rfl <;> rfl)
          (by omega) (by unfold maxLen; omega) (by omega) (by simp; omega) _ rfl ?_
        intro g cap w3 hown3 hgrow hat hlt3
        have hB23 : Below n0 w2 w3 := (((Below.refl _ _).alloc (Nat.le_refl _) _).mono hn2w).trans (grown_below hgrow (hrow2.alloc _) (by simp; omega))
        have hS3 : w3.cell? ⟨c, 0, none⟩ = some (.pointer (some ⟨e, 9, none⟩)) ∧ w3.cell? ⟨e, 9, none⟩ = some (.slice va (m.entries.length + k) vc) :=
          ⟨(World.cell?_of_block (w := w2) (hB23.block c hcn)).trans hS2.1, (World.cell?_of_block (w := w2) (hB23.block e hen)).trans hS2.2⟩
        refine ⟨fun _ => hS3, ?_⟩
        try simp only [Act.put, List.setIfInBounds_toArray, List.set_cons_zero, List.set_cons_succ]
        have hblk3 := (hB23.block e hen).trans hblk2
        have hrd3 : RdAt w3 b r4 := (hB23.block b hbn).trans h2
        have hmi3 : MsgIn n0 e { m with entries := m.entries ++ (es ++ [⟨y0, y1, y2, y3, y4, y5, y6, y7, y8, y9, y10⟩]) } (.slice (some ⟨g, 0, none⟩) (m.entries.length + k + 1) cap) (w3.setCell ⟨e, 9, none⟩ (.slice (some ⟨g, 0, none⟩) (m.entries.length + k + 1) cap)) := by
          refine ⟨?_, ?_⟩
          · simp [World.setCell, Array.getElem?_modify, hblk3, Msg.cells]
          · have h1 := hown3.kept (set_grown (w := w3) (b := e) (o := 9) (u := .slice (some ⟨g, 0, none⟩) (m.entries.length + k + 1) cap)) (own_not hown3 hen)
            have e1 : (m.entries ++ (es ++ [(⟨y0, y1, y2, y3, y4, y5, y6, y7, y8, y9, y10⟩ : Ent)])).length = m.entries.length + k + 1 := by simp [hkl]; omega
            have e2 : (m.entries ++ es).flatMap (fun e => e.cells.toList) ++ (Ent.cells ⟨y0, y1, y2, y3, y4, y5, y6, y7, y8, y9, y10⟩).toList = (m.entries ++ (es ++ [(⟨y0, y1, y2, y3, y4, y5, y6, y7, y8, y9, y10⟩ : Ent)])).flatMap (fun e => e.cells.toList) := by
              rw [← List.append_assoc, List.flatMap_append]; simp
            rw [e2] at h1
            show World.ownsRow _ n0 EntT 11 _ (m.entries ++ (es ++ [(⟨y0, y1, y2, y3, y4, y5, y6, y7, y8, y9, y10⟩ : Ent)])).length _
            rw [e1]
            exact h1
        have hbn3 : ButN n0 b e w (w3.setCell ⟨e, 9, none⟩ (.slice (some ⟨g, 0, none⟩) (m.entries.length + k + 1) cap)) :=
          (HB2.out.trans (ButN.below hB23)).trans (ButN.of2 (But2.set (b := b)) (by have := hB23.size; omega))
        have hrd4 : RdAt (w3.setCell ⟨e, 9, none⟩ (.slice (some ⟨g, 0, none⟩) (m.entries.length + k + 1) cap)) b r4 := hrd3.set_far hbe
        have f3 := Lib.frozen_of_heap hblk3 9
        have q2 := hS3.2
        have HM3 := Lib.hid hmi3
        have HBN3 := Lib.hid hbn3
        have HRD4 := Lib.hid hrd4
        clear hmi3 hbn3 hrd4 hrd3 hblk3 hrow2 hblk2 hown3 hgrow hat h2 hb2 hb2d hS2 hS2a hB23 HB2
        refine oneD (i := 8) (by rfl) (by kernel_rfl) (by rfl) ?_
        go_simp
        try refine ⟨hS3, ?_⟩
        try simp only [Act.put, List.setIfInBounds_toArray, List.set_cons_zero, List.set_cons_succ]
        refine oneD (i := 9) (by rfl) (by kernel_rfl) (by rfl) ?_
        go_simp
        refine ⟨by kernel_rfl, NoPanic.normal ?_⟩
        try simp only [Act.put, List.setIfInBounds_toArray, List.set_cons_zero, List.set_cons_succ]
        go_wp2_with fail
        go_roundw
        case rel => exact ⟨k + 1, _, by omega, by go_num, by rw [HSN.out]; exact HRD4.out, by rw [HSN.out]; exact HM3.out, HBN3.out⟩
        case measure => simp [intOf]; omega
      · have hke : k = n := by omega
        subst hke
        have HRD := Lib.hid hrd
        have HMI := Lib.hid hmi
        have HBR := Lib.hid hbr
        clear hrd hmi hbr
        go_wp2_with fail
        refine ⟨rfl, .tuple #[], results_none rfl _ _ _, rfl, ?_, ?_, HBR.out⟩
        · rw [HQ.out]; exact HRD.out
        · rw [HQ.out]; exact ⟨v', HMI.out⟩

end Go.Proofs.YtbjbgdnjcppjhaaGreatDoor

/-
  second.parts: the list of the fields of a message, over the block that they name. No condition. (Printed by wip/genfields.py.) By an AI agent.
-/
namespace Go.Proofs.YtbjbgdnjcppjhaaGreatDoor
open Go.RowKit Go.Sort
set_option linter.unusedVariables false
set_option linter.unusedSimpArgs false

set_option maxRecDepth 100000 in
set_option maxHeartbeats 8000000 in
theorem sec_parts_any (e : Nat) (w : World) : Calls Tryz.prog 42 #[.pointer (some ⟨e, 0, none⟩)] w fun x w' => ∃ L C, x = .returned (.slice (some ⟨L, 0, none⟩) 11 11) ∧ TagsAt w' L w.heap.size e msgK C ∧ Below w.heap.size w w' := by
  go_enter Tryz.func42, Tryz.ntmps42
  go_wp2_with fail
  refine region_D (fun _ => True) [] 46 (by kernel_rfl) (by rfl) ?_
  refine takeD (i := 0) (v := .pointer (some ⟨e, 0, none⟩)) (by rfl) (by kernel_rfl) (fun _ _ _ h => h) (by rfl) (fun u hu => by go_simp) trivial ?_
  simp only [Act.put, List.setIfInBounds_toArray, List.set_cons_zero, List.set_cons_succ]
  refine takeD (i := 1) (v := .pointer (some ⟨e, 0, none⟩)) (by rfl) (by kernel_rfl) (fun _ _ _ h => h) (by rfl) (fun u hu => by go_simp) trivial ?_
  simp only [Act.put, List.setIfInBounds_toArray, List.set_cons_zero, List.set_cons_succ]
  refine takeD (i := 2) (v := .pointer (some ⟨e, 0, none⟩)) (by rfl) (by kernel_rfl) (fun _ _ _ h => h) (by rfl) (fun u hu => by go_simp) trivial ?_
  simp only [Act.put, List.setIfInBounds_toArray, List.set_cons_zero, List.set_cons_succ]
  refine takeD (i := 4) (v := .pointer (some ⟨e, 0, none⟩)) (by rfl) (by kernel_rfl) (fun _ _ _ h => h) (by rfl) (fun u hu => by go_simp) trivial ?_
  simp only [Act.put, List.setIfInBounds_toArray, List.set_cons_zero, List.set_cons_succ]
  refine takeD (i := 5) (v := .pointer (some ⟨e, 0, none⟩)) (by rfl) (by kernel_rfl) (fun _ _ _ h => h) (by rfl) (fun u hu => by go_simp) trivial ?_
  simp only [Act.put, List.setIfInBounds_toArray, List.set_cons_zero, List.set_cons_succ]
  refine takeD (i := 6) (v := .pointer (some ⟨e, 1, none⟩)) (by rfl) (by kernel_rfl) (fun _ _ _ h => h) (by rfl) (fun u hu => by go_simp) trivial ?_
  simp only [Act.put, List.setIfInBounds_toArray, List.set_cons_zero, List.set_cons_succ]
  refine takeD (i := 8) (v := .pointer (some ⟨e, 0, none⟩)) (by rfl) (by kernel_rfl) (fun _ _ _ h => h) (by rfl) (fun u hu => by go_simp) trivial ?_
  simp only [Act.put, List.setIfInBounds_toArray, List.set_cons_zero, List.set_cons_succ]
  refine takeD (i := 9) (v := .pointer (some ⟨e, 0, none⟩)) (by rfl) (by kernel_rfl) (fun _ _ _ h => h) (by rfl) (fun u hu => by go_simp) trivial ?_
  simp only [Act.put, List.setIfInBounds_toArray, List.set_cons_zero, List.set_cons_succ]
  refine takeD (i := 10) (v := .pointer (some ⟨e, 2, none⟩)) (by rfl) (by kernel_rfl) (fun _ _ _ h => h) (by rfl) (fun u hu => by go_simp) trivial ?_
  simp only [Act.put, List.setIfInBounds_toArray, List.set_cons_zero, List.set_cons_succ]
  refine takeD (i := 12) (v := .pointer (some ⟨e, 0, none⟩)) (by rfl) (by kernel_rfl) (fun _ _ _ h => h) (by rfl) (fun u hu => by go_simp) trivial ?_
  simp only [Act.put, List.setIfInBounds_toArray, List.set_cons_zero, List.set_cons_succ]
  refine takeD (i := 13) (v := .pointer (some ⟨e, 0, none⟩)) (by rfl) (by kernel_rfl) (fun _ _ _ h => h) (by rfl) (fun u hu => by go_simp) trivial ?_
  simp only [Act.put, List.setIfInBounds_toArray, List.set_cons_zero, List.set_cons_succ]
  refine takeD (i := 14) (v := .pointer (some ⟨e, 3, none⟩)) (by rfl) (by kernel_rfl) (fun _ _ _ h => h) (by rfl) (fun u hu => by go_simp) trivial ?_
  simp only [Act.put, List.setIfInBounds_toArray, List.set_cons_zero, List.set_cons_succ]
  refine takeD (i := 16) (v := .pointer (some ⟨e, 0, none⟩)) (by rfl) (by kernel_rfl) (fun _ _ _ h => h) (by rfl) (fun u hu => by go_simp) trivial ?_
  simp only [Act.put, List.setIfInBounds_toArray, List.set_cons_zero, List.set_cons_succ]
  refine takeD (i := 17) (v := .pointer (some ⟨e, 0, none⟩)) (by rfl) (by kernel_rfl) (fun _ _ _ h => h) (by rfl) (fun u hu => by go_simp) trivial ?_
  simp only [Act.put, List.setIfInBounds_toArray, List.set_cons_zero, List.set_cons_succ]
  refine takeD (i := 18) (v := .pointer (some ⟨e, 4, none⟩)) (by rfl) (by kernel_rfl) (fun _ _ _ h => h) (by rfl) (fun u hu => by go_simp) trivial ?_
  simp only [Act.put, List.setIfInBounds_toArray, List.set_cons_zero, List.set_cons_succ]
  refine takeD (i := 20) (v := .pointer (some ⟨e, 0, none⟩)) (by rfl) (by kernel_rfl) (fun _ _ _ h => h) (by rfl) (fun u hu => by go_simp) trivial ?_
  simp only [Act.put, List.setIfInBounds_toArray, List.set_cons_zero, List.set_cons_succ]
  refine takeD (i := 21) (v := .pointer (some ⟨e, 0, none⟩)) (by rfl) (by kernel_rfl) (fun _ _ _ h => h) (by rfl) (fun u hu => by go_simp) trivial ?_
  simp only [Act.put, List.setIfInBounds_toArray, List.set_cons_zero, List.set_cons_succ]
  refine takeD (i := 22) (v := .pointer (some ⟨e, 5, none⟩)) (by rfl) (by kernel_rfl) (fun _ _ _ h => h) (by rfl) (fun u hu => by go_simp) trivial ?_
  simp only [Act.put, List.setIfInBounds_toArray, List.set_cons_zero, List.set_cons_succ]
  refine takeD (i := 24) (v := .pointer (some ⟨e, 0, none⟩)) (by rfl) (by kernel_rfl) (fun _ _ _ h => h) (by rfl) (fun u hu => by go_simp) trivial ?_
  simp only [Act.put, List.setIfInBounds_toArray, List.set_cons_zero, List.set_cons_succ]
  refine takeD (i := 25) (v := .pointer (some ⟨e, 0, none⟩)) (by rfl) (by kernel_rfl) (fun _ _ _ h => h) (by rfl) (fun u hu => by go_simp) trivial ?_
  simp only [Act.put, List.setIfInBounds_toArray, List.set_cons_zero, List.set_cons_succ]
  refine takeD (i := 26) (v := .pointer (some ⟨e, 6, none⟩)) (by rfl) (by kernel_rfl) (fun _ _ _ h => h) (by rfl) (fun u hu => by go_simp) trivial ?_
  simp only [Act.put, List.setIfInBounds_toArray, List.set_cons_zero, List.set_cons_succ]
  refine takeD (i := 28) (v := .pointer (some ⟨e, 0, none⟩)) (by rfl) (by kernel_rfl) (fun _ _ _ h => h) (by rfl) (fun u hu => by go_simp) trivial ?_
  simp only [Act.put, List.setIfInBounds_toArray, List.set_cons_zero, List.set_cons_succ]
  refine takeD (i := 29) (v := .pointer (some ⟨e, 0, none⟩)) (by rfl) (by kernel_rfl) (fun _ _ _ h => h) (by rfl) (fun u hu => by go_simp) trivial ?_
  simp only [Act.put, List.setIfInBounds_toArray, List.set_cons_zero, List.set_cons_succ]
  refine takeD (i := 30) (v := .pointer (some ⟨e, 7, none⟩)) (by rfl) (by kernel_rfl) (fun _ _ _ h => h) (by rfl) (fun u hu => by go_simp) trivial ?_
  simp only [Act.put, List.setIfInBounds_toArray, List.set_cons_zero, List.set_cons_succ]
  refine takeD (i := 32) (v := .pointer (some ⟨e, 0, none⟩)) (by rfl) (by kernel_rfl) (fun _ _ _ h => h) (by rfl) (fun u hu => by go_simp) trivial ?_
  simp only [Act.put, List.setIfInBounds_toArray, List.set_cons_zero, List.set_cons_succ]
  refine takeD (i := 33) (v := .pointer (some ⟨e, 0, none⟩)) (by rfl) (by kernel_rfl) (fun _ _ _ h => h) (by rfl) (fun u hu => by go_simp) trivial ?_
  simp only [Act.put, List.setIfInBounds_toArray, List.set_cons_zero, List.set_cons_succ]
  refine takeD (i := 34) (v := .pointer (some ⟨e, 8, none⟩)) (by rfl) (by kernel_rfl) (fun _ _ _ h => h) (by rfl) (fun u hu => by go_simp) trivial ?_
  simp only [Act.put, List.setIfInBounds_toArray, List.set_cons_zero, List.set_cons_succ]
  refine takeD (i := 36) (v := .pointer (some ⟨e, 0, none⟩)) (by rfl) (by kernel_rfl) (fun _ _ _ h => h) (by rfl) (fun u hu => by go_simp) trivial ?_
  simp only [Act.put, List.setIfInBounds_toArray, List.set_cons_zero, List.set_cons_succ]
  refine takeD (i := 37) (v := .pointer (some ⟨e, 0, none⟩)) (by rfl) (by kernel_rfl) (fun _ _ _ h => h) (by rfl) (fun u hu => by go_simp) trivial ?_
  simp only [Act.put, List.setIfInBounds_toArray, List.set_cons_zero, List.set_cons_succ]
  refine takeD (i := 38) (v := .pointer (some ⟨e, 10, none⟩)) (by rfl) (by kernel_rfl) (fun _ _ _ h => h) (by rfl) (fun u hu => by go_simp) trivial ?_
  simp only [Act.put, List.setIfInBounds_toArray, List.set_cons_zero, List.set_cons_succ]
  refine takeD (i := 40) (v := .pointer (some ⟨e, 0, none⟩)) (by rfl) (by kernel_rfl) (fun _ _ _ h => h) (by rfl) (fun u hu => by go_simp) trivial ?_
  simp only [Act.put, List.setIfInBounds_toArray, List.set_cons_zero, List.set_cons_succ]
  refine takeD (i := 41) (v := .pointer (some ⟨e, 0, none⟩)) (by rfl) (by kernel_rfl) (fun _ _ _ h => h) (by rfl) (fun u hu => by go_simp) trivial ?_
  simp only [Act.put, List.setIfInBounds_toArray, List.set_cons_zero, List.set_cons_succ]
  refine takeD (i := 42) (v := .pointer (some ⟨e, 9, none⟩)) (by rfl) (by kernel_rfl) (fun _ _ _ h => h) (by rfl) (fun u hu => by go_simp) trivial ?_
  simp only [Act.put, List.setIfInBounds_toArray, List.set_cons_zero, List.set_cons_succ]
  refine oneD (i := 3) (by rfl) (by kernel_rfl) (by rfl) ?_
  go_simp
  refine (numI_make e 0 _).mono ?_
  rintro _ u1 ⟨rfl, p0, b0, l0⟩
  try simp only [Act.put, List.setIfInBounds_toArray, List.set_cons_zero, List.set_cons_succ]
  refine oneD (i := 7) (by rfl) (by kernel_rfl) (by rfl) ?_
  go_simp
  refine (numI_make e 1 _).mono ?_
  rintro _ u2 ⟨rfl, p1, b1, l1⟩
  try simp only [Act.put, List.setIfInBounds_toArray, List.set_cons_zero, List.set_cons_succ]
  refine oneD (i := 11) (by rfl) (by kernel_rfl) (by rfl) ?_
  go_simp
  refine (numI_make e 2 _).mono ?_
  rintro _ u3 ⟨rfl, p2, b2, l2⟩
  try simp only [Act.put, List.setIfInBounds_toArray, List.set_cons_zero, List.set_cons_succ]
  refine oneD (i := 15) (by rfl) (by kernel_rfl) (by rfl) ?_
  go_simp
  refine (numU_make e 3 _).mono ?_
  rintro _ u4 ⟨rfl, p3, b3, l3⟩
  try simp only [Act.put, List.setIfInBounds_toArray, List.set_cons_zero, List.set_cons_succ]
  refine oneD (i := 19) (by rfl) (by kernel_rfl) (by rfl) ?_
  go_simp
  refine (numU_make e 4 _).mono ?_
  rintro _ u5 ⟨rfl, p4, b4, l4⟩
  try simp only [Act.put, List.setIfInBounds_toArray, List.set_cons_zero, List.set_cons_succ]
  refine oneD (i := 23) (by rfl) (by kernel_rfl) (by rfl) ?_
  go_simp
  refine (numU_make e 5 _).mono ?_
  rintro _ u6 ⟨rfl, p5, b5, l5⟩
  try simp only [Act.put, List.setIfInBounds_toArray, List.set_cons_zero, List.set_cons_succ]
  refine oneD (i := 27) (by rfl) (by kernel_rfl) (by rfl) ?_
  go_simp
  refine (numU_make e 6 _).mono ?_
  rintro _ u7 ⟨rfl, p6, b6, l6⟩
  try simp only [Act.put, List.setIfInBounds_toArray, List.set_cons_zero, List.set_cons_succ]
  refine oneD (i := 31) (by rfl) (by kernel_rfl) (by rfl) ?_
  go_simp
  refine (numU_make e 7 _).mono ?_
  rintro _ u8 ⟨rfl, p7, b7, l7⟩
  try simp only [Act.put, List.setIfInBounds_toArray, List.set_cons_zero, List.set_cons_succ]
  refine oneD (i := 35) (by rfl) (by kernel_rfl) (by rfl) ?_
  go_simp
  refine (flag_make e 8 _).mono ?_
  rintro _ u9 ⟨rfl, p8, b8, l8⟩
  try simp only [Act.put, List.setIfInBounds_toArray, List.set_cons_zero, List.set_cons_succ]
  refine oneD (i := 39) (by rfl) (by kernel_rfl) (by rfl) ?_
  go_simp
  refine (text_make e 10 _).mono ?_
  rintro _ u10 ⟨rfl, p9, b9, l9⟩
  try simp only [Act.put, List.setIfInBounds_toArray, List.set_cons_zero, List.set_cons_succ]
  refine oneD (i := 43) (by rfl) (by kernel_rfl) (by rfl) ?_
  go_simp
  refine (ents_make e 9 _).mono ?_
  rintro _ u11 ⟨rfl, p10, b10, l10⟩
  try simp only [Act.put, List.setIfInBounds_toArray, List.set_cons_zero, List.set_cons_succ]
  refine oneD (i := 44) (by rfl) (by kernel_rfl) (by rfl) ?_
  go_simp
  try simp only [Act.put, List.setIfInBounds_toArray, List.set_cons_zero, List.set_cons_succ]
  refine oneD (i := 45) (by rfl) (by kernel_rfl) (by rfl) ?_
  go_simp
  refine ⟨by kernel_rfl, NoPanic.normal ?_⟩
  try simp only [Act.put, List.setIfInBounds_toArray, List.set_cons_zero, List.set_cons_succ]
  have hz := heap_alloc_new u11 (.cells #[.func (.func 99) #[] #[.pointer (some ⟨w.heap.size, 0, none⟩)], .func (.func 101) #[] #[.pointer (some ⟨w.heap.size, 0, none⟩)], .func (.func 99) #[] #[.pointer (some ⟨u1.heap.size, 0, none⟩)], .func (.func 101) #[] #[.pointer (some ⟨u1.heap.size, 0, none⟩)], .func (.func 99) #[] #[.pointer (some ⟨u2.heap.size, 0, none⟩)], .func (.func 101) #[] #[.pointer (some ⟨u2.heap.size, 0, none⟩)], .func (.func 102) #[] #[.pointer (some ⟨u3.heap.size, 0, none⟩)], .func (.func 103) #[] #[.pointer (some ⟨u3.heap.size, 0, none⟩)], .func (.func 102) #[] #[.pointer (some ⟨u4.heap.size, 0, none⟩)], .func (.func 103) #[] #[.pointer (some ⟨u4.heap.size, 0, none⟩)], .func (.func 102) #[] #[.pointer (some ⟨u5.heap.size, 0, none⟩)], .func (.func 103) #[] #[.pointer (some ⟨u5.heap.size, 0, none⟩)], .func (.func 102) #[] #[.pointer (some ⟨u6.heap.size, 0, none⟩)], .func (.func 103) #[] #[.pointer (some ⟨u6.heap.size, 0, none⟩)], .func (.func 102) #[] #[.pointer (some ⟨u7.heap.size, 0, none⟩)], .func (.func 103) #[] #[.pointer (some ⟨u7.heap.size, 0, none⟩)], .func (.func 108) #[] #[.pointer (some ⟨u8.heap.size, 0, none⟩)], .func (.func 109) #[] #[.pointer (some ⟨u8.heap.size, 0, none⟩)], .func (.func 104) #[] #[.pointer (some ⟨u9.heap.size, 0, none⟩)], .func (.func 106) #[] #[.pointer (some ⟨u9.heap.size, 0, none⟩)], .func (.func 110) #[] #[.pointer (some ⟨u10.heap.size, 0, none⟩)], .func (.func 111) #[] #[.pointer (some ⟨u10.heap.size, 0, none⟩)]] 117)
  have B10 : Below u11.heap.size u11 (u11.alloc (.cells #[.func (.func 99) #[] #[.pointer (some ⟨w.heap.size, 0, none⟩)], .func (.func 101) #[] #[.pointer (some ⟨w.heap.size, 0, none⟩)], .func (.func 99) #[] #[.pointer (some ⟨u1.heap.size, 0, none⟩)], .func (.func 101) #[] #[.pointer (some ⟨u1.heap.size, 0, none⟩)], .func (.func 99) #[] #[.pointer (some ⟨u2.heap.size, 0, none⟩)], .func (.func 101) #[] #[.pointer (some ⟨u2.heap.size, 0, none⟩)], .func (.func 102) #[] #[.pointer (some ⟨u3.heap.size, 0, none⟩)], .func (.func 103) #[] #[.pointer (some ⟨u3.heap.size, 0, none⟩)], .func (.func 102) #[] #[.pointer (some ⟨u4.heap.size, 0, none⟩)], .func (.func 103) #[] #[.pointer (some ⟨u4.heap.size, 0, none⟩)], .func (.func 102) #[] #[.pointer (some ⟨u5.heap.size, 0, none⟩)], .func (.func 103) #[] #[.pointer (some ⟨u5.heap.size, 0, none⟩)], .func (.func 102) #[] #[.pointer (some ⟨u6.heap.size, 0, none⟩)], .func (.func 103) #[] #[.pointer (some ⟨u6.heap.size, 0, none⟩)], .func (.func 102) #[] #[.pointer (some ⟨u7.heap.size, 0, none⟩)], .func (.func 103) #[] #[.pointer (some ⟨u7.heap.size, 0, none⟩)], .func (.func 108) #[] #[.pointer (some ⟨u8.heap.size, 0, none⟩)], .func (.func 109) #[] #[.pointer (some ⟨u8.heap.size, 0, none⟩)], .func (.func 104) #[] #[.pointer (some ⟨u9.heap.size, 0, none⟩)], .func (.func 106) #[] #[.pointer (some ⟨u9.heap.size, 0, none⟩)], .func (.func 110) #[] #[.pointer (some ⟨u10.heap.size, 0, none⟩)], .func (.func 111) #[] #[.pointer (some ⟨u10.heap.size, 0, none⟩)]] 117)) := (Below.refl _ _).alloc (Nat.le_refl _) _
  have hsz : (u11.alloc (.cells #[.func (.func 99) #[] #[.pointer (some ⟨w.heap.size, 0, none⟩)], .func (.func 101) #[] #[.pointer (some ⟨w.heap.size, 0, none⟩)], .func (.func 99) #[] #[.pointer (some ⟨u1.heap.size, 0, none⟩)], .func (.func 101) #[] #[.pointer (some ⟨u1.heap.size, 0, none⟩)], .func (.func 99) #[] #[.pointer (some ⟨u2.heap.size, 0, none⟩)], .func (.func 101) #[] #[.pointer (some ⟨u2.heap.size, 0, none⟩)], .func (.func 102) #[] #[.pointer (some ⟨u3.heap.size, 0, none⟩)], .func (.func 103) #[] #[.pointer (some ⟨u3.heap.size, 0, none⟩)], .func (.func 102) #[] #[.pointer (some ⟨u4.heap.size, 0, none⟩)], .func (.func 103) #[] #[.pointer (some ⟨u4.heap.size, 0, none⟩)], .func (.func 102) #[] #[.pointer (some ⟨u5.heap.size, 0, none⟩)], .func (.func 103) #[] #[.pointer (some ⟨u5.heap.size, 0, none⟩)], .func (.func 102) #[] #[.pointer (some ⟨u6.heap.size, 0, none⟩)], .func (.func 103) #[] #[.pointer (some ⟨u6.heap.size, 0, none⟩)], .func (.func 102) #[] #[.pointer (some ⟨u7.heap.size, 0, none⟩)], .func (.func 103) #[] #[.pointer (some ⟨u7.heap.size, 0, none⟩)], .func (.func 108) #[] #[.pointer (some ⟨u8.heap.size, 0, none⟩)], .func (.func 109) #[] #[.pointer (some ⟨u8.heap.size, 0, none⟩)], .func (.func 104) #[] #[.pointer (some ⟨u9.heap.size, 0, none⟩)], .func (.func 106) #[] #[.pointer (some ⟨u9.heap.size, 0, none⟩)], .func (.func 110) #[] #[.pointer (some ⟨u10.heap.size, 0, none⟩)], .func (.func 111) #[] #[.pointer (some ⟨u10.heap.size, 0, none⟩)]] 117)).heap.size = u11.heap.size + 1 := World.size_alloc _ _
  generalize u11.alloc (.cells #[.func (.func 99) #[] #[.pointer (some ⟨w.heap.size, 0, none⟩)], .func (.func 101) #[] #[.pointer (some ⟨w.heap.size, 0, none⟩)], .func (.func 99) #[] #[.pointer (some ⟨u1.heap.size, 0, none⟩)], .func (.func 101) #[] #[.pointer (some ⟨u1.heap.size, 0, none⟩)], .func (.func 99) #[] #[.pointer (some ⟨u2.heap.size, 0, none⟩)], .func (.func 101) #[] #[.pointer (some ⟨u2.heap.size, 0, none⟩)], .func (.func 102) #[] #[.pointer (some ⟨u3.heap.size, 0, none⟩)], .func (.func 103) #[] #[.pointer (some ⟨u3.heap.size, 0, none⟩)], .func (.func 102) #[] #[.pointer (some ⟨u4.heap.size, 0, none⟩)], .func (.func 103) #[] #[.pointer (some ⟨u4.heap.size, 0, none⟩)], .func (.func 102) #[] #[.pointer (some ⟨u5.heap.size, 0, none⟩)], .func (.func 103) #[] #[.pointer (some ⟨u5.heap.size, 0, none⟩)], .func (.func 102) #[] #[.pointer (some ⟨u6.heap.size, 0, none⟩)], .func (.func 103) #[] #[.pointer (some ⟨u6.heap.size, 0, none⟩)], .func (.func 102) #[] #[.pointer (some ⟨u7.heap.size, 0, none⟩)], .func (.func 103) #[] #[.pointer (some ⟨u7.heap.size, 0, none⟩)], .func (.func 108) #[] #[.pointer (some ⟨u8.heap.size, 0, none⟩)], .func (.func 109) #[] #[.pointer (some ⟨u8.heap.size, 0, none⟩)], .func (.func 104) #[] #[.pointer (some ⟨u9.heap.size, 0, none⟩)], .func (.func 106) #[] #[.pointer (some ⟨u9.heap.size, 0, none⟩)], .func (.func 110) #[] #[.pointer (some ⟨u10.heap.size, 0, none⟩)], .func (.func 111) #[] #[.pointer (some ⟨u10.heap.size, 0, none⟩)]] 117) = uF at *
  have B9 : Below u10.heap.size u10 uF := b10.trans (B10.mono (Nat.le_of_lt l10))
  have B8 : Below u9.heap.size u9 uF := b9.trans (B9.mono (Nat.le_of_lt l9))
  have B7 : Below u8.heap.size u8 uF := b8.trans (B8.mono (Nat.le_of_lt l8))
  have B6 : Below u7.heap.size u7 uF := b7.trans (B7.mono (Nat.le_of_lt l7))
  have B5 : Below u6.heap.size u6 uF := b6.trans (B6.mono (Nat.le_of_lt l6))
  have B4 : Below u5.heap.size u5 uF := b5.trans (B5.mono (Nat.le_of_lt l5))
  have B3 : Below u4.heap.size u4 uF := b4.trans (B4.mono (Nat.le_of_lt l4))
  have B2 : Below u3.heap.size u3 uF := b3.trans (B3.mono (Nat.le_of_lt l3))
  have B1 : Below u2.heap.size u2 uF := b2.trans (B2.mono (Nat.le_of_lt l2))
  have B0 : Below u1.heap.size u1 uF := b1.trans (B1.mono (Nat.le_of_lt l1))
  have hl0 : w.heap.size < u1.heap.size := l0
  have hB : Below w.heap.size w uF := (⟨b0.os, b0.tape, b0.output, b0.size, b0.block⟩ : Below w.heap.size w u1).trans (B0.mono (Nat.le_of_lt hl0))
  have HZ := Lib.hid hz
  have HB := Lib.hid hB
  clear hz hB b0 b1 b2 b3 b4 b5 b6 b7 b8 b9 b10
  go_wp2_with fail
  go_ret
  refine ⟨u11.heap.size, fun k => [w.heap.size, u1.heap.size, u2.heap.size, u3.heap.size, u4.heap.size, u5.heap.size, u6.heap.size, u7.heap.size, u8.heap.size, u9.heap.size, u10.heap.size].getD k 0, rfl, ⟨?_, ?_, ?_, ?_, by omega⟩, HB.out⟩
  · intro k hk
    match k, hk with
    | 0, _ => exact Lib.cell_of_heap HZ.out 0
    | 1, _ => exact Lib.cell_of_heap HZ.out 2
    | 2, _ => exact Lib.cell_of_heap HZ.out 4
    | 3, _ => exact Lib.cell_of_heap HZ.out 6
    | 4, _ => exact Lib.cell_of_heap HZ.out 8
    | 5, _ => exact Lib.cell_of_heap HZ.out 10
    | 6, _ => exact Lib.cell_of_heap HZ.out 12
    | 7, _ => exact Lib.cell_of_heap HZ.out 14
    | 8, _ => exact Lib.cell_of_heap HZ.out 16
    | 9, _ => exact Lib.cell_of_heap HZ.out 18
    | 10, _ => exact Lib.cell_of_heap HZ.out 20
    | k + 11, h => exact absurd h (by omega)
  · intro k hk
    match k, hk with
    | 0, _ => exact Lib.cell_of_heap HZ.out 1
    | 1, _ => exact Lib.cell_of_heap HZ.out 3
    | 2, _ => exact Lib.cell_of_heap HZ.out 5
    | 3, _ => exact Lib.cell_of_heap HZ.out 7
    | 4, _ => exact Lib.cell_of_heap HZ.out 9
    | 5, _ => exact Lib.cell_of_heap HZ.out 11
    | 6, _ => exact Lib.cell_of_heap HZ.out 13
    | 7, _ => exact Lib.cell_of_heap HZ.out 15
    | 8, _ => exact Lib.cell_of_heap HZ.out 17
    | 9, _ => exact Lib.cell_of_heap HZ.out 19
    | 10, _ => exact Lib.cell_of_heap HZ.out 21
    | k + 11, h => exact absurd h (by omega)
  · intro k hk
    match k, hk with
    | 0, _ => exact PtrAt.below p0 B0
    | 1, _ => exact PtrAt.below p1 B1
    | 2, _ => exact PtrAt.below p2 B2
    | 3, _ => exact PtrAt.below p3 B3
    | 4, _ => exact PtrAt.below p4 B4
    | 5, _ => exact PtrAt.below p5 B5
    | 6, _ => exact PtrAt.below p6 B6
    | 7, _ => exact PtrAt.below p7 B7
    | 8, _ => exact PtrAt.below p8 B8
    | 9, _ => exact PtrAt.below p9 B9
    | 10, _ => exact PtrAt.below p10 B10
    | k + 11, h => exact absurd h (by omega)
  · intro k hk
    match k, hk with
    | 0, _ => exact ⟨show w.heap.size ≤ w.heap.size by omega, show w.heap.size < uF.heap.size by omega⟩
    | 1, _ => exact ⟨show w.heap.size ≤ u1.heap.size by omega, show u1.heap.size < uF.heap.size by omega⟩
    | 2, _ => exact ⟨show w.heap.size ≤ u2.heap.size by omega, show u2.heap.size < uF.heap.size by omega⟩
    | 3, _ => exact ⟨show w.heap.size ≤ u3.heap.size by omega, show u3.heap.size < uF.heap.size by omega⟩
    | 4, _ => exact ⟨show w.heap.size ≤ u4.heap.size by omega, show u4.heap.size < uF.heap.size by omega⟩
    | 5, _ => exact ⟨show w.heap.size ≤ u5.heap.size by omega, show u5.heap.size < uF.heap.size by omega⟩
    | 6, _ => exact ⟨show w.heap.size ≤ u6.heap.size by omega, show u6.heap.size < uF.heap.size by omega⟩
    | 7, _ => exact ⟨show w.heap.size ≤ u7.heap.size by omega, show u7.heap.size < uF.heap.size by omega⟩
    | 8, _ => exact ⟨show w.heap.size ≤ u8.heap.size by omega, show u8.heap.size < uF.heap.size by omega⟩
    | 9, _ => exact ⟨show w.heap.size ≤ u9.heap.size by omega, show u9.heap.size < uF.heap.size by omega⟩
    | 10, _ => exact ⟨show w.heap.size ≤ u10.heap.size by omega, show u10.heap.size < uF.heap.size by omega⟩
    | k + 11, h => exact absurd h (by omega)

end Go.Proofs.YtbjbgdnjcppjhaaGreatDoor

/-
  second.PutMsg, second.GetMsg over this translation: a message's bytes; the message of bytes. Conditions: as each theorem says. By an AI agent.
-/
namespace Go.Proofs.YtbjbgdnjcppjhaaGreatDoor
open Go.RowKit Go.Sort
set_option linter.unusedVariables false
set_option linter.unusedSimpArgs false

theorem msgK_kind : ∀ k, k < 11 → (msgK k).1 = fk_numU ∨ (msgK k).1 = fk_numI ∨ (msgK k).1 = fk_text ∨ (msgK k).1 = fk_flag ∨ (msgK k).1 = fk_ents
  | 0, _ => .inr (.inl rfl) | 1, _ => .inr (.inl rfl) | 2, _ => .inr (.inl rfl) | 3, _ => .inl rfl | 4, _ => .inl rfl | 5, _ => .inl rfl | 6, _ => .inl rfl | 7, _ => .inl rfl
  | 8, _ => .inr (.inr (.inr (.inl rfl))) | 9, _ => .inr (.inr (.inl rfl)) | 10, _ => .inr (.inr (.inr (.inr rfl))) | k + 11, h => absurd h (by omega)

theorem msgBs_len (m : Msg) (h : SmallM m) : ∀ b ∈ msgBs m, b.length ≤ 10010 := by
  obtain ⟨⟨a0, a1⟩, ⟨b0, b1⟩, ⟨c0, c1⟩, ⟨d0, d1⟩, ⟨e0, e1⟩, ⟨f0, f1⟩, ⟨g0, g1⟩, ⟨i0, i1⟩, hs, hc, he⟩ := h
  intro b hb
  have hn : ∀ n : Int, n ≤ 18446744073709551615 → (numL n.toNat).length ≤ 10010 := fun n h => Nat.le_trans (numL_len n.toNat (by omega)) (by decide)
  simp only [msgBs, List.mem_cons, List.not_mem_nil, or_false] at hb
  rcases hb with rfl | rfl | rfl | rfl | rfl | rfl | rfl | rfl | rfl | rfl | rfl
  · exact hn _ (by omega)
  · exact hn _ (by omega)
  · exact hn _ (by omega)
  · exact hn _ (by omega)
  · exact hn _ (by omega)
  · exact hn _ (by omega)
  · exact hn _ (by omega)
  · exact hn _ (by omega)
  · cases m.ok <;> simp [flagL]
  · have h2 : m.snap.data.toList.length ≤ 200 := hs
    have := textF_len m.snap.data.toList (by omega)
    omega
  · unfold entsF
    split
    · simp
    · have h1 := varL_len 10 m.entries.length (Nat.lt_of_le_of_lt hc (by decide)) (by decide)
      have h2 := flatE_len m.entries (fun x hx => (he x hx).1)
      rw [List.length_append]
      omega
theorem secM_len (m : Msg) (h : SmallM m) : (secM m).length ≤ 200000 := Nat.le_trans (tagL_len (msgBs m) 0 10010 (show 0 + 11 ≤ 1000 by decide) (msgBs_len m h)) (show 11 * (10 + 10010) + 1 ≤ 200000 by decide)

set_option maxHeartbeats 1000000 in
theorem secPut_msg (m : Msg) (h : SmallM m) (b L base : Nat) (C : Nat → Nat) (sv : Value) (w : World) (hf : TagsAt w L base b msgK C) (hb : w.heap[b]? = some (.cells (m.cells sv) MsgT (0, 0))) (hs : EntsAt w sv m.entries) :
    Calls Tryz.prog 36 #[.slice (some ⟨L, 0, none⟩) 11 11] w fun x w' => x = .returned (.string ⟨(secM m).toArray⟩) ∧ Below w.heap.size w w' := by
  refine secPut_of L 11 11 (fun k => (msgK k).1.1) (fun k => (msgK k).1.2.1) (fun k => .pointer (some ⟨C k, 0, none⟩)) (msgBs m) rfl (by decide) (Nat.le_trans (secM_len m h) (by decide)) w
    (fun k hk => ⟨hf.put k hk, hf.take k hk⟩) (fun k hk args W => (fk_enters _ (msgK_kind k hk) args W).1) ?_
  obtain ⟨⟨a0, a1⟩, ⟨b0, b1⟩, ⟨c0, c1⟩, ⟨d0, d1⟩, ⟨e0, e1⟩, ⟨f0, f1⟩, ⟨g0, g1⟩, ⟨i0, i1⟩, hsn, hcn, he⟩ := h
  intro k hk W hW
  have hbW := (hW.block b (heap_lt hb)).trans hb
  have hc : ∀ o v, (m.cells sv)[o]? = some v → W.cell? ⟨b, o, none⟩ = some v := fun o v h => (Lib.cell_of_heap hbW o).trans h
  have hk11 : k < 11 := hk
  have hp := (hf.ptr k hk11).below hW
  match k, hk11, hp, hk with
  | 0, _, hp, _ => exact numI_put _ b 0 m.kind.toNat _ (by omega) W hp (hc 0 _ (by rw [Int.toNat_of_nonneg (by omega)]; rfl))
  | 1, _, hp, _ => exact numI_put _ b 1 m.frm.toNat _ (by omega) W hp (hc 1 _ (by rw [Int.toNat_of_nonneg (by omega)]; rfl))
  | 2, _, hp, _ => exact numI_put _ b 2 m.to.toNat _ (by omega) W hp (hc 2 _ (by rw [Int.toNat_of_nonneg (by omega)]; rfl))
  | 3, _, hp, _ => exact numU_put _ b 3 m.term.toNat _ (by omega) W hp (hc 3 _ (by rw [Int.toNat_of_nonneg (by omega)]; rfl))
  | 4, _, hp, _ => exact numU_put _ b 4 m.index.toNat _ (by omega) W hp (hc 4 _ (by rw [Int.toNat_of_nonneg (by omega)]; rfl))
  | 5, _, hp, _ => exact numU_put _ b 5 m.prev.toNat _ (by omega) W hp (hc 5 _ (by rw [Int.toNat_of_nonneg (by omega)]; rfl))
  | 6, _, hp, _ => exact numU_put _ b 6 m.commit.toNat _ (by omega) W hp (hc 6 _ (by rw [Int.toNat_of_nonneg (by omega)]; rfl))
  | 7, _, hp, _ => exact numU_put _ b 7 m.mark.toNat _ (by omega) W hp (hc 7 _ (by rw [Int.toNat_of_nonneg (by omega)]; rfl))
  | 8, _, hp, _ => exact flag_put _ b 8 m.ok _ W hp (hc 8 _ rfl)
  | 9, _, hp, _ => exact text_put _ b 10 m.snap.data.toList _ (show m.snap.size ≤ _ by omega) W hp (hc 10 _ rfl)
  | 10, _, hp, _ => exact ents_put _ b 9 sv m.entries _ he (by omega) W hp (hc 9 _ rfl) (hs.below hW)
  | k + 11, h, _, _ => exact absurd h (by omega)

set_option maxRecDepth 100000 in
set_option maxHeartbeats 2000000 in
theorem secondPutMsg_any (m : Msg) (h : SmallM m) (hr : msgRightB m = true) (sv : Value) (w : World) (hs : EntsAt w sv m.entries) :
    Calls Tryz.prog 12 #[.agg (m.cells sv)] w fun x w' => x = .returned (.tuple #[.string ⟨(secM m).toArray⟩, .bool true]) ∧ Below w.heap.size w w' := by
  have hright := fun W hW => msgRight_any m sv (fun e he => (h.each e he).1.wf) (by have := h.count; omega) W hW
  rw [hr] at hright
  have hput := fun L base C W => secPut_msg m h w.heap.size L base C sv W
  have hbox := heap_alloc_new w (.cells (m.cells sv) MsgT)
  generalize secM m = z at *
  clear h hr
  obtain ⟨x0, x1, x2, x3, x4, x5, x6, x7, x8, x10, x9⟩ := m
  simp only [Msg.cells] at hright hput hbox hs ⊢
  obtain ⟨va, vc, rfl, _⟩ := id hs
  have HP := Lib.hid hput
  have HBOX := Lib.hid hbox
  have HR := Lib.hid hright
  have HS := Lib.hid hs
  clear hput hbox hright hs
  go_enter Tryz.func12, Tryz.ntmps12
  go_wp2_with fail
  refine (HR.out _ (HS.out.below ((Below.refl _ _).alloc (Nat.le_refl _) _))).mono ?_
  rintro x w1 ⟨rfl, hb1⟩
  go_wp2_with fail
  refine (sec_parts_any _ w1).mono ?_
  rintro x w2 ⟨L, C, rfl, ht, hb2⟩
  have hbk : w2.heap[w.heap.size]? = some (.cells #[.int .i64 x0, .int .i64 x1, .int .i64 x2, .int .u64 x3, .int .u64 x4, .int .u64 x5, .int .u64 x6, .int .u64 x7, .bool x8, .slice va x9.length vc, .string x10] MsgT (0, 0)) := by
    have hs := hb1.size
    simp only [World.size_alloc] at hs
    rw [hb2.block _ (by omega), hb1.block _ (by simp)]
    exact HBOX.out
  have hbw : Below w.heap.size w w2 := (((Below.refl _ _).alloc (Nat.le_refl _) _).trans (hb1.mono (by simp))).trans (hb2.mono (by have := hb1.size; simp only [World.size_alloc] at this; omega))
  have HC := Lib.hid (HP.out L _ C w2 ht hbk (HS.out.below hbw))
  have HBW := Lib.hid hbw
  clear hb1 hb2 hbw ht hbk
  go_wp2_with fail
  refine HC.out.mono ?_
  rintro x w3 ⟨rfl, hb3⟩
  go_wp2_with fail
  go_ret2
  exact ⟨rfl, HBW.out.trans (hb3.mono HBW.out.size)⟩

theorem takeE_count (m : Msg) (r : Rd) (la : Nat) (hla : la ≤ 10) (h : m.entries.length ≤ 64 * la) : (takeE m r).1.entries.length ≤ 64 * 11 := by
  unfold takeE
  split
  · show m.entries.length ≤ _
    omega
  · simp only [List.length_append, entsN_len]
    omega

set_option maxHeartbeats 1000000 in
theorem secGet_msg (b e L base n0 : Nat) (C : Nat → Nat) (r : Rd) (hl : r.1.length ≤ 1099511627776) (w : World) (hb : b < base) (he : e < base) (hbe : b ≠ e) (hn0 : w.heap.size = n0) (hf : TagsAt w L base e msgK C) (h : RdAt w b r) (hz : w.heap[e]? = some (.cells (Msg.none.cells (.slice none 0 0)) MsgT (0, 0))) :
    Calls Tryz.prog 39 #[.pointer (some ⟨b, 0, none⟩), .slice (some ⟨L, 0, none⟩) 11 11] w fun x w' => x = .returned (.tuple #[]) ∧ RdAt w' b (getL msgTakes 0 Msg.none r).2 ∧ ButN n0 b e w w' ∧ ∃ v, MsgIn n0 e (getL msgTakes 0 Msg.none r).1 v w' := by
  have hbn : b < n0 := by rw [← hn0]; exact h.lt
  have hen : e < n0 := by rw [← hn0]; exact heap_lt hz
  refine Calls.mono (secGet_of msgTakes msgTakes_fine (fun la W s => ButN n0 b e w W ∧ s.entries.length ≤ 64 * la ∧ ∃ v, MsgIn n0 e s v W) b L 11 11 (fun k => (msgK k).1.2.1) (fun k => .pointer (some ⟨C k, 0, none⟩)) rfl (by decide) ?_ (fun k hk args W => (fk_enters _ (msgK_kind k hk) args W).2) ?_ ?_ Msg.none r hl w ⟨ButN.refl _ b e w, Nat.le_refl _, .slice none 0 0, ⟨hz, ?_⟩⟩ h) (fun x w' h => ⟨h.1, h.2.1, h.2.2.choose_spec.2.1, h.2.2.choose_spec.2.2.2⟩)
  · intro _ W s _ hs k hk
    rw [World.cell?_of_block (w := w) (hs.1.block L (by rw [← hn0]; exact hf.list.2) (by have := hf.list.1; omega) (by have := hf.list.1; omega))]
    exact hf.take k hk
  · intro _ W W' s hs hb'
    exact ⟨hs.1.trans (ButN.of1 hb' (by have := hs.1.size; omega)), hs.2.1, hs.2.2.choose, hs.2.2.choose_spec.but hb' hbn hbe⟩
  · intro k hk la W m r hla hs hrd hr
    have hk11 : k < 11 := hk
    obtain ⟨hbw, hcnt, sv, hin⟩ := hs
    have hbx := hf.box k hk11
    have hp : PtrAt W (C k) e (msgK k).2 (msgK k).1.2.2 := (hbw.block (C k) (by rw [← hn0]; exact hbx.2) (by omega) (by omega)).trans (hf.ptr k hk11)
    have h2 : b ≠ C k := by omega
    have h3 : C k ≠ e := by omega
    have h4 : C k < n0 := by rw [← hn0]; exact hbx.2
    have hnW : n0 ≤ W.heap.size := by have := hbw.size; omega
    have keep : ∀ w', But2 b e W w' → w'.ownsRow n0 EntT 11 sv m.entries.length (m.entries.flatMap fun e => e.cells.toList) := by
      intro w' g4
      refine ⟨hin.row.1, ?_⟩
      rcases hin.row.2 with h0 | ⟨g, cap, cur, hv, hbg, hg, rest⟩
      · exact .inl h0
      · exact .inr ⟨g, cap, cur, hv, hbg, (g4.block g (heap_lt hg) (by omega) (by omega)).trans hg, rest⟩
    have cnt : ∀ m' : Msg, m'.entries = m.entries → m'.entries.length ≤ 64 * (k + 1) := fun m' h => by rw [h]; omega
    match k, hk11, hp, h2, h3, h4, cnt, hla, hk with
    | 0, _, h1, h2, h3, h4, cnt, hla, _ => exact (numI_take b (C 0) e 0 r (m.cells sv) _ MsgT m.kind hbe h2 h3 hr W hrd h1 hin.block rfl).mono fun x w' ⟨g1, g2, g3, g4⟩ => ⟨g1, g2, hbw.trans (ButN.of2 g4 hnW), cnt _ rfl, sv, ⟨g3, keep _ g4⟩⟩
    | 1, _, h1, h2, h3, h4, cnt, hla, _ => exact (numI_take b (C 1) e 1 r (m.cells sv) _ MsgT m.frm hbe h2 h3 hr W hrd h1 hin.block rfl).mono fun x w' ⟨g1, g2, g3, g4⟩ => ⟨g1, g2, hbw.trans (ButN.of2 g4 hnW), cnt _ rfl, sv, ⟨g3, keep _ g4⟩⟩
    | 2, _, h1, h2, h3, h4, cnt, hla, _ => exact (numI_take b (C 2) e 2 r (m.cells sv) _ MsgT m.to hbe h2 h3 hr W hrd h1 hin.block rfl).mono fun x w' ⟨g1, g2, g3, g4⟩ => ⟨g1, g2, hbw.trans (ButN.of2 g4 hnW), cnt _ rfl, sv, ⟨g3, keep _ g4⟩⟩
    | 3, _, h1, h2, h3, h4, cnt, hla, _ => exact (numU_take b (C 3) e 3 r (m.cells sv) _ MsgT m.term hbe h2 h3 hr W hrd h1 hin.block rfl).mono fun x w' ⟨g1, g2, g3, g4⟩ => ⟨g1, by rw [takeN_rd] at g2; exact g2, hbw.trans (ButN.of2 g4 hnW), cnt _ rfl, sv, ⟨g3, keep _ g4⟩⟩
    | 4, _, h1, h2, h3, h4, cnt, hla, _ => exact (numU_take b (C 4) e 4 r (m.cells sv) _ MsgT m.index hbe h2 h3 hr W hrd h1 hin.block rfl).mono fun x w' ⟨g1, g2, g3, g4⟩ => ⟨g1, by rw [takeN_rd] at g2; exact g2, hbw.trans (ButN.of2 g4 hnW), cnt _ rfl, sv, ⟨g3, keep _ g4⟩⟩
    | 5, _, h1, h2, h3, h4, cnt, hla, _ => exact (numU_take b (C 5) e 5 r (m.cells sv) _ MsgT m.prev hbe h2 h3 hr W hrd h1 hin.block rfl).mono fun x w' ⟨g1, g2, g3, g4⟩ => ⟨g1, by rw [takeN_rd] at g2; exact g2, hbw.trans (ButN.of2 g4 hnW), cnt _ rfl, sv, ⟨g3, keep _ g4⟩⟩
    | 6, _, h1, h2, h3, h4, cnt, hla, _ => exact (numU_take b (C 6) e 6 r (m.cells sv) _ MsgT m.commit hbe h2 h3 hr W hrd h1 hin.block rfl).mono fun x w' ⟨g1, g2, g3, g4⟩ => ⟨g1, by rw [takeN_rd] at g2; exact g2, hbw.trans (ButN.of2 g4 hnW), cnt _ rfl, sv, ⟨g3, keep _ g4⟩⟩
    | 7, _, h1, h2, h3, h4, cnt, hla, _ => exact (numU_take b (C 7) e 7 r (m.cells sv) _ MsgT m.mark hbe h2 h3 hr W hrd h1 hin.block rfl).mono fun x w' ⟨g1, g2, g3, g4⟩ => ⟨g1, by rw [takeN_rd] at g2; exact g2, hbw.trans (ButN.of2 g4 hnW), cnt _ rfl, sv, ⟨g3, keep _ g4⟩⟩
    | 8, _, h1, h2, h3, h4, cnt, hla, _ => exact (flag_take b (C 8) e 8 r (m.cells sv) _ MsgT m.ok hbe h2 h3 hr W hrd h1 hin.block rfl).mono fun x w' ⟨g1, g2, g3, g4⟩ => ⟨g1, g2, hbw.trans (ButN.of2 g4 hnW), cnt _ rfl, sv, ⟨g3, keep _ g4⟩⟩
    | 9, _, h1, h2, h3, h4, cnt, hla, _ => exact (text_take b (C 9) e 10 r (m.cells sv) _ MsgT m.snap hbe h2 h3 hr W hrd h1 hin.block rfl).mono fun x w' ⟨g1, g2, g3, g4⟩ => ⟨g1, g2, hbw.trans (ButN.of2 g4 hnW), cnt _ rfl, sv, ⟨g3, keep _ g4⟩⟩
    | 10, _, h1, h2, h3, h4, cnt, hla, _ => exact (ents_take b (C 10) e n0 r m sv _ hbe h2 h3 hbn h4 hen (by omega) hr W hnW hrd h1 hin).mono fun x w' ⟨g1, g2, ⟨v', g3⟩, g4⟩ => ⟨g1, g2, hbw.trans g4, takeE_count m r la hla hcnt, v', g3⟩
    | k + 11, h, _, _, _, _, _, _, _ => exact absurd h (by omega)
  · exact ⟨rfl, .inl ⟨rfl, rfl⟩⟩

set_option maxRecDepth 100000 in
set_option maxHeartbeats 4000000 in
theorem getMsg_any (s : List UInt8) (hl : s.length ≤ 1099511627776) (w : World) :
    Calls Tryz.prog 14 #[.string ⟨s.toArray⟩] w fun x w' => ∃ m sv, x = .returned (.tuple #[.agg (m.cells sv), .bool (gotM s)]) ∧ (gotM s = true → m = (getMsgL s).1) ∧ EntsAt w' sv m.entries ∧ Below w.heap.size w w' := by
  have hgot : gotM s = (!(getMsgL s).2.2 && (getMsgL s).2.1.isEmpty && msgRightB (getMsgL s).1) := rfl
  have hok := getMsgL_okay 1099511627776 (by decide) s hl
  have hcn := getMsgL_count s
  have hget := fun b e L base n0 C W => secGet_msg b e L base n0 C (s, false) hl W
  have hdef : getL msgTakes 0 Msg.none (s, false) = getMsgL s := rfl
  rw [hdef] at hget
  generalize getMsgL s = y at *
  generalize gotM s = got at *
  obtain ⟨m, r2⟩ := y
  simp only at hok hcn hgot
  have HG := Lib.hid hget
  have HGOT0 := Lib.hid hgot
  have hright := fun W v hW => msgRight_any m v (fun e he => (hok.each e he).wf) (by omega) W hW
  have HR := Lib.hid hright
  clear hget hgot hdef hright hok hcn
  go_enter Tryz.func14, Tryz.ntmps14
  go_wp2_with fail
  refine (new_any s _).mono ?_
  rintro x w1 ⟨rfl, h1, hb1, hs1⟩
  simp only [World.size_alloc] at h1 hs1
  have hzz : w1.heap[w.heap.size]? = some (.cells (Msg.none.cells (.slice none 0 0)) MsgT (0, 0)) := (hb1.block _ (by simp)).trans (heap_alloc_new w _)
  have H1 := Lib.hid h1
  have HZ1 := Lib.hid hzz
  have HB1 := Lib.hid (((Below.refl _ _).alloc (Nat.le_refl _) _).trans (hb1.mono (by simp)) : Below w.heap.size w w1)
  clear h1 hzz hb1
  go_wp2_with fail
  refine (sec_parts_any _ _).mono ?_
  rintro x w3 ⟨L, C, rfl, ht, hb3⟩
  have hb13 : Below w1.heap.size w1 w3 := ((Below.refl _ _).alloc (Nat.le_refl _) _).trans (hb3.mono (by simp))
  have hz3 : w3.heap[w1.heap.size]? = some (.cells (Msg.none.cells (.slice none 0 0)) MsgT (0, 0)) := (hb3.block _ (by simp)).trans (heap_alloc_new w1 _)
  have HC := Lib.hid (HG.out (w.heap.size + 1) w1.heap.size L _ w3.heap.size C w3 (by simp; omega) (by simp) (by omega) rfl ht (H1.out.keep hb13) hz3)
  have HZ3 := Lib.hid ((hb13.block w.heap.size (by omega)).trans HZ1.out)
  have HB3 := Lib.hid (HB1.out.trans (hb13.mono HB1.out.size))
  have hlt3 : w1.heap.size < w3.heap.size := heap_lt hz3
  clear ht hb3 hb13 hz3 HG H1 HZ1 HB1
  generalize he : w1.heap.size = e at *
  go_wp2_with fail
  refine HC.out.mono ?_
  rintro x w4 ⟨rfl, h4, hb4, v, hin4⟩
  obtain ⟨va, vc, rfl⟩ := hin4.slice
  obtain ⟨x0, x1, x2, x3, x4, x5, x6, x7, x8, x10, x9⟩ := m
  obtain ⟨u, bad⟩ := r2
  simp only [Msg.cells] at HR
  simp only at h4 hin4 HGOT0
  have hEnts : EntsAt w4 (.slice va x9.length vc) x9 := own_entsAt hin4.row rfl
  have HIN := Lib.hid hin4
  have H4 := Lib.hid h4
  have HE4 := Lib.hid hEnts
  have HZ4 := Lib.hid ((hb4.block w.heap.size (by omega) (by omega) (by omega)).trans HZ3.out)
  have HB4 := Lib.hid (HB3.out.trans ⟨hb4.os, hb4.tape, hb4.output, hb4.size, fun k hk => hb4.block k (by omega) (by omega) (by omega)⟩ : Below w.heap.size w w4)
  clear hin4 h4 hEnts hb4 HC HZ3 HB3
  have c0 : w4.cell? ⟨e, 0, none⟩ = some (.int .i64 x0) := Lib.cell_of_heap HIN.out.block 0
  have c1 : w4.cell? ⟨e, 1, none⟩ = some (.int .i64 x1) := Lib.cell_of_heap HIN.out.block 1
  have c2 : w4.cell? ⟨e, 2, none⟩ = some (.int .i64 x2) := Lib.cell_of_heap HIN.out.block 2
  have c3 : w4.cell? ⟨e, 3, none⟩ = some (.int .u64 x3) := Lib.cell_of_heap HIN.out.block 3
  have c4 : w4.cell? ⟨e, 4, none⟩ = some (.int .u64 x4) := Lib.cell_of_heap HIN.out.block 4
  have c5 : w4.cell? ⟨e, 5, none⟩ = some (.int .u64 x5) := Lib.cell_of_heap HIN.out.block 5
  have c6 : w4.cell? ⟨e, 6, none⟩ = some (.int .u64 x6) := Lib.cell_of_heap HIN.out.block 6
  have c7 : w4.cell? ⟨e, 7, none⟩ = some (.int .u64 x7) := Lib.cell_of_heap HIN.out.block 7
  have c8 : w4.cell? ⟨e, 8, none⟩ = some (.bool x8) := Lib.cell_of_heap HIN.out.block 8
  have c9 : w4.cell? ⟨e, 9, none⟩ = some (.slice va x9.length vc) := Lib.cell_of_heap HIN.out.block 9
  have c10 : w4.cell? ⟨e, 10, none⟩ = some (.string x10) := Lib.cell_of_heap HIN.out.block 10
  cases bad
  case true =>
    have HGOT := Lib.hid (HGOT0.out.trans rfl : got = false)
    clear HGOT0 HR
    go_wp2_with fail
    refine (ok_any _ (u, true) w4 H4.out).mono ?_
    rintro x w4' ⟨rfl, rfl⟩
    clear c0 c1 c2 c3 c4 c5 c6 c7 c8 c9 c10
    have z0 : w4'.cell? ⟨w.heap.size, 0, none⟩ = some (.int .i64 0) := Lib.cell_of_heap HZ4.out 0
    have z1 : w4'.cell? ⟨w.heap.size, 1, none⟩ = some (.int .i64 0) := Lib.cell_of_heap HZ4.out 1
    have z2 : w4'.cell? ⟨w.heap.size, 2, none⟩ = some (.int .i64 0) := Lib.cell_of_heap HZ4.out 2
    have z3 : w4'.cell? ⟨w.heap.size, 3, none⟩ = some (.int .u64 0) := Lib.cell_of_heap HZ4.out 3
    have z4 : w4'.cell? ⟨w.heap.size, 4, none⟩ = some (.int .u64 0) := Lib.cell_of_heap HZ4.out 4
    have z5 : w4'.cell? ⟨w.heap.size, 5, none⟩ = some (.int .u64 0) := Lib.cell_of_heap HZ4.out 5
    have z6 : w4'.cell? ⟨w.heap.size, 6, none⟩ = some (.int .u64 0) := Lib.cell_of_heap HZ4.out 6
    have z7 : w4'.cell? ⟨w.heap.size, 7, none⟩ = some (.int .u64 0) := Lib.cell_of_heap HZ4.out 7
    have z8 : w4'.cell? ⟨w.heap.size, 8, none⟩ = some (.bool false) := Lib.cell_of_heap HZ4.out 8
    have z9 : w4'.cell? ⟨w.heap.size, 9, none⟩ = some (.slice none 0 0) := Lib.cell_of_heap HZ4.out 9
    have z10 : w4'.cell? ⟨w.heap.size, 10, none⟩ = some (.string ⟨#[]⟩) := Lib.cell_of_heap HZ4.out 10
    have fz : ∀ o, w4'.frozen? ⟨w.heap.size, o, none⟩ = false := fun o => Lib.frozen_of_heap HZ4.out o
    go_wp2_with fail
    have hz := HZ4.out
    refine bodyPost_ret (results_cell_row_tmp rfl _ _ w.heap.size MsgT (Msg.none.cells (.slice none 0 0)) (0, 0) _ rfl ?_ Tryz.underlying26 rfl (by kernel_rfl)) rfl ?_
    · simp [World.setCell, Array.getElem?_modify, hz, Msg.cells, Msg.none]
    · refine ⟨Msg.none, .slice none 0 0, by rw [HGOT.out]; rfl, fun h => (by rw [HGOT.out] at h; cases h), entsAt_nil _, ?_⟩
      repeat' (first | with_reducible exact HB4.out | with_reducible exact Nat.le_refl _ | with_reducible refine Below.setCell ?_ ?_ _)
  case false =>
    cases u with
    | cons u0 ul =>
      have HGOT := Lib.hid (HGOT0.out.trans rfl : got = false)
      have hpos : (0 : Int) < (((u0 :: ul).length : Nat) : Int) := by simp
      clear HGOT0 HR
      go_wp2_with fail
      refine (ok_any _ (u0 :: ul, false) w4 H4.out).mono ?_
      rintro x w4' ⟨rfl, rfl⟩
      go_wp2_with fail
      refine (left_any _ (u0 :: ul, false) _ H4.out).mono ?_
      rintro x w4'' ⟨rfl, rfl⟩
      clear c0 c1 c2 c3 c4 c5 c6 c7 c8 c9 c10
      have z0 : w4''.cell? ⟨w.heap.size, 0, none⟩ = some (.int .i64 0) := Lib.cell_of_heap HZ4.out 0
      have z1 : w4''.cell? ⟨w.heap.size, 1, none⟩ = some (.int .i64 0) := Lib.cell_of_heap HZ4.out 1
      have z2 : w4''.cell? ⟨w.heap.size, 2, none⟩ = some (.int .i64 0) := Lib.cell_of_heap HZ4.out 2
      have z3 : w4''.cell? ⟨w.heap.size, 3, none⟩ = some (.int .u64 0) := Lib.cell_of_heap HZ4.out 3
      have z4 : w4''.cell? ⟨w.heap.size, 4, none⟩ = some (.int .u64 0) := Lib.cell_of_heap HZ4.out 4
      have z5 : w4''.cell? ⟨w.heap.size, 5, none⟩ = some (.int .u64 0) := Lib.cell_of_heap HZ4.out 5
      have z6 : w4''.cell? ⟨w.heap.size, 6, none⟩ = some (.int .u64 0) := Lib.cell_of_heap HZ4.out 6
      have z7 : w4''.cell? ⟨w.heap.size, 7, none⟩ = some (.int .u64 0) := Lib.cell_of_heap HZ4.out 7
      have z8 : w4''.cell? ⟨w.heap.size, 8, none⟩ = some (.bool false) := Lib.cell_of_heap HZ4.out 8
      have z9 : w4''.cell? ⟨w.heap.size, 9, none⟩ = some (.slice none 0 0) := Lib.cell_of_heap HZ4.out 9
      have z10 : w4''.cell? ⟨w.heap.size, 10, none⟩ = some (.string ⟨#[]⟩) := Lib.cell_of_heap HZ4.out 10
      have fz : ∀ o, w4''.frozen? ⟨w.heap.size, o, none⟩ = false := fun o => Lib.frozen_of_heap HZ4.out o
      go_wp2_with fail
      have hz := HZ4.out
      refine bodyPost_ret (results_cell_row_tmp rfl _ _ w.heap.size MsgT (Msg.none.cells (.slice none 0 0)) (0, 0) _ rfl ?_ Tryz.underlying26 rfl (by kernel_rfl)) rfl ?_
      · simp [World.setCell, Array.getElem?_modify, hz, Msg.cells, Msg.none]
      · refine ⟨Msg.none, .slice none 0 0, by rw [HGOT.out]; rfl, fun h => (by rw [HGOT.out] at h; cases h), entsAt_nil _, ?_⟩
        repeat' (first | with_reducible exact HB4.out | with_reducible exact Nat.le_refl _ | with_reducible refine Below.setCell ?_ ?_ _)
    | nil =>
      have HR4 := Lib.hid (HR.out w4 _ HE4.out)
      cases hg : msgRightB ⟨x0, x1, x2, x3, x4, x5, x6, x7, x8, x10, x9⟩
      · have HGOT := Lib.hid (HGOT0.out.trans (by rw [hg]; rfl) : got = false)
        rw [hg] at HR4
        clear HGOT0 HR hg
        go_wp2_with fail
        refine (ok_any _ ([], false) w4 H4.out).mono ?_
        rintro x w4' ⟨rfl, rfl⟩
        go_wp2_with fail
        refine (left_any _ ([], false) _ H4.out).mono ?_
        rintro x w4'' ⟨rfl, rfl⟩
        go_wp2_with fail
        refine HR4.out.mono ?_
        rintro x w5 ⟨rfl, hb5⟩
        have HZ5 := Lib.hid ((hb5.block w.heap.size (heap_lt HZ4.out)).trans HZ4.out)
        have HB5 := Lib.hid (HB4.out.trans (hb5.mono HB4.out.size))
        clear hb5 c0 c1 c2 c3 c4 c5 c6 c7 c8 c9 c10
        have z0 : w5.cell? ⟨w.heap.size, 0, none⟩ = some (.int .i64 0) := Lib.cell_of_heap HZ5.out 0
        have z1 : w5.cell? ⟨w.heap.size, 1, none⟩ = some (.int .i64 0) := Lib.cell_of_heap HZ5.out 1
        have z2 : w5.cell? ⟨w.heap.size, 2, none⟩ = some (.int .i64 0) := Lib.cell_of_heap HZ5.out 2
        have z3 : w5.cell? ⟨w.heap.size, 3, none⟩ = some (.int .u64 0) := Lib.cell_of_heap HZ5.out 3
        have z4 : w5.cell? ⟨w.heap.size, 4, none⟩ = some (.int .u64 0) := Lib.cell_of_heap HZ5.out 4
        have z5 : w5.cell? ⟨w.heap.size, 5, none⟩ = some (.int .u64 0) := Lib.cell_of_heap HZ5.out 5
        have z6 : w5.cell? ⟨w.heap.size, 6, none⟩ = some (.int .u64 0) := Lib.cell_of_heap HZ5.out 6
        have z7 : w5.cell? ⟨w.heap.size, 7, none⟩ = some (.int .u64 0) := Lib.cell_of_heap HZ5.out 7
        have z8 : w5.cell? ⟨w.heap.size, 8, none⟩ = some (.bool false) := Lib.cell_of_heap HZ5.out 8
        have z9 : w5.cell? ⟨w.heap.size, 9, none⟩ = some (.slice none 0 0) := Lib.cell_of_heap HZ5.out 9
        have z10 : w5.cell? ⟨w.heap.size, 10, none⟩ = some (.string ⟨#[]⟩) := Lib.cell_of_heap HZ5.out 10
        have fz : ∀ o, w5.frozen? ⟨w.heap.size, o, none⟩ = false := fun o => Lib.frozen_of_heap HZ5.out o
        go_wp2_with fail
        have hz := HZ5.out
        refine bodyPost_ret (results_cell_row_tmp rfl _ _ w.heap.size MsgT (Msg.none.cells (.slice none 0 0)) (0, 0) _ rfl ?_ Tryz.underlying26 rfl (by kernel_rfl)) rfl ?_
        · simp [World.setCell, Array.getElem?_modify, hz, Msg.cells, Msg.none]
        · refine ⟨Msg.none, .slice none 0 0, by rw [HGOT.out]; rfl, fun h => (by rw [HGOT.out] at h; cases h), entsAt_nil _, ?_⟩
          repeat' (first | with_reducible exact HB5.out | with_reducible exact Nat.le_refl _ | with_reducible refine Below.setCell ?_ ?_ _)
      · have HGOT := Lib.hid (HGOT0.out.trans (by rw [hg]; rfl) : got = true)
        rw [hg] at HR4
        clear HGOT0 HR hg
        go_wp2_with fail
        refine (ok_any _ ([], false) w4 H4.out).mono ?_
        rintro x w4' ⟨rfl, rfl⟩
        go_wp2_with fail
        refine (left_any _ ([], false) _ H4.out).mono ?_
        rintro x w4'' ⟨rfl, rfl⟩
        go_wp2_with fail
        refine HR4.out.mono ?_
        rintro x w5 ⟨rfl, hb5⟩
        have HZ5 := Lib.hid ((hb5.block w.heap.size (heap_lt HZ4.out)).trans HZ4.out)
        have HB5 := Lib.hid (HB4.out.trans (hb5.mono HB4.out.size))
        have HROW := Lib.hid (ownsRow_below HIN.out.row hb5)
        have hlt5 : w.heap.size < w3.heap.size := by omega
        have hbk := (hb5.block e (heap_lt HIN.out.block)).trans HIN.out.block
        have HBK := Lib.hid hbk
        clear hb5 hbk c0 c1 c2 c3 c4 c5 c6 c7 c8 c9 c10
        have c0 : w5.cell? ⟨e, 0, none⟩ = some (.int .i64 x0) := Lib.cell_of_heap HBK.out 0
        have c1 : w5.cell? ⟨e, 1, none⟩ = some (.int .i64 x1) := Lib.cell_of_heap HBK.out 1
        have c2 : w5.cell? ⟨e, 2, none⟩ = some (.int .i64 x2) := Lib.cell_of_heap HBK.out 2
        have c3 : w5.cell? ⟨e, 3, none⟩ = some (.int .u64 x3) := Lib.cell_of_heap HBK.out 3
        have c4 : w5.cell? ⟨e, 4, none⟩ = some (.int .u64 x4) := Lib.cell_of_heap HBK.out 4
        have c5 : w5.cell? ⟨e, 5, none⟩ = some (.int .u64 x5) := Lib.cell_of_heap HBK.out 5
        have c6 : w5.cell? ⟨e, 6, none⟩ = some (.int .u64 x6) := Lib.cell_of_heap HBK.out 6
        have c7 : w5.cell? ⟨e, 7, none⟩ = some (.int .u64 x7) := Lib.cell_of_heap HBK.out 7
        have c8 : w5.cell? ⟨e, 8, none⟩ = some (.bool x8) := Lib.cell_of_heap HBK.out 8
        have c9 : w5.cell? ⟨e, 9, none⟩ = some (.slice va x9.length vc) := Lib.cell_of_heap HBK.out 9
        have c10 : w5.cell? ⟨e, 10, none⟩ = some (.string x10) := Lib.cell_of_heap HBK.out 10
        have z0 : w5.cell? ⟨w.heap.size, 0, none⟩ = some (.int .i64 0) := Lib.cell_of_heap HZ5.out 0
        have z1 : w5.cell? ⟨w.heap.size, 1, none⟩ = some (.int .i64 0) := Lib.cell_of_heap HZ5.out 1
        have z2 : w5.cell? ⟨w.heap.size, 2, none⟩ = some (.int .i64 0) := Lib.cell_of_heap HZ5.out 2
        have z3 : w5.cell? ⟨w.heap.size, 3, none⟩ = some (.int .u64 0) := Lib.cell_of_heap HZ5.out 3
        have z4 : w5.cell? ⟨w.heap.size, 4, none⟩ = some (.int .u64 0) := Lib.cell_of_heap HZ5.out 4
        have z5 : w5.cell? ⟨w.heap.size, 5, none⟩ = some (.int .u64 0) := Lib.cell_of_heap HZ5.out 5
        have z6 : w5.cell? ⟨w.heap.size, 6, none⟩ = some (.int .u64 0) := Lib.cell_of_heap HZ5.out 6
        have z7 : w5.cell? ⟨w.heap.size, 7, none⟩ = some (.int .u64 0) := Lib.cell_of_heap HZ5.out 7
        have z8 : w5.cell? ⟨w.heap.size, 8, none⟩ = some (.bool false) := Lib.cell_of_heap HZ5.out 8
        have z9 : w5.cell? ⟨w.heap.size, 9, none⟩ = some (.slice none 0 0) := Lib.cell_of_heap HZ5.out 9
        have z10 : w5.cell? ⟨w.heap.size, 10, none⟩ = some (.string ⟨#[]⟩) := Lib.cell_of_heap HZ5.out 10
        have fz : ∀ o, w5.frozen? ⟨w.heap.size, o, none⟩ = false := fun o => Lib.frozen_of_heap HZ5.out o
        go_wp2_with fail
        have hz := HZ5.out
        refine bodyPost_ret (results_cell_row_tmp rfl _ _ w.heap.size MsgT (Msg.cells ⟨x0, x1, x2, x3, x4, x5, x6, x7, x8, x10, x9⟩ (.slice va x9.length vc)) (0, 0) _ rfl ?_ Tryz.underlying26 rfl (by kernel_rfl)) rfl ?_
        · simp [World.setCell, Array.getElem?_modify, hz, Msg.cells]
        · refine ⟨⟨x0, x1, x2, x3, x4, x5, x6, x7, x8, x10, x9⟩, .slice va x9.length vc, by rw [HGOT.out]; rfl, fun _ => rfl, ?_, ?_⟩
          · refine own_entsAt (base := w3.heap.size) (n := x9.length) ?_ rfl
            repeat' (first | with_reducible exact HROW.out | with_reducible exact hlt5 | with_reducible refine own_set ?_ ?_)
          · repeat' (first | with_reducible exact HB5.out | with_reducible exact Nat.le_refl _ | with_reducible refine Below.setCell ?_ ?_ _)

end Go.Proofs.YtbjbgdnjcppjhaaGreatDoor
