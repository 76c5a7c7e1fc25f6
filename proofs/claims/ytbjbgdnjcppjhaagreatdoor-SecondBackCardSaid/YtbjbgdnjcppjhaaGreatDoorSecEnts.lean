/-
  second.entries: a field over a list of entries: what it answers, and its put closure. Conditions: as each theorem says. By an AI agent.
-/
import Derived.Test.YtbjbgdnjcppjhaaGreatDoorSecEnt
import Derived.Test.YtbjbgdnjcppjhaaGreatDoorNoteP
namespace Go.Proofs.YtbjbgdnjcppjhaaGreatDoor
open Go.RowKit Go.Sort
set_option linter.unusedVariables false
set_option linter.unusedSimpArgs false

set_option maxRecDepth 100000 in
set_option maxHeartbeats 1000000 in
theorem ents_make (e o : Nat) (w : World) :
    Calls Tryz.prog 72 #[.pointer (some ⟨e, o, none⟩)] w fun x w' => x = .returned (.agg #[.func (.func 110) #[] #[.pointer (some ⟨w.heap.size, 0, none⟩)], .func (.func 111) #[] #[.pointer (some ⟨w.heap.size, 0, none⟩)]]) ∧ PtrAt w' w.heap.size e o 130 ∧ Below w.heap.size w w' ∧ w.heap.size < w'.heap.size := by
  go_enter Tryz.func72, Tryz.ntmps72
  go_wp2_with fail
  have hz := heap_alloc_new (w.alloc (.cells #[.pointer (some ⟨e, o, none⟩)] 130)) (.cells #[.func (.func 110) #[] #[.pointer (some ⟨w.heap.size, 0, none⟩)], .func (.func 111) #[] #[.pointer (some ⟨w.heap.size, 0, none⟩)]] 117)
  simp only [World.size_alloc] at hz
  refine bodyPost_ret (results_cell_row rfl _ _ (w.heap.size + 1) 117 _ (0, 0) _ rfl hz Tryz.underlying117 rfl (by kernel_rfl)) rfl ?_
  refine ⟨rfl, ?_, ((Below.refl _ _).alloc (Nat.le_refl _) _).alloc (by simp) _, by simp; omega⟩
  unfold PtrAt
  rw [Below.heap_alloc _ _ _ (by simp)]
  exact heap_alloc_new w _

theorem flatE_len (l : List Ent) (h : ∀ e ∈ l, Small e) : (l.flatMap secE).length ≤ 1000 * l.length := by
  induction l with
  | nil => simp
  | cons e l ih =>
    have h1 := ih (fun x hx => h x (List.mem_cons_of_mem _ hx))
    have h2 := secE_len e (h e (List.mem_cons_self ..))
    rw [List.flatMap_cons, List.length_append, List.length_cons]
    omega

set_option maxRecDepth 100000 in
set_option maxHeartbeats 4000000 in
theorem ents_put (c e o : Nat) (s : Value) (l : List Ent) (t : TypeId) (hl : ∀ x ∈ l, Small x ∧ rightB x = true) (hn : l.length ≤ 64) (w : World) (hp : PtrAt w c e o t) (hcell : w.cell? ⟨e, o, none⟩ = some s) (hs : EntsAt w s l) :
    Calls Tryz.prog 110 #[.pointer (some ⟨c, 0, none⟩)] w fun x w' => x = .returned (.string ⟨(entsF l).toArray⟩) ∧ Below w.heap.size w w' := by
  have hc : w.cell? ⟨c, 0, none⟩ = some (.pointer (some ⟨e, o, none⟩)) := Lib.cell_of_heap hp 0
  obtain ⟨sa, sc, rfl, hc1, hc2, hE⟩ := hs
  have hall := flatE_len l (fun x hx => (hl x hx).1)
  have HALL := Lib.hid hall
  have HL := Lib.hid hl
  have HE := Lib.hid hE
  have HC := Lib.hid hc
  have HCELL := Lib.hid hcell
  clear hall hl hE hp
  have ha1 : ∀ x, (w.alloc x).cell? ⟨c, 0, none⟩ = some (.pointer (some ⟨e, o, none⟩)) := fun x => cell_al hc x
  have ha2 : ∀ x, (w.alloc x).cell? ⟨e, o, none⟩ = some (.slice sa l.length sc) := fun x => cell_al hcell x
  go_enter Tryz.func110, Tryz.ntmps110
  go_wp2_with fail
  go_loopw [4, 5, 6, 11] (fun x4 x5 x6 i wr => ∃ (k : Nat), k ≤ l.length ∧ i = .int .i64 k ∧ Bld (w.heap.size + 1) w.heap.size (Lib.byteCells ((l.take k).flatMap secE)) wr ∧ Below w.heap.size w wr) (fun x4 x5 x6 i _ => l.length - (intOf i).toNat)
  case atStart => exact ⟨0, Nat.zero_le _, rfl, Bld.fresh w, (Below.refl _ _).alloc (Nat.le_refl _) _⟩
  case round =>
    obtain ⟨k, hk, rfl, hbld, hbr⟩ := hrel
    clear ha1 ha2 hc hcell
    by_cases hlt : k < l.length
    · obtain ⟨B, o2, rfl, hB, hEl⟩ := HE.out (fun h0 => by rw [h0] at hlt; exact absurd hlt (Nat.not_lt_zero _))
      have hel := (hEl k hlt).below hbr
      obtain ⟨hsm, hrt⟩ := HL.out _ (List.getElem_mem hlt)
      have hsnoc : (l.take (k + 1)).flatMap secE = (l.take k).flatMap secE ++ secE l[k] := by
        rw [List.take_succ_eq_append_getElem hlt, List.flatMap_append]; simp
      have hlenk : ((l.take k).flatMap secE).length + (secE l[k]).length ≤ 64000 := by
        have h1 := flatE_len (l.take (k + 1)) (fun x hx => (HL.out x (List.mem_of_mem_take hx)).1)
        rw [hsnoc, List.length_append, List.length_take] at h1
        omega
      have hput := fun W => secondPut_any l[k] hsm hrt W
      have HSN := Lib.hid hsnoc
      have HBR := Lib.hid hbr
      have HBLD := Lib.hid hbld
      have hbs := hbr.size
      clear hsnoc hEl hsm hrt hbr hbld
      generalize secE l[k] = z at *
      generalize l[k] = y at *
      obtain ⟨y0, y1, y2, y3, y4, y5, y6, y7, y8, y9, y10⟩ := y
      simp only [Ent.val, Ent.cells] at hput
      have HPUT := Lib.hid hput
      clear hput
      obtain ⟨a0, a1, a2, a3, a4, a5, a6, a7, a8, a9, a10⟩ := hel
      simp only at a0 a1 a2 a3 a4 a5 a6 a7 a8 a9 a10
      go_wp2_with fail
      refine (HPUT.out _).mono ?_
      rintro x w3 ⟨rfl, hb3⟩
      have hb3w : Below w.heap.size w w3 := (HBR.out.trans (((Below.refl _ _).alloc (Nat.le_refl _) _).mono hbs)).trans (hb3.mono (by simp; omega))
      have hbld3 := (HBLD.out.below ((Below.refl _ _).alloc (Nat.le_refl _) _)).below hb3
      have HB3 := Lib.hid hb3w
      have HBLD3 := Lib.hid hbld3
      clear hb3 hb3w hbld3 a0 a1 a2 a3 a4 a5 a6 a7 a8 a9 a10
      go_wp2_with fail
      refine (writeString_any _ _ _ ⟨z.toArray⟩ _ HBLD3.out (by rw [Lib.byteCells_length]; show _ + z.length ≤ _; omega)).mono ?_
      rintro x w5 ⟨rfl, hbld5, hk5⟩
      have hb5 : Below w.heap.size w w5 := HB3.out.trans (hk5.below (Nat.le_refl _) (by omega) HB3.out.size)
      rw [bytes_strCells] at hbld5
      have hbld6 : Bld (w.heap.size + 1) w.heap.size (Lib.byteCells ((l.take (k + 1)).flatMap secE)) w5 := by
        rw [HSN.out]
        have : Lib.byteCells ((l.take k).flatMap secE ++ z) = Lib.byteCells ((l.take k).flatMap secE) ++ Lib.byteCells z := by simp [Lib.byteCells]
        rw [this]
        exact hbld5
      have HB5 := Lib.hid hb5
      have HBLD5 := Lib.hid hbld6
      clear hbld5 hbld6 hb5 hk5
      go_wp2_with fail
      go_roundw
      case rel => exact ⟨k + 1, by omega, by go_num, HBLD5.out, HB5.out⟩
      case measure => simp [intOf]; omega
    · have hke : k = l.length := by omega
      rw [hke, List.take_length] at hbld
      have hput := fun W => put_any l.length (by omega) W
      have hvl := varL_len 10 l.length (Nat.lt_of_le_of_lt hn (by decide)) (by decide)
      have hz : ((l.length : Int) == 0) = l.isEmpty := by cases l with
        | nil => rfl
        | cons a r => exact beq_eq_false_iff_ne.2 (by simp; omega)
      have hfin : (if l.isEmpty then (⟨#[]⟩ : ByteArray) else ⟨(varL l.length ++ l.flatMap secE).toArray⟩) = ⟨(entsF l).toArray⟩ := by
        unfold entsF
        cases l with
        | nil => rfl
        | cons a r => rfl
      have HZ := Lib.hid hz
      have HF := Lib.hid hfin
      have HPUT := Lib.hid hput
      have HBR := Lib.hid hbr
      have HALL2 := HALL.out
      have HBLD := Lib.hid hbld
      have hS0 : wr.drew.cell? ⟨c, 0, none⟩ = some (.pointer (some ⟨e, o, none⟩)) ∧ wr.drew.cell? ⟨e, o, none⟩ = some (.slice sa l.length sc) := by
        have q1 := cell_later hbr HC.out
        have q2 := cell_later hbr HCELL.out
        exact ⟨q1, q2⟩
      clear hz hfin hput hbr hbld hke
      generalize varL l.length = tg at *
      generalize l.flatMap secE = body at *
      go_wp2_with fail
      refine region_D (fun u => u.cell? ⟨c, 0, none⟩ = some (.pointer (some ⟨e, o, none⟩)) ∧ u.cell? ⟨e, o, none⟩ = some (.slice sa l.length sc)) [] 15 (by kernel_rfl) (by rfl) ?_
      refine takeD (i := 0) (v := .pointer (some ⟨e, o, none⟩)) (by rfl) (by kernel_rfl) (fun _ _ _ h => h) (by rfl) (fun u hu => ?_) hS0 ?_
      · obtain ⟨hu0, hu1⟩ := hu
        go_simp
      simp only [Act.put, List.setIfInBounds_toArray, List.set_cons_zero, List.set_cons_succ]
      refine takeD (i := 1) (v := .pointer (some ⟨e, o, none⟩)) (by rfl) (by kernel_rfl) (fun _ _ _ h => h) (by rfl) (fun u hu => ?_) hS0 ?_
      · obtain ⟨hu0, hu1⟩ := hu
        go_simp
      simp only [Act.put, List.setIfInBounds_toArray, List.set_cons_zero, List.set_cons_succ]
      refine takeD (i := 2) (v := .slice sa l.length sc) (by rfl) (by kernel_rfl) (fun _ _ _ h => h) (by rfl) (fun u hu => ?_) hS0 ?_
      · obtain ⟨hu0, hu1⟩ := hu
        go_simp
      simp only [Act.put, List.setIfInBounds_toArray, List.set_cons_zero, List.set_cons_succ]
      refine takeD (i := 3) (v := .int .i64 l.length) (by rfl) (by kernel_rfl) (fun _ _ _ h => h) (by rfl) (fun u hu => ?_) hS0 ?_
      · obtain ⟨hu0, hu1⟩ := hu
        go_simp
      simp only [Act.put, List.setIfInBounds_toArray, List.set_cons_zero, List.set_cons_succ]
      refine takeD (i := 4) (v := .bool ((l.length : Int) == 0)) (by rfl) (by kernel_rfl) (fun _ _ _ h => h) (by rfl) (fun u hu => ?_) hS0 ?_
      · obtain ⟨hu0, hu1⟩ := hu
        go_simp
      simp only [Act.put, List.setIfInBounds_toArray, List.set_cons_zero, List.set_cons_succ]
      refine takeD (i := 5) (v := .pointer (some ⟨e, o, none⟩)) (by rfl) (by kernel_rfl) (fun _ _ _ h => h) (by rfl) (fun u hu => ?_) hS0 ?_
      · obtain ⟨hu0, hu1⟩ := hu
        go_simp
      simp only [Act.put, List.setIfInBounds_toArray, List.set_cons_zero, List.set_cons_succ]
      refine takeD (i := 6) (v := .pointer (some ⟨e, o, none⟩)) (by rfl) (by kernel_rfl) (fun _ _ _ h => h) (by rfl) (fun u hu => ?_) hS0 ?_
      · obtain ⟨hu0, hu1⟩ := hu
        go_simp
      simp only [Act.put, List.setIfInBounds_toArray, List.set_cons_zero, List.set_cons_succ]
      refine takeD (i := 7) (v := .slice sa l.length sc) (by rfl) (by kernel_rfl) (fun _ _ _ h => h) (by rfl) (fun u hu => ?_) hS0 ?_
      · obtain ⟨hu0, hu1⟩ := hu
        go_simp
      simp only [Act.put, List.setIfInBounds_toArray, List.set_cons_zero, List.set_cons_succ]
      refine takeD (i := 8) (v := .int .i64 l.length) (by rfl) (by kernel_rfl) (fun _ _ _ h => h) (by rfl) (fun u hu => ?_) hS0 ?_
      · obtain ⟨hu0, hu1⟩ := hu
        go_simp
      simp only [Act.put, List.setIfInBounds_toArray, List.set_cons_zero, List.set_cons_succ]
      refine takeD (i := 9) (v := .int .u64 l.length) (by rfl) (by kernel_rfl) (fun _ _ _ h => h) (by rfl) (fun u hu => ?_) hS0 ?_
      · obtain ⟨hu0, hu1⟩ := hu
        go_simp
        exact wrapU_small (by omega) (by omega)
      simp only [Act.put, List.setIfInBounds_toArray, List.set_cons_zero, List.set_cons_succ]
      have hbd : Below w.heap.size w wr.drew := ⟨HBR.out.os, HBR.out.tape, HBR.out.output, HBR.out.size, HBR.out.block⟩
      refine oneD (i := 10) (by rfl) (by kernel_rfl) (by rfl) ?_
      go_simp
      refine (HPUT.out _).mono ?_
      rintro _ w1 ⟨rfl, hb1⟩
      have hbd1 := hbd.trans (hb1.mono hbd.size)
      refine ⟨⟨cell_later hbd1 HC.out, cell_later hbd1 HCELL.out⟩, ?_⟩
      try simp only [Act.put, List.setIfInBounds_toArray, List.set_cons_zero, List.set_cons_succ]
      refine oneD (i := 11) (by rfl) (by kernel_rfl) (by rfl) ?_
      go_simp
      have hbl := (HBLD.out.below (⟨rfl, rfl, rfl, Nat.le_refl _, fun _ _ => rfl⟩ : Below wr.heap.size wr wr.drew)).below hb1
      refine (Tryz.Builder_String_any w.heap.size w.heap.size body w1 (hbl.isBuilder (Nat.le_refl _)) hbd1.size).mono ?_
      rintro _ w2 ⟨rfl, hb2⟩
      have hbd2 := hbd1.trans hb2
      refine ⟨⟨cell_later hbd2 HC.out, cell_later hbd2 HCELL.out⟩, ?_⟩
      try simp only [Act.put, List.setIfInBounds_toArray, List.set_cons_zero, List.set_cons_succ]
      have hnot : ¬ 9223372036854775807 < tg.length + body.length := by omega
      have hcat : (⟨tg.toArray⟩ : ByteArray) ++ ⟨body.toArray⟩ = ⟨(tg ++ body).toArray⟩ := ByteArray.mk_append_mk tg body
      refine oneD (i := 12) (by rfl) (by kernel_rfl) (by rfl) ?_
      go_simp
      refine ⟨⟨cell_later hbd2 HC.out, cell_later hbd2 HCELL.out⟩, ?_⟩
      rw [HZ.out]
      try simp only [Act.put, List.setIfInBounds_toArray, List.set_cons_zero, List.set_cons_succ]
      refine oneD (i := 13) (by rfl) (by kernel_rfl) (by rfl) ?_
      go_simp
      refine (none_any l.isEmpty _ _).mono ?_
      rintro _ w3 ⟨rfl, rfl⟩
      refine ⟨⟨cell_later hbd2 HC.out, cell_later hbd2 HCELL.out⟩, ?_⟩
      rw [HF.out]
      try simp only [Act.put, List.setIfInBounds_toArray, List.set_cons_zero, List.set_cons_succ]
      refine oneD (i := 14) (by rfl) (by kernel_rfl) (by rfl) ?_
      go_simp
      refine ⟨⟨cell_later hbd2 HC.out, cell_later hbd2 HCELL.out⟩, by kernel_rfl, NoPanic.normal ?_⟩
      try simp only [Act.put, List.setIfInBounds_toArray, List.set_cons_zero, List.set_cons_succ]
      clear hS0 hbl hb1 hb2 hbd hbd1
      go_wp2_with fail
      go_ret
      exact ⟨rfl, hbd2⟩

end Go.Proofs.YtbjbgdnjcppjhaaGreatDoor
