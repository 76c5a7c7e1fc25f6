/-
  second.Put, second.Get over this translation: an entry's bytes; the entry that stands in a reader. Conditions: as each theorem says. By an AI agent.
-/
import Derived.Test.YtbjbgdnjcppjhaaGreatDoorSecFields
import Derived.Test.YtbjbgdnjcppjhaaGreatDoorSecPut
import Derived.Test.YtbjbgdnjcppjhaaGreatDoorSecGet
import Derived.Test.YtbjbgdnjcppjhaaGreatDoorSecTakeI
import Derived.Test.YtbjbgdnjcppjhaaGreatDoorRight
namespace Go.Proofs.YtbjbgdnjcppjhaaGreatDoor
open Go.RowKit Go.Sort
set_option linter.unusedVariables false
set_option linter.unusedSimpArgs false

theorem fk_enters (f : FK) (h : f = fk_numU ∨ f = fk_numI ∨ f = fk_text ∨ f = fk_flag ∨ f = fk_ents) (args : Array Value) (w : World) :
    (callFunc f.1 args).run Tryz.prog w = .ok (.enter f.1 args) w ∧ (callFunc f.2.1 args).run Tryz.prog w = .ok (.enter f.2.1 args) w := by
  rcases h with rfl | rfl | rfl | rfl | rfl
  · exact ⟨enters_of Tryz.func102 (by kernel_rfl) rfl args w, enters_of Tryz.func103 (by kernel_rfl) rfl args w⟩
  · exact ⟨enters_of Tryz.func99 (by kernel_rfl) rfl args w, enters_of Tryz.func101 (by kernel_rfl) rfl args w⟩
  · exact ⟨enters_of Tryz.func104 (by kernel_rfl) rfl args w, enters_of Tryz.func106 (by kernel_rfl) rfl args w⟩
  · exact ⟨enters_of Tryz.func108 (by kernel_rfl) rfl args w, enters_of Tryz.func109 (by kernel_rfl) rfl args w⟩
  · exact ⟨enters_of Tryz.func110 (by kernel_rfl) rfl args w, enters_of Tryz.func111 (by kernel_rfl) rfl args w⟩
theorem entK_kind : ∀ k, k < 11 → (entK k).1 = fk_numU ∨ (entK k).1 = fk_numI ∨ (entK k).1 = fk_text ∨ (entK k).1 = fk_flag ∨ (entK k).1 = fk_ents
  | 0, _ => .inr (.inl rfl) | 1, _ => .inl rfl | 2, _ => .inl rfl | 3, _ => .inl rfl | 4, _ => .inl rfl | 5, _ => .inl rfl | 6, _ => .inl rfl | 7, _ => .inr (.inl rfl) | 8, _ => .inr (.inl rfl)
  | 9, _ => .inr (.inr (.inl rfl)) | 10, _ => .inr (.inr (.inl rfl)) | k + 11, h => absurd h (by omega)

/-- lengths -/
theorem numL_len (n : Nat) (h : n < 18446744073709551616) : (numL n).length ≤ 10 := by
  unfold numL
  split
  · simp
  · exact varL_len 10 n (Nat.lt_trans h (by decide)) (by decide)
theorem textF_len (s : List UInt8) (h : s.length ≤ 1099511627776) : (textF s).length ≤ 10 + s.length := by
  unfold textF
  split
  · simp
  · have := varL_len 10 s.length (Nat.lt_of_le_of_lt h (by decide)) (by decide)
    simp only [List.length_append]
    omega
theorem tagL_len : ∀ (l : List (List UInt8)) (k B : Nat), k + l.length ≤ 1000 → (∀ b ∈ l, b.length ≤ B) → (tagL k l).length ≤ l.length * (10 + B) + 1 := by
  intro l
  induction l with
  | nil => intro k B _ _; simp [tagL]
  | cons b l ih =>
    intro k B hk hB
    have h1 := ih (k + 1) B (by simp at hk; omega) (fun x hx => hB x (List.mem_cons_of_mem _ hx))
    have h2 := hB b (List.mem_cons_self ..)
    have hk2 : k + 1 ≤ 1000 := by simp at hk; omega
    have h3 := varL_len 10 (k + 1) (Nat.lt_of_le_of_lt hk2 (by decide)) (by decide)
    rw [tagL, List.length_append, List.length_cons, Nat.succ_mul]
    have h4 : (if b = [] then [] else varL (k + 1) ++ b).length ≤ 10 + B := by
      split
      · simp
      · rw [List.length_append]; omega
    omega
theorem entBs_len (e : Ent) (h : Small e) : ∀ b ∈ entBs e, b.length ≤ 74 := by
  obtain ⟨⟨a0, a1⟩, ⟨b0, b1⟩, ⟨c0, c1⟩, ⟨d0, d1⟩, ⟨e0, e1⟩, ⟨f0, f1⟩, ⟨g0, g1⟩, ⟨i0, i1⟩, ⟨j0, j1⟩, hd, ho⟩ := h
  intro b hb
  have hn : ∀ n : Int, n ≤ 1000 → (numL n.toNat).length ≤ 74 := fun n h => Nat.le_trans (numL_len n.toNat (by omega)) (by decide)
  have ht : ∀ s : ByteArray, s.size ≤ 64 → (textF s.data.toList).length ≤ 74 := fun s h => by
    have h2 : s.data.toList.length ≤ 64 := by simpa using h
    have := textF_len s.data.toList (by omega)
    omega
  simp only [entBs, List.mem_cons, List.not_mem_nil, or_false] at hb
  rcases hb with rfl | rfl | rfl | rfl | rfl | rfl | rfl | rfl | rfl | rfl | rfl
  · exact hn _ (by omega)
  · exact hn _ (by omega)
  · exact hn _ (by omega)
  · exact hn _ (by omega)
  · exact hn _ (by omega)
  · exact hn _ (by omega)
  · exact hn _ (by omega)
  · exact hn _ (by omega)
  · exact hn _ (by omega)
  · exact ht _ hd
  · exact ht _ ho
theorem secE_len (e : Ent) (h : Small e) : (secE e).length ≤ 1000 := Nat.le_trans (tagL_len (entBs e) 0 74 (show 0 + 11 ≤ 1000 by decide) (entBs_len e h)) (show 11 * (10 + 74) + 1 ≤ 1000 by decide)

set_option maxHeartbeats 1000000 in
theorem secPut_ent (e : Ent) (h : Small e) (b L base : Nat) (C : Nat → Nat) (w : World) (hf : TagsAt w L base b entK C) (hb : w.heap[b]? = some (.cells e.cells EntT (0, 0))) :
    Calls Tryz.prog 36 #[.slice (some ⟨L, 0, none⟩) 11 11] w fun x w' => x = .returned (.string ⟨(secE e).toArray⟩) ∧ Below w.heap.size w w' := by
  refine secPut_of L 11 11 (fun k => (entK k).1.1) (fun k => (entK k).1.2.1) (fun k => .pointer (some ⟨C k, 0, none⟩)) (entBs e) rfl (by decide) (Nat.le_trans (secE_len e h) (by decide)) w
    (fun k hk => ⟨hf.put k hk, hf.take k hk⟩) (fun k hk args W => (fk_enters _ (entK_kind k hk) args W).1) ?_
  obtain ⟨⟨a0, a1⟩, ⟨b0, b1⟩, ⟨c0, c1⟩, ⟨d0, d1⟩, ⟨e0, e1⟩, ⟨f0, f1⟩, ⟨g0, g1⟩, ⟨i0, i1⟩, ⟨j0, j1⟩, hd, ho⟩ := h
  intro k hk W hW
  have hbW := (hW.block b (heap_lt hb)).trans hb
  have hc : ∀ o v, e.cells[o]? = some v → W.cell? ⟨b, o, none⟩ = some v := fun o v h => (Lib.cell_of_heap hbW o).trans h
  have hk11 : k < 11 := hk
  have hp := (hf.ptr k hk11).below hW
  match k, hk11, hp, hk with
  | 0, _, hp, _ => exact numI_put _ b 2 e.kind.toNat _ (by omega) W hp (hc 2 _ (by rw [Int.toNat_of_nonneg c0]; rfl))
  | 1, _, hp, _ => exact numU_put _ b 0 e.term.toNat _ (by omega) W hp (hc 0 _ (by rw [Int.toNat_of_nonneg (by omega)]; rfl))
  | 2, _, hp, _ => exact numU_put _ b 1 e.index.toNat _ (by omega) W hp (hc 1 _ (by rw [Int.toNat_of_nonneg (by omega)]; rfl))
  | 3, _, hp, _ => exact numU_put _ b 3 e.client.toNat _ (by omega) W hp (hc 3 _ (by rw [Int.toNat_of_nonneg d0]; rfl))
  | 4, _, hp, _ => exact numU_put _ b 4 e.seq.toNat _ (by omega) W hp (hc 4 _ (by rw [Int.toNat_of_nonneg e0]; rfl))
  | 5, _, hp, _ => exact numU_put _ b 5 e.block.toNat _ (by omega) W hp (hc 5 _ (by rw [Int.toNat_of_nonneg f0]; rfl))
  | 6, _, hp, _ => exact numU_put _ b 6 e.many.toNat _ (by omega) W hp (hc 6 _ (by rw [Int.toNat_of_nonneg g0]; rfl))
  | 7, _, hp, _ => exact numI_put _ b 7 e.node.toNat _ (by omega) W hp (hc 7 _ (by rw [Int.toNat_of_nonneg i0]; rfl))
  | 8, _, hp, _ => exact numI_put _ b 8 e.level.toNat _ (by omega) W hp (hc 8 _ (by rw [Int.toNat_of_nonneg j0]; rfl))
  | 9, _, hp, _ => exact text_put _ b 9 e.data.data.toList _ (show e.data.size ≤ _ by omega) W hp (hc 9 _ rfl)
  | 10, _, hp, _ => exact text_put _ b 10 e.old.data.toList _ (show e.old.size ≤ _ by omega) W hp (hc 10 _ rfl)
  | k + 11, h, _, _ => exact absurd h (by omega)

set_option maxRecDepth 100000 in
set_option maxHeartbeats 2000000 in
theorem secondPut_any (e : Ent) (h : Small e) (hr : rightB e = true) (w : World) :
    Calls Tryz.prog 7 #[e.val] w fun x w' => x = .returned (.tuple #[.string ⟨(secE e).toArray⟩, .bool true]) ∧ Below w.heap.size w w' := by
  have hright := fun W => right_any e h.wf W
  rw [hr] at hright
  have hput := fun L base C W => secPut_ent e h w.heap.size L base C W
  have hbox := heap_alloc_new w (.cells e.cells EntT)
  generalize secE e = z at *
  clear h hr
  obtain ⟨x0, x1, x2, x3, x4, x5, x6, x7, x8, x9, x10⟩ := e
  simp only [Ent.val, Ent.cells] at hright hput hbox ⊢
  have HP := Lib.hid hput
  have HBOX := Lib.hid hbox
  have HR := Lib.hid hright
  clear hput hbox hright
  go_enter Tryz.func7, Tryz.ntmps7
  go_wp2_with fail
  refine (HR.out _).mono ?_
  rintro x w1 ⟨rfl, hb1⟩
  go_wp2_with fail
  refine (sec_fields_any _ w1).mono ?_
  rintro x w2 ⟨L, C, rfl, ht, hb2⟩
  have hbk : w2.heap[w.heap.size]? = some (.cells #[.int .u64 x0, .int .u64 x1, .int .i64 x2, .int .u64 x3, .int .u64 x4, .int .u64 x5, .int .u64 x6, .int .i64 x7, .int .i64 x8, .string x9, .string x10] EntT (0, 0)) := by
    have hs := hb1.size
    simp only [World.size_alloc] at hs
    rw [hb2.block _ (by omega), hb1.block _ (by simp)]
    exact HBOX.out
  have hbw : Below w.heap.size w w2 := (((Below.refl _ _).alloc (Nat.le_refl _) _).trans (hb1.mono (by simp))).trans (hb2.mono (by have := hb1.size; simp only [World.size_alloc] at this; omega))
  have HC := Lib.hid (HP.out L _ C w2 ht hbk)
  have HBW := Lib.hid hbw
  clear hb1 hb2 hbw ht hbk
  go_wp2_with fail
  refine HC.out.mono ?_
  rintro x w3 ⟨rfl, hb3⟩
  go_wp2_with fail
  go_ret2
  exact ⟨rfl, HBW.out.trans (hb3.mono HBW.out.size)⟩

theorem takeN_rd (r : Rd) : (takeN r).2 = if badU (rdVar r).1 = true then rdFail else (rdVar r).2 := by
  unfold takeN badU
  simp
theorem But2.refl (b e : Nat) (w : World) : But2 b e w w := ⟨rfl, rfl, rfl, Nat.le_refl _, fun _ _ _ _ => rfl⟩
theorem But2.toBut {b e : Nat} {w w' : World} (h : But2 b e w w') (he : w.heap.size ≤ e) : But b w w' := ⟨h.os, h.tape, h.output, h.size, fun k hk h1 => h.block k hk (fun h => h1 (by rw [h])) (by omega)⟩

theorem But2.after {b e : Nat} {w w' w'' : World} (h : Below w.heap.size w w') (g : But2 b e w' w'') (he : w.heap.size ≤ e) : But b w w'' :=
  ⟨g.os.trans h.os, g.tape.trans h.tape, g.output.trans h.output, Nat.le_trans h.size g.size, fun k hk h1 => (g.block k (Nat.lt_of_lt_of_le hk h.size) (fun h => h1 (by rw [h])) (by omega)).trans (h.block k hk)⟩
theorem But.set_far {b e o : Nat} {w w' : World} {v : Value} (h : But b w w') (he : w.heap.size ≤ e) : But b w (w'.setCell ⟨e, o, none⟩ v) :=
  ⟨h.os, h.tape, h.output, by have := h.size; simp [World.setCell]; omega, fun k hk h1 => by
    have hne : e ≠ k := by omega
    have := h.block k hk h1
    simp [World.setCell, Array.getElem?_modify, hne]
    exact this⟩
theorem RdAt.set_far {b e o : Nat} {w : World} {r : Rd} {v : Value} (h : RdAt w b r) (he : b ≠ e) : RdAt (w.setCell ⟨e, o, none⟩ v) b r := by
  unfold RdAt at h ⊢
  simp [World.setCell, Array.getElem?_modify, Ne.symm he, h]

set_option maxHeartbeats 1000000 in
theorem secGet_ent (b e L base : Nat) (C : Nat → Nat) (r : Rd) (hl : r.1.length ≤ 1099511627776) (w : World) (hb : b < base) (he : e < base) (hbe : b ≠ e) (hf : TagsAt w L base e entK C) (h : RdAt w b r) (hz : w.heap[e]? = some (.cells Ent.zero.cells EntT (0, 0))) :
    Calls Tryz.prog 39 #[.pointer (some ⟨b, 0, none⟩), .slice (some ⟨L, 0, none⟩) 11 11] w fun x w' => x = .returned (.tuple #[]) ∧ RdAt w' b (getL entTakes 0 Ent.zero r).2 ∧ But2 b e w w' ∧ w'.heap[e]? = some (.cells (getL entTakes 0 Ent.zero r).1.cells EntT (0, 0)) := by
  refine Calls.mono (secGet_of entTakes entTakes_fine (fun _ W s => But2 b e w W ∧ W.heap[e]? = some (.cells s.cells EntT (0, 0))) b L 11 11 (fun k => (entK k).1.2.1) (fun k => .pointer (some ⟨C k, 0, none⟩)) rfl (by decide) ?_ (fun k hk args W => (fk_enters _ (entK_kind k hk) args W).2) ?_ ?_ Ent.zero r hl w ⟨But2.refl b e w, hz⟩ h) (fun x w' h => ⟨h.1, h.2.1, h.2.2.choose_spec.2⟩)
  · intro _ W s _ hs k hk
    rw [World.cell?_of_block (w := w) (hs.1.block L hf.list.2 (by have := hf.list.1; omega) (by have := hf.list.1; omega))]
    exact hf.take k hk
  · intro _ W W' s hs hb'
    exact ⟨hs.1.trans (But2.ofBut hb'), (hb'.block e (heap_lt hs.2) (fun h => hbe (Option.some.inj h).symm)).trans hs.2⟩
  · intro k hk _ W s r _ hs hrd hr
    have hk11 : k < 11 := hk
    obtain ⟨hbw, hblk⟩ := hs
    have hbx := hf.box k hk11
    have hp : PtrAt W (C k) e (entK k).2 (entK k).1.2.2 := (hbw.block (C k) hbx.2 (by omega) (by omega)).trans (hf.ptr k hk11)
    have h2 : b ≠ C k := by omega
    have h3 : C k ≠ e := by omega
    match k, hk11, hp, h2, h3, hk with
    | 0, _, h1, h2, h3, _ => exact (numI_take b (C 0) e 2 r s.cells _ EntT s.kind hbe h2 h3 hr W hrd h1 hblk rfl).mono fun x w' ⟨g1, g2, g3, g4⟩ => ⟨g1, g2, hbw.trans g4, g3⟩
    | 1, _, h1, h2, h3, _ => exact (numU_take b (C 1) e 0 r s.cells _ EntT s.term hbe h2 h3 hr W hrd h1 hblk rfl).mono fun x w' ⟨g1, g2, g3, g4⟩ => ⟨g1, by rw [takeN_rd] at g2; exact g2, hbw.trans g4, g3⟩
    | 2, _, h1, h2, h3, _ => exact (numU_take b (C 2) e 1 r s.cells _ EntT s.index hbe h2 h3 hr W hrd h1 hblk rfl).mono fun x w' ⟨g1, g2, g3, g4⟩ => ⟨g1, by rw [takeN_rd] at g2; exact g2, hbw.trans g4, g3⟩
    | 3, _, h1, h2, h3, _ => exact (numU_take b (C 3) e 3 r s.cells _ EntT s.client hbe h2 h3 hr W hrd h1 hblk rfl).mono fun x w' ⟨g1, g2, g3, g4⟩ => ⟨g1, by rw [takeN_rd] at g2; exact g2, hbw.trans g4, g3⟩
    | 4, _, h1, h2, h3, _ => exact (numU_take b (C 4) e 4 r s.cells _ EntT s.seq hbe h2 h3 hr W hrd h1 hblk rfl).mono fun x w' ⟨g1, g2, g3, g4⟩ => ⟨g1, by rw [takeN_rd] at g2; exact g2, hbw.trans g4, g3⟩
    | 5, _, h1, h2, h3, _ => exact (numU_take b (C 5) e 5 r s.cells _ EntT s.block hbe h2 h3 hr W hrd h1 hblk rfl).mono fun x w' ⟨g1, g2, g3, g4⟩ => ⟨g1, by rw [takeN_rd] at g2; exact g2, hbw.trans g4, g3⟩
    | 6, _, h1, h2, h3, _ => exact (numU_take b (C 6) e 6 r s.cells _ EntT s.many hbe h2 h3 hr W hrd h1 hblk rfl).mono fun x w' ⟨g1, g2, g3, g4⟩ => ⟨g1, by rw [takeN_rd] at g2; exact g2, hbw.trans g4, g3⟩
    | 7, _, h1, h2, h3, _ => exact (numI_take b (C 7) e 7 r s.cells _ EntT s.node hbe h2 h3 hr W hrd h1 hblk rfl).mono fun x w' ⟨g1, g2, g3, g4⟩ => ⟨g1, g2, hbw.trans g4, g3⟩
    | 8, _, h1, h2, h3, _ => exact (numI_take b (C 8) e 8 r s.cells _ EntT s.level hbe h2 h3 hr W hrd h1 hblk rfl).mono fun x w' ⟨g1, g2, g3, g4⟩ => ⟨g1, g2, hbw.trans g4, g3⟩
    | 9, _, h1, h2, h3, _ => exact (text_take b (C 9) e 9 r s.cells _ EntT s.data hbe h2 h3 hr W hrd h1 hblk rfl).mono fun x w' ⟨g1, g2, g3, g4⟩ => ⟨g1, g2, hbw.trans g4, g3⟩
    | 10, _, h1, h2, h3, _ => exact (text_take b (C 10) e 10 r s.cells _ EntT s.old hbe h2 h3 hr W hrd h1 hblk rfl).mono fun x w' ⟨g1, g2, g3, g4⟩ => ⟨g1, g2, hbw.trans g4, g3⟩
    | k + 11, h, _, _, _, _ => exact absurd h (by omega)

set_option maxRecDepth 100000 in
set_option maxHeartbeats 2000000 in
theorem secondGet_any (b : Nat) (r : Rd) (hl : r.1.length ≤ 1099511627776) (w : World) (h : RdAt w b r) :
    Calls Tryz.prog 10 #[.pointer (some ⟨b, 0, none⟩)] w fun x w' => x = .returned (getEnt r).1.val ∧ RdAt w' b (getEnt r).2 ∧ But b w w' := by
  have hdef : getEnt r = if (getL entTakes 0 Ent.zero r).2.2 = false ∧ rightB (getL entTakes 0 Ent.zero r).1 = true then getL entTakes 0 Ent.zero r else (Ent.zero, rdFail) := rfl
  have hget := fun L base C W => secGet_ent b w.heap.size L base C r hl W
  have hok := getEntL_okay 1099511627776 (by decide) r hl
  generalize getL entTakes 0 Ent.zero r = y at *
  generalize getEnt r = q at *
  obtain ⟨e, r2⟩ := y
  simp only at hok hdef
  have hlt := h.lt
  have HG := Lib.hid hget
  have HD := Lib.hid hdef
  have HH := Lib.hid h
  have hright := fun W => right_any e hok.wf W
  have HR := Lib.hid hright
  clear hget hdef h hok hright
  go_enter Tryz.func10, Tryz.ntmps10
  go_wp2_with fail
  refine (sec_fields_any _ _).mono ?_
  rintro x w2 ⟨L, C, rfl, ht, hb2⟩
  have hz := heap_alloc_new w (.cells Ent.zero.cells EntT)
  have hz2 : w2.heap[w.heap.size]? = some (.cells Ent.zero.cells EntT (0, 0)) := (hb2.block _ (by simp)).trans hz
  have hh2 : RdAt w2 b r := (HH.out.keep ((Below.refl _ _).alloc (Nat.le_refl _) _)).keep hb2
  have HC := Lib.hid (HG.out L _ C w2 (by simp; omega) (by simp) (by omega) ht hh2 hz2)
  have hb02 : Below w.heap.size w w2 := ((Below.refl _ _).alloc (Nat.le_refl _) _).trans (hb2.mono (by simp))
  have HB02 := Lib.hid hb02
  clear hz hz2 hh2 ht hb2 hb02
  go_wp2_with fail
  refine HC.out.mono ?_
  rintro x w3 ⟨rfl, h3, hb3, he3⟩
  have hlt2 : w.heap.size < w3.heap.size := heap_lt he3
  have HH3 := Lib.hid h3
  have HB03 := Lib.hid (But2.after HB02.out hb3 (Nat.le_refl _))
  have HE3 := Lib.hid he3
  clear h3 hb3 he3 HC HG HB02 HH
  obtain ⟨x0, x1, x2, x3, x4, x5, x6, x7, x8, x9, x10⟩ := e
  obtain ⟨v, bad⟩ := r2
  simp only [Ent.val, Ent.cells] at HR
  have c0 : w3.cell? ⟨w.heap.size, 0, none⟩ = some (.int .u64 x0) := Lib.cell_of_heap HE3.out 0
  have c1 : w3.cell? ⟨w.heap.size, 1, none⟩ = some (.int .u64 x1) := Lib.cell_of_heap HE3.out 1
  have c2 : w3.cell? ⟨w.heap.size, 2, none⟩ = some (.int .i64 x2) := Lib.cell_of_heap HE3.out 2
  have c3 : w3.cell? ⟨w.heap.size, 3, none⟩ = some (.int .u64 x3) := Lib.cell_of_heap HE3.out 3
  have c4 : w3.cell? ⟨w.heap.size, 4, none⟩ = some (.int .u64 x4) := Lib.cell_of_heap HE3.out 4
  have c5 : w3.cell? ⟨w.heap.size, 5, none⟩ = some (.int .u64 x5) := Lib.cell_of_heap HE3.out 5
  have c6 : w3.cell? ⟨w.heap.size, 6, none⟩ = some (.int .u64 x6) := Lib.cell_of_heap HE3.out 6
  have c7 : w3.cell? ⟨w.heap.size, 7, none⟩ = some (.int .i64 x7) := Lib.cell_of_heap HE3.out 7
  have c8 : w3.cell? ⟨w.heap.size, 8, none⟩ = some (.int .i64 x8) := Lib.cell_of_heap HE3.out 8
  have c9 : w3.cell? ⟨w.heap.size, 9, none⟩ = some (.string x9) := Lib.cell_of_heap HE3.out 9
  have c10 : w3.cell? ⟨w.heap.size, 10, none⟩ = some (.string x10) := Lib.cell_of_heap HE3.out 10
  cases bad
  case true =>
    have HQ := Lib.hid (HD.out.trans (if_neg (fun h => by cases h.1)))
    clear HD HR
    go_wp2_with fail
    refine (ok_any b (v, true) w3 HH3.out).mono ?_
    rintro x w3' ⟨rfl, rfl⟩
    go_wp2_with fail
    refine (fail_any b (v, true) _ HH3.out).mono ?_
    rintro x w4 ⟨rfl, h4, hb4⟩
    have he4 := (hb4.block w.heap.size hlt2 (fun h => absurd (Option.some.inj h) (by omega))).trans HE3.out
    have H4 := Lib.hid h4
    have HB4 := Lib.hid (HB03.out.trans hb4)
    have HE4 := Lib.hid he4
    have f4 : ∀ o, w4.frozen? ⟨w.heap.size, o, none⟩ = false := fun o => Lib.frozen_of_heap he4 o
    clear h4 hb4 c0 c1 c2 c3 c4 c5 c6 c7 c8 c9 c10
    have c0 : w4.cell? ⟨w.heap.size, 0, none⟩ = some (.int .u64 x0) := Lib.cell_of_heap HE4.out 0
    have c1 : w4.cell? ⟨w.heap.size, 1, none⟩ = some (.int .u64 x1) := Lib.cell_of_heap HE4.out 1
    have c2 : w4.cell? ⟨w.heap.size, 2, none⟩ = some (.int .i64 x2) := Lib.cell_of_heap HE4.out 2
    have c3 : w4.cell? ⟨w.heap.size, 3, none⟩ = some (.int .u64 x3) := Lib.cell_of_heap HE4.out 3
    have c4 : w4.cell? ⟨w.heap.size, 4, none⟩ = some (.int .u64 x4) := Lib.cell_of_heap HE4.out 4
    have c5 : w4.cell? ⟨w.heap.size, 5, none⟩ = some (.int .u64 x5) := Lib.cell_of_heap HE4.out 5
    have c6 : w4.cell? ⟨w.heap.size, 6, none⟩ = some (.int .u64 x6) := Lib.cell_of_heap HE4.out 6
    have c7 : w4.cell? ⟨w.heap.size, 7, none⟩ = some (.int .i64 x7) := Lib.cell_of_heap HE4.out 7
    have c8 : w4.cell? ⟨w.heap.size, 8, none⟩ = some (.int .i64 x8) := Lib.cell_of_heap HE4.out 8
    have c9 : w4.cell? ⟨w.heap.size, 9, none⟩ = some (.string x9) := Lib.cell_of_heap HE4.out 9
    have c10 : w4.cell? ⟨w.heap.size, 10, none⟩ = some (.string x10) := Lib.cell_of_heap HE4.out 10
    clear he4
    go_wp2_with fail
    have hz := HE4.out
    refine bodyPost_ret (results_cell_row rfl _ _ w.heap.size EntT Ent.zero.cells (0, 0) _ rfl ?_ Tryz.underlying32 rfl (by kernel_rfl)) rfl ?_
    · simp [World.setCell, Array.getElem?_modify, hz, Ent.cells, Ent.zero]
    · rw [HQ.out]
      refine ⟨rfl, ?_, ?_⟩
      · repeat' (first | with_reducible exact H4.out | with_reducible exact Nat.ne_of_lt hlt | with_reducible refine RdAt.set_far ?_ ?_)
      · repeat' (first | with_reducible exact HB4.out | with_reducible exact Nat.le_refl _ | with_reducible refine But.set_far ?_ ?_)
  case false =>
    have HR3 := Lib.hid (HR.out w3)
    cases hg : rightB ⟨x0, x1, x2, x3, x4, x5, x6, x7, x8, x9, x10⟩
    · have HQ := Lib.hid (HD.out.trans (if_neg (fun h => by rw [hg] at h; cases h.2)))
      rw [hg] at HR3
      clear HD HR hg
      go_wp2_with fail
      refine (ok_any b (v, false) w3 HH3.out).mono ?_
      rintro x w3' ⟨rfl, rfl⟩
      go_wp2_with fail
      refine HR3.out.mono ?_
      rintro x w4 ⟨rfl, hb4⟩
      clear c0 c1 c2 c3 c4 c5 c6 c7 c8 c9 c10
      have H4 := Lib.hid (HH3.out.keep hb4)
      have HB4 := Lib.hid (HB03.out.trans (But.of hb4))
      have HE4 := Lib.hid ((hb4.block w.heap.size hlt2).trans HE3.out)
      clear hb4
      go_wp2_with fail
      refine (fail_any b (v, false) _ H4.out).mono ?_
      rintro x w5 ⟨rfl, h5, hb5⟩
      have hlt4 : w.heap.size < w4.heap.size := heap_lt HE4.out
      have he5 := (hb5.block w.heap.size hlt4 (fun h => absurd (Option.some.inj h) (by omega))).trans HE4.out
      have H5 := Lib.hid h5
      have HB5 := Lib.hid (HB4.out.trans hb5)
      have HE5 := Lib.hid he5
      have f5 : ∀ o, w5.frozen? ⟨w.heap.size, o, none⟩ = false := fun o => Lib.frozen_of_heap he5 o
      clear h5 hb5 he5
      have c0 : w5.cell? ⟨w.heap.size, 0, none⟩ = some (.int .u64 x0) := Lib.cell_of_heap HE5.out 0
      have c1 : w5.cell? ⟨w.heap.size, 1, none⟩ = some (.int .u64 x1) := Lib.cell_of_heap HE5.out 1
      have c2 : w5.cell? ⟨w.heap.size, 2, none⟩ = some (.int .i64 x2) := Lib.cell_of_heap HE5.out 2
      have c3 : w5.cell? ⟨w.heap.size, 3, none⟩ = some (.int .u64 x3) := Lib.cell_of_heap HE5.out 3
      have c4 : w5.cell? ⟨w.heap.size, 4, none⟩ = some (.int .u64 x4) := Lib.cell_of_heap HE5.out 4
      have c5 : w5.cell? ⟨w.heap.size, 5, none⟩ = some (.int .u64 x5) := Lib.cell_of_heap HE5.out 5
      have c6 : w5.cell? ⟨w.heap.size, 6, none⟩ = some (.int .u64 x6) := Lib.cell_of_heap HE5.out 6
      have c7 : w5.cell? ⟨w.heap.size, 7, none⟩ = some (.int .i64 x7) := Lib.cell_of_heap HE5.out 7
      have c8 : w5.cell? ⟨w.heap.size, 8, none⟩ = some (.int .i64 x8) := Lib.cell_of_heap HE5.out 8
      have c9 : w5.cell? ⟨w.heap.size, 9, none⟩ = some (.string x9) := Lib.cell_of_heap HE5.out 9
      have c10 : w5.cell? ⟨w.heap.size, 10, none⟩ = some (.string x10) := Lib.cell_of_heap HE5.out 10
      go_wp2_with fail
      have hz := HE5.out
      refine bodyPost_ret (results_cell_row rfl _ _ w.heap.size EntT Ent.zero.cells (0, 0) _ rfl ?_ Tryz.underlying32 rfl (by kernel_rfl)) rfl ?_
      · simp [World.setCell, Array.getElem?_modify, hz, Ent.cells, Ent.zero]
      · rw [HQ.out]
        refine ⟨rfl, ?_, ?_⟩
        · repeat' (first | with_reducible exact H5.out | with_reducible exact Nat.ne_of_lt hlt | with_reducible refine RdAt.set_far ?_ ?_)
        · repeat' (first | with_reducible exact HB5.out | with_reducible exact Nat.le_refl _ | with_reducible refine But.set_far ?_ ?_)
    · have HQ := Lib.hid (HD.out.trans (if_pos ⟨rfl, hg⟩))
      rw [hg] at HR3
      clear HD HR hg
      go_wp2_with fail
      refine (ok_any b (v, false) w3 HH3.out).mono ?_
      rintro x w3' ⟨rfl, rfl⟩
      go_wp2_with fail
      refine HR3.out.mono ?_
      rintro x w4 ⟨rfl, hb4⟩
      clear c0 c1 c2 c3 c4 c5 c6 c7 c8 c9 c10
      have H4 := Lib.hid (HH3.out.keep hb4)
      have HB4 := Lib.hid (HB03.out.trans (But.of hb4))
      have HE4 := Lib.hid ((hb4.block w.heap.size hlt2).trans HE3.out)
      have f4 : ∀ o, w4.frozen? ⟨w.heap.size, o, none⟩ = false := fun o => Lib.frozen_of_heap HE4.out o
      clear hb4
      have c0 : w4.cell? ⟨w.heap.size, 0, none⟩ = some (.int .u64 x0) := Lib.cell_of_heap HE4.out 0
      have c1 : w4.cell? ⟨w.heap.size, 1, none⟩ = some (.int .u64 x1) := Lib.cell_of_heap HE4.out 1
      have c2 : w4.cell? ⟨w.heap.size, 2, none⟩ = some (.int .i64 x2) := Lib.cell_of_heap HE4.out 2
      have c3 : w4.cell? ⟨w.heap.size, 3, none⟩ = some (.int .u64 x3) := Lib.cell_of_heap HE4.out 3
      have c4 : w4.cell? ⟨w.heap.size, 4, none⟩ = some (.int .u64 x4) := Lib.cell_of_heap HE4.out 4
      have c5 : w4.cell? ⟨w.heap.size, 5, none⟩ = some (.int .u64 x5) := Lib.cell_of_heap HE4.out 5
      have c6 : w4.cell? ⟨w.heap.size, 6, none⟩ = some (.int .u64 x6) := Lib.cell_of_heap HE4.out 6
      have c7 : w4.cell? ⟨w.heap.size, 7, none⟩ = some (.int .i64 x7) := Lib.cell_of_heap HE4.out 7
      have c8 : w4.cell? ⟨w.heap.size, 8, none⟩ = some (.int .i64 x8) := Lib.cell_of_heap HE4.out 8
      have c9 : w4.cell? ⟨w.heap.size, 9, none⟩ = some (.string x9) := Lib.cell_of_heap HE4.out 9
      have c10 : w4.cell? ⟨w.heap.size, 10, none⟩ = some (.string x10) := Lib.cell_of_heap HE4.out 10
      go_wp2_with fail
      have hz := HE4.out
      refine bodyPost_ret (results_cell_row rfl _ _ w.heap.size EntT (Ent.cells ⟨x0, x1, x2, x3, x4, x5, x6, x7, x8, x9, x10⟩) (0, 0) _ rfl ?_ Tryz.underlying32 rfl (by kernel_rfl)) rfl ?_
      · simp [World.setCell, Array.getElem?_modify, hz, Ent.cells]
      · rw [HQ.out]
        refine ⟨rfl, ?_, ?_⟩
        · repeat' (first | with_reducible exact H4.out | with_reducible exact Nat.ne_of_lt hlt | with_reducible refine RdAt.set_far ?_ ?_)
        · repeat' (first | with_reducible exact HB4.out | with_reducible exact Nat.le_refl _ | with_reducible refine But.set_far ?_ ?_)

end Go.Proofs.YtbjbgdnjcppjhaaGreatDoor
