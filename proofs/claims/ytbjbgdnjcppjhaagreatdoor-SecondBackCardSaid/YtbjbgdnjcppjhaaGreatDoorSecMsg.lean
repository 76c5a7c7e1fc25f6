/-
  second.PutMsg, second.GetMsg over this translation: a message's bytes; the message of bytes. Conditions: as each theorem says. By an AI agent.
-/
import Derived.Test.YtbjbgdnjcppjhaaGreatDoorSecParts
import Derived.Test.YtbjbgdnjcppjhaaGreatDoorSecEntsT
import Derived.Test.YtbjbgdnjcppjhaaGreatDoorMsgRight
import Derived.Laws.ResultCell
namespace Go.Proofs.YtbjbgdnjcppjhaaGreatDoor
open Go.RowKit Go.Sort
set_option linter.unusedVariables false
set_option linter.unusedSimpArgs false

theorem msgK_kind : ∀ k, k < 11 → (msgK k).1 = fk_numU ∨ (msgK k).1 = fk_numI ∨ (msgK k).1 = fk_text ∨ (msgK k).1 = fk_flag ∨ (msgK k).1 = fk_ents
  | 0, _ => .inr (.inl rfl) | 1, _ => .inr (.inl rfl) | 2, _ => .inr (.inl rfl) | 3, _ => .inl rfl | 4, _ => .inl rfl | 5, _ => .inl rfl | 6, _ => .inl rfl | 7, _ => .inl rfl
  | 8, _ => .inr (.inr (.inr (.inl rfl))) | 9, _ => .inr (.inr (.inl rfl)) | 10, _ => .inr (.inr (.inr (.inr rfl))) | k + 11, h => absurd h (by omega)

theorem msgBs_len (m : Msg) (h : SmallM m) : ∀ b ∈ msgBs m, b.length ≤ 10010 := by
  obtain ⟨⟨a0, a1⟩, ⟨b0, b1⟩, ⟨c0, c1⟩, ⟨d0, d1⟩, ⟨e0, e1⟩, ⟨f0, f1⟩, ⟨g0, g1⟩, ⟨i0, i1⟩, hs, hc, he⟩ := h
  intro b hb
  have hn : ∀ n : Int, n ≤ 18446744073709551615 → (numL n.toNat).length ≤ 10010 := fun n h => Nat.le_trans (numL_len n.toNat (by omega)) (by decide)
  simp only [msgBs, List.mem_cons, List.not_mem_nil, or_false] at hb
  rcases hb with rfl | rfl | rfl | rfl | rfl | rfl | rfl | rfl | rfl | rfl | rfl
  · exact hn _ (by omega)
  · exact hn _ (by omega)
  · exact hn _ (by omega)
  · exact hn _ (by omega)
  · exact hn _ (by omega)
  · exact hn _ (by omega)
  · exact hn _ (by omega)
  · exact hn _ (by omega)
  · cases m.ok <;> simp [flagL]
  · have h2 : m.snap.data.toList.length ≤ 200 := hs
    have := textF_len m.snap.data.toList (by omega)
    omega
  · unfold entsF
    split
    · simp
    · have h1 := varL_len 10 m.entries.length (Nat.lt_of_le_of_lt hc (by decide)) (by decide)
      have h2 := flatE_len m.entries (fun x hx => (he x hx).1)
      rw [List.length_append]
      omega
theorem secM_len (m : Msg) (h : SmallM m) : (secM m).length ≤ 200000 := Nat.le_trans (tagL_len (msgBs m) 0 10010 (show 0 + 11 ≤ 1000 by decide) (msgBs_len m h)) (show 11 * (10 + 10010) + 1 ≤ 200000 by decide)

set_option maxHeartbeats 1000000 in
theorem secPut_msg (m : Msg) (h : SmallM m) (b L base : Nat) (C : Nat → Nat) (sv : Value) (w : World) (hf : TagsAt w L base b msgK C) (hb : w.heap[b]? = some (.cells (m.cells sv) MsgT (0, 0))) (hs : EntsAt w sv m.entries) :
    Calls Tryz.prog 36 #[.slice (some ⟨L, 0, none⟩) 11 11] w fun x w' => x = .returned (.string ⟨(secM m).toArray⟩) ∧ Below w.heap.size w w' := by
  refine secPut_of L 11 11 (fun k => (msgK k).1.1) (fun k => (msgK k).1.2.1) (fun k => .pointer (some ⟨C k, 0, none⟩)) (msgBs m) rfl (by decide) (Nat.le_trans (secM_len m h) (by decide)) w
    (fun k hk => ⟨hf.put k hk, hf.take k hk⟩) (fun k hk args W => (fk_enters _ (msgK_kind k hk) args W).1) ?_
  obtain ⟨⟨a0, a1⟩, ⟨b0, b1⟩, ⟨c0, c1⟩, ⟨d0, d1⟩, ⟨e0, e1⟩, ⟨f0, f1⟩, ⟨g0, g1⟩, ⟨i0, i1⟩, hsn, hcn, he⟩ := h
  intro k hk W hW
  have hbW := (hW.block b (heap_lt hb)).trans hb
  have hc : ∀ o v, (m.cells sv)[o]? = some v → W.cell? ⟨b, o, none⟩ = some v := fun o v h => (Lib.cell_of_heap hbW o).trans h
  have hk11 : k < 11 := hk
  have hp := (hf.ptr k hk11).below hW
  match k, hk11, hp, hk with
  | 0, _, hp, _ => exact numI_put _ b 0 m.kind.toNat _ (by omega) W hp (hc 0 _ (by rw [Int.toNat_of_nonneg (by omega)]; rfl))
  | 1, _, hp, _ => exact numI_put _ b 1 m.frm.toNat _ (by omega) W hp (hc 1 _ (by rw [Int.toNat_of_nonneg (by omega)]; rfl))
  | 2, _, hp, _ => exact numI_put _ b 2 m.to.toNat _ (by omega) W hp (hc 2 _ (by rw [Int.toNat_of_nonneg (by omega)]; rfl))
  | 3, _, hp, _ => exact numU_put _ b 3 m.term.toNat _ (by omega) W hp (hc 3 _ (by rw [Int.toNat_of_nonneg (by omega)]; rfl))
  | 4, _, hp, _ => exact numU_put _ b 4 m.index.toNat _ (by omega) W hp (hc 4 _ (by rw [Int.toNat_of_nonneg (by omega)]; rfl))
  | 5, _, hp, _ => exact numU_put _ b 5 m.prev.toNat _ (by omega) W hp (hc 5 _ (by rw [Int.toNat_of_nonneg (by omega)]; rfl))
  | 6, _, hp, _ => exact numU_put _ b 6 m.commit.toNat _ (by omega) W hp (hc 6 _ (by rw [Int.toNat_of_nonneg (by omega)]; rfl))
  | 7, _, hp, _ => exact numU_put _ b 7 m.mark.toNat _ (by omega) W hp (hc 7 _ (by rw [Int.toNat_of_nonneg (by omega)]; rfl))
  | 8, _, hp, _ => exact flag_put _ b 8 m.ok _ W hp (hc 8 _ rfl)
  | 9, _, hp, _ => exact text_put _ b 10 m.snap.data.toList _ (show m.snap.size ≤ _ by omega) W hp (hc 10 _ rfl)
  | 10, _, hp, _ => exact ents_put _ b 9 sv m.entries _ he (by omega) W hp (hc 9 _ rfl) (hs.below hW)
  | k + 11, h, _, _ => exact absurd h (by omega)

set_option maxRecDepth 100000 in
set_option maxHeartbeats 2000000 in
theorem secondPutMsg_any (m : Msg) (h : SmallM m) (hr : msgRightB m = true) (sv : Value) (w : World) (hs : EntsAt w sv m.entries) :
    Calls Tryz.prog 12 #[.agg (m.cells sv)] w fun x w' => x = .returned (.tuple #[.string ⟨(secM m).toArray⟩, .bool true]) ∧ Below w.heap.size w w' := by
  have hright := fun W hW => msgRight_any m sv (fun e he => (h.each e he).1.wf) (by have := h.count; omega) W hW
  rw [hr] at hright
  have hput := fun L base C W => secPut_msg m h w.heap.size L base C sv W
  have hbox := heap_alloc_new w (.cells (m.cells sv) MsgT)
  generalize secM m = z at *
  clear h hr
  obtain ⟨x0, x1, x2, x3, x4, x5, x6, x7, x8, x10, x9⟩ := m
  simp only [Msg.cells] at hright hput hbox hs ⊢
  obtain ⟨va, vc, rfl, _⟩ := id hs
  have HP := Lib.hid hput
  have HBOX := Lib.hid hbox
  have HR := Lib.hid hright
  have HS := Lib.hid hs
  clear hput hbox hright hs
  go_enter Tryz.func12, Tryz.ntmps12
  go_wp2_with fail
  refine (HR.out _ (HS.out.below ((Below.refl _ _).alloc (Nat.le_refl _) _))).mono ?_
  rintro x w1 ⟨rfl, hb1⟩
  go_wp2_with fail
  refine (sec_parts_any _ w1).mono ?_
  rintro x w2 ⟨L, C, rfl, ht, hb2⟩
  have hbk : w2.heap[w.heap.size]? = some (.cells #[.int .i64 x0, .int .i64 x1, .int .i64 x2, .int .u64 x3, .int .u64 x4, .int .u64 x5, .int .u64 x6, .int .u64 x7, .bool x8, .slice va x9.length vc, .string x10] MsgT (0, 0)) := by
    have hs := hb1.size
    simp only [World.size_alloc] at hs
    rw [hb2.block _ (by omega), hb1.block _ (by simp)]
    exact HBOX.out
  have hbw : Below w.heap.size w w2 := (((Below.refl _ _).alloc (Nat.le_refl _) _).trans (hb1.mono (by simp))).trans (hb2.mono (by have := hb1.size; simp only [World.size_alloc] at this; omega))
  have HC := Lib.hid (HP.out L _ C w2 ht hbk (HS.out.below hbw))
  have HBW := Lib.hid hbw
  clear hb1 hb2 hbw ht hbk
  go_wp2_with fail
  refine HC.out.mono ?_
  rintro x w3 ⟨rfl, hb3⟩
  go_wp2_with fail
  go_ret2
  exact ⟨rfl, HBW.out.trans (hb3.mono HBW.out.size)⟩

theorem takeE_count (m : Msg) (r : Rd) (la : Nat) (hla : la ≤ 10) (h : m.entries.length ≤ 64 * la) : (takeE m r).1.entries.length ≤ 64 * 11 := by
  unfold takeE
  split
  · show m.entries.length ≤ _
    omega
  · simp only [List.length_append, entsN_len]
    omega

set_option maxHeartbeats 1000000 in
theorem secGet_msg (b e L base n0 : Nat) (C : Nat → Nat) (r : Rd) (hl : r.1.length ≤ 1099511627776) (w : World) (hb : b < base) (he : e < base) (hbe : b ≠ e) (hn0 : w.heap.size = n0) (hf : TagsAt w L base e msgK C) (h : RdAt w b r) (hz : w.heap[e]? = some (.cells (Msg.none.cells (.slice none 0 0)) MsgT (0, 0))) :
    Calls Tryz.prog 39 #[.pointer (some ⟨b, 0, none⟩), .slice (some ⟨L, 0, none⟩) 11 11] w fun x w' => x = .returned (.tuple #[]) ∧ RdAt w' b (getL msgTakes 0 Msg.none r).2 ∧ ButN n0 b e w w' ∧ ∃ v, MsgIn n0 e (getL msgTakes 0 Msg.none r).1 v w' := by
  have hbn : b < n0 := by rw [← hn0]; exact h.lt
  have hen : e < n0 := by rw [← hn0]; exact heap_lt hz
  refine Calls.mono (secGet_of msgTakes msgTakes_fine (fun la W s => ButN n0 b e w W ∧ s.entries.length ≤ 64 * la ∧ ∃ v, MsgIn n0 e s v W) b L 11 11 (fun k => (msgK k).1.2.1) (fun k => .pointer (some ⟨C k, 0, none⟩)) rfl (by decide) ?_ (fun k hk args W => (fk_enters _ (msgK_kind k hk) args W).2) ?_ ?_ Msg.none r hl w ⟨ButN.refl _ b e w, Nat.le_refl _, .slice none 0 0, ⟨hz, ?_⟩⟩ h) (fun x w' h => ⟨h.1, h.2.1, h.2.2.choose_spec.2.1, h.2.2.choose_spec.2.2.2⟩)
  · intro _ W s _ hs k hk
    rw [World.cell?_of_block (w := w) (hs.1.block L (by rw [← hn0]; exact hf.list.2) (by have := hf.list.1; omega) (by have := hf.list.1; omega))]
    exact hf.take k hk
  · intro _ W W' s hs hb'
    exact ⟨hs.1.trans (ButN.of1 hb' (by have := hs.1.size; omega)), hs.2.1, hs.2.2.choose, hs.2.2.choose_spec.but hb' hbn hbe⟩
  · intro k hk la W m r hla hs hrd hr
    have hk11 : k < 11 := hk
    obtain ⟨hbw, hcnt, sv, hin⟩ := hs
    have hbx := hf.box k hk11
    have hp : PtrAt W (C k) e (msgK k).2 (msgK k).1.2.2 := (hbw.block (C k) (by rw [← hn0]; exact hbx.2) (by omega) (by omega)).trans (hf.ptr k hk11)
    have h2 : b ≠ C k := by omega
    have h3 : C k ≠ e := by omega
    have h4 : C k < n0 := by rw [← hn0]; exact hbx.2
    have hnW : n0 ≤ W.heap.size := by have := hbw.size; omega
    have keep : ∀ w', But2 b e W w' → w'.ownsRow n0 EntT 11 sv m.entries.length (m.entries.flatMap fun e => e.cells.toList) := by
      intro w' g4
      refine ⟨hin.row.1, ?_⟩
      rcases hin.row.2 with h0 | ⟨g, cap, cur, hv, hbg, hg, rest⟩
      · exact .inl h0
      · exact .inr ⟨g, cap, cur, hv, hbg, (g4.block g (heap_lt hg) (by omega) (by omega)).trans hg, rest⟩
    have cnt : ∀ m' : Msg, m'.entries = m.entries → m'.entries.length ≤ 64 * (k + 1) := fun m' h => by rw [h]; omega
    match k, hk11, hp, h2, h3, h4, cnt, hla, hk with
    | 0, _, h1, h2, h3, h4, cnt, hla, _ => exact (numI_take b (C 0) e 0 r (m.cells sv) _ MsgT m.kind hbe h2 h3 hr W hrd h1 hin.block rfl).mono fun x w' ⟨g1, g2, g3, g4⟩ => ⟨g1, g2, hbw.trans (ButN.of2 g4 hnW), cnt _ rfl, sv, ⟨g3, keep _ g4⟩⟩
    | 1, _, h1, h2, h3, h4, cnt, hla, _ => exact (numI_take b (C 1) e 1 r (m.cells sv) _ MsgT m.frm hbe h2 h3 hr W hrd h1 hin.block rfl).mono fun x w' ⟨g1, g2, g3, g4⟩ => ⟨g1, g2, hbw.trans (ButN.of2 g4 hnW), cnt _ rfl, sv, ⟨g3, keep _ g4⟩⟩
    | 2, _, h1, h2, h3, h4, cnt, hla, _ => exact (numI_take b (C 2) e 2 r (m.cells sv) _ MsgT m.to hbe h2 h3 hr W hrd h1 hin.block rfl).mono fun x w' ⟨g1, g2, g3, g4⟩ => ⟨g1, g2, hbw.trans (ButN.of2 g4 hnW), cnt _ rfl, sv, ⟨g3, keep _ g4⟩⟩
    | 3, _, h1, h2, h3, h4, cnt, hla, _ => exact (numU_take b (C 3) e 3 r (m.cells sv) _ MsgT m.term hbe h2 h3 hr W hrd h1 hin.block rfl).mono fun x w' ⟨g1, g2, g3, g4⟩ => ⟨g1, by rw [takeN_rd] at g2; exact g2, hbw.trans (ButN.of2 g4 hnW), cnt _ rfl, sv, ⟨g3, keep _ g4⟩⟩
    | 4, _, h1, h2, h3, h4, cnt, hla, _ => exact (numU_take b (C 4) e 4 r (m.cells sv) _ MsgT m.index hbe h2 h3 hr W hrd h1 hin.block rfl).mono fun x w' ⟨g1, g2, g3, g4⟩ => ⟨g1, by rw [takeN_rd] at g2; exact g2, hbw.trans (ButN.of2 g4 hnW), cnt _ rfl, sv, ⟨g3, keep _ g4⟩⟩
    | 5, _, h1, h2, h3, h4, cnt, hla, _ => exact (numU_take b (C 5) e 5 r (m.cells sv) _ MsgT m.prev hbe h2 h3 hr W hrd h1 hin.block rfl).mono fun x w' ⟨g1, g2, g3, g4⟩ => ⟨g1, by rw [takeN_rd] at g2; exact g2, hbw.trans (ButN.of2 g4 hnW), cnt _ rfl, sv, ⟨g3, keep _ g4⟩⟩
    | 6, _, h1, h2, h3, h4, cnt, hla, _ => exact (numU_take b (C 6) e 6 r (m.cells sv) _ MsgT m.commit hbe h2 h3 hr W hrd h1 hin.block rfl).mono fun x w' ⟨g1, g2, g3, g4⟩ => ⟨g1, by rw [takeN_rd] at g2; exact g2, hbw.trans (ButN.of2 g4 hnW), cnt _ rfl, sv, ⟨g3, keep _ g4⟩⟩
    | 7, _, h1, h2, h3, h4, cnt, hla, _ => exact (numU_take b (C 7) e 7 r (m.cells sv) _ MsgT m.mark hbe h2 h3 hr W hrd h1 hin.block rfl).mono fun x w' ⟨g1, g2, g3, g4⟩ => ⟨g1, by rw [takeN_rd] at g2; exact g2, hbw.trans (ButN.of2 g4 hnW), cnt _ rfl, sv, ⟨g3, keep _ g4⟩⟩
    | 8, _, h1, h2, h3, h4, cnt, hla, _ => exact (flag_take b (C 8) e 8 r (m.cells sv) _ MsgT m.ok hbe h2 h3 hr W hrd h1 hin.block rfl).mono fun x w' ⟨g1, g2, g3, g4⟩ => ⟨g1, g2, hbw.trans (ButN.of2 g4 hnW), cnt _ rfl, sv, ⟨g3, keep _ g4⟩⟩
    | 9, _, h1, h2, h3, h4, cnt, hla, _ => exact (text_take b (C 9) e 10 r (m.cells sv) _ MsgT m.snap hbe h2 h3 hr W hrd h1 hin.block rfl).mono fun x w' ⟨g1, g2, g3, g4⟩ => ⟨g1, g2, hbw.trans (ButN.of2 g4 hnW), cnt _ rfl, sv, ⟨g3, keep _ g4⟩⟩
    | 10, _, h1, h2, h3, h4, cnt, hla, _ => exact (ents_take b (C 10) e n0 r m sv _ hbe h2 h3 hbn h4 hen (by omega) hr W hnW hrd h1 hin).mono fun x w' ⟨g1, g2, ⟨v', g3⟩, g4⟩ => ⟨g1, g2, hbw.trans g4, takeE_count m r la hla hcnt, v', g3⟩
    | k + 11, h, _, _, _, _, _, _, _ => exact absurd h (by omega)
  · exact ⟨rfl, .inl ⟨rfl, rfl⟩⟩

theorem results_cell_row_tmp {P : Program} {fn : Func} {p u : Tmp} {ty : TypeId} (h : fn.results = #[.cell p ty, .tmp u]) (tmps : Array Value) (w : World) (g : Nat) (t : TypeId) (cs : Array Value) (fr : Nat × Nat) (d : TypeDesc)
    (hp : tmps.getD p undef = .pointer (some ⟨g, 0, none⟩)) (hg : w.heap[g]? = some (.cells cs t fr))
    (hu : P.underlying ty = some d) (hd : (match d with | .struct _ | .array _ _ => true | _ => false) = true) (hi : (P.info? ty).map (·.size) = some cs.size) :
    (results fn tmps).run P w = .ok (.tuple #[.agg cs, tmps.getD u undef]) w := by
  have hp' : tmps[p]?.getD undef = .pointer (some ⟨g, 0, none⟩) := by simpa using hp
  rw [results_cell_tmp h]
  simp [hp', asAddr, run_loadVar_row w g t ty cs fr d hg hu hd hi]

set_option maxRecDepth 100000 in
set_option maxHeartbeats 4000000 in
theorem getMsg_any (s : List UInt8) (hl : s.length ≤ 1099511627776) (w : World) :
    Calls Tryz.prog 14 #[.string ⟨s.toArray⟩] w fun x w' => ∃ m sv, x = .returned (.tuple #[.agg (m.cells sv), .bool (gotM s)]) ∧ (gotM s = true → m = (getMsgL s).1) ∧ EntsAt w' sv m.entries ∧ Below w.heap.size w w' := by
  have hgot : gotM s = (!(getMsgL s).2.2 && (getMsgL s).2.1.isEmpty && msgRightB (getMsgL s).1) := rfl
  have hok := getMsgL_okay 1099511627776 (by decide) s hl
  have hcn := getMsgL_count s
  have hget := fun b e L base n0 C W => secGet_msg b e L base n0 C (s, false) hl W
  have hdef : getL msgTakes 0 Msg.none (s, false) = getMsgL s := rfl
  rw [hdef] at hget
  generalize getMsgL s = y at *
  generalize gotM s = got at *
  obtain ⟨m, r2⟩ := y
  simp only at hok hcn hgot
  have HG := Lib.hid hget
  have HGOT0 := Lib.hid hgot
  have hright := fun W v hW => msgRight_any m v (fun e he => (hok.each e he).wf) (by omega) W hW
  have HR := Lib.hid hright
  clear hget hgot hdef hright hok hcn
  go_enter Tryz.func14, Tryz.ntmps14
  go_wp2_with fail
  refine (new_any s _).mono ?_
  rintro x w1 ⟨rfl, h1, hb1, hs1⟩
  simp only [World.size_alloc] at h1 hs1
  have hzz : w1.heap[w.heap.size]? = some (.cells (Msg.none.cells (.slice none 0 0)) MsgT (0, 0)) := (hb1.block _ (by simp)).trans (heap_alloc_new w _)
  have H1 := Lib.hid h1
  have HZ1 := Lib.hid hzz
  have HB1 := Lib.hid (((Below.refl _ _).alloc (Nat.le_refl _) _).trans (hb1.mono (by simp)) : Below w.heap.size w w1)
  clear h1 hzz hb1
  go_wp2_with fail
  refine (sec_parts_any _ _).mono ?_
  rintro x w3 ⟨L, C, rfl, ht, hb3⟩
  have hb13 : Below w1.heap.size w1 w3 := ((Below.refl _ _).alloc (Nat.le_refl _) _).trans (hb3.mono (by simp))
  have hz3 : w3.heap[w1.heap.size]? = some (.cells (Msg.none.cells (.slice none 0 0)) MsgT (0, 0)) := (hb3.block _ (by simp)).trans (heap_alloc_new w1 _)
  have HC := Lib.hid (HG.out (w.heap.size + 1) w1.heap.size L _ w3.heap.size C w3 (by simp; omega) (by simp) (by omega) rfl ht (H1.out.keep hb13) hz3)
  have HZ3 := Lib.hid ((hb13.block w.heap.size (by omega)).trans HZ1.out)
  have HB3 := Lib.hid (HB1.out.trans (hb13.mono HB1.out.size))
  have hlt3 : w1.heap.size < w3.heap.size := heap_lt hz3
  clear ht hb3 hb13 hz3 HG H1 HZ1 HB1
  generalize he : w1.heap.size = e at *
  go_wp2_with fail
  refine HC.out.mono ?_
  rintro x w4 ⟨rfl, h4, hb4, v, hin4⟩
  obtain ⟨va, vc, rfl⟩ := hin4.slice
  obtain ⟨x0, x1, x2, x3, x4, x5, x6, x7, x8, x10, x9⟩ := m
  obtain ⟨u, bad⟩ := r2
  simp only [Msg.cells] at HR
  simp only at h4 hin4 HGOT0
  have hEnts : EntsAt w4 (.slice va x9.length vc) x9 := own_entsAt hin4.row rfl
  have HIN := Lib.hid hin4
  have H4 := Lib.hid h4
  have HE4 := Lib.hid hEnts
  have HZ4 := Lib.hid ((hb4.block w.heap.size (by omega) (by omega) (by omega)).trans HZ3.out)
  have HB4 := Lib.hid (HB3.out.trans ⟨hb4.os, hb4.tape, hb4.output, hb4.size, fun k hk => hb4.block k (by omega) (by omega) (by omega)⟩ : Below w.heap.size w w4)
  clear hin4 h4 hEnts hb4 HC HZ3 HB3
  have c0 : w4.cell? ⟨e, 0, none⟩ = some (.int .i64 x0) := Lib.cell_of_heap HIN.out.block 0
  have c1 : w4.cell? ⟨e, 1, none⟩ = some (.int .i64 x1) := Lib.cell_of_heap HIN.out.block 1
  have c2 : w4.cell? ⟨e, 2, none⟩ = some (.int .i64 x2) := Lib.cell_of_heap HIN.out.block 2
  have c3 : w4.cell? ⟨e, 3, none⟩ = some (.int .u64 x3) := Lib.cell_of_heap HIN.out.block 3
  have c4 : w4.cell? ⟨e, 4, none⟩ = some (.int .u64 x4) := Lib.cell_of_heap HIN.out.block 4
  have c5 : w4.cell? ⟨e, 5, none⟩ = some (.int .u64 x5) := Lib.cell_of_heap HIN.out.block 5
  have c6 : w4.cell? ⟨e, 6, none⟩ = some (.int .u64 x6) := Lib.cell_of_heap HIN.out.block 6
  have c7 : w4.cell? ⟨e, 7, none⟩ = some (.int .u64 x7) := Lib.cell_of_heap HIN.out.block 7
  have c8 : w4.cell? ⟨e, 8, none⟩ = some (.bool x8) := Lib.cell_of_heap HIN.out.block 8
  have c9 : w4.cell? ⟨e, 9, none⟩ = some (.slice va x9.length vc) := Lib.cell_of_heap HIN.out.block 9
  have c10 : w4.cell? ⟨e, 10, none⟩ = some (.string x10) := Lib.cell_of_heap HIN.out.block 10
  cases bad
  case true =>
    have HGOT := Lib.hid (HGOT0.out.trans rfl : got = false)
    clear HGOT0 HR
    go_wp2_with fail
    refine (ok_any _ (u, true) w4 H4.out).mono ?_
    rintro x w4' ⟨rfl, rfl⟩
    clear c0 c1 c2 c3 c4 c5 c6 c7 c8 c9 c10
    have z0 : w4'.cell? ⟨w.heap.size, 0, none⟩ = some (.int .i64 0) := Lib.cell_of_heap HZ4.out 0
    have z1 : w4'.cell? ⟨w.heap.size, 1, none⟩ = some (.int .i64 0) := Lib.cell_of_heap HZ4.out 1
    have z2 : w4'.cell? ⟨w.heap.size, 2, none⟩ = some (.int .i64 0) := Lib.cell_of_heap HZ4.out 2
    have z3 : w4'.cell? ⟨w.heap.size, 3, none⟩ = some (.int .u64 0) := Lib.cell_of_heap HZ4.out 3
    have z4 : w4'.cell? ⟨w.heap.size, 4, none⟩ = some (.int .u64 0) := Lib.cell_of_heap HZ4.out 4
    have z5 : w4'.cell? ⟨w.heap.size, 5, none⟩ = some (.int .u64 0) := Lib.cell_of_heap HZ4.out 5
    have z6 : w4'.cell? ⟨w.heap.size, 6, none⟩ = some (.int .u64 0) := Lib.cell_of_heap HZ4.out 6
    have z7 : w4'.cell? ⟨w.heap.size, 7, none⟩ = some (.int .u64 0) := Lib.cell_of_heap HZ4.out 7
    have z8 : w4'.cell? ⟨w.heap.size, 8, none⟩ = some (.bool false) := Lib.cell_of_heap HZ4.out 8
    have z9 : w4'.cell? ⟨w.heap.size, 9, none⟩ = some (.slice none 0 0) := Lib.cell_of_heap HZ4.out 9
    have z10 : w4'.cell? ⟨w.heap.size, 10, none⟩ = some (.string ⟨#[]⟩) := Lib.cell_of_heap HZ4.out 10
    have fz : ∀ o, w4'.frozen? ⟨w.heap.size, o, none⟩ = false := fun o => Lib.frozen_of_heap HZ4.out o
    go_wp2_with fail
    have hz := HZ4.out
    refine bodyPost_ret (results_cell_row_tmp rfl _ _ w.heap.size MsgT (Msg.none.cells (.slice none 0 0)) (0, 0) _ rfl ?_ Tryz.underlying26 rfl (by kernel_rfl)) rfl ?_
    · simp [World.setCell, Array.getElem?_modify, hz, Msg.cells, Msg.none]
    · refine ⟨Msg.none, .slice none 0 0, by rw [HGOT.out]; rfl, fun h => (by rw [HGOT.out] at h; cases h), entsAt_nil _, ?_⟩
      repeat' (first | with_reducible exact HB4.out | with_reducible exact Nat.le_refl _ | with_reducible refine Below.setCell ?_ ?_ _)
  case false =>
    cases u with
    | cons u0 ul =>
      have HGOT := Lib.hid (HGOT0.out.trans rfl : got = false)
      have hpos : (0 : Int) < (((u0 :: ul).length : Nat) : Int) := by simp
      clear HGOT0 HR
      go_wp2_with fail
      refine (ok_any _ (u0 :: ul, false) w4 H4.out).mono ?_
      rintro x w4' ⟨rfl, rfl⟩
      go_wp2_with fail
      refine (left_any _ (u0 :: ul, false) _ H4.out).mono ?_
      rintro x w4'' ⟨rfl, rfl⟩
      clear c0 c1 c2 c3 c4 c5 c6 c7 c8 c9 c10
      have z0 : w4''.cell? ⟨w.heap.size, 0, none⟩ = some (.int .i64 0) := Lib.cell_of_heap HZ4.out 0
      have z1 : w4''.cell? ⟨w.heap.size, 1, none⟩ = some (.int .i64 0) := Lib.cell_of_heap HZ4.out 1
      have z2 : w4''.cell? ⟨w.heap.size, 2, none⟩ = some (.int .i64 0) := Lib.cell_of_heap HZ4.out 2
      have z3 : w4''.cell? ⟨w.heap.size, 3, none⟩ = some (.int .u64 0) := Lib.cell_of_heap HZ4.out 3
      have z4 : w4''.cell? ⟨w.heap.size, 4, none⟩ = some (.int .u64 0) := Lib.cell_of_heap HZ4.out 4
      have z5 : w4''.cell? ⟨w.heap.size, 5, none⟩ = some (.int .u64 0) := Lib.cell_of_heap HZ4.out 5
      have z6 : w4''.cell? ⟨w.heap.size, 6, none⟩ = some (.int .u64 0) := Lib.cell_of_heap HZ4.out 6
      have z7 : w4''.cell? ⟨w.heap.size, 7, none⟩ = some (.int .u64 0) := Lib.cell_of_heap HZ4.out 7
      have z8 : w4''.cell? ⟨w.heap.size, 8, none⟩ = some (.bool false) := Lib.cell_of_heap HZ4.out 8
      have z9 : w4''.cell? ⟨w.heap.size, 9, none⟩ = some (.slice none 0 0) := Lib.cell_of_heap HZ4.out 9
      have z10 : w4''.cell? ⟨w.heap.size, 10, none⟩ = some (.string ⟨#[]⟩) := Lib.cell_of_heap HZ4.out 10
      have fz : ∀ o, w4''.frozen? ⟨w.heap.size, o, none⟩ = false := fun o => Lib.frozen_of_heap HZ4.out o
      go_wp2_with fail
      have hz := HZ4.out
      refine bodyPost_ret (results_cell_row_tmp rfl _ _ w.heap.size MsgT (Msg.none.cells (.slice none 0 0)) (0, 0) _ rfl ?_ Tryz.underlying26 rfl (by kernel_rfl)) rfl ?_
      · simp [World.setCell, Array.getElem?_modify, hz, Msg.cells, Msg.none]
      · refine ⟨Msg.none, .slice none 0 0, by rw [HGOT.out]; rfl, fun h => (by rw [HGOT.out] at h; cases h), entsAt_nil _, ?_⟩
        repeat' (first | with_reducible exact HB4.out | with_reducible exact Nat.le_refl _ | with_reducible refine Below.setCell ?_ ?_ _)
    | nil =>
      have HR4 := Lib.hid (HR.out w4 _ HE4.out)
      cases hg : msgRightB ⟨x0, x1, x2, x3, x4, x5, x6, x7, x8, x10, x9⟩
      · have HGOT := Lib.hid (HGOT0.out.trans (by rw [hg]; rfl) : got = false)
        rw [hg] at HR4
        clear HGOT0 HR hg
        go_wp2_with fail
        refine (ok_any _ ([], false) w4 H4.out).mono ?_
        rintro x w4' ⟨rfl, rfl⟩
        go_wp2_with fail
        refine (left_any _ ([], false) _ H4.out).mono ?_
        rintro x w4'' ⟨rfl, rfl⟩
        go_wp2_with fail
        refine HR4.out.mono ?_
        rintro x w5 ⟨rfl, hb5⟩
        have HZ5 := Lib.hid ((hb5.block w.heap.size (heap_lt HZ4.out)).trans HZ4.out)
        have HB5 := Lib.hid (HB4.out.trans (hb5.mono HB4.out.size))
        clear hb5 c0 c1 c2 c3 c4 c5 c6 c7 c8 c9 c10
        have z0 : w5.cell? ⟨w.heap.size, 0, none⟩ = some (.int .i64 0) := Lib.cell_of_heap HZ5.out 0
        have z1 : w5.cell? ⟨w.heap.size, 1, none⟩ = some (.int .i64 0) := Lib.cell_of_heap HZ5.out 1
        have z2 : w5.cell? ⟨w.heap.size, 2, none⟩ = some (.int .i64 0) := Lib.cell_of_heap HZ5.out 2
        have z3 : w5.cell? ⟨w.heap.size, 3, none⟩ = some (.int .u64 0) := Lib.cell_of_heap HZ5.out 3
        have z4 : w5.cell? ⟨w.heap.size, 4, none⟩ = some (.int .u64 0) := Lib.cell_of_heap HZ5.out 4
        have z5 : w5.cell? ⟨w.heap.size, 5, none⟩ = some (.int .u64 0) := Lib.cell_of_heap HZ5.out 5
        have z6 : w5.cell? ⟨w.heap.size, 6, none⟩ = some (.int .u64 0) := Lib.cell_of_heap HZ5.out 6
        have z7 : w5.cell? ⟨w.heap.size, 7, none⟩ = some (.int .u64 0) := Lib.cell_of_heap HZ5.out 7
        have z8 : w5.cell? ⟨w.heap.size, 8, none⟩ = some (.bool false) := Lib.cell_of_heap HZ5.out 8
        have z9 : w5.cell? ⟨w.heap.size, 9, none⟩ = some (.slice none 0 0) := Lib.cell_of_heap HZ5.out 9
        have z10 : w5.cell? ⟨w.heap.size, 10, none⟩ = some (.string ⟨#[]⟩) := Lib.cell_of_heap HZ5.out 10
        have fz : ∀ o, w5.frozen? ⟨w.heap.size, o, none⟩ = false := fun o => Lib.frozen_of_heap HZ5.out o
        go_wp2_with fail
        have hz := HZ5.out
        refine bodyPost_ret (results_cell_row_tmp rfl _ _ w.heap.size MsgT (Msg.none.cells (.slice none 0 0)) (0, 0) _ rfl ?_ Tryz.underlying26 rfl (by kernel_rfl)) rfl ?_
        · simp [World.setCell, Array.getElem?_modify, hz, Msg.cells, Msg.none]
        · refine ⟨Msg.none, .slice none 0 0, by rw [HGOT.out]; rfl, fun h => (by rw [HGOT.out] at h; cases h), entsAt_nil _, ?_⟩
          repeat' (first | with_reducible exact HB5.out | with_reducible exact Nat.le_refl _ | with_reducible refine Below.setCell ?_ ?_ _)
      · have HGOT := Lib.hid (HGOT0.out.trans (by rw [hg]; rfl) : got = true)
        rw [hg] at HR4
        clear HGOT0 HR hg
        go_wp2_with fail
        refine (ok_any _ ([], false) w4 H4.out).mono ?_
        rintro x w4' ⟨rfl, rfl⟩
        go_wp2_with fail
        refine (left_any _ ([], false) _ H4.out).mono ?_
        rintro x w4'' ⟨rfl, rfl⟩
        go_wp2_with fail
        refine HR4.out.mono ?_
        rintro x w5 ⟨rfl, hb5⟩
        have HZ5 := Lib.hid ((hb5.block w.heap.size (heap_lt HZ4.out)).trans HZ4.out)
        have HB5 := Lib.hid (HB4.out.trans (hb5.mono HB4.out.size))
        have HROW := Lib.hid (ownsRow_below HIN.out.row hb5)
        have hlt5 : w.heap.size < w3.heap.size := by omega
        have hbk := (hb5.block e (heap_lt HIN.out.block)).trans HIN.out.block
        have HBK := Lib.hid hbk
        clear hb5 hbk c0 c1 c2 c3 c4 c5 c6 c7 c8 c9 c10
        have c0 : w5.cell? ⟨e, 0, none⟩ = some (.int .i64 x0) := Lib.cell_of_heap HBK.out 0
        have c1 : w5.cell? ⟨e, 1, none⟩ = some (.int .i64 x1) := Lib.cell_of_heap HBK.out 1
        have c2 : w5.cell? ⟨e, 2, none⟩ = some (.int .i64 x2) := Lib.cell_of_heap HBK.out 2
        have c3 : w5.cell? ⟨e, 3, none⟩ = some (.int .u64 x3) := Lib.cell_of_heap HBK.out 3
        have c4 : w5.cell? ⟨e, 4, none⟩ = some (.int .u64 x4) := Lib.cell_of_heap HBK.out 4
        have c5 : w5.cell? ⟨e, 5, none⟩ = some (.int .u64 x5) := Lib.cell_of_heap HBK.out 5
        have c6 : w5.cell? ⟨e, 6, none⟩ = some (.int .u64 x6) := Lib.cell_of_heap HBK.out 6
        have c7 : w5.cell? ⟨e, 7, none⟩ = some (.int .u64 x7) := Lib.cell_of_heap HBK.out 7
        have c8 : w5.cell? ⟨e, 8, none⟩ = some (.bool x8) := Lib.cell_of_heap HBK.out 8
        have c9 : w5.cell? ⟨e, 9, none⟩ = some (.slice va x9.length vc) := Lib.cell_of_heap HBK.out 9
        have c10 : w5.cell? ⟨e, 10, none⟩ = some (.string x10) := Lib.cell_of_heap HBK.out 10
        have z0 : w5.cell? ⟨w.heap.size, 0, none⟩ = some (.int .i64 0) := Lib.cell_of_heap HZ5.out 0
        have z1 : w5.cell? ⟨w.heap.size, 1, none⟩ = some (.int .i64 0) := Lib.cell_of_heap HZ5.out 1
        have z2 : w5.cell? ⟨w.heap.size, 2, none⟩ = some (.int .i64 0) := Lib.cell_of_heap HZ5.out 2
        have z3 : w5.cell? ⟨w.heap.size, 3, none⟩ = some (.int .u64 0) := Lib.cell_of_heap HZ5.out 3
        have z4 : w5.cell? ⟨w.heap.size, 4, none⟩ = some (.int .u64 0) := Lib.cell_of_heap HZ5.out 4
        have z5 : w5.cell? ⟨w.heap.size, 5, none⟩ = some (.int .u64 0) := Lib.cell_of_heap HZ5.out 5
        have z6 : w5.cell? ⟨w.heap.size, 6, none⟩ = some (.int .u64 0) := Lib.cell_of_heap HZ5.out 6
        have z7 : w5.cell? ⟨w.heap.size, 7, none⟩ = some (.int .u64 0) := Lib.cell_of_heap HZ5.out 7
        have z8 : w5.cell? ⟨w.heap.size, 8, none⟩ = some (.bool false) := Lib.cell_of_heap HZ5.out 8
        have z9 : w5.cell? ⟨w.heap.size, 9, none⟩ = some (.slice none 0 0) := Lib.cell_of_heap HZ5.out 9
        have z10 : w5.cell? ⟨w.heap.size, 10, none⟩ = some (.string ⟨#[]⟩) := Lib.cell_of_heap HZ5.out 10
        have fz : ∀ o, w5.frozen? ⟨w.heap.size, o, none⟩ = false := fun o => Lib.frozen_of_heap HZ5.out o
        go_wp2_with fail
        have hz := HZ5.out
        refine bodyPost_ret (results_cell_row_tmp rfl _ _ w.heap.size MsgT (Msg.cells ⟨x0, x1, x2, x3, x4, x5, x6, x7, x8, x10, x9⟩ (.slice va x9.length vc)) (0, 0) _ rfl ?_ Tryz.underlying26 rfl (by kernel_rfl)) rfl ?_
        · simp [World.setCell, Array.getElem?_modify, hz, Msg.cells]
        · refine ⟨⟨x0, x1, x2, x3, x4, x5, x6, x7, x8, x10, x9⟩, .slice va x9.length vc, by rw [HGOT.out]; rfl, fun _ => rfl, ?_, ?_⟩
          · refine own_entsAt (base := w3.heap.size) (n := x9.length) ?_ rfl
            repeat' (first | with_reducible exact HROW.out | with_reducible exact hlt5 | with_reducible refine own_set ?_ ?_)
          · repeat' (first | with_reducible exact HB5.out | with_reducible exact Nat.le_refl _ | with_reducible refine Below.setCell ?_ ?_ _)

end Go.Proofs.YtbjbgdnjcppjhaaGreatDoor
