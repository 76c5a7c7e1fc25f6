/-
  frame's PutEntry, GetEntry, PutMsg, GetMsg, Shim over this translation, by an entry and by a message. Conditions: right and small; a version's level. By an AI agent.
-/
import Derived.Test.YtbjbgdnjcppjhaaGreatDoorJFrame
import Derived.Test.YtbjbgdnjcppjhaaGreatDoorJFirD
import Derived.Test.YtbjbgdnjcppjhaaGreatDoorJSec
import Derived.Test.YtbjbgdnjcppjhaaGreatDoorJLaw07
import Derived.Test.YtbjbgdnjcppjhaaGreatDoorMsgSame
import Derived.Test.YtbjbgdnjcppjhaaGreatDoorSameE
namespace Go.Proofs.YtbjbgdnjcppjhaaGreatDoor
open Go.RowKit
set_option linter.unusedVariables false
set_option linter.unusedSimpArgs false

theorem ent_fPut (args : Array Value) (W : World) : (callFunc 19 args).run Tryz.prog W = .ok (.enter 19 args) W := enters_of Tryz.func19 (by kernel_rfl) rfl args W
theorem ent_sPut (args : Array Value) (W : World) : (callFunc 7 args).run Tryz.prog W = .ok (.enter 7 args) W := enters_of Tryz.func7 (by kernel_rfl) rfl args W
theorem ent_fGet (args : Array Value) (W : World) : (callFunc 22 args).run Tryz.prog W = .ok (.enter 22 args) W := enters_of Tryz.func22 (by kernel_rfl) rfl args W
theorem ent_sGet (args : Array Value) (W : World) : (callFunc 10 args).run Tryz.prog W = .ok (.enter 10 args) W := enters_of Tryz.func10 (by kernel_rfl) rfl args W
theorem ent_fPutM (args : Array Value) (W : World) : (callFunc 24 args).run Tryz.prog W = .ok (.enter 24 args) W := enters_of Tryz.func24 (by kernel_rfl) rfl args W
theorem ent_fGetM (args : Array Value) (W : World) : (callFunc 26 args).run Tryz.prog W = .ok (.enter 26 args) W := enters_of Tryz.func26 (by kernel_rfl) rfl args W

theorem frPutE_one (e : Ent) (h : Small e) (hr : rightB e = true) (hl : levelI e.kind = 1) (w : World) :
    Calls Tryz.prog 30 #[.int .i64 1, e.val] w fun x w' => x = .returned (.tuple #[.string ⟨(packL 1 (putF e)).toArray⟩, .bool true]) ∧ Below w.heap.size w w' :=
  frPutE_any 1 (.inl rfl) 19 ent_fPut rfl e (putF e) (by rw [putF_length e (by have := h.data; omega)]; decide) true w fun W => firstPut_any e h hr hl W
theorem frPutE_bad (e : Ent) (h : Small e) (hr : rightB e = true) (hl : levelI e.kind = 2) (w : World) :
    Calls Tryz.prog 30 #[.int .i64 1, e.val] w fun x w' => x = .returned (.tuple #[.string ⟨#[]⟩, .bool false]) ∧ Below w.heap.size w w' :=
  frPutE_any 1 (.inl rfl) 19 ent_fPut rfl e [] (by decide) false w fun W => firstPut_two e h hr hl W
theorem frPutE_two (e : Ent) (h : Small e) (hr : rightB e = true) (w : World) :
    Calls Tryz.prog 30 #[.int .i64 2, e.val] w fun x w' => x = .returned (.tuple #[.string ⟨(packL 2 (secE e)).toArray⟩, .bool true]) ∧ Below w.heap.size w w' :=
  frPutE_any 2 (.inr rfl) 7 ent_sPut rfl e (secE e) (by have := secE_len e h; omega) true w fun W => secondPut_any e h hr W
theorem frGetE_one (e : Ent) (h : Small e) (hr : rightB e = true) (hl : levelI e.kind = 1) (w : World) :
    Calls Tryz.prog 31 #[.string ⟨(packL 1 (putF e)).toArray⟩] w fun x w' => x = .returned (.tuple #[e.val, .int .i64 1, .bool true]) ∧ Below w.heap.size w w' := by
  have hpl := putF_length e (by have := h.data; omega)
  refine frGetE_any 1 (.inl rfl) 22 ent_fGet rfl e (putF e) (by rw [hpl]; decide) w fun b W hW => ?_
  have hg := firstGet_any b (putF e, false) (by show (putF e).length ≤ _; rw [hpl]; decide) W hW
  have hb := getF_back e h hr hl (old_none e hr hl) []
  rw [List.append_nil] at hb
  rw [hb] at hg
  exact hg
theorem frGetE_two (e : Ent) (h : Small e) (hr : rightB e = true) (w : World) :
    Calls Tryz.prog 31 #[.string ⟨(packL 2 (secE e)).toArray⟩] w fun x w' => x = .returned (.tuple #[e.val, .int .i64 2, .bool true]) ∧ Below w.heap.size w w' := by
  have hpl := secE_len e h
  refine frGetE_any 2 (.inr rfl) 10 ent_sGet rfl e (secE e) (by omega) w fun b W hW => ?_
  have hg := secondGet_any b (secE e, false) (by show (secE e).length ≤ _; omega) W hW
  have hb := getEnt_back e h hr []
  rw [List.append_nil] at hb
  rw [hb] at hg
  exact hg

theorem putFM_le (M : Msg) (h : SmallM M) : (putFM M).length ≤ 200000 := by
  have hf := flatF_len M.entries (fun x hx => (h.each x hx).1)
  have hc := h.count
  have hs : M.snap.data.toList.length ≤ 200 := h.snap
  simp only [putFM, List.length_append, fixL_length]
  omega
theorem ents_slice {w : World} {sv : Value} {l : List Ent} (h : EntsAt w sv l) : ∃ a n c, sv = .slice a n c := by
  obtain ⟨a, c, h1, _⟩ := h
  exact ⟨a, _, c, h1⟩
theorem frPutM_one (m : Msg) (h : SmallM m) (hr : msgRightB m = true) (hl : msgLevelI m = 1) (sv : Value) (w : World) (hs : EntsAt w sv m.entries) :
    Calls Tryz.prog 32 #[.int .i64 1, .agg (m.cells sv)] w fun x w' => x = .returned (.tuple #[.string ⟨(packL 1 (putFM m)).toArray⟩, .bool true]) ∧ Below w.heap.size w w' :=
  frPutM_any 1 (.inl rfl) 24 ent_fPutM rfl m sv (putFM m) (by have := putFM_le m h; omega) true w (ents_slice hs) fun W hW => firstPutMsg_any m h hr hl sv W (hs.below hW)
theorem frPutM_two (m : Msg) (h : SmallM m) (hr : msgRightB m = true) (hl : msgLevelI m = 2) (sv : Value) (w : World) (hs : EntsAt w sv m.entries) :
    Calls Tryz.prog 32 #[.int .i64 1, .agg (m.cells sv)] w fun x w' => x = .returned (.tuple #[.string ⟨#[]⟩, .bool false]) ∧ Below w.heap.size w w' :=
  frPutM_any 1 (.inl rfl) 24 ent_fPutM rfl m sv [] (by decide) false w (ents_slice hs) fun W hW => firstPutMsg_two m h hr hl sv W (hs.below hW)
theorem frPutM_none (sv : Value) (w : World) (hs : EntsAt w sv Msg.none.entries) :
    Calls Tryz.prog 32 #[.int .i64 1, .agg (Msg.none.cells sv)] w fun x w' => x = .returned (.tuple #[.string ⟨#[]⟩, .bool false]) ∧ Below w.heap.size w w' :=
  frPutM_any 1 (.inl rfl) 24 ent_fPutM rfl Msg.none sv [] (by decide) false w (ents_slice hs) fun W hW => firstPutMsg_bad Msg.none (fun e he => by cases he) (by decide) (by decide) sv W (hs.below hW)
theorem frGetM_one (m : Msg) (h : SmallM m) (hr : msgRightB m = true) (hl : msgLevelI m = 1) (w : World) :
    Calls Tryz.prog 33 #[.string ⟨(packL 1 (putFM m)).toArray⟩] w fun x w' => ∃ sv, x = .returned (.tuple #[.agg (m.cells sv), .int .i64 1, .bool true]) ∧ EntsAt w' sv m.entries ∧ Below w.heap.size w w' := by
  have hlen := putFM_le m h
  refine frGetM_any 1 (.inl rfl) 26 ent_fGetM rfl m (putFM m) (by omega) w fun W => ?_
  have hback := gotF_back m h (level_own m h hl) hr hl
  refine (firstGetMsg_any (putFM m) (by omega) W).mono fun x w' ⟨m', sv, h1, h2, _, h3, h4⟩ => ?_
  have e : m' = m := (h2 hback.1).trans hback.2
  subst e
  rw [hback.1] at h1
  exact ⟨sv, h1, h3, h4⟩

theorem shim_one (m : Msg) (hl : msgLevelI m = 1) : shimB m = true ∧ shimM m = m := by
  have h : ¬ (m.kind = 9 ∨ m.kind = 10 ∨ m.entries.any (fun e => decide (e.kind = 11)) = true) := fun h => by
    unfold msgLevelI at hl
    rw [if_pos h] at hl
    cases hl
  simp only [not_or] at h
  unfold shimB shimM
  rw [if_neg h.1, if_neg h.2.1, if_neg h.1, if_neg h.2.1, hl]
  exact ⟨by decide, if_neg (by decide)⟩
theorem shim_two (m : Msg) (h : SmallM m) (hl : msgLevelI m = 2) : (shimB m = true ∧ SmallM (shimM m) ∧ msgRightB (shimM m) = true ∧ msgLevelI (shimM m) = 1 ∧ (shimM m).frm = m.frm ∧ (shimM m).to = m.to ∧ (shimM m).term = m.term) ∨ (shimB m = false ∧ shimM m = Msg.none) := by
  obtain ⟨⟨a0, a1⟩, ⟨b0, b1⟩, ⟨c0, c1⟩, d, e, f, g, i, hs, hc, he⟩ := h
  have z64 : U64 0 := ⟨by decide, by decide⟩
  have hbare : ∀ (k : Int) (ok : Bool), (k = 5 ∧ ok = false ∨ k = 6 ∧ ok = true) → SmallM ⟨k, m.frm, m.to, m.term, 0, 0, 0, m.mark, ok, ⟨#[]⟩, []⟩ ∧ msgRightB ⟨k, m.frm, m.to, m.term, 0, 0, 0, m.mark, ok, ⟨#[]⟩, []⟩ = true ∧ msgLevelI ⟨k, m.frm, m.to, m.term, 0, 0, 0, m.mark, ok, ⟨#[]⟩, []⟩ = 1 := by
    intro k ok hk
    have hn1 : nodeB m.frm = true := by unfold nodeB; simp; omega
    have hn2 : nodeB m.to = true := by unfold nodeB; simp; omega
    refine ⟨⟨?_, ⟨b0, b1⟩, ⟨c0, c1⟩, d, z64, z64, z64, i, Nat.zero_le _, Nat.zero_le _, fun e he => by cases he⟩, ?_, ?_⟩
    · show 1 ≤ k ∧ k ≤ 10
      omega
    · rcases hk with ⟨rfl, rfl⟩ | ⟨rfl, rfl⟩
      · unfold msgRightB
        rw [hn1, hn2]
        simp [msgOk, msgL, fitB, fldOk, Msg.flds]
        rfl
      · unfold msgRightB
        rw [hn1, hn2]
        simp [msgOk, msgL, fitB, fldOk, Msg.flds]
        rfl
    · rcases hk with ⟨rfl, rfl⟩ | ⟨rfl, rfl⟩ <;> rfl
  unfold shimB shimM
  by_cases h9 : m.kind = 9
  · rw [if_pos h9, if_pos h9]
    obtain ⟨q1, q2, q3⟩ := hbare 5 false (.inl ⟨rfl, rfl⟩)
    exact .inl ⟨rfl, q1, q2, q3, rfl, rfl, rfl⟩
  · by_cases h10 : m.kind = 10
    · rw [if_neg h9, if_neg h9, if_pos h10, if_pos h10]
      obtain ⟨q1, q2, q3⟩ := hbare 6 true (.inr ⟨rfl, rfl⟩)
      exact .inl ⟨rfl, q1, q2, q3, rfl, rfl, rfl⟩
    · rw [if_neg h9, if_neg h9, if_neg h10, if_neg h10, hl]
      exact .inr ⟨by decide, if_pos rfl⟩

end Go.Proofs.YtbjbgdnjcppjhaaGreatDoor

/-
  law07's examples: they are so. No condition. By an AI agent.
-/
namespace Go.Proofs.YtbjbgdnjcppjhaaGreatDoor
open Go.RowKit Go.Sort
set_option linter.unusedVariables false
set_option linter.unusedSimpArgs false

def exM : Msg := ⟨9, 1, 2, 3, 0, 0, 0, 4, false, ⟨#[]⟩, []⟩
theorem exM_right : msgRightB exM = true := by decide
theorem exM_shim : shimM exM = ⟨5, 1, 2, 3, 0, 0, 0, 4, false, ⟨#[]⟩, []⟩ ∧ shimB exM = true := ⟨rfl, rfl⟩
theorem varL_two : varL 2 = [2] := by
  rw [varL, dif_pos (by decide)]
  rfl

set_option maxRecDepth 100000 in
set_option maxHeartbeats 4000000 in
theorem examples07_any (w : World) : Calls Tryz.prog 27 #[] w fun x w' => x = .returned (.bool true) ∧ Below w.heap.size w w' := by
  have hp1 := fun W => pack_any 1 (.inl rfl) [104, 105] (by decide) W
  have hp2 := fun W => pack_any 2 (.inr rfl) [104, 105] (by decide) W
  have hu := fun W => unpack_back 2 (.inr rfl) [104, 105] (by decide) W
  have hsh := fun W => shim_any exM (fun e he => by cases he) (by decide) exM_right (.slice none 0 0) W (entsAt_nil W)
  rw [exM_shim.1, exM_shim.2] at hsh
  simp only [Msg.cells, exM] at hsh
  have hz1 : (⟨(packL 1 [104, 105]).toArray⟩ : ByteArray).size = 11 := by
    show (packL 1 [104, 105]).length = 11
    simp [packL, headL, lenL, fixL_length]
  have hz2 : (⟨(packL 2 [104, 105]).toArray⟩ : ByteArray).size = 8 := by
    show (packL 2 [104, 105]).length = 8
    simp [packL, headL, lenL, fixL_length, varL_two]
  have h0 : (⟨(packL 1 [104, 105]).toArray⟩ : ByteArray).data[0]? = some 161 := by
    simp [packL, headL, fixL]
  generalize (⟨(packL 1 [104, 105]).toArray⟩ : ByteArray) = z1 at *
  generalize (⟨(packL 2 [104, 105]).toArray⟩ : ByteArray) = z2 at *
  have g0 : ((z1[0]'(by omega)).toNat : Int) = 161 := by
    obtain ⟨q, hq⟩ := Array.getElem?_eq_some_iff.1 h0
    have e : z1[0]'(by omega) = 161 := hq
    rw [e]
    rfl
  clear h0
  have HP1 := Lib.hid hp1
  have HP2 := Lib.hid hp2
  have HU := Lib.hid hu
  have HSH := Lib.hid hsh
  clear hp1 hp2 hu hsh
  go_enter Tryz.func27, Tryz.ntmps27
  go_wp2_with fail
  refine (HP1.out _).mono ?_
  rintro x w1 ⟨rfl, hb1⟩
  have HB1 := Lib.hid hb1
  clear hb1
  go_wp2_with fail
  refine (HP2.out _).mono ?_
  rintro x w2 ⟨rfl, hb2⟩
  have HB2 := Lib.hid (HB1.out.trans (hb2.mono HB1.out.size))
  clear hb2 HB1
  go_wp2_with fail
  refine (HU.out _).mono ?_
  rintro x w3 ⟨rfl, hb3⟩
  have HB3 := Lib.hid (HB2.out.trans (hb3.mono HB2.out.size))
  clear hb3 HB2
  go_wp2_with fail
  refine (unpack_nil _).mono ?_
  rintro x w4 ⟨rfl, hb4⟩
  have HB4 := Lib.hid (HB3.out.trans (hb4.mono HB3.out.size))
  clear hb4 HB3
  go_wp2_with fail
  refine (HSH.out _).mono ?_
  rintro x w5 ⟨sv, rfl, he, hb5⟩
  obtain ⟨va, vc, rfl, -⟩ := he
  have HB5 := Lib.hid (HB4.out.trans (hb5.mono HB4.out.size))
  clear hb5 HB4
  go_wp2_with fail
  go_ret
  exact ⟨rfl, HB5.out.trans (((Below.refl _ _).alloc (Nat.le_refl _) _).mono HB5.out.size)⟩

end Go.Proofs.YtbjbgdnjcppjhaaGreatDoor

/-
  law07.FrameLevels walks to true. Conditions: the arguments are of their kinds. (Printed by wip/genback7.py.) By an AI agent.
-/
namespace Go.Proofs.YtbjbgdnjcppjhaaGreatDoor.of07
open Go.RowKit Go.Sort
set_option linter.unusedVariables false
set_option linter.unusedSimpArgs false

theorem bstep {n : Nat} {W w w' : World} (h : Below n W w) (hn : n ≤ W.heap.size) (h2 : Below w.heap.size w w') : Below n W w' := h.trans (h2.mono (Nat.le_trans hn h.size))
theorem small_fine {m : Msg} (h : SmallM m) : m.fine :=
  ⟨⟨by have := h.kind; exact ⟨by omega, by omega⟩, by have := h.frm; exact ⟨by omega, by omega⟩, by have := h.to; exact ⟨by omega, by omega⟩, h.term, h.index, h.prev, h.commit, h.mark, by have := h.snap; omega, fun e he => (h.each e he).1.wf⟩,
    by have := h.snap; omega, by have := h.count; omega, fun e he => ⟨by have := (h.each e he).1.data; omega, by have := (h.each e he).1.old; omega⟩⟩
theorem same_own (M : Msg) (hsm : SmallM M) (s1 s2 : Value) (W : World) (hW : Tabs W) (h1 : EntsAt W s1 M.entries) (h2 : EntsAt W s2 M.entries) :
    Calls Tryz.prog 15 #[.agg (M.cells s1), .agg (M.cells s2)] W fun x w' => x = .returned (.bool true) ∧ Below W.heap.size W w' := by
  have h := msgSame_any M M s1 s2 (small_fine hsm) (small_fine hsm) W hW h1 h2
  rw [msgSame_self] at h
  exact h

set_option maxRecDepth 100000 in
set_option maxHeartbeats 16000000 in
theorem frameLevels_any (a : Ent) (aown : Bool) (m : Msg) (sa : Option Addr) (sn sc : Nat) (own : Bool) (sL : Value) (L : List (Ent × Bool)) (ha : a.wf)
    (hm : I64 m.kind ∧ I64 m.frm ∧ I64 m.to ∧ U64 m.term ∧ U64 m.index ∧ U64 m.prev ∧ U64 m.commit ∧ U64 m.mark) (hL : ∀ p ∈ L, p.1.wf) (w : World) (ht : Tabs w) (hsL : MadesAt w sL L) :
    Calls Tryz.prog 5 #[.agg (a.cells ++ #[.bool aown]), .agg (m.cells (.slice sa sn sc) ++ #[.bool own, sL])] w fun x w' => x = .returned (.bool true) ∧ Below w.heap.size w w' := by
  obtain ⟨na, nc, rfl, -, -, -⟩ := id hsL
  have hval : (.agg (a.cells ++ #[.bool aown]) : Value) = .agg #[.int .u64 a.term, .int .u64 a.index, .int .i64 a.kind, .int .u64 a.client, .int .u64 a.seq, .int .u64 a.block, .int .u64 a.many, .int .i64 a.node, .int .i64 a.level, .string a.data, .string a.old, .bool aown] := rfl
  have hval2 : (.agg (m.cells (.slice sa sn sc) ++ #[.bool own, .slice na L.length nc]) : Value) = .agg #[.int .i64 m.kind, .int .i64 m.frm, .int .i64 m.to, .int .u64 m.term, .int .u64 m.index, .int .u64 m.prev, .int .u64 m.commit, .int .u64 m.mark, .bool m.ok, .slice sa sn sc, .string m.snap, .bool own, .slice na L.length nc] := rfl
  rw [hval, hval2]
  have hmade : ∀ W : World, Calls Tryz.prog 28 #[.agg #[.int .u64 a.term, .int .u64 a.index, .int .i64 a.kind, .int .u64 a.client, .int .u64 a.seq, .int .u64 a.block, .int .u64 a.many, .int .i64 a.node, .int .i64 a.level, .string a.data, .string a.old, .bool true]] W fun x w' => x = .returned (ownEnt a).val ∧ Below W.heap.size W w' := fun W => made07_own a ha W
  have hnote : ∀ (W : World), MadesAt W (.slice na L.length nc) L → Calls Tryz.prog 29 #[.agg #[.int .i64 m.kind, .int .i64 m.frm, .int .i64 m.to, .int .u64 m.term, .int .u64 m.index, .int .u64 m.prev, .int .u64 m.commit, .int .u64 m.mark, .bool m.ok, .slice sa sn sc, .string m.snap, .bool true, .slice na L.length nc]] W fun x w' => ∃ s', x = .returned (.agg ((ownMsg m (L.map (·.1))).cells s')) ∧ EntsAt w' s' (ownMsg m (L.map (·.1))).entries ∧ Below W.heap.size W w' := fun W hW => note07_own m sa sn sc (.slice na L.length nc) L hm hL W hW
  obtain ⟨hsm, hrt, -⟩ := own_small a
  obtain ⟨hsM, hrM, -⟩ := ownMsg_small m (L.map (·.1)) hm.2.2.2.1 hm.2.2.2.2.1 hm.2.2.2.2.2.1 hm.2.2.2.2.2.2.1 hm.2.2.2.2.2.2.2
  generalize ownEnt a = y at *
  generalize ownMsg m (L.map (·.1)) = M at *
  have hput2 := fun W => frPutE_two y hsm hrt W
  have hget2 := fun W => frGetE_two y hsm hrt W
  have hlev := fun W => level_any y W
  have hself : sameB y y = true := (sameB_iff _ _).2 rfl
  have heq := fun W => ent_eq_run y y W
  rw [hself] at heq
  have hE : (levelI y.kind = 1 ∧ (∀ W : World, Calls Tryz.prog 30 #[.int .i64 1, y.val] W fun x w' => x = .returned (.tuple #[.string ⟨(packL 1 (putF y)).toArray⟩, .bool true]) ∧ Below W.heap.size W w') ∧ (∀ W : World, Calls Tryz.prog 31 #[.string ⟨(packL 1 (putF y)).toArray⟩] W fun x w' => x = .returned (.tuple #[y.val, .int .i64 1, .bool true]) ∧ Below W.heap.size W w')) ∨
      (levelI y.kind = 2 ∧ (∀ W : World, Calls Tryz.prog 30 #[.int .i64 1, y.val] W fun x w' => x = .returned (.tuple #[.string ⟨#[]⟩, .bool false]) ∧ Below W.heap.size W w')) := by
    rcases levelE_two y.kind with h | h
    · exact .inl ⟨h, fun W => frPutE_one y hsm hrt h W, fun W => frGetE_one y hsm hrt h W⟩
    · exact .inr ⟨h, fun W => frPutE_bad y hsm hrt h W⟩
  have hmlev := fun sv W hW => msgLevel_any M sv (by have := hsM.count; omega) W hW
  have hshim := fun sv W hW => shim_any M (fun e he => (hsM.each e he).1.wf) (by have := hsM.count; omega) hrM sv W hW
  generalize levelI y.kind = lv at *
  generalize packL 1 (putF y) = s1 at *
  generalize packL 2 (secE y) = s2 at *
  simp only [Ent.val, Ent.cells] at hmade hput2 hget2 hlev heq hE
  simp only [Msg.cells] at hnote hmlev
  have HMADE := Lib.hid hmade
  have HNOTE := Lib.hid hnote
  have HPUT2 := Lib.hid hput2
  have HGET2 := Lib.hid hget2
  have HLEV := Lib.hid hlev
  have HEQ := Lib.hid heq
  have HE := Lib.hid hE
  have HMLEV := Lib.hid hmlev
  have HSHIM := Lib.hid hshim
  have HNL := Lib.hid hsL
  have HT := Lib.hid ht
  have HSM := Lib.hid hsM
  have HRM := Lib.hid hrM
  clear hval hval2 hmade hnote hput2 hget2 hlev heq hE hmlev hshim hsL ht hsm hrt hsM hrM hself ha hm hL
  have h00 := heap_alloc_new w (.cells #[.int .u64 a.term, .int .u64 a.index, .int .i64 a.kind, .int .u64 a.client, .int .u64 a.seq, .int .u64 a.block, .int .u64 a.many, .int .i64 a.node, .int .i64 a.level, .string a.data, .string a.old, .bool aown] 56)
  have h01 := heap_alloc_new (w.alloc (.cells #[.int .u64 a.term, .int .u64 a.index, .int .i64 a.kind, .int .u64 a.client, .int .u64 a.seq, .int .u64 a.block, .int .u64 a.many, .int .i64 a.node, .int .i64 a.level, .string a.data, .string a.old, .bool aown] 56)) (.cells #[.int .i64 m.kind, .int .i64 m.frm, .int .i64 m.to, .int .u64 m.term, .int .u64 m.index, .int .u64 m.prev, .int .u64 m.commit, .int .u64 m.mark, .bool m.ok, .slice sa sn sc, .string m.snap, .bool own, .slice na L.length nc] 59)
  have hb00 := ((Below.refl w.heap.size w).alloc (Nat.le_refl _) (.cells #[.int .u64 a.term, .int .u64 a.index, .int .i64 a.kind, .int .u64 a.client, .int .u64 a.seq, .int .u64 a.block, .int .u64 a.many, .int .i64 a.node, .int .i64 a.level, .string a.data, .string a.old, .bool aown] 56)).alloc (by simp) (.cells #[.int .i64 m.kind, .int .i64 m.frm, .int .i64 m.to, .int .u64 m.term, .int .u64 m.index, .int .u64 m.prev, .int .u64 m.commit, .int .u64 m.mark, .bool m.ok, .slice sa sn sc, .string m.snap, .bool own, .slice na L.length nc] 59)
  rw [World.size_alloc] at h01
  have H00 := Lib.hid ((Below.heap_alloc (w.alloc (.cells #[.int .u64 a.term, .int .u64 a.index, .int .i64 a.kind, .int .u64 a.client, .int .u64 a.seq, .int .u64 a.block, .int .u64 a.many, .int .i64 a.node, .int .i64 a.level, .string a.data, .string a.old, .bool aown] 56)) (.cells #[.int .i64 m.kind, .int .i64 m.frm, .int .i64 m.to, .int .u64 m.term, .int .u64 m.index, .int .u64 m.prev, .int .u64 m.commit, .int .u64 m.mark, .bool m.ok, .slice sa sn sc, .string m.snap, .bool own, .slice na L.length nc] 59) w.heap.size (by simp)).trans h00)
  have H01 := Lib.hid h01
  have HB0 := Lib.hid hb00
  clear h00 h01 hb00
  go_enter Tryz.func5, Tryz.ntmps5
  go_wp2_with fail
  refine (examples07_any _).mono ?_
  rintro x w1 ⟨rfl, hb⟩
  have TA := Lib.hid ((hb.block w.heap.size (heap_lt H00.out)).trans H00.out)
  have TC := Lib.hid ((hb.block (w.heap.size + 1) (heap_lt H01.out)).trans H01.out)
  have HB1 := Lib.hid (bstep HB0.out (Nat.le_refl _) hb)
  clear hb H00 H01 HB0
  have a0 : w1.cell? ⟨w.heap.size, 0, none⟩ = some (.int .u64 a.term) := Lib.cell_of_heap TA.out 0
  have a1 : w1.cell? ⟨w.heap.size, 1, none⟩ = some (.int .u64 a.index) := Lib.cell_of_heap TA.out 1
  have a2 : w1.cell? ⟨w.heap.size, 2, none⟩ = some (.int .i64 a.kind) := Lib.cell_of_heap TA.out 2
  have a3 : w1.cell? ⟨w.heap.size, 3, none⟩ = some (.int .u64 a.client) := Lib.cell_of_heap TA.out 3
  have a4 : w1.cell? ⟨w.heap.size, 4, none⟩ = some (.int .u64 a.seq) := Lib.cell_of_heap TA.out 4
  have a5 : w1.cell? ⟨w.heap.size, 5, none⟩ = some (.int .u64 a.block) := Lib.cell_of_heap TA.out 5
  have a6 : w1.cell? ⟨w.heap.size, 6, none⟩ = some (.int .u64 a.many) := Lib.cell_of_heap TA.out 6
  have a7 : w1.cell? ⟨w.heap.size, 7, none⟩ = some (.int .i64 a.node) := Lib.cell_of_heap TA.out 7
  have a8 : w1.cell? ⟨w.heap.size, 8, none⟩ = some (.int .i64 a.level) := Lib.cell_of_heap TA.out 8
  have a9 : w1.cell? ⟨w.heap.size, 9, none⟩ = some (.string a.data) := Lib.cell_of_heap TA.out 9
  have a10 : w1.cell? ⟨w.heap.size, 10, none⟩ = some (.string a.old) := Lib.cell_of_heap TA.out 10
  have a11 : w1.cell? ⟨w.heap.size, 11, none⟩ = some (.bool aown) := Lib.cell_of_heap TA.out 11
  have n0 : w1.cell? ⟨w.heap.size + 1, 0, none⟩ = some (.int .i64 m.kind) := Lib.cell_of_heap TC.out 0
  have n1 : w1.cell? ⟨w.heap.size + 1, 1, none⟩ = some (.int .i64 m.frm) := Lib.cell_of_heap TC.out 1
  have n2 : w1.cell? ⟨w.heap.size + 1, 2, none⟩ = some (.int .i64 m.to) := Lib.cell_of_heap TC.out 2
  have n3 : w1.cell? ⟨w.heap.size + 1, 3, none⟩ = some (.int .u64 m.term) := Lib.cell_of_heap TC.out 3
  have n4 : w1.cell? ⟨w.heap.size + 1, 4, none⟩ = some (.int .u64 m.index) := Lib.cell_of_heap TC.out 4
  have n5 : w1.cell? ⟨w.heap.size + 1, 5, none⟩ = some (.int .u64 m.prev) := Lib.cell_of_heap TC.out 5
  have n6 : w1.cell? ⟨w.heap.size + 1, 6, none⟩ = some (.int .u64 m.commit) := Lib.cell_of_heap TC.out 6
  have n7 : w1.cell? ⟨w.heap.size + 1, 7, none⟩ = some (.int .u64 m.mark) := Lib.cell_of_heap TC.out 7
  have n8 : w1.cell? ⟨w.heap.size + 1, 8, none⟩ = some (.bool m.ok) := Lib.cell_of_heap TC.out 8
  have n9 : w1.cell? ⟨w.heap.size + 1, 9, none⟩ = some (.slice sa sn sc) := Lib.cell_of_heap TC.out 9
  have n10 : w1.cell? ⟨w.heap.size + 1, 10, none⟩ = some (.string m.snap) := Lib.cell_of_heap TC.out 10
  have n11 : w1.cell? ⟨w.heap.size + 1, 11, none⟩ = some (.bool own) := Lib.cell_of_heap TC.out 11
  have n12 : w1.cell? ⟨w.heap.size + 1, 12, none⟩ = some (.slice na L.length nc) := Lib.cell_of_heap TC.out 12
  have hfa : ∀ o, w1.frozen? ⟨w.heap.size, o, none⟩ = false := fun o => Lib.frozen_of_heap TA.out o
  have hfc : ∀ o, w1.frozen? ⟨w.heap.size + 1, o, none⟩ = false := fun o => Lib.frozen_of_heap TC.out o
  have hCset : ((w1.setCell ⟨w.heap.size, 11, none⟩ (.bool true)).setCell ⟨w.heap.size + 1, 11, none⟩ (.bool true)).heap[w.heap.size + 1]? = some (.cells #[.int .i64 m.kind, .int .i64 m.frm, .int .i64 m.to, .int .u64 m.term, .int .u64 m.index, .int .u64 m.prev, .int .u64 m.commit, .int .u64 m.mark, .bool m.ok, .slice sa sn sc, .string m.snap, .bool true, .slice na L.length nc] 59 (0, 0)) := by
    have := TC.out
    simp [World.setCell, Array.getElem?_modify, this]
  have hBset : Below w.heap.size w ((w1.setCell ⟨w.heap.size, 11, none⟩ (.bool true)).setCell ⟨w.heap.size + 1, 11, none⟩ (.bool true)) := (HB1.out.setCell (Nat.le_refl _) _).setCell (Nat.le_succ _) _
  have TCws := Lib.hid hCset
  have HBws := Lib.hid hBset
  clear hCset hBset
  go_wp2_with fail
  clear a0 a1 a2 a3 a4 a5 a6 a7 a8 a9 a10 a11 n0 n1 n2 n3 n4 n5 n6 n7 n8 n9 n10 n11 n12 hfa hfc TA TC HB1
  generalize ((w1.setCell ⟨w.heap.size, 11, none⟩ (.bool true)).setCell ⟨w.heap.size + 1, 11, none⟩ (.bool true)) = ws at *

  refine (HMADE.out _).mono ?_
  rintro x w2 ⟨rfl, hb⟩
  have TCw2 := Lib.hid ((hb.block (w.heap.size + 1) (heap_lt TCws.out)).trans TCws.out)
  have HBw2 := Lib.hid (bstep HBws.out (Nat.le_refl _) hb)
  clear hb TCws HBws HMADE
  have ha := (Below.refl w2.heap.size w2).alloc (Nat.le_refl _) (.cells #[.int .u64 y.term, .int .u64 y.index, .int .i64 y.kind, .int .u64 y.client, .int .u64 y.seq, .int .u64 y.block, .int .u64 y.many, .int .i64 y.node, .int .i64 y.level, .string y.data, .string y.old] EntT)
  have n0 : (w2.alloc (.cells #[.int .u64 y.term, .int .u64 y.index, .int .i64 y.kind, .int .u64 y.client, .int .u64 y.seq, .int .u64 y.block, .int .u64 y.many, .int .i64 y.node, .int .i64 y.level, .string y.data, .string y.old] EntT)).cell? ⟨w.heap.size + 1, 0, none⟩ = some (.int .i64 m.kind) := Lib.cell_of_heap ((ha.block (w.heap.size + 1) (heap_lt TCw2.out)).trans TCw2.out) 0
  have n1 : (w2.alloc (.cells #[.int .u64 y.term, .int .u64 y.index, .int .i64 y.kind, .int .u64 y.client, .int .u64 y.seq, .int .u64 y.block, .int .u64 y.many, .int .i64 y.node, .int .i64 y.level, .string y.data, .string y.old] EntT)).cell? ⟨w.heap.size + 1, 1, none⟩ = some (.int .i64 m.frm) := Lib.cell_of_heap ((ha.block (w.heap.size + 1) (heap_lt TCw2.out)).trans TCw2.out) 1
  have n2 : (w2.alloc (.cells #[.int .u64 y.term, .int .u64 y.index, .int .i64 y.kind, .int .u64 y.client, .int .u64 y.seq, .int .u64 y.block, .int .u64 y.many, .int .i64 y.node, .int .i64 y.level, .string y.data, .string y.old] EntT)).cell? ⟨w.heap.size + 1, 2, none⟩ = some (.int .i64 m.to) := Lib.cell_of_heap ((ha.block (w.heap.size + 1) (heap_lt TCw2.out)).trans TCw2.out) 2
  have n3 : (w2.alloc (.cells #[.int .u64 y.term, .int .u64 y.index, .int .i64 y.kind, .int .u64 y.client, .int .u64 y.seq, .int .u64 y.block, .int .u64 y.many, .int .i64 y.node, .int .i64 y.level, .string y.data, .string y.old] EntT)).cell? ⟨w.heap.size + 1, 3, none⟩ = some (.int .u64 m.term) := Lib.cell_of_heap ((ha.block (w.heap.size + 1) (heap_lt TCw2.out)).trans TCw2.out) 3
  have n4 : (w2.alloc (.cells #[.int .u64 y.term, .int .u64 y.index, .int .i64 y.kind, .int .u64 y.client, .int .u64 y.seq, .int .u64 y.block, .int .u64 y.many, .int .i64 y.node, .int .i64 y.level, .string y.data, .string y.old] EntT)).cell? ⟨w.heap.size + 1, 4, none⟩ = some (.int .u64 m.index) := Lib.cell_of_heap ((ha.block (w.heap.size + 1) (heap_lt TCw2.out)).trans TCw2.out) 4
  have n5 : (w2.alloc (.cells #[.int .u64 y.term, .int .u64 y.index, .int .i64 y.kind, .int .u64 y.client, .int .u64 y.seq, .int .u64 y.block, .int .u64 y.many, .int .i64 y.node, .int .i64 y.level, .string y.data, .string y.old] EntT)).cell? ⟨w.heap.size + 1, 5, none⟩ = some (.int .u64 m.prev) := Lib.cell_of_heap ((ha.block (w.heap.size + 1) (heap_lt TCw2.out)).trans TCw2.out) 5
  have n6 : (w2.alloc (.cells #[.int .u64 y.term, .int .u64 y.index, .int .i64 y.kind, .int .u64 y.client, .int .u64 y.seq, .int .u64 y.block, .int .u64 y.many, .int .i64 y.node, .int .i64 y.level, .string y.data, .string y.old] EntT)).cell? ⟨w.heap.size + 1, 6, none⟩ = some (.int .u64 m.commit) := Lib.cell_of_heap ((ha.block (w.heap.size + 1) (heap_lt TCw2.out)).trans TCw2.out) 6
  have n7 : (w2.alloc (.cells #[.int .u64 y.term, .int .u64 y.index, .int .i64 y.kind, .int .u64 y.client, .int .u64 y.seq, .int .u64 y.block, .int .u64 y.many, .int .i64 y.node, .int .i64 y.level, .string y.data, .string y.old] EntT)).cell? ⟨w.heap.size + 1, 7, none⟩ = some (.int .u64 m.mark) := Lib.cell_of_heap ((ha.block (w.heap.size + 1) (heap_lt TCw2.out)).trans TCw2.out) 7
  have n8 : (w2.alloc (.cells #[.int .u64 y.term, .int .u64 y.index, .int .i64 y.kind, .int .u64 y.client, .int .u64 y.seq, .int .u64 y.block, .int .u64 y.many, .int .i64 y.node, .int .i64 y.level, .string y.data, .string y.old] EntT)).cell? ⟨w.heap.size + 1, 8, none⟩ = some (.bool m.ok) := Lib.cell_of_heap ((ha.block (w.heap.size + 1) (heap_lt TCw2.out)).trans TCw2.out) 8
  have n9 : (w2.alloc (.cells #[.int .u64 y.term, .int .u64 y.index, .int .i64 y.kind, .int .u64 y.client, .int .u64 y.seq, .int .u64 y.block, .int .u64 y.many, .int .i64 y.node, .int .i64 y.level, .string y.data, .string y.old] EntT)).cell? ⟨w.heap.size + 1, 9, none⟩ = some (.slice sa sn sc) := Lib.cell_of_heap ((ha.block (w.heap.size + 1) (heap_lt TCw2.out)).trans TCw2.out) 9
  have n10 : (w2.alloc (.cells #[.int .u64 y.term, .int .u64 y.index, .int .i64 y.kind, .int .u64 y.client, .int .u64 y.seq, .int .u64 y.block, .int .u64 y.many, .int .i64 y.node, .int .i64 y.level, .string y.data, .string y.old] EntT)).cell? ⟨w.heap.size + 1, 10, none⟩ = some (.string m.snap) := Lib.cell_of_heap ((ha.block (w.heap.size + 1) (heap_lt TCw2.out)).trans TCw2.out) 10
  have n11 : (w2.alloc (.cells #[.int .u64 y.term, .int .u64 y.index, .int .i64 y.kind, .int .u64 y.client, .int .u64 y.seq, .int .u64 y.block, .int .u64 y.many, .int .i64 y.node, .int .i64 y.level, .string y.data, .string y.old] EntT)).cell? ⟨w.heap.size + 1, 11, none⟩ = some (.bool true) := Lib.cell_of_heap ((ha.block (w.heap.size + 1) (heap_lt TCw2.out)).trans TCw2.out) 11
  have n12 : (w2.alloc (.cells #[.int .u64 y.term, .int .u64 y.index, .int .i64 y.kind, .int .u64 y.client, .int .u64 y.seq, .int .u64 y.block, .int .u64 y.many, .int .i64 y.node, .int .i64 y.level, .string y.data, .string y.old] EntT)).cell? ⟨w.heap.size + 1, 12, none⟩ = some (.slice na L.length nc) := Lib.cell_of_heap ((ha.block (w.heap.size + 1) (heap_lt TCw2.out)).trans TCw2.out) 12
  go_wp2_with fail
  refine (HNOTE.out _ (HNL.out.below (bstep HBw2.out (Nat.le_refl _) ha))).mono ?_
  rintro x w3 ⟨sv, rfl, he, hb⟩
  obtain ⟨va, vc, rfl, -⟩ := id he
  have HSw3 := Lib.hid he
  have TEw3 := Lib.hid ((hb.block (w2.heap.size) (heap_lt (heap_alloc_new w2 (.cells #[.int .u64 y.term, .int .u64 y.index, .int .i64 y.kind, .int .u64 y.client, .int .u64 y.seq, .int .u64 y.block, .int .u64 y.many, .int .i64 y.node, .int .i64 y.level, .string y.data, .string y.old] EntT)))).trans (heap_alloc_new w2 (.cells #[.int .u64 y.term, .int .u64 y.index, .int .i64 y.kind, .int .u64 y.client, .int .u64 y.seq, .int .u64 y.block, .int .u64 y.many, .int .i64 y.node, .int .i64 y.level, .string y.data, .string y.old] EntT)))
  have HBw3 := Lib.hid (bstep (bstep HBw2.out (Nat.le_refl _) ha) (Nat.le_refl _) hb)
  clear he hb ha TCw2 HBw2 HNOTE HNL n0 n1 n2 n3 n4 n5 n6 n7 n8 n9 n10 n11 n12
  have ha := (Below.refl w3.heap.size w3).alloc (Nat.le_refl _) (.cells #[.int .i64 M.kind, .int .i64 M.frm, .int .i64 M.to, .int .u64 M.term, .int .u64 M.index, .int .u64 M.prev, .int .u64 M.commit, .int .u64 M.mark, .bool M.ok, .slice va M.entries.length vc, .string M.snap] MsgT)
  have e0 : (w3.alloc (.cells #[.int .i64 M.kind, .int .i64 M.frm, .int .i64 M.to, .int .u64 M.term, .int .u64 M.index, .int .u64 M.prev, .int .u64 M.commit, .int .u64 M.mark, .bool M.ok, .slice va M.entries.length vc, .string M.snap] MsgT)).cell? ⟨w2.heap.size, 0, none⟩ = some (.int .u64 y.term) := Lib.cell_of_heap ((ha.block (w2.heap.size) (heap_lt TEw3.out)).trans TEw3.out) 0
  have e1 : (w3.alloc (.cells #[.int .i64 M.kind, .int .i64 M.frm, .int .i64 M.to, .int .u64 M.term, .int .u64 M.index, .int .u64 M.prev, .int .u64 M.commit, .int .u64 M.mark, .bool M.ok, .slice va M.entries.length vc, .string M.snap] MsgT)).cell? ⟨w2.heap.size, 1, none⟩ = some (.int .u64 y.index) := Lib.cell_of_heap ((ha.block (w2.heap.size) (heap_lt TEw3.out)).trans TEw3.out) 1
  have e2 : (w3.alloc (.cells #[.int .i64 M.kind, .int .i64 M.frm, .int .i64 M.to, .int .u64 M.term, .int .u64 M.index, .int .u64 M.prev, .int .u64 M.commit, .int .u64 M.mark, .bool M.ok, .slice va M.entries.length vc, .string M.snap] MsgT)).cell? ⟨w2.heap.size, 2, none⟩ = some (.int .i64 y.kind) := Lib.cell_of_heap ((ha.block (w2.heap.size) (heap_lt TEw3.out)).trans TEw3.out) 2
  have e3 : (w3.alloc (.cells #[.int .i64 M.kind, .int .i64 M.frm, .int .i64 M.to, .int .u64 M.term, .int .u64 M.index, .int .u64 M.prev, .int .u64 M.commit, .int .u64 M.mark, .bool M.ok, .slice va M.entries.length vc, .string M.snap] MsgT)).cell? ⟨w2.heap.size, 3, none⟩ = some (.int .u64 y.client) := Lib.cell_of_heap ((ha.block (w2.heap.size) (heap_lt TEw3.out)).trans TEw3.out) 3
  have e4 : (w3.alloc (.cells #[.int .i64 M.kind, .int .i64 M.frm, .int .i64 M.to, .int .u64 M.term, .int .u64 M.index, .int .u64 M.prev, .int .u64 M.commit, .int .u64 M.mark, .bool M.ok, .slice va M.entries.length vc, .string M.snap] MsgT)).cell? ⟨w2.heap.size, 4, none⟩ = some (.int .u64 y.seq) := Lib.cell_of_heap ((ha.block (w2.heap.size) (heap_lt TEw3.out)).trans TEw3.out) 4
  have e5 : (w3.alloc (.cells #[.int .i64 M.kind, .int .i64 M.frm, .int .i64 M.to, .int .u64 M.term, .int .u64 M.index, .int .u64 M.prev, .int .u64 M.commit, .int .u64 M.mark, .bool M.ok, .slice va M.entries.length vc, .string M.snap] MsgT)).cell? ⟨w2.heap.size, 5, none⟩ = some (.int .u64 y.block) := Lib.cell_of_heap ((ha.block (w2.heap.size) (heap_lt TEw3.out)).trans TEw3.out) 5
  have e6 : (w3.alloc (.cells #[.int .i64 M.kind, .int .i64 M.frm, .int .i64 M.to, .int .u64 M.term, .int .u64 M.index, .int .u64 M.prev, .int .u64 M.commit, .int .u64 M.mark, .bool M.ok, .slice va M.entries.length vc, .string M.snap] MsgT)).cell? ⟨w2.heap.size, 6, none⟩ = some (.int .u64 y.many) := Lib.cell_of_heap ((ha.block (w2.heap.size) (heap_lt TEw3.out)).trans TEw3.out) 6
  have e7 : (w3.alloc (.cells #[.int .i64 M.kind, .int .i64 M.frm, .int .i64 M.to, .int .u64 M.term, .int .u64 M.index, .int .u64 M.prev, .int .u64 M.commit, .int .u64 M.mark, .bool M.ok, .slice va M.entries.length vc, .string M.snap] MsgT)).cell? ⟨w2.heap.size, 7, none⟩ = some (.int .i64 y.node) := Lib.cell_of_heap ((ha.block (w2.heap.size) (heap_lt TEw3.out)).trans TEw3.out) 7
  have e8 : (w3.alloc (.cells #[.int .i64 M.kind, .int .i64 M.frm, .int .i64 M.to, .int .u64 M.term, .int .u64 M.index, .int .u64 M.prev, .int .u64 M.commit, .int .u64 M.mark, .bool M.ok, .slice va M.entries.length vc, .string M.snap] MsgT)).cell? ⟨w2.heap.size, 8, none⟩ = some (.int .i64 y.level) := Lib.cell_of_heap ((ha.block (w2.heap.size) (heap_lt TEw3.out)).trans TEw3.out) 8
  have e9 : (w3.alloc (.cells #[.int .i64 M.kind, .int .i64 M.frm, .int .i64 M.to, .int .u64 M.term, .int .u64 M.index, .int .u64 M.prev, .int .u64 M.commit, .int .u64 M.mark, .bool M.ok, .slice va M.entries.length vc, .string M.snap] MsgT)).cell? ⟨w2.heap.size, 9, none⟩ = some (.string y.data) := Lib.cell_of_heap ((ha.block (w2.heap.size) (heap_lt TEw3.out)).trans TEw3.out) 9
  have e10 : (w3.alloc (.cells #[.int .i64 M.kind, .int .i64 M.frm, .int .i64 M.to, .int .u64 M.term, .int .u64 M.index, .int .u64 M.prev, .int .u64 M.commit, .int .u64 M.mark, .bool M.ok, .slice va M.entries.length vc, .string M.snap] MsgT)).cell? ⟨w2.heap.size, 10, none⟩ = some (.string y.old) := Lib.cell_of_heap ((ha.block (w2.heap.size) (heap_lt TEw3.out)).trans TEw3.out) 10
  go_wp2_with fail
  rcases HE.out with ⟨rfl, hp1, hg1⟩ | ⟨rfl, hp1⟩
  · have HP1 := Lib.hid hp1
    have HG1 := Lib.hid hg1
    clear hp1 hg1
    refine (HP1.out _).mono ?_
    rintro x w4 ⟨rfl, hb⟩
    have TEw4 := Lib.hid ((hb.block (w2.heap.size) (heap_lt ((ha.block (w2.heap.size) (heap_lt TEw3.out)).trans TEw3.out))).trans ((ha.block (w2.heap.size) (heap_lt TEw3.out)).trans TEw3.out))
    have TFw4 := Lib.hid ((hb.block (w3.heap.size) (heap_lt (heap_alloc_new w3 (.cells #[.int .i64 M.kind, .int .i64 M.frm, .int .i64 M.to, .int .u64 M.term, .int .u64 M.index, .int .u64 M.prev, .int .u64 M.commit, .int .u64 M.mark, .bool M.ok, .slice va M.entries.length vc, .string M.snap] MsgT)))).trans (heap_alloc_new w3 (.cells #[.int .i64 M.kind, .int .i64 M.frm, .int .i64 M.to, .int .u64 M.term, .int .u64 M.index, .int .u64 M.prev, .int .u64 M.commit, .int .u64 M.mark, .bool M.ok, .slice va M.entries.length vc, .string M.snap] MsgT)))
    have HBw4 := Lib.hid (bstep (bstep HBw3.out (Nat.le_refl _) ha) (Nat.le_refl _) hb)
    have HSw4 := Lib.hid ((HSw3.out.below ha).below hb)
    clear hb ha TEw3 HBw3 HSw3 HP1 e0 e1 e2 e3 e4 e5 e6 e7 e8 e9 e10
    have e0 : w4.cell? ⟨w2.heap.size, 0, none⟩ = some (.int .u64 y.term) := Lib.cell_of_heap TEw4.out 0
    have e1 : w4.cell? ⟨w2.heap.size, 1, none⟩ = some (.int .u64 y.index) := Lib.cell_of_heap TEw4.out 1
    have e2 : w4.cell? ⟨w2.heap.size, 2, none⟩ = some (.int .i64 y.kind) := Lib.cell_of_heap TEw4.out 2
    have e3 : w4.cell? ⟨w2.heap.size, 3, none⟩ = some (.int .u64 y.client) := Lib.cell_of_heap TEw4.out 3
    have e4 : w4.cell? ⟨w2.heap.size, 4, none⟩ = some (.int .u64 y.seq) := Lib.cell_of_heap TEw4.out 4
    have e5 : w4.cell? ⟨w2.heap.size, 5, none⟩ = some (.int .u64 y.block) := Lib.cell_of_heap TEw4.out 5
    have e6 : w4.cell? ⟨w2.heap.size, 6, none⟩ = some (.int .u64 y.many) := Lib.cell_of_heap TEw4.out 6
    have e7 : w4.cell? ⟨w2.heap.size, 7, none⟩ = some (.int .i64 y.node) := Lib.cell_of_heap TEw4.out 7
    have e8 : w4.cell? ⟨w2.heap.size, 8, none⟩ = some (.int .i64 y.level) := Lib.cell_of_heap TEw4.out 8
    have e9 : w4.cell? ⟨w2.heap.size, 9, none⟩ = some (.string y.data) := Lib.cell_of_heap TEw4.out 9
    have e10 : w4.cell? ⟨w2.heap.size, 10, none⟩ = some (.string y.old) := Lib.cell_of_heap TEw4.out 10
    go_wp2_with fail
    refine (HPUT2.out _).mono ?_
    rintro x w5 ⟨rfl, hb⟩
    have TEw5 := Lib.hid ((hb.block (w2.heap.size) (heap_lt TEw4.out)).trans TEw4.out)
    have TFw5 := Lib.hid ((hb.block (w3.heap.size) (heap_lt TFw4.out)).trans TFw4.out)
    have HBw5 := Lib.hid (bstep HBw4.out (Nat.le_refl _) hb)
    have HSw5 := Lib.hid (HSw4.out.below hb)
    clear hb TEw4 TFw4 HBw4 HSw4 HPUT2 e0 e1 e2 e3 e4 e5 e6 e7 e8 e9 e10
    go_wp2_with fail
    refine (HG1.out _).mono ?_
    rintro x w6 ⟨rfl, hb⟩
    have TEw6 := Lib.hid ((hb.block (w2.heap.size) (heap_lt TEw5.out)).trans TEw5.out)
    have TFw6 := Lib.hid ((hb.block (w3.heap.size) (heap_lt TFw5.out)).trans TFw5.out)
    have HBw6 := Lib.hid (bstep HBw5.out (Nat.le_refl _) hb)
    have HSw6 := Lib.hid (HSw5.out.below hb)
    clear hb TEw5 TFw5 HBw5 HSw5 HG1
    have ha := (Below.refl w6.heap.size w6).alloc (Nat.le_refl _) (.cells #[.int .u64 y.term, .int .u64 y.index, .int .i64 y.kind, .int .u64 y.client, .int .u64 y.seq, .int .u64 y.block, .int .u64 y.many, .int .i64 y.node, .int .i64 y.level, .string y.data, .string y.old] EntT)
    go_wp2_with fail
    refine (HGET2.out _).mono ?_
    rintro x w7 ⟨rfl, hb⟩
    have TEw7 := Lib.hid ((hb.block (w2.heap.size) (heap_lt ((ha.block (w2.heap.size) (heap_lt TEw6.out)).trans TEw6.out))).trans ((ha.block (w2.heap.size) (heap_lt TEw6.out)).trans TEw6.out))
    have TFw7 := Lib.hid ((hb.block (w3.heap.size) (heap_lt ((ha.block (w3.heap.size) (heap_lt TFw6.out)).trans TFw6.out))).trans ((ha.block (w3.heap.size) (heap_lt TFw6.out)).trans TFw6.out))
    have TXw7 := Lib.hid ((hb.block (w6.heap.size) (heap_lt (heap_alloc_new w6 (.cells #[.int .u64 y.term, .int .u64 y.index, .int .i64 y.kind, .int .u64 y.client, .int .u64 y.seq, .int .u64 y.block, .int .u64 y.many, .int .i64 y.node, .int .i64 y.level, .string y.data, .string y.old] EntT)))).trans (heap_alloc_new w6 (.cells #[.int .u64 y.term, .int .u64 y.index, .int .i64 y.kind, .int .u64 y.client, .int .u64 y.seq, .int .u64 y.block, .int .u64 y.many, .int .i64 y.node, .int .i64 y.level, .string y.data, .string y.old] EntT)))
    have HBw7 := Lib.hid (bstep (bstep HBw6.out (Nat.le_refl _) ha) (Nat.le_refl _) hb)
    have HSw7 := Lib.hid ((HSw6.out.below ha).below hb)
    clear hb TEw6 TFw6 HBw6 ha HSw6 HGET2
    have ha := (Below.refl w7.heap.size w7).alloc (Nat.le_refl _) (.cells #[.int .u64 y.term, .int .u64 y.index, .int .i64 y.kind, .int .u64 y.client, .int .u64 y.seq, .int .u64 y.block, .int .u64 y.many, .int .i64 y.node, .int .i64 y.level, .string y.data, .string y.old] EntT)
    have e0 : (w7.alloc (.cells #[.int .u64 y.term, .int .u64 y.index, .int .i64 y.kind, .int .u64 y.client, .int .u64 y.seq, .int .u64 y.block, .int .u64 y.many, .int .i64 y.node, .int .i64 y.level, .string y.data, .string y.old] EntT)).cell? ⟨w2.heap.size, 0, none⟩ = some (.int .u64 y.term) := Lib.cell_of_heap ((ha.block (w2.heap.size) (heap_lt TEw7.out)).trans TEw7.out) 0
    have e1 : (w7.alloc (.cells #[.int .u64 y.term, .int .u64 y.index, .int .i64 y.kind, .int .u64 y.client, .int .u64 y.seq, .int .u64 y.block, .int .u64 y.many, .int .i64 y.node, .int .i64 y.level, .string y.data, .string y.old] EntT)).cell? ⟨w2.heap.size, 1, none⟩ = some (.int .u64 y.index) := Lib.cell_of_heap ((ha.block (w2.heap.size) (heap_lt TEw7.out)).trans TEw7.out) 1
    have e2 : (w7.alloc (.cells #[.int .u64 y.term, .int .u64 y.index, .int .i64 y.kind, .int .u64 y.client, .int .u64 y.seq, .int .u64 y.block, .int .u64 y.many, .int .i64 y.node, .int .i64 y.level, .string y.data, .string y.old] EntT)).cell? ⟨w2.heap.size, 2, none⟩ = some (.int .i64 y.kind) := Lib.cell_of_heap ((ha.block (w2.heap.size) (heap_lt TEw7.out)).trans TEw7.out) 2
    have e3 : (w7.alloc (.cells #[.int .u64 y.term, .int .u64 y.index, .int .i64 y.kind, .int .u64 y.client, .int .u64 y.seq, .int .u64 y.block, .int .u64 y.many, .int .i64 y.node, .int .i64 y.level, .string y.data, .string y.old] EntT)).cell? ⟨w2.heap.size, 3, none⟩ = some (.int .u64 y.client) := Lib.cell_of_heap ((ha.block (w2.heap.size) (heap_lt TEw7.out)).trans TEw7.out) 3
    have e4 : (w7.alloc (.cells #[.int .u64 y.term, .int .u64 y.index, .int .i64 y.kind, .int .u64 y.client, .int .u64 y.seq, .int .u64 y.block, .int .u64 y.many, .int .i64 y.node, .int .i64 y.level, .string y.data, .string y.old] EntT)).cell? ⟨w2.heap.size, 4, none⟩ = some (.int .u64 y.seq) := Lib.cell_of_heap ((ha.block (w2.heap.size) (heap_lt TEw7.out)).trans TEw7.out) 4
    have e5 : (w7.alloc (.cells #[.int .u64 y.term, .int .u64 y.index, .int .i64 y.kind, .int .u64 y.client, .int .u64 y.seq, .int .u64 y.block, .int .u64 y.many, .int .i64 y.node, .int .i64 y.level, .string y.data, .string y.old] EntT)).cell? ⟨w2.heap.size, 5, none⟩ = some (.int .u64 y.block) := Lib.cell_of_heap ((ha.block (w2.heap.size) (heap_lt TEw7.out)).trans TEw7.out) 5
    have e6 : (w7.alloc (.cells #[.int .u64 y.term, .int .u64 y.index, .int .i64 y.kind, .int .u64 y.client, .int .u64 y.seq, .int .u64 y.block, .int .u64 y.many, .int .i64 y.node, .int .i64 y.level, .string y.data, .string y.old] EntT)).cell? ⟨w2.heap.size, 6, none⟩ = some (.int .u64 y.many) := Lib.cell_of_heap ((ha.block (w2.heap.size) (heap_lt TEw7.out)).trans TEw7.out) 6
    have e7 : (w7.alloc (.cells #[.int .u64 y.term, .int .u64 y.index, .int .i64 y.kind, .int .u64 y.client, .int .u64 y.seq, .int .u64 y.block, .int .u64 y.many, .int .i64 y.node, .int .i64 y.level, .string y.data, .string y.old] EntT)).cell? ⟨w2.heap.size, 7, none⟩ = some (.int .i64 y.node) := Lib.cell_of_heap ((ha.block (w2.heap.size) (heap_lt TEw7.out)).trans TEw7.out) 7
    have e8 : (w7.alloc (.cells #[.int .u64 y.term, .int .u64 y.index, .int .i64 y.kind, .int .u64 y.client, .int .u64 y.seq, .int .u64 y.block, .int .u64 y.many, .int .i64 y.node, .int .i64 y.level, .string y.data, .string y.old] EntT)).cell? ⟨w2.heap.size, 8, none⟩ = some (.int .i64 y.level) := Lib.cell_of_heap ((ha.block (w2.heap.size) (heap_lt TEw7.out)).trans TEw7.out) 8
    have e9 : (w7.alloc (.cells #[.int .u64 y.term, .int .u64 y.index, .int .i64 y.kind, .int .u64 y.client, .int .u64 y.seq, .int .u64 y.block, .int .u64 y.many, .int .i64 y.node, .int .i64 y.level, .string y.data, .string y.old] EntT)).cell? ⟨w2.heap.size, 9, none⟩ = some (.string y.data) := Lib.cell_of_heap ((ha.block (w2.heap.size) (heap_lt TEw7.out)).trans TEw7.out) 9
    have e10 : (w7.alloc (.cells #[.int .u64 y.term, .int .u64 y.index, .int .i64 y.kind, .int .u64 y.client, .int .u64 y.seq, .int .u64 y.block, .int .u64 y.many, .int .i64 y.node, .int .i64 y.level, .string y.data, .string y.old] EntT)).cell? ⟨w2.heap.size, 10, none⟩ = some (.string y.old) := Lib.cell_of_heap ((ha.block (w2.heap.size) (heap_lt TEw7.out)).trans TEw7.out) 10
    go_wp2_with fail
    refine (HLEV.out _).mono ?_
    rintro x w8 ⟨rfl, hb⟩
    have TEw8 := Lib.hid ((hb.block (w2.heap.size) (heap_lt ((ha.block (w2.heap.size) (heap_lt TEw7.out)).trans TEw7.out))).trans ((ha.block (w2.heap.size) (heap_lt TEw7.out)).trans TEw7.out))
    have TFw8 := Lib.hid ((hb.block (w3.heap.size) (heap_lt ((ha.block (w3.heap.size) (heap_lt TFw7.out)).trans TFw7.out))).trans ((ha.block (w3.heap.size) (heap_lt TFw7.out)).trans TFw7.out))
    have TXw8 := Lib.hid ((hb.block (w6.heap.size) (heap_lt ((ha.block (w6.heap.size) (heap_lt TXw7.out)).trans TXw7.out))).trans ((ha.block (w6.heap.size) (heap_lt TXw7.out)).trans TXw7.out))
    have TYw8 := Lib.hid ((hb.block (w7.heap.size) (heap_lt (heap_alloc_new w7 (.cells #[.int .u64 y.term, .int .u64 y.index, .int .i64 y.kind, .int .u64 y.client, .int .u64 y.seq, .int .u64 y.block, .int .u64 y.many, .int .i64 y.node, .int .i64 y.level, .string y.data, .string y.old] EntT)))).trans (heap_alloc_new w7 (.cells #[.int .u64 y.term, .int .u64 y.index, .int .i64 y.kind, .int .u64 y.client, .int .u64 y.seq, .int .u64 y.block, .int .u64 y.many, .int .i64 y.node, .int .i64 y.level, .string y.data, .string y.old] EntT)))
    have HBw8 := Lib.hid (bstep (bstep HBw7.out (Nat.le_refl _) ha) (Nat.le_refl _) hb)
    have HSw8 := Lib.hid ((HSw7.out.below ha).below hb)
    clear hb TEw7 TFw7 TXw7 HBw7 ha HSw7 HLEV e0 e1 e2 e3 e4 e5 e6 e7 e8 e9 e10
    have e0 : w8.cell? ⟨w2.heap.size, 0, none⟩ = some (.int .u64 y.term) := Lib.cell_of_heap TEw8.out 0
    have e1 : w8.cell? ⟨w2.heap.size, 1, none⟩ = some (.int .u64 y.index) := Lib.cell_of_heap TEw8.out 1
    have e2 : w8.cell? ⟨w2.heap.size, 2, none⟩ = some (.int .i64 y.kind) := Lib.cell_of_heap TEw8.out 2
    have e3 : w8.cell? ⟨w2.heap.size, 3, none⟩ = some (.int .u64 y.client) := Lib.cell_of_heap TEw8.out 3
    have e4 : w8.cell? ⟨w2.heap.size, 4, none⟩ = some (.int .u64 y.seq) := Lib.cell_of_heap TEw8.out 4
    have e5 : w8.cell? ⟨w2.heap.size, 5, none⟩ = some (.int .u64 y.block) := Lib.cell_of_heap TEw8.out 5
    have e6 : w8.cell? ⟨w2.heap.size, 6, none⟩ = some (.int .u64 y.many) := Lib.cell_of_heap TEw8.out 6
    have e7 : w8.cell? ⟨w2.heap.size, 7, none⟩ = some (.int .i64 y.node) := Lib.cell_of_heap TEw8.out 7
    have e8 : w8.cell? ⟨w2.heap.size, 8, none⟩ = some (.int .i64 y.level) := Lib.cell_of_heap TEw8.out 8
    have e9 : w8.cell? ⟨w2.heap.size, 9, none⟩ = some (.string y.data) := Lib.cell_of_heap TEw8.out 9
    have e10 : w8.cell? ⟨w2.heap.size, 10, none⟩ = some (.string y.old) := Lib.cell_of_heap TEw8.out 10
    have x0 : w8.cell? ⟨w6.heap.size, 0, none⟩ = some (.int .u64 y.term) := Lib.cell_of_heap TXw8.out 0
    have x1 : w8.cell? ⟨w6.heap.size, 1, none⟩ = some (.int .u64 y.index) := Lib.cell_of_heap TXw8.out 1
    have x2 : w8.cell? ⟨w6.heap.size, 2, none⟩ = some (.int .i64 y.kind) := Lib.cell_of_heap TXw8.out 2
    have x3 : w8.cell? ⟨w6.heap.size, 3, none⟩ = some (.int .u64 y.client) := Lib.cell_of_heap TXw8.out 3
    have x4 : w8.cell? ⟨w6.heap.size, 4, none⟩ = some (.int .u64 y.seq) := Lib.cell_of_heap TXw8.out 4
    have x5 : w8.cell? ⟨w6.heap.size, 5, none⟩ = some (.int .u64 y.block) := Lib.cell_of_heap TXw8.out 5
    have x6 : w8.cell? ⟨w6.heap.size, 6, none⟩ = some (.int .u64 y.many) := Lib.cell_of_heap TXw8.out 6
    have x7 : w8.cell? ⟨w6.heap.size, 7, none⟩ = some (.int .i64 y.node) := Lib.cell_of_heap TXw8.out 7
    have x8 : w8.cell? ⟨w6.heap.size, 8, none⟩ = some (.int .i64 y.level) := Lib.cell_of_heap TXw8.out 8
    have x9 : w8.cell? ⟨w6.heap.size, 9, none⟩ = some (.string y.data) := Lib.cell_of_heap TXw8.out 9
    have x10 : w8.cell? ⟨w6.heap.size, 10, none⟩ = some (.string y.old) := Lib.cell_of_heap TXw8.out 10
    have y0 : w8.cell? ⟨w7.heap.size, 0, none⟩ = some (.int .u64 y.term) := Lib.cell_of_heap TYw8.out 0
    have y1 : w8.cell? ⟨w7.heap.size, 1, none⟩ = some (.int .u64 y.index) := Lib.cell_of_heap TYw8.out 1
    have y2 : w8.cell? ⟨w7.heap.size, 2, none⟩ = some (.int .i64 y.kind) := Lib.cell_of_heap TYw8.out 2
    have y3 : w8.cell? ⟨w7.heap.size, 3, none⟩ = some (.int .u64 y.client) := Lib.cell_of_heap TYw8.out 3
    have y4 : w8.cell? ⟨w7.heap.size, 4, none⟩ = some (.int .u64 y.seq) := Lib.cell_of_heap TYw8.out 4
    have y5 : w8.cell? ⟨w7.heap.size, 5, none⟩ = some (.int .u64 y.block) := Lib.cell_of_heap TYw8.out 5
    have y6 : w8.cell? ⟨w7.heap.size, 6, none⟩ = some (.int .u64 y.many) := Lib.cell_of_heap TYw8.out 6
    have y7 : w8.cell? ⟨w7.heap.size, 7, none⟩ = some (.int .i64 y.node) := Lib.cell_of_heap TYw8.out 7
    have y8 : w8.cell? ⟨w7.heap.size, 8, none⟩ = some (.int .i64 y.level) := Lib.cell_of_heap TYw8.out 8
    have y9 : w8.cell? ⟨w7.heap.size, 9, none⟩ = some (.string y.data) := Lib.cell_of_heap TYw8.out 9
    have y10 : w8.cell? ⟨w7.heap.size, 10, none⟩ = some (.string y.old) := Lib.cell_of_heap TYw8.out 10
    have f0 : w8.cell? ⟨w3.heap.size, 0, none⟩ = some (.int .i64 M.kind) := Lib.cell_of_heap TFw8.out 0
    have f1 : w8.cell? ⟨w3.heap.size, 1, none⟩ = some (.int .i64 M.frm) := Lib.cell_of_heap TFw8.out 1
    have f2 : w8.cell? ⟨w3.heap.size, 2, none⟩ = some (.int .i64 M.to) := Lib.cell_of_heap TFw8.out 2
    have f3 : w8.cell? ⟨w3.heap.size, 3, none⟩ = some (.int .u64 M.term) := Lib.cell_of_heap TFw8.out 3
    have f4 : w8.cell? ⟨w3.heap.size, 4, none⟩ = some (.int .u64 M.index) := Lib.cell_of_heap TFw8.out 4
    have f5 : w8.cell? ⟨w3.heap.size, 5, none⟩ = some (.int .u64 M.prev) := Lib.cell_of_heap TFw8.out 5
    have f6 : w8.cell? ⟨w3.heap.size, 6, none⟩ = some (.int .u64 M.commit) := Lib.cell_of_heap TFw8.out 6
    have f7 : w8.cell? ⟨w3.heap.size, 7, none⟩ = some (.int .u64 M.mark) := Lib.cell_of_heap TFw8.out 7
    have f8 : w8.cell? ⟨w3.heap.size, 8, none⟩ = some (.bool M.ok) := Lib.cell_of_heap TFw8.out 8
    have f9 : w8.cell? ⟨w3.heap.size, 9, none⟩ = some (.slice va M.entries.length vc) := Lib.cell_of_heap TFw8.out 9
    have f10 : w8.cell? ⟨w3.heap.size, 10, none⟩ = some (.string M.snap) := Lib.cell_of_heap TFw8.out 10
    have heq := HEQ.out
    go_wp2_with fail
    clear heq HEQ e0 e1 e2 e3 e4 e5 e6 e7 e8 e9 e10 x0 x1 x2 x3 x4 x5 x6 x7 x8 x9 x10 y0 y1 y2 y3 y4 y5 y6 y7 y8 y9 y10 TEw8 TXw8 TYw8
    rcases level_two M with hM | hM
    · have hpm := fun sv W hW => frPutM_one M HSM.out HRM.out hM sv W hW
      have hgm := fun W => frGetM_one M HSM.out HRM.out hM W
      have hsh := HSHIM.out
      have hml := HMLEV.out
      rw [(shim_one M hM).1, (shim_one M hM).2] at hsh
      rw [hM] at hml
      have hsame := fun s1 s2 W => same_own M HSM.out s1 s2 W
      generalize packL 1 (putFM M) = p at hpm hgm
      simp only [Msg.cells] at hpm hgm hsh hsame
      have HPM := Lib.hid hpm
      have HGM := Lib.hid hgm
      have HSH := Lib.hid hsh
      have HML := Lib.hid hml
      have HSAME := Lib.hid hsame
      clear hpm hgm hsh hml hsame HSHIM HMLEV hM
      refine (HPM.out _ _ HSw8.out).mono ?_
      rintro x w9 ⟨rfl, hb⟩
      have TFw9 := Lib.hid ((hb.block (w3.heap.size) (heap_lt TFw8.out)).trans TFw8.out)
      have HBw9 := Lib.hid (bstep HBw8.out (Nat.le_refl _) hb)
      have HSw9 := Lib.hid (HSw8.out.below hb)
      clear hb TFw8 HBw8 HSw8 f0 f1 f2 f3 f4 f5 f6 f7 f8 f9 f10
      go_wp2_with fail
      refine (HGM.out _).mono ?_
      rintro x w10 ⟨sv2, rfl, he, hb⟩
      obtain ⟨va2, vc2, rfl, -⟩ := id he
      have HS2w10 := Lib.hid he
      have TFw10 := Lib.hid ((hb.block (w3.heap.size) (heap_lt TFw9.out)).trans TFw9.out)
      have HBw10 := Lib.hid (bstep HBw9.out (Nat.le_refl _) hb)
      have HSw10 := Lib.hid (HSw9.out.below hb)
      clear hb TFw9 HBw9 HSw9 he HGM
      have ha := (Below.refl w10.heap.size w10).alloc (Nat.le_refl _) (.cells #[.int .i64 M.kind, .int .i64 M.frm, .int .i64 M.to, .int .u64 M.term, .int .u64 M.index, .int .u64 M.prev, .int .u64 M.commit, .int .u64 M.mark, .bool M.ok, .slice va2 M.entries.length vc2, .string M.snap] MsgT)
      have f0 : (w10.alloc (.cells #[.int .i64 M.kind, .int .i64 M.frm, .int .i64 M.to, .int .u64 M.term, .int .u64 M.index, .int .u64 M.prev, .int .u64 M.commit, .int .u64 M.mark, .bool M.ok, .slice va2 M.entries.length vc2, .string M.snap] MsgT)).cell? ⟨w3.heap.size, 0, none⟩ = some (.int .i64 M.kind) := Lib.cell_of_heap ((ha.block (w3.heap.size) (heap_lt TFw10.out)).trans TFw10.out) 0
      have f1 : (w10.alloc (.cells #[.int .i64 M.kind, .int .i64 M.frm, .int .i64 M.to, .int .u64 M.term, .int .u64 M.index, .int .u64 M.prev, .int .u64 M.commit, .int .u64 M.mark, .bool M.ok, .slice va2 M.entries.length vc2, .string M.snap] MsgT)).cell? ⟨w3.heap.size, 1, none⟩ = some (.int .i64 M.frm) := Lib.cell_of_heap ((ha.block (w3.heap.size) (heap_lt TFw10.out)).trans TFw10.out) 1
      have f2 : (w10.alloc (.cells #[.int .i64 M.kind, .int .i64 M.frm, .int .i64 M.to, .int .u64 M.term, .int .u64 M.index, .int .u64 M.prev, .int .u64 M.commit, .int .u64 M.mark, .bool M.ok, .slice va2 M.entries.length vc2, .string M.snap] MsgT)).cell? ⟨w3.heap.size, 2, none⟩ = some (.int .i64 M.to) := Lib.cell_of_heap ((ha.block (w3.heap.size) (heap_lt TFw10.out)).trans TFw10.out) 2
      have f3 : (w10.alloc (.cells #[.int .i64 M.kind, .int .i64 M.frm, .int .i64 M.to, .int .u64 M.term, .int .u64 M.index, .int .u64 M.prev, .int .u64 M.commit, .int .u64 M.mark, .bool M.ok, .slice va2 M.entries.length vc2, .string M.snap] MsgT)).cell? ⟨w3.heap.size, 3, none⟩ = some (.int .u64 M.term) := Lib.cell_of_heap ((ha.block (w3.heap.size) (heap_lt TFw10.out)).trans TFw10.out) 3
      have f4 : (w10.alloc (.cells #[.int .i64 M.kind, .int .i64 M.frm, .int .i64 M.to, .int .u64 M.term, .int .u64 M.index, .int .u64 M.prev, .int .u64 M.commit, .int .u64 M.mark, .bool M.ok, .slice va2 M.entries.length vc2, .string M.snap] MsgT)).cell? ⟨w3.heap.size, 4, none⟩ = some (.int .u64 M.index) := Lib.cell_of_heap ((ha.block (w3.heap.size) (heap_lt TFw10.out)).trans TFw10.out) 4
      have f5 : (w10.alloc (.cells #[.int .i64 M.kind, .int .i64 M.frm, .int .i64 M.to, .int .u64 M.term, .int .u64 M.index, .int .u64 M.prev, .int .u64 M.commit, .int .u64 M.mark, .bool M.ok, .slice va2 M.entries.length vc2, .string M.snap] MsgT)).cell? ⟨w3.heap.size, 5, none⟩ = some (.int .u64 M.prev) := Lib.cell_of_heap ((ha.block (w3.heap.size) (heap_lt TFw10.out)).trans TFw10.out) 5
      have f6 : (w10.alloc (.cells #[.int .i64 M.kind, .int .i64 M.frm, .int .i64 M.to, .int .u64 M.term, .int .u64 M.index, .int .u64 M.prev, .int .u64 M.commit, .int .u64 M.mark, .bool M.ok, .slice va2 M.entries.length vc2, .string M.snap] MsgT)).cell? ⟨w3.heap.size, 6, none⟩ = some (.int .u64 M.commit) := Lib.cell_of_heap ((ha.block (w3.heap.size) (heap_lt TFw10.out)).trans TFw10.out) 6
      have f7 : (w10.alloc (.cells #[.int .i64 M.kind, .int .i64 M.frm, .int .i64 M.to, .int .u64 M.term, .int .u64 M.index, .int .u64 M.prev, .int .u64 M.commit, .int .u64 M.mark, .bool M.ok, .slice va2 M.entries.length vc2, .string M.snap] MsgT)).cell? ⟨w3.heap.size, 7, none⟩ = some (.int .u64 M.mark) := Lib.cell_of_heap ((ha.block (w3.heap.size) (heap_lt TFw10.out)).trans TFw10.out) 7
      have f8 : (w10.alloc (.cells #[.int .i64 M.kind, .int .i64 M.frm, .int .i64 M.to, .int .u64 M.term, .int .u64 M.index, .int .u64 M.prev, .int .u64 M.commit, .int .u64 M.mark, .bool M.ok, .slice va2 M.entries.length vc2, .string M.snap] MsgT)).cell? ⟨w3.heap.size, 8, none⟩ = some (.bool M.ok) := Lib.cell_of_heap ((ha.block (w3.heap.size) (heap_lt TFw10.out)).trans TFw10.out) 8
      have f9 : (w10.alloc (.cells #[.int .i64 M.kind, .int .i64 M.frm, .int .i64 M.to, .int .u64 M.term, .int .u64 M.index, .int .u64 M.prev, .int .u64 M.commit, .int .u64 M.mark, .bool M.ok, .slice va2 M.entries.length vc2, .string M.snap] MsgT)).cell? ⟨w3.heap.size, 9, none⟩ = some (.slice va M.entries.length vc) := Lib.cell_of_heap ((ha.block (w3.heap.size) (heap_lt TFw10.out)).trans TFw10.out) 9
      have f10 : (w10.alloc (.cells #[.int .i64 M.kind, .int .i64 M.frm, .int .i64 M.to, .int .u64 M.term, .int .u64 M.index, .int .u64 M.prev, .int .u64 M.commit, .int .u64 M.mark, .bool M.ok, .slice va2 M.entries.length vc2, .string M.snap] MsgT)).cell? ⟨w3.heap.size, 10, none⟩ = some (.string M.snap) := Lib.cell_of_heap ((ha.block (w3.heap.size) (heap_lt TFw10.out)).trans TFw10.out) 10
      go_wp2_with fail
      refine (HSH.out _ _ (HSw10.out.below ha)).mono ?_
      rintro x w11 ⟨sv3, rfl, he, hb⟩
      obtain ⟨va3, vc3, rfl, -⟩ := id he
      have HS3w11 := Lib.hid he
      have TFw11 := Lib.hid ((hb.block (w3.heap.size) (heap_lt ((ha.block (w3.heap.size) (heap_lt TFw10.out)).trans TFw10.out))).trans ((ha.block (w3.heap.size) (heap_lt TFw10.out)).trans TFw10.out))
      have TNw11 := Lib.hid ((hb.block (w10.heap.size) (heap_lt (heap_alloc_new w10 (.cells #[.int .i64 M.kind, .int .i64 M.frm, .int .i64 M.to, .int .u64 M.term, .int .u64 M.index, .int .u64 M.prev, .int .u64 M.commit, .int .u64 M.mark, .bool M.ok, .slice va2 M.entries.length vc2, .string M.snap] MsgT)))).trans (heap_alloc_new w10 (.cells #[.int .i64 M.kind, .int .i64 M.frm, .int .i64 M.to, .int .u64 M.term, .int .u64 M.index, .int .u64 M.prev, .int .u64 M.commit, .int .u64 M.mark, .bool M.ok, .slice va2 M.entries.length vc2, .string M.snap] MsgT)))
      have HBw11 := Lib.hid (bstep (bstep HBw10.out (Nat.le_refl _) ha) (Nat.le_refl _) hb)
      have HSw11 := Lib.hid ((HSw10.out.below ha).below hb)
      have HS2w11 := Lib.hid ((HS2w10.out.below ha).below hb)
      clear hb TFw10 HBw10 ha he HSw10 HS2w10 HSH f0 f1 f2 f3 f4 f5 f6 f7 f8 f9 f10
      have ha := (Below.refl w11.heap.size w11).alloc (Nat.le_refl _) (.cells #[.int .i64 M.kind, .int .i64 M.frm, .int .i64 M.to, .int .u64 M.term, .int .u64 M.index, .int .u64 M.prev, .int .u64 M.commit, .int .u64 M.mark, .bool M.ok, .slice va3 M.entries.length vc3, .string M.snap] MsgT)
      go_wp2_with fail
      refine (HPM.out _ _ (HS3w11.out.below ha)).mono ?_
      rintro x w12 ⟨rfl, hb⟩
      have TFw12 := Lib.hid ((hb.block (w3.heap.size) (heap_lt ((ha.block (w3.heap.size) (heap_lt TFw11.out)).trans TFw11.out))).trans ((ha.block (w3.heap.size) (heap_lt TFw11.out)).trans TFw11.out))
      have TNw12 := Lib.hid ((hb.block (w10.heap.size) (heap_lt ((ha.block (w10.heap.size) (heap_lt TNw11.out)).trans TNw11.out))).trans ((ha.block (w10.heap.size) (heap_lt TNw11.out)).trans TNw11.out))
      have TZw12 := Lib.hid ((hb.block (w11.heap.size) (heap_lt (heap_alloc_new w11 (.cells #[.int .i64 M.kind, .int .i64 M.frm, .int .i64 M.to, .int .u64 M.term, .int .u64 M.index, .int .u64 M.prev, .int .u64 M.commit, .int .u64 M.mark, .bool M.ok, .slice va3 M.entries.length vc3, .string M.snap] MsgT)))).trans (heap_alloc_new w11 (.cells #[.int .i64 M.kind, .int .i64 M.frm, .int .i64 M.to, .int .u64 M.term, .int .u64 M.index, .int .u64 M.prev, .int .u64 M.commit, .int .u64 M.mark, .bool M.ok, .slice va3 M.entries.length vc3, .string M.snap] MsgT)))
      have HBw12 := Lib.hid (bstep (bstep HBw11.out (Nat.le_refl _) ha) (Nat.le_refl _) hb)
      have HSw12 := Lib.hid ((HSw11.out.below ha).below hb)
      have HS2w12 := Lib.hid ((HS2w11.out.below ha).below hb)
      clear hb TFw11 TNw11 HBw11 ha HSw11 HS2w11 HS3w11 HPM
      have f0 : w12.cell? ⟨w3.heap.size, 0, none⟩ = some (.int .i64 M.kind) := Lib.cell_of_heap TFw12.out 0
      have f1 : w12.cell? ⟨w3.heap.size, 1, none⟩ = some (.int .i64 M.frm) := Lib.cell_of_heap TFw12.out 1
      have f2 : w12.cell? ⟨w3.heap.size, 2, none⟩ = some (.int .i64 M.to) := Lib.cell_of_heap TFw12.out 2
      have f3 : w12.cell? ⟨w3.heap.size, 3, none⟩ = some (.int .u64 M.term) := Lib.cell_of_heap TFw12.out 3
      have f4 : w12.cell? ⟨w3.heap.size, 4, none⟩ = some (.int .u64 M.index) := Lib.cell_of_heap TFw12.out 4
      have f5 : w12.cell? ⟨w3.heap.size, 5, none⟩ = some (.int .u64 M.prev) := Lib.cell_of_heap TFw12.out 5
      have f6 : w12.cell? ⟨w3.heap.size, 6, none⟩ = some (.int .u64 M.commit) := Lib.cell_of_heap TFw12.out 6
      have f7 : w12.cell? ⟨w3.heap.size, 7, none⟩ = some (.int .u64 M.mark) := Lib.cell_of_heap TFw12.out 7
      have f8 : w12.cell? ⟨w3.heap.size, 8, none⟩ = some (.bool M.ok) := Lib.cell_of_heap TFw12.out 8
      have f9 : w12.cell? ⟨w3.heap.size, 9, none⟩ = some (.slice va M.entries.length vc) := Lib.cell_of_heap TFw12.out 9
      have f10 : w12.cell? ⟨w3.heap.size, 10, none⟩ = some (.string M.snap) := Lib.cell_of_heap TFw12.out 10
      go_wp2_with fail
      refine (HML.out _ _ HSw12.out).mono ?_
      rintro x w13 ⟨rfl, hb⟩
      have TFw13 := Lib.hid ((hb.block (w3.heap.size) (heap_lt TFw12.out)).trans TFw12.out)
      have TNw13 := Lib.hid ((hb.block (w10.heap.size) (heap_lt TNw12.out)).trans TNw12.out)
      have TZw13 := Lib.hid ((hb.block (w11.heap.size) (heap_lt TZw12.out)).trans TZw12.out)
      have HBw13 := Lib.hid (bstep HBw12.out (Nat.le_refl _) hb)
      have HSw13 := Lib.hid (HSw12.out.below hb)
      have HS2w13 := Lib.hid (HS2w12.out.below hb)
      clear hb TFw12 TNw12 TZw12 HBw12 HSw12 HS2w12 HML f0 f1 f2 f3 f4 f5 f6 f7 f8 f9 f10
      have f0 : w13.cell? ⟨w3.heap.size, 0, none⟩ = some (.int .i64 M.kind) := Lib.cell_of_heap TFw13.out 0
      have f1 : w13.cell? ⟨w3.heap.size, 1, none⟩ = some (.int .i64 M.frm) := Lib.cell_of_heap TFw13.out 1
      have f2 : w13.cell? ⟨w3.heap.size, 2, none⟩ = some (.int .i64 M.to) := Lib.cell_of_heap TFw13.out 2
      have f3 : w13.cell? ⟨w3.heap.size, 3, none⟩ = some (.int .u64 M.term) := Lib.cell_of_heap TFw13.out 3
      have f4 : w13.cell? ⟨w3.heap.size, 4, none⟩ = some (.int .u64 M.index) := Lib.cell_of_heap TFw13.out 4
      have f5 : w13.cell? ⟨w3.heap.size, 5, none⟩ = some (.int .u64 M.prev) := Lib.cell_of_heap TFw13.out 5
      have f6 : w13.cell? ⟨w3.heap.size, 6, none⟩ = some (.int .u64 M.commit) := Lib.cell_of_heap TFw13.out 6
      have f7 : w13.cell? ⟨w3.heap.size, 7, none⟩ = some (.int .u64 M.mark) := Lib.cell_of_heap TFw13.out 7
      have f8 : w13.cell? ⟨w3.heap.size, 8, none⟩ = some (.bool M.ok) := Lib.cell_of_heap TFw13.out 8
      have f9 : w13.cell? ⟨w3.heap.size, 9, none⟩ = some (.slice va M.entries.length vc) := Lib.cell_of_heap TFw13.out 9
      have f10 : w13.cell? ⟨w3.heap.size, 10, none⟩ = some (.string M.snap) := Lib.cell_of_heap TFw13.out 10
      have n0 : w13.cell? ⟨w10.heap.size, 0, none⟩ = some (.int .i64 M.kind) := Lib.cell_of_heap TNw13.out 0
      have n1 : w13.cell? ⟨w10.heap.size, 1, none⟩ = some (.int .i64 M.frm) := Lib.cell_of_heap TNw13.out 1
      have n2 : w13.cell? ⟨w10.heap.size, 2, none⟩ = some (.int .i64 M.to) := Lib.cell_of_heap TNw13.out 2
      have n3 : w13.cell? ⟨w10.heap.size, 3, none⟩ = some (.int .u64 M.term) := Lib.cell_of_heap TNw13.out 3
      have n4 : w13.cell? ⟨w10.heap.size, 4, none⟩ = some (.int .u64 M.index) := Lib.cell_of_heap TNw13.out 4
      have n5 : w13.cell? ⟨w10.heap.size, 5, none⟩ = some (.int .u64 M.prev) := Lib.cell_of_heap TNw13.out 5
      have n6 : w13.cell? ⟨w10.heap.size, 6, none⟩ = some (.int .u64 M.commit) := Lib.cell_of_heap TNw13.out 6
      have n7 : w13.cell? ⟨w10.heap.size, 7, none⟩ = some (.int .u64 M.mark) := Lib.cell_of_heap TNw13.out 7
      have n8 : w13.cell? ⟨w10.heap.size, 8, none⟩ = some (.bool M.ok) := Lib.cell_of_heap TNw13.out 8
      have n9 : w13.cell? ⟨w10.heap.size, 9, none⟩ = some (.slice va2 M.entries.length vc2) := Lib.cell_of_heap TNw13.out 9
      have n10 : w13.cell? ⟨w10.heap.size, 10, none⟩ = some (.string M.snap) := Lib.cell_of_heap TNw13.out 10
      go_wp2_with fail
      refine (HSAME.out _ _ _ (HT.out.next HBw13.out) HSw13.out HS2w13.out).mono ?_
      rintro x w14 ⟨rfl, hb⟩
      have TFw14 := Lib.hid ((hb.block (w3.heap.size) (heap_lt TFw13.out)).trans TFw13.out)
      have TZw14 := Lib.hid ((hb.block (w11.heap.size) (heap_lt TZw13.out)).trans TZw13.out)
      have HBw14 := Lib.hid (bstep HBw13.out (Nat.le_refl _) hb)
      clear hb TFw13 TNw13 TZw13 HBw13 HSw13 HS2w13 HSAME f0 f1 f2 f3 f4 f5 f6 f7 f8 f9 f10 n0 n1 n2 n3 n4 n5 n6 n7 n8 n9 n10
      have f0 : w14.cell? ⟨w3.heap.size, 0, none⟩ = some (.int .i64 M.kind) := Lib.cell_of_heap TFw14.out 0
      have f1 : w14.cell? ⟨w3.heap.size, 1, none⟩ = some (.int .i64 M.frm) := Lib.cell_of_heap TFw14.out 1
      have f2 : w14.cell? ⟨w3.heap.size, 2, none⟩ = some (.int .i64 M.to) := Lib.cell_of_heap TFw14.out 2
      have f3 : w14.cell? ⟨w3.heap.size, 3, none⟩ = some (.int .u64 M.term) := Lib.cell_of_heap TFw14.out 3
      have f4 : w14.cell? ⟨w3.heap.size, 4, none⟩ = some (.int .u64 M.index) := Lib.cell_of_heap TFw14.out 4
      have f5 : w14.cell? ⟨w3.heap.size, 5, none⟩ = some (.int .u64 M.prev) := Lib.cell_of_heap TFw14.out 5
      have f6 : w14.cell? ⟨w3.heap.size, 6, none⟩ = some (.int .u64 M.commit) := Lib.cell_of_heap TFw14.out 6
      have f7 : w14.cell? ⟨w3.heap.size, 7, none⟩ = some (.int .u64 M.mark) := Lib.cell_of_heap TFw14.out 7
      have f8 : w14.cell? ⟨w3.heap.size, 8, none⟩ = some (.bool M.ok) := Lib.cell_of_heap TFw14.out 8
      have f9 : w14.cell? ⟨w3.heap.size, 9, none⟩ = some (.slice va M.entries.length vc) := Lib.cell_of_heap TFw14.out 9
      have f10 : w14.cell? ⟨w3.heap.size, 10, none⟩ = some (.string M.snap) := Lib.cell_of_heap TFw14.out 10
      have z0 : w14.cell? ⟨w11.heap.size, 0, none⟩ = some (.int .i64 M.kind) := Lib.cell_of_heap TZw14.out 0
      have z1 : w14.cell? ⟨w11.heap.size, 1, none⟩ = some (.int .i64 M.frm) := Lib.cell_of_heap TZw14.out 1
      have z2 : w14.cell? ⟨w11.heap.size, 2, none⟩ = some (.int .i64 M.to) := Lib.cell_of_heap TZw14.out 2
      have z3 : w14.cell? ⟨w11.heap.size, 3, none⟩ = some (.int .u64 M.term) := Lib.cell_of_heap TZw14.out 3
      have z4 : w14.cell? ⟨w11.heap.size, 4, none⟩ = some (.int .u64 M.index) := Lib.cell_of_heap TZw14.out 4
      have z5 : w14.cell? ⟨w11.heap.size, 5, none⟩ = some (.int .u64 M.prev) := Lib.cell_of_heap TZw14.out 5
      have z6 : w14.cell? ⟨w11.heap.size, 6, none⟩ = some (.int .u64 M.commit) := Lib.cell_of_heap TZw14.out 6
      have z7 : w14.cell? ⟨w11.heap.size, 7, none⟩ = some (.int .u64 M.mark) := Lib.cell_of_heap TZw14.out 7
      have z8 : w14.cell? ⟨w11.heap.size, 8, none⟩ = some (.bool M.ok) := Lib.cell_of_heap TZw14.out 8
      have z9 : w14.cell? ⟨w11.heap.size, 9, none⟩ = some (.slice va3 M.entries.length vc3) := Lib.cell_of_heap TZw14.out 9
      have z10 : w14.cell? ⟨w11.heap.size, 10, none⟩ = some (.string M.snap) := Lib.cell_of_heap TZw14.out 10
      go_wp2_with fail
      go_ret
      exact ⟨rfl, HBw14.out⟩
    · have hpm := fun sv W hW => frPutM_two M HSM.out HRM.out hM sv W hW
      have hml := HMLEV.out
      have hsh := HSHIM.out
      have hs2 := shim_two M HSM.out hM
      rw [hM] at hml
      simp only [Msg.cells] at hpm
      have HPM := Lib.hid hpm
      have HML := Lib.hid hml
      have HS2 := Lib.hid hs2
      have HSH0 := Lib.hid hsh
      clear hpm hsh hml hs2 HSHIM HMLEV hM
      refine (HPM.out _ _ HSw8.out).mono ?_
      rintro x w9 ⟨rfl, hb⟩
      have TFw9 := Lib.hid ((hb.block (w3.heap.size) (heap_lt TFw8.out)).trans TFw8.out)
      have HBw9 := Lib.hid (bstep HBw8.out (Nat.le_refl _) hb)
      have HSw9 := Lib.hid (HSw8.out.below hb)
      clear hb TFw8 HBw8 HSw8 HPM f0 f1 f2 f3 f4 f5 f6 f7 f8 f9 f10
      go_wp2_with fail
      refine (frGetM_nil _).mono ?_
      rintro x w10 ⟨rfl, hb⟩
      have TFw10 := Lib.hid ((hb.block (w3.heap.size) (heap_lt TFw9.out)).trans TFw9.out)
      have HBw10 := Lib.hid (bstep HBw9.out (Nat.le_refl _) hb)
      have HSw10 := Lib.hid (HSw9.out.below hb)
      clear hb TFw9 HBw9 HSw9
      have ha := (Below.refl w10.heap.size w10).alloc (Nat.le_refl _) (.cells #[.int .i64 0, .int .i64 0, .int .i64 0, .int .u64 0, .int .u64 0, .int .u64 0, .int .u64 0, .int .u64 0, .bool false, .slice none 0 0, .string ⟨#[]⟩] MsgT)
      have f0 : (w10.alloc (.cells #[.int .i64 0, .int .i64 0, .int .i64 0, .int .u64 0, .int .u64 0, .int .u64 0, .int .u64 0, .int .u64 0, .bool false, .slice none 0 0, .string ⟨#[]⟩] MsgT)).cell? ⟨w3.heap.size, 0, none⟩ = some (.int .i64 M.kind) := Lib.cell_of_heap ((ha.block (w3.heap.size) (heap_lt TFw10.out)).trans TFw10.out) 0
      have f1 : (w10.alloc (.cells #[.int .i64 0, .int .i64 0, .int .i64 0, .int .u64 0, .int .u64 0, .int .u64 0, .int .u64 0, .int .u64 0, .bool false, .slice none 0 0, .string ⟨#[]⟩] MsgT)).cell? ⟨w3.heap.size, 1, none⟩ = some (.int .i64 M.frm) := Lib.cell_of_heap ((ha.block (w3.heap.size) (heap_lt TFw10.out)).trans TFw10.out) 1
      have f2 : (w10.alloc (.cells #[.int .i64 0, .int .i64 0, .int .i64 0, .int .u64 0, .int .u64 0, .int .u64 0, .int .u64 0, .int .u64 0, .bool false, .slice none 0 0, .string ⟨#[]⟩] MsgT)).cell? ⟨w3.heap.size, 2, none⟩ = some (.int .i64 M.to) := Lib.cell_of_heap ((ha.block (w3.heap.size) (heap_lt TFw10.out)).trans TFw10.out) 2
      have f3 : (w10.alloc (.cells #[.int .i64 0, .int .i64 0, .int .i64 0, .int .u64 0, .int .u64 0, .int .u64 0, .int .u64 0, .int .u64 0, .bool false, .slice none 0 0, .string ⟨#[]⟩] MsgT)).cell? ⟨w3.heap.size, 3, none⟩ = some (.int .u64 M.term) := Lib.cell_of_heap ((ha.block (w3.heap.size) (heap_lt TFw10.out)).trans TFw10.out) 3
      have f4 : (w10.alloc (.cells #[.int .i64 0, .int .i64 0, .int .i64 0, .int .u64 0, .int .u64 0, .int .u64 0, .int .u64 0, .int .u64 0, .bool false, .slice none 0 0, .string ⟨#[]⟩] MsgT)).cell? ⟨w3.heap.size, 4, none⟩ = some (.int .u64 M.index) := Lib.cell_of_heap ((ha.block (w3.heap.size) (heap_lt TFw10.out)).trans TFw10.out) 4
      have f5 : (w10.alloc (.cells #[.int .i64 0, .int .i64 0, .int .i64 0, .int .u64 0, .int .u64 0, .int .u64 0, .int .u64 0, .int .u64 0, .bool false, .slice none 0 0, .string ⟨#[]⟩] MsgT)).cell? ⟨w3.heap.size, 5, none⟩ = some (.int .u64 M.prev) := Lib.cell_of_heap ((ha.block (w3.heap.size) (heap_lt TFw10.out)).trans TFw10.out) 5
      have f6 : (w10.alloc (.cells #[.int .i64 0, .int .i64 0, .int .i64 0, .int .u64 0, .int .u64 0, .int .u64 0, .int .u64 0, .int .u64 0, .bool false, .slice none 0 0, .string ⟨#[]⟩] MsgT)).cell? ⟨w3.heap.size, 6, none⟩ = some (.int .u64 M.commit) := Lib.cell_of_heap ((ha.block (w3.heap.size) (heap_lt TFw10.out)).trans TFw10.out) 6
      have f7 : (w10.alloc (.cells #[.int .i64 0, .int .i64 0, .int .i64 0, .int .u64 0, .int .u64 0, .int .u64 0, .int .u64 0, .int .u64 0, .bool false, .slice none 0 0, .string ⟨#[]⟩] MsgT)).cell? ⟨w3.heap.size, 7, none⟩ = some (.int .u64 M.mark) := Lib.cell_of_heap ((ha.block (w3.heap.size) (heap_lt TFw10.out)).trans TFw10.out) 7
      have f8 : (w10.alloc (.cells #[.int .i64 0, .int .i64 0, .int .i64 0, .int .u64 0, .int .u64 0, .int .u64 0, .int .u64 0, .int .u64 0, .bool false, .slice none 0 0, .string ⟨#[]⟩] MsgT)).cell? ⟨w3.heap.size, 8, none⟩ = some (.bool M.ok) := Lib.cell_of_heap ((ha.block (w3.heap.size) (heap_lt TFw10.out)).trans TFw10.out) 8
      have f9 : (w10.alloc (.cells #[.int .i64 0, .int .i64 0, .int .i64 0, .int .u64 0, .int .u64 0, .int .u64 0, .int .u64 0, .int .u64 0, .bool false, .slice none 0 0, .string ⟨#[]⟩] MsgT)).cell? ⟨w3.heap.size, 9, none⟩ = some (.slice va M.entries.length vc) := Lib.cell_of_heap ((ha.block (w3.heap.size) (heap_lt TFw10.out)).trans TFw10.out) 9
      have f10 : (w10.alloc (.cells #[.int .i64 0, .int .i64 0, .int .i64 0, .int .u64 0, .int .u64 0, .int .u64 0, .int .u64 0, .int .u64 0, .bool false, .slice none 0 0, .string ⟨#[]⟩] MsgT)).cell? ⟨w3.heap.size, 10, none⟩ = some (.string M.snap) := Lib.cell_of_heap ((ha.block (w3.heap.size) (heap_lt TFw10.out)).trans TFw10.out) 10
      go_wp2_with fail
      rcases HS2.out with ⟨e1, hzs, hzr, hzl, hf, ht, hte⟩ | ⟨e1, e2⟩
      · have hpz := fun sv W hW => frPutM_one (shimM M) hzs hzr hzl sv W hW
        have hsh := HSH0.out
        rw [e1] at hsh
        generalize packL 1 (putFM (shimM M)) = p at hpz
        generalize shimM M = z at *
        clear hzs hzr hzl e1
        obtain ⟨z0, z1, z2, z3, z4, z5, z6, z7, z8, z10, z9⟩ := z
        simp only at hf ht hte
        subst hf ht hte
        simp only [Msg.cells] at hpz hsh
        have HPZ := Lib.hid hpz
        have HSH := Lib.hid hsh
        clear hpz hsh HSH0
        refine (HSH.out _ _ (HSw10.out.below ha)).mono ?_
        rintro x w11 ⟨sv3, rfl, he, hb⟩
        obtain ⟨va3, vc3, rfl, -⟩ := id he
        have HS3w11 := Lib.hid he
        have TFw11 := Lib.hid ((hb.block (w3.heap.size) (heap_lt ((ha.block (w3.heap.size) (heap_lt TFw10.out)).trans TFw10.out))).trans ((ha.block (w3.heap.size) (heap_lt TFw10.out)).trans TFw10.out))
        have HBw11 := Lib.hid (bstep (bstep HBw10.out (Nat.le_refl _) ha) (Nat.le_refl _) hb)
        have HSw11 := Lib.hid ((HSw10.out.below ha).below hb)
        clear hb TFw10 HBw10 ha he HSw10 HSH f0 f1 f2 f3 f4 f5 f6 f7 f8 f9 f10
        have ha := (Below.refl w11.heap.size w11).alloc (Nat.le_refl _) (.cells #[.int .i64 z0, .int .i64 M.frm, .int .i64 M.to, .int .u64 M.term, .int .u64 z4, .int .u64 z5, .int .u64 z6, .int .u64 z7, .bool z8, .slice va3 z9.length vc3, .string z10] MsgT)
        go_wp2_with fail
        refine (HPZ.out _ _ (HS3w11.out.below ha)).mono ?_
        rintro x w12 ⟨rfl, hb⟩
        have TFw12 := Lib.hid ((hb.block (w3.heap.size) (heap_lt ((ha.block (w3.heap.size) (heap_lt TFw11.out)).trans TFw11.out))).trans ((ha.block (w3.heap.size) (heap_lt TFw11.out)).trans TFw11.out))
        have TZw12 := Lib.hid ((hb.block (w11.heap.size) (heap_lt (heap_alloc_new w11 (.cells #[.int .i64 z0, .int .i64 M.frm, .int .i64 M.to, .int .u64 M.term, .int .u64 z4, .int .u64 z5, .int .u64 z6, .int .u64 z7, .bool z8, .slice va3 z9.length vc3, .string z10] MsgT)))).trans (heap_alloc_new w11 (.cells #[.int .i64 z0, .int .i64 M.frm, .int .i64 M.to, .int .u64 M.term, .int .u64 z4, .int .u64 z5, .int .u64 z6, .int .u64 z7, .bool z8, .slice va3 z9.length vc3, .string z10] MsgT)))
        have HBw12 := Lib.hid (bstep (bstep HBw11.out (Nat.le_refl _) ha) (Nat.le_refl _) hb)
        have HSw12 := Lib.hid ((HSw11.out.below ha).below hb)
        clear hb TFw11 HBw11 ha HSw11 HS3w11 HPZ
        have f0 : w12.cell? ⟨w3.heap.size, 0, none⟩ = some (.int .i64 M.kind) := Lib.cell_of_heap TFw12.out 0
        have f1 : w12.cell? ⟨w3.heap.size, 1, none⟩ = some (.int .i64 M.frm) := Lib.cell_of_heap TFw12.out 1
        have f2 : w12.cell? ⟨w3.heap.size, 2, none⟩ = some (.int .i64 M.to) := Lib.cell_of_heap TFw12.out 2
        have f3 : w12.cell? ⟨w3.heap.size, 3, none⟩ = some (.int .u64 M.term) := Lib.cell_of_heap TFw12.out 3
        have f4 : w12.cell? ⟨w3.heap.size, 4, none⟩ = some (.int .u64 M.index) := Lib.cell_of_heap TFw12.out 4
        have f5 : w12.cell? ⟨w3.heap.size, 5, none⟩ = some (.int .u64 M.prev) := Lib.cell_of_heap TFw12.out 5
        have f6 : w12.cell? ⟨w3.heap.size, 6, none⟩ = some (.int .u64 M.commit) := Lib.cell_of_heap TFw12.out 6
        have f7 : w12.cell? ⟨w3.heap.size, 7, none⟩ = some (.int .u64 M.mark) := Lib.cell_of_heap TFw12.out 7
        have f8 : w12.cell? ⟨w3.heap.size, 8, none⟩ = some (.bool M.ok) := Lib.cell_of_heap TFw12.out 8
        have f9 : w12.cell? ⟨w3.heap.size, 9, none⟩ = some (.slice va M.entries.length vc) := Lib.cell_of_heap TFw12.out 9
        have f10 : w12.cell? ⟨w3.heap.size, 10, none⟩ = some (.string M.snap) := Lib.cell_of_heap TFw12.out 10
        go_wp2_with fail
        refine (HML.out _ _ HSw12.out).mono ?_
        rintro x w13 ⟨rfl, hb⟩
        have TFw13 := Lib.hid ((hb.block (w3.heap.size) (heap_lt TFw12.out)).trans TFw12.out)
        have TZw13 := Lib.hid ((hb.block (w11.heap.size) (heap_lt TZw12.out)).trans TZw12.out)
        have HBw13 := Lib.hid (bstep HBw12.out (Nat.le_refl _) hb)
        clear hb TFw12 TZw12 HBw12 HSw12 HML f0 f1 f2 f3 f4 f5 f6 f7 f8 f9 f10
        have f0 : w13.cell? ⟨w3.heap.size, 0, none⟩ = some (.int .i64 M.kind) := Lib.cell_of_heap TFw13.out 0
        have f1 : w13.cell? ⟨w3.heap.size, 1, none⟩ = some (.int .i64 M.frm) := Lib.cell_of_heap TFw13.out 1
        have f2 : w13.cell? ⟨w3.heap.size, 2, none⟩ = some (.int .i64 M.to) := Lib.cell_of_heap TFw13.out 2
        have f3 : w13.cell? ⟨w3.heap.size, 3, none⟩ = some (.int .u64 M.term) := Lib.cell_of_heap TFw13.out 3
        have f4 : w13.cell? ⟨w3.heap.size, 4, none⟩ = some (.int .u64 M.index) := Lib.cell_of_heap TFw13.out 4
        have f5 : w13.cell? ⟨w3.heap.size, 5, none⟩ = some (.int .u64 M.prev) := Lib.cell_of_heap TFw13.out 5
        have f6 : w13.cell? ⟨w3.heap.size, 6, none⟩ = some (.int .u64 M.commit) := Lib.cell_of_heap TFw13.out 6
        have f7 : w13.cell? ⟨w3.heap.size, 7, none⟩ = some (.int .u64 M.mark) := Lib.cell_of_heap TFw13.out 7
        have f8 : w13.cell? ⟨w3.heap.size, 8, none⟩ = some (.bool M.ok) := Lib.cell_of_heap TFw13.out 8
        have f9 : w13.cell? ⟨w3.heap.size, 9, none⟩ = some (.slice va M.entries.length vc) := Lib.cell_of_heap TFw13.out 9
        have f10 : w13.cell? ⟨w3.heap.size, 10, none⟩ = some (.string M.snap) := Lib.cell_of_heap TFw13.out 10
        have zz0 : w13.cell? ⟨w11.heap.size, 0, none⟩ = some (.int .i64 z0) := Lib.cell_of_heap TZw13.out 0
        have zz1 : w13.cell? ⟨w11.heap.size, 1, none⟩ = some (.int .i64 M.frm) := Lib.cell_of_heap TZw13.out 1
        have zz2 : w13.cell? ⟨w11.heap.size, 2, none⟩ = some (.int .i64 M.to) := Lib.cell_of_heap TZw13.out 2
        have zz3 : w13.cell? ⟨w11.heap.size, 3, none⟩ = some (.int .u64 M.term) := Lib.cell_of_heap TZw13.out 3
        have zz4 : w13.cell? ⟨w11.heap.size, 4, none⟩ = some (.int .u64 z4) := Lib.cell_of_heap TZw13.out 4
        have zz5 : w13.cell? ⟨w11.heap.size, 5, none⟩ = some (.int .u64 z5) := Lib.cell_of_heap TZw13.out 5
        have zz6 : w13.cell? ⟨w11.heap.size, 6, none⟩ = some (.int .u64 z6) := Lib.cell_of_heap TZw13.out 6
        have zz7 : w13.cell? ⟨w11.heap.size, 7, none⟩ = some (.int .u64 z7) := Lib.cell_of_heap TZw13.out 7
        have zz8 : w13.cell? ⟨w11.heap.size, 8, none⟩ = some (.bool z8) := Lib.cell_of_heap TZw13.out 8
        have zz9 : w13.cell? ⟨w11.heap.size, 9, none⟩ = some (.slice va3 z9.length vc3) := Lib.cell_of_heap TZw13.out 9
        have zz10 : w13.cell? ⟨w11.heap.size, 10, none⟩ = some (.string z10) := Lib.cell_of_heap TZw13.out 10
        go_wp2_with fail
        go_ret
        exact ⟨rfl, HBw13.out⟩
      · have hpz := fun sv W hW => frPutM_none sv W hW
        have hsh := HSH0.out
        rw [e1, e2] at hsh
        clear e1 e2
        simp only [Msg.cells, Msg.none] at hpz hsh
        have HPZ := Lib.hid hpz
        have HSH := Lib.hid hsh
        clear hpz hsh HSH0
        refine (HSH.out _ _ (HSw10.out.below ha)).mono ?_
        rintro x w11 ⟨sv3, rfl, he, hb⟩
        obtain ⟨va3, vc3, rfl, -⟩ := id he
        have HS3w11 := Lib.hid he
        have TFw11 := Lib.hid ((hb.block (w3.heap.size) (heap_lt ((ha.block (w3.heap.size) (heap_lt TFw10.out)).trans TFw10.out))).trans ((ha.block (w3.heap.size) (heap_lt TFw10.out)).trans TFw10.out))
        have HBw11 := Lib.hid (bstep (bstep HBw10.out (Nat.le_refl _) ha) (Nat.le_refl _) hb)
        have HSw11 := Lib.hid ((HSw10.out.below ha).below hb)
        clear hb TFw10 HBw10 ha he HSw10 HSH f0 f1 f2 f3 f4 f5 f6 f7 f8 f9 f10
        have ha := (Below.refl w11.heap.size w11).alloc (Nat.le_refl _) (.cells #[.int .i64 0, .int .i64 0, .int .i64 0, .int .u64 0, .int .u64 0, .int .u64 0, .int .u64 0, .int .u64 0, .bool false, .slice va3 ([] : List Ent).length vc3, .string ⟨#[]⟩] MsgT)
        go_wp2_with fail
        refine (HPZ.out _ _ (HS3w11.out.below ha)).mono ?_
        rintro x w12 ⟨rfl, hb⟩
        have TFw12 := Lib.hid ((hb.block (w3.heap.size) (heap_lt ((ha.block (w3.heap.size) (heap_lt TFw11.out)).trans TFw11.out))).trans ((ha.block (w3.heap.size) (heap_lt TFw11.out)).trans TFw11.out))
        have TZw12 := Lib.hid ((hb.block (w11.heap.size) (heap_lt (heap_alloc_new w11 (.cells #[.int .i64 0, .int .i64 0, .int .i64 0, .int .u64 0, .int .u64 0, .int .u64 0, .int .u64 0, .int .u64 0, .bool false, .slice va3 ([] : List Ent).length vc3, .string ⟨#[]⟩] MsgT)))).trans (heap_alloc_new w11 (.cells #[.int .i64 0, .int .i64 0, .int .i64 0, .int .u64 0, .int .u64 0, .int .u64 0, .int .u64 0, .int .u64 0, .bool false, .slice va3 ([] : List Ent).length vc3, .string ⟨#[]⟩] MsgT)))
        have HBw12 := Lib.hid (bstep (bstep HBw11.out (Nat.le_refl _) ha) (Nat.le_refl _) hb)
        have HSw12 := Lib.hid ((HSw11.out.below ha).below hb)
        clear hb TFw11 HBw11 ha HSw11 HS3w11 HPZ
        have f0 : w12.cell? ⟨w3.heap.size, 0, none⟩ = some (.int .i64 M.kind) := Lib.cell_of_heap TFw12.out 0
        have f1 : w12.cell? ⟨w3.heap.size, 1, none⟩ = some (.int .i64 M.frm) := Lib.cell_of_heap TFw12.out 1
        have f2 : w12.cell? ⟨w3.heap.size, 2, none⟩ = some (.int .i64 M.to) := Lib.cell_of_heap TFw12.out 2
        have f3 : w12.cell? ⟨w3.heap.size, 3, none⟩ = some (.int .u64 M.term) := Lib.cell_of_heap TFw12.out 3
        have f4 : w12.cell? ⟨w3.heap.size, 4, none⟩ = some (.int .u64 M.index) := Lib.cell_of_heap TFw12.out 4
        have f5 : w12.cell? ⟨w3.heap.size, 5, none⟩ = some (.int .u64 M.prev) := Lib.cell_of_heap TFw12.out 5
        have f6 : w12.cell? ⟨w3.heap.size, 6, none⟩ = some (.int .u64 M.commit) := Lib.cell_of_heap TFw12.out 6
        have f7 : w12.cell? ⟨w3.heap.size, 7, none⟩ = some (.int .u64 M.mark) := Lib.cell_of_heap TFw12.out 7
        have f8 : w12.cell? ⟨w3.heap.size, 8, none⟩ = some (.bool M.ok) := Lib.cell_of_heap TFw12.out 8
        have f9 : w12.cell? ⟨w3.heap.size, 9, none⟩ = some (.slice va M.entries.length vc) := Lib.cell_of_heap TFw12.out 9
        have f10 : w12.cell? ⟨w3.heap.size, 10, none⟩ = some (.string M.snap) := Lib.cell_of_heap TFw12.out 10
        go_wp2_with fail
        refine (HML.out _ _ HSw12.out).mono ?_
        rintro x w13 ⟨rfl, hb⟩
        have TFw13 := Lib.hid ((hb.block (w3.heap.size) (heap_lt TFw12.out)).trans TFw12.out)
        have TZw13 := Lib.hid ((hb.block (w11.heap.size) (heap_lt TZw12.out)).trans TZw12.out)
        have HBw13 := Lib.hid (bstep HBw12.out (Nat.le_refl _) hb)
        clear hb TFw12 TZw12 HBw12 HSw12 HML f0 f1 f2 f3 f4 f5 f6 f7 f8 f9 f10
        have f0 : w13.cell? ⟨w3.heap.size, 0, none⟩ = some (.int .i64 M.kind) := Lib.cell_of_heap TFw13.out 0
        have f1 : w13.cell? ⟨w3.heap.size, 1, none⟩ = some (.int .i64 M.frm) := Lib.cell_of_heap TFw13.out 1
        have f2 : w13.cell? ⟨w3.heap.size, 2, none⟩ = some (.int .i64 M.to) := Lib.cell_of_heap TFw13.out 2
        have f3 : w13.cell? ⟨w3.heap.size, 3, none⟩ = some (.int .u64 M.term) := Lib.cell_of_heap TFw13.out 3
        have f4 : w13.cell? ⟨w3.heap.size, 4, none⟩ = some (.int .u64 M.index) := Lib.cell_of_heap TFw13.out 4
        have f5 : w13.cell? ⟨w3.heap.size, 5, none⟩ = some (.int .u64 M.prev) := Lib.cell_of_heap TFw13.out 5
        have f6 : w13.cell? ⟨w3.heap.size, 6, none⟩ = some (.int .u64 M.commit) := Lib.cell_of_heap TFw13.out 6
        have f7 : w13.cell? ⟨w3.heap.size, 7, none⟩ = some (.int .u64 M.mark) := Lib.cell_of_heap TFw13.out 7
        have f8 : w13.cell? ⟨w3.heap.size, 8, none⟩ = some (.bool M.ok) := Lib.cell_of_heap TFw13.out 8
        have f9 : w13.cell? ⟨w3.heap.size, 9, none⟩ = some (.slice va M.entries.length vc) := Lib.cell_of_heap TFw13.out 9
        have f10 : w13.cell? ⟨w3.heap.size, 10, none⟩ = some (.string M.snap) := Lib.cell_of_heap TFw13.out 10
        have zz0 : w13.cell? ⟨w11.heap.size, 0, none⟩ = some (.int .i64 0) := Lib.cell_of_heap TZw13.out 0
        have zz1 : w13.cell? ⟨w11.heap.size, 1, none⟩ = some (.int .i64 0) := Lib.cell_of_heap TZw13.out 1
        have zz2 : w13.cell? ⟨w11.heap.size, 2, none⟩ = some (.int .i64 0) := Lib.cell_of_heap TZw13.out 2
        have zz3 : w13.cell? ⟨w11.heap.size, 3, none⟩ = some (.int .u64 0) := Lib.cell_of_heap TZw13.out 3
        have zz4 : w13.cell? ⟨w11.heap.size, 4, none⟩ = some (.int .u64 0) := Lib.cell_of_heap TZw13.out 4
        have zz5 : w13.cell? ⟨w11.heap.size, 5, none⟩ = some (.int .u64 0) := Lib.cell_of_heap TZw13.out 5
        have zz6 : w13.cell? ⟨w11.heap.size, 6, none⟩ = some (.int .u64 0) := Lib.cell_of_heap TZw13.out 6
        have zz7 : w13.cell? ⟨w11.heap.size, 7, none⟩ = some (.int .u64 0) := Lib.cell_of_heap TZw13.out 7
        have zz8 : w13.cell? ⟨w11.heap.size, 8, none⟩ = some (.bool false) := Lib.cell_of_heap TZw13.out 8
        have zz9 : w13.cell? ⟨w11.heap.size, 9, none⟩ = some (.slice va3 ([] : List Ent).length vc3) := Lib.cell_of_heap TZw13.out 9
        have zz10 : w13.cell? ⟨w11.heap.size, 10, none⟩ = some (.string ⟨#[]⟩) := Lib.cell_of_heap TZw13.out 10
        go_wp2_with fail
        go_ret
        exact ⟨rfl, HBw13.out⟩
  · have HP1 := Lib.hid hp1
    have hg1 := fun W => frGetE_nil W
    simp only [Ent.val, Ent.cells, Ent.zero] at hg1
    have HG1 := Lib.hid hg1
    clear hp1 hg1
    refine (HP1.out _).mono ?_
    rintro x w4 ⟨rfl, hb⟩
    have TEw4 := Lib.hid ((hb.block (w2.heap.size) (heap_lt ((ha.block (w2.heap.size) (heap_lt TEw3.out)).trans TEw3.out))).trans ((ha.block (w2.heap.size) (heap_lt TEw3.out)).trans TEw3.out))
    have TFw4 := Lib.hid ((hb.block (w3.heap.size) (heap_lt (heap_alloc_new w3 (.cells #[.int .i64 M.kind, .int .i64 M.frm, .int .i64 M.to, .int .u64 M.term, .int .u64 M.index, .int .u64 M.prev, .int .u64 M.commit, .int .u64 M.mark, .bool M.ok, .slice va M.entries.length vc, .string M.snap] MsgT)))).trans (heap_alloc_new w3 (.cells #[.int .i64 M.kind, .int .i64 M.frm, .int .i64 M.to, .int .u64 M.term, .int .u64 M.index, .int .u64 M.prev, .int .u64 M.commit, .int .u64 M.mark, .bool M.ok, .slice va M.entries.length vc, .string M.snap] MsgT)))
    have HBw4 := Lib.hid (bstep (bstep HBw3.out (Nat.le_refl _) ha) (Nat.le_refl _) hb)
    have HSw4 := Lib.hid ((HSw3.out.below ha).below hb)
    clear hb ha TEw3 HBw3 HSw3 HP1 e0 e1 e2 e3 e4 e5 e6 e7 e8 e9 e10
    have e0 : w4.cell? ⟨w2.heap.size, 0, none⟩ = some (.int .u64 y.term) := Lib.cell_of_heap TEw4.out 0
    have e1 : w4.cell? ⟨w2.heap.size, 1, none⟩ = some (.int .u64 y.index) := Lib.cell_of_heap TEw4.out 1
    have e2 : w4.cell? ⟨w2.heap.size, 2, none⟩ = some (.int .i64 y.kind) := Lib.cell_of_heap TEw4.out 2
    have e3 : w4.cell? ⟨w2.heap.size, 3, none⟩ = some (.int .u64 y.client) := Lib.cell_of_heap TEw4.out 3
    have e4 : w4.cell? ⟨w2.heap.size, 4, none⟩ = some (.int .u64 y.seq) := Lib.cell_of_heap TEw4.out 4
    have e5 : w4.cell? ⟨w2.heap.size, 5, none⟩ = some (.int .u64 y.block) := Lib.cell_of_heap TEw4.out 5
    have e6 : w4.cell? ⟨w2.heap.size, 6, none⟩ = some (.int .u64 y.many) := Lib.cell_of_heap TEw4.out 6
    have e7 : w4.cell? ⟨w2.heap.size, 7, none⟩ = some (.int .i64 y.node) := Lib.cell_of_heap TEw4.out 7
    have e8 : w4.cell? ⟨w2.heap.size, 8, none⟩ = some (.int .i64 y.level) := Lib.cell_of_heap TEw4.out 8
    have e9 : w4.cell? ⟨w2.heap.size, 9, none⟩ = some (.string y.data) := Lib.cell_of_heap TEw4.out 9
    have e10 : w4.cell? ⟨w2.heap.size, 10, none⟩ = some (.string y.old) := Lib.cell_of_heap TEw4.out 10
    go_wp2_with fail
    refine (HPUT2.out _).mono ?_
    rintro x w5 ⟨rfl, hb⟩
    have TEw5 := Lib.hid ((hb.block (w2.heap.size) (heap_lt TEw4.out)).trans TEw4.out)
    have TFw5 := Lib.hid ((hb.block (w3.heap.size) (heap_lt TFw4.out)).trans TFw4.out)
    have HBw5 := Lib.hid (bstep HBw4.out (Nat.le_refl _) hb)
    have HSw5 := Lib.hid (HSw4.out.below hb)
    clear hb TEw4 TFw4 HBw4 HSw4 HPUT2 e0 e1 e2 e3 e4 e5 e6 e7 e8 e9 e10
    go_wp2_with fail
    refine (HG1.out _).mono ?_
    rintro x w6 ⟨rfl, hb⟩
    have TEw6 := Lib.hid ((hb.block (w2.heap.size) (heap_lt TEw5.out)).trans TEw5.out)
    have TFw6 := Lib.hid ((hb.block (w3.heap.size) (heap_lt TFw5.out)).trans TFw5.out)
    have HBw6 := Lib.hid (bstep HBw5.out (Nat.le_refl _) hb)
    have HSw6 := Lib.hid (HSw5.out.below hb)
    clear hb TEw5 TFw5 HBw5 HSw5 HG1
    have ha := (Below.refl w6.heap.size w6).alloc (Nat.le_refl _) (.cells #[.int .u64 0, .int .u64 0, .int .i64 0, .int .u64 0, .int .u64 0, .int .u64 0, .int .u64 0, .int .i64 0, .int .i64 0, .string ⟨#[]⟩, .string ⟨#[]⟩] EntT)
    go_wp2_with fail
    refine (HGET2.out _).mono ?_
    rintro x w7 ⟨rfl, hb⟩
    have TEw7 := Lib.hid ((hb.block (w2.heap.size) (heap_lt ((ha.block (w2.heap.size) (heap_lt TEw6.out)).trans TEw6.out))).trans ((ha.block (w2.heap.size) (heap_lt TEw6.out)).trans TEw6.out))
    have TFw7 := Lib.hid ((hb.block (w3.heap.size) (heap_lt ((ha.block (w3.heap.size) (heap_lt TFw6.out)).trans TFw6.out))).trans ((ha.block (w3.heap.size) (heap_lt TFw6.out)).trans TFw6.out))
    have TXw7 := Lib.hid ((hb.block (w6.heap.size) (heap_lt (heap_alloc_new w6 (.cells #[.int .u64 0, .int .u64 0, .int .i64 0, .int .u64 0, .int .u64 0, .int .u64 0, .int .u64 0, .int .i64 0, .int .i64 0, .string ⟨#[]⟩, .string ⟨#[]⟩] EntT)))).trans (heap_alloc_new w6 (.cells #[.int .u64 0, .int .u64 0, .int .i64 0, .int .u64 0, .int .u64 0, .int .u64 0, .int .u64 0, .int .i64 0, .int .i64 0, .string ⟨#[]⟩, .string ⟨#[]⟩] EntT)))
    have HBw7 := Lib.hid (bstep (bstep HBw6.out (Nat.le_refl _) ha) (Nat.le_refl _) hb)
    have HSw7 := Lib.hid ((HSw6.out.below ha).below hb)
    clear hb TEw6 TFw6 HBw6 ha HSw6 HGET2
    have ha := (Below.refl w7.heap.size w7).alloc (Nat.le_refl _) (.cells #[.int .u64 y.term, .int .u64 y.index, .int .i64 y.kind, .int .u64 y.client, .int .u64 y.seq, .int .u64 y.block, .int .u64 y.many, .int .i64 y.node, .int .i64 y.level, .string y.data, .string y.old] EntT)
    have e0 : (w7.alloc (.cells #[.int .u64 y.term, .int .u64 y.index, .int .i64 y.kind, .int .u64 y.client, .int .u64 y.seq, .int .u64 y.block, .int .u64 y.many, .int .i64 y.node, .int .i64 y.level, .string y.data, .string y.old] EntT)).cell? ⟨w2.heap.size, 0, none⟩ = some (.int .u64 y.term) := Lib.cell_of_heap ((ha.block (w2.heap.size) (heap_lt TEw7.out)).trans TEw7.out) 0
    have e1 : (w7.alloc (.cells #[.int .u64 y.term, .int .u64 y.index, .int .i64 y.kind, .int .u64 y.client, .int .u64 y.seq, .int .u64 y.block, .int .u64 y.many, .int .i64 y.node, .int .i64 y.level, .string y.data, .string y.old] EntT)).cell? ⟨w2.heap.size, 1, none⟩ = some (.int .u64 y.index) := Lib.cell_of_heap ((ha.block (w2.heap.size) (heap_lt TEw7.out)).trans TEw7.out) 1
    have e2 : (w7.alloc (.cells #[.int .u64 y.term, .int .u64 y.index, .int .i64 y.kind, .int .u64 y.client, .int .u64 y.seq, .int .u64 y.block, .int .u64 y.many, .int .i64 y.node, .int .i64 y.level, .string y.data, .string y.old] EntT)).cell? ⟨w2.heap.size, 2, none⟩ = some (.int .i64 y.kind) := Lib.cell_of_heap ((ha.block (w2.heap.size) (heap_lt TEw7.out)).trans TEw7.out) 2
    have e3 : (w7.alloc (.cells #[.int .u64 y.term, .int .u64 y.index, .int .i64 y.kind, .int .u64 y.client, .int .u64 y.seq, .int .u64 y.block, .int .u64 y.many, .int .i64 y.node, .int .i64 y.level, .string y.data, .string y.old] EntT)).cell? ⟨w2.heap.size, 3, none⟩ = some (.int .u64 y.client) := Lib.cell_of_heap ((ha.block (w2.heap.size) (heap_lt TEw7.out)).trans TEw7.out) 3
    have e4 : (w7.alloc (.cells #[.int .u64 y.term, .int .u64 y.index, .int .i64 y.kind, .int .u64 y.client, .int .u64 y.seq, .int .u64 y.block, .int .u64 y.many, .int .i64 y.node, .int .i64 y.level, .string y.data, .string y.old] EntT)).cell? ⟨w2.heap.size, 4, none⟩ = some (.int .u64 y.seq) := Lib.cell_of_heap ((ha.block (w2.heap.size) (heap_lt TEw7.out)).trans TEw7.out) 4
    have e5 : (w7.alloc (.cells #[.int .u64 y.term, .int .u64 y.index, .int .i64 y.kind, .int .u64 y.client, .int .u64 y.seq, .int .u64 y.block, .int .u64 y.many, .int .i64 y.node, .int .i64 y.level, .string y.data, .string y.old] EntT)).cell? ⟨w2.heap.size, 5, none⟩ = some (.int .u64 y.block) := Lib.cell_of_heap ((ha.block (w2.heap.size) (heap_lt TEw7.out)).trans TEw7.out) 5
    have e6 : (w7.alloc (.cells #[.int .u64 y.term, .int .u64 y.index, .int .i64 y.kind, .int .u64 y.client, .int .u64 y.seq, .int .u64 y.block, .int .u64 y.many, .int .i64 y.node, .int .i64 y.level, .string y.data, .string y.old] EntT)).cell? ⟨w2.heap.size, 6, none⟩ = some (.int .u64 y.many) := Lib.cell_of_heap ((ha.block (w2.heap.size) (heap_lt TEw7.out)).trans TEw7.out) 6
    have e7 : (w7.alloc (.cells #[.int .u64 y.term, .int .u64 y.index, .int .i64 y.kind, .int .u64 y.client, .int .u64 y.seq, .int .u64 y.block, .int .u64 y.many, .int .i64 y.node, .int .i64 y.level, .string y.data, .string y.old] EntT)).cell? ⟨w2.heap.size, 7, none⟩ = some (.int .i64 y.node) := Lib.cell_of_heap ((ha.block (w2.heap.size) (heap_lt TEw7.out)).trans TEw7.out) 7
    have e8 : (w7.alloc (.cells #[.int .u64 y.term, .int .u64 y.index, .int .i64 y.kind, .int .u64 y.client, .int .u64 y.seq, .int .u64 y.block, .int .u64 y.many, .int .i64 y.node, .int .i64 y.level, .string y.data, .string y.old] EntT)).cell? ⟨w2.heap.size, 8, none⟩ = some (.int .i64 y.level) := Lib.cell_of_heap ((ha.block (w2.heap.size) (heap_lt TEw7.out)).trans TEw7.out) 8
    have e9 : (w7.alloc (.cells #[.int .u64 y.term, .int .u64 y.index, .int .i64 y.kind, .int .u64 y.client, .int .u64 y.seq, .int .u64 y.block, .int .u64 y.many, .int .i64 y.node, .int .i64 y.level, .string y.data, .string y.old] EntT)).cell? ⟨w2.heap.size, 9, none⟩ = some (.string y.data) := Lib.cell_of_heap ((ha.block (w2.heap.size) (heap_lt TEw7.out)).trans TEw7.out) 9
    have e10 : (w7.alloc (.cells #[.int .u64 y.term, .int .u64 y.index, .int .i64 y.kind, .int .u64 y.client, .int .u64 y.seq, .int .u64 y.block, .int .u64 y.many, .int .i64 y.node, .int .i64 y.level, .string y.data, .string y.old] EntT)).cell? ⟨w2.heap.size, 10, none⟩ = some (.string y.old) := Lib.cell_of_heap ((ha.block (w2.heap.size) (heap_lt TEw7.out)).trans TEw7.out) 10
    go_wp2_with fail
    refine (HLEV.out _).mono ?_
    rintro x w8 ⟨rfl, hb⟩
    have TEw8 := Lib.hid ((hb.block (w2.heap.size) (heap_lt ((ha.block (w2.heap.size) (heap_lt TEw7.out)).trans TEw7.out))).trans ((ha.block (w2.heap.size) (heap_lt TEw7.out)).trans TEw7.out))
    have TFw8 := Lib.hid ((hb.block (w3.heap.size) (heap_lt ((ha.block (w3.heap.size) (heap_lt TFw7.out)).trans TFw7.out))).trans ((ha.block (w3.heap.size) (heap_lt TFw7.out)).trans TFw7.out))
    have TXw8 := Lib.hid ((hb.block (w6.heap.size) (heap_lt ((ha.block (w6.heap.size) (heap_lt TXw7.out)).trans TXw7.out))).trans ((ha.block (w6.heap.size) (heap_lt TXw7.out)).trans TXw7.out))
    have TYw8 := Lib.hid ((hb.block (w7.heap.size) (heap_lt (heap_alloc_new w7 (.cells #[.int .u64 y.term, .int .u64 y.index, .int .i64 y.kind, .int .u64 y.client, .int .u64 y.seq, .int .u64 y.block, .int .u64 y.many, .int .i64 y.node, .int .i64 y.level, .string y.data, .string y.old] EntT)))).trans (heap_alloc_new w7 (.cells #[.int .u64 y.term, .int .u64 y.index, .int .i64 y.kind, .int .u64 y.client, .int .u64 y.seq, .int .u64 y.block, .int .u64 y.many, .int .i64 y.node, .int .i64 y.level, .string y.data, .string y.old] EntT)))
    have HBw8 := Lib.hid (bstep (bstep HBw7.out (Nat.le_refl _) ha) (Nat.le_refl _) hb)
    have HSw8 := Lib.hid ((HSw7.out.below ha).below hb)
    clear hb TEw7 TFw7 TXw7 HBw7 ha HSw7 HLEV e0 e1 e2 e3 e4 e5 e6 e7 e8 e9 e10
    have e0 : w8.cell? ⟨w2.heap.size, 0, none⟩ = some (.int .u64 y.term) := Lib.cell_of_heap TEw8.out 0
    have e1 : w8.cell? ⟨w2.heap.size, 1, none⟩ = some (.int .u64 y.index) := Lib.cell_of_heap TEw8.out 1
    have e2 : w8.cell? ⟨w2.heap.size, 2, none⟩ = some (.int .i64 y.kind) := Lib.cell_of_heap TEw8.out 2
    have e3 : w8.cell? ⟨w2.heap.size, 3, none⟩ = some (.int .u64 y.client) := Lib.cell_of_heap TEw8.out 3
    have e4 : w8.cell? ⟨w2.heap.size, 4, none⟩ = some (.int .u64 y.seq) := Lib.cell_of_heap TEw8.out 4
    have e5 : w8.cell? ⟨w2.heap.size, 5, none⟩ = some (.int .u64 y.block) := Lib.cell_of_heap TEw8.out 5
    have e6 : w8.cell? ⟨w2.heap.size, 6, none⟩ = some (.int .u64 y.many) := Lib.cell_of_heap TEw8.out 6
    have e7 : w8.cell? ⟨w2.heap.size, 7, none⟩ = some (.int .i64 y.node) := Lib.cell_of_heap TEw8.out 7
    have e8 : w8.cell? ⟨w2.heap.size, 8, none⟩ = some (.int .i64 y.level) := Lib.cell_of_heap TEw8.out 8
    have e9 : w8.cell? ⟨w2.heap.size, 9, none⟩ = some (.string y.data) := Lib.cell_of_heap TEw8.out 9
    have e10 : w8.cell? ⟨w2.heap.size, 10, none⟩ = some (.string y.old) := Lib.cell_of_heap TEw8.out 10
    have x0 : w8.cell? ⟨w6.heap.size, 0, none⟩ = some (.int .u64 0) := Lib.cell_of_heap TXw8.out 0
    have x1 : w8.cell? ⟨w6.heap.size, 1, none⟩ = some (.int .u64 0) := Lib.cell_of_heap TXw8.out 1
    have x2 : w8.cell? ⟨w6.heap.size, 2, none⟩ = some (.int .i64 0) := Lib.cell_of_heap TXw8.out 2
    have x3 : w8.cell? ⟨w6.heap.size, 3, none⟩ = some (.int .u64 0) := Lib.cell_of_heap TXw8.out 3
    have x4 : w8.cell? ⟨w6.heap.size, 4, none⟩ = some (.int .u64 0) := Lib.cell_of_heap TXw8.out 4
    have x5 : w8.cell? ⟨w6.heap.size, 5, none⟩ = some (.int .u64 0) := Lib.cell_of_heap TXw8.out 5
    have x6 : w8.cell? ⟨w6.heap.size, 6, none⟩ = some (.int .u64 0) := Lib.cell_of_heap TXw8.out 6
    have x7 : w8.cell? ⟨w6.heap.size, 7, none⟩ = some (.int .i64 0) := Lib.cell_of_heap TXw8.out 7
    have x8 : w8.cell? ⟨w6.heap.size, 8, none⟩ = some (.int .i64 0) := Lib.cell_of_heap TXw8.out 8
    have x9 : w8.cell? ⟨w6.heap.size, 9, none⟩ = some (.string ⟨#[]⟩) := Lib.cell_of_heap TXw8.out 9
    have x10 : w8.cell? ⟨w6.heap.size, 10, none⟩ = some (.string ⟨#[]⟩) := Lib.cell_of_heap TXw8.out 10
    have y0 : w8.cell? ⟨w7.heap.size, 0, none⟩ = some (.int .u64 y.term) := Lib.cell_of_heap TYw8.out 0
    have y1 : w8.cell? ⟨w7.heap.size, 1, none⟩ = some (.int .u64 y.index) := Lib.cell_of_heap TYw8.out 1
    have y2 : w8.cell? ⟨w7.heap.size, 2, none⟩ = some (.int .i64 y.kind) := Lib.cell_of_heap TYw8.out 2
    have y3 : w8.cell? ⟨w7.heap.size, 3, none⟩ = some (.int .u64 y.client) := Lib.cell_of_heap TYw8.out 3
    have y4 : w8.cell? ⟨w7.heap.size, 4, none⟩ = some (.int .u64 y.seq) := Lib.cell_of_heap TYw8.out 4
    have y5 : w8.cell? ⟨w7.heap.size, 5, none⟩ = some (.int .u64 y.block) := Lib.cell_of_heap TYw8.out 5
    have y6 : w8.cell? ⟨w7.heap.size, 6, none⟩ = some (.int .u64 y.many) := Lib.cell_of_heap TYw8.out 6
    have y7 : w8.cell? ⟨w7.heap.size, 7, none⟩ = some (.int .i64 y.node) := Lib.cell_of_heap TYw8.out 7
    have y8 : w8.cell? ⟨w7.heap.size, 8, none⟩ = some (.int .i64 y.level) := Lib.cell_of_heap TYw8.out 8
    have y9 : w8.cell? ⟨w7.heap.size, 9, none⟩ = some (.string y.data) := Lib.cell_of_heap TYw8.out 9
    have y10 : w8.cell? ⟨w7.heap.size, 10, none⟩ = some (.string y.old) := Lib.cell_of_heap TYw8.out 10
    have f0 : w8.cell? ⟨w3.heap.size, 0, none⟩ = some (.int .i64 M.kind) := Lib.cell_of_heap TFw8.out 0
    have f1 : w8.cell? ⟨w3.heap.size, 1, none⟩ = some (.int .i64 M.frm) := Lib.cell_of_heap TFw8.out 1
    have f2 : w8.cell? ⟨w3.heap.size, 2, none⟩ = some (.int .i64 M.to) := Lib.cell_of_heap TFw8.out 2
    have f3 : w8.cell? ⟨w3.heap.size, 3, none⟩ = some (.int .u64 M.term) := Lib.cell_of_heap TFw8.out 3
    have f4 : w8.cell? ⟨w3.heap.size, 4, none⟩ = some (.int .u64 M.index) := Lib.cell_of_heap TFw8.out 4
    have f5 : w8.cell? ⟨w3.heap.size, 5, none⟩ = some (.int .u64 M.prev) := Lib.cell_of_heap TFw8.out 5
    have f6 : w8.cell? ⟨w3.heap.size, 6, none⟩ = some (.int .u64 M.commit) := Lib.cell_of_heap TFw8.out 6
    have f7 : w8.cell? ⟨w3.heap.size, 7, none⟩ = some (.int .u64 M.mark) := Lib.cell_of_heap TFw8.out 7
    have f8 : w8.cell? ⟨w3.heap.size, 8, none⟩ = some (.bool M.ok) := Lib.cell_of_heap TFw8.out 8
    have f9 : w8.cell? ⟨w3.heap.size, 9, none⟩ = some (.slice va M.entries.length vc) := Lib.cell_of_heap TFw8.out 9
    have f10 : w8.cell? ⟨w3.heap.size, 10, none⟩ = some (.string M.snap) := Lib.cell_of_heap TFw8.out 10
    have heq := HEQ.out
    go_wp2_with fail
    clear heq HEQ e0 e1 e2 e3 e4 e5 e6 e7 e8 e9 e10 x0 x1 x2 x3 x4 x5 x6 x7 x8 x9 x10 y0 y1 y2 y3 y4 y5 y6 y7 y8 y9 y10 TEw8 TXw8 TYw8
    rcases level_two M with hM | hM
    · have hpm := fun sv W hW => frPutM_one M HSM.out HRM.out hM sv W hW
      have hgm := fun W => frGetM_one M HSM.out HRM.out hM W
      have hsh := HSHIM.out
      have hml := HMLEV.out
      rw [(shim_one M hM).1, (shim_one M hM).2] at hsh
      rw [hM] at hml
      have hsame := fun s1 s2 W => same_own M HSM.out s1 s2 W
      generalize packL 1 (putFM M) = p at hpm hgm
      simp only [Msg.cells] at hpm hgm hsh hsame
      have HPM := Lib.hid hpm
      have HGM := Lib.hid hgm
      have HSH := Lib.hid hsh
      have HML := Lib.hid hml
      have HSAME := Lib.hid hsame
      clear hpm hgm hsh hml hsame HSHIM HMLEV hM
      refine (HPM.out _ _ HSw8.out).mono ?_
      rintro x w9 ⟨rfl, hb⟩
      have TFw9 := Lib.hid ((hb.block (w3.heap.size) (heap_lt TFw8.out)).trans TFw8.out)
      have HBw9 := Lib.hid (bstep HBw8.out (Nat.le_refl _) hb)
      have HSw9 := Lib.hid (HSw8.out.below hb)
      clear hb TFw8 HBw8 HSw8 f0 f1 f2 f3 f4 f5 f6 f7 f8 f9 f10
      go_wp2_with fail
      refine (HGM.out _).mono ?_
      rintro x w10 ⟨sv2, rfl, he, hb⟩
      obtain ⟨va2, vc2, rfl, -⟩ := id he
      have HS2w10 := Lib.hid he
      have TFw10 := Lib.hid ((hb.block (w3.heap.size) (heap_lt TFw9.out)).trans TFw9.out)
      have HBw10 := Lib.hid (bstep HBw9.out (Nat.le_refl _) hb)
      have HSw10 := Lib.hid (HSw9.out.below hb)
      clear hb TFw9 HBw9 HSw9 he HGM
      have ha := (Below.refl w10.heap.size w10).alloc (Nat.le_refl _) (.cells #[.int .i64 M.kind, .int .i64 M.frm, .int .i64 M.to, .int .u64 M.term, .int .u64 M.index, .int .u64 M.prev, .int .u64 M.commit, .int .u64 M.mark, .bool M.ok, .slice va2 M.entries.length vc2, .string M.snap] MsgT)
      have f0 : (w10.alloc (.cells #[.int .i64 M.kind, .int .i64 M.frm, .int .i64 M.to, .int .u64 M.term, .int .u64 M.index, .int .u64 M.prev, .int .u64 M.commit, .int .u64 M.mark, .bool M.ok, .slice va2 M.entries.length vc2, .string M.snap] MsgT)).cell? ⟨w3.heap.size, 0, none⟩ = some (.int .i64 M.kind) := Lib.cell_of_heap ((ha.block (w3.heap.size) (heap_lt TFw10.out)).trans TFw10.out) 0
      have f1 : (w10.alloc (.cells #[.int .i64 M.kind, .int .i64 M.frm, .int .i64 M.to, .int .u64 M.term, .int .u64 M.index, .int .u64 M.prev, .int .u64 M.commit, .int .u64 M.mark, .bool M.ok, .slice va2 M.entries.length vc2, .string M.snap] MsgT)).cell? ⟨w3.heap.size, 1, none⟩ = some (.int .i64 M.frm) := Lib.cell_of_heap ((ha.block (w3.heap.size) (heap_lt TFw10.out)).trans TFw10.out) 1
      have f2 : (w10.alloc (.cells #[.int .i64 M.kind, .int .i64 M.frm, .int .i64 M.to, .int .u64 M.term, .int .u64 M.index, .int .u64 M.prev, .int .u64 M.commit, .int .u64 M.mark, .bool M.ok, .slice va2 M.entries.length vc2, .string M.snap] MsgT)).cell? ⟨w3.heap.size, 2, none⟩ = some (.int .i64 M.to) := Lib.cell_of_heap ((ha.block (w3.heap.size) (heap_lt TFw10.out)).trans TFw10.out) 2
      have f3 : (w10.alloc (.cells #[.int .i64 M.kind, .int .i64 M.frm, .int .i64 M.to, .int .u64 M.term, .int .u64 M.index, .int .u64 M.prev, .int .u64 M.commit, .int .u64 M.mark, .bool M.ok, .slice va2 M.entries.length vc2, .string M.snap] MsgT)).cell? ⟨w3.heap.size, 3, none⟩ = some (.int .u64 M.term) := Lib.cell_of_heap ((ha.block (w3.heap.size) (heap_lt TFw10.out)).trans TFw10.out) 3
      have f4 : (w10.alloc (.cells #[.int .i64 M.kind, .int .i64 M.frm, .int .i64 M.to, .int .u64 M.term, .int .u64 M.index, .int .u64 M.prev, .int .u64 M.commit, .int .u64 M.mark, .bool M.ok, .slice va2 M.entries.length vc2, .string M.snap] MsgT)).cell? ⟨w3.heap.size, 4, none⟩ = some (.int .u64 M.index) := Lib.cell_of_heap ((ha.block (w3.heap.size) (heap_lt TFw10.out)).trans TFw10.out) 4
      have f5 : (w10.alloc (.cells #[.int .i64 M.kind, .int .i64 M.frm, .int .i64 M.to, .int .u64 M.term, .int .u64 M.index, .int .u64 M.prev, .int .u64 M.commit, .int .u64 M.mark, .bool M.ok, .slice va2 M.entries.length vc2, .string M.snap] MsgT)).cell? ⟨w3.heap.size, 5, none⟩ = some (.int .u64 M.prev) := Lib.cell_of_heap ((ha.block (w3.heap.size) (heap_lt TFw10.out)).trans TFw10.out) 5
      have f6 : (w10.alloc (.cells #[.int .i64 M.kind, .int .i64 M.frm, .int .i64 M.to, .int .u64 M.term, .int .u64 M.index, .int .u64 M.prev, .int .u64 M.commit, .int .u64 M.mark, .bool M.ok, .slice va2 M.entries.length vc2, .string M.snap] MsgT)).cell? ⟨w3.heap.size, 6, none⟩ = some (.int .u64 M.commit) := Lib.cell_of_heap ((ha.block (w3.heap.size) (heap_lt TFw10.out)).trans TFw10.out) 6
      have f7 : (w10.alloc (.cells #[.int .i64 M.kind, .int .i64 M.frm, .int .i64 M.to, .int .u64 M.term, .int .u64 M.index, .int .u64 M.prev, .int .u64 M.commit, .int .u64 M.mark, .bool M.ok, .slice va2 M.entries.length vc2, .string M.snap] MsgT)).cell? ⟨w3.heap.size, 7, none⟩ = some (.int .u64 M.mark) := Lib.cell_of_heap ((ha.block (w3.heap.size) (heap_lt TFw10.out)).trans TFw10.out) 7
      have f8 : (w10.alloc (.cells #[.int .i64 M.kind, .int .i64 M.frm, .int .i64 M.to, .int .u64 M.term, .int .u64 M.index, .int .u64 M.prev, .int .u64 M.commit, .int .u64 M.mark, .bool M.ok, .slice va2 M.entries.length vc2, .string M.snap] MsgT)).cell? ⟨w3.heap.size, 8, none⟩ = some (.bool M.ok) := Lib.cell_of_heap ((ha.block (w3.heap.size) (heap_lt TFw10.out)).trans TFw10.out) 8
      have f9 : (w10.alloc (.cells #[.int .i64 M.kind, .int .i64 M.frm, .int .i64 M.to, .int .u64 M.term, .int .u64 M.index, .int .u64 M.prev, .int .u64 M.commit, .int .u64 M.mark, .bool M.ok, .slice va2 M.entries.length vc2, .string M.snap] MsgT)).cell? ⟨w3.heap.size, 9, none⟩ = some (.slice va M.entries.length vc) := Lib.cell_of_heap ((ha.block (w3.heap.size) (heap_lt TFw10.out)).trans TFw10.out) 9
      have f10 : (w10.alloc (.cells #[.int .i64 M.kind, .int .i64 M.frm, .int .i64 M.to, .int .u64 M.term, .int .u64 M.index, .int .u64 M.prev, .int .u64 M.commit, .int .u64 M.mark, .bool M.ok, .slice va2 M.entries.length vc2, .string M.snap] MsgT)).cell? ⟨w3.heap.size, 10, none⟩ = some (.string M.snap) := Lib.cell_of_heap ((ha.block (w3.heap.size) (heap_lt TFw10.out)).trans TFw10.out) 10
      go_wp2_with fail
      refine (HSH.out _ _ (HSw10.out.below ha)).mono ?_
      rintro x w11 ⟨sv3, rfl, he, hb⟩
      obtain ⟨va3, vc3, rfl, -⟩ := id he
      have HS3w11 := Lib.hid he
      have TFw11 := Lib.hid ((hb.block (w3.heap.size) (heap_lt ((ha.block (w3.heap.size) (heap_lt TFw10.out)).trans TFw10.out))).trans ((ha.block (w3.heap.size) (heap_lt TFw10.out)).trans TFw10.out))
      have TNw11 := Lib.hid ((hb.block (w10.heap.size) (heap_lt (heap_alloc_new w10 (.cells #[.int .i64 M.kind, .int .i64 M.frm, .int .i64 M.to, .int .u64 M.term, .int .u64 M.index, .int .u64 M.prev, .int .u64 M.commit, .int .u64 M.mark, .bool M.ok, .slice va2 M.entries.length vc2, .string M.snap] MsgT)))).trans (heap_alloc_new w10 (.cells #[.int .i64 M.kind, .int .i64 M.frm, .int .i64 M.to, .int .u64 M.term, .int .u64 M.index, .int .u64 M.prev, .int .u64 M.commit, .int .u64 M.mark, .bool M.ok, .slice va2 M.entries.length vc2, .string M.snap] MsgT)))
      have HBw11 := Lib.hid (bstep (bstep HBw10.out (Nat.le_refl _) ha) (Nat.le_refl _) hb)
      have HSw11 := Lib.hid ((HSw10.out.below ha).below hb)
      have HS2w11 := Lib.hid ((HS2w10.out.below ha).below hb)
      clear hb TFw10 HBw10 ha he HSw10 HS2w10 HSH f0 f1 f2 f3 f4 f5 f6 f7 f8 f9 f10
      have ha := (Below.refl w11.heap.size w11).alloc (Nat.le_refl _) (.cells #[.int .i64 M.kind, .int .i64 M.frm, .int .i64 M.to, .int .u64 M.term, .int .u64 M.index, .int .u64 M.prev, .int .u64 M.commit, .int .u64 M.mark, .bool M.ok, .slice va3 M.entries.length vc3, .string M.snap] MsgT)
      go_wp2_with fail
      refine (HPM.out _ _ (HS3w11.out.below ha)).mono ?_
      rintro x w12 ⟨rfl, hb⟩
      have TFw12 := Lib.hid ((hb.block (w3.heap.size) (heap_lt ((ha.block (w3.heap.size) (heap_lt TFw11.out)).trans TFw11.out))).trans ((ha.block (w3.heap.size) (heap_lt TFw11.out)).trans TFw11.out))
      have TNw12 := Lib.hid ((hb.block (w10.heap.size) (heap_lt ((ha.block (w10.heap.size) (heap_lt TNw11.out)).trans TNw11.out))).trans ((ha.block (w10.heap.size) (heap_lt TNw11.out)).trans TNw11.out))
      have TZw12 := Lib.hid ((hb.block (w11.heap.size) (heap_lt (heap_alloc_new w11 (.cells #[.int .i64 M.kind, .int .i64 M.frm, .int .i64 M.to, .int .u64 M.term, .int .u64 M.index, .int .u64 M.prev, .int .u64 M.commit, .int .u64 M.mark, .bool M.ok, .slice va3 M.entries.length vc3, .string M.snap] MsgT)))).trans (heap_alloc_new w11 (.cells #[.int .i64 M.kind, .int .i64 M.frm, .int .i64 M.to, .int .u64 M.term, .int .u64 M.index, .int .u64 M.prev, .int .u64 M.commit, .int .u64 M.mark, .bool M.ok, .slice va3 M.entries.length vc3, .string M.snap] MsgT)))
      have HBw12 := Lib.hid (bstep (bstep HBw11.out (Nat.le_refl _) ha) (Nat.le_refl _) hb)
      have HSw12 := Lib.hid ((HSw11.out.below ha).below hb)
      have HS2w12 := Lib.hid ((HS2w11.out.below ha).below hb)
      clear hb TFw11 TNw11 HBw11 ha HSw11 HS2w11 HS3w11 HPM
      have f0 : w12.cell? ⟨w3.heap.size, 0, none⟩ = some (.int .i64 M.kind) := Lib.cell_of_heap TFw12.out 0
      have f1 : w12.cell? ⟨w3.heap.size, 1, none⟩ = some (.int .i64 M.frm) := Lib.cell_of_heap TFw12.out 1
      have f2 : w12.cell? ⟨w3.heap.size, 2, none⟩ = some (.int .i64 M.to) := Lib.cell_of_heap TFw12.out 2
      have f3 : w12.cell? ⟨w3.heap.size, 3, none⟩ = some (.int .u64 M.term) := Lib.cell_of_heap TFw12.out 3
      have f4 : w12.cell? ⟨w3.heap.size, 4, none⟩ = some (.int .u64 M.index) := Lib.cell_of_heap TFw12.out 4
      have f5 : w12.cell? ⟨w3.heap.size, 5, none⟩ = some (.int .u64 M.prev) := Lib.cell_of_heap TFw12.out 5
      have f6 : w12.cell? ⟨w3.heap.size, 6, none⟩ = some (.int .u64 M.commit) := Lib.cell_of_heap TFw12.out 6
      have f7 : w12.cell? ⟨w3.heap.size, 7, none⟩ = some (.int .u64 M.mark) := Lib.cell_of_heap TFw12.out 7
      have f8 : w12.cell? ⟨w3.heap.size, 8, none⟩ = some (.bool M.ok) := Lib.cell_of_heap TFw12.out 8
      have f9 : w12.cell? ⟨w3.heap.size, 9, none⟩ = some (.slice va M.entries.length vc) := Lib.cell_of_heap TFw12.out 9
      have f10 : w12.cell? ⟨w3.heap.size, 10, none⟩ = some (.string M.snap) := Lib.cell_of_heap TFw12.out 10
      go_wp2_with fail
      refine (HML.out _ _ HSw12.out).mono ?_
      rintro x w13 ⟨rfl, hb⟩
      have TFw13 := Lib.hid ((hb.block (w3.heap.size) (heap_lt TFw12.out)).trans TFw12.out)
      have TNw13 := Lib.hid ((hb.block (w10.heap.size) (heap_lt TNw12.out)).trans TNw12.out)
      have TZw13 := Lib.hid ((hb.block (w11.heap.size) (heap_lt TZw12.out)).trans TZw12.out)
      have HBw13 := Lib.hid (bstep HBw12.out (Nat.le_refl _) hb)
      have HSw13 := Lib.hid (HSw12.out.below hb)
      have HS2w13 := Lib.hid (HS2w12.out.below hb)
      clear hb TFw12 TNw12 TZw12 HBw12 HSw12 HS2w12 HML f0 f1 f2 f3 f4 f5 f6 f7 f8 f9 f10
      have f0 : w13.cell? ⟨w3.heap.size, 0, none⟩ = some (.int .i64 M.kind) := Lib.cell_of_heap TFw13.out 0
      have f1 : w13.cell? ⟨w3.heap.size, 1, none⟩ = some (.int .i64 M.frm) := Lib.cell_of_heap TFw13.out 1
      have f2 : w13.cell? ⟨w3.heap.size, 2, none⟩ = some (.int .i64 M.to) := Lib.cell_of_heap TFw13.out 2
      have f3 : w13.cell? ⟨w3.heap.size, 3, none⟩ = some (.int .u64 M.term) := Lib.cell_of_heap TFw13.out 3
      have f4 : w13.cell? ⟨w3.heap.size, 4, none⟩ = some (.int .u64 M.index) := Lib.cell_of_heap TFw13.out 4
      have f5 : w13.cell? ⟨w3.heap.size, 5, none⟩ = some (.int .u64 M.prev) := Lib.cell_of_heap TFw13.out 5
      have f6 : w13.cell? ⟨w3.heap.size, 6, none⟩ = some (.int .u64 M.commit) := Lib.cell_of_heap TFw13.out 6
      have f7 : w13.cell? ⟨w3.heap.size, 7, none⟩ = some (.int .u64 M.mark) := Lib.cell_of_heap TFw13.out 7
      have f8 : w13.cell? ⟨w3.heap.size, 8, none⟩ = some (.bool M.ok) := Lib.cell_of_heap TFw13.out 8
      have f9 : w13.cell? ⟨w3.heap.size, 9, none⟩ = some (.slice va M.entries.length vc) := Lib.cell_of_heap TFw13.out 9
      have f10 : w13.cell? ⟨w3.heap.size, 10, none⟩ = some (.string M.snap) := Lib.cell_of_heap TFw13.out 10
      have n0 : w13.cell? ⟨w10.heap.size, 0, none⟩ = some (.int .i64 M.kind) := Lib.cell_of_heap TNw13.out 0
      have n1 : w13.cell? ⟨w10.heap.size, 1, none⟩ = some (.int .i64 M.frm) := Lib.cell_of_heap TNw13.out 1
      have n2 : w13.cell? ⟨w10.heap.size, 2, none⟩ = some (.int .i64 M.to) := Lib.cell_of_heap TNw13.out 2
      have n3 : w13.cell? ⟨w10.heap.size, 3, none⟩ = some (.int .u64 M.term) := Lib.cell_of_heap TNw13.out 3
      have n4 : w13.cell? ⟨w10.heap.size, 4, none⟩ = some (.int .u64 M.index) := Lib.cell_of_heap TNw13.out 4
      have n5 : w13.cell? ⟨w10.heap.size, 5, none⟩ = some (.int .u64 M.prev) := Lib.cell_of_heap TNw13.out 5
      have n6 : w13.cell? ⟨w10.heap.size, 6, none⟩ = some (.int .u64 M.commit) := Lib.cell_of_heap TNw13.out 6
      have n7 : w13.cell? ⟨w10.heap.size, 7, none⟩ = some (.int .u64 M.mark) := Lib.cell_of_heap TNw13.out 7
      have n8 : w13.cell? ⟨w10.heap.size, 8, none⟩ = some (.bool M.ok) := Lib.cell_of_heap TNw13.out 8
      have n9 : w13.cell? ⟨w10.heap.size, 9, none⟩ = some (.slice va2 M.entries.length vc2) := Lib.cell_of_heap TNw13.out 9
      have n10 : w13.cell? ⟨w10.heap.size, 10, none⟩ = some (.string M.snap) := Lib.cell_of_heap TNw13.out 10
      go_wp2_with fail
      refine (HSAME.out _ _ _ (HT.out.next HBw13.out) HSw13.out HS2w13.out).mono ?_
      rintro x w14 ⟨rfl, hb⟩
      have TFw14 := Lib.hid ((hb.block (w3.heap.size) (heap_lt TFw13.out)).trans TFw13.out)
      have TZw14 := Lib.hid ((hb.block (w11.heap.size) (heap_lt TZw13.out)).trans TZw13.out)
      have HBw14 := Lib.hid (bstep HBw13.out (Nat.le_refl _) hb)
      clear hb TFw13 TNw13 TZw13 HBw13 HSw13 HS2w13 HSAME f0 f1 f2 f3 f4 f5 f6 f7 f8 f9 f10 n0 n1 n2 n3 n4 n5 n6 n7 n8 n9 n10
      have f0 : w14.cell? ⟨w3.heap.size, 0, none⟩ = some (.int .i64 M.kind) := Lib.cell_of_heap TFw14.out 0
      have f1 : w14.cell? ⟨w3.heap.size, 1, none⟩ = some (.int .i64 M.frm) := Lib.cell_of_heap TFw14.out 1
      have f2 : w14.cell? ⟨w3.heap.size, 2, none⟩ = some (.int .i64 M.to) := Lib.cell_of_heap TFw14.out 2
      have f3 : w14.cell? ⟨w3.heap.size, 3, none⟩ = some (.int .u64 M.term) := Lib.cell_of_heap TFw14.out 3
      have f4 : w14.cell? ⟨w3.heap.size, 4, none⟩ = some (.int .u64 M.index) := Lib.cell_of_heap TFw14.out 4
      have f5 : w14.cell? ⟨w3.heap.size, 5, none⟩ = some (.int .u64 M.prev) := Lib.cell_of_heap TFw14.out 5
      have f6 : w14.cell? ⟨w3.heap.size, 6, none⟩ = some (.int .u64 M.commit) := Lib.cell_of_heap TFw14.out 6
      have f7 : w14.cell? ⟨w3.heap.size, 7, none⟩ = some (.int .u64 M.mark) := Lib.cell_of_heap TFw14.out 7
      have f8 : w14.cell? ⟨w3.heap.size, 8, none⟩ = some (.bool M.ok) := Lib.cell_of_heap TFw14.out 8
      have f9 : w14.cell? ⟨w3.heap.size, 9, none⟩ = some (.slice va M.entries.length vc) := Lib.cell_of_heap TFw14.out 9
      have f10 : w14.cell? ⟨w3.heap.size, 10, none⟩ = some (.string M.snap) := Lib.cell_of_heap TFw14.out 10
      have z0 : w14.cell? ⟨w11.heap.size, 0, none⟩ = some (.int .i64 M.kind) := Lib.cell_of_heap TZw14.out 0
      have z1 : w14.cell? ⟨w11.heap.size, 1, none⟩ = some (.int .i64 M.frm) := Lib.cell_of_heap TZw14.out 1
      have z2 : w14.cell? ⟨w11.heap.size, 2, none⟩ = some (.int .i64 M.to) := Lib.cell_of_heap TZw14.out 2
      have z3 : w14.cell? ⟨w11.heap.size, 3, none⟩ = some (.int .u64 M.term) := Lib.cell_of_heap TZw14.out 3
      have z4 : w14.cell? ⟨w11.heap.size, 4, none⟩ = some (.int .u64 M.index) := Lib.cell_of_heap TZw14.out 4
      have z5 : w14.cell? ⟨w11.heap.size, 5, none⟩ = some (.int .u64 M.prev) := Lib.cell_of_heap TZw14.out 5
      have z6 : w14.cell? ⟨w11.heap.size, 6, none⟩ = some (.int .u64 M.commit) := Lib.cell_of_heap TZw14.out 6
      have z7 : w14.cell? ⟨w11.heap.size, 7, none⟩ = some (.int .u64 M.mark) := Lib.cell_of_heap TZw14.out 7
      have z8 : w14.cell? ⟨w11.heap.size, 8, none⟩ = some (.bool M.ok) := Lib.cell_of_heap TZw14.out 8
      have z9 : w14.cell? ⟨w11.heap.size, 9, none⟩ = some (.slice va3 M.entries.length vc3) := Lib.cell_of_heap TZw14.out 9
      have z10 : w14.cell? ⟨w11.heap.size, 10, none⟩ = some (.string M.snap) := Lib.cell_of_heap TZw14.out 10
      go_wp2_with fail
      go_ret
      exact ⟨rfl, HBw14.out⟩
    · have hpm := fun sv W hW => frPutM_two M HSM.out HRM.out hM sv W hW
      have hml := HMLEV.out
      have hsh := HSHIM.out
      have hs2 := shim_two M HSM.out hM
      rw [hM] at hml
      simp only [Msg.cells] at hpm
      have HPM := Lib.hid hpm
      have HML := Lib.hid hml
      have HS2 := Lib.hid hs2
      have HSH0 := Lib.hid hsh
      clear hpm hsh hml hs2 HSHIM HMLEV hM
      refine (HPM.out _ _ HSw8.out).mono ?_
      rintro x w9 ⟨rfl, hb⟩
      have TFw9 := Lib.hid ((hb.block (w3.heap.size) (heap_lt TFw8.out)).trans TFw8.out)
      have HBw9 := Lib.hid (bstep HBw8.out (Nat.le_refl _) hb)
      have HSw9 := Lib.hid (HSw8.out.below hb)
      clear hb TFw8 HBw8 HSw8 HPM f0 f1 f2 f3 f4 f5 f6 f7 f8 f9 f10
      go_wp2_with fail
      refine (frGetM_nil _).mono ?_
      rintro x w10 ⟨rfl, hb⟩
      have TFw10 := Lib.hid ((hb.block (w3.heap.size) (heap_lt TFw9.out)).trans TFw9.out)
      have HBw10 := Lib.hid (bstep HBw9.out (Nat.le_refl _) hb)
      have HSw10 := Lib.hid (HSw9.out.below hb)
      clear hb TFw9 HBw9 HSw9
      have ha := (Below.refl w10.heap.size w10).alloc (Nat.le_refl _) (.cells #[.int .i64 0, .int .i64 0, .int .i64 0, .int .u64 0, .int .u64 0, .int .u64 0, .int .u64 0, .int .u64 0, .bool false, .slice none 0 0, .string ⟨#[]⟩] MsgT)
      have f0 : (w10.alloc (.cells #[.int .i64 0, .int .i64 0, .int .i64 0, .int .u64 0, .int .u64 0, .int .u64 0, .int .u64 0, .int .u64 0, .bool false, .slice none 0 0, .string ⟨#[]⟩] MsgT)).cell? ⟨w3.heap.size, 0, none⟩ = some (.int .i64 M.kind) := Lib.cell_of_heap ((ha.block (w3.heap.size) (heap_lt TFw10.out)).trans TFw10.out) 0
      have f1 : (w10.alloc (.cells #[.int .i64 0, .int .i64 0, .int .i64 0, .int .u64 0, .int .u64 0, .int .u64 0, .int .u64 0, .int .u64 0, .bool false, .slice none 0 0, .string ⟨#[]⟩] MsgT)).cell? ⟨w3.heap.size, 1, none⟩ = some (.int .i64 M.frm) := Lib.cell_of_heap ((ha.block (w3.heap.size) (heap_lt TFw10.out)).trans TFw10.out) 1
      have f2 : (w10.alloc (.cells #[.int .i64 0, .int .i64 0, .int .i64 0, .int .u64 0, .int .u64 0, .int .u64 0, .int .u64 0, .int .u64 0, .bool false, .slice none 0 0, .string ⟨#[]⟩] MsgT)).cell? ⟨w3.heap.size, 2, none⟩ = some (.int .i64 M.to) := Lib.cell_of_heap ((ha.block (w3.heap.size) (heap_lt TFw10.out)).trans TFw10.out) 2
      have f3 : (w10.alloc (.cells #[.int .i64 0, .int .i64 0, .int .i64 0, .int .u64 0, .int .u64 0, .int .u64 0, .int .u64 0, .int .u64 0, .bool false, .slice none 0 0, .string ⟨#[]⟩] MsgT)).cell? ⟨w3.heap.size, 3, none⟩ = some (.int .u64 M.term) := Lib.cell_of_heap ((ha.block (w3.heap.size) (heap_lt TFw10.out)).trans TFw10.out) 3
      have f4 : (w10.alloc (.cells #[.int .i64 0, .int .i64 0, .int .i64 0, .int .u64 0, .int .u64 0, .int .u64 0, .int .u64 0, .int .u64 0, .bool false, .slice none 0 0, .string ⟨#[]⟩] MsgT)).cell? ⟨w3.heap.size, 4, none⟩ = some (.int .u64 M.index) := Lib.cell_of_heap ((ha.block (w3.heap.size) (heap_lt TFw10.out)).trans TFw10.out) 4
      have f5 : (w10.alloc (.cells #[.int .i64 0, .int .i64 0, .int .i64 0, .int .u64 0, .int .u64 0, .int .u64 0, .int .u64 0, .int .u64 0, .bool false, .slice none 0 0, .string ⟨#[]⟩] MsgT)).cell? ⟨w3.heap.size, 5, none⟩ = some (.int .u64 M.prev) := Lib.cell_of_heap ((ha.block (w3.heap.size) (heap_lt TFw10.out)).trans TFw10.out) 5
      have f6 : (w10.alloc (.cells #[.int .i64 0, .int .i64 0, .int .i64 0, .int .u64 0, .int .u64 0, .int .u64 0, .int .u64 0, .int .u64 0, .bool false, .slice none 0 0, .string ⟨#[]⟩] MsgT)).cell? ⟨w3.heap.size, 6, none⟩ = some (.int .u64 M.commit) := Lib.cell_of_heap ((ha.block (w3.heap.size) (heap_lt TFw10.out)).trans TFw10.out) 6
      have f7 : (w10.alloc (.cells #[.int .i64 0, .int .i64 0, .int .i64 0, .int .u64 0, .int .u64 0, .int .u64 0, .int .u64 0, .int .u64 0, .bool false, .slice none 0 0, .string ⟨#[]⟩] MsgT)).cell? ⟨w3.heap.size, 7, none⟩ = some (.int .u64 M.mark) := Lib.cell_of_heap ((ha.block (w3.heap.size) (heap_lt TFw10.out)).trans TFw10.out) 7
      have f8 : (w10.alloc (.cells #[.int .i64 0, .int .i64 0, .int .i64 0, .int .u64 0, .int .u64 0, .int .u64 0, .int .u64 0, .int .u64 0, .bool false, .slice none 0 0, .string ⟨#[]⟩] MsgT)).cell? ⟨w3.heap.size, 8, none⟩ = some (.bool M.ok) := Lib.cell_of_heap ((ha.block (w3.heap.size) (heap_lt TFw10.out)).trans TFw10.out) 8
      have f9 : (w10.alloc (.cells #[.int .i64 0, .int .i64 0, .int .i64 0, .int .u64 0, .int .u64 0, .int .u64 0, .int .u64 0, .int .u64 0, .bool false, .slice none 0 0, .string ⟨#[]⟩] MsgT)).cell? ⟨w3.heap.size, 9, none⟩ = some (.slice va M.entries.length vc) := Lib.cell_of_heap ((ha.block (w3.heap.size) (heap_lt TFw10.out)).trans TFw10.out) 9
      have f10 : (w10.alloc (.cells #[.int .i64 0, .int .i64 0, .int .i64 0, .int .u64 0, .int .u64 0, .int .u64 0, .int .u64 0, .int .u64 0, .bool false, .slice none 0 0, .string ⟨#[]⟩] MsgT)).cell? ⟨w3.heap.size, 10, none⟩ = some (.string M.snap) := Lib.cell_of_heap ((ha.block (w3.heap.size) (heap_lt TFw10.out)).trans TFw10.out) 10
      go_wp2_with fail
      rcases HS2.out with ⟨e1, hzs, hzr, hzl, hf, ht, hte⟩ | ⟨e1, e2⟩
      · have hpz := fun sv W hW => frPutM_one (shimM M) hzs hzr hzl sv W hW
        have hsh := HSH0.out
        rw [e1] at hsh
        generalize packL 1 (putFM (shimM M)) = p at hpz
        generalize shimM M = z at *
        clear hzs hzr hzl e1
        obtain ⟨z0, z1, z2, z3, z4, z5, z6, z7, z8, z10, z9⟩ := z
        simp only at hf ht hte
        subst hf ht hte
        simp only [Msg.cells] at hpz hsh
        have HPZ := Lib.hid hpz
        have HSH := Lib.hid hsh
        clear hpz hsh HSH0
        refine (HSH.out _ _ (HSw10.out.below ha)).mono ?_
        rintro x w11 ⟨sv3, rfl, he, hb⟩
        obtain ⟨va3, vc3, rfl, -⟩ := id he
        have HS3w11 := Lib.hid he
        have TFw11 := Lib.hid ((hb.block (w3.heap.size) (heap_lt ((ha.block (w3.heap.size) (heap_lt TFw10.out)).trans TFw10.out))).trans ((ha.block (w3.heap.size) (heap_lt TFw10.out)).trans TFw10.out))
        have HBw11 := Lib.hid (bstep (bstep HBw10.out (Nat.le_refl _) ha) (Nat.le_refl _) hb)
        have HSw11 := Lib.hid ((HSw10.out.below ha).below hb)
        clear hb TFw10 HBw10 ha he HSw10 HSH f0 f1 f2 f3 f4 f5 f6 f7 f8 f9 f10
        have ha := (Below.refl w11.heap.size w11).alloc (Nat.le_refl _) (.cells #[.int .i64 z0, .int .i64 M.frm, .int .i64 M.to, .int .u64 M.term, .int .u64 z4, .int .u64 z5, .int .u64 z6, .int .u64 z7, .bool z8, .slice va3 z9.length vc3, .string z10] MsgT)
        go_wp2_with fail
        refine (HPZ.out _ _ (HS3w11.out.below ha)).mono ?_
        rintro x w12 ⟨rfl, hb⟩
        have TFw12 := Lib.hid ((hb.block (w3.heap.size) (heap_lt ((ha.block (w3.heap.size) (heap_lt TFw11.out)).trans TFw11.out))).trans ((ha.block (w3.heap.size) (heap_lt TFw11.out)).trans TFw11.out))
        have TZw12 := Lib.hid ((hb.block (w11.heap.size) (heap_lt (heap_alloc_new w11 (.cells #[.int .i64 z0, .int .i64 M.frm, .int .i64 M.to, .int .u64 M.term, .int .u64 z4, .int .u64 z5, .int .u64 z6, .int .u64 z7, .bool z8, .slice va3 z9.length vc3, .string z10] MsgT)))).trans (heap_alloc_new w11 (.cells #[.int .i64 z0, .int .i64 M.frm, .int .i64 M.to, .int .u64 M.term, .int .u64 z4, .int .u64 z5, .int .u64 z6, .int .u64 z7, .bool z8, .slice va3 z9.length vc3, .string z10] MsgT)))
        have HBw12 := Lib.hid (bstep (bstep HBw11.out (Nat.le_refl _) ha) (Nat.le_refl _) hb)
        have HSw12 := Lib.hid ((HSw11.out.below ha).below hb)
        clear hb TFw11 HBw11 ha HSw11 HS3w11 HPZ
        have f0 : w12.cell? ⟨w3.heap.size, 0, none⟩ = some (.int .i64 M.kind) := Lib.cell_of_heap TFw12.out 0
        have f1 : w12.cell? ⟨w3.heap.size, 1, none⟩ = some (.int .i64 M.frm) := Lib.cell_of_heap TFw12.out 1
        have f2 : w12.cell? ⟨w3.heap.size, 2, none⟩ = some (.int .i64 M.to) := Lib.cell_of_heap TFw12.out 2
        have f3 : w12.cell? ⟨w3.heap.size, 3, none⟩ = some (.int .u64 M.term) := Lib.cell_of_heap TFw12.out 3
        have f4 : w12.cell? ⟨w3.heap.size, 4, none⟩ = some (.int .u64 M.index) := Lib.cell_of_heap TFw12.out 4
        have f5 : w12.cell? ⟨w3.heap.size, 5, none⟩ = some (.int .u64 M.prev) := Lib.cell_of_heap TFw12.out 5
        have f6 : w12.cell? ⟨w3.heap.size, 6, none⟩ = some (.int .u64 M.commit) := Lib.cell_of_heap TFw12.out 6
        have f7 : w12.cell? ⟨w3.heap.size, 7, none⟩ = some (.int .u64 M.mark) := Lib.cell_of_heap TFw12.out 7
        have f8 : w12.cell? ⟨w3.heap.size, 8, none⟩ = some (.bool M.ok) := Lib.cell_of_heap TFw12.out 8
        have f9 : w12.cell? ⟨w3.heap.size, 9, none⟩ = some (.slice va M.entries.length vc) := Lib.cell_of_heap TFw12.out 9
        have f10 : w12.cell? ⟨w3.heap.size, 10, none⟩ = some (.string M.snap) := Lib.cell_of_heap TFw12.out 10
        go_wp2_with fail
        refine (HML.out _ _ HSw12.out).mono ?_
        rintro x w13 ⟨rfl, hb⟩
        have TFw13 := Lib.hid ((hb.block (w3.heap.size) (heap_lt TFw12.out)).trans TFw12.out)
        have TZw13 := Lib.hid ((hb.block (w11.heap.size) (heap_lt TZw12.out)).trans TZw12.out)
        have HBw13 := Lib.hid (bstep HBw12.out (Nat.le_refl _) hb)
        clear hb TFw12 TZw12 HBw12 HSw12 HML f0 f1 f2 f3 f4 f5 f6 f7 f8 f9 f10
        have f0 : w13.cell? ⟨w3.heap.size, 0, none⟩ = some (.int .i64 M.kind) := Lib.cell_of_heap TFw13.out 0
        have f1 : w13.cell? ⟨w3.heap.size, 1, none⟩ = some (.int .i64 M.frm) := Lib.cell_of_heap TFw13.out 1
        have f2 : w13.cell? ⟨w3.heap.size, 2, none⟩ = some (.int .i64 M.to) := Lib.cell_of_heap TFw13.out 2
        have f3 : w13.cell? ⟨w3.heap.size, 3, none⟩ = some (.int .u64 M.term) := Lib.cell_of_heap TFw13.out 3
        have f4 : w13.cell? ⟨w3.heap.size, 4, none⟩ = some (.int .u64 M.index) := Lib.cell_of_heap TFw13.out 4
        have f5 : w13.cell? ⟨w3.heap.size, 5, none⟩ = some (.int .u64 M.prev) := Lib.cell_of_heap TFw13.out 5
        have f6 : w13.cell? ⟨w3.heap.size, 6, none⟩ = some (.int .u64 M.commit) := Lib.cell_of_heap TFw13.out 6
        have f7 : w13.cell? ⟨w3.heap.size, 7, none⟩ = some (.int .u64 M.mark) := Lib.cell_of_heap TFw13.out 7
        have f8 : w13.cell? ⟨w3.heap.size, 8, none⟩ = some (.bool M.ok) := Lib.cell_of_heap TFw13.out 8
        have f9 : w13.cell? ⟨w3.heap.size, 9, none⟩ = some (.slice va M.entries.length vc) := Lib.cell_of_heap TFw13.out 9
        have f10 : w13.cell? ⟨w3.heap.size, 10, none⟩ = some (.string M.snap) := Lib.cell_of_heap TFw13.out 10
        have zz0 : w13.cell? ⟨w11.heap.size, 0, none⟩ = some (.int .i64 z0) := Lib.cell_of_heap TZw13.out 0
        have zz1 : w13.cell? ⟨w11.heap.size, 1, none⟩ = some (.int .i64 M.frm) := Lib.cell_of_heap TZw13.out 1
        have zz2 : w13.cell? ⟨w11.heap.size, 2, none⟩ = some (.int .i64 M.to) := Lib.cell_of_heap TZw13.out 2
        have zz3 : w13.cell? ⟨w11.heap.size, 3, none⟩ = some (.int .u64 M.term) := Lib.cell_of_heap TZw13.out 3
        have zz4 : w13.cell? ⟨w11.heap.size, 4, none⟩ = some (.int .u64 z4) := Lib.cell_of_heap TZw13.out 4
        have zz5 : w13.cell? ⟨w11.heap.size, 5, none⟩ = some (.int .u64 z5) := Lib.cell_of_heap TZw13.out 5
        have zz6 : w13.cell? ⟨w11.heap.size, 6, none⟩ = some (.int .u64 z6) := Lib.cell_of_heap TZw13.out 6
        have zz7 : w13.cell? ⟨w11.heap.size, 7, none⟩ = some (.int .u64 z7) := Lib.cell_of_heap TZw13.out 7
        have zz8 : w13.cell? ⟨w11.heap.size, 8, none⟩ = some (.bool z8) := Lib.cell_of_heap TZw13.out 8
        have zz9 : w13.cell? ⟨w11.heap.size, 9, none⟩ = some (.slice va3 z9.length vc3) := Lib.cell_of_heap TZw13.out 9
        have zz10 : w13.cell? ⟨w11.heap.size, 10, none⟩ = some (.string z10) := Lib.cell_of_heap TZw13.out 10
        go_wp2_with fail
        go_ret
        exact ⟨rfl, HBw13.out⟩
      · have hpz := fun sv W hW => frPutM_none sv W hW
        have hsh := HSH0.out
        rw [e1, e2] at hsh
        clear e1 e2
        simp only [Msg.cells, Msg.none] at hpz hsh
        have HPZ := Lib.hid hpz
        have HSH := Lib.hid hsh
        clear hpz hsh HSH0
        refine (HSH.out _ _ (HSw10.out.below ha)).mono ?_
        rintro x w11 ⟨sv3, rfl, he, hb⟩
        obtain ⟨va3, vc3, rfl, -⟩ := id he
        have HS3w11 := Lib.hid he
        have TFw11 := Lib.hid ((hb.block (w3.heap.size) (heap_lt ((ha.block (w3.heap.size) (heap_lt TFw10.out)).trans TFw10.out))).trans ((ha.block (w3.heap.size) (heap_lt TFw10.out)).trans TFw10.out))
        have HBw11 := Lib.hid (bstep (bstep HBw10.out (Nat.le_refl _) ha) (Nat.le_refl _) hb)
        have HSw11 := Lib.hid ((HSw10.out.below ha).below hb)
        clear hb TFw10 HBw10 ha he HSw10 HSH f0 f1 f2 f3 f4 f5 f6 f7 f8 f9 f10
        have ha := (Below.refl w11.heap.size w11).alloc (Nat.le_refl _) (.cells #[.int .i64 0, .int .i64 0, .int .i64 0, .int .u64 0, .int .u64 0, .int .u64 0, .int .u64 0, .int .u64 0, .bool false, .slice va3 ([] : List Ent).length vc3, .string ⟨#[]⟩] MsgT)
        go_wp2_with fail
        refine (HPZ.out _ _ (HS3w11.out.below ha)).mono ?_
        rintro x w12 ⟨rfl, hb⟩
        have TFw12 := Lib.hid ((hb.block (w3.heap.size) (heap_lt ((ha.block (w3.heap.size) (heap_lt TFw11.out)).trans TFw11.out))).trans ((ha.block (w3.heap.size) (heap_lt TFw11.out)).trans TFw11.out))
        have TZw12 := Lib.hid ((hb.block (w11.heap.size) (heap_lt (heap_alloc_new w11 (.cells #[.int .i64 0, .int .i64 0, .int .i64 0, .int .u64 0, .int .u64 0, .int .u64 0, .int .u64 0, .int .u64 0, .bool false, .slice va3 ([] : List Ent).length vc3, .string ⟨#[]⟩] MsgT)))).trans (heap_alloc_new w11 (.cells #[.int .i64 0, .int .i64 0, .int .i64 0, .int .u64 0, .int .u64 0, .int .u64 0, .int .u64 0, .int .u64 0, .bool false, .slice va3 ([] : List Ent).length vc3, .string ⟨#[]⟩] MsgT)))
        have HBw12 := Lib.hid (bstep (bstep HBw11.out (Nat.le_refl _) ha) (Nat.le_refl _) hb)
        have HSw12 := Lib.hid ((HSw11.out.below ha).below hb)
        clear hb TFw11 HBw11 ha HSw11 HS3w11 HPZ
        have f0 : w12.cell? ⟨w3.heap.size, 0, none⟩ = some (.int .i64 M.kind) := Lib.cell_of_heap TFw12.out 0
        have f1 : w12.cell? ⟨w3.heap.size, 1, none⟩ = some (.int .i64 M.frm) := Lib.cell_of_heap TFw12.out 1
        have f2 : w12.cell? ⟨w3.heap.size, 2, none⟩ = some (.int .i64 M.to) := Lib.cell_of_heap TFw12.out 2
        have f3 : w12.cell? ⟨w3.heap.size, 3, none⟩ = some (.int .u64 M.term) := Lib.cell_of_heap TFw12.out 3
        have f4 : w12.cell? ⟨w3.heap.size, 4, none⟩ = some (.int .u64 M.index) := Lib.cell_of_heap TFw12.out 4
        have f5 : w12.cell? ⟨w3.heap.size, 5, none⟩ = some (.int .u64 M.prev) := Lib.cell_of_heap TFw12.out 5
        have f6 : w12.cell? ⟨w3.heap.size, 6, none⟩ = some (.int .u64 M.commit) := Lib.cell_of_heap TFw12.out 6
        have f7 : w12.cell? ⟨w3.heap.size, 7, none⟩ = some (.int .u64 M.mark) := Lib.cell_of_heap TFw12.out 7
        have f8 : w12.cell? ⟨w3.heap.size, 8, none⟩ = some (.bool M.ok) := Lib.cell_of_heap TFw12.out 8
        have f9 : w12.cell? ⟨w3.heap.size, 9, none⟩ = some (.slice va M.entries.length vc) := Lib.cell_of_heap TFw12.out 9
        have f10 : w12.cell? ⟨w3.heap.size, 10, none⟩ = some (.string M.snap) := Lib.cell_of_heap TFw12.out 10
        go_wp2_with fail
        refine (HML.out _ _ HSw12.out).mono ?_
        rintro x w13 ⟨rfl, hb⟩
        have TFw13 := Lib.hid ((hb.block (w3.heap.size) (heap_lt TFw12.out)).trans TFw12.out)
        have TZw13 := Lib.hid ((hb.block (w11.heap.size) (heap_lt TZw12.out)).trans TZw12.out)
        have HBw13 := Lib.hid (bstep HBw12.out (Nat.le_refl _) hb)
        clear hb TFw12 TZw12 HBw12 HSw12 HML f0 f1 f2 f3 f4 f5 f6 f7 f8 f9 f10
        have f0 : w13.cell? ⟨w3.heap.size, 0, none⟩ = some (.int .i64 M.kind) := Lib.cell_of_heap TFw13.out 0
        have f1 : w13.cell? ⟨w3.heap.size, 1, none⟩ = some (.int .i64 M.frm) := Lib.cell_of_heap TFw13.out 1
        have f2 : w13.cell? ⟨w3.heap.size, 2, none⟩ = some (.int .i64 M.to) := Lib.cell_of_heap TFw13.out 2
        have f3 : w13.cell? ⟨w3.heap.size, 3, none⟩ = some (.int .u64 M.term) := Lib.cell_of_heap TFw13.out 3
        have f4 : w13.cell? ⟨w3.heap.size, 4, none⟩ = some (.int .u64 M.index) := Lib.cell_of_heap TFw13.out 4
        have f5 : w13.cell? ⟨w3.heap.size, 5, none⟩ = some (.int .u64 M.prev) := Lib.cell_of_heap TFw13.out 5
        have f6 : w13.cell? ⟨w3.heap.size, 6, none⟩ = some (.int .u64 M.commit) := Lib.cell_of_heap TFw13.out 6
        have f7 : w13.cell? ⟨w3.heap.size, 7, none⟩ = some (.int .u64 M.mark) := Lib.cell_of_heap TFw13.out 7
        have f8 : w13.cell? ⟨w3.heap.size, 8, none⟩ = some (.bool M.ok) := Lib.cell_of_heap TFw13.out 8
        have f9 : w13.cell? ⟨w3.heap.size, 9, none⟩ = some (.slice va M.entries.length vc) := Lib.cell_of_heap TFw13.out 9
        have f10 : w13.cell? ⟨w3.heap.size, 10, none⟩ = some (.string M.snap) := Lib.cell_of_heap TFw13.out 10
        have zz0 : w13.cell? ⟨w11.heap.size, 0, none⟩ = some (.int .i64 0) := Lib.cell_of_heap TZw13.out 0
        have zz1 : w13.cell? ⟨w11.heap.size, 1, none⟩ = some (.int .i64 0) := Lib.cell_of_heap TZw13.out 1
        have zz2 : w13.cell? ⟨w11.heap.size, 2, none⟩ = some (.int .i64 0) := Lib.cell_of_heap TZw13.out 2
        have zz3 : w13.cell? ⟨w11.heap.size, 3, none⟩ = some (.int .u64 0) := Lib.cell_of_heap TZw13.out 3
        have zz4 : w13.cell? ⟨w11.heap.size, 4, none⟩ = some (.int .u64 0) := Lib.cell_of_heap TZw13.out 4
        have zz5 : w13.cell? ⟨w11.heap.size, 5, none⟩ = some (.int .u64 0) := Lib.cell_of_heap TZw13.out 5
        have zz6 : w13.cell? ⟨w11.heap.size, 6, none⟩ = some (.int .u64 0) := Lib.cell_of_heap TZw13.out 6
        have zz7 : w13.cell? ⟨w11.heap.size, 7, none⟩ = some (.int .u64 0) := Lib.cell_of_heap TZw13.out 7
        have zz8 : w13.cell? ⟨w11.heap.size, 8, none⟩ = some (.bool false) := Lib.cell_of_heap TZw13.out 8
        have zz9 : w13.cell? ⟨w11.heap.size, 9, none⟩ = some (.slice va3 ([] : List Ent).length vc3) := Lib.cell_of_heap TZw13.out 9
        have zz10 : w13.cell? ⟨w11.heap.size, 10, none⟩ = some (.string ⟨#[]⟩) := Lib.cell_of_heap TZw13.out 10
        go_wp2_with fail
        go_ret
        exact ⟨rfl, HBw13.out⟩

end Go.Proofs.YtbjbgdnjcppjhaaGreatDoor.of07
