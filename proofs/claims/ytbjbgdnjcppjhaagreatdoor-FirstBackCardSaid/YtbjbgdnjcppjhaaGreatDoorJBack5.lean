/-
  A REGION THAT DRAWS ITS ORDER, some of its operations guarded: those that are wanted, and those that are not. Conditions: as each theorem says. By an AI agent.
-/
import Derived.Test.YtbjbgdnjcppjhaaGreatDoorHeld
import Derived.Test.YtbjbgdnjcppjhaaGreatDoorJGetM
import Derived.Test.YtbjbgdnjcppjhaaGreatDoorJLaw05
import Derived.Test.YtbjbgdnjcppjhaaGreatDoorMsgSame
import Derived.Test.YtbjbgdnjcppjhaaGreatDoorSameE
import Derived.Laws.AppendOwnNone
namespace Go.Proofs.YtbjbgdnjcppjhaaGreatDoor
open Go.RowKit
set_option linter.unusedVariables false
set_option linter.unusedSimpArgs false

section
variable {P : Program} {ops : Array Oper} {Q : Exit → Act → World → Prop} {md : Region.Mode} {S : World → Prop} {D : List Nat}
/-- take number i first: it is guarded, and wanted -/
theorem takeY {i : Nat} {oi : Oper} {rest : List Oper} {v : Value} {n : Nat} {listed : Array Bool} {a : Act} {w : World} (hi : ops.toList.drop i = oi :: rest)
    (hs : (Region.noSelect ops && Region.free md ops listed i && (Region.ready md ops listed).contains i && D.all fun j => Region.waitsFor md ops j i) = true)
    (hQ : ∀ c a w, ¬ Q (.panic c) a w) (hg : Region.wanted oi (yielded ops a.tmps) = true) (hy : ∀ u, S u → (execOp a.eval oi).run P u = .ok (.value v) u) (hS : S w)
    (h : wpAnyD P md ops Q S D n (listed.setIfInBounds i true) (a.put oi.dst v) w) : wpAnyD P md ops Q S D (n + 1) listed a w := by
  simp only [Bool.and_eq_true] at hs
  obtain ⟨⟨⟨h1, h2⟩, h3⟩, h4⟩ := hs
  exact takeD_first (at_drop hi) (Region.noSelect_spec h1) (fun c a w g => absurd g (hQ _ _ _)) (fun j hj => List.all_eq_true.1 h4 j (by simpa using hj)) n listed a w (Region.free_spec (at_drop hi) h2) (by simpa using h3)
    (.inl ⟨hg, hy⟩) hS h
/-- number i is guarded, and not wanted -/
theorem takeN {i : Nat} {oi : Oper} {rest : List Oper} {n : Nat} {listed : Array Bool} {a : Act} {w : World} (hi : ops.toList.drop i = oi :: rest)
    (hs : (Region.noSelect ops && Region.free md ops listed i && (Region.ready md ops listed).contains i && D.all fun j => Region.waitsFor md ops j i) = true)
    (hQ : ∀ c a w, ¬ Q (.panic c) a w) (hg : Region.wanted oi (yielded ops a.tmps) = false) (hS : S w)
    (h : wpAnyD P md ops Q S D n (listed.setIfInBounds i true) (a.put oi.dst undef) w) : wpAnyD P md ops Q S D (n + 1) listed a w := by
  simp only [Bool.and_eq_true] at hs
  obtain ⟨⟨⟨h1, h2⟩, h3⟩, h4⟩ := hs
  exact takeD_first (at_drop hi) (Region.noSelect_spec h1) (fun c a w g => absurd g (hQ _ _ _)) (fun j hj => List.all_eq_true.1 h4 j (by simpa using hj)) n listed a w (Region.free_spec (at_drop hi) h2) (by simpa using h3)
    (.inr ⟨hg, rfl⟩) hS h
/-- number i alone may come; it is guarded, and wanted -/
theorem oneY {i : Nat} {o : Oper} {rest : List Oper} {n : Nat} {listed : Array Bool} {a : Act} {w : World} (hi : ops.toList.drop i = o :: rest) (hr : Region.ready md ops listed = [i]) (hg : Region.wanted o (yielded ops a.tmps) = true)
    (h : o.wp P a w (fun b u => (D.contains i = false → S u) ∧ wpAnyD P md ops Q S D n (listed.setIfInBounds i true) b u) Q) : wpAnyD P md ops Q S D (n + 1) listed a w := by
  refine ⟨fun h0 => (by rw [hr] at h0; cases h0), fun j hj => ?_⟩
  rw [hr, List.mem_singleton] at hj
  subst hj
  unfold wpOp
  simp only [at_drop hi]
  rw [if_pos hg]
  exact .inl h
/-- number i alone may come; it is guarded, and not wanted -/
theorem oneN {i : Nat} {o : Oper} {rest : List Oper} {n : Nat} {listed : Array Bool} {a : Act} {w : World} (hi : ops.toList.drop i = o :: rest) (hr : Region.ready md ops listed = [i]) (hg : Region.wanted o (yielded ops a.tmps) = false) (hS : S w)
    (h : wpAnyD P md ops Q S D n (listed.setIfInBounds i true) (a.put o.dst undef) w) : wpAnyD P md ops Q S D (n + 1) listed a w := by
  refine ⟨fun h0 => (by rw [hr] at h0; cases h0), fun j hj => ?_⟩
  rw [hr, List.mem_singleton] at hj
  subst hj
  unfold wpOp
  simp only [at_drop hi]
  rw [if_neg (by rw [hg]; decide)]
  exact ⟨fun _ => hS, h⟩
end

end Go.Proofs.YtbjbgdnjcppjhaaGreatDoor

/-
  law05's examples: they are so. No condition. By an AI agent.
-/
namespace Go.Proofs.YtbjbgdnjcppjhaaGreatDoor
open Go.RowKit Go.Sort
set_option linter.unusedVariables false
set_option linter.unusedSimpArgs false

def exF1 : Ent := ⟨1, 2, 0, 0, 0, 0, 0, 0, 0, ⟨#[]⟩, ⟨#[]⟩⟩
def exF2 : Ent := ⟨1, 1, 11, 1, 0, 0, 0, 0, 0, ⟨#[]⟩, ⟨#[]⟩⟩
theorem exF1_small : Small exF1 ∧ rightB exF1 = true ∧ levelI exF1.kind = 1 := ⟨⟨by decide, by decide, by decide, by decide, by decide, by decide, by decide, by decide, by decide, by decide, by decide⟩, by decide, by decide⟩
theorem exF2_small : Small exF2 ∧ rightB exF2 = true ∧ levelI exF2.kind = 2 := ⟨⟨by decide, by decide, by decide, by decide, by decide, by decide, by decide, by decide, by decide, by decide, by decide⟩, by decide, by decide⟩
def exL : List UInt8 := [0, 0, 0, 0, 0, 0, 0, 0, 1, 0, 0, 0, 0, 0, 0, 0, 2] ++ List.replicate 93 0
theorem exF1_bytes : putF exF1 = exL := by decide +kernel
theorem gotF_nil : gotF [] = false := by decide +kernel

set_option maxRecDepth 100000 in
set_option maxHeartbeats 2000000 in
theorem examples05_any (w : World) : Calls Tryz.prog 18 #[] w fun x w' => x = .returned (.bool true) ∧ Below w.heap.size w w' := by
  have hp1 := fun W => firstPut_any exF1 exF1_small.1 exF1_small.2.1 exF1_small.2.2 W
  have hp2 := fun W => firstPut_two exF2 exF2_small.1 exF2_small.2.1 exF2_small.2.2 W
  rw [exF1_bytes] at hp1
  simp only [Ent.val, Ent.cells, exF1] at hp1
  simp only [Ent.val, Ent.cells, exF2] at hp2
  have hg := fun W => firstGetMsg_any [] (by decide) W
  rw [gotF_nil] at hg
  have hz : (⟨exL.toArray⟩ : ByteArray).size = 110 := by decide +kernel
  have h8 : (⟨exL.toArray⟩ : ByteArray).data[8]? = some 1 := by decide +kernel
  have h16 : (⟨exL.toArray⟩ : ByteArray).data[16]? = some 2 := by decide +kernel
  generalize (⟨exL.toArray⟩ : ByteArray) = zs at *
  have g8 : ((zs[8]'(by omega)).toNat : Int) = 1 := by
    obtain ⟨q, hq⟩ := Array.getElem?_eq_some_iff.1 h8
    have e : zs[8]'(by omega) = 1 := hq
    rw [e]
    rfl
  have g16 : ((zs[16]'(by omega)).toNat : Int) = 2 := by
    obtain ⟨q, hq⟩ := Array.getElem?_eq_some_iff.1 h16
    have e : zs[16]'(by omega) = 2 := hq
    rw [e]
    rfl
  clear h8 h16
  have HP1 := Lib.hid hp1
  have HP2 := Lib.hid hp2
  have HG := Lib.hid hg
  clear hp1 hp2 hg
  go_enter Tryz.func18, Tryz.ntmps18
  go_wp2_with fail
  refine (HP1.out _).mono ?_
  rintro x w1 ⟨rfl, hb1⟩
  have HB1 := Lib.hid hb1
  clear hb1
  go_wp2_with fail
  refine (HP2.out _).mono ?_
  rintro x w2 ⟨rfl, hb2⟩
  have HB2 := Lib.hid (HB1.out.trans (hb2.mono HB1.out.size))
  clear hb2 HB1
  go_wp2_with fail
  refine (HG.out _).mono ?_
  rintro x w3 ⟨m, sv, rfl, _, hm, he, hb3⟩
  have HB3 := Lib.hid (HB2.out.trans (hb3.mono HB2.out.size))
  obtain rfl := hm (by trivial)
  obtain ⟨va, vc, hsv, _⟩ := he
  subst hsv
  simp only [Msg.cells, Msg.none]
  clear hb3 HB2
  go_wp2_with fail
  go_ret
  exact ⟨rfl, HB3.out.trans (((Below.refl _ _).alloc (Nat.le_refl _) _).mono HB3.out.size)⟩

end Go.Proofs.YtbjbgdnjcppjhaaGreatDoor

/-
  law05.FirstBack walks to true. Conditions: the arguments are of their kinds. By an AI agent.
-/
namespace Go.Proofs.YtbjbgdnjcppjhaaGreatDoor.of05
open Go.RowKit Go.Sort
set_option linter.unusedVariables false
set_option linter.unusedSimpArgs false

theorem small_fine {m : Msg} (h : SmallM m) : m.fine :=
  ⟨⟨by have := h.kind; exact ⟨by omega, by omega⟩, by have := h.frm; exact ⟨by omega, by omega⟩, by have := h.to; exact ⟨by omega, by omega⟩, h.term, h.index, h.prev, h.commit, h.mark, by have := h.snap; omega, fun e he => (h.each e he).1.wf⟩,
    by have := h.snap; omega, by have := h.count; omega, fun e he => ⟨by have := (h.each e he).1.data; omega, by have := (h.each e he).1.old; omega⟩⟩
/-- an entry's bytes, if it is of level 1 -/
def bytesF (e : Ent) : List UInt8 := if levelI e.kind = 1 then putF e else []
def levelB (e : Ent) : Bool := levelI e.kind == 1
theorem bytes_two {e : Ent} (h : levelI e.kind = 2) : bytesF e = [] := by
  unfold bytesF
  rw [if_neg (by rw [h]; decide)]
theorem bytes_one {e : Ent} (h : levelI e.kind = 1) : bytesF e = putF e := if_pos h
theorem bytes_len (e : Ent) (h : Small e) : (bytesF e).length ≤ 110 := by
  unfold bytesF
  split
  · exact Nat.le_of_eq (putF_length e (by have := h.data; omega))
  · exact Nat.zero_le _
theorem lv_cases (e : Ent) : (levelI e.kind = 1 ∧ levelB e = true) ∨ (levelI e.kind = 2 ∧ levelB e = false) := by
  unfold levelB
  rcases levelE_two e.kind with h | h
  · exact .inl ⟨h, by rw [h]; rfl⟩
  · exact .inr ⟨h, by rw [h]; rfl⟩
theorem put_lv (e : Ent) (h : Small e) (hr : rightB e = true) (w : World) :
    Calls Tryz.prog 19 #[e.val] w fun x w' => x = .returned (.tuple #[.string ⟨(bytesF e).toArray⟩, .bool (levelB e)]) ∧ Below w.heap.size w w' := by
  rcases lv_cases e with ⟨h1, h2⟩ | ⟨h1, h2⟩
  · rw [h2, bytes_one h1]
    exact firstPut_any e h hr h1 w
  · rw [h2, bytes_two h1]
    exact firstPut_two e h hr h1 w
theorem get_lv (b : Nat) (e : Ent) (h : Small e) (hr : rightB e = true) (hl : levelI e.kind = 1) (t : List UInt8) (ht : (bytesF e ++ t).length ≤ 1099511627776) (w : World) (hw : RdAt w b (bytesF e ++ t, false)) :
    Calls Tryz.prog 22 #[.pointer (some ⟨b, 0, none⟩)] w fun x w' => x = .returned e.val ∧ RdAt w' b (t, false) ∧ But b w w' := by
  have hg := firstGet_any b (bytesF e ++ t, false) ht w hw
  rw [bytes_one hl, getF_back e h hr hl (old_none e hr hl) t] at hg
  exact hg
/-- an entry's bytes, by its parts -/
def backE (e : Ent) : List UInt8 := bytesF (ownEnt e)

theorem step {n : Nat} {W w w' : World} (h : Below n W w) (hn : n ≤ W.heap.size) (h2 : Below w.heap.size w w') : Below n W w' := h.trans (h2.mono (Nat.le_trans hn h.size))
theorem entAt_same {w w' : World} {b o : Nat} {e : Ent} (hb : w'.heap[b]? = w.heap[b]?) (h : EntAt w b o e) : EntAt w' b o e := by
  obtain ⟨c0, c1, c2, c3, c4, c5, c6, c7, c8, c9, c10⟩ := h
  have k : ∀ q v, w.cell? ⟨b, q, none⟩ = some v → w'.cell? ⟨b, q, none⟩ = some v := fun q v h => (World.cell?_of_block (w := w) (a := ⟨b, q, none⟩) hb).trans h
  exact ⟨k _ _ c0, k _ _ c1, k _ _ c2, k _ _ c3, k _ _ c4, k _ _ c5, k _ _ c6, k _ _ c7, k _ _ c8, k _ _ c9, k _ _ c10⟩
theorem _root_.Go.Proofs.YtbjbgdnjcppjhaaGreatDoor.But.belowN {b n : Nat} {w w' : World} (h : But b w w') (hb : n ≤ b) (hn : n ≤ w.heap.size) : Below n w w' :=
  ⟨h.os, h.tape, h.output, h.size, fun k hk => h.block k (by omega) (fun h => by have := Option.some.inj h; omega)⟩
theorem flatB_len (l : List Ent) : (l.flatMap backE).length ≤ 1000 * l.length := by
  induction l with
  | nil => simp
  | cons e l ih =>
    have h2 := bytes_len (ownEnt e) (own_small e).1
    rw [List.flatMap_cons, List.length_append, List.length_cons]
    unfold backE at *
    omega

theorem putFM_ne (M : Msg) : putFM M ≠ [] := fun h => by
  have := congrArg List.length h
  unfold putFM at this
  rw [List.length_append, fixL_length] at this
  simp at this
theorem putFM_len (M : Msg) (h : SmallM M) : (putFM M).length ≤ 200000 := by
  have hf := flatF_len M.entries (fun x hx => (h.each x hx).1)
  have hc := h.count
  have hs : M.snap.data.toList.length ≤ 200 := h.snap
  simp only [putFM, List.length_append, fixL_length]
  omega
theorem put_own (M : Msg) (hsm : SmallM M) (hrt : msgRightB M = true) (hlv : msgLevelI M = 1) (sv : Value) (W : World) (hW : EntsAt W sv M.entries) :
    Calls Tryz.prog 24 #[.agg (M.cells sv)] W fun x w' => x = .returned (.tuple #[.string ⟨(putFM M).toArray⟩, .bool true]) ∧ Below W.heap.size W w' := firstPutMsg_any M hsm hrt hlv sv W hW
theorem get_own (M : Msg) (hsm : SmallM M) (hrt : msgRightB M = true) (hlv : msgLevelI M = 1) (W : World) :
    Calls Tryz.prog 26 #[.string ⟨(putFM M).toArray⟩] W fun x w' => ∃ sv, x = .returned (.tuple #[.agg (M.cells sv), .bool true]) ∧ EntsAt w' sv M.entries ∧ Below W.heap.size W w' := by
  have hback := gotF_back M hsm (level_own M hsm hlv) hrt hlv
  have hl := putFM_len M hsm
  refine (firstGetMsg_any (putFM M) (by omega) W).mono fun x w' ⟨m', sv, h1, h2, _, h3, h4⟩ => ?_
  have e : m' = M := (h2 hback.1).trans hback.2
  subst e
  rw [hback.1] at h1
  exact ⟨sv, h1, h3, h4⟩
theorem get_cut (M : Msg) (hsm : SmallM M) (hlv : msgLevelI M = 1) (k : Nat) (hk : k < (putFM M).length) (W : World) :
    Calls Tryz.prog 26 #[.string ⟨((putFM M).take k).toArray⟩] W fun x w' => ∃ m' sv, x = .returned (.tuple #[.agg (Msg.cells m' sv), .bool false]) ∧ EntsAt w' sv m'.entries ∧ Below W.heap.size W w' := by
  have hl := putFM_len M hsm
  refine (firstGetMsg_any ((putFM M).take k) (by rw [List.length_take]; omega) W).mono fun x w' ⟨m', sv, h1, h2, _, h3, h4⟩ => ?_
  rw [gotF_short M hsm (level_own M hsm hlv) k hk] at h1
  exact ⟨m', sv, h1, h3, h4⟩
theorem get_long (M : Msg) (hsm : SmallM M) (hlv : msgLevelI M = 1) (W : World) :
    Calls Tryz.prog 26 #[.string ⟨(putFM M ++ [0]).toArray⟩] W fun x w' => ∃ m' sv, x = .returned (.tuple #[.agg (Msg.cells m' sv), .bool false]) ∧ EntsAt w' sv m'.entries ∧ Below W.heap.size W w' := by
  have hl := putFM_len M hsm
  refine (firstGetMsg_any (putFM M ++ [0]) (by rw [List.length_append]; simp only [List.length_cons, List.length_nil]; omega) W).mono fun x w' ⟨m', sv, h1, h2, _, h3, h4⟩ => ?_
  rw [gotF_long M hsm (level_own M hsm hlv)] at h1
  exact ⟨m', sv, h1, h3, h4⟩
theorem level_msg (M : Msg) (hsm : SmallM M) (sv : Value) (W : World) (hW : EntsAt W sv M.entries) :
    Calls Tryz.prog 25 #[.agg (M.cells sv)] W fun x w' => x = .returned (.int .i64 (msgLevelI M)) ∧ Below W.heap.size W w' := msgLevel_any M sv (by have := hsm.count; omega) W hW
theorem same_own (M : Msg) (hsm : SmallM M) (s1 s2 : Value) (W : World) (hW : Tabs W) (h1 : EntsAt W s1 M.entries) (h2 : EntsAt W s2 M.entries) :
    Calls Tryz.prog 15 #[.agg (M.cells s1), .agg (M.cells s2)] W fun x w' => x = .returned (.bool true) ∧ Below W.heap.size W w' := by
  have h := msgSame_any M M s1 s2 (small_fine hsm) (small_fine hsm) W hW h1 h2
  rw [msgSame_self] at h
  exact h

set_option maxRecDepth 100000 in
set_option maxHeartbeats 8000000 in
theorem firstBack_any (l : List (Ent × Bool)) (sl : Value) (m : Msg) (sa : Option Addr) (sn sc : Nat) (own : Bool) (sL : Value) (L : List (Ent × Bool)) (cut : Nat) (hcut : cut ≤ 65535) (hl : ∀ p ∈ l, p.1.wf)
    (hm : I64 m.kind ∧ I64 m.frm ∧ I64 m.to ∧ U64 m.term ∧ U64 m.index ∧ U64 m.prev ∧ U64 m.commit ∧ U64 m.mark) (hL : ∀ p ∈ L, p.1.wf) (w : World) (ht : Tabs w) (hs : MadesAt w sl l) (hs0 : ∀ c, sl = .slice none l.length c → c = 0) (hsL : MadesAt w sL L) :
    Calls Tryz.prog 4 #[sl, .agg (m.cells (.slice sa sn sc) ++ #[.bool own, sL]), .int .u16 cut] w fun x w' => x = .returned (.bool true) ∧ Below w.heap.size w w' := by
  obtain ⟨la, lc, rfl, hc1, hc2, hLs⟩ := hs
  obtain ⟨na, nc, rfl, hn1, hn2, hnL⟩ := id hsL
  obtain ⟨i0, hi0, hz0, hz1, hz2⟩ := info_parts infoMade
  have HI := Lib.hid hi0
  have HSRC := Lib.hid hLs
  have HS0 := Lib.hid hs0
  have HNL := Lib.hid hsL
  have HT := Lib.hid ht
  have hval : (.agg (m.cells (.slice sa sn sc) ++ #[.bool own, .slice na L.length nc]) : Value) = .agg #[.int .i64 m.kind, .int .i64 m.frm, .int .i64 m.to, .int .u64 m.term, .int .u64 m.index, .int .u64 m.prev, .int .u64 m.commit, .int .u64 m.mark, .bool m.ok, .slice sa sn sc, .string m.snap, .bool own, .slice na L.length nc] := rfl
  rw [hval]
  clear hi0 hLs hs0 hnL ht hval hsL
  obtain ⟨n, hn5, hnl, hmin⟩ : ∃ n : Nat, n ≤ 5 ∧ n ≤ l.length ∧ min (l.length : Int) 5 = (n : Int) := ⟨min l.length 5, by omega, by omega, by omega⟩
  obtain ⟨E, hEd⟩ : ∃ E, E = (l.take n).map (·.1) := ⟨_, rfl⟩
  have hE : E.length = n := by rw [hEd]; simp; omega
  go_enter Tryz.func4, Tryz.ntmps4
  go_wp2_with fail
  refine (examples05_any _).mono ?_
  rintro x w2 ⟨rfl, hb2⟩
  have HB2 := Lib.hid hb2
  have hs2 := hb2.size
  simp only [World.size_alloc] at hs2
  clear hb2
  go_upto_region 5 with fail
  go_cut [0] from 27 to 32 (fun s0 wx => ∃ g a c, s0 = .slice a n c ∧ w.heap.size + 1 ≤ g ∧ (E ≠ [] → a = some ⟨g, 0, none⟩ ∧ Cop g E 0 wx) ∧ Below (w.heap.size + 1) w2 wx)
  case first =>
    cases la with
    | none =>
      obtain rfl : l = [] := by
        cases l with
        | nil => rfl
        | cons x r =>
          obtain ⟨B, o, h, _⟩ := HSRC.out (by simp)
          cases h
      obtain rfl := HS0.out lc rfl
      obtain rfl : n = 0 := by simpa using hnl
      go_wp2_with fail
      go_meet
      exact ⟨w.heap.size + 1, none, 0, rfl, Nat.le_refl _, fun h => absurd (List.length_eq_zero_iff.1 hE) h, Below.refl _ _⟩
    | some ad =>
      have hown : w2.ownsRow w2.heap.size MadeT 12 (.slice none 0 0) 0 [] := World.ownsRow_nil _ _ _ _
      obtain ⟨news, hnews⟩ : ∃ news, news = (l.take n).flatMap madeRow := ⟨_, rfl⟩
      have hnl2 : news.length = n * 12 := by rw [hnews, madeRow_len]; simp; omega
      have hnc : ∀ j u, news[j]? = some u → w2.cell? (ad.add j) = some u := by
        intro j u hu
        have hne : l ≠ [] := fun h0 => by
          rw [hnews, h0] at hu
          simp at hu
        obtain ⟨B, o, h, hB, hat⟩ := HSRC.out hne
        cases h
        rw [hnews] at hu
        refine news_of n (fun i hi => ?_) j u hu
        have hb : Below w.heap.size w w2 := ((Below.refl _ _).alloc (Nat.le_refl _) _).trans (HB2.out.mono (by simp))
        exact ⟨(hat i hi).1.below hb, cell_later hb (hat i hi).2⟩
      have hn1 : ∀ u ∈ news, u.oneCell' = true := by
        intro u hu
        rw [hnews] at hu
        obtain ⟨p, _, hp⟩ := List.mem_flatMap.1 hu
        simp [madeRow, Ent.cells] at hp
        rcases hp with rfl | rfl | rfl | rfl | rfl | rfl | rfl | rfl | rfl | rfl | rfl | rfl <;> rfl
      have HNEWS := Lib.hid hnews
      clear hnews
      go_wp2_with (at_builtin; refine wpList_append_own _ rfl _ _ 49 rfl w2.heap.size MadeT i0 madeZero 12 112 Tryz.underlying49 HI.out hz0 hz1 hz2 rfl (by decide) (.slice none 0 0) 0 [] rfl hown ad n _ news rfl hnl2 hnc hn1 ?c3 ?c4 (Nat.le_refl _) ?_)
      case c3 => unfold maxLen; omega
      case c4 => omega
      intro v' w3 hown' hgrow _
      have hb3 := grown_below hgrow hown (Nat.le_refl _)
      have hsz3 := hb3.size
      try rw [Nat.zero_add] at hown'
      try rw [List.nil_append] at hown'
      rw [HNEWS.out] at hown'
      obtain ⟨g, a, c, hv, hg, hC⟩ := cop_of_row hown' (by simp; omega) hsz3
      have hlt : (l.take n).length = n := by simp; omega
      rw [hlt] at hv
      have HC := Lib.hid hC
      clear hC hgrow hown' hnc hn1
      go_wp2_with fail
      go_meet
      refine ⟨g, a, c, hv, by omega, fun h => by rw [hEd]; exact HC.out (fun h0 => h (by rw [hEd, h0]; rfl)), hb3.mono (by omega)⟩
  case rest =>
  obtain ⟨g, a, c, rfl, hg, hC, hbx⟩ := hcut
  have hW1 : Below (w.heap.size + 1) (w.alloc (.cells #[.int .i64 m.kind, .int .i64 m.frm, .int .i64 m.to, .int .u64 m.term, .int .u64 m.index, .int .u64 m.prev, .int .u64 m.commit, .int .u64 m.mark, .bool m.ok, .slice sa sn sc, .string m.snap, .bool own, .slice na L.length nc] 51)) wc := by
    have h := HB2.out
    simp only [World.size_alloc] at h
    exact h.trans hbx
  have HW1 := Lib.hid hW1
  have HC := Lib.hid hC
  clear hbx hC hW1 HB2 hs2 HSRC HS0
  have hwf : ∀ j (h : j < E.length), (E[j]).wf := fun j h => by
    subst hEd
    rw [List.getElem_map, List.getElem_take]
    exact hl _ (List.getElem_mem _)
  have HWF := Lib.hid hwf
  have HL := Lib.hid hL
  clear hl hwf hL
  clear hEd
  subst hE
  go_wp2_with fail
  go_loopw [8, 9, 10, 11] (fun al i s10 o11 wr => ∃ (k : Nat), k ≤ E.length ∧ i = .int .i64 k ∧ al = .string ⟨((E.take k).flatMap backE).toArray⟩ ∧ (E ≠ [] → a = some ⟨g, 0, none⟩ ∧ Cop g E k wr) ∧ Below (w.heap.size + 1) (w.alloc (.cells #[.int .i64 m.kind, .int .i64 m.frm, .int .i64 m.to, .int .u64 m.term, .int .u64 m.index, .int .u64 m.prev, .int .u64 m.commit, .int .u64 m.mark, .bool m.ok, .slice sa sn sc, .string m.snap, .bool own, .slice na L.length nc] 51)) wr) (fun al i s10 o11 _ => E.length - (intOf i).toNat)
  case atStart => exact ⟨0, Nat.zero_le _, rfl, rfl, HC.out, HW1.out⟩
  case round =>
    obtain ⟨k, hk, rfl, rfl, hcop, hbr⟩ := hrel
    by_cases hlt : k < E.length
    · obtain ⟨rfl, hcp⟩ := hcop (fun h0 => by rw [h0] at hlt; exact absurd hlt (Nat.not_lt_zero _))
      have hfz : ∀ o, wr.frozen? ⟨g, o, none⟩ = false := fun o => hcp.frozen
      obtain ⟨fb, hfb⟩ := hcp.flag hlt
      have hset := hcp.set hlt
      have hent := hset.ent hlt
      have hown1 := hset.own hlt (Nat.lt_succ_self k)
      have hbs : Below (w.heap.size + 1) (w.alloc (.cells #[.int .i64 m.kind, .int .i64 m.frm, .int .i64 m.to, .int .u64 m.term, .int .u64 m.index, .int .u64 m.prev, .int .u64 m.commit, .int .u64 m.mark, .bool m.ok, .slice sa sn sc, .string m.snap, .bool own, .slice na L.length nc] 51)) (wr.setCell ⟨g, k * 12 + 11, none⟩ (.bool true)) := hbr.setCell hg _
      have hsm := own_small E[k]
      have hsn : (E.take (k + 1)).flatMap backE = (E.take k).flatMap backE ++ bytesF (ownEnt E[k]) := by
        rw [List.take_succ_eq_append_getElem hlt, List.flatMap_append]; simp [backE]
      have hmade := fun W => made05_own E[k] (HWF.out k hlt) W
      have hput := fun W => put_lv (ownEnt E[k]) hsm.1 hsm.2.1 W
      have hlev := fun W => level_any (ownEnt E[k]) W
      have hlc := lv_cases (ownEnt E[k])
      have hlen : ((E.take k).flatMap backE).length + (bytesF (ownEnt E[k])).length ≤ 1000000 := by
        have h1 := flatB_len (E.take k)
        have h2 := bytes_len _ hsm.1
        rw [List.length_take] at h1
        omega
      have HSET := Lib.hid hset
      have HBS := Lib.hid hbs
      clear hset hbs hsm
      generalize hp1 : (E.take k).flatMap backE = p1 at *
      generalize ownEnt E[k] = y at *
      generalize hxE : E[k] = x at *
      generalize bytesF y = p2 at *
      generalize levelB y = lb at *
      generalize hlvy : levelI y.kind = lv at *
      have HSN := Lib.hid hsn
      have HXE := Lib.hid hxE
      clear hsn hxE hlvy
      obtain ⟨y0, y1, y2, y3, y4, y5, y6, y7, y8, y9, y10⟩ := y
      obtain ⟨x0, x1, x2, x3, x4, x5, x6, x7, x8, x9, x10⟩ := x
      simp only [Ent.val, Ent.cells, List.push_toArray, List.append_toArray, List.cons_append, List.nil_append] at hmade hput hlev
      have HM := Lib.hid hmade
      have HP := Lib.hid hput
      have HLV := Lib.hid hlev
      have HLC := Lib.hid hlc
      clear hmade hput hlev hlc hcp
      obtain ⟨a0, a1, a2, a3, a4, a5, a6, a7, a8, a9, a10⟩ := hent
      simp only at a0 a1 a2 a3 a4 a5 a6 a7 a8 a9 a10
      go_wp2_with fail
      refine (HM.out _).mono ?_
      rintro x w3 ⟨rfl, hb3⟩
      have HB3 := Lib.hid (step HBS.out (by simp) hb3)
      have HC3 := Lib.hid (HSET.out.below hb3)
      clear hb3 a0 a1 a2 a3 a4 a5 a6 a7 a8 a9 a10 hfb hown1 hfz
      go_wp2_with fail
      refine (HP.out _).mono ?_
      rintro x w4 ⟨rfl, hb4⟩
      have HB4 := Lib.hid (step HB3.out (by simp) hb4)
      have HC4 := Lib.hid (HC3.out.below hb4)
      have hent := HC4.out.ent hlt
      have hown1 := HC4.out.own hlt (Nat.lt_succ_self k)
      rw [HXE.out] at hent
      clear hb4 HB3 HC3
      obtain ⟨a0, a1, a2, a3, a4, a5, a6, a7, a8, a9, a10⟩ := hent
      simp only at a0 a1 a2 a3 a4 a5 a6 a7 a8 a9 a10
      go_wp2_with fail
      refine (HM.out _).mono ?_
      rintro x w5 ⟨rfl, hb5⟩
      have HB5 := Lib.hid (step HB4.out (by simp) hb5)
      have HC5 := Lib.hid (HC4.out.below hb5)
      clear hb5 a0 a1 a2 a3 a4 a5 a6 a7 a8 a9 a10 hown1 HB4 HC4
      go_wp2_with fail
      refine (HLV.out _).mono ?_
      rintro x w6 ⟨rfl, hb6⟩
      have HB6 := Lib.hid (step HB5.out (by simp) hb6)
      have HC6 := Lib.hid (HC5.out.below hb6)
      clear hb6 HB5 HC5
      rcases HLC.out with ⟨rfl, rfl⟩ | ⟨rfl, rfl⟩
      all_goals
        go_wp2_with fail
        go_roundw
        case rel => exact ⟨k + 1, by omega, by go_num, by rw [HSN.out]; exact congrArg Value.string (ByteArray.mk_append_mk p1 p2), fun _ => ⟨by first | rfl | trivial, HC6.out⟩, HB6.out⟩
        case measure => simp [intOf]; omega
    · obtain rfl : k = E.length := by omega
      rw [List.take_length]
      have HBR := Lib.hid hbr
      have HCOP := Lib.hid hcop
      have hbz := hbr.size
      simp only [World.size_alloc] at hbz
      have hgb : E ≠ [] → g < wr.heap.size := fun h => (hcop h).2.lt
      clear hbr hcop
      go_wp2_with fail
      refine (new_any (E.flatMap backE) _).mono ?_
      rintro x w5 ⟨rfl, h5, hb5, hs5⟩
      have H5 := Lib.hid h5
      have HB5 := Lib.hid (step HBR.out (by simp) hb5)
      have HC5 := Lib.hid (fun h => let q := HCOP.out h; (⟨q.1, q.2.below hb5⟩ : a = some ⟨g, 0, none⟩ ∧ Cop g E E.length w5))
      clear h5 hb5
      generalize hbd : wr.heap.size = b at *
      go_wp2_with fail
      go_loopw [13] (fun i wr2 => ∃ (k : Nat), k ≤ E.length ∧ i = .int .i64 k ∧ RdAt wr2 b ((E.drop k).flatMap backE, false) ∧ (E ≠ [] → a = some ⟨g, 0, none⟩ ∧ Cop g E E.length wr2) ∧ Below (w.heap.size + 1) (w.alloc (.cells #[.int .i64 m.kind, .int .i64 m.frm, .int .i64 m.to, .int .u64 m.term, .int .u64 m.index, .int .u64 m.prev, .int .u64 m.commit, .int .u64 m.mark, .bool m.ok, .slice sa sn sc, .string m.snap, .bool own, .slice na L.length nc] 51)) wr2) (fun i _ => E.length - (intOf i).toNat)
      case atStart => exact ⟨0, Nat.zero_le _, rfl, H5.out, HC5.out, HB5.out⟩
      case round =>
        obtain ⟨k, hk, rfl, hrd, hcop, hbr⟩ := hrel
        by_cases hlt : k < E.length
        · have hne : E ≠ [] := fun h0 => by rw [h0] at hlt; exact absurd hlt (Nat.not_lt_zero _)
          obtain ⟨rfl, hcp⟩ := hcop hne
          have hgb2 := hgb hne
          have hent := hcp.ent hlt
          have hown1 := hcp.own hlt hlt
          have hsm := own_small E[k]
          have hd : (E.drop k).flatMap backE = bytesF (ownEnt E[k]) ++ (E.drop (k + 1)).flatMap backE := by
            rw [List.drop_eq_getElem_cons hlt, List.flatMap_cons]; rfl
          rw [hd] at hrd
          have hmade := fun W => made05_own E[k] (HWF.out k hlt) W
          have hlev := fun W => level_any (ownEnt E[k]) W
          have hlen : (bytesF (ownEnt E[k]) ++ (E.drop (k + 1)).flatMap backE).length ≤ 1099511627776 := by
            have h1 := flatB_len (E.drop (k + 1))
            have h2 := bytes_len _ hsm.1
            rw [List.length_drop] at h1
            rw [List.length_append]
            omega
          have hget : ∀ (hl : levelI (ownEnt E[k]).kind = 1) (W : World) (hW : RdAt W b (bytesF (ownEnt E[k]) ++ (E.drop (k + 1)).flatMap backE, false)), _ := fun hl W hW => get_lv b (ownEnt E[k]) hsm.1 hsm.2.1 hl ((E.drop (k + 1)).flatMap backE) hlen W hW
          have hnil : levelI (ownEnt E[k]).kind = 2 → bytesF (ownEnt E[k]) = [] := bytes_two
          have hlc := lv_cases (ownEnt E[k])
          have hself : sameB (ownEnt E[k]) (ownEnt E[k]) = true := (sameB_iff _ _).2 rfl
          have heq := fun W => ent_eq_run (ownEnt E[k]) (ownEnt E[k]) W
          rw [hself] at heq
          have HCP := Lib.hid hcp
          have HBR2 := Lib.hid hbr
          have hbz2 := hbr.size
          simp only [World.size_alloc] at hbz2
          clear hcp hcop hbr hd hself hsm hlen
          generalize ownEnt E[k] = y at *
          generalize E[k] = x at *
          generalize bytesF y = p2 at *
          generalize levelB y = lb at *
          generalize hlvy : levelI y.kind = lv at *
          clear hlvy
          have HRD := Lib.hid hrd
          clear hrd
          obtain ⟨y0, y1, y2, y3, y4, y5, y6, y7, y8, y9, y10⟩ := y
          obtain ⟨x0, x1, x2, x3, x4, x5, x6, x7, x8, x9, x10⟩ := x
          simp only [Ent.val, Ent.cells, List.push_toArray, List.append_toArray, List.cons_append, List.nil_append] at hmade hget heq hlev
          have HM := Lib.hid hmade
          have HG := Lib.hid hget
          have HEQ := Lib.hid heq
          have HLV := Lib.hid hlev
          have HLC := Lib.hid hlc
          have HNIL := Lib.hid hnil
          clear hmade hget heq hlev hlc hnil
          obtain ⟨a0, a1, a2, a3, a4, a5, a6, a7, a8, a9, a10⟩ := hent
          simp only at a0 a1 a2 a3 a4 a5 a6 a7 a8 a9 a10
          go_wp2_with fail
          refine (HM.out _).mono ?_
          rintro x w2 ⟨rfl, hb2⟩
          have HB2 := Lib.hid (step HBR2.out (by simp) hb2)
          have HC2 := Lib.hid (HCP.out.below hb2)
          have HR2 := Lib.hid (HRD.out.keep hb2)
          clear hb2 a0 a1 a2 a3 a4 a5 a6 a7 a8 a9 a10 hown1
          go_wp2_with fail
          have hS0 : EntAt (w2.alloc (.cells #[.int .u64 y0, .int .u64 y1, .int .i64 y2, .int .u64 y3, .int .u64 y4, .int .u64 y5, .int .u64 y6, .int .i64 y7, .int .i64 y8, .string y9, .string y10] EntT)).drew w2.heap.size 0 ⟨y0, y1, y2, y3, y4, y5, y6, y7, y8, y9, y10⟩ := by
            refine ⟨?_, ?_, ?_, ?_, ?_, ?_, ?_, ?_, ?_, ?_, ?_⟩ <;> simp
          have hal : Below w2.heap.size w2 (w2.alloc (.cells #[.int .u64 y0, .int .u64 y1, .int .i64 y2, .int .u64 y3, .int .u64 y4, .int .u64 y5, .int .u64 y6, .int .i64 y7, .int .i64 y8, .string y9, .string y10] EntT)).drew := ⟨rfl, rfl, rfl, by simp, fun k hk => Below.heap_alloc _ _ _ hk⟩
          have HBA := Lib.hid (step HB2.out (by simp) hal)
          have HCA := Lib.hid (HC2.out.below hal)
          have HRA := Lib.hid (HR2.out.keep hal)
          have hsa : w2.heap.size < (w2.alloc (.cells #[.int .u64 y0, .int .u64 y1, .int .i64 y2, .int .u64 y3, .int .u64 y4, .int .u64 y5, .int .u64 y6, .int .i64 y7, .int .i64 y8, .string y9, .string y10] EntT)).drew.heap.size := by show _ < (w2.alloc (.cells #[.int .u64 y0, .int .u64 y1, .int .i64 y2, .int .u64 y3, .int .u64 y4, .int .u64 y5, .int .u64 y6, .int .i64 y7, .int .i64 y8, .string y9, .string y10] EntT)).heap.size; simp
          have hwb := HR2.out.lt
          clear hal HB2 HC2 HR2
          rcases HLC.out with ⟨rfl, rfl⟩ | ⟨rfl, rfl⟩
          · refine region_D (fun u => EntAt u w2.heap.size 0 ⟨y0, y1, y2, y3, y4, y5, y6, y7, y8, y9, y10⟩) [] 9 (by kernel_rfl) (by rfl) ?_
            generalize (w2.alloc (.cells #[.int .u64 y0, .int .u64 y1, .int .i64 y2, .int .u64 y3, .int .u64 y4, .int .u64 y5, .int .u64 y6, .int .i64 y7, .int .i64 y8, .string y9, .string y10] EntT)).drew = u2 at *
            refine takeD (i := 0) (v := .agg #[.int .u64 y0, .int .u64 y1, .int .i64 y2, .int .u64 y3, .int .u64 y4, .int .u64 y5, .int .u64 y6, .int .i64 y7, .int .i64 y8, .string y9, .string y10]) (by rfl) (by kernel_rfl) (fun _ _ _ h => h) (by rfl) (fun u hu => ?_) hS0 ?_
            · obtain ⟨hu0, hu1, hu2, hu3, hu4, hu5, hu6, hu7, hu8, hu9, hu10⟩ := hu
              simp only [Nat.zero_add] at hu0 hu1 hu2 hu3 hu4 hu5 hu6 hu7 hu8 hu9 hu10
              go_simp
            simp only [Act.put, List.setIfInBounds_toArray, List.set_cons_zero, List.set_cons_succ]
            refine oneD (i := 1) (by rfl) (by kernel_rfl) (by rfl) ?_
            go_simp
            refine (HLV.out u2).mono ?_
            rintro _ w3 ⟨rfl, hb3⟩
            have hS3 : EntAt w3 w2.heap.size 0 ⟨y0, y1, y2, y3, y4, y5, y6, y7, y8, y9, y10⟩ := hS0.below hb3
            have HB3 := Lib.hid (step HBA.out (by simp) hb3)
            have HC3 := Lib.hid (HCA.out.below hb3)
            have HR3 := Lib.hid (HRA.out.keep hb3)
            have hs3 := hb3.size
            clear hb3
            refine ⟨hS3, ?_⟩
            try simp only [Act.put, List.setIfInBounds_toArray, List.set_cons_zero, List.set_cons_succ]
            refine oneD (i := 2) (by rfl) (by kernel_rfl) (by rfl) ?_
            go_simp
            try refine ⟨hS3, ?_⟩
            try simp only [Act.put, List.setIfInBounds_toArray, List.set_cons_zero, List.set_cons_succ]
            refine oneD (i := 3) (by rfl) (by kernel_rfl) (by rfl) ?_
            go_simp
            try refine ⟨hS3, ?_⟩
            try simp only [Act.put, List.setIfInBounds_toArray, List.set_cons_zero, List.set_cons_succ]
            refine takeY (i := 4) (v := .pointer (some ⟨b, 0, none⟩)) (by rfl) (by kernel_rfl) (fun _ _ _ h => h) (by rfl) (fun u hu => by go_simp) hS3 ?_
            simp only [Act.put, List.setIfInBounds_toArray, List.set_cons_zero, List.set_cons_succ]
            refine takeY (i := 6) (v := .agg #[.int .u64 y0, .int .u64 y1, .int .i64 y2, .int .u64 y3, .int .u64 y4, .int .u64 y5, .int .u64 y6, .int .i64 y7, .int .i64 y8, .string y9, .string y10]) (by rfl) (by kernel_rfl) (fun _ _ _ h => h) (by rfl) (fun u hu => ?_) hS3 ?_
            · obtain ⟨hu0, hu1, hu2, hu3, hu4, hu5, hu6, hu7, hu8, hu9, hu10⟩ := hu
              simp only [Nat.zero_add] at hu0 hu1 hu2 hu3 hu4 hu5 hu6 hu7 hu8 hu9 hu10
              go_simp
            simp only [Act.put, List.setIfInBounds_toArray, List.set_cons_zero, List.set_cons_succ]
            refine oneY (i := 5) (by rfl) (by kernel_rfl) (by rfl) ?_
            go_simp
            refine (HG.out rfl w3 HR3.out).mono ?_
            rintro _ w4 ⟨rfl, h4, hb4⟩
            have hS4 : EntAt w4 w2.heap.size 0 ⟨y0, y1, y2, y3, y4, y5, y6, y7, y8, y9, y10⟩ := entAt_same (hb4.block w2.heap.size (by omega) (fun h => by have := Option.some.inj h; omega)) hS3
            refine ⟨hS4, ?_⟩
            try simp only [Act.put, List.setIfInBounds_toArray, List.set_cons_zero, List.set_cons_succ]
            have heq := HEQ.out
            refine oneY (i := 7) (by rfl) (by kernel_rfl) (by rfl) ?_
            go_simp
            try refine ⟨hS4, ?_⟩
            try simp only [Act.put, List.setIfInBounds_toArray, List.set_cons_zero, List.set_cons_succ]
            refine oneD (i := 8) (by rfl) (by kernel_rfl) (by rfl) ?_
            go_simp
            first | refine ⟨hS4, by kernel_rfl, NoPanic.normal ?_⟩ | refine ⟨by kernel_rfl, NoPanic.normal ?_⟩
            try simp only [Act.put, List.setIfInBounds_toArray, List.set_cons_zero, List.set_cons_succ]
            have hq := HB3.out.size
            rw [World.size_alloc] at hq
            have HB4 := Lib.hid (HB3.out.trans (But.belowN hb4 (show w.heap.size + 1 ≤ b by omega) (by omega)))
            have HC4 := Lib.hid (HC3.out.same (hb4.block g HC3.out.lt (fun h => by have := Option.some.inj h; omega)))
            have H4 := Lib.hid h4
            clear h4 hb4 hS4 hS0 hS3 heq
            go_wp2_with fail
            go_roundw
            case rel => exact ⟨k + 1, by omega, by go_num, H4.out, fun _ => ⟨by first | rfl | trivial, HC4.out⟩, HB4.out⟩
            case measure => simp [intOf]; omega
          · have hp2 := HNIL.out rfl
            subst hp2
            refine region_D (fun u => EntAt u w2.heap.size 0 ⟨y0, y1, y2, y3, y4, y5, y6, y7, y8, y9, y10⟩) [] 9 (by kernel_rfl) (by rfl) ?_
            generalize (w2.alloc (.cells #[.int .u64 y0, .int .u64 y1, .int .i64 y2, .int .u64 y3, .int .u64 y4, .int .u64 y5, .int .u64 y6, .int .i64 y7, .int .i64 y8, .string y9, .string y10] EntT)).drew = u2 at *
            refine takeD (i := 0) (v := .agg #[.int .u64 y0, .int .u64 y1, .int .i64 y2, .int .u64 y3, .int .u64 y4, .int .u64 y5, .int .u64 y6, .int .i64 y7, .int .i64 y8, .string y9, .string y10]) (by rfl) (by kernel_rfl) (fun _ _ _ h => h) (by rfl) (fun u hu => ?_) hS0 ?_
            · obtain ⟨hu0, hu1, hu2, hu3, hu4, hu5, hu6, hu7, hu8, hu9, hu10⟩ := hu
              simp only [Nat.zero_add] at hu0 hu1 hu2 hu3 hu4 hu5 hu6 hu7 hu8 hu9 hu10
              go_simp
            simp only [Act.put, List.setIfInBounds_toArray, List.set_cons_zero, List.set_cons_succ]
            refine oneD (i := 1) (by rfl) (by kernel_rfl) (by rfl) ?_
            go_simp
            refine (HLV.out u2).mono ?_
            rintro _ w3 ⟨rfl, hb3⟩
            have hS3 : EntAt w3 w2.heap.size 0 ⟨y0, y1, y2, y3, y4, y5, y6, y7, y8, y9, y10⟩ := hS0.below hb3
            have HB3 := Lib.hid (step HBA.out (by simp) hb3)
            have HC3 := Lib.hid (HCA.out.below hb3)
            have HR3 := Lib.hid (HRA.out.keep hb3)
            have hs3 := hb3.size
            clear hb3
            refine ⟨hS3, ?_⟩
            try simp only [Act.put, List.setIfInBounds_toArray, List.set_cons_zero, List.set_cons_succ]
            refine oneD (i := 2) (by rfl) (by kernel_rfl) (by rfl) ?_
            go_simp
            try refine ⟨hS3, ?_⟩
            try simp only [Act.put, List.setIfInBounds_toArray, List.set_cons_zero, List.set_cons_succ]
            refine oneD (i := 3) (by rfl) (by kernel_rfl) (by rfl) ?_
            go_simp
            try refine ⟨hS3, ?_⟩
            try simp only [Act.put, List.setIfInBounds_toArray, List.set_cons_zero, List.set_cons_succ]
            refine takeN (i := 4) (by rfl) (by kernel_rfl) (fun _ _ _ h => h) (by rfl) hS3 ?_
            simp only [Act.put, List.setIfInBounds_toArray, List.set_cons_zero, List.set_cons_succ]
            refine takeN (i := 6) (by rfl) (by kernel_rfl) (fun _ _ _ h => h) (by rfl) hS3 ?_
            simp only [Act.put, List.setIfInBounds_toArray, List.set_cons_zero, List.set_cons_succ]
            refine oneN (i := 5) (by rfl) (by kernel_rfl) (by rfl) hS3 ?_
            try simp only [Act.put, List.setIfInBounds_toArray, List.set_cons_zero, List.set_cons_succ]
            refine oneN (i := 7) (by rfl) (by kernel_rfl) (by rfl) hS3 ?_
            try simp only [Act.put, List.setIfInBounds_toArray, List.set_cons_zero, List.set_cons_succ]
            refine oneD (i := 8) (by rfl) (by kernel_rfl) (by rfl) ?_
            go_simp
            first | refine ⟨hS3, by kernel_rfl, NoPanic.normal ?_⟩ | refine ⟨by kernel_rfl, NoPanic.normal ?_⟩
            try simp only [Act.put, List.setIfInBounds_toArray, List.set_cons_zero, List.set_cons_succ]
            clear hS0 hS3
            go_wp2_with fail
            go_roundw
            case rel => exact ⟨k + 1, by omega, by go_num, HR3.out, fun _ => ⟨by first | rfl | trivial, HC3.out⟩, HB3.out⟩
            case measure => simp [intOf]; omega
        · obtain rfl : k = E.length := by omega
          have hrd2 : RdAt wr b ([], false) := by rw [List.drop_length] at hrd; exact hrd
          have hbz2 := hbr.size
          simp only [World.size_alloc] at hbz2
          have hnb : wr.heap[w.heap.size]? = some (.cells #[.int .i64 m.kind, .int .i64 m.frm, .int .i64 m.to, .int .u64 m.term, .int .u64 m.index, .int .u64 m.prev, .int .u64 m.commit, .int .u64 m.mark, .bool m.ok, .slice sa sn sc, .string m.snap, .bool own, .slice na L.length nc] 51 (0, 0)) := (hbr.block _ (Nat.lt_succ_self _)).trans (heap_alloc_new w _)
          have hnfz : ∀ o, wr.frozen? ⟨w.heap.size, o, none⟩ = false := fun o => Lib.frozen_of_heap hnb o
          have n0 : wr.cell? ⟨w.heap.size, 0, none⟩ = some (.int .i64 m.kind) := Lib.cell_of_heap hnb 0
          have n1 : wr.cell? ⟨w.heap.size, 1, none⟩ = some (.int .i64 m.frm) := Lib.cell_of_heap hnb 1
          have n2 : wr.cell? ⟨w.heap.size, 2, none⟩ = some (.int .i64 m.to) := Lib.cell_of_heap hnb 2
          have n3 : wr.cell? ⟨w.heap.size, 3, none⟩ = some (.int .u64 m.term) := Lib.cell_of_heap hnb 3
          have n4 : wr.cell? ⟨w.heap.size, 4, none⟩ = some (.int .u64 m.index) := Lib.cell_of_heap hnb 4
          have n5 : wr.cell? ⟨w.heap.size, 5, none⟩ = some (.int .u64 m.prev) := Lib.cell_of_heap hnb 5
          have n6 : wr.cell? ⟨w.heap.size, 6, none⟩ = some (.int .u64 m.commit) := Lib.cell_of_heap hnb 6
          have n7 : wr.cell? ⟨w.heap.size, 7, none⟩ = some (.int .u64 m.mark) := Lib.cell_of_heap hnb 7
          have n8 : wr.cell? ⟨w.heap.size, 8, none⟩ = some (.bool m.ok) := Lib.cell_of_heap hnb 8
          have n9 : wr.cell? ⟨w.heap.size, 9, none⟩ = some (.slice sa sn sc) := Lib.cell_of_heap hnb 9
          have n10 : wr.cell? ⟨w.heap.size, 10, none⟩ = some (.string m.snap) := Lib.cell_of_heap hnb 10
          have n11 : wr.cell? ⟨w.heap.size, 11, none⟩ = some (.bool own) := Lib.cell_of_heap hnb 11
          have n12 : wr.cell? ⟨w.heap.size, 12, none⟩ = some (.slice na L.length nc) := Lib.cell_of_heap hnb 12
          have HNB := Lib.hid hnb
          have HRD2 := Lib.hid hrd2
          have hB0 : Below w.heap.size w wr := ((Below.refl _ _).alloc (Nat.le_refl _) _).trans (hbr.mono (by omega))
          have hB1 : Below w.heap.size w (wr.setCell ⟨w.heap.size, 11, none⟩ (.bool true)) := hB0.setCell (Nat.le_refl _) _
          have hnote := fun W hW => note05_own m sa sn sc (.slice na L.length nc) L hm HL.out W hW
          obtain ⟨hsm, hrt, _⟩ := ownMsg_small m (L.map (·.1)) hm.2.2.2.1 hm.2.2.2.2.1 hm.2.2.2.2.2.1 hm.2.2.2.2.2.2.1 hm.2.2.2.2.2.2.2
          generalize ownMsg m (L.map (·.1)) = M at hsm hrt hnote
          have hmlev := fun sv => level_msg M hsm sv
          rcases level_two M with hlv | hlv
          rotate_left
          · have hput2 := fun sv => firstPutMsg_two M hsm hrt hlv sv
            rw [hlv] at hmlev
            have HB1 := Lib.hid hB1
            have HSL := Lib.hid (HNL.out.below hB1)
            clear hrd hrd2 hcop hbr hnb hB0 hB1 hsm hrt hlv
            obtain ⟨q0, q1, q2, q3, q4, q5, q6, q7, q8, q10, q9⟩ := M
            simp only [Msg.cells, List.push_toArray, List.append_toArray, List.cons_append, List.nil_append] at hnote hput2 hmlev
            have HNOTE := Lib.hid hnote
            have HPUT := Lib.hid hput2
            have HMLV := Lib.hid hmlev
            clear hnote hput2 hmlev
            go_wp2_with fail
            refine (HNOTE.out _ HSL.out).mono ?_
            rintro x w5 ⟨sv, rfl, he5, hb5⟩
            obtain ⟨va, vc, rfl, -⟩ := id he5
            have HE5 := Lib.hid he5
            have HB5 := Lib.hid (step HB1.out (Nat.le_refl _) hb5)
            clear hb5 he5 n0 n1 n2 n3 n4 n5 n6 n7 n8 n9 n10 n11 n12 hnfz HNB HSL HB1 HNOTE
            go_wp2_with fail
            have ha5 := (Below.refl w5.heap.size w5).alloc (Nat.le_refl _) (.cells #[.int .i64 q0, .int .i64 q1, .int .i64 q2, .int .u64 q3, .int .u64 q4, .int .u64 q5, .int .u64 q6, .int .u64 q7, .bool q8, .slice va q9.length vc, .string q10] MsgT)
            refine (HPUT.out _ _ (HE5.out.below ha5)).mono ?_
            rintro x w6 ⟨rfl, hb6⟩
            have hbx6 : w6.heap[w5.heap.size]? = some (.cells #[.int .i64 q0, .int .i64 q1, .int .i64 q2, .int .u64 q3, .int .u64 q4, .int .u64 q5, .int .u64 q6, .int .u64 q7, .bool q8, .slice va q9.length vc, .string q10] MsgT (0, 0)) := (hb6.block _ (by simp)).trans (heap_alloc_new w5 _)
            have HE6 := Lib.hid ((HE5.out.below ha5).below hb6)
            have HB6 := Lib.hid (step (step HB5.out (Nat.le_refl _) ha5) (Nat.le_refl _) hb6)
            have p0 : w6.cell? ⟨w5.heap.size, 0, none⟩ = some (.int .i64 q0) := Lib.cell_of_heap hbx6 0
            have p1 : w6.cell? ⟨w5.heap.size, 1, none⟩ = some (.int .i64 q1) := Lib.cell_of_heap hbx6 1
            have p2 : w6.cell? ⟨w5.heap.size, 2, none⟩ = some (.int .i64 q2) := Lib.cell_of_heap hbx6 2
            have p3 : w6.cell? ⟨w5.heap.size, 3, none⟩ = some (.int .u64 q3) := Lib.cell_of_heap hbx6 3
            have p4 : w6.cell? ⟨w5.heap.size, 4, none⟩ = some (.int .u64 q4) := Lib.cell_of_heap hbx6 4
            have p5 : w6.cell? ⟨w5.heap.size, 5, none⟩ = some (.int .u64 q5) := Lib.cell_of_heap hbx6 5
            have p6 : w6.cell? ⟨w5.heap.size, 6, none⟩ = some (.int .u64 q6) := Lib.cell_of_heap hbx6 6
            have p7 : w6.cell? ⟨w5.heap.size, 7, none⟩ = some (.int .u64 q7) := Lib.cell_of_heap hbx6 7
            have p8 : w6.cell? ⟨w5.heap.size, 8, none⟩ = some (.bool q8) := Lib.cell_of_heap hbx6 8
            have p9 : w6.cell? ⟨w5.heap.size, 9, none⟩ = some (.slice va q9.length vc) := Lib.cell_of_heap hbx6 9
            have p10 : w6.cell? ⟨w5.heap.size, 10, none⟩ = some (.string q10) := Lib.cell_of_heap hbx6 10
            clear hbx6 hb6 ha5 HE5 HB5 HPUT
            go_wp2_with fail
            refine (HMLV.out _ _ HE6.out).mono ?_
            rintro x w7 ⟨rfl, hb7⟩
            have HB7 := Lib.hid (step HB6.out (Nat.le_refl _) hb7)
            clear hb7 HB6 p0 p1 p2 p3 p4 p5 p6 p7 p8 p9 p10
            go_wp2_with fail
            go_ret
            exact ⟨rfl, HB7.out⟩
          have hput := fun sv => put_own M hsm hrt hlv sv
          have hget1 := get_own M hsm hrt hlv
          have hget2 := get_cut M hsm hlv
          have hget3 := get_long M hsm hlv
          rw [hlv] at hmlev
          have hsame := same_own M hsm
          have hzne : putFM M ≠ [] := putFM_ne _
          have hzl : (putFM M).length ≤ 200000 := putFM_len _ hsm
          have hRD3 : RdAt (wr.setCell ⟨w.heap.size, 11, none⟩ (.bool true)) b ([], false) := fir_rd hrd2 (by omega)
          have HRD3 := Lib.hid hRD3
          have HB1 := Lib.hid hB1
          have HSL := Lib.hid (HNL.out.below hB1)
          clear hrd hrd2 hcop hbr hnb hB0 hB1 hsm hrt hRD3 hlv
          generalize putFM M = z at hput hget1 hget2 hget3 hzne hzl
          obtain ⟨q0, q1, q2, q3, q4, q5, q6, q7, q8, q10, q9⟩ := M
          simp only [Msg.cells, List.push_toArray, List.append_toArray, List.cons_append, List.nil_append] at hnote hput hget1 hsame hmlev
          have HMLV := Lib.hid hmlev
          have HNOTE := Lib.hid hnote
          have HPUT := Lib.hid hput
          have HG1 := Lib.hid hget1
          have HG2 := Lib.hid hget2
          have HG3 := Lib.hid hget3
          have HSAME := Lib.hid hsame
          clear hnote hput hget1 hget2 hget3 hsame hmlev
          go_wp2_with fail
          refine (HNOTE.out _ HSL.out).mono ?_
          rintro x w5 ⟨sv, rfl, he5, hb5⟩
          obtain ⟨va, vc, rfl, -⟩ := id he5
          have HE5 := Lib.hid he5
          have HB5 := Lib.hid (step HB1.out (Nat.le_refl _) hb5)
          have HR5 := Lib.hid (HRD3.out.keep hb5)
          clear hb5 he5 n0 n1 n2 n3 n4 n5 n6 n7 n8 n9 n10 n11 n12 hnfz HNB HSL HB1 HRD3 HNOTE
          go_wp2_with fail
          have ha5 := (Below.refl w5.heap.size w5).alloc (Nat.le_refl _) (.cells #[.int .i64 q0, .int .i64 q1, .int .i64 q2, .int .u64 q3, .int .u64 q4, .int .u64 q5, .int .u64 q6, .int .u64 q7, .bool q8, .slice va q9.length vc, .string q10] MsgT)
          refine (HPUT.out _ _ (HE5.out.below ha5)).mono ?_
          rintro x w6 ⟨rfl, hb6⟩
          have hbx6 : w6.heap[w5.heap.size]? = some (.cells #[.int .i64 q0, .int .i64 q1, .int .i64 q2, .int .u64 q3, .int .u64 q4, .int .u64 q5, .int .u64 q6, .int .u64 q7, .bool q8, .slice va q9.length vc, .string q10] MsgT (0, 0)) := (hb6.block _ (by simp)).trans (heap_alloc_new w5 _)
          have HX6a := Lib.hid hbx6
          have HE6a := Lib.hid ((HE5.out.below ha5).below hb6)
          have HB6a := Lib.hid (step (step HB5.out (Nat.le_refl _) ha5) (Nat.le_refl _) hb6)
          have HR6a := Lib.hid ((HR5.out.keep ha5).keep hb6)
          have hze : z.isEmpty = false := by
            cases z with
            | nil => exact absurd rfl hzne
            | cons a l => rfl
          have p0 : w6.cell? ⟨w5.heap.size, 0, none⟩ = some (.int .i64 q0) := Lib.cell_of_heap hbx6 0
          have p1 : w6.cell? ⟨w5.heap.size, 1, none⟩ = some (.int .i64 q1) := Lib.cell_of_heap hbx6 1
          have p2 : w6.cell? ⟨w5.heap.size, 2, none⟩ = some (.int .i64 q2) := Lib.cell_of_heap hbx6 2
          have p3 : w6.cell? ⟨w5.heap.size, 3, none⟩ = some (.int .u64 q3) := Lib.cell_of_heap hbx6 3
          have p4 : w6.cell? ⟨w5.heap.size, 4, none⟩ = some (.int .u64 q4) := Lib.cell_of_heap hbx6 4
          have p5 : w6.cell? ⟨w5.heap.size, 5, none⟩ = some (.int .u64 q5) := Lib.cell_of_heap hbx6 5
          have p6 : w6.cell? ⟨w5.heap.size, 6, none⟩ = some (.int .u64 q6) := Lib.cell_of_heap hbx6 6
          have p7 : w6.cell? ⟨w5.heap.size, 7, none⟩ = some (.int .u64 q7) := Lib.cell_of_heap hbx6 7
          have p8 : w6.cell? ⟨w5.heap.size, 8, none⟩ = some (.bool q8) := Lib.cell_of_heap hbx6 8
          have p9 : w6.cell? ⟨w5.heap.size, 9, none⟩ = some (.slice va q9.length vc) := Lib.cell_of_heap hbx6 9
          have p10 : w6.cell? ⟨w5.heap.size, 10, none⟩ = some (.string q10) := Lib.cell_of_heap hbx6 10
          clear hbx6 hb6 ha5 HE5 HB5 HR5 HPUT
          go_wp2_with fail
          refine (HMLV.out _ _ HE6a.out).mono ?_
          rintro x w6 ⟨rfl, hb6⟩
          have HX6 := Lib.hid ((hb6.block _ (heap_lt HX6a.out)).trans HX6a.out)
          have HE6 := Lib.hid (HE6a.out.below hb6)
          have HB6 := Lib.hid (step HB6a.out (Nat.le_refl _) hb6)
          have HR6 := Lib.hid (HR6a.out.keep hb6)
          clear hb6 HX6a HE6a HB6a HR6a HMLV p0 p1 p2 p3 p4 p5 p6 p7 p8 p9 p10
          go_wp2_with fail
          refine (HG1.out _).mono ?_
          rintro x w7 ⟨sv2, rfl, he7, hb7⟩
          obtain ⟨va2, vc2, rfl, -⟩ := id he7
          have HE7 := Lib.hid he7
          have HX7 := Lib.hid ((hb7.block _ (heap_lt HX6.out)).trans HX6.out)
          have HM7 := Lib.hid (HE6.out.below hb7)
          have HB7 := Lib.hid (step HB6.out (Nat.le_refl _) hb7)
          have HR7 := Lib.hid (HR6.out.keep hb7)
          clear he7 hb7 HX6 HE6 HB6 HR6 HG1
          have hzp : 0 < z.length := List.length_pos_iff.2 hzne
          have hk0 : 0 ≤ (cut : Int) % (z.length : Int) := Int.emod_nonneg _ (by omega)
          have hk1 : (cut : Int) % (z.length : Int) ≤ (z.length : Int) := Int.le_of_lt (Int.emod_lt_of_pos _ (by omega))
          have hkm : cut % z.length < z.length := Nat.mod_lt _ hzp
          have hex : (⟨z.toArray⟩ : ByteArray).extract 0 (cut % z.length) = ⟨(z.take (cut % z.length)).toArray⟩ := by
            apply ByteArray.ext
            simp [ByteArray.data_extract]
          have HK := Lib.hid hkm
          have HEX := Lib.hid hex
          clear hkm hex
          go_wp2_with fail
          rw [HEX.out]
          have ha7 := (Below.refl w7.heap.size w7).alloc (Nat.le_refl _) (.cells #[.int .i64 q0, .int .i64 q1, .int .i64 q2, .int .u64 q3, .int .u64 q4, .int .u64 q5, .int .u64 q6, .int .u64 q7, .bool q8, .slice va2 q9.length vc2, .string q10] MsgT)
          refine (HG2.out _ HK.out _).mono ?_
          rintro x w8 ⟨m8, sv8, rfl, he8, hb8⟩
          obtain ⟨va8, vc8, rfl, -⟩ := id he8
          have HX8 := Lib.hid ((hb8.block w5.heap.size (by have := heap_lt HX7.out; rw [World.size_alloc]; omega)).trans ((ha7.block _ (heap_lt HX7.out)).trans HX7.out))
          have HY8 := Lib.hid ((hb8.block w7.heap.size (by rw [World.size_alloc]; omega)).trans (heap_alloc_new w7 (.cells #[.int .i64 q0, .int .i64 q1, .int .i64 q2, .int .u64 q3, .int .u64 q4, .int .u64 q5, .int .u64 q6, .int .u64 q7, .bool q8, .slice va2 q9.length vc2, .string q10] MsgT)))
          have HM8 := Lib.hid ((HM7.out.below ha7).below hb8)
          have HE8 := Lib.hid ((HE7.out.below ha7).below hb8)
          have HB8 := Lib.hid (step (step HB7.out (Nat.le_refl _) ha7) (Nat.le_refl _) hb8)
          have HR8 := Lib.hid ((HR7.out.keep ha7).keep hb8)
          clear he8 hb8 ha7 HX7 HM7 HE7 HB7 HR7 HEX
          simp only [Msg.cells]
          generalize m8.entries.length = n8
          have hz1 : z.length + 1 ≤ 200001 := by omega
          go_wp2_with fail
          have hcat : (⟨z.toArray⟩ : ByteArray) ++ ⟨#[0]⟩ = ⟨(z ++ [0]).toArray⟩ := ByteArray.mk_append_mk z [0]
          rw [hcat]
          have ha8 := (Below.refl w8.heap.size w8).alloc (Nat.le_refl _) (.cells #[.int .i64 m8.kind, .int .i64 m8.frm, .int .i64 m8.to, .int .u64 m8.term, .int .u64 m8.index, .int .u64 m8.prev, .int .u64 m8.commit, .int .u64 m8.mark, .bool m8.ok, .slice va8 n8 vc8, .string m8.snap] MsgT)
          refine (HG3.out _).mono ?_
          rintro x w9 ⟨m9, sv9, rfl, he9, hb9⟩
          obtain ⟨va9, vc9, rfl, -⟩ := id he9
          have HX9 := Lib.hid ((hb9.block w5.heap.size (by have := heap_lt HX8.out; rw [World.size_alloc]; omega)).trans ((ha8.block _ (heap_lt HX8.out)).trans HX8.out))
          have HY9 := Lib.hid ((hb9.block w7.heap.size (by have := heap_lt HY8.out; rw [World.size_alloc]; omega)).trans ((ha8.block _ (heap_lt HY8.out)).trans HY8.out))
          have HM9 := Lib.hid ((HM8.out.below ha8).below hb9)
          have HE9 := Lib.hid ((HE8.out.below ha8).below hb9)
          have HB9 := Lib.hid (step (step HB8.out (Nat.le_refl _) ha8) (Nat.le_refl _) hb9)
          have HR9 := Lib.hid ((HR8.out.keep ha8).keep hb9)
          clear he9 hb9 ha8 HX8 HY8 HM8 HE8 HB8 HR8 hcat
          simp only [Msg.cells]
          generalize m9.entries.length = n9
          have ha9 := (Below.refl w9.heap.size w9).alloc (Nat.le_refl _) (.cells #[.int .i64 m9.kind, .int .i64 m9.frm, .int .i64 m9.to, .int .u64 m9.term, .int .u64 m9.index, .int .u64 m9.prev, .int .u64 m9.commit, .int .u64 m9.mark, .bool m9.ok, .slice va9 n9 vc9, .string m9.snap] MsgT)
          have HMf := Lib.hid (HM9.out.below ha9)
          have HEf := Lib.hid (HE9.out.below ha9)
          have HRf := Lib.hid (HR9.out.keep ha9)
          have HBf := Lib.hid (step HB9.out (Nat.le_refl _) ha9)
          have p0 : (w9.alloc (.cells #[.int .i64 m9.kind, .int .i64 m9.frm, .int .i64 m9.to, .int .u64 m9.term, .int .u64 m9.index, .int .u64 m9.prev, .int .u64 m9.commit, .int .u64 m9.mark, .bool m9.ok, .slice va9 n9 vc9, .string m9.snap] MsgT)).cell? ⟨w5.heap.size, 0, none⟩ = some (.int .i64 q0) := cell_al (Lib.cell_of_heap HX9.out 0) _
          have p1 : (w9.alloc (.cells #[.int .i64 m9.kind, .int .i64 m9.frm, .int .i64 m9.to, .int .u64 m9.term, .int .u64 m9.index, .int .u64 m9.prev, .int .u64 m9.commit, .int .u64 m9.mark, .bool m9.ok, .slice va9 n9 vc9, .string m9.snap] MsgT)).cell? ⟨w5.heap.size, 1, none⟩ = some (.int .i64 q1) := cell_al (Lib.cell_of_heap HX9.out 1) _
          have p2 : (w9.alloc (.cells #[.int .i64 m9.kind, .int .i64 m9.frm, .int .i64 m9.to, .int .u64 m9.term, .int .u64 m9.index, .int .u64 m9.prev, .int .u64 m9.commit, .int .u64 m9.mark, .bool m9.ok, .slice va9 n9 vc9, .string m9.snap] MsgT)).cell? ⟨w5.heap.size, 2, none⟩ = some (.int .i64 q2) := cell_al (Lib.cell_of_heap HX9.out 2) _
          have p3 : (w9.alloc (.cells #[.int .i64 m9.kind, .int .i64 m9.frm, .int .i64 m9.to, .int .u64 m9.term, .int .u64 m9.index, .int .u64 m9.prev, .int .u64 m9.commit, .int .u64 m9.mark, .bool m9.ok, .slice va9 n9 vc9, .string m9.snap] MsgT)).cell? ⟨w5.heap.size, 3, none⟩ = some (.int .u64 q3) := cell_al (Lib.cell_of_heap HX9.out 3) _
          have p4 : (w9.alloc (.cells #[.int .i64 m9.kind, .int .i64 m9.frm, .int .i64 m9.to, .int .u64 m9.term, .int .u64 m9.index, .int .u64 m9.prev, .int .u64 m9.commit, .int .u64 m9.mark, .bool m9.ok, .slice va9 n9 vc9, .string m9.snap] MsgT)).cell? ⟨w5.heap.size, 4, none⟩ = some (.int .u64 q4) := cell_al (Lib.cell_of_heap HX9.out 4) _
          have p5 : (w9.alloc (.cells #[.int .i64 m9.kind, .int .i64 m9.frm, .int .i64 m9.to, .int .u64 m9.term, .int .u64 m9.index, .int .u64 m9.prev, .int .u64 m9.commit, .int .u64 m9.mark, .bool m9.ok, .slice va9 n9 vc9, .string m9.snap] MsgT)).cell? ⟨w5.heap.size, 5, none⟩ = some (.int .u64 q5) := cell_al (Lib.cell_of_heap HX9.out 5) _
          have p6 : (w9.alloc (.cells #[.int .i64 m9.kind, .int .i64 m9.frm, .int .i64 m9.to, .int .u64 m9.term, .int .u64 m9.index, .int .u64 m9.prev, .int .u64 m9.commit, .int .u64 m9.mark, .bool m9.ok, .slice va9 n9 vc9, .string m9.snap] MsgT)).cell? ⟨w5.heap.size, 6, none⟩ = some (.int .u64 q6) := cell_al (Lib.cell_of_heap HX9.out 6) _
          have p7 : (w9.alloc (.cells #[.int .i64 m9.kind, .int .i64 m9.frm, .int .i64 m9.to, .int .u64 m9.term, .int .u64 m9.index, .int .u64 m9.prev, .int .u64 m9.commit, .int .u64 m9.mark, .bool m9.ok, .slice va9 n9 vc9, .string m9.snap] MsgT)).cell? ⟨w5.heap.size, 7, none⟩ = some (.int .u64 q7) := cell_al (Lib.cell_of_heap HX9.out 7) _
          have p8 : (w9.alloc (.cells #[.int .i64 m9.kind, .int .i64 m9.frm, .int .i64 m9.to, .int .u64 m9.term, .int .u64 m9.index, .int .u64 m9.prev, .int .u64 m9.commit, .int .u64 m9.mark, .bool m9.ok, .slice va9 n9 vc9, .string m9.snap] MsgT)).cell? ⟨w5.heap.size, 8, none⟩ = some (.bool q8) := cell_al (Lib.cell_of_heap HX9.out 8) _
          have p9 : (w9.alloc (.cells #[.int .i64 m9.kind, .int .i64 m9.frm, .int .i64 m9.to, .int .u64 m9.term, .int .u64 m9.index, .int .u64 m9.prev, .int .u64 m9.commit, .int .u64 m9.mark, .bool m9.ok, .slice va9 n9 vc9, .string m9.snap] MsgT)).cell? ⟨w5.heap.size, 9, none⟩ = some (.slice va q9.length vc) := cell_al (Lib.cell_of_heap HX9.out 9) _
          have p10 : (w9.alloc (.cells #[.int .i64 m9.kind, .int .i64 m9.frm, .int .i64 m9.to, .int .u64 m9.term, .int .u64 m9.index, .int .u64 m9.prev, .int .u64 m9.commit, .int .u64 m9.mark, .bool m9.ok, .slice va9 n9 vc9, .string m9.snap] MsgT)).cell? ⟨w5.heap.size, 10, none⟩ = some (.string q10) := cell_al (Lib.cell_of_heap HX9.out 10) _
          have r0 : (w9.alloc (.cells #[.int .i64 m9.kind, .int .i64 m9.frm, .int .i64 m9.to, .int .u64 m9.term, .int .u64 m9.index, .int .u64 m9.prev, .int .u64 m9.commit, .int .u64 m9.mark, .bool m9.ok, .slice va9 n9 vc9, .string m9.snap] MsgT)).cell? ⟨w7.heap.size, 0, none⟩ = some (.int .i64 q0) := cell_al (Lib.cell_of_heap HY9.out 0) _
          have r1 : (w9.alloc (.cells #[.int .i64 m9.kind, .int .i64 m9.frm, .int .i64 m9.to, .int .u64 m9.term, .int .u64 m9.index, .int .u64 m9.prev, .int .u64 m9.commit, .int .u64 m9.mark, .bool m9.ok, .slice va9 n9 vc9, .string m9.snap] MsgT)).cell? ⟨w7.heap.size, 1, none⟩ = some (.int .i64 q1) := cell_al (Lib.cell_of_heap HY9.out 1) _
          have r2 : (w9.alloc (.cells #[.int .i64 m9.kind, .int .i64 m9.frm, .int .i64 m9.to, .int .u64 m9.term, .int .u64 m9.index, .int .u64 m9.prev, .int .u64 m9.commit, .int .u64 m9.mark, .bool m9.ok, .slice va9 n9 vc9, .string m9.snap] MsgT)).cell? ⟨w7.heap.size, 2, none⟩ = some (.int .i64 q2) := cell_al (Lib.cell_of_heap HY9.out 2) _
          have r3 : (w9.alloc (.cells #[.int .i64 m9.kind, .int .i64 m9.frm, .int .i64 m9.to, .int .u64 m9.term, .int .u64 m9.index, .int .u64 m9.prev, .int .u64 m9.commit, .int .u64 m9.mark, .bool m9.ok, .slice va9 n9 vc9, .string m9.snap] MsgT)).cell? ⟨w7.heap.size, 3, none⟩ = some (.int .u64 q3) := cell_al (Lib.cell_of_heap HY9.out 3) _
          have r4 : (w9.alloc (.cells #[.int .i64 m9.kind, .int .i64 m9.frm, .int .i64 m9.to, .int .u64 m9.term, .int .u64 m9.index, .int .u64 m9.prev, .int .u64 m9.commit, .int .u64 m9.mark, .bool m9.ok, .slice va9 n9 vc9, .string m9.snap] MsgT)).cell? ⟨w7.heap.size, 4, none⟩ = some (.int .u64 q4) := cell_al (Lib.cell_of_heap HY9.out 4) _
          have r5 : (w9.alloc (.cells #[.int .i64 m9.kind, .int .i64 m9.frm, .int .i64 m9.to, .int .u64 m9.term, .int .u64 m9.index, .int .u64 m9.prev, .int .u64 m9.commit, .int .u64 m9.mark, .bool m9.ok, .slice va9 n9 vc9, .string m9.snap] MsgT)).cell? ⟨w7.heap.size, 5, none⟩ = some (.int .u64 q5) := cell_al (Lib.cell_of_heap HY9.out 5) _
          have r6 : (w9.alloc (.cells #[.int .i64 m9.kind, .int .i64 m9.frm, .int .i64 m9.to, .int .u64 m9.term, .int .u64 m9.index, .int .u64 m9.prev, .int .u64 m9.commit, .int .u64 m9.mark, .bool m9.ok, .slice va9 n9 vc9, .string m9.snap] MsgT)).cell? ⟨w7.heap.size, 6, none⟩ = some (.int .u64 q6) := cell_al (Lib.cell_of_heap HY9.out 6) _
          have r7 : (w9.alloc (.cells #[.int .i64 m9.kind, .int .i64 m9.frm, .int .i64 m9.to, .int .u64 m9.term, .int .u64 m9.index, .int .u64 m9.prev, .int .u64 m9.commit, .int .u64 m9.mark, .bool m9.ok, .slice va9 n9 vc9, .string m9.snap] MsgT)).cell? ⟨w7.heap.size, 7, none⟩ = some (.int .u64 q7) := cell_al (Lib.cell_of_heap HY9.out 7) _
          have r8 : (w9.alloc (.cells #[.int .i64 m9.kind, .int .i64 m9.frm, .int .i64 m9.to, .int .u64 m9.term, .int .u64 m9.index, .int .u64 m9.prev, .int .u64 m9.commit, .int .u64 m9.mark, .bool m9.ok, .slice va9 n9 vc9, .string m9.snap] MsgT)).cell? ⟨w7.heap.size, 8, none⟩ = some (.bool q8) := cell_al (Lib.cell_of_heap HY9.out 8) _
          have r9 : (w9.alloc (.cells #[.int .i64 m9.kind, .int .i64 m9.frm, .int .i64 m9.to, .int .u64 m9.term, .int .u64 m9.index, .int .u64 m9.prev, .int .u64 m9.commit, .int .u64 m9.mark, .bool m9.ok, .slice va9 n9 vc9, .string m9.snap] MsgT)).cell? ⟨w7.heap.size, 9, none⟩ = some (.slice va2 q9.length vc2) := cell_al (Lib.cell_of_heap HY9.out 9) _
          have r10 : (w9.alloc (.cells #[.int .i64 m9.kind, .int .i64 m9.frm, .int .i64 m9.to, .int .u64 m9.term, .int .u64 m9.index, .int .u64 m9.prev, .int .u64 m9.commit, .int .u64 m9.mark, .bool m9.ok, .slice va9 n9 vc9, .string m9.snap] MsgT)).cell? ⟨w7.heap.size, 10, none⟩ = some (.string q10) := cell_al (Lib.cell_of_heap HY9.out 10) _
          clear ha9 HM9 HE9 HR9 HB9 HX9 HY9
          go_wp2_with fail
          refine (HSAME.out _ _ _ (HT.out.next HBf.out) HMf.out HEf.out).mono ?_
          rintro x w10 ⟨rfl, hb10⟩
          have HR10 := Lib.hid (HRf.out.keep hb10)
          have HB10 := Lib.hid (step HBf.out (Nat.le_refl _) hb10)
          clear hb10 p0 r0 p1 r1 p2 r2 p3 r3 p4 r4 p5 r5 p6 r6 p7 r7 p8 r8 p9 r9 p10 r10
          go_wp2_with fail
          refine (ok_any b ([], false) w10 HR10.out).mono ?_
          rintro x w10' ⟨rfl, rfl⟩
          go_wp2_with fail
          refine (left_any b ([], false) _ HR10.out).mono ?_
          rintro x w10'' ⟨rfl, rfl⟩
          go_wp2_with fail
          go_ret
          exact ⟨rfl, HB10.out⟩

end Go.Proofs.YtbjbgdnjcppjhaaGreatDoor.of05
