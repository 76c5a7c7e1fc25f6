/-
  law06's examples: they are so. No condition. By an AI agent.
-/
import Derived.Test.YtbjbgdnjcppjhaaGreatDoorJSecM
import Derived.Test.YtbjbgdnjcppjhaaGreatDoorJLaw06
import Derived.Test.YtbjbgdnjcppjhaaGreatDoorMsgSame
import Derived.Test.YtbjbgdnjcppjhaaGreatDoorSameE
import Derived.Laws.AppendOwnNone
namespace Go.Proofs.YtbjbgdnjcppjhaaGreatDoor
open Go.RowKit Go.Sort
set_option linter.unusedVariables false
set_option linter.unusedSimpArgs false

def exE1 : Ent := ⟨1, 1, 0, 0, 0, 0, 0, 0, 0, ⟨#[]⟩, ⟨#[]⟩⟩
def exE2 : Ent := ⟨1, 1, 11, 1, 0, 0, 0, 0, 0, ⟨#[]⟩, ⟨#[97]⟩⟩
theorem varL_small (n : Nat) (h : n < 128) : varL n = [UInt8.ofNat n] := by
  rw [varL, dif_pos h]
theorem exE1_bytes : secE exE1 = [2, 1, 3, 1, 0] := by
  simp [secE, entBs, exE1, tagL, numL, textF, varL_small]
theorem exE2_bytes : secE exE2 = [1, 11, 2, 1, 3, 1, 4, 1, 11, 1, 97, 0] := by
  simp [secE, entBs, exE2, tagL, numL, textF, varL_small]
theorem exE1_small : Small exE1 ∧ rightB exE1 = true := ⟨⟨by decide, by decide, by decide, by decide, by decide, by decide, by decide, by decide, by decide, by decide, by decide⟩, by decide⟩
theorem exE2_small : Small exE2 ∧ rightB exE2 = true := ⟨⟨by decide, by decide, by decide, by decide, by decide, by decide, by decide, by decide, by decide, by decide, by decide⟩, by decide⟩
theorem gotM_nil : gotM [] = false := by
  have h : getMsgL [] = (Msg.none, rdFail) := by
    unfold getMsgL
    rw [getL_eq msgTakes 0 Msg.none ([], false) (n := 0) (x := rdFail) rfl]
    rfl
  unfold gotM
  rw [h]
  rfl

set_option maxRecDepth 100000 in
set_option maxHeartbeats 2000000 in
theorem examples06_any (w : World) : Calls Tryz.prog 6 #[] w fun x w' => x = .returned (.bool true) ∧ Below w.heap.size w w' := by
  have hp1 := fun W => secondPut_any exE1 exE1_small.1 exE1_small.2 W
  have hp2 := fun W => secondPut_any exE2 exE2_small.1 exE2_small.2 W
  rw [exE1_bytes] at hp1
  rw [exE2_bytes] at hp2
  simp only [Ent.val, Ent.cells, exE1] at hp1
  simp only [Ent.val, Ent.cells, exE2] at hp2
  have hg := fun W => getMsg_any [] (by decide) W
  rw [gotM_nil] at hg
  have HP1 := Lib.hid hp1
  have HP2 := Lib.hid hp2
  have HG := Lib.hid hg
  clear hp1 hp2 hg
  go_enter Tryz.func6, Tryz.ntmps6
  go_wp2_with fail
  refine (HP1.out _).mono ?_
  rintro x w1 ⟨rfl, hb1⟩
  have HB1 := Lib.hid hb1
  clear hb1
  go_wp2_with fail
  refine (HP2.out _).mono ?_
  rintro x w2 ⟨rfl, hb2⟩
  have HB2 := Lib.hid (HB1.out.trans (hb2.mono HB1.out.size))
  clear hb2 HB1
  go_wp2_with fail
  refine (HG.out _).mono ?_
  rintro x w3 ⟨m, sv, rfl, _, he, hb3⟩
  have HB3 := Lib.hid (HB2.out.trans (hb3.mono HB2.out.size))
  obtain ⟨va, vc, hsv, _⟩ := he
  subst hsv
  simp only [Msg.cells]
  clear hb3 HB2
  go_wp2_with fail
  go_ret
  exact ⟨rfl, HB3.out.trans (((Below.refl _ _).alloc (Nat.le_refl _) _).mono HB3.out.size)⟩

end Go.Proofs.YtbjbgdnjcppjhaaGreatDoor

/-
  law06.SecondBack walks to true. Conditions: the arguments are of their kinds. By an AI agent.
-/
namespace Go.Proofs.YtbjbgdnjcppjhaaGreatDoor.of06
open Go.RowKit Go.Sort
set_option linter.unusedVariables false
set_option linter.unusedSimpArgs false

theorem small_fine {m : Msg} (h : SmallM m) : m.fine :=
  ⟨⟨by have := h.kind; exact ⟨by omega, by omega⟩, by have := h.frm; exact ⟨by omega, by omega⟩, by have := h.to; exact ⟨by omega, by omega⟩, h.term, h.index, h.prev, h.commit, h.mark, by have := h.snap; omega, fun e he => (h.each e he).1.wf⟩,
    by have := h.snap; omega, by have := h.count; omega, fun e he => ⟨by have := (h.each e he).1.data; omega, by have := (h.each e he).1.old; omega⟩⟩
/-- an entry's bytes, by its parts -/
def backE (e : Ent) : List UInt8 := secE (ownEnt e)

theorem step {n : Nat} {W w w' : World} (h : Below n W w) (hn : n ≤ W.heap.size) (h2 : Below w.heap.size w w') : Below n W w' := h.trans (h2.mono (Nat.le_trans hn h.size))
theorem entAt_same {w w' : World} {b o : Nat} {e : Ent} (hb : w'.heap[b]? = w.heap[b]?) (h : EntAt w b o e) : EntAt w' b o e := by
  obtain ⟨c0, c1, c2, c3, c4, c5, c6, c7, c8, c9, c10⟩ := h
  have k : ∀ q v, w.cell? ⟨b, q, none⟩ = some v → w'.cell? ⟨b, q, none⟩ = some v := fun q v h => (World.cell?_of_block (w := w) (a := ⟨b, q, none⟩) hb).trans h
  exact ⟨k _ _ c0, k _ _ c1, k _ _ c2, k _ _ c3, k _ _ c4, k _ _ c5, k _ _ c6, k _ _ c7, k _ _ c8, k _ _ c9, k _ _ c10⟩
theorem _root_.Go.Proofs.YtbjbgdnjcppjhaaGreatDoor.But.belowN {b n : Nat} {w w' : World} (h : But b w w') (hb : n ≤ b) (hn : n ≤ w.heap.size) : Below n w w' :=
  ⟨h.os, h.tape, h.output, h.size, fun k hk => h.block k (by omega) (fun h => by have := Option.some.inj h; omega)⟩
theorem flatB_len (l : List Ent) : (l.flatMap backE).length ≤ 1000 * l.length := by
  induction l with
  | nil => simp
  | cons e l ih =>
    have h2 := secE_len (ownEnt e) (own_small e).1
    rw [List.flatMap_cons, List.length_append, List.length_cons]
    unfold backE at *
    omega

theorem secM_ne (M : Msg) : secM M ≠ [] := tagL_ne (msgBs M) 0
theorem put_own (M : Msg) (hsm : SmallM M) (hrt : msgRightB M = true) (sv : Value) (W : World) (hW : EntsAt W sv M.entries) :
    Calls Tryz.prog 12 #[.agg (M.cells sv)] W fun x w' => x = .returned (.tuple #[.string ⟨(secM M).toArray⟩, .bool true]) ∧ Below W.heap.size W w' := secondPutMsg_any M hsm hrt sv W hW
theorem get_own (M : Msg) (hsm : SmallM M) (hrt : msgRightB M = true) (W : World) :
    Calls Tryz.prog 14 #[.string ⟨(secM M).toArray⟩] W fun x w' => ∃ sv, x = .returned (.tuple #[.agg (M.cells sv), .bool true]) ∧ EntsAt w' sv M.entries ∧ Below W.heap.size W w' := by
  have hback := gotM_back M hsm hrt
  have hl := secM_len M hsm
  refine (getMsg_any (secM M) (by omega) W).mono fun x w' ⟨m', sv, h1, h2, h3, h4⟩ => ?_
  have e : m' = M := (h2 hback.1).trans hback.2
  subst e
  rw [hback.1] at h1
  exact ⟨sv, h1, h3, h4⟩
theorem get_cut (M : Msg) (hsm : SmallM M) (k : Nat) (hk : k < (secM M).length) (W : World) :
    Calls Tryz.prog 14 #[.string ⟨((secM M).take k).toArray⟩] W fun x w' => ∃ m' sv, x = .returned (.tuple #[.agg (Msg.cells m' sv), .bool false]) ∧ EntsAt w' sv m'.entries ∧ Below W.heap.size W w' := by
  have hl := secM_len M hsm
  refine (getMsg_any ((secM M).take k) (by rw [List.length_take]; omega) W).mono fun x w' ⟨m', sv, h1, h2, h3, h4⟩ => ?_
  rw [gotM_short M hsm k hk] at h1
  exact ⟨m', sv, h1, h3, h4⟩
theorem get_long (M : Msg) (hsm : SmallM M) (W : World) :
    Calls Tryz.prog 14 #[.string ⟨(secM M ++ [0]).toArray⟩] W fun x w' => ∃ m' sv, x = .returned (.tuple #[.agg (Msg.cells m' sv), .bool false]) ∧ EntsAt w' sv m'.entries ∧ Below W.heap.size W w' := by
  have hl := secM_len M hsm
  refine (getMsg_any (secM M ++ [0]) (by rw [List.length_append]; simp only [List.length_cons, List.length_nil]; omega) W).mono fun x w' ⟨m', sv, h1, h2, h3, h4⟩ => ?_
  rw [gotM_long M hsm] at h1
  exact ⟨m', sv, h1, h3, h4⟩
theorem same_own (M : Msg) (hsm : SmallM M) (s1 s2 : Value) (W : World) (hW : Tabs W) (h1 : EntsAt W s1 M.entries) (h2 : EntsAt W s2 M.entries) :
    Calls Tryz.prog 15 #[.agg (M.cells s1), .agg (M.cells s2)] W fun x w' => x = .returned (.bool true) ∧ Below W.heap.size W w' := by
  have h := msgSame_any M M s1 s2 (small_fine hsm) (small_fine hsm) W hW h1 h2
  rw [msgSame_self] at h
  exact h

set_option maxRecDepth 100000 in
set_option maxHeartbeats 8000000 in
theorem secondBack_any (l : List (Ent × Bool)) (sl : Value) (m : Msg) (sa : Option Addr) (sn sc : Nat) (own : Bool) (sL : Value) (L : List (Ent × Bool)) (cut : Nat) (hcut : cut ≤ 65535) (hl : ∀ p ∈ l, p.1.wf)
    (hm : I64 m.kind ∧ I64 m.frm ∧ I64 m.to ∧ U64 m.term ∧ U64 m.index ∧ U64 m.prev ∧ U64 m.commit ∧ U64 m.mark) (hL : ∀ p ∈ L, p.1.wf) (w : World) (ht : Tabs w) (hs : MadesAt w sl l) (hs0 : ∀ c, sl = .slice none l.length c → c = 0) (hsL : MadesAt w sL L) :
    Calls Tryz.prog 3 #[sl, .agg (m.cells (.slice sa sn sc) ++ #[.bool own, sL]), .int .u16 cut] w fun x w' => x = .returned (.bool true) ∧ Below w.heap.size w w' := by
  obtain ⟨la, lc, rfl, hc1, hc2, hLs⟩ := hs
  obtain ⟨na, nc, rfl, hn1, hn2, hnL⟩ := id hsL
  obtain ⟨i0, hi0, hz0, hz1, hz2⟩ := info_parts infoMade
  have HI := Lib.hid hi0
  have HSRC := Lib.hid hLs
  have HS0 := Lib.hid hs0
  have HNL := Lib.hid hsL
  have HT := Lib.hid ht
  have hval : (.agg (m.cells (.slice sa sn sc) ++ #[.bool own, .slice na L.length nc]) : Value) = .agg #[.int .i64 m.kind, .int .i64 m.frm, .int .i64 m.to, .int .u64 m.term, .int .u64 m.index, .int .u64 m.prev, .int .u64 m.commit, .int .u64 m.mark, .bool m.ok, .slice sa sn sc, .string m.snap, .bool own, .slice na L.length nc] := rfl
  rw [hval]
  clear hi0 hLs hs0 hnL ht hval hsL
  obtain ⟨n, hn5, hnl, hmin⟩ : ∃ n : Nat, n ≤ 5 ∧ n ≤ l.length ∧ min (l.length : Int) 5 = (n : Int) := ⟨min l.length 5, by omega, by omega, by omega⟩
  obtain ⟨E, hEd⟩ : ∃ E, E = (l.take n).map (·.1) := ⟨_, rfl⟩
  have hE : E.length = n := by rw [hEd]; simp; omega
  go_enter Tryz.func3, Tryz.ntmps3
  go_wp2_with fail
  refine (examples06_any _).mono ?_
  rintro x w2 ⟨rfl, hb2⟩
  have HB2 := Lib.hid hb2
  have hs2 := hb2.size
  simp only [World.size_alloc] at hs2
  clear hb2
  go_upto_region 5 with fail
  go_cut [0] from 27 to 32 (fun s0 wx => ∃ g a c, s0 = .slice a n c ∧ w.heap.size + 1 ≤ g ∧ (E ≠ [] → a = some ⟨g, 0, none⟩ ∧ Cop g E 0 wx) ∧ Below (w.heap.size + 1) w2 wx)
  case first =>
    cases la with
    | none =>
      obtain rfl : l = [] := by
        cases l with
        | nil => rfl
        | cons x r =>
          obtain ⟨B, o, h, _⟩ := HSRC.out (by simp)
          cases h
      obtain rfl := HS0.out lc rfl
      obtain rfl : n = 0 := by simpa using hnl
      go_wp2_with fail
      go_meet
      exact ⟨w.heap.size + 1, none, 0, rfl, Nat.le_refl _, fun h => absurd (List.length_eq_zero_iff.1 hE) h, Below.refl _ _⟩
    | some ad =>
      have hown : w2.ownsRow w2.heap.size MadeT 12 (.slice none 0 0) 0 [] := World.ownsRow_nil _ _ _ _
      obtain ⟨news, hnews⟩ : ∃ news, news = (l.take n).flatMap madeRow := ⟨_, rfl⟩
      have hnl2 : news.length = n * 12 := by rw [hnews, madeRow_len]; simp; omega
      have hnc : ∀ j u, news[j]? = some u → w2.cell? (ad.add j) = some u := by
        intro j u hu
        have hne : l ≠ [] := fun h0 => by
          rw [hnews, h0] at hu
          simp at hu
        obtain ⟨B, o, h, hB, hat⟩ := HSRC.out hne
        cases h
        rw [hnews] at hu
        refine news_of n (fun i hi => ?_) j u hu
        have hb : Below w.heap.size w w2 := ((Below.refl _ _).alloc (Nat.le_refl _) _).trans (HB2.out.mono (by simp))
        exact ⟨(hat i hi).1.below hb, cell_later hb (hat i hi).2⟩
      have hn1 : ∀ u ∈ news, u.oneCell' = true := by
        intro u hu
        rw [hnews] at hu
        obtain ⟨p, _, hp⟩ := List.mem_flatMap.1 hu
        simp [madeRow, Ent.cells] at hp
        rcases hp with rfl | rfl | rfl | rfl | rfl | rfl | rfl | rfl | rfl | rfl | rfl | rfl <;> rfl
      have HNEWS := Lib.hid hnews
      clear hnews
      go_wp2_with (at_builtin; refine wpList_append_own _ rfl _ _ 22 rfl w2.heap.size MadeT i0 madeZero 12 112 Tryz.underlying22 HI.out hz0 hz1 hz2 rfl (by decide) (.slice none 0 0) 0 [] rfl hown ad n _ news rfl hnl2 hnc hn1 ?c3 ?c4 (Nat.le_refl _) ?_)
      case c3 => unfold maxLen; omega
      case c4 => omega
      intro v' w3 hown' hgrow _
      have hb3 := grown_below hgrow hown (Nat.le_refl _)
      have hsz3 := hb3.size
      try rw [Nat.zero_add] at hown'
      try rw [List.nil_append] at hown'
      rw [HNEWS.out] at hown'
      obtain ⟨g, a, c, hv, hg, hC⟩ := cop_of_row hown' (by simp; omega) hsz3
      have hlt : (l.take n).length = n := by simp; omega
      rw [hlt] at hv
      have HC := Lib.hid hC
      clear hC hgrow hown' hnc hn1
      go_wp2_with fail
      go_meet
      refine ⟨g, a, c, hv, by omega, fun h => by rw [hEd]; exact HC.out (fun h0 => h (by rw [hEd, h0]; rfl)), hb3.mono (by omega)⟩
  case rest =>
  obtain ⟨g, a, c, rfl, hg, hC, hbx⟩ := hcut
  have hW1 : Below (w.heap.size + 1) (w.alloc (.cells #[.int .i64 m.kind, .int .i64 m.frm, .int .i64 m.to, .int .u64 m.term, .int .u64 m.index, .int .u64 m.prev, .int .u64 m.commit, .int .u64 m.mark, .bool m.ok, .slice sa sn sc, .string m.snap, .bool own, .slice na L.length nc] 28)) wc := by
    have h := HB2.out
    simp only [World.size_alloc] at h
    exact h.trans hbx
  have HW1 := Lib.hid hW1
  have HC := Lib.hid hC
  clear hbx hC hW1 HB2 hs2 HSRC HS0
  have hwf : ∀ j (h : j < E.length), (E[j]).wf := fun j h => by
    subst hEd
    rw [List.getElem_map, List.getElem_take]
    exact hl _ (List.getElem_mem _)
  have HWF := Lib.hid hwf
  have HL := Lib.hid hL
  clear hl hwf hL
  clear hEd
  subst hE
  go_wp2_with fail
  go_loopw [8, 9, 10, 11] (fun al i s10 o11 wr => ∃ (k : Nat), k ≤ E.length ∧ i = .int .i64 k ∧ al = .string ⟨((E.take k).flatMap backE).toArray⟩ ∧ (E ≠ [] → a = some ⟨g, 0, none⟩ ∧ Cop g E k wr) ∧ Below (w.heap.size + 1) (w.alloc (.cells #[.int .i64 m.kind, .int .i64 m.frm, .int .i64 m.to, .int .u64 m.term, .int .u64 m.index, .int .u64 m.prev, .int .u64 m.commit, .int .u64 m.mark, .bool m.ok, .slice sa sn sc, .string m.snap, .bool own, .slice na L.length nc] 28)) wr) (fun al i s10 o11 _ => E.length - (intOf i).toNat)
  case atStart => exact ⟨0, Nat.zero_le _, rfl, rfl, HC.out, HW1.out⟩
  case round =>
    obtain ⟨k, hk, rfl, rfl, hcop, hbr⟩ := hrel
    by_cases hlt : k < E.length
    · obtain ⟨rfl, hcp⟩ := hcop (fun h0 => by rw [h0] at hlt; exact absurd hlt (Nat.not_lt_zero _))
      have hfz : ∀ o, wr.frozen? ⟨g, o, none⟩ = false := fun o => hcp.frozen
      obtain ⟨fb, hfb⟩ := hcp.flag hlt
      have hset := hcp.set hlt
      have hent := hset.ent hlt
      have hown1 := hset.own hlt (Nat.lt_succ_self k)
      have hbs : Below (w.heap.size + 1) (w.alloc (.cells #[.int .i64 m.kind, .int .i64 m.frm, .int .i64 m.to, .int .u64 m.term, .int .u64 m.index, .int .u64 m.prev, .int .u64 m.commit, .int .u64 m.mark, .bool m.ok, .slice sa sn sc, .string m.snap, .bool own, .slice na L.length nc] 28)) (wr.setCell ⟨g, k * 12 + 11, none⟩ (.bool true)) := hbr.setCell hg _
      have hsm := own_small E[k]
      have hsn : (E.take (k + 1)).flatMap backE = (E.take k).flatMap backE ++ secE (ownEnt E[k]) := by
        rw [List.take_succ_eq_append_getElem hlt, List.flatMap_append]; simp [backE]
      have hmade := fun W => made06_own E[k] (HWF.out k hlt) W
      have hput := fun W => secondPut_any (ownEnt E[k]) hsm.1 hsm.2.1 W
      have hlen : ((E.take k).flatMap backE).length + (secE (ownEnt E[k])).length ≤ 1000000 := by
        have h1 := flatB_len (E.take k)
        have h2 := secE_len _ hsm.1
        rw [List.length_take] at h1
        omega
      have HSET := Lib.hid hset
      have HBS := Lib.hid hbs
      have HSN := Lib.hid hsn
      clear hset hbs hsn hsm
      generalize ownEnt E[k] = y at *
      generalize E[k] = x at *
      obtain ⟨y0, y1, y2, y3, y4, y5, y6, y7, y8, y9, y10⟩ := y
      obtain ⟨x0, x1, x2, x3, x4, x5, x6, x7, x8, x9, x10⟩ := x
      simp only [Ent.val, Ent.cells, List.push_toArray, List.append_toArray, List.cons_append, List.nil_append] at hmade hput
      have HM := Lib.hid hmade
      have HP := Lib.hid hput
      clear hmade hput hcp
      obtain ⟨a0, a1, a2, a3, a4, a5, a6, a7, a8, a9, a10⟩ := hent
      simp only at a0 a1 a2 a3 a4 a5 a6 a7 a8 a9 a10
      go_wp2_with fail
      refine (HM.out _).mono ?_
      rintro x w3 ⟨rfl, hb3⟩
      have HB3 := Lib.hid (step HBS.out (by simp) hb3)
      have HC3 := Lib.hid (HSET.out.below hb3)
      clear hb3 a0 a1 a2 a3 a4 a5 a6 a7 a8 a9 a10 hfb hown1 hfz
      go_wp2_with fail
      refine (HP.out _).mono ?_
      rintro x w4 ⟨rfl, hb4⟩
      have HB4 := Lib.hid (step HB3.out (by simp) hb4)
      have HC4 := Lib.hid (HC3.out.below hb4)
      clear hb4
      have HSN2 := HSN.out
      generalize hp1 : (E.take k).flatMap backE = p1 at *
      generalize hp2 : secE ⟨y0, y1, y2, y3, y4, y5, y6, y7, y8, y9, y10⟩ = p2 at *
      have HSN3 := Lib.hid HSN2
      clear HSN2
      go_wp2_with fail
      go_roundw
      case rel => exact ⟨k + 1, by omega, by go_num, by rw [HSN3.out]; exact congrArg Value.string (ByteArray.mk_append_mk p1 p2), fun _ => ⟨by first | rfl | trivial, HC4.out⟩, HB4.out⟩
      case measure => simp [intOf]; omega
    · obtain rfl : k = E.length := by omega
      rw [List.take_length]
      have HBR := Lib.hid hbr
      have HCOP := Lib.hid hcop
      have hbz := hbr.size
      simp only [World.size_alloc] at hbz
      have hgb : E ≠ [] → g < wr.heap.size := fun h => (hcop h).2.lt
      clear hbr hcop
      go_wp2_with fail
      refine (new_any (E.flatMap backE) _).mono ?_
      rintro x w5 ⟨rfl, h5, hb5, hs5⟩
      have H5 := Lib.hid h5
      have HB5 := Lib.hid (step HBR.out (by simp) hb5)
      have HC5 := Lib.hid (fun h => let q := HCOP.out h; (⟨q.1, q.2.below hb5⟩ : a = some ⟨g, 0, none⟩ ∧ Cop g E E.length w5))
      clear h5 hb5
      generalize hbd : wr.heap.size = b at *
      go_wp2_with fail
      go_loopw [13] (fun i wr2 => ∃ (k : Nat), k ≤ E.length ∧ i = .int .i64 k ∧ RdAt wr2 b ((E.drop k).flatMap backE, false) ∧ (E ≠ [] → a = some ⟨g, 0, none⟩ ∧ Cop g E E.length wr2) ∧ Below (w.heap.size + 1) (w.alloc (.cells #[.int .i64 m.kind, .int .i64 m.frm, .int .i64 m.to, .int .u64 m.term, .int .u64 m.index, .int .u64 m.prev, .int .u64 m.commit, .int .u64 m.mark, .bool m.ok, .slice sa sn sc, .string m.snap, .bool own, .slice na L.length nc] 28)) wr2) (fun i _ => E.length - (intOf i).toNat)
      case atStart => exact ⟨0, Nat.zero_le _, rfl, H5.out, HC5.out, HB5.out⟩
      case round =>
        obtain ⟨k, hk, rfl, hrd, hcop, hbr⟩ := hrel
        by_cases hlt : k < E.length
        · have hne : E ≠ [] := fun h0 => by rw [h0] at hlt; exact absurd hlt (Nat.not_lt_zero _)
          obtain ⟨rfl, hcp⟩ := hcop hne
          have hgb2 := hgb hne
          have hent := hcp.ent hlt
          have hown1 := hcp.own hlt hlt
          have hsm := own_small E[k]
          have hd : (E.drop k).flatMap backE = secE (ownEnt E[k]) ++ (E.drop (k + 1)).flatMap backE := by
            rw [List.drop_eq_getElem_cons hlt, List.flatMap_cons]; rfl
          rw [hd] at hrd
          have hgot := getEnt_back (ownEnt E[k]) hsm.1 hsm.2.1 ((E.drop (k + 1)).flatMap backE)
          have hmade := fun W => made06_own E[k] (HWF.out k hlt) W
          have hlen : (secE (ownEnt E[k]) ++ (E.drop (k + 1)).flatMap backE).length ≤ 1099511627776 := by
            have h1 := flatB_len (E.drop (k + 1))
            have h2 := secE_len _ hsm.1
            rw [List.length_drop] at h1
            rw [List.length_append]
            omega
          have hget : ∀ (W : World), RdAt W b (secE (ownEnt E[k]) ++ (E.drop (k + 1)).flatMap backE, false) → _ := secondGet_any b (secE (ownEnt E[k]) ++ (E.drop (k + 1)).flatMap backE, false) hlen
          rw [hgot] at hget
          have hself : sameB (ownEnt E[k]) (ownEnt E[k]) = true := (sameB_iff _ _).2 rfl
          have heq := fun W => ent_eq_run (ownEnt E[k]) (ownEnt E[k]) W
          rw [hself] at heq
          have HRD := Lib.hid hrd
          have HCP := Lib.hid hcp
          have HBR2 := Lib.hid hbr
          have hbz2 := hbr.size
          simp only [World.size_alloc] at hbz2
          clear hrd hcp hcop hbr hd hgot hself hsm hlen
          generalize ownEnt E[k] = y at *
          generalize E[k] = x at *
          obtain ⟨y0, y1, y2, y3, y4, y5, y6, y7, y8, y9, y10⟩ := y
          obtain ⟨x0, x1, x2, x3, x4, x5, x6, x7, x8, x9, x10⟩ := x
          simp only [Ent.val, Ent.cells, List.push_toArray, List.append_toArray, List.cons_append, List.nil_append] at hmade hget heq
          have HM := Lib.hid hmade
          have HG := Lib.hid hget
          have HEQ := Lib.hid heq
          clear hmade hget heq
          obtain ⟨a0, a1, a2, a3, a4, a5, a6, a7, a8, a9, a10⟩ := hent
          simp only at a0 a1 a2 a3 a4 a5 a6 a7 a8 a9 a10
          go_wp2_with fail
          refine (HM.out _).mono ?_
          rintro x w3 ⟨rfl, hb3⟩
          have HB3 := Lib.hid (step HBR2.out (by simp) hb3)
          have HC3 := Lib.hid (HCP.out.below hb3)
          have HR3 := Lib.hid (HRD.out.keep hb3)
          clear hb3 a0 a1 a2 a3 a4 a5 a6 a7 a8 a9 a10 hown1
          go_wp2_with fail
          have hb3d : b < w3.heap.size := HR3.out.lt
          have hS0 : EntAt (w3.alloc (.cells #[.int .u64 y0, .int .u64 y1, .int .i64 y2, .int .u64 y3, .int .u64 y4, .int .u64 y5, .int .u64 y6, .int .i64 y7, .int .i64 y8, .string y9, .string y10] EntT)).drew w3.heap.size 0 ⟨y0, y1, y2, y3, y4, y5, y6, y7, y8, y9, y10⟩ := by
            refine ⟨?_, ?_, ?_, ?_, ?_, ?_, ?_, ?_, ?_, ?_, ?_⟩ <;> simp
          refine region_D (fun u => EntAt u w3.heap.size 0 ⟨y0, y1, y2, y3, y4, y5, y6, y7, y8, y9, y10⟩) [] 4 (by kernel_rfl) (by rfl) ?_
          refine takeD (i := 0) (v := .pointer (some ⟨b, 0, none⟩)) (by rfl) (by kernel_rfl) (fun _ _ _ h => h) (by rfl) (fun u hu => by go_simp) hS0 ?_
          simp only [Act.put, List.setIfInBounds_toArray, List.set_cons_zero, List.set_cons_succ]
          refine takeD (i := 2) (v := .agg #[.int .u64 y0, .int .u64 y1, .int .i64 y2, .int .u64 y3, .int .u64 y4, .int .u64 y5, .int .u64 y6, .int .i64 y7, .int .i64 y8, .string y9, .string y10]) (by rfl) (by kernel_rfl) (fun _ _ _ h => h) (by rfl) (fun u hu => ?_) hS0 ?_
          · obtain ⟨hu0, hu1, hu2, hu3, hu4, hu5, hu6, hu7, hu8, hu9, hu10⟩ := hu
            simp only [Nat.zero_add] at hu0 hu1 hu2 hu3 hu4 hu5 hu6 hu7 hu8 hu9 hu10
            go_simp
          simp only [Act.put, List.setIfInBounds_toArray, List.set_cons_zero, List.set_cons_succ]
          refine oneD (i := 1) (by rfl) (by kernel_rfl) (by rfl) ?_
          go_simp
          have hr3 := HR3.out.keep ((Below.refl w3.heap.size w3).alloc (Nat.le_refl _) (.cells #[.int .u64 y0, .int .u64 y1, .int .i64 y2, .int .u64 y3, .int .u64 y4, .int .u64 y5, .int .u64 y6, .int .i64 y7, .int .i64 y8, .string y9, .string y10] EntT))
          refine (HG.out (w3.alloc (.cells #[.int .u64 y0, .int .u64 y1, .int .i64 y2, .int .u64 y3, .int .u64 y4, .int .u64 y5, .int .u64 y6, .int .i64 y7, .int .i64 y8, .string y9, .string y10] EntT)).drew hr3).mono ?_
          rintro _ w4 ⟨rfl, h4, hb4⟩
          dsimp only
          have hS4 : EntAt w4 w3.heap.size 0 ⟨y0, y1, y2, y3, y4, y5, y6, y7, y8, y9, y10⟩ := entAt_same (hb4.block w3.heap.size (by simp) (fun h => by have := Option.some.inj h; omega)) hS0
          refine ⟨hS4, ?_⟩
          try simp only [Act.put, List.setIfInBounds_toArray, List.set_cons_zero, List.set_cons_succ]
          have heq := HEQ.out
          refine oneD (i := 3) (by rfl) (by kernel_rfl) (by rfl) ?_
          go_simp
          refine ⟨by kernel_rfl, NoPanic.normal ?_⟩
          try simp only [Act.put, List.setIfInBounds_toArray, List.set_cons_zero, List.set_cons_succ]
          have hal : Below w3.heap.size w3 (w3.alloc (.cells #[.int .u64 y0, .int .u64 y1, .int .i64 y2, .int .u64 y3, .int .u64 y4, .int .u64 y5, .int .u64 y6, .int .i64 y7, .int .i64 y8, .string y9, .string y10] EntT)).drew := ⟨rfl, rfl, rfl, by simp, fun k hk => Below.heap_alloc _ _ _ hk⟩
          have hq := HB3.out.size
          rw [World.size_alloc] at hq
          have hq2 := hal.size
          have hB4 := (step HB3.out (by simp) hal).trans (But.belowN hb4 (show w.heap.size + 1 ≤ b by omega) (by omega))
          have hC4 : Cop g E E.length w4 := (HC3.out.below hal).same (hb4.block g (Nat.lt_of_lt_of_le HC3.out.lt hq2) (fun h => by have := Option.some.inj h; omega))
          have HB4 := Lib.hid hB4
          have HC4 := Lib.hid hC4
          have H4 := Lib.hid h4
          clear hB4 hC4 h4 hb4 hS4 hS0 hr3 heq hal
          go_wp2_with fail
          go_roundw
          case rel => exact ⟨k + 1, by omega, by go_num, H4.out, fun _ => ⟨by first | rfl | trivial, HC4.out⟩, HB4.out⟩
          case measure => simp [intOf]; omega
        · obtain rfl : k = E.length := by omega
          have hrd2 : RdAt wr b ([], false) := by rw [List.drop_length] at hrd; exact hrd
          have hbz2 := hbr.size
          simp only [World.size_alloc] at hbz2
          have hnb : wr.heap[w.heap.size]? = some (.cells #[.int .i64 m.kind, .int .i64 m.frm, .int .i64 m.to, .int .u64 m.term, .int .u64 m.index, .int .u64 m.prev, .int .u64 m.commit, .int .u64 m.mark, .bool m.ok, .slice sa sn sc, .string m.snap, .bool own, .slice na L.length nc] 28 (0, 0)) := (hbr.block _ (Nat.lt_succ_self _)).trans (heap_alloc_new w _)
          have hnfz : ∀ o, wr.frozen? ⟨w.heap.size, o, none⟩ = false := fun o => Lib.frozen_of_heap hnb o
          have n0 : wr.cell? ⟨w.heap.size, 0, none⟩ = some (.int .i64 m.kind) := Lib.cell_of_heap hnb 0
          have n1 : wr.cell? ⟨w.heap.size, 1, none⟩ = some (.int .i64 m.frm) := Lib.cell_of_heap hnb 1
          have n2 : wr.cell? ⟨w.heap.size, 2, none⟩ = some (.int .i64 m.to) := Lib.cell_of_heap hnb 2
          have n3 : wr.cell? ⟨w.heap.size, 3, none⟩ = some (.int .u64 m.term) := Lib.cell_of_heap hnb 3
          have n4 : wr.cell? ⟨w.heap.size, 4, none⟩ = some (.int .u64 m.index) := Lib.cell_of_heap hnb 4
          have n5 : wr.cell? ⟨w.heap.size, 5, none⟩ = some (.int .u64 m.prev) := Lib.cell_of_heap hnb 5
          have n6 : wr.cell? ⟨w.heap.size, 6, none⟩ = some (.int .u64 m.commit) := Lib.cell_of_heap hnb 6
          have n7 : wr.cell? ⟨w.heap.size, 7, none⟩ = some (.int .u64 m.mark) := Lib.cell_of_heap hnb 7
          have n8 : wr.cell? ⟨w.heap.size, 8, none⟩ = some (.bool m.ok) := Lib.cell_of_heap hnb 8
          have n9 : wr.cell? ⟨w.heap.size, 9, none⟩ = some (.slice sa sn sc) := Lib.cell_of_heap hnb 9
          have n10 : wr.cell? ⟨w.heap.size, 10, none⟩ = some (.string m.snap) := Lib.cell_of_heap hnb 10
          have n11 : wr.cell? ⟨w.heap.size, 11, none⟩ = some (.bool own) := Lib.cell_of_heap hnb 11
          have n12 : wr.cell? ⟨w.heap.size, 12, none⟩ = some (.slice na L.length nc) := Lib.cell_of_heap hnb 12
          have HNB := Lib.hid hnb
          have HRD2 := Lib.hid hrd2
          have hB0 : Below w.heap.size w wr := ((Below.refl _ _).alloc (Nat.le_refl _) _).trans (hbr.mono (by omega))
          have hB1 : Below w.heap.size w (wr.setCell ⟨w.heap.size, 11, none⟩ (.bool true)) := hB0.setCell (Nat.le_refl _) _
          have hnote := fun W hW => note06_own m sa sn sc (.slice na L.length nc) L hm HL.out W hW
          obtain ⟨hsm, hrt, _⟩ := ownMsg_small m (L.map (·.1)) hm.2.2.2.1 hm.2.2.2.2.1 hm.2.2.2.2.2.1 hm.2.2.2.2.2.2.1 hm.2.2.2.2.2.2.2
          generalize ownMsg m (L.map (·.1)) = M at hsm hrt hnote
          have hput := fun sv => put_own M hsm hrt sv
          have hget1 := get_own M hsm hrt
          have hget2 := get_cut M hsm
          have hget3 := get_long M hsm
          have hsame := same_own M hsm
          have hzne : secM M ≠ [] := secM_ne _
          have hzl : (secM M).length ≤ 200000 := secM_len _ hsm
          have hRD3 : RdAt (wr.setCell ⟨w.heap.size, 11, none⟩ (.bool true)) b ([], false) := hrd2.set_far (by omega)
          have HRD3 := Lib.hid hRD3
          have HB1 := Lib.hid hB1
          have HSL := Lib.hid (HNL.out.below hB1)
          clear hrd hrd2 hcop hbr hnb hB0 hB1 hsm hrt hRD3
          generalize secM M = z at hput hget1 hget2 hget3 hzne hzl
          obtain ⟨q0, q1, q2, q3, q4, q5, q6, q7, q8, q10, q9⟩ := M
          simp only [Msg.cells, List.push_toArray, List.append_toArray, List.cons_append, List.nil_append] at hnote hput hget1 hsame
          have HNOTE := Lib.hid hnote
          have HPUT := Lib.hid hput
          have HG1 := Lib.hid hget1
          have HG2 := Lib.hid hget2
          have HG3 := Lib.hid hget3
          have HSAME := Lib.hid hsame
          clear hnote hput hget1 hget2 hget3 hsame
          go_wp2_with fail
          refine (HNOTE.out _ HSL.out).mono ?_
          rintro x w5 ⟨sv, rfl, he5, hb5⟩
          obtain ⟨va, vc, rfl, -⟩ := id he5
          have HE5 := Lib.hid he5
          have HB5 := Lib.hid (step HB1.out (Nat.le_refl _) hb5)
          have HR5 := Lib.hid (HRD3.out.keep hb5)
          clear hb5 he5 n0 n1 n2 n3 n4 n5 n6 n7 n8 n9 n10 n11 n12 hnfz HNB HSL HB1 HRD3 HNOTE
          go_wp2_with fail
          have ha5 := (Below.refl w5.heap.size w5).alloc (Nat.le_refl _) (.cells #[.int .i64 q0, .int .i64 q1, .int .i64 q2, .int .u64 q3, .int .u64 q4, .int .u64 q5, .int .u64 q6, .int .u64 q7, .bool q8, .slice va q9.length vc, .string q10] MsgT)
          refine (HPUT.out _ _ (HE5.out.below ha5)).mono ?_
          rintro x w6 ⟨rfl, hb6⟩
          have hbx6 : w6.heap[w5.heap.size]? = some (.cells #[.int .i64 q0, .int .i64 q1, .int .i64 q2, .int .u64 q3, .int .u64 q4, .int .u64 q5, .int .u64 q6, .int .u64 q7, .bool q8, .slice va q9.length vc, .string q10] MsgT (0, 0)) := (hb6.block _ (by simp)).trans (heap_alloc_new w5 _)
          have HX6 := Lib.hid hbx6
          have HE6 := Lib.hid ((HE5.out.below ha5).below hb6)
          have HB6 := Lib.hid (step (step HB5.out (Nat.le_refl _) ha5) (Nat.le_refl _) hb6)
          have HR6 := Lib.hid ((HR5.out.keep ha5).keep hb6)
          have hze : z.isEmpty = false := by
            cases z with
            | nil => exact absurd rfl hzne
            | cons a l => rfl
          clear hbx6 hb6 ha5 HE5 HB5 HR5 HPUT
          go_wp2_with fail
          refine (HG1.out _).mono ?_
          rintro x w7 ⟨sv2, rfl, he7, hb7⟩
          obtain ⟨va2, vc2, rfl, -⟩ := id he7
          have HE7 := Lib.hid he7
          have HX7 := Lib.hid ((hb7.block _ (heap_lt HX6.out)).trans HX6.out)
          have HM7 := Lib.hid (HE6.out.below hb7)
          have HB7 := Lib.hid (step HB6.out (Nat.le_refl _) hb7)
          have HR7 := Lib.hid (HR6.out.keep hb7)
          clear he7 hb7 HX6 HE6 HB6 HR6 HG1
          have hzp : 0 < z.length := List.length_pos_iff.2 hzne
          have hk0 : 0 ≤ (cut : Int) % (z.length : Int) := Int.emod_nonneg _ (by omega)
          have hk1 : (cut : Int) % (z.length : Int) ≤ (z.length : Int) := Int.le_of_lt (Int.emod_lt_of_pos _ (by omega))
          have hkm : cut % z.length < z.length := Nat.mod_lt _ hzp
          have hex : (⟨z.toArray⟩ : ByteArray).extract 0 (cut % z.length) = ⟨(z.take (cut % z.length)).toArray⟩ := by
            apply ByteArray.ext
            simp [ByteArray.data_extract]
          have HK := Lib.hid hkm
          have HEX := Lib.hid hex
          clear hkm hex
          go_wp2_with fail
          rw [HEX.out]
          have ha7 := (Below.refl w7.heap.size w7).alloc (Nat.le_refl _) (.cells #[.int .i64 q0, .int .i64 q1, .int .i64 q2, .int .u64 q3, .int .u64 q4, .int .u64 q5, .int .u64 q6, .int .u64 q7, .bool q8, .slice va2 q9.length vc2, .string q10] MsgT)
          refine (HG2.out _ HK.out _).mono ?_
          rintro x w8 ⟨m8, sv8, rfl, he8, hb8⟩
          obtain ⟨va8, vc8, rfl, -⟩ := id he8
          have HX8 := Lib.hid ((hb8.block w5.heap.size (by have := heap_lt HX7.out; rw [World.size_alloc]; omega)).trans ((ha7.block _ (heap_lt HX7.out)).trans HX7.out))
          have HY8 := Lib.hid ((hb8.block w7.heap.size (by rw [World.size_alloc]; omega)).trans (heap_alloc_new w7 (.cells #[.int .i64 q0, .int .i64 q1, .int .i64 q2, .int .u64 q3, .int .u64 q4, .int .u64 q5, .int .u64 q6, .int .u64 q7, .bool q8, .slice va2 q9.length vc2, .string q10] MsgT)))
          have HM8 := Lib.hid ((HM7.out.below ha7).below hb8)
          have HE8 := Lib.hid ((HE7.out.below ha7).below hb8)
          have HB8 := Lib.hid (step (step HB7.out (Nat.le_refl _) ha7) (Nat.le_refl _) hb8)
          have HR8 := Lib.hid ((HR7.out.keep ha7).keep hb8)
          clear he8 hb8 ha7 HX7 HM7 HE7 HB7 HR7 HEX
          simp only [Msg.cells]
          generalize m8.entries.length = n8
          have hz1 : z.length + 1 ≤ 200001 := by omega
          go_wp2_with fail
          have hcat : (⟨z.toArray⟩ : ByteArray) ++ ⟨#[0]⟩ = ⟨(z ++ [0]).toArray⟩ := ByteArray.mk_append_mk z [0]
          rw [hcat]
          have ha8 := (Below.refl w8.heap.size w8).alloc (Nat.le_refl _) (.cells #[.int .i64 m8.kind, .int .i64 m8.frm, .int .i64 m8.to, .int .u64 m8.term, .int .u64 m8.index, .int .u64 m8.prev, .int .u64 m8.commit, .int .u64 m8.mark, .bool m8.ok, .slice va8 n8 vc8, .string m8.snap] MsgT)
          refine (HG3.out _).mono ?_
          rintro x w9 ⟨m9, sv9, rfl, he9, hb9⟩
          obtain ⟨va9, vc9, rfl, -⟩ := id he9
          have HX9 := Lib.hid ((hb9.block w5.heap.size (by have := heap_lt HX8.out; rw [World.size_alloc]; omega)).trans ((ha8.block _ (heap_lt HX8.out)).trans HX8.out))
          have HY9 := Lib.hid ((hb9.block w7.heap.size (by have := heap_lt HY8.out; rw [World.size_alloc]; omega)).trans ((ha8.block _ (heap_lt HY8.out)).trans HY8.out))
          have HM9 := Lib.hid ((HM8.out.below ha8).below hb9)
          have HE9 := Lib.hid ((HE8.out.below ha8).below hb9)
          have HB9 := Lib.hid (step (step HB8.out (Nat.le_refl _) ha8) (Nat.le_refl _) hb9)
          have HR9 := Lib.hid ((HR8.out.keep ha8).keep hb9)
          clear he9 hb9 ha8 HX8 HY8 HM8 HE8 HB8 HR8 hcat
          simp only [Msg.cells]
          generalize m9.entries.length = n9
          have ha9 := (Below.refl w9.heap.size w9).alloc (Nat.le_refl _) (.cells #[.int .i64 m9.kind, .int .i64 m9.frm, .int .i64 m9.to, .int .u64 m9.term, .int .u64 m9.index, .int .u64 m9.prev, .int .u64 m9.commit, .int .u64 m9.mark, .bool m9.ok, .slice va9 n9 vc9, .string m9.snap] MsgT)
          have HMf := Lib.hid (HM9.out.below ha9)
          have HEf := Lib.hid (HE9.out.below ha9)
          have HRf := Lib.hid (HR9.out.keep ha9)
          have HBf := Lib.hid (step HB9.out (Nat.le_refl _) ha9)
          have p0 : (w9.alloc (.cells #[.int .i64 m9.kind, .int .i64 m9.frm, .int .i64 m9.to, .int .u64 m9.term, .int .u64 m9.index, .int .u64 m9.prev, .int .u64 m9.commit, .int .u64 m9.mark, .bool m9.ok, .slice va9 n9 vc9, .string m9.snap] MsgT)).cell? ⟨w5.heap.size, 0, none⟩ = some (.int .i64 q0) := cell_al (Lib.cell_of_heap HX9.out 0) _
          have p1 : (w9.alloc (.cells #[.int .i64 m9.kind, .int .i64 m9.frm, .int .i64 m9.to, .int .u64 m9.term, .int .u64 m9.index, .int .u64 m9.prev, .int .u64 m9.commit, .int .u64 m9.mark, .bool m9.ok, .slice va9 n9 vc9, .string m9.snap] MsgT)).cell? ⟨w5.heap.size, 1, none⟩ = some (.int .i64 q1) := cell_al (Lib.cell_of_heap HX9.out 1) _
          have p2 : (w9.alloc (.cells #[.int .i64 m9.kind, .int .i64 m9.frm, .int .i64 m9.to, .int .u64 m9.term, .int .u64 m9.index, .int .u64 m9.prev, .int .u64 m9.commit, .int .u64 m9.mark, .bool m9.ok, .slice va9 n9 vc9, .string m9.snap] MsgT)).cell? ⟨w5.heap.size, 2, none⟩ = some (.int .i64 q2) := cell_al (Lib.cell_of_heap HX9.out 2) _
          have p3 : (w9.alloc (.cells #[.int .i64 m9.kind, .int .i64 m9.frm, .int .i64 m9.to, .int .u64 m9.term, .int .u64 m9.index, .int .u64 m9.prev, .int .u64 m9.commit, .int .u64 m9.mark, .bool m9.ok, .slice va9 n9 vc9, .string m9.snap] MsgT)).cell? ⟨w5.heap.size, 3, none⟩ = some (.int .u64 q3) := cell_al (Lib.cell_of_heap HX9.out 3) _
          have p4 : (w9.alloc (.cells #[.int .i64 m9.kind, .int .i64 m9.frm, .int .i64 m9.to, .int .u64 m9.term, .int .u64 m9.index, .int .u64 m9.prev, .int .u64 m9.commit, .int .u64 m9.mark, .bool m9.ok, .slice va9 n9 vc9, .string m9.snap] MsgT)).cell? ⟨w5.heap.size, 4, none⟩ = some (.int .u64 q4) := cell_al (Lib.cell_of_heap HX9.out 4) _
          have p5 : (w9.alloc (.cells #[.int .i64 m9.kind, .int .i64 m9.frm, .int .i64 m9.to, .int .u64 m9.term, .int .u64 m9.index, .int .u64 m9.prev, .int .u64 m9.commit, .int .u64 m9.mark, .bool m9.ok, .slice va9 n9 vc9, .string m9.snap] MsgT)).cell? ⟨w5.heap.size, 5, none⟩ = some (.int .u64 q5) := cell_al (Lib.cell_of_heap HX9.out 5) _
          have p6 : (w9.alloc (.cells #[.int .i64 m9.kind, .int .i64 m9.frm, .int .i64 m9.to, .int .u64 m9.term, .int .u64 m9.index, .int .u64 m9.prev, .int .u64 m9.commit, .int .u64 m9.mark, .bool m9.ok, .slice va9 n9 vc9, .string m9.snap] MsgT)).cell? ⟨w5.heap.size, 6, none⟩ = some (.int .u64 q6) := cell_al (Lib.cell_of_heap HX9.out 6) _
          have p7 : (w9.alloc (.cells #[.int .i64 m9.kind, .int .i64 m9.frm, .int .i64 m9.to, .int .u64 m9.term, .int .u64 m9.index, .int .u64 m9.prev, .int .u64 m9.commit, .int .u64 m9.mark, .bool m9.ok, .slice va9 n9 vc9, .string m9.snap] MsgT)).cell? ⟨w5.heap.size, 7, none⟩ = some (.int .u64 q7) := cell_al (Lib.cell_of_heap HX9.out 7) _
          have p8 : (w9.alloc (.cells #[.int .i64 m9.kind, .int .i64 m9.frm, .int .i64 m9.to, .int .u64 m9.term, .int .u64 m9.index, .int .u64 m9.prev, .int .u64 m9.commit, .int .u64 m9.mark, .bool m9.ok, .slice va9 n9 vc9, .string m9.snap] MsgT)).cell? ⟨w5.heap.size, 8, none⟩ = some (.bool q8) := cell_al (Lib.cell_of_heap HX9.out 8) _
          have p9 : (w9.alloc (.cells #[.int .i64 m9.kind, .int .i64 m9.frm, .int .i64 m9.to, .int .u64 m9.term, .int .u64 m9.index, .int .u64 m9.prev, .int .u64 m9.commit, .int .u64 m9.mark, .bool m9.ok, .slice va9 n9 vc9, .string m9.snap] MsgT)).cell? ⟨w5.heap.size, 9, none⟩ = some (.slice va q9.length vc) := cell_al (Lib.cell_of_heap HX9.out 9) _
          have p10 : (w9.alloc (.cells #[.int .i64 m9.kind, .int .i64 m9.frm, .int .i64 m9.to, .int .u64 m9.term, .int .u64 m9.index, .int .u64 m9.prev, .int .u64 m9.commit, .int .u64 m9.mark, .bool m9.ok, .slice va9 n9 vc9, .string m9.snap] MsgT)).cell? ⟨w5.heap.size, 10, none⟩ = some (.string q10) := cell_al (Lib.cell_of_heap HX9.out 10) _
          have r0 : (w9.alloc (.cells #[.int .i64 m9.kind, .int .i64 m9.frm, .int .i64 m9.to, .int .u64 m9.term, .int .u64 m9.index, .int .u64 m9.prev, .int .u64 m9.commit, .int .u64 m9.mark, .bool m9.ok, .slice va9 n9 vc9, .string m9.snap] MsgT)).cell? ⟨w7.heap.size, 0, none⟩ = some (.int .i64 q0) := cell_al (Lib.cell_of_heap HY9.out 0) _
          have r1 : (w9.alloc (.cells #[.int .i64 m9.kind, .int .i64 m9.frm, .int .i64 m9.to, .int .u64 m9.term, .int .u64 m9.index, .int .u64 m9.prev, .int .u64 m9.commit, .int .u64 m9.mark, .bool m9.ok, .slice va9 n9 vc9, .string m9.snap] MsgT)).cell? ⟨w7.heap.size, 1, none⟩ = some (.int .i64 q1) := cell_al (Lib.cell_of_heap HY9.out 1) _
          have r2 : (w9.alloc (.cells #[.int .i64 m9.kind, .int .i64 m9.frm, .int .i64 m9.to, .int .u64 m9.term, .int .u64 m9.index, .int .u64 m9.prev, .int .u64 m9.commit, .int .u64 m9.mark, .bool m9.ok, .slice va9 n9 vc9, .string m9.snap] MsgT)).cell? ⟨w7.heap.size, 2, none⟩ = some (.int .i64 q2) := cell_al (Lib.cell_of_heap HY9.out 2) _
          have r3 : (w9.alloc (.cells #[.int .i64 m9.kind, .int .i64 m9.frm, .int .i64 m9.to, .int .u64 m9.term, .int .u64 m9.index, .int .u64 m9.prev, .int .u64 m9.commit, .int .u64 m9.mark, .bool m9.ok, .slice va9 n9 vc9, .string m9.snap] MsgT)).cell? ⟨w7.heap.size, 3, none⟩ = some (.int .u64 q3) := cell_al (Lib.cell_of_heap HY9.out 3) _
          have r4 : (w9.alloc (.cells #[.int .i64 m9.kind, .int .i64 m9.frm, .int .i64 m9.to, .int .u64 m9.term, .int .u64 m9.index, .int .u64 m9.prev, .int .u64 m9.commit, .int .u64 m9.mark, .bool m9.ok, .slice va9 n9 vc9, .string m9.snap] MsgT)).cell? ⟨w7.heap.size, 4, none⟩ = some (.int .u64 q4) := cell_al (Lib.cell_of_heap HY9.out 4) _
          have r5 : (w9.alloc (.cells #[.int .i64 m9.kind, .int .i64 m9.frm, .int .i64 m9.to, .int .u64 m9.term, .int .u64 m9.index, .int .u64 m9.prev, .int .u64 m9.commit, .int .u64 m9.mark, .bool m9.ok, .slice va9 n9 vc9, .string m9.snap] MsgT)).cell? ⟨w7.heap.size, 5, none⟩ = some (.int .u64 q5) := cell_al (Lib.cell_of_heap HY9.out 5) _
          have r6 : (w9.alloc (.cells #[.int .i64 m9.kind, .int .i64 m9.frm, .int .i64 m9.to, .int .u64 m9.term, .int .u64 m9.index, .int .u64 m9.prev, .int .u64 m9.commit, .int .u64 m9.mark, .bool m9.ok, .slice va9 n9 vc9, .string m9.snap] MsgT)).cell? ⟨w7.heap.size, 6, none⟩ = some (.int .u64 q6) := cell_al (Lib.cell_of_heap HY9.out 6) _
          have r7 : (w9.alloc (.cells #[.int .i64 m9.kind, .int .i64 m9.frm, .int .i64 m9.to, .int .u64 m9.term, .int .u64 m9.index, .int .u64 m9.prev, .int .u64 m9.commit, .int .u64 m9.mark, .bool m9.ok, .slice va9 n9 vc9, .string m9.snap] MsgT)).cell? ⟨w7.heap.size, 7, none⟩ = some (.int .u64 q7) := cell_al (Lib.cell_of_heap HY9.out 7) _
          have r8 : (w9.alloc (.cells #[.int .i64 m9.kind, .int .i64 m9.frm, .int .i64 m9.to, .int .u64 m9.term, .int .u64 m9.index, .int .u64 m9.prev, .int .u64 m9.commit, .int .u64 m9.mark, .bool m9.ok, .slice va9 n9 vc9, .string m9.snap] MsgT)).cell? ⟨w7.heap.size, 8, none⟩ = some (.bool q8) := cell_al (Lib.cell_of_heap HY9.out 8) _
          have r9 : (w9.alloc (.cells #[.int .i64 m9.kind, .int .i64 m9.frm, .int .i64 m9.to, .int .u64 m9.term, .int .u64 m9.index, .int .u64 m9.prev, .int .u64 m9.commit, .int .u64 m9.mark, .bool m9.ok, .slice va9 n9 vc9, .string m9.snap] MsgT)).cell? ⟨w7.heap.size, 9, none⟩ = some (.slice va2 q9.length vc2) := cell_al (Lib.cell_of_heap HY9.out 9) _
          have r10 : (w9.alloc (.cells #[.int .i64 m9.kind, .int .i64 m9.frm, .int .i64 m9.to, .int .u64 m9.term, .int .u64 m9.index, .int .u64 m9.prev, .int .u64 m9.commit, .int .u64 m9.mark, .bool m9.ok, .slice va9 n9 vc9, .string m9.snap] MsgT)).cell? ⟨w7.heap.size, 10, none⟩ = some (.string q10) := cell_al (Lib.cell_of_heap HY9.out 10) _
          clear ha9 HM9 HE9 HR9 HB9 HX9 HY9
          go_wp2_with fail
          refine (HSAME.out _ _ _ (HT.out.next HBf.out) HMf.out HEf.out).mono ?_
          rintro x w10 ⟨rfl, hb10⟩
          have HR10 := Lib.hid (HRf.out.keep hb10)
          have HB10 := Lib.hid (step HBf.out (Nat.le_refl _) hb10)
          clear hb10 p0 r0 p1 r1 p2 r2 p3 r3 p4 r4 p5 r5 p6 r6 p7 r7 p8 r8 p9 r9 p10 r10
          go_wp2_with fail
          refine (ok_any b ([], false) w10 HR10.out).mono ?_
          rintro x w10' ⟨rfl, rfl⟩
          go_wp2_with fail
          refine (left_any b ([], false) _ HR10.out).mono ?_
          rintro x w10'' ⟨rfl, rfl⟩
          go_wp2_with fail
          go_ret
          exact ⟨rfl, HB10.out⟩

end Go.Proofs.YtbjbgdnjcppjhaaGreatDoor.of06
