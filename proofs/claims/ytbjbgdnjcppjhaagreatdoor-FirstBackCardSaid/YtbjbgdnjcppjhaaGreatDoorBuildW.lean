/-
  A builder embedded in a first.writer that the call has made: what copyCheck, WriteString and String do to it, over this translation. Conditions: the bytes held and written stay below 2^47. (Printed by wip/genbuildw.py.) By an AI agent.
-/
import Derived.Test.YtbjbgdnjcppjhaaGreatDoorBuild
import Derived.Test.YtbjbgdnjcppjhaaGreatDoorOwn
namespace Go.Proofs.YtbjbgdnjcppjhaaGreatDoor.wrt
open Go.RowKit
set_option linter.unusedVariables false
set_option linter.unusedSimpArgs false

abbrev WrtT : TypeId := 92
theorem infoWrt : (Tryz.prog.info? WrtT).map (·.size) = some 2 := by kernel_rfl
theorem liesWrt : liesAt Tryz.prog Tryz.prog.depth WrtT (2 / Tryz.prog.cellsOf WrtT) 0 BldT 1 = true := by kernel_rfl

set_option maxHeartbeats 1000000 in
theorem copyCheck_fresh (b : Nat) (w : World) (h0 : w.cell? ⟨b, 0, none⟩ = some (.pointer none)) (hsh : w.shape? b = some (WrtT, 2)) (hfz : w.frozen? ⟨b, 0, none⟩ = false) :
    Calls Tryz.prog 83 #[.pointer (some ⟨b, 0, none⟩)] w fun e w' => e = .returned (.tuple #[]) ∧ w.setCell ⟨b, 0, none⟩ (.pointer (some ⟨b, 0, none⟩)) = w' := by
  obtain ⟨j, hj, hjs⟩ := Option.map_eq_some_iff.1 infoBld
  have t1 := Lib.run_to_unsafe (P := Tryz.prog) w ⟨b, 0, none⟩ Tryz.underlying87 Tryz.underlying171 hj (by rw [hjs]; decide) hsh (Nat.zero_lt_succ 1)
  have t2 : ∀ w : World, (callFunc 125 #[.pointer (some ⟨b, 0, none⟩)]).run Tryz.prog w = .ok (.value (.pointer (some ⟨b, 0, none⟩))) w := fun _ => by kernel_rfl
  have t3 := Lib.run_from_unsafe (P := Tryz.prog) w ⟨b, 0, none⟩ Tryz.underlying171 Tryz.underlying87 hj hsh liesWrt
  go_enter Tryz.func83, Tryz.ntmps83
  go_wp2
  go_end0
  exact ⟨rfl, rfl⟩

/-- a builder in block b that holds the bytes bs; its row, if it has one, lies from block m on -/
def Bld (m b : Nat) (bs : List Value) (w : World) : Prop :=
  b < m ∧ m ≤ w.heap.size ∧ ∃ p v, (p = .pointer none ∨ p = .pointer (some ⟨b, 0, none⟩)) ∧ w.heap[b]? = some (.cells #[p, v] WrtT (0, 0)) ∧ w.ownsRow m ByteT 1 v bs.length bs

/-- while it holds no row the place from which on its row will lie may be moved up -/
theorem Bld.fresh (w : World) : Bld (w.heap.size + 1) w.heap.size [] (w.alloc (.cells #[.pointer none, .slice none 0 0] WrtT)) :=
  ⟨Nat.lt_succ_self _, by simp, _, _, .inl rfl, heap_alloc_new w _, rfl, .inl ⟨rfl, rfl⟩⟩

theorem copyCheck_any (m b : Nat) (bs : List Value) (w : World) (h : Bld m b bs w) :
    Calls Tryz.prog 83 #[.pointer (some ⟨b, 0, none⟩)] w fun e w' => e = .returned (.tuple #[]) ∧ w'.heap.size = w.heap.size ∧ (∃ v, w'.heap[b]? = some (.cells #[.pointer (some ⟨b, 0, none⟩), v] WrtT (0, 0)) ∧ w'.ownsRow m ByteT 1 v bs.length bs) ∧ BKeep m b w w' := by
  obtain ⟨hbm, hm, p, v, hp, hb, hown⟩ := h
  rcases hp with rfl | rfl
  · refine (copyCheck_fresh b w (by rw [Lib.cell_of_heap hb]; rfl) (by simp [World.shape?, hb]) (Lib.frozen_of_heap hb 0)).mono ?_
    rintro e w' ⟨rfl, rfl⟩
    have hk : BKeep m b w (w.setCell ⟨b, 0, none⟩ (.pointer (some ⟨b, 0, none⟩))) := ⟨rfl, rfl, rfl, by simp [World.setCell], fun k _ hkb _ => Below.heap_setCell _ _ _ _ (by simpa using hkb)⟩
    refine ⟨rfl, by simp [World.setCell], ⟨v, ?_, ?_⟩, hk⟩
    · simp [World.setCell, Array.getElem?_modify, hb]
    · exact hown.kept (row := some b) ⟨rfl, rfl, rfl, by simp [World.setCell], fun k _ hk => Below.heap_setCell _ _ _ _ (fun e => hk (by simp [e]))⟩ (Or.inr (Ne.symm (own_ne hown (.inl hbm))))
  · refine (copyCheck_used b w (by rw [Lib.cell_of_heap hb]; rfl)).mono ?_
    rintro e w' ⟨rfl, rfl⟩
    exact ⟨rfl, rfl, ⟨v, hb, hown⟩, BKeep.refl _ _ _⟩

/-- the store of the grown row into the builder -/
theorem put_back {m b : Nat} {p v v' : Value} {bs' : List Value} {w : World} (hp : p = .pointer none ∨ p = .pointer (some ⟨b, 0, none⟩)) (hbm : b < m) (hm : m ≤ w.heap.size) (hb : w.heap[b]? = some (.cells #[p, v] WrtT (0, 0))) (hown : w.ownsRow m ByteT 1 v' bs'.length bs') :
    Bld m b bs' (w.setCell ⟨b, 1, none⟩ v') := by
  refine ⟨hbm, by simpa [World.setCell] using hm, p, v', hp, ?_, ?_⟩
  · simp [World.setCell, Array.getElem?_modify, hb]
  · exact hown.kept (row := some b) ⟨rfl, rfl, rfl, by simp [World.setCell], fun k _ hk => Below.heap_setCell _ _ _ _ (fun e => hk (by simp [e]))⟩ (Or.inr (Ne.symm (own_ne hown (.inl hbm))))

set_option maxHeartbeats 1000000 in
/-- a text more -/
theorem writeString_any (m b : Nat) (bs : List Value) (s : ByteArray) (w : World) (h : Bld m b bs w) (hlen : bs.length + s.size ≤ 140737488355328) :
    Calls Tryz.prog 51 #[.pointer (some ⟨b, 0, none⟩), .string s] w fun e w' => e = .returned (.tuple #[.int .i64 s.size, .nilIface]) ∧ Bld m b (bs ++ Lib.strCells s) w' ∧ BKeep m b w w' := by
  obtain ⟨i0, hi, hz0, hz1, hz2⟩ := info_parts infoByte
  have hbm := h.1
  have hm := h.2.1
  go_enter Tryz.func51, Tryz.ntmps51
  go_wp2_with fail
  refine (copyCheck_any m b bs _ h).mono ?_
  rintro e w1 ⟨rfl, hsz, ⟨v, hbk, hown⟩, hk1⟩
  have hs1 : m ≤ w1.heap.size := by omega
  have Hsz := Lib.hid hsz
  clear hsz
  have c1 : w1.cell? ⟨b, 1, none⟩ = some v := by rw [Lib.cell_of_heap hbk]; rfl
  go_wp2_with (at_builtin; refine Lib.wpList_append_own_string _ rfl _ _ 88 9 rfl m ByteT i0 Tryz.underlying88 Tryz.underlying9 hi hz0 hz1 hz2 _ _ _ rfl hown s rfl ?c3 ?c4 ?c5 ?_)
  case c3 => unfold maxLen; omega
  case c4 => omega
  case c5 => omega
  intro v' w2 hown' hgrow _
  have hb2 : w2.heap[b]? = some (.cells #[.pointer (some ⟨b, 0, none⟩), v] WrtT (0, 0)) := by
    rw [hgrow.block b (heap_lt hbk) (own_ne hown (.inl hbm))]
    exact hbk
  have d1 : w2.cell? ⟨b, 1, none⟩ = some v := by rw [Lib.cell_of_heap hb2]; rfl
  have f1 : w2.frozen? ⟨b, 1, none⟩ = false := Lib.frozen_of_heap hb2 1
  obtain ⟨ao, n', cap, rfl⟩ : ∃ ao n' cap, v' = .slice ao n' cap := by
    rcases hown'.2 with ⟨hv, _⟩ | ⟨g, cap, cur, hv, _⟩
    · exact ⟨_, _, _, hv⟩
    · exact ⟨_, _, _, hv⟩
  have hs2 : w1.heap.size ≤ w2.heap.size := hgrow.size
  go_wp2
  go_ret2
  refine ⟨rfl, put_back (.inr rfl) hbm (by omega) hb2 (by simpa [Lib.strCells_length] using hown'), hk1.trans ⟨?_, ?_, ?_, ?_, ?_⟩⟩
  · exact hgrow.os
  · exact hgrow.tape
  · exact hgrow.output
  · simp [World.setCell]; omega
  · intro k hk hkb hn
    rw [Below.heap_setCell _ _ _ _ (by simpa using hkb), hgrow.block k hk (own_ne hown hn)]


theorem Bld.below {m b : Nat} {bs : List Value} {w w' : World} (h : Bld m b bs w) (hb : Below w.heap.size w w') : Bld m b bs w' := by
  obtain ⟨h1, h2, p, v, h3, h4, h5⟩ := h
  exact ⟨h1, Nat.le_trans h2 hb.size, p, v, h3, (hb.block _ (heap_lt h4)).trans h4, ownsRow_below h5 hb⟩

end Go.Proofs.YtbjbgdnjcppjhaaGreatDoor.wrt
