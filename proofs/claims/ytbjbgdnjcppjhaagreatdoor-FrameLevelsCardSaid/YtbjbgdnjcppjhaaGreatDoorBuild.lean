/-
  A strings.Builder that the call has made: what copyCheck, WriteByte and WriteString do to it, over this translation. Conditions: the bytes held and written stay below 2^47. By an AI agent.
-/
import Derived.Test.YtbjbgdnjcppjhaaGreatDoorMem
import Derived.Lib.Builder
import Derived.Lib.AppendStr
import Derived.Lib.UnsafeStr
namespace Go.Proofs.YtbjbgdnjcppjhaaGreatDoor
open Go.RowKit

abbrev BldT : TypeId := 90
abbrev ByteT : TypeId := 5
theorem infoBld : (Tryz.prog.info? BldT).map (·.size) = some 2 := by kernel_rfl
theorem infoByte : (Tryz.prog.info? ByteT).map (fun i => (i.zero, i.size, i.bytes)) = some (some (.int .u8 0), 1, 1) := by kernel_rfl
theorem liesBld : liesAt Tryz.prog Tryz.prog.depth BldT (2 / Tryz.prog.cellsOf BldT) 0 BldT 1 = true := by kernel_rfl

set_option maxHeartbeats 1000000 in
theorem copyCheck_used (b : Nat) (w : World) (h0 : w.cell? ⟨b, 0, none⟩ = some (.pointer (some ⟨b, 0, none⟩))) :
    Calls Tryz.prog 83 #[.pointer (some ⟨b, 0, none⟩)] w fun e w' => e = .returned (.tuple #[]) ∧ w = w' := by
  obtain ⟨j, hj, _⟩ := Option.map_eq_some_iff.1 infoBld
  have hq := fun w : World => Lib.run_neq_ptr_same (P := Tryz.prog) w ⟨b, 0, none⟩ Tryz.underlying87 hj
  go_enter Tryz.func83, Tryz.ntmps83
  go_wp2
  go_end0
  exact ⟨rfl, rfl⟩

set_option maxHeartbeats 1000000 in
theorem copyCheck_fresh (b : Nat) (w : World) (h0 : w.cell? ⟨b, 0, none⟩ = some (.pointer none)) (hsh : w.shape? b = some (BldT, 2)) (hfz : w.frozen? ⟨b, 0, none⟩ = false) :
    Calls Tryz.prog 83 #[.pointer (some ⟨b, 0, none⟩)] w fun e w' => e = .returned (.tuple #[]) ∧ w.setCell ⟨b, 0, none⟩ (.pointer (some ⟨b, 0, none⟩)) = w' := by
  obtain ⟨j, hj, hjs⟩ := Option.map_eq_some_iff.1 infoBld
  have t1 := Lib.run_to_unsafe (P := Tryz.prog) w ⟨b, 0, none⟩ Tryz.underlying87 Tryz.underlying171 hj (by rw [hjs]; decide) hsh (Nat.zero_lt_succ 1)
  have t2 : ∀ w : World, (callFunc 125 #[.pointer (some ⟨b, 0, none⟩)]).run Tryz.prog w = .ok (.value (.pointer (some ⟨b, 0, none⟩))) w := fun _ => by kernel_rfl
  have t3 := Lib.run_from_unsafe (P := Tryz.prog) w ⟨b, 0, none⟩ Tryz.underlying171 Tryz.underlying87 hj hsh liesBld
  go_enter Tryz.func83, Tryz.ntmps83
  go_wp2
  go_end0
  exact ⟨rfl, rfl⟩

/-- block k holds no row of bytes -/
def NotBytes (w : World) (k : Nat) : Prop := ∀ cs fr, w.heap[k]? ≠ some (.cells cs ByteT fr)
/-- what a write to the builder in block b leaves as it was: every block but b that lies below m, or holds no row of bytes -/
structure BKeep (m b : Nat) (w w' : World) : Prop where
  os : w'.os = w.os
  tape : w'.tape = w.tape
  output : w'.output = w.output
  size : w.heap.size ≤ w'.heap.size
  block : ∀ k, k < w.heap.size → k ≠ b → (k < m ∨ NotBytes w k) → w'.heap[k]? = w.heap[k]?

theorem NotBytes.of_block {w w' : World} {k : Nat} (h : NotBytes w k) (e : w'.heap[k]? = w.heap[k]?) : NotBytes w' k := fun cs fr => by rw [e]; exact h cs fr
theorem BKeep.refl (m b : Nat) (w : World) : BKeep m b w w := ⟨rfl, rfl, rfl, Nat.le_refl _, fun _ _ _ _ => rfl⟩
theorem BKeep.trans {m b : Nat} {w1 w2 w3 : World} (h : BKeep m b w1 w2) (k : BKeep m b w2 w3) : BKeep m b w1 w3 :=
  ⟨k.os.trans h.os, k.tape.trans h.tape, k.output.trans h.output, Nat.le_trans h.size k.size, fun i hi hb hn => by
    have e := h.block i hi hb hn
    exact (k.block i (Nat.lt_of_lt_of_le hi h.size) hb (hn.imp id fun x => x.of_block e)).trans e⟩
theorem BKeep.below {m b B : Nat} {w w' : World} (h : BKeep m b w w') (h1 : B ≤ b) (h2 : B ≤ m) (h3 : B ≤ w.heap.size) : Below B w w' :=
  ⟨h.os, h.tape, h.output, h.size, fun k hk => h.block k (by omega) (by omega) (.inl (by omega))⟩
theorem BKeep.cell {m b : Nat} {w w' : World} (h : BKeep m b w w') {p : Addr} (h1 : p.block < w.heap.size) (h2 : p.block ≠ b) (h3 : p.block < m ∨ NotBytes w p.block) : w'.cell? p = w.cell? p :=
  World.cell?_of_block (w := w) (h.block _ h1 h2 h3)

/-- a builder in block b that holds the bytes bs; its row, if it has one, lies from block m on -/
def Bld (m b : Nat) (bs : List Value) (w : World) : Prop :=
  b < m ∧ m ≤ w.heap.size ∧ ∃ p v, (p = .pointer none ∨ p = .pointer (some ⟨b, 0, none⟩)) ∧ w.heap[b]? = some (.cells #[p, v] BldT (0, 0)) ∧ w.ownsRow m ByteT 1 v bs.length bs

theorem Bld.isBuilder {m b B : Nat} {bs : List Value} {w : World} (h : Bld m b bs w) (hB : B ≤ b) : Lib.IsBuilder BldT ByteT B b bs w := by
  obtain ⟨hbm, hm, p, v, hp, hb, hown⟩ := h
  have hown' : w.ownsRow B ByteT 1 v bs.length bs := by
    refine ⟨hown.1, ?_⟩
    rcases hown.2 with h0 | ⟨g, cap, cur, h1, h2, r⟩
    · exact .inl h0
    · exact .inr ⟨g, cap, cur, h1, by omega, r⟩
  have hne : v.ownBlock ≠ some b := by
    rcases hown.2 with ⟨h0, _⟩ | ⟨g, cap, cur, h1, h2, r⟩
    · rw [h0]; simp [Value.ownBlock]
    · rw [h1]; simp [Value.ownBlock]; omega
  rcases hp with rfl | rfl
  · exact .inl ⟨hB, v, hb, hown', hne⟩
  · exact .inr ⟨hB, v, hb, hown', hne⟩
/-- while it holds no row the place from which on its row will lie may be moved up -/
theorem Bld.fresh (w : World) : Bld (w.heap.size + 1) w.heap.size [] (w.alloc (.cells #[.pointer none, .slice none 0 0] BldT)) :=
  ⟨Nat.lt_succ_self _, by simp, _, _, .inl rfl, heap_alloc_new w _, rfl, .inl ⟨rfl, rfl⟩⟩

theorem heap_lt {w : World} {b : Nat} {o : Obj} (h : w.heap[b]? = some o) : b < w.heap.size := (Array.getElem?_eq_some_iff.1 h).1
theorem own_ne {w : World} {m k : Nat} {v : Value} {n : Nat} {xs : List Value} (h : w.ownsRow m ByteT 1 v n xs) (hk : k < m ∨ NotBytes w k) : some k ≠ v.ownBlock := by
  rcases h.2 with ⟨h0, _⟩ | ⟨g, cap, cur, h1, h2, h3, _⟩
  · rw [h0]; simp [Value.ownBlock]
  · rw [h1]
    simp only [Value.ownBlock, ne_eq, Option.some.injEq]
    rintro rfl
    rcases hk with hk | hk
    · omega
    · exact hk _ _ h3

theorem copyCheck_any (m b : Nat) (bs : List Value) (w : World) (h : Bld m b bs w) :
    Calls Tryz.prog 83 #[.pointer (some ⟨b, 0, none⟩)] w fun e w' => e = .returned (.tuple #[]) ∧ w'.heap.size = w.heap.size ∧ (∃ v, w'.heap[b]? = some (.cells #[.pointer (some ⟨b, 0, none⟩), v] BldT (0, 0)) ∧ w'.ownsRow m ByteT 1 v bs.length bs) ∧ BKeep m b w w' := by
  obtain ⟨hbm, hm, p, v, hp, hb, hown⟩ := h
  rcases hp with rfl | rfl
  · refine (copyCheck_fresh b w (by rw [Lib.cell_of_heap hb]; rfl) (by simp [World.shape?, hb]) (Lib.frozen_of_heap hb 0)).mono ?_
    rintro e w' ⟨rfl, rfl⟩
    have hk : BKeep m b w (w.setCell ⟨b, 0, none⟩ (.pointer (some ⟨b, 0, none⟩))) := ⟨rfl, rfl, rfl, by simp [World.setCell], fun k _ hkb _ => Below.heap_setCell _ _ _ _ (by simpa using hkb)⟩
    refine ⟨rfl, by simp [World.setCell], ⟨v, ?_, ?_⟩, hk⟩
    · simp [World.setCell, Array.getElem?_modify, hb]
    · exact hown.kept (row := some b) ⟨rfl, rfl, rfl, by simp [World.setCell], fun k _ hk => Below.heap_setCell _ _ _ _ (fun e => hk (by simp [e]))⟩ (Or.inr (Ne.symm (own_ne hown (.inl hbm))))
  · refine (copyCheck_used b w (by rw [Lib.cell_of_heap hb]; rfl)).mono ?_
    rintro e w' ⟨rfl, rfl⟩
    exact ⟨rfl, rfl, ⟨v, hb, hown⟩, BKeep.refl _ _ _⟩

/-- the store of the grown row into the builder -/
theorem put_back {m b : Nat} {p v v' : Value} {bs' : List Value} {w : World} (hp : p = .pointer none ∨ p = .pointer (some ⟨b, 0, none⟩)) (hbm : b < m) (hm : m ≤ w.heap.size) (hb : w.heap[b]? = some (.cells #[p, v] BldT (0, 0))) (hown : w.ownsRow m ByteT 1 v' bs'.length bs') :
    Bld m b bs' (w.setCell ⟨b, 1, none⟩ v') := by
  refine ⟨hbm, by simpa [World.setCell] using hm, p, v', hp, ?_, ?_⟩
  · simp [World.setCell, Array.getElem?_modify, hb]
  · exact hown.kept (row := some b) ⟨rfl, rfl, rfl, by simp [World.setCell], fun k _ hk => Below.heap_setCell _ _ _ _ (fun e => hk (by simp [e]))⟩ (Or.inr (Ne.symm (own_ne hown (.inl hbm))))

set_option maxHeartbeats 1000000 in
/-- a byte more -/
theorem writeByte_any (m b : Nat) (bs : List Value) (c : Int) (w : World) (h : Bld m b bs w) (hlen : bs.length + 1 ≤ 140737488355328) :
    Calls Tryz.prog 124 #[.pointer (some ⟨b, 0, none⟩), .int .u8 c] w fun e w' => e = .returned .nilIface ∧ Bld m b (bs ++ [.int .u8 c]) w' ∧ BKeep m b w w' := by
  obtain ⟨i0, hi, hz0, hz1, hz2⟩ := info_parts infoByte
  have hbm := h.1
  have hm := h.2.1
  go_enter Tryz.func124, Tryz.ntmps124
  go_wp2_with fail
  refine (copyCheck_any m b bs _ h).mono ?_
  rintro e w1 ⟨rfl, hsz, ⟨v, hbk, hown⟩, hk1⟩
  have hs1 : m ≤ w1.heap.size := by omega
  have Hsz := Lib.hid hsz
  clear hsz
  have c1 : w1.cell? ⟨b, 1, none⟩ = some v := by rw [Lib.cell_of_heap hbk]; rfl
  go_wp2_with (at_builtin; refine wpList_append_own _ rfl _ _ 88 rfl m ByteT i0 (.int .u8 0) 1 1 Tryz.underlying88 hi hz0 hz1 hz2 rfl (by decide) _ _ _ rfl (hown.alloc _) ⟨w1.heap.size, 0, none⟩ 1 1 [.int .u8 c] rfl rfl ?c1 ?c2 ?c3 ?c4 ?c5 ?_)
  case c1 => exact cell_one_new _ _ _
  case c2 => intro u hu; simp at hu; subst hu; rfl
  case c3 => unfold maxLen; omega
  case c4 => omega
  case c5 => simp; omega
  intro v' w2 hown' hgrow _
  have hb2 : w2.heap[b]? = some (.cells #[.pointer (some ⟨b, 0, none⟩), v] BldT (0, 0)) := by
    rw [hgrow.block b (by have := heap_lt hbk; simp; omega) (own_ne hown (.inl hbm)), Below.heap_alloc _ _ _ (heap_lt hbk)]
    exact hbk
  have d1 : w2.cell? ⟨b, 1, none⟩ = some v := by rw [Lib.cell_of_heap hb2]; rfl
  have f1 : w2.frozen? ⟨b, 1, none⟩ = false := Lib.frozen_of_heap hb2 1
  obtain ⟨g, cap, rfl⟩ : ∃ g cap, v' = .slice (some ⟨g, 0, none⟩) (bs.length + 1) cap := by
    rcases hown'.2 with ⟨_, h0⟩ | ⟨g, cap, cur, hv, _⟩
    · simp at h0
    · exact ⟨g, cap, hv⟩
  have hs2 : w1.heap.size + 1 ≤ w2.heap.size := by have := hgrow.size; simpa using this
  go_wp2
  go_ret
  refine ⟨rfl, put_back (.inr rfl) hbm (by omega) hb2 (by simpa using hown'), hk1.trans ⟨?_, ?_, ?_, ?_, ?_⟩⟩
  · exact hgrow.os
  · exact hgrow.tape
  · exact hgrow.output
  · simp [World.setCell]; omega
  · intro k hk hkb hn
    rw [Below.heap_setCell _ _ _ _ (by simpa using hkb), hgrow.block k (by simp; omega) (own_ne hown hn), Below.heap_alloc _ _ _ hk]

set_option maxHeartbeats 1000000 in
/-- a text more -/
theorem writeString_any (m b : Nat) (bs : List Value) (s : ByteArray) (w : World) (h : Bld m b bs w) (hlen : bs.length + s.size ≤ 140737488355328) :
    Calls Tryz.prog 51 #[.pointer (some ⟨b, 0, none⟩), .string s] w fun e w' => e = .returned (.tuple #[.int .i64 s.size, .nilIface]) ∧ Bld m b (bs ++ Lib.strCells s) w' ∧ BKeep m b w w' := by
  obtain ⟨i0, hi, hz0, hz1, hz2⟩ := info_parts infoByte
  have hbm := h.1
  have hm := h.2.1
  go_enter Tryz.func51, Tryz.ntmps51
  go_wp2_with fail
  refine (copyCheck_any m b bs _ h).mono ?_
  rintro e w1 ⟨rfl, hsz, ⟨v, hbk, hown⟩, hk1⟩
  have hs1 : m ≤ w1.heap.size := by omega
  have Hsz := Lib.hid hsz
  clear hsz
  have c1 : w1.cell? ⟨b, 1, none⟩ = some v := by rw [Lib.cell_of_heap hbk]; rfl
  go_wp2_with (at_builtin; refine Lib.wpList_append_own_string _ rfl _ _ 88 9 rfl m ByteT i0 Tryz.underlying88 Tryz.underlying9 hi hz0 hz1 hz2 _ _ _ rfl hown s rfl ?c3 ?c4 ?c5 ?_)
  case c3 => unfold maxLen; omega
  case c4 => omega
  case c5 => omega
  intro v' w2 hown' hgrow _
  have hb2 : w2.heap[b]? = some (.cells #[.pointer (some ⟨b, 0, none⟩), v] BldT (0, 0)) := by
    rw [hgrow.block b (heap_lt hbk) (own_ne hown (.inl hbm))]
    exact hbk
  have d1 : w2.cell? ⟨b, 1, none⟩ = some v := by rw [Lib.cell_of_heap hb2]; rfl
  have f1 : w2.frozen? ⟨b, 1, none⟩ = false := Lib.frozen_of_heap hb2 1
  obtain ⟨ao, n', cap, rfl⟩ : ∃ ao n' cap, v' = .slice ao n' cap := by
    rcases hown'.2 with ⟨hv, _⟩ | ⟨g, cap, cur, hv, _⟩
    · exact ⟨_, _, _, hv⟩
    · exact ⟨_, _, _, hv⟩
  have hs2 : w1.heap.size ≤ w2.heap.size := hgrow.size
  go_wp2
  go_ret2
  refine ⟨rfl, put_back (.inr rfl) hbm (by omega) hb2 (by simpa [Lib.strCells_length] using hown'), hk1.trans ⟨?_, ?_, ?_, ?_, ?_⟩⟩
  · exact hgrow.os
  · exact hgrow.tape
  · exact hgrow.output
  · simp [World.setCell]; omega
  · intro k hk hkb hn
    rw [Below.heap_setCell _ _ _ _ (by simpa using hkb), hgrow.block k hk (own_ne hown hn)]

end Go.Proofs.YtbjbgdnjcppjhaaGreatDoor
