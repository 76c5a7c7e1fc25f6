/-
  varint.Fixed over this translation: a number's lowest 1, 4 or 8 bytes. Condition: a number of 64 bits. By an AI agent.
-/
import Derived.Test.YtbjbgdnjcppjhaaGreatDoorJFirA
import Derived.Test.YtbjbgdnjcppjhaaGreatDoorVarText
import Derived.Test.YtbjbgdnjcppjhaaGreatDoorBuild
import Derived.Test.YtbjbgdnjcppjhaaGreatDoorOwn
import Derived.Test.YtbjbgdnjcppjhaaGreatDoorHeld
import Derived.Test.YtbjbgdnjcppjhaaGreatDoorShelf
import Derived.Test.YtbjbgdnjcppjhaaGreatDoorRight
namespace Go.Proofs.YtbjbgdnjcppjhaaGreatDoor
open Go.RowKit Go.Sort
set_option linter.unusedVariables false
set_option linter.unusedSimpArgs false

/-- the eight bytes, the first k of them laid -/
def fixCell (n : Nat) (i : Nat) : Value := .int .u8 ((n / 256 ^ (7 - i) % 256 : Nat) : Int)
def fixSt (n k : Nat) : Array Value := ((List.range 8).map fun i => if i < k then fixCell n i else .int .u8 0).toArray

theorem fixSt_get (n k i : Nat) (hi : i < 8) : (fixSt n k)[i]? = some (if i < k then fixCell n i else .int .u8 0) := by
  simp [fixSt, hi]
theorem fixSt_set (n k : Nat) : (fixSt n k).setIfInBounds k (fixCell n k) = fixSt n (k + 1) := by
  apply Array.ext
  · simp [fixSt]
  · intro i h1 h2
    have hi : i < 8 := by simpa [fixSt] using h2
    by_cases hik : i = k
    · subst hik
      simp [fixSt]
    · rw [Array.getElem_setIfInBounds_ne (by simpa [fixSt] using hi) (by omega)]
      simp only [fixSt, List.getElem_toArray, List.getElem_map, List.getElem_range]
      by_cases h3 : i < k
      · rw [if_pos h3, if_pos (by omega)]
      · rw [if_neg h3, if_neg (by omega)]
theorem fixL_get : ∀ (k n j : Nat) (h : j < (fixL k n).length), (fixL k n)[j].toNat = n / 256 ^ (k - 1 - j) % 256
  | 0, n, j, h => by simp [fixL] at h
  | k + 1, n, 0, h => by
    simp only [fixL, List.getElem_cons_zero]
    rw [byte_val _ (Nat.mod_lt _ (by decide))]
    simp
  | k + 1, n, j + 1, h => by
    simp only [fixL, List.getElem_cons_succ]
    rw [fixL_get k n j (by simpa [fixL] using h)]
    congr 3
    omega
theorem fix_value (n k : Nat) : (n : Int) / 2 ^ (8 * (7 - k)) % 256 = ((n / 256 ^ (7 - k) % 256 : Nat) : Int) := by
  have : (2 : Nat) ^ (8 * (7 - k)) = 256 ^ (7 - k) := by rw [Nat.pow_mul]
  rw [Int.natCast_emod, Int.natCast_ediv, ← this, Int.natCast_pow]
  rfl
theorem fix_bytes (n size : Nat) (hs : size ≤ 8) (w : World) (b : Nat) (hb : w.heap[b]? = some (.cells (fixSt n 8) 170 (0, 0))) :
    ∀ j (hj : j < (fixL size n).length), w.cell? ((⟨b, 8 - size, none⟩ : Addr).add j) = some (.int .u8 ((fixL size n)[j].toNat : Int)) := by
  intro j hj
  have hj2 : j < size := by rw [fixL_length] at hj; exact hj
  have hadd : (⟨b, 8 - size, none⟩ : Addr).add j = ⟨b, 8 - size + j, none⟩ := by
    unfold Addr.add
    split
    · simp_all
    · rfl
  rw [hadd, Lib.cell_of_heap hb, fixSt_get n 8 _ (by omega), if_pos (by omega), fixL_get]
  unfold fixCell
  rw [show 7 - (8 - size + j) = size - 1 - j by omega]

set_option maxRecDepth 100000 in
set_option maxHeartbeats 4000000 in
theorem fixed_any (n : Nat) (hn : n < 18446744073709551616) (size : Nat) (hs : size = 1 ∨ size = 4 ∨ size = 8) (w : World) :
    Calls Tryz.prog 82 #[.int .u64 n, .int .i64 size] w fun x w' => x = .returned (.string ⟨(fixL size n).toArray⟩) ∧ Below w.heap.size w w' := by
  have hs8 : size ≤ 8 := by omega
  go_enter Tryz.func82, Tryz.ntmps82
  go_wp2_with fail
  go_loopw [6, 13] (fun i6 i wr => ∃ (k : Nat), k ≤ 8 ∧ i = .int .i64 k ∧ wr.heap[w.heap.size]? = some (.cells (fixSt n k) 170 (0, 0)) ∧ Below w.heap.size w wr) (fun i6 i _ => 8 - (intOf i).toNat)
  case atStart => exact ⟨0, by decide, rfl, by rw [show fixSt n 0 = #[.int .u8 0, .int .u8 0, .int .u8 0, .int .u8 0, .int .u8 0, .int .u8 0, .int .u8 0, .int .u8 0] from rfl]; exact heap_alloc_new w _, (Below.refl _ _).alloc (Nat.le_refl _) _⟩
  case round =>
    obtain ⟨k, hk, rfl, hb, hbr⟩ := hrel
    have hfz : ∀ o, wr.frozen? ⟨w.heap.size, o, none⟩ = false := fun o => Lib.frozen_of_heap hb o
    have HB := Lib.hid hb
    have HBR := Lib.hid hbr
    by_cases hlt : k < 8
    · have hcell : wr.cell? ⟨w.heap.size, k, none⟩ = some (.int .u8 0) := by
        rw [Lib.cell_of_heap hb]
        simp [fixSt, hlt]
      clear hb hbr
      go_wp2_with fail
      rw [fix_value]
      have hnew : (wr.setCell ⟨w.heap.size, k, none⟩ (fixCell n k)).heap[w.heap.size]? = some (.cells (fixSt n (k + 1)) 170 (0, 0)) := by
        rw [← fixSt_set]
        have := HB.out
        simp [World.setCell, Array.getElem?_modify, this]
      go_roundw
      case rel => exact ⟨k + 1, by omega, by go_num, hnew, HBR.out.setCell (Nat.le_refl _) _⟩
      case measure => simp [intOf]; omega
    · obtain rfl : k = 8 := by omega
      have hby := fix_bytes n size hs8 wr w.heap.size hb
      rcases hs with rfl | rfl | rfl
      · have hconv : (convert 88 9 (.slice (some ⟨w.heap.size, 7, none⟩) 1 1)).run Tryz.prog wr = .ok (.string ⟨(fixL 1 n).toArray⟩) wr :=
          run_convert_bytes_back wr _ _ 5 ⟨w.heap.size, 7, none⟩ 1 (fixL 1 n) Tryz.underlying88 Tryz.underlying5 Tryz.underlying9 hby
        clear hb hby
        generalize hz : fixL 1 n = z at hconv
        go_wp2_with fail
        go_ret
        exact ⟨by rw [hz]; rfl, HBR.out⟩
      · have hconv : (convert 88 9 (.slice (some ⟨w.heap.size, 4, none⟩) 4 4)).run Tryz.prog wr = .ok (.string ⟨(fixL 4 n).toArray⟩) wr :=
          run_convert_bytes_back wr _ _ 5 ⟨w.heap.size, 4, none⟩ 4 (fixL 4 n) Tryz.underlying88 Tryz.underlying5 Tryz.underlying9 hby
        clear hb hby
        generalize hz : fixL 4 n = z at hconv
        go_wp2_with fail
        go_ret
        exact ⟨by rw [hz]; rfl, HBR.out⟩
      · have hconv : (convert 88 9 (.slice (some ⟨w.heap.size, 0, none⟩) 8 8)).run Tryz.prog wr = .ok (.string ⟨(fixL 8 n).toArray⟩) wr :=
          run_convert_bytes_back wr _ _ 5 ⟨w.heap.size, 0, none⟩ 8 (fixL 8 n) Tryz.underlying88 Tryz.underlying5 Tryz.underlying9 hby
        clear hb hby
        generalize hz : fixL 8 n = z at hconv
        go_wp2_with fail
        go_ret
        exact ⟨by rw [hz]; rfl, HBR.out⟩

end Go.Proofs.YtbjbgdnjcppjhaaGreatDoor

/-
  varint's Reader.Fixed over this translation. Conditions: at most 8 bytes; at most 2^40 bytes are left. By an AI agent.
-/
namespace Go.Proofs.YtbjbgdnjcppjhaaGreatDoor
open Go.RowKit Go.Sort
set_option linter.unusedVariables false
set_option linter.unusedSimpArgs false

theorem unfix_snoc (d : List UInt8) (k : Nat) (h : k < d.length) : unfix (d.take (k + 1)) = unfix (d.take k) * 256 + (d.getD k 0).toNat := by
  unfold unfix
  rw [List.take_succ_eq_append_getElem h, List.foldl_append]
  simp [h]
theorem fix_step (m c : Nat) (hm : m < 72057594037927936) (hc : c < 256) : bits .or .u64 ((m : Int) * 256) (c : Int) = ((m * 256 + c : Nat) : Int) := by
  have e1 : (m : Int) * 256 = ((m * 256 : Nat) : Int) := by omega
  rw [e1, u64_or_nat _ _ (by omega) (by omega)]
  congr 1
  have := Nat.two_pow_add_eq_or_of_lt (show c < 2 ^ 8 by omega) m
  rw [show m * 256 = 2 ^ 8 * m by omega]
  exact this.symm
theorem rdBytes_size (n : Nat) (r : Rd) : (rdBytes n r).1.length ≤ n := by
  unfold rdBytes
  split
  · simp
  · simp
    omega

set_option maxRecDepth 100000 in
set_option maxHeartbeats 4000000 in
theorem fixedRd_any (b size : Nat) (r : Rd) (hs : size ≤ 8) (hl : r.1.length ≤ 1099511627776) (w : World) (h : RdAt w b r) :
    Calls Tryz.prog 54 #[.pointer (some ⟨b, 0, none⟩), .int .i64 size] w fun x w' => x = .returned (.int .u64 (rdFix size r).1) ∧ RdAt w' b (rdFix size r).2 ∧ But b w w' := by
  have HBY := Lib.hid (bytes_any b size r (by omega) (by omega) w h)
  have hres : rdFix size r = (unfix (rdBytes size r).1, (rdBytes size r).2) := rfl
  have hlen := rdBytes_size size r
  generalize rdBytes size r = y at *
  obtain ⟨d, r2⟩ := y
  have HRES := Lib.hid hres
  clear hres h
  simp only at hlen
  have hs2 : ¬ (8 : Int) < (size : Int) := by omega
  go_enter Tryz.func54, Tryz.ntmps54
  go_wp2_with fail
  refine HBY.out.mono ?_
  rintro x w1 ⟨rfl, h1, hb1⟩
  obtain ⟨c, W, hcv, hbW, hsW, hcell⟩ := conv_bytes ⟨d.toArray⟩ w1
  have hsz : (ByteArray.mk d.toArray).size = d.length := rfl
  have hdl : (ByteArray.mk d.toArray).data.toList = d := by simp
  rw [hsz] at hcv hcell
  rw [hdl] at hcell
  have HR := Lib.hid (h1.keep hbW)
  have HB := Lib.hid (hb1.trans (But.of hbW))
  have HCELL := Lib.hid hcell
  clear hcell hsz hdl h1 hb1
  go_wp2_with fail
  go_loopw [4, 6, 16] (fun n b6 i wr => ∃ (k : Nat), k ≤ d.length ∧ i = .int .i64 k ∧ n = .int .u64 (unfix (d.take k)) ∧ wr = W) (fun n b6 i _ => d.length - (intOf i).toNat)
  case atStart => exact ⟨0, Nat.zero_le _, rfl, rfl, rfl⟩
  case round =>
    obtain ⟨k, hk, rfl, rfl, rfl⟩ := hrel
    by_cases hlt : k < d.length
    · have hc := HCELL.out k hlt
      have hsn := unfix_snoc d k hlt
      have hm : unfix (d.take k) < 72057594037927936 := by
        have h1 := unfix_lt (d.take k)
        refine Nat.lt_of_lt_of_le h1 (Nat.le_trans (Nat.pow_le_pow_right (by decide) (show (d.take k).length ≤ 7 by rw [List.length_take]; omega)) (by decide))
      have hb := UInt8.toNat_lt (d.getD k 0)
      have hst := fix_step _ _ hm hb
      have HSN := Lib.hid hsn
      clear hsn
      generalize unfix (d.take k) = m at *
      generalize d.getD k 0 = e at *
      go_wp2_with fail
      go_roundw
      case rel => exact ⟨k + 1, by omega, by go_num, by rw [HSN.out]; exact congrArg (Value.int IntKind.u64) (by omega), by first | rfl | trivial⟩
      case measure => simp [intOf]; omega
    · have hke : k = d.length := by omega
      subst hke
      rw [List.take_length]
      go_wp2_with fail
      go_ret
      rw [HRES.out]
      exact ⟨rfl, HR.out, HB.out⟩

end Go.Proofs.YtbjbgdnjcppjhaaGreatDoor

/-
  A builder embedded in a first.writer that the call has made: what copyCheck, WriteString and String do to it, over this translation. Conditions: the bytes held and written stay below 2^47. (Printed by wip/genbuildw.py.) By an AI agent.
-/
namespace Go.Proofs.YtbjbgdnjcppjhaaGreatDoor.wrt
open Go.RowKit
set_option linter.unusedVariables false
set_option linter.unusedSimpArgs false

abbrev WrtT : TypeId := 92
theorem infoWrt : (Tryz.prog.info? WrtT).map (·.size) = some 2 := by kernel_rfl
theorem liesWrt : liesAt Tryz.prog Tryz.prog.depth WrtT (2 / Tryz.prog.cellsOf WrtT) 0 BldT 1 = true := by kernel_rfl

set_option maxHeartbeats 1000000 in
theorem copyCheck_fresh (b : Nat) (w : World) (h0 : w.cell? ⟨b, 0, none⟩ = some (.pointer none)) (hsh : w.shape? b = some (WrtT, 2)) (hfz : w.frozen? ⟨b, 0, none⟩ = false) :
    Calls Tryz.prog 83 #[.pointer (some ⟨b, 0, none⟩)] w fun e w' => e = .returned (.tuple #[]) ∧ w.setCell ⟨b, 0, none⟩ (.pointer (some ⟨b, 0, none⟩)) = w' := by
  obtain ⟨j, hj, hjs⟩ := Option.map_eq_some_iff.1 infoBld
  have t1 := Lib.run_to_unsafe (P := Tryz.prog) w ⟨b, 0, none⟩ Tryz.underlying87 Tryz.underlying171 hj (by rw [hjs]; decide) hsh (Nat.zero_lt_succ 1)
  have t2 : ∀ w : World, (callFunc 125 #[.pointer (some ⟨b, 0, none⟩)]).run Tryz.prog w = .ok (.value (.pointer (some ⟨b, 0, none⟩))) w := fun _ => by kernel_rfl
  have t3 := Lib.run_from_unsafe (P := Tryz.prog) w ⟨b, 0, none⟩ Tryz.underlying171 Tryz.underlying87 hj hsh liesWrt
  go_enter Tryz.func83, Tryz.ntmps83
  go_wp2
  go_end0
  exact ⟨rfl, rfl⟩

/-- a builder in block b that holds the bytes bs; its row, if it has one, lies from block m on -/
def Bld (m b : Nat) (bs : List Value) (w : World) : Prop :=
  b < m ∧ m ≤ w.heap.size ∧ ∃ p v, (p = .pointer none ∨ p = .pointer (some ⟨b, 0, none⟩)) ∧ w.heap[b]? = some (.cells #[p, v] WrtT (0, 0)) ∧ w.ownsRow m ByteT 1 v bs.length bs

/-- while it holds no row the place from which on its row will lie may be moved up -/
theorem Bld.fresh (w : World) : Bld (w.heap.size + 1) w.heap.size [] (w.alloc (.cells #[.pointer none, .slice none 0 0] WrtT)) :=
  ⟨Nat.lt_succ_self _, by simp, _, _, .inl rfl, heap_alloc_new w _, rfl, .inl ⟨rfl, rfl⟩⟩

theorem copyCheck_any (m b : Nat) (bs : List Value) (w : World) (h : Bld m b bs w) :
    Calls Tryz.prog 83 #[.pointer (some ⟨b, 0, none⟩)] w fun e w' => e = .returned (.tuple #[]) ∧ w'.heap.size = w.heap.size ∧ (∃ v, w'.heap[b]? = some (.cells #[.pointer (some ⟨b, 0, none⟩), v] WrtT (0, 0)) ∧ w'.ownsRow m ByteT 1 v bs.length bs) ∧ BKeep m b w w' := by
  obtain ⟨hbm, hm, p, v, hp, hb, hown⟩ := h
  rcases hp with rfl | rfl
  · refine (copyCheck_fresh b w (by rw [Lib.cell_of_heap hb]; rfl) (by simp [World.shape?, hb]) (Lib.frozen_of_heap hb 0)).mono ?_
    rintro e w' ⟨rfl, rfl⟩
    have hk : BKeep m b w (w.setCell ⟨b, 0, none⟩ (.pointer (some ⟨b, 0, none⟩))) := ⟨rfl, rfl, rfl, by simp [World.setCell], fun k _ hkb _ => Below.heap_setCell _ _ _ _ (by simpa using hkb)⟩
    refine ⟨rfl, by simp [World.setCell], ⟨v, ?_, ?_⟩, hk⟩
    · simp [World.setCell, Array.getElem?_modify, hb]
    · exact hown.kept (row := some b) ⟨rfl, rfl, rfl, by simp [World.setCell], fun k _ hk => Below.heap_setCell _ _ _ _ (fun e => hk (by simp [e]))⟩ (Or.inr (Ne.symm (own_ne hown (.inl hbm))))
  · refine (copyCheck_used b w (by rw [Lib.cell_of_heap hb]; rfl)).mono ?_
    rintro e w' ⟨rfl, rfl⟩
    exact ⟨rfl, rfl, ⟨v, hb, hown⟩, BKeep.refl _ _ _⟩

/-- the store of the grown row into the builder -/
theorem put_back {m b : Nat} {p v v' : Value} {bs' : List Value} {w : World} (hp : p = .pointer none ∨ p = .pointer (some ⟨b, 0, none⟩)) (hbm : b < m) (hm : m ≤ w.heap.size) (hb : w.heap[b]? = some (.cells #[p, v] WrtT (0, 0))) (hown : w.ownsRow m ByteT 1 v' bs'.length bs') :
    Bld m b bs' (w.setCell ⟨b, 1, none⟩ v') := by
  refine ⟨hbm, by simpa [World.setCell] using hm, p, v', hp, ?_, ?_⟩
  · simp [World.setCell, Array.getElem?_modify, hb]
  · exact hown.kept (row := some b) ⟨rfl, rfl, rfl, by simp [World.setCell], fun k _ hk => Below.heap_setCell _ _ _ _ (fun e => hk (by simp [e]))⟩ (Or.inr (Ne.symm (own_ne hown (.inl hbm))))

set_option maxHeartbeats 1000000 in
/-- a text more -/
theorem writeString_any (m b : Nat) (bs : List Value) (s : ByteArray) (w : World) (h : Bld m b bs w) (hlen : bs.length + s.size ≤ 140737488355328) :
    Calls Tryz.prog 51 #[.pointer (some ⟨b, 0, none⟩), .string s] w fun e w' => e = .returned (.tuple #[.int .i64 s.size, .nilIface]) ∧ Bld m b (bs ++ Lib.strCells s) w' ∧ BKeep m b w w' := by
  obtain ⟨i0, hi, hz0, hz1, hz2⟩ := info_parts infoByte
  have hbm := h.1
  have hm := h.2.1
  go_enter Tryz.func51, Tryz.ntmps51
  go_wp2_with fail
  refine (copyCheck_any m b bs _ h).mono ?_
  rintro e w1 ⟨rfl, hsz, ⟨v, hbk, hown⟩, hk1⟩
  have hs1 : m ≤ w1.heap.size := by omega
  have Hsz := Lib.hid hsz
  clear hsz
  have c1 : w1.cell? ⟨b, 1, none⟩ = some v := by rw [Lib.cell_of_heap hbk]; rfl
  go_wp2_with (at_builtin; refine Lib.wpList_append_own_string _ rfl _ _ 88 9 rfl m ByteT i0 Tryz.underlying88 Tryz.underlying9 hi hz0 hz1 hz2 _ _ _ rfl hown s rfl ?c3 ?c4 ?c5 ?_)
  case c3 => unfold maxLen; omega
  case c4 => omega
  case c5 => omega
  intro v' w2 hown' hgrow _
  have hb2 : w2.heap[b]? = some (.cells #[.pointer (some ⟨b, 0, none⟩), v] WrtT (0, 0)) := by
    rw [hgrow.block b (heap_lt hbk) (own_ne hown (.inl hbm))]
    exact hbk
  have d1 : w2.cell? ⟨b, 1, none⟩ = some v := by rw [Lib.cell_of_heap hb2]; rfl
  have f1 : w2.frozen? ⟨b, 1, none⟩ = false := Lib.frozen_of_heap hb2 1
  obtain ⟨ao, n', cap, rfl⟩ : ∃ ao n' cap, v' = .slice ao n' cap := by
    rcases hown'.2 with ⟨hv, _⟩ | ⟨g, cap, cur, hv, _⟩
    · exact ⟨_, _, _, hv⟩
    · exact ⟨_, _, _, hv⟩
  have hs2 : w1.heap.size ≤ w2.heap.size := hgrow.size
  go_wp2
  go_ret2
  refine ⟨rfl, put_back (.inr rfl) hbm (by omega) hb2 (by simpa [Lib.strCells_length] using hown'), hk1.trans ⟨?_, ?_, ?_, ?_, ?_⟩⟩
  · exact hgrow.os
  · exact hgrow.tape
  · exact hgrow.output
  · simp [World.setCell]; omega
  · intro k hk hkb hn
    rw [Below.heap_setCell _ _ _ _ (by simpa using hkb), hgrow.block k hk (own_ne hown hn)]


theorem Bld.below {m b : Nat} {bs : List Value} {w w' : World} (h : Bld m b bs w) (hb : Below w.heap.size w w') : Bld m b bs w' := by
  obtain ⟨h1, h2, p, v, h3, h4, h5⟩ := h
  exact ⟨h1, Nat.le_trans h2 hb.size, p, v, h3, (hb.block _ (heap_lt h4)).trans h4, ownsRow_below h5 hb⟩

end Go.Proofs.YtbjbgdnjcppjhaaGreatDoor.wrt

/-
  first.writer: what it holds as a text; what put does to it. Conditions: as each theorem says. By an AI agent.
-/
namespace Go.Proofs.YtbjbgdnjcppjhaaGreatDoor.wrt
open Go.RowKit
set_option linter.unusedVariables false
set_option linter.unusedSimpArgs false

set_option maxRecDepth 100000 in
set_option maxHeartbeats 2000000 in
theorem string_any (m b : Nat) (l : List UInt8) (w : World) (h : Bld m b (Lib.byteCells l) w) (h0 : l ≠ []) :
    Calls Tryz.prog 53 #[.pointer (some ⟨b, 0, none⟩)] w fun e w' => e = .returned (.string ⟨l.toArray⟩) ∧ Below m w w' := by
  obtain ⟨hbm, hm, p, v, hp, hbk, hown⟩ := h
  have hl0 : l.length ≠ 0 := by simpa using h0
  rw [Lib.byteCells_length] at hown
  obtain ⟨g, cap, cur, rfl, hbg, hg, hnc, hcm, hcs, htake⟩ : ∃ g cap cur, v = .slice (some ⟨g, 0, none⟩) l.length cap ∧ m ≤ g ∧ w.heap[g]? = some (.cells cur ByteT (0, 0)) ∧ l.length ≤ cap ∧ cap ≤ maxLen ∧ cur.size = cap * 1 ∧ cur.toList.take (l.length * 1) = Lib.byteCells l := by
    rcases hown.2 with ⟨_, hz⟩ | h
    · exact absurd hz hl0
    · exact h
  have c1 : w.drew.cell? ⟨b, 1, none⟩ = some (.slice (some ⟨g, 0, none⟩) l.length cap) := by
    have : w.drew.heap[b]? = some (.cells #[p, .slice (some ⟨g, 0, none⟩) l.length cap] WrtT (0, 0)) := hbk
    rw [Lib.cell_of_heap this]; rfl
  have hSD : (Builtin.unsafeSliceData_ #[88] 145 #[.slice (some ⟨g, 0, none⟩) l.length cap]).run Tryz.prog w.drew = .ok (.pointer (some ⟨g, 0, none⟩)) w.drew :=
    Lib.run_unsafeSliceData_row _ _ _ _ _ _ (by omega)
  have hUS : (Builtin.unsafeString_ #[145, 3] 9 #[.pointer (some ⟨g, 0, none⟩), .int .i64 l.length]).run Tryz.prog w.drew = .ok (.string ⟨l.toArray⟩) (w.drew.freeze ⟨g, 0, none⟩ l.length) := by
    refine Lib.run_unsafeString_row w.drew 145 3 9 ByteT Tryz.underlying145 (by kernel_rfl) g cur.size (by have hg' : w.drew.heap[g]? = some (.cells cur ByteT (0, 0)) := hg; simp [World.shape?, hg']) l h0 (by omega) (by unfold maxLen at hcm; omega) ?_
    intro j x hx
    exact hown.cells (g := g) rfl j (.int .u8 x.toNat) (by simp [Lib.byteCells, hx])
  have HG := Lib.hid hbg
  clear hbk hown hg htake hp
  go_enter Tryz.func53, Tryz.ntmps53
  go_wp2_with fail
  go_region
  all_goals (go_wp2_with fail; go_ret; exact ⟨rfl, Lib.below_freeze (Below.drew (Below.refl m w)) (p := ⟨g, 0, none⟩) HG.out _⟩)

theorem keep_of_below {m b : Nat} {w w' : World} (h : Below w.heap.size w w') : BKeep m b w w' := ⟨h.os, h.tape, h.output, h.size, fun k hk _ _ => h.block k hk⟩
theorem byteCells_append (a c : List UInt8) : Lib.byteCells (a ++ c) = Lib.byteCells a ++ Lib.byteCells c := by simp [Lib.byteCells]

set_option maxRecDepth 100000 in
set_option maxHeartbeats 2000000 in
theorem put_any (m b : Nat) (bs : List UInt8) (n : Nat) (hn : n < 18446744073709551616) (size : Nat) (hs : size = 1 ∨ size = 4 ∨ size = 8) (w : World) (h : Bld m b (Lib.byteCells bs) w) (hlen : bs.length ≤ 1099511627776) :
    Calls Tryz.prog 50 #[.pointer (some ⟨b, 0, none⟩), .int .u64 n, .int .i64 size] w fun x w' => x = .returned (.tuple #[]) ∧ Bld m b (Lib.byteCells (bs ++ fixL size n)) w' ∧ BKeep m b w w' := by
  have HF := Lib.hid (fun W => fixed_any n hn size hs W)
  have hfl := fixL_length size n
  have HH := Lib.hid h
  clear h
  generalize fixL size n = z at *
  go_enter Tryz.func50, Tryz.ntmps50
  go_wp2_with fail
  refine region_D (fun _ => True) [] 7 (by kernel_rfl) (by rfl) ?_
  refine takeD (i := 0) (v := .pointer (some ⟨b, 0, none⟩)) (by rfl) (by kernel_rfl) (fun _ _ _ h => h) (by rfl) (fun u hu => by go_simp) trivial ?_
  simp only [Act.put, List.setIfInBounds_toArray, List.set_cons_zero, List.set_cons_succ]
  refine takeD (i := 1) (v := .pointer (some ⟨b, 0, none⟩)) (by rfl) (by kernel_rfl) (fun _ _ _ h => h) (by rfl) (fun u hu => by go_simp) trivial ?_
  simp only [Act.put, List.setIfInBounds_toArray, List.set_cons_zero, List.set_cons_succ]
  refine takeD (i := 2) (v := .pointer (some ⟨b, 0, none⟩)) (by rfl) (by kernel_rfl) (fun _ _ _ h => h) (by rfl) (fun u hu => by go_simp) trivial ?_
  simp only [Act.put, List.setIfInBounds_toArray, List.set_cons_zero, List.set_cons_succ]
  refine takeD (i := 3) (v := .int .u64 n) (by rfl) (by kernel_rfl) (fun _ _ _ h => h) (by rfl) (fun u hu => by go_simp) trivial ?_
  simp only [Act.put, List.setIfInBounds_toArray, List.set_cons_zero, List.set_cons_succ]
  refine takeD (i := 4) (v := .int .i64 size) (by rfl) (by kernel_rfl) (fun _ _ _ h => h) (by rfl) (fun u hu => by go_simp) trivial ?_
  simp only [Act.put, List.setIfInBounds_toArray, List.set_cons_zero, List.set_cons_succ]
  refine oneD (i := 5) (by rfl) (by kernel_rfl) (by rfl) ?_
  go_simp
  refine (HF.out _).mono ?_
  rintro _ w1 ⟨rfl, hb1⟩
  try simp only [Act.put, List.setIfInBounds_toArray, List.set_cons_zero, List.set_cons_succ]
  have hb1w : Below w.heap.size w w1 := ⟨hb1.os, hb1.tape, hb1.output, hb1.size, hb1.block⟩
  have h1 := HH.out.below hb1w
  refine oneD (i := 6) (by rfl) (by kernel_rfl) (by rfl) ?_
  go_simp
  refine (writeString_any m b _ ⟨z.toArray⟩ w1 h1 (by rw [Lib.byteCells_length]; show _ + z.length ≤ _; omega)).mono ?_
  rintro _ w2 ⟨rfl, h2, hk2⟩
  refine ⟨by kernel_rfl, NoPanic.normal ?_⟩
  try simp only [Act.put, List.setIfInBounds_toArray, List.set_cons_zero, List.set_cons_succ]
  have h3 : Bld m b (Lib.byteCells (bs ++ z)) w2 := by
    rw [byteCells_append]
    exact h2
  have H3 := Lib.hid h3
  have HK := Lib.hid ((keep_of_below hb1w).trans hk2)
  clear h1 h2 h3 hk2 hb1 hb1w
  go_wp2_with fail
  exact ⟨rfl, .tuple #[], results_none rfl _ _ _, rfl, H3.out, HK.out⟩

end Go.Proofs.YtbjbgdnjcppjhaaGreatDoor.wrt

/-
  first.Put over this translation. Conditions: the entry is right and small. By an AI agent.
-/
namespace Go.Proofs.YtbjbgdnjcppjhaaGreatDoor
open Go.RowKit
set_option linter.unusedVariables false
set_option linter.unusedSimpArgs false

theorem wrap_nat (n : Nat) (h : n < 9223372036854775808) : IntKind.i64.wrap (n : Int) = (n : Int) := by
  have : IntKind.i64.wrap (n : Int) = if (n : Int) % 18446744073709551616 ≥ 9223372036854775808 then (n : Int) % 18446744073709551616 - 18446744073709551616 else (n : Int) % 18446744073709551616 := by simp [IntKind.wrap, IntKind.signed, IntKind.bits]
  rw [this]
  split <;> omega
theorem repeat_zero (c : Nat) : Lib.repeatL (⟨#[0]⟩ : ByteArray).data.toList c = List.replicate c 0 := by
  induction c with
  | zero => rfl
  | succ c ih => rw [Lib.repeatL, ih, List.replicate_succ]; rfl
theorem notBytes_of {w : World} {s : Nat} {cs : Array Value} {T : TypeId} {fr : Nat × Nat} (h : w.heap[s]? = some (.cells cs T fr)) (hT : T ≠ ByteT) : NotBytes w s := by
  intro cs' fr' h2
  rw [h] at h2
  simp only [Option.some.injEq, Obj.cells.injEq] at h2
  exact hT h2.2.1
theorem take_flat (f : Nat → List UInt8) (V : List Nat) (k : Nat) (h : k < V.length) : (V.take (k + 1)).flatMap f = (V.take k).flatMap f ++ f (V.getD k 0) := by
  rw [List.take_succ_eq_append_getElem h, List.flatMap_append]
  simp [h]

set_option maxRecDepth 100000 in
set_option maxHeartbeats 4000000 in
theorem firstPut_nat (t i k c s bl mn n l : Nat) (d o : List UInt8) (ht : t < 18446744073709551616) (hi : i < 18446744073709551616) (hk : k < 1000) (hc : c < 18446744073709551616) (hs : s < 18446744073709551616) (hb : bl < 18446744073709551616) (hm : mn < 18446744073709551616) (hn : n < 1000) (hl : l < 1000) (hd : d.length ≤ 64)
    (hwf : Ent.wf ⟨t, i, k, c, s, bl, mn, n, l, ⟨d.toArray⟩, ⟨o.toArray⟩⟩) (hr : rightB ⟨t, i, k, c, s, bl, mn, n, l, ⟨d.toArray⟩, ⟨o.toArray⟩⟩ = true) (hlv : levelI k = 1) (w : World) :
    Calls Tryz.prog 19 #[.agg #[.int .u64 t, .int .u64 i, .int .i64 k, .int .u64 c, .int .u64 s, .int .u64 bl, .int .u64 mn, .int .i64 n, .int .i64 l, .string ⟨d.toArray⟩, .string ⟨o.toArray⟩]] w fun x w' =>
      x = .returned (.tuple #[.string ⟨(fixL 1 k ++ (([t, i, c, s].flatMap (fixL 8)) ++ (fixL 4 bl ++ (fixL 4 mn ++ (([n, l, d.length].flatMap (fixL 1)) ++ (d ++ List.replicate (66 - d.length) 0)))))).toArray⟩, .bool true]) ∧ Below w.heap.size w w' := by
  have hright := fun W => right_any ⟨t, i, k, c, s, bl, mn, n, l, ⟨d.toArray⟩, ⟨o.toArray⟩⟩ hwf W
  have hlevel := fun W => level_any ⟨t, i, k, c, s, bl, mn, n, l, ⟨d.toArray⟩, ⟨o.toArray⟩⟩ W
  rw [hr] at hright
  simp only [hlv, Ent.val, Ent.cells] at hright hlevel
  have HR := Lib.hid hright
  have HL := Lib.hid hlevel
  clear hright hlevel hr hwf hlv
  have hbox := heap_alloc_new w (.cells #[.int .u64 t, .int .u64 i, .int .i64 k, .int .u64 c, .int .u64 s, .int .u64 bl, .int .u64 mn, .int .i64 n, .int .i64 l, .string ⟨d.toArray⟩, .string ⟨o.toArray⟩] EntT)
  have HBOX := Lib.hid hbox
  clear hbox
  go_enter Tryz.func19, Tryz.ntmps19
  go_wp2_with fail
  refine (HR.out _).mono ?_
  rintro x w1 ⟨rfl, hb1⟩
  have HBX1 := Lib.hid ((hb1.block w.heap.size (by simp)).trans HBOX.out)
  have HB1 := Lib.hid (((Below.refl _ _).alloc (Nat.le_refl _) _).trans (hb1.mono (by simp)) : Below w.heap.size w w1)
  clear hb1 HR
  have c0 : w1.cell? ⟨w.heap.size, 0, none⟩ = some (.int .u64 t) := Lib.cell_of_heap HBX1.out 0
  have c1 : w1.cell? ⟨w.heap.size, 1, none⟩ = some (.int .u64 i) := Lib.cell_of_heap HBX1.out 1
  have c2 : w1.cell? ⟨w.heap.size, 2, none⟩ = some (.int .i64 k) := Lib.cell_of_heap HBX1.out 2
  have c3 : w1.cell? ⟨w.heap.size, 3, none⟩ = some (.int .u64 c) := Lib.cell_of_heap HBX1.out 3
  have c4 : w1.cell? ⟨w.heap.size, 4, none⟩ = some (.int .u64 s) := Lib.cell_of_heap HBX1.out 4
  have c5 : w1.cell? ⟨w.heap.size, 5, none⟩ = some (.int .u64 bl) := Lib.cell_of_heap HBX1.out 5
  have c6 : w1.cell? ⟨w.heap.size, 6, none⟩ = some (.int .u64 mn) := Lib.cell_of_heap HBX1.out 6
  have c7 : w1.cell? ⟨w.heap.size, 7, none⟩ = some (.int .i64 n) := Lib.cell_of_heap HBX1.out 7
  have c8 : w1.cell? ⟨w.heap.size, 8, none⟩ = some (.int .i64 l) := Lib.cell_of_heap HBX1.out 8
  have c9 : w1.cell? ⟨w.heap.size, 9, none⟩ = some (.string ⟨d.toArray⟩) := Lib.cell_of_heap HBX1.out 9
  have c10 : w1.cell? ⟨w.heap.size, 10, none⟩ = some (.string ⟨o.toArray⟩) := Lib.cell_of_heap HBX1.out 10
  go_wp2_with fail
  refine (HL.out _).mono ?_
  rintro x w2 ⟨rfl, hb2⟩
  have HBX2 := Lib.hid ((hb2.block w.heap.size (heap_lt HBX1.out)).trans HBX1.out)
  have HB2 := Lib.hid (HB1.out.trans (hb2.mono HB1.out.size) : Below w.heap.size w w2)
  have hlt2 : w.heap.size < w2.heap.size := heap_lt HBX2.out
  clear hb2 HL c0 c1 c2 c3 c4 c5 c6 c7 c8 c9 c10 HBX1 HB1
  have c0 : (w2.alloc (.cells #[.pointer none, .slice none 0 0] wrt.WrtT)).cell? ⟨w.heap.size, 0, none⟩ = some (.int .u64 t) := cell_al (Lib.cell_of_heap HBX2.out 0) _
  have c1 : (w2.alloc (.cells #[.pointer none, .slice none 0 0] wrt.WrtT)).cell? ⟨w.heap.size, 1, none⟩ = some (.int .u64 i) := cell_al (Lib.cell_of_heap HBX2.out 1) _
  have c2 : (w2.alloc (.cells #[.pointer none, .slice none 0 0] wrt.WrtT)).cell? ⟨w.heap.size, 2, none⟩ = some (.int .i64 k) := cell_al (Lib.cell_of_heap HBX2.out 2) _
  have c3 : (w2.alloc (.cells #[.pointer none, .slice none 0 0] wrt.WrtT)).cell? ⟨w.heap.size, 3, none⟩ = some (.int .u64 c) := cell_al (Lib.cell_of_heap HBX2.out 3) _
  have c4 : (w2.alloc (.cells #[.pointer none, .slice none 0 0] wrt.WrtT)).cell? ⟨w.heap.size, 4, none⟩ = some (.int .u64 s) := cell_al (Lib.cell_of_heap HBX2.out 4) _
  have c5 : (w2.alloc (.cells #[.pointer none, .slice none 0 0] wrt.WrtT)).cell? ⟨w.heap.size, 5, none⟩ = some (.int .u64 bl) := cell_al (Lib.cell_of_heap HBX2.out 5) _
  have c6 : (w2.alloc (.cells #[.pointer none, .slice none 0 0] wrt.WrtT)).cell? ⟨w.heap.size, 6, none⟩ = some (.int .u64 mn) := cell_al (Lib.cell_of_heap HBX2.out 6) _
  have c7 : (w2.alloc (.cells #[.pointer none, .slice none 0 0] wrt.WrtT)).cell? ⟨w.heap.size, 7, none⟩ = some (.int .i64 n) := cell_al (Lib.cell_of_heap HBX2.out 7) _
  have c8 : (w2.alloc (.cells #[.pointer none, .slice none 0 0] wrt.WrtT)).cell? ⟨w.heap.size, 8, none⟩ = some (.int .i64 l) := cell_al (Lib.cell_of_heap HBX2.out 8) _
  have c9 : (w2.alloc (.cells #[.pointer none, .slice none 0 0] wrt.WrtT)).cell? ⟨w.heap.size, 9, none⟩ = some (.string ⟨d.toArray⟩) := cell_al (Lib.cell_of_heap HBX2.out 9) _
  have c10 : (w2.alloc (.cells #[.pointer none, .slice none 0 0] wrt.WrtT)).cell? ⟨w.heap.size, 10, none⟩ = some (.string ⟨o.toArray⟩) := cell_al (Lib.cell_of_heap HBX2.out 10) _
  have HW0 := Lib.hid (wrt.Bld.fresh w2)
  have HA2 := Lib.hid ((Below.refl w2.heap.size w2).alloc (Nat.le_refl _) (.cells #[.pointer none, .slice none 0 0] wrt.WrtT))
  go_wp2_with fail
  refine (wrt.put_any (w2.heap.size + 1) w2.heap.size [] k (by omega) 1 (.inl rfl) _ HW0.out (by simp)).mono ?_
  rintro x w3 ⟨rfl, hb3, hk3⟩
  rw [List.nil_append] at hb3
  have HBX3 := Lib.hid ((hk3.block w.heap.size (by simp; omega) (by omega) (.inl (by omega))).trans ((HA2.out.block _ hlt2).trans HBX2.out))
  have HW3 := Lib.hid hb3
  have hs3 : w2.heap.size + 1 ≤ w3.heap.size := by have := hk3.size; simpa using this
  have HB3 := Lib.hid (HB2.out.trans ((HA2.out.mono (by omega)).trans (hk3.below (by omega) (by omega) (by simp; omega))) : Below w.heap.size w w3)
  clear hb3 hk3 c0 c1 c2 c3 c4 c5 c6 c7 c8 c9 c10 HW0 HA2 HBX2 HB2
  have c0 : w3.cell? ⟨w.heap.size, 0, none⟩ = some (.int .u64 t) := Lib.cell_of_heap HBX3.out 0
  have c1 : w3.cell? ⟨w.heap.size, 1, none⟩ = some (.int .u64 i) := Lib.cell_of_heap HBX3.out 1
  have c2 : w3.cell? ⟨w.heap.size, 2, none⟩ = some (.int .i64 k) := Lib.cell_of_heap HBX3.out 2
  have c3 : w3.cell? ⟨w.heap.size, 3, none⟩ = some (.int .u64 c) := Lib.cell_of_heap HBX3.out 3
  have c4 : w3.cell? ⟨w.heap.size, 4, none⟩ = some (.int .u64 s) := Lib.cell_of_heap HBX3.out 4
  have c5 : w3.cell? ⟨w.heap.size, 5, none⟩ = some (.int .u64 bl) := Lib.cell_of_heap HBX3.out 5
  have c6 : w3.cell? ⟨w.heap.size, 6, none⟩ = some (.int .u64 mn) := Lib.cell_of_heap HBX3.out 6
  have c7 : w3.cell? ⟨w.heap.size, 7, none⟩ = some (.int .i64 n) := Lib.cell_of_heap HBX3.out 7
  have c8 : w3.cell? ⟨w.heap.size, 8, none⟩ = some (.int .i64 l) := Lib.cell_of_heap HBX3.out 8
  have c9 : w3.cell? ⟨w.heap.size, 9, none⟩ = some (.string ⟨d.toArray⟩) := Lib.cell_of_heap HBX3.out 9
  have c10 : w3.cell? ⟨w.heap.size, 10, none⟩ = some (.string ⟨o.toArray⟩) := Lib.cell_of_heap HBX3.out 10
  go_wp2_with fail
  have HW3b := Lib.hid (HW3.out.below ((Below.refl w3.heap.size w3).alloc (Nat.le_refl _) (.cells #[.int .u64 t, .int .u64 i, .int .u64 c, .int .u64 s] 23)))
  have HB3b := Lib.hid (HB3.out.trans (((Below.refl w3.heap.size w3).alloc (Nat.le_refl _) (.cells #[.int .u64 t, .int .u64 i, .int .u64 c, .int .u64 s] 23)).mono HB3.out.size) : Below w.heap.size w (w3.alloc (.cells #[.int .u64 t, .int .u64 i, .int .u64 c, .int .u64 s] 23)))
  have HBX3b := Lib.hid ((Below.heap_alloc w3 (.cells #[.int .u64 t, .int .u64 i, .int .u64 c, .int .u64 s] 23) w.heap.size (by omega)).trans HBX3.out)
  clear c0 c1 c2 c3 c4 c5 c6 c7 c8 c9 c10 HW3 HB3 HBX3
  go_loopw [7, 34] (fun vx ix wr => ∃ (j : Nat), j ≤ 4 ∧ ix = .int .i64 j ∧ wrt.Bld (w2.heap.size + 1) w2.heap.size (Lib.byteCells (fixL 1 k ++ ([t, i, c, s].take j).flatMap (fixL 8))) wr ∧ wr.heap[w3.heap.size]? = some (.cells #[.int .u64 t, .int .u64 i, .int .u64 c, .int .u64 s] 23 (0, 0)) ∧ wr.heap[w.heap.size]? = some (.cells #[.int .u64 t, .int .u64 i, .int .i64 k, .int .u64 c, .int .u64 s, .int .u64 bl, .int .u64 mn, .int .i64 n, .int .i64 l, .string ⟨d.toArray⟩, .string ⟨o.toArray⟩] EntT (0, 0)) ∧ Below w.heap.size w wr) (fun vx ix _ => 4 - (intOf ix).toNat)
  case atStart => exact ⟨0, by decide, rfl, by rw [List.take_zero, List.flatMap_nil, List.append_nil]; exact HW3b.out, heap_alloc_new w3 _, HBX3b.out, HB3b.out⟩
  case round =>
    obtain ⟨j, hj, rfl, hbld, hsl, hbx, hbr⟩ := hrel
    by_cases hlt : j < 4
    · have hcell : wr.cell? ⟨w3.heap.size, j, none⟩ = some (.int .u64 (([t, i, c, s].getD j 0 : Nat) : Int)) := by
        rw [Lib.cell_of_heap hsl]
        match j, hlt with
        | 0, _ => rfl
        | 1, _ => rfl
        | 2, _ => rfl
        | 3, _ => rfl
        | j + 4, h => exact absurd h (by omega)
      have hbd : [t, i, c, s].getD j 0 < 18446744073709551616 := by
        match j, hlt with
        | 0, _ => exact ht
        | 1, _ => exact hi
        | 2, _ => exact hc
        | 3, _ => exact hs
        | j + 4, h => exact absurd h (by omega)
      have hfl := take_flat (fixL 8) [t, i, c, s] j hlt
      have HFL := Lib.hid hfl
      have HBLD := Lib.hid hbld
      have HSL := Lib.hid hsl
      have HBX := Lib.hid hbx
      have HBR := Lib.hid hbr
      have hlen : (fixL 1 k ++ ([t, i, c, s].take j).flatMap (fixL 8)).length ≤ 1000 := by
        match j, hlt with
        | 0, _ => simp [fixL_length]
        | 1, _ => simp [fixL_length]
        | 2, _ => simp [fixL_length]
        | 3, _ => simp [fixL_length]
        | j + 4, h => exact absurd h (by omega)
      clear hfl hbld hsl hbx hbr
      generalize [t, i, c, s].getD j 0 = vj at *
      go_wp2_with fail
      refine (wrt.put_any (w2.heap.size + 1) w2.heap.size _ vj hbd 8 (.inr (.inr rfl)) _ HBLD.out (by omega)).mono ?_
      rintro x w4 ⟨rfl, hb4, hk4⟩
      rw [List.append_assoc, ← HFL.out] at hb4
      have hsl4 := (hk4.block w3.heap.size (heap_lt HSL.out) (by omega) (.inr (notBytes_of HSL.out (by decide)))).trans HSL.out
      have hbx4 := (hk4.block w.heap.size (heap_lt HBX.out) (by omega) (.inl (by omega))).trans HBX.out
      have hbr4 : Below w.heap.size w w4 := HBR.out.trans (hk4.below (by omega) (by omega) HBR.out.size)
      have H1 := Lib.hid hb4
      have H2 := Lib.hid hsl4
      have H3 := Lib.hid hbx4
      have H4 := Lib.hid hbr4
      clear hb4 hk4 hsl4 hbx4 hbr4 hcell
      go_wp2_with fail
      go_roundw
      case rel => exact ⟨j + 1, by omega, by go_num, H1.out, H2.out, H3.out, H4.out⟩
      case measure => simp [intOf]; omega
    · obtain rfl : j = 4 := by omega
      have hbld : wrt.Bld (w2.heap.size + 1) w2.heap.size (Lib.byteCells (fixL 1 k ++ [t, i, c, s].flatMap (fixL 8))) wr := hbld
      have HBLD := Lib.hid hbld
      have HBX := Lib.hid hbx
      have HBR := Lib.hid hbr
      have hl4 : (fixL 1 k ++ [t, i, c, s].flatMap (fixL 8)).length = 33 := by simp [fixL_length]
      clear hbld hsl hbx hbr
      have c0 : wr.cell? ⟨w.heap.size, 0, none⟩ = some (.int .u64 t) := Lib.cell_of_heap HBX.out 0
      have c1 : wr.cell? ⟨w.heap.size, 1, none⟩ = some (.int .u64 i) := Lib.cell_of_heap HBX.out 1
      have c2 : wr.cell? ⟨w.heap.size, 2, none⟩ = some (.int .i64 k) := Lib.cell_of_heap HBX.out 2
      have c3 : wr.cell? ⟨w.heap.size, 3, none⟩ = some (.int .u64 c) := Lib.cell_of_heap HBX.out 3
      have c4 : wr.cell? ⟨w.heap.size, 4, none⟩ = some (.int .u64 s) := Lib.cell_of_heap HBX.out 4
      have c5 : wr.cell? ⟨w.heap.size, 5, none⟩ = some (.int .u64 bl) := Lib.cell_of_heap HBX.out 5
      have c6 : wr.cell? ⟨w.heap.size, 6, none⟩ = some (.int .u64 mn) := Lib.cell_of_heap HBX.out 6
      have c7 : wr.cell? ⟨w.heap.size, 7, none⟩ = some (.int .i64 n) := Lib.cell_of_heap HBX.out 7
      have c8 : wr.cell? ⟨w.heap.size, 8, none⟩ = some (.int .i64 l) := Lib.cell_of_heap HBX.out 8
      have c9 : wr.cell? ⟨w.heap.size, 9, none⟩ = some (.string ⟨d.toArray⟩) := Lib.cell_of_heap HBX.out 9
      have c10 : wr.cell? ⟨w.heap.size, 10, none⟩ = some (.string ⟨o.toArray⟩) := Lib.cell_of_heap HBX.out 10
      go_wp2_with fail
      refine (wrt.put_any (w2.heap.size + 1) w2.heap.size _ bl hb 4 (.inr (.inl rfl)) _ HBLD.out (by omega)).mono ?_
      rintro x w5 ⟨rfl, hb5, hk5⟩
      have HBX5 := Lib.hid ((hk5.block w.heap.size (heap_lt HBX.out) (by omega) (.inl (by omega))).trans HBX.out)
      have HBR5 := Lib.hid (HBR.out.trans (hk5.below (by omega) (by omega) HBR.out.size) : Below w.heap.size w w5)
      have HBLD5 := Lib.hid hb5
      clear hb5 hk5 c0 c1 c2 c3 c4 c5 c6 c7 c8 c9 c10 HBX HBR HBLD
      have c0 : w5.cell? ⟨w.heap.size, 0, none⟩ = some (.int .u64 t) := Lib.cell_of_heap HBX5.out 0
      have c1 : w5.cell? ⟨w.heap.size, 1, none⟩ = some (.int .u64 i) := Lib.cell_of_heap HBX5.out 1
      have c2 : w5.cell? ⟨w.heap.size, 2, none⟩ = some (.int .i64 k) := Lib.cell_of_heap HBX5.out 2
      have c3 : w5.cell? ⟨w.heap.size, 3, none⟩ = some (.int .u64 c) := Lib.cell_of_heap HBX5.out 3
      have c4 : w5.cell? ⟨w.heap.size, 4, none⟩ = some (.int .u64 s) := Lib.cell_of_heap HBX5.out 4
      have c5 : w5.cell? ⟨w.heap.size, 5, none⟩ = some (.int .u64 bl) := Lib.cell_of_heap HBX5.out 5
      have c6 : w5.cell? ⟨w.heap.size, 6, none⟩ = some (.int .u64 mn) := Lib.cell_of_heap HBX5.out 6
      have c7 : w5.cell? ⟨w.heap.size, 7, none⟩ = some (.int .i64 n) := Lib.cell_of_heap HBX5.out 7
      have c8 : w5.cell? ⟨w.heap.size, 8, none⟩ = some (.int .i64 l) := Lib.cell_of_heap HBX5.out 8
      have c9 : w5.cell? ⟨w.heap.size, 9, none⟩ = some (.string ⟨d.toArray⟩) := Lib.cell_of_heap HBX5.out 9
      have c10 : w5.cell? ⟨w.heap.size, 10, none⟩ = some (.string ⟨o.toArray⟩) := Lib.cell_of_heap HBX5.out 10
      go_wp2_with fail
      refine (wrt.put_any (w2.heap.size + 1) w2.heap.size _ mn hm 4 (.inr (.inl rfl)) _ HBLD5.out (by rw [List.length_append, fixL_length]; omega)).mono ?_
      rintro x w6 ⟨rfl, hb6, hk6⟩
      have HBX6 := Lib.hid ((hk6.block w.heap.size (heap_lt HBX5.out) (by omega) (.inl (by omega))).trans HBX5.out)
      have HBR6 := Lib.hid (HBR5.out.trans (hk6.below (by omega) (by omega) HBR5.out.size) : Below w.heap.size w w6)
      have HBLD6 := Lib.hid hb6
      clear hb6 hk6 c0 c1 c2 c3 c4 c5 c6 c7 c8 c9 c10 HBX5 HBR5 HBLD5
      have c0 : w6.cell? ⟨w.heap.size, 0, none⟩ = some (.int .u64 t) := Lib.cell_of_heap HBX6.out 0
      have c1 : w6.cell? ⟨w.heap.size, 1, none⟩ = some (.int .u64 i) := Lib.cell_of_heap HBX6.out 1
      have c2 : w6.cell? ⟨w.heap.size, 2, none⟩ = some (.int .i64 k) := Lib.cell_of_heap HBX6.out 2
      have c3 : w6.cell? ⟨w.heap.size, 3, none⟩ = some (.int .u64 c) := Lib.cell_of_heap HBX6.out 3
      have c4 : w6.cell? ⟨w.heap.size, 4, none⟩ = some (.int .u64 s) := Lib.cell_of_heap HBX6.out 4
      have c5 : w6.cell? ⟨w.heap.size, 5, none⟩ = some (.int .u64 bl) := Lib.cell_of_heap HBX6.out 5
      have c6 : w6.cell? ⟨w.heap.size, 6, none⟩ = some (.int .u64 mn) := Lib.cell_of_heap HBX6.out 6
      have c7 : w6.cell? ⟨w.heap.size, 7, none⟩ = some (.int .i64 n) := Lib.cell_of_heap HBX6.out 7
      have c8 : w6.cell? ⟨w.heap.size, 8, none⟩ = some (.int .i64 l) := Lib.cell_of_heap HBX6.out 8
      have c9 : w6.cell? ⟨w.heap.size, 9, none⟩ = some (.string ⟨d.toArray⟩) := Lib.cell_of_heap HBX6.out 9
      have c10 : w6.cell? ⟨w.heap.size, 10, none⟩ = some (.string ⟨o.toArray⟩) := Lib.cell_of_heap HBX6.out 10
      go_wp2_with fail
      generalize hP : fixL 1 k ++ [t, i, c, s].flatMap (fixL 8) ++ fixL 4 bl ++ fixL 4 mn = P at *
      have hPl : P.length = 41 := by rw [← hP]; simp [fixL_length]
      have HB6b := Lib.hid (HBLD6.out.below ((Below.refl w6.heap.size w6).alloc (Nat.le_refl _) (.cells #[.int .i64 n, .int .i64 l, .int .i64 d.length] 3)))
      have HR6b := Lib.hid (HBR6.out.trans (((Below.refl w6.heap.size w6).alloc (Nat.le_refl _) (.cells #[.int .i64 n, .int .i64 l, .int .i64 d.length] 3)).mono HBR6.out.size) : Below w.heap.size w (w6.alloc (.cells #[.int .i64 n, .int .i64 l, .int .i64 d.length] 3)))
      have HX6b := Lib.hid ((Below.heap_alloc w6 (.cells #[.int .i64 n, .int .i64 l, .int .i64 d.length] 3) w.heap.size (heap_lt HBX6.out)).trans HBX6.out)
      have hb26 : w2.heap.size + 1 ≤ w6.heap.size := HBLD6.out.2.1
      clear c0 c1 c2 c3 c4 c5 c6 c7 c8 c9 c10 HBLD6 HBR6 HBX6
      go_loopw [9, 59] (fun vx ix wr => ∃ (j : Nat), j ≤ 3 ∧ ix = .int .i64 j ∧ wrt.Bld (w2.heap.size + 1) w2.heap.size (Lib.byteCells (P ++ ([n, l, d.length].take j).flatMap (fixL 1))) wr ∧ wr.heap[w6.heap.size]? = some (.cells #[.int .i64 n, .int .i64 l, .int .i64 d.length] 3 (0, 0)) ∧ wr.heap[w.heap.size]? = some (.cells #[.int .u64 t, .int .u64 i, .int .i64 k, .int .u64 c, .int .u64 s, .int .u64 bl, .int .u64 mn, .int .i64 n, .int .i64 l, .string ⟨d.toArray⟩, .string ⟨o.toArray⟩] EntT (0, 0)) ∧ Below w.heap.size w wr) (fun vx ix _ => 3 - (intOf ix).toNat)
      case atStart => exact ⟨0, by decide, rfl, by rw [List.take_zero, List.flatMap_nil, List.append_nil]; exact HB6b.out, heap_alloc_new w6 _, HX6b.out, HR6b.out⟩
      case round =>
        obtain ⟨j, hj, rfl, hbld, hsl, hbx, hbr⟩ := hrel
        by_cases hlt : j < 3
        · have hcell : wr.cell? ⟨w6.heap.size, j, none⟩ = some (.int .i64 (([n, l, d.length].getD j 0 : Nat) : Int)) := by
            rw [Lib.cell_of_heap hsl]
            match j, hlt with
            | 0, _ => rfl
            | 1, _ => rfl
            | 2, _ => rfl
            | j + 3, h => exact absurd h (by omega)
          have hbd : [n, l, d.length].getD j 0 < 1000 := by
            match j, hlt with
            | 0, _ => exact hn
            | 1, _ => exact hl
            | 2, _ => show d.length < 1000; omega
            | j + 3, h => exact absurd h (by omega)
          have hfl := take_flat (fixL 1) [n, l, d.length] j hlt
          have HFL := Lib.hid hfl
          have HBLD := Lib.hid hbld
          have HSL := Lib.hid hsl
          have HBX := Lib.hid hbx
          have HBR := Lib.hid hbr
          have hlen : (P ++ ([n, l, d.length].take j).flatMap (fixL 1)).length ≤ 1000 := by
            match j, hlt with
            | 0, _ => simp [fixL_length, hPl]
            | 1, _ => simp [fixL_length, hPl]
            | 2, _ => simp [fixL_length, hPl]
            | j + 3, h => exact absurd h (by omega)
          clear hfl hbld hsl hbx hbr
          generalize [n, l, d.length].getD j 0 = vj at *
          go_wp2_with fail
          refine (wrt.put_any (w2.heap.size + 1) w2.heap.size _ vj (by omega) 1 (.inl rfl) _ HBLD.out (by omega)).mono ?_
          rintro x w7 ⟨rfl, hb7, hk7⟩
          rw [List.append_assoc, ← HFL.out] at hb7
          have hsl7 := (hk7.block w6.heap.size (heap_lt HSL.out) (by omega) (.inr (notBytes_of HSL.out (by decide)))).trans HSL.out
          have hbx7 := (hk7.block w.heap.size (heap_lt HBX.out) (by omega) (.inl (by omega))).trans HBX.out
          have hbr7 : Below w.heap.size w w7 := HBR.out.trans (hk7.below (by omega) (by omega) HBR.out.size)
          have H1 := Lib.hid hb7
          have H2 := Lib.hid hsl7
          have H3 := Lib.hid hbx7
          have H4 := Lib.hid hbr7
          clear hb7 hk7 hsl7 hbx7 hbr7 hcell
          go_wp2_with fail
          go_roundw
          case rel => exact ⟨j + 1, by omega, by go_num, H1.out, H2.out, H3.out, H4.out⟩
          case measure => simp [intOf]; omega
        · obtain rfl : j = 3 := by omega
          have hbld : wrt.Bld (w2.heap.size + 1) w2.heap.size (Lib.byteCells (P ++ [n, l, d.length].flatMap (fixL 1))) wr := hbld
          have hl3 : (P ++ [n, l, d.length].flatMap (fixL 1)).length = 44 := by simp [fixL_length, hPl]
          have HBLD := Lib.hid hbld
          have HBX := Lib.hid hbx
          have HBR := Lib.hid hbr
          have hc9 : wr.cell? ⟨w.heap.size, 9, none⟩ = some (.string ⟨d.toArray⟩) := Lib.cell_of_heap hbx 9
          clear hbld hsl hbx hbr
          generalize hQ : P ++ [n, l, d.length].flatMap (fixL 1) = Q at *
          go_wp2_with fail
          have hS0 : wr.drew.cell? ⟨w.heap.size, 9, none⟩ = some (.string ⟨d.toArray⟩) := hc9
          have hwrap : IntKind.i64.wrap (66 - (d.length : Int)) = ((66 - d.length : Nat) : Int) := by
            rw [show (66 : Int) - (d.length : Int) = ((66 - d.length : Nat) : Int) by omega]
            exact wrap_nat _ (by omega)
          refine region_D (fun u => u.cell? ⟨w.heap.size, 9, none⟩ = some (.string ⟨d.toArray⟩)) [] 10 (by kernel_rfl) (by rfl) ?_
          refine takeD (i := 0) (v := .pointer (some ⟨w2.heap.size, 0, none⟩)) (by rfl) (by kernel_rfl) (fun _ _ _ h => h) (by rfl) (fun u hu => by go_simp) hS0 ?_
          simp only [Act.put, List.setIfInBounds_toArray, List.set_cons_zero, List.set_cons_succ]
          refine takeD (i := 1) (v := .pointer (some ⟨w.heap.size, 9, none⟩)) (by rfl) (by kernel_rfl) (fun _ _ _ h => h) (by rfl) (fun u hu => by go_simp) hS0 ?_
          simp only [Act.put, List.setIfInBounds_toArray, List.set_cons_zero, List.set_cons_succ]
          refine takeD (i := 2) (v := .string ⟨d.toArray⟩) (by rfl) (by kernel_rfl) (fun _ _ _ h => h) (by rfl) (fun u hu => by go_simp) hS0 ?_
          simp only [Act.put, List.setIfInBounds_toArray, List.set_cons_zero, List.set_cons_succ]
          refine takeD (i := 3) (v := .pointer (some ⟨w.heap.size, 9, none⟩)) (by rfl) (by kernel_rfl) (fun _ _ _ h => h) (by rfl) (fun u hu => by go_simp) hS0 ?_
          simp only [Act.put, List.setIfInBounds_toArray, List.set_cons_zero, List.set_cons_succ]
          refine takeD (i := 4) (v := .string ⟨d.toArray⟩) (by rfl) (by kernel_rfl) (fun _ _ _ h => h) (by rfl) (fun u hu => by go_simp) hS0 ?_
          simp only [Act.put, List.setIfInBounds_toArray, List.set_cons_zero, List.set_cons_succ]
          refine takeD (i := 5) (v := .int .i64 d.length) (by rfl) (by kernel_rfl) (fun _ _ _ h => h) (by rfl) (fun u hu => by go_simp) hS0 ?_
          simp only [Act.put, List.setIfInBounds_toArray, List.set_cons_zero, List.set_cons_succ]
          refine takeD (i := 6) (v := .int .i64 ((66 - d.length : Nat) : Int)) (by rfl) (by kernel_rfl) (fun _ _ _ h => h) (by rfl) (fun u hu => by go_simp) hS0 ?_
          simp only [Act.put, List.setIfInBounds_toArray, List.set_cons_zero, List.set_cons_succ]
          have hbd : Below w.heap.size w wr.drew := ⟨HBR.out.os, HBR.out.tape, HBR.out.output, HBR.out.size, HBR.out.block⟩
          have hrp := fun W => Tryz.strings_Repeat ⟨#[0]⟩ (66 - d.length) W (by omega) (by show 1 * (66 - d.length) ≤ _; omega)
          rw [repeat_zero] at hrp
          refine oneD (i := 7) (by rfl) (by kernel_rfl) (by rfl) ?_
          go_simp
          refine (hrp _).mono ?_
          rintro _ w8 ⟨rfl, hb8⟩
          have hbd8 := hbd.trans (hb8.mono hbd.size)
          have hS8 : w8.cell? ⟨w.heap.size, 9, none⟩ = some (.string ⟨d.toArray⟩) := (World.cell?_of_block (w := wr.drew) (hb8.block w.heap.size (heap_lt HBX.out))).trans hS0
          refine ⟨hS8, ?_⟩
          try simp only [Act.put, List.setIfInBounds_toArray, List.set_cons_zero, List.set_cons_succ]
          have hzl : (List.replicate (66 - d.length) (0 : UInt8)).length = 66 - d.length := List.length_replicate
          have hnot : ¬ 9223372036854775807 < d.length + (List.replicate (66 - d.length) (0 : UInt8)).length := by omega
          have hnot2 : ¬ 9223372036854775807 < d.length + (66 - d.length) := by omega
          have hbw : Below wr.heap.size wr wr.drew := ⟨rfl, rfl, rfl, Nat.le_refl _, fun _ _ => rfl⟩
          have HBL8 := Lib.hid ((HBLD.out.below hbw).below hb8)
          generalize hz : List.replicate (66 - d.length) (0 : UInt8) = z at *
          refine oneD (i := 8) (by rfl) (by kernel_rfl) (by rfl) ?_
          go_simp
          first | refine ⟨hS8, ?_⟩ | skip
          try simp only [Act.put, List.setIfInBounds_toArray, List.set_cons_zero, List.set_cons_succ]
          refine oneD (i := 9) (by rfl) (by kernel_rfl) (by rfl) ?_
          go_simp
          refine (wrt.writeString_any (w2.heap.size + 1) w2.heap.size _ ⟨(d ++ z).toArray⟩ w8 HBL8.out (by rw [Lib.byteCells_length]; show _ + (d ++ z).length ≤ _; rw [List.length_append]; omega)).mono ?_
          rintro _ w9 ⟨rfl, hb9, hk9⟩
          have hS9 : w9.cell? ⟨w.heap.size, 9, none⟩ = some (.string ⟨d.toArray⟩) := (hk9.cell (p := ⟨w.heap.size, 9, none⟩) (by have := hbd8.size; have := heap_lt HBX.out; show w.heap.size < w8.heap.size; have := hb8.size; have h1 : wr.heap.size ≤ w8.heap.size := this; omega) (by show w.heap.size ≠ w2.heap.size; omega) (.inl (by show w.heap.size < w2.heap.size + 1; omega))).trans hS8
          refine ⟨hS9, by kernel_rfl, NoPanic.normal ?_⟩
          try simp only [Act.put, List.setIfInBounds_toArray, List.set_cons_zero, List.set_cons_succ]
          have hb10 : wrt.Bld (w2.heap.size + 1) w2.heap.size (Lib.byteCells (Q ++ (d ++ z))) w9 := by
            rw [wrt.byteCells_append]
            exact hb9
          have hbd9 : Below w.heap.size w w9 := hbd8.trans (hk9.below (by omega) (by omega) hbd8.size)
          have hne : Q ++ (d ++ z) ≠ [] := fun h0 => by
            have := congrArg List.length h0
            rw [List.length_append, hl3] at this
            simp at this
          have hstr := wrt.string_any (w2.heap.size + 1) w2.heap.size (Q ++ (d ++ z)) w9 hb10 hne
          have HSTR := Lib.hid hstr
          have HB9 := Lib.hid hbd9
          clear hb9 hk9 hb10 hbd9 hne hstr hb8 hbd8 hS8 HBL8 hbd hS0 hrp hbw
          go_wp2_with fail
          refine HSTR.out.mono ?_
          rintro x w10 ⟨rfl, hb11⟩
          go_wp2_with fail
          go_ret2
          have hfin : Q ++ (d ++ z) = fixL 1 k ++ (([t, i, c, s].flatMap (fixL 8)) ++ (fixL 4 bl ++ (fixL 4 mn ++ (([n, l, d.length].flatMap (fixL 1)) ++ (d ++ List.replicate (66 - d.length) 0))))) := by
            rw [← hQ, ← hP, ← hz]
            simp only [List.append_assoc]
          refine ⟨?_, HB9.out.trans (hb11.mono (by omega))⟩
          rw [← hfin]
          rfl

end Go.Proofs.YtbjbgdnjcppjhaaGreatDoor

/-
  first.Put over this translation, by an entry. Conditions: the entry is right and small. By an AI agent.
-/
namespace Go.Proofs.YtbjbgdnjcppjhaaGreatDoor
open Go.RowKit
set_option linter.unusedVariables false
set_option linter.unusedSimpArgs false

theorem ent_nat (e : Ent) (h : Small e) : e = ⟨(e.term.toNat : Nat), (e.index.toNat : Nat), (e.kind.toNat : Nat), (e.client.toNat : Nat), (e.seq.toNat : Nat), (e.block.toNat : Nat), (e.many.toNat : Nat), (e.node.toNat : Nat), (e.level.toNat : Nat), ⟨e.data.data.toList.toArray⟩, ⟨e.old.data.toList.toArray⟩⟩ := by
  obtain ⟨⟨a0, a1⟩, ⟨b0, b1⟩, ⟨c0, c1⟩, ⟨d0, d1⟩, ⟨e0, e1⟩, ⟨f0, f1⟩, ⟨g0, g1⟩, ⟨i0, i1⟩, ⟨j0, j1⟩, hd, ho⟩ := h
  rw [Int.toNat_of_nonneg (show 0 ≤ e.term by omega), Int.toNat_of_nonneg (show 0 ≤ e.index by omega), Int.toNat_of_nonneg c0, Int.toNat_of_nonneg d0, Int.toNat_of_nonneg e0, Int.toNat_of_nonneg f0, Int.toNat_of_nonneg g0, Int.toNat_of_nonneg i0, Int.toNat_of_nonneg j0]
theorem firstPut_any (e : Ent) (h : Small e) (hr : rightB e = true) (hl : levelI e.kind = 1) (w : World) :
    Calls Tryz.prog 19 #[e.val] w fun x w' => x = .returned (.tuple #[.string ⟨(putF e).toArray⟩, .bool true]) ∧ Below w.heap.size w w' := by
  have he := ent_nat e h
  have hwf := h.wf
  have hk0 := h.kind.1
  rw [he] at hwf hr
  obtain ⟨⟨a0, a1⟩, ⟨b0, b1⟩, ⟨c0, c1⟩, ⟨d0, d1⟩, ⟨e0, e1⟩, ⟨f0, f1⟩, ⟨g0, g1⟩, ⟨i0, i1⟩, ⟨j0, j1⟩, hd, ho⟩ := h
  have hput := firstPut_nat e.term.toNat e.index.toNat e.kind.toNat e.client.toNat e.seq.toNat e.block.toNat e.many.toNat e.node.toNat e.level.toNat e.data.data.toList e.old.data.toList (by omega) (by omega) (by omega) (by omega) (by omega) (by omega) (by omega) (by omega) (by omega) hd hwf hr (by rw [Int.toNat_of_nonneg hk0]; exact hl) w
  have hv : e.val = .agg #[.int .u64 (e.term.toNat : Nat), .int .u64 (e.index.toNat : Nat), .int .i64 (e.kind.toNat : Nat), .int .u64 (e.client.toNat : Nat), .int .u64 (e.seq.toNat : Nat), .int .u64 (e.block.toNat : Nat), .int .u64 (e.many.toNat : Nat), .int .i64 (e.node.toNat : Nat), .int .i64 (e.level.toNat : Nat), .string ⟨e.data.data.toList.toArray⟩, .string ⟨e.old.data.toList.toArray⟩] := by
    conv => lhs; rw [he]
    rfl
  have hp : putF e = fixL 1 e.kind.toNat ++ (([e.term.toNat, e.index.toNat, e.client.toNat, e.seq.toNat].flatMap (fixL 8)) ++ (fixL 4 e.block.toNat ++ (fixL 4 e.many.toNat ++ (([e.node.toNat, e.level.toNat, e.data.data.toList.length].flatMap (fixL 1)) ++ (e.data.data.toList ++ List.replicate (66 - e.data.data.toList.length) 0))))) := by
    have hdl : e.data.data.toList.length = e.data.size := rfl
    rw [hdl]
    simp only [putF, List.flatMap_cons, List.flatMap_nil, List.append_nil, List.append_assoc]
  rw [hv, hp]
  exact hput

set_option maxRecDepth 100000 in
set_option maxHeartbeats 2000000 in
theorem firstPut_two (e : Ent) (h : Small e) (hr : rightB e = true) (hl : levelI e.kind = 2) (w : World) :
    Calls Tryz.prog 19 #[e.val] w fun x w' => x = .returned (.tuple #[.string ⟨#[]⟩, .bool false]) ∧ Below w.heap.size w w' := by
  have hright := fun W => right_any e h.wf W
  have hlevel := fun W => level_any e W
  rw [hr] at hright
  rw [hl] at hlevel
  have hbox := heap_alloc_new w (.cells e.cells EntT)
  clear h hr hl
  obtain ⟨x0, x1, x2, x3, x4, x5, x6, x7, x8, x9, x10⟩ := e
  simp only [Ent.val, Ent.cells] at hright hlevel hbox ⊢
  have HR := Lib.hid hright
  have HL := Lib.hid hlevel
  have HBOX := Lib.hid hbox
  clear hright hlevel hbox
  go_enter Tryz.func19, Tryz.ntmps19
  go_wp2_with fail
  refine (HR.out _).mono ?_
  rintro x w1 ⟨rfl, hb1⟩
  have hbx := (hb1.block w.heap.size (by simp)).trans HBOX.out
  have HB1 := Lib.hid (((Below.refl _ _).alloc (Nat.le_refl _) _).trans (hb1.mono (by simp)) : Below w.heap.size w w1)
  have c0 : w1.cell? ⟨w.heap.size, 0, none⟩ = some (.int .u64 x0) := Lib.cell_of_heap hbx 0
  have c1 : w1.cell? ⟨w.heap.size, 1, none⟩ = some (.int .u64 x1) := Lib.cell_of_heap hbx 1
  have c2 : w1.cell? ⟨w.heap.size, 2, none⟩ = some (.int .i64 x2) := Lib.cell_of_heap hbx 2
  have c3 : w1.cell? ⟨w.heap.size, 3, none⟩ = some (.int .u64 x3) := Lib.cell_of_heap hbx 3
  have c4 : w1.cell? ⟨w.heap.size, 4, none⟩ = some (.int .u64 x4) := Lib.cell_of_heap hbx 4
  have c5 : w1.cell? ⟨w.heap.size, 5, none⟩ = some (.int .u64 x5) := Lib.cell_of_heap hbx 5
  have c6 : w1.cell? ⟨w.heap.size, 6, none⟩ = some (.int .u64 x6) := Lib.cell_of_heap hbx 6
  have c7 : w1.cell? ⟨w.heap.size, 7, none⟩ = some (.int .i64 x7) := Lib.cell_of_heap hbx 7
  have c8 : w1.cell? ⟨w.heap.size, 8, none⟩ = some (.int .i64 x8) := Lib.cell_of_heap hbx 8
  have c9 : w1.cell? ⟨w.heap.size, 9, none⟩ = some (.string x9) := Lib.cell_of_heap hbx 9
  have c10 : w1.cell? ⟨w.heap.size, 10, none⟩ = some (.string x10) := Lib.cell_of_heap hbx 10
  clear hb1 HR hbx
  go_wp2_with fail
  refine (HL.out _).mono ?_
  rintro x w2 ⟨rfl, hb2⟩
  have HB2 := Lib.hid (HB1.out.trans (hb2.mono HB1.out.size) : Below w.heap.size w w2)
  clear hb2 HL c0 c1 c2 c3 c4 c5 c6 c7 c8 c9 c10
  go_wp2_with fail
  go_ret2
  exact ⟨rfl, HB2.out⟩

end Go.Proofs.YtbjbgdnjcppjhaaGreatDoor
