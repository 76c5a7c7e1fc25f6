/-
  varint.Fixed over this translation: a number's lowest 1, 4 or 8 bytes. Condition: a number of 64 bits. By an AI agent.
-/
import Derived.Test.YtbjbgdnjcppjhaaGreatDoorFirQ
import Derived.Test.YtbjbgdnjcppjhaaGreatDoorVarText
namespace Go.Proofs.YtbjbgdnjcppjhaaGreatDoor
open Go.RowKit Go.Sort
set_option linter.unusedVariables false
set_option linter.unusedSimpArgs false

/-- the eight bytes, the first k of them laid -/
def fixCell (n : Nat) (i : Nat) : Value := .int .u8 ((n / 256 ^ (7 - i) % 256 : Nat) : Int)
def fixSt (n k : Nat) : Array Value := ((List.range 8).map fun i => if i < k then fixCell n i else .int .u8 0).toArray

theorem fixSt_get (n k i : Nat) (hi : i < 8) : (fixSt n k)[i]? = some (if i < k then fixCell n i else .int .u8 0) := by
  simp [fixSt, hi]
theorem fixSt_set (n k : Nat) : (fixSt n k).setIfInBounds k (fixCell n k) = fixSt n (k + 1) := by
  apply Array.ext
  · simp [fixSt]
  · intro i h1 h2
    have hi : i < 8 := by simpa [fixSt] using h2
    by_cases hik : i = k
    · subst hik
      simp [fixSt]
    · rw [Array.getElem_setIfInBounds_ne (by simpa [fixSt] using hi) (by omega)]
      simp only [fixSt, List.getElem_toArray, List.getElem_map, List.getElem_range]
      by_cases h3 : i < k
      · rw [if_pos h3, if_pos (by omega)]
      · rw [if_neg h3, if_neg (by omega)]
theorem fixL_get : ∀ (k n j : Nat) (h : j < (fixL k n).length), (fixL k n)[j].toNat = n / 256 ^ (k - 1 - j) % 256
  | 0, n, j, h => by simp [fixL] at h
  | k + 1, n, 0, h => by
    simp only [fixL, List.getElem_cons_zero]
    rw [byte_val _ (Nat.mod_lt _ (by decide))]
    simp
  | k + 1, n, j + 1, h => by
    simp only [fixL, List.getElem_cons_succ]
    rw [fixL_get k n j (by simpa [fixL] using h)]
    congr 3
    omega
theorem fix_value (n k : Nat) : (n : Int) / 2 ^ (8 * (7 - k)) % 256 = ((n / 256 ^ (7 - k) % 256 : Nat) : Int) := by
  have : (2 : Nat) ^ (8 * (7 - k)) = 256 ^ (7 - k) := by rw [Nat.pow_mul]
  rw [Int.natCast_emod, Int.natCast_ediv, ← this, Int.natCast_pow]
  rfl
theorem fix_bytes (n size : Nat) (hs : size ≤ 8) (w : World) (b : Nat) (hb : w.heap[b]? = some (.cells (fixSt n 8) 170 (0, 0))) :
    ∀ j (hj : j < (fixL size n).length), w.cell? ((⟨b, 8 - size, none⟩ : Addr).add j) = some (.int .u8 ((fixL size n)[j].toNat : Int)) := by
  intro j hj
  have hj2 : j < size := by rw [fixL_length] at hj; exact hj
  have hadd : (⟨b, 8 - size, none⟩ : Addr).add j = ⟨b, 8 - size + j, none⟩ := by
    unfold Addr.add
    split
    · simp_all
    · rfl
  rw [hadd, Lib.cell_of_heap hb, fixSt_get n 8 _ (by omega), if_pos (by omega), fixL_get]
  unfold fixCell
  rw [show 7 - (8 - size + j) = size - 1 - j by omega]

set_option maxRecDepth 100000 in
set_option maxHeartbeats 4000000 in
theorem fixed_any (n : Nat) (hn : n < 18446744073709551616) (size : Nat) (hs : size = 1 ∨ size = 4 ∨ size = 8) (w : World) :
    Calls Tryz.prog 82 #[.int .u64 n, .int .i64 size] w fun x w' => x = .returned (.string ⟨(fixL size n).toArray⟩) ∧ Below w.heap.size w w' := by
  have hs8 : size ≤ 8 := by omega
  go_enter Tryz.func82, Tryz.ntmps82
  go_wp2_with fail
  go_loopw [6, 13] (fun i6 i wr => ∃ (k : Nat), k ≤ 8 ∧ i = .int .i64 k ∧ wr.heap[w.heap.size]? = some (.cells (fixSt n k) 170 (0, 0)) ∧ Below w.heap.size w wr) (fun i6 i _ => 8 - (intOf i).toNat)
  case atStart => exact ⟨0, by decide, rfl, by rw [show fixSt n 0 = #[.int .u8 0, .int .u8 0, .int .u8 0, .int .u8 0, .int .u8 0, .int .u8 0, .int .u8 0, .int .u8 0] from rfl]; exact heap_alloc_new w _, (Below.refl _ _).alloc (Nat.le_refl _) _⟩
  case round =>
    obtain ⟨k, hk, rfl, hb, hbr⟩ := hrel
    have hfz : ∀ o, wr.frozen? ⟨w.heap.size, o, none⟩ = false := fun o => Lib.frozen_of_heap hb o
    have HB := Lib.hid hb
    have HBR := Lib.hid hbr
    by_cases hlt : k < 8
    · have hcell : wr.cell? ⟨w.heap.size, k, none⟩ = some (.int .u8 0) := by
        rw [Lib.cell_of_heap hb]
        simp [fixSt, hlt]
      clear hb hbr
      go_wp2_with fail
      rw [fix_value]
      have hnew : (wr.setCell ⟨w.heap.size, k, none⟩ (fixCell n k)).heap[w.heap.size]? = some (.cells (fixSt n (k + 1)) 170 (0, 0)) := by
        rw [← fixSt_set]
        have := HB.out
        simp [World.setCell, Array.getElem?_modify, this]
      go_roundw
      case rel => exact ⟨k + 1, by omega, by go_num, hnew, HBR.out.setCell (Nat.le_refl _) _⟩
      case measure => simp [intOf]; omega
    · obtain rfl : k = 8 := by omega
      have hby := fix_bytes n size hs8 wr w.heap.size hb
      rcases hs with rfl | rfl | rfl
      · have hconv : (convert 88 9 (.slice (some ⟨w.heap.size, 7, none⟩) 1 1)).run Tryz.prog wr = .ok (.string ⟨(fixL 1 n).toArray⟩) wr :=
          run_convert_bytes_back wr _ _ 5 ⟨w.heap.size, 7, none⟩ 1 (fixL 1 n) Tryz.underlying88 Tryz.underlying5 Tryz.underlying9 hby
        clear hb hby
        generalize hz : fixL 1 n = z at hconv
        go_wp2_with fail
        go_ret
        exact ⟨by rw [hz]; rfl, HBR.out⟩
      · have hconv : (convert 88 9 (.slice (some ⟨w.heap.size, 4, none⟩) 4 4)).run Tryz.prog wr = .ok (.string ⟨(fixL 4 n).toArray⟩) wr :=
          run_convert_bytes_back wr _ _ 5 ⟨w.heap.size, 4, none⟩ 4 (fixL 4 n) Tryz.underlying88 Tryz.underlying5 Tryz.underlying9 hby
        clear hb hby
        generalize hz : fixL 4 n = z at hconv
        go_wp2_with fail
        go_ret
        exact ⟨by rw [hz]; rfl, HBR.out⟩
      · have hconv : (convert 88 9 (.slice (some ⟨w.heap.size, 0, none⟩) 8 8)).run Tryz.prog wr = .ok (.string ⟨(fixL 8 n).toArray⟩) wr :=
          run_convert_bytes_back wr _ _ 5 ⟨w.heap.size, 0, none⟩ 8 (fixL 8 n) Tryz.underlying88 Tryz.underlying5 Tryz.underlying9 hby
        clear hb hby
        generalize hz : fixL 8 n = z at hconv
        go_wp2_with fail
        go_ret
        exact ⟨by rw [hz]; rfl, HBR.out⟩

end Go.Proofs.YtbjbgdnjcppjhaaGreatDoor
