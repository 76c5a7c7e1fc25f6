/-
  first.writer: what it holds as a text; what put does to it. Conditions: as each theorem says. By an AI agent.
-/
import Derived.Test.YtbjbgdnjcppjhaaGreatDoorBuildW
import Derived.Test.YtbjbgdnjcppjhaaGreatDoorFixRd
import Derived.Test.YtbjbgdnjcppjhaaGreatDoorHeld
namespace Go.Proofs.YtbjbgdnjcppjhaaGreatDoor.wrt
open Go.RowKit
set_option linter.unusedVariables false
set_option linter.unusedSimpArgs false

set_option maxRecDepth 100000 in
set_option maxHeartbeats 2000000 in
theorem string_any (m b : Nat) (l : List UInt8) (w : World) (h : Bld m b (Lib.byteCells l) w) (h0 : l ≠ []) :
    Calls Tryz.prog 53 #[.pointer (some ⟨b, 0, none⟩)] w fun e w' => e = .returned (.string ⟨l.toArray⟩) ∧ Below m w w' := by
  obtain ⟨hbm, hm, p, v, hp, hbk, hown⟩ := h
  have hl0 : l.length ≠ 0 := by simpa using h0
  rw [Lib.byteCells_length] at hown
  obtain ⟨g, cap, cur, rfl, hbg, hg, hnc, hcm, hcs, htake⟩ : ∃ g cap cur, v = .slice (some ⟨g, 0, none⟩) l.length cap ∧ m ≤ g ∧ w.heap[g]? = some (.cells cur ByteT (0, 0)) ∧ l.length ≤ cap ∧ cap ≤ maxLen ∧ cur.size = cap * 1 ∧ cur.toList.take (l.length * 1) = Lib.byteCells l := by
    rcases hown.2 with ⟨_, hz⟩ | h
    · exact absurd hz hl0
    · exact h
  have c1 : w.drew.cell? ⟨b, 1, none⟩ = some (.slice (some ⟨g, 0, none⟩) l.length cap) := by
    have : w.drew.heap[b]? = some (.cells #[p, .slice (some ⟨g, 0, none⟩) l.length cap] WrtT (0, 0)) := hbk
    rw [Lib.cell_of_heap this]; rfl
  have hSD : (Builtin.unsafeSliceData_ #[88] 145 #[.slice (some ⟨g, 0, none⟩) l.length cap]).run Tryz.prog w.drew = .ok (.pointer (some ⟨g, 0, none⟩)) w.drew :=
    Lib.run_unsafeSliceData_row _ _ _ _ _ _ (by omega)
  have hUS : (Builtin.unsafeString_ #[145, 3] 9 #[.pointer (some ⟨g, 0, none⟩), .int .i64 l.length]).run Tryz.prog w.drew = .ok (.string ⟨l.toArray⟩) (w.drew.freeze ⟨g, 0, none⟩ l.length) := by
    refine Lib.run_unsafeString_row w.drew 145 3 9 ByteT Tryz.underlying145 (by kernel_rfl) g cur.size (by have hg' : w.drew.heap[g]? = some (.cells cur ByteT (0, 0)) := hg; simp [World.shape?, hg']) l h0 (by omega) (by unfold maxLen at hcm; omega) ?_
    intro j x hx
    exact hown.cells (g := g) rfl j (.int .u8 x.toNat) (by simp [Lib.byteCells, hx])
  have HG := Lib.hid hbg
  clear hbk hown hg htake hp
  go_enter Tryz.func53, Tryz.ntmps53
  go_wp2_with fail
  go_region
  all_goals (go_wp2_with fail; go_ret; exact ⟨rfl, Lib.below_freeze (Below.drew (Below.refl m w)) (p := ⟨g, 0, none⟩) HG.out _⟩)

theorem keep_of_below {m b : Nat} {w w' : World} (h : Below w.heap.size w w') : BKeep m b w w' := ⟨h.os, h.tape, h.output, h.size, fun k hk _ _ => h.block k hk⟩
theorem byteCells_append (a c : List UInt8) : Lib.byteCells (a ++ c) = Lib.byteCells a ++ Lib.byteCells c := by simp [Lib.byteCells]

set_option maxRecDepth 100000 in
set_option maxHeartbeats 2000000 in
theorem put_any (m b : Nat) (bs : List UInt8) (n : Nat) (hn : n < 18446744073709551616) (size : Nat) (hs : size = 1 ∨ size = 4 ∨ size = 8) (w : World) (h : Bld m b (Lib.byteCells bs) w) (hlen : bs.length ≤ 1099511627776) :
    Calls Tryz.prog 50 #[.pointer (some ⟨b, 0, none⟩), .int .u64 n, .int .i64 size] w fun x w' => x = .returned (.tuple #[]) ∧ Bld m b (Lib.byteCells (bs ++ fixL size n)) w' ∧ BKeep m b w w' := by
  have HF := Lib.hid (fun W => fixed_any n hn size hs W)
  have hfl := fixL_length size n
  have HH := Lib.hid h
  clear h
  generalize fixL size n = z at *
  go_enter Tryz.func50, Tryz.ntmps50
  go_wp2_with fail
  refine region_D (fun _ => True) [] 7 (by kernel_rfl) (by rfl) ?_
  refine takeD (i := 0) (v := .pointer (some ⟨b, 0, none⟩)) (by rfl) (by kernel_rfl) (fun _ _ _ h => h) (by rfl) (fun u hu => by go_simp) trivial ?_
  simp only [Act.put, List.setIfInBounds_toArray, List.set_cons_zero, List.set_cons_succ]
  refine takeD (i := 1) (v := .pointer (some ⟨b, 0, none⟩)) (by rfl) (by kernel_rfl) (fun _ _ _ h => h) (by rfl) (fun u hu => by go_simp) trivial ?_
  simp only [Act.put, List.setIfInBounds_toArray, List.set_cons_zero, List.set_cons_succ]
  refine takeD (i := 2) (v := .pointer (some ⟨b, 0, none⟩)) (by rfl) (by kernel_rfl) (fun _ _ _ h => h) (by rfl) (fun u hu => by go_simp) trivial ?_
  simp only [Act.put, List.setIfInBounds_toArray, List.set_cons_zero, List.set_cons_succ]
  refine takeD (i := 3) (v := .int .u64 n) (by rfl) (by kernel_rfl) (fun _ _ _ h => h) (by rfl) (fun u hu => by go_simp) trivial ?_
  simp only [Act.put, List.setIfInBounds_toArray, List.set_cons_zero, List.set_cons_succ]
  refine takeD (i := 4) (v := .int .i64 size) (by rfl) (by kernel_rfl) (fun _ _ _ h => h) (by rfl) (fun u hu => by go_simp) trivial ?_
  simp only [Act.put, List.setIfInBounds_toArray, List.set_cons_zero, List.set_cons_succ]
  refine oneD (i := 5) (by rfl) (by kernel_rfl) (by rfl) ?_
  go_simp
  refine (HF.out _).mono ?_
  rintro _ w1 ⟨rfl, hb1⟩
  try simp only [Act.put, List.setIfInBounds_toArray, List.set_cons_zero, List.set_cons_succ]
  have hb1w : Below w.heap.size w w1 := ⟨hb1.os, hb1.tape, hb1.output, hb1.size, hb1.block⟩
  have h1 := HH.out.below hb1w
  refine oneD (i := 6) (by rfl) (by kernel_rfl) (by rfl) ?_
  go_simp
  refine (writeString_any m b _ ⟨z.toArray⟩ w1 h1 (by rw [Lib.byteCells_length]; show _ + z.length ≤ _; omega)).mono ?_
  rintro _ w2 ⟨rfl, h2, hk2⟩
  refine ⟨by kernel_rfl, NoPanic.normal ?_⟩
  try simp only [Act.put, List.setIfInBounds_toArray, List.set_cons_zero, List.set_cons_succ]
  have h3 : Bld m b (Lib.byteCells (bs ++ z)) w2 := by
    rw [byteCells_append]
    exact h2
  have H3 := Lib.hid h3
  have HK := Lib.hid ((keep_of_below hb1w).trans hk2)
  clear h1 h2 h3 hk2 hb1 hb1w
  go_wp2_with fail
  exact ⟨rfl, .tuple #[], results_none rfl _ _ _, rfl, H3.out, HK.out⟩

end Go.Proofs.YtbjbgdnjcppjhaaGreatDoor.wrt
