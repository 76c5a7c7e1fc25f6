/-
  law06's examples: they are so. No condition. By an AI agent.
-/
import Derived.Test.YtbjbgdnjcppjhaaGreatDoorSecMsg
namespace Go.Proofs.YtbjbgdnjcppjhaaGreatDoor
open Go.RowKit Go.Sort
set_option linter.unusedVariables false
set_option linter.unusedSimpArgs false

def exE1 : Ent := ⟨1, 1, 0, 0, 0, 0, 0, 0, 0, ⟨#[]⟩, ⟨#[]⟩⟩
def exE2 : Ent := ⟨1, 1, 11, 1, 0, 0, 0, 0, 0, ⟨#[]⟩, ⟨#[97]⟩⟩
theorem varL_small (n : Nat) (h : n < 128) : varL n = [UInt8.ofNat n] := by
  rw [varL, dif_pos h]
theorem exE1_bytes : secE exE1 = [2, 1, 3, 1, 0] := by
  simp [secE, entBs, exE1, tagL, numL, textF, varL_small]
theorem exE2_bytes : secE exE2 = [1, 11, 2, 1, 3, 1, 4, 1, 11, 1, 97, 0] := by
  simp [secE, entBs, exE2, tagL, numL, textF, varL_small]
theorem exE1_small : Small exE1 ∧ rightB exE1 = true := ⟨⟨by decide, by decide, by decide, by decide, by decide, by decide, by decide, by decide, by decide, by decide, by decide⟩, by decide⟩
theorem exE2_small : Small exE2 ∧ rightB exE2 = true := ⟨⟨by decide, by decide, by decide, by decide, by decide, by decide, by decide, by decide, by decide, by decide, by decide⟩, by decide⟩
theorem gotM_nil : gotM [] = false := by
  have h : getMsgL [] = (Msg.none, rdFail) := by
    unfold getMsgL
    rw [getL_eq msgTakes 0 Msg.none ([], false) (n := 0) (x := rdFail) rfl]
    rfl
  unfold gotM
  rw [h]
  rfl

set_option maxRecDepth 100000 in
set_option maxHeartbeats 2000000 in
theorem examples06_any (w : World) : Calls Tryz.prog 6 #[] w fun x w' => x = .returned (.bool true) ∧ Below w.heap.size w w' := by
  have hp1 := fun W => secondPut_any exE1 exE1_small.1 exE1_small.2 W
  have hp2 := fun W => secondPut_any exE2 exE2_small.1 exE2_small.2 W
  rw [exE1_bytes] at hp1
  rw [exE2_bytes] at hp2
  simp only [Ent.val, Ent.cells, exE1] at hp1
  simp only [Ent.val, Ent.cells, exE2] at hp2
  have hg := fun W => getMsg_any [] (by decide) W
  rw [gotM_nil] at hg
  have HP1 := Lib.hid hp1
  have HP2 := Lib.hid hp2
  have HG := Lib.hid hg
  clear hp1 hp2 hg
  go_enter Tryz.func6, Tryz.ntmps6
  go_wp2_with fail
  refine (HP1.out _).mono ?_
  rintro x w1 ⟨rfl, hb1⟩
  have HB1 := Lib.hid hb1
  clear hb1
  go_wp2_with fail
  refine (HP2.out _).mono ?_
  rintro x w2 ⟨rfl, hb2⟩
  have HB2 := Lib.hid (HB1.out.trans (hb2.mono HB1.out.size))
  clear hb2 HB1
  go_wp2_with fail
  refine (HG.out _).mono ?_
  rintro x w3 ⟨m, sv, rfl, _, he, hb3⟩
  have HB3 := Lib.hid (HB2.out.trans (hb3.mono HB2.out.size))
  obtain ⟨va, vc, hsv, _⟩ := he
  subst hsv
  simp only [Msg.cells]
  clear hb3 HB2
  go_wp2_with fail
  go_ret
  exact ⟨rfl, HB3.out.trans (((Below.refl _ _).alloc (Nat.le_refl _) _).mono HB3.out.size)⟩

end Go.Proofs.YtbjbgdnjcppjhaaGreatDoor
