/-
  PLAIN LAW of EntryKinds: an entry with just what its kind may have is right, and no entry of level 3 is; a message of a kind is right between two nodes. No condition. By an AI agent.
-/
import Derived.Test.YtbjbgdnjcppjhaaDoorTextsP
namespace Go.Proofs.YtbjbgdnjcppjhaaDoor
open Go.RowKit
set_option linter.unusedVariables false
set_option linter.unusedSimpArgs false

def kindPut (x : Ent) (c : UInt8) : Ent := if c = 99 then { x with client := 1 } else if c = 110 then { x with node := 1 } else if c = 108 then { x with level := 1 } else x
def kindBase (k : Int) : Ent := ⟨1, 1, k, 0, 0, 0, 0, 0, 0, ⟨#[]⟩, ⟨#[]⟩⟩
def kindEnt (k : Int) : Ent := (entL k).foldl kindPut (kindBase k)
def kindMsg (k to : Int) : Msg := ⟨k, 1, to, 0, 0, 0, 0, 0, false, ⟨#[]⟩, []⟩

theorem kind_cases (k : Int) : (0 ≤ k ∧ k ≤ 11) ∨ (entL k = [] ∧ entOk k = false) := by
  by_cases h : 0 ≤ k ∧ k ≤ 11
  · exact .inl h
  · refine .inr ⟨?_, by unfold entOk; simp; omega⟩
    unfold entL
    repeat (rw [if_neg (by omega)])
theorem kind_right (k : Int) : rightB (kindEnt k) = entOk k ∧ rightB { kindEnt k with level := 3 } = false := by
  rcases kind_cases k with h | ⟨h1, h2⟩
  · have : k = 0 ∨ k = 1 ∨ k = 2 ∨ k = 3 ∨ k = 4 ∨ k = 5 ∨ k = 6 ∨ k = 7 ∨ k = 8 ∨ k = 9 ∨ k = 10 ∨ k = 11 := by omega
    rcases this with rfl | rfl | rfl | rfl | rfl | rfl | rfl | rfl | rfl | rfl | rfl | rfl <;> exact ⟨by rfl, by rfl⟩
  · have e : kindEnt k = kindBase k := by unfold kindEnt; rw [h1]; rfl
    rw [e, h2]
    constructor
    · unfold rightB
      rw [show entOk (kindBase k).kind = false from h2]; rfl
    · unfold rightB
      rw [show entOk ({ kindBase k with level := 3 } : Ent).kind = false from h2]; rfl
theorem kind_wf (k : Int) (h0 : -128 ≤ k) (h1 : k ≤ 127) : (kindEnt k).wf := by
  have z : U64 0 := ⟨by decide, by decide⟩
  have o : U64 1 := ⟨by decide, by decide⟩
  have j : I64 1 := ⟨by decide, by decide⟩
  have i : I64 0 := ⟨by decide, by decide⟩
  have hk : I64 k := ⟨by omega, by omega⟩
  have hb : (kindBase k).wf := ⟨o, o, hk, z, z, z, z, i, i, Nat.zero_le _, Nat.zero_le _⟩
  unfold kindEnt
  generalize entL k = l
  generalize kindBase k = x at *
  induction l generalizing x with
  | nil => exact hb
  | cons c r ih =>
    refine ih _ ?_
    unfold kindPut
    repeat' split
    · exact ⟨hb.term, hb.index, hb.kind, o, hb.seq, hb.block, hb.many, hb.node, hb.level, hb.data, hb.old⟩
    · exact ⟨hb.term, hb.index, hb.kind, hb.client, hb.seq, hb.block, hb.many, j, hb.level, hb.data, hb.old⟩
    · exact ⟨hb.term, hb.index, hb.kind, hb.client, hb.seq, hb.block, hb.many, hb.node, j, hb.data, hb.old⟩
    · exact hb
theorem kind_msg (k : Int) : msgRightB (kindMsg k 2) = msgOk k ∧ msgRightB (kindMsg k 8) = false := by
  constructor
  · unfold msgRightB
    have hf : fitB (msgL (kindMsg k 2).kind) (kindMsg k 2).flds = true := by
      unfold fitB
      rw [List.all_eq_true]
      intro f hf
      unfold Msg.flds kindMsg at hf
      simp only [List.mem_cons, List.mem_nil_iff, or_false] at hf
      rcases hf with rfl | rfl | rfl | rfl | rfl | rfl | rfl <;> (unfold fldOk; split <;> rfl)
    rw [hf, show nodeB (kindMsg k 2).frm = true from rfl, show nodeB (kindMsg k 2).to = true from rfl]
    simp [kindMsg]
  · unfold msgRightB
    rw [show nodeB (kindMsg k 8).to = false from rfl]
    simp

end Go.Proofs.YtbjbgdnjcppjhaaDoor
