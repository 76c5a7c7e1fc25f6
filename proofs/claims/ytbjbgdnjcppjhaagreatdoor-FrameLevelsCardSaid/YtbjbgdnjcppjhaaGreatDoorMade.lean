/-
  PLAIN DATA: what Made.made answers. No program is imported. No condition. By an AI agent.
-/
import Derived.Test.YtbjbgdnjcppjhaaGreatDoorOwn
import Derived.Test.YtbjbgdnjcppjhaaGreatDoorRef04Fields
namespace Go.Proofs.YtbjbgdnjcppjhaaGreatDoor
open Go.RowKit

/-- an int as an unsigned number, its rest, one more -/
def modOf (n m : Int) : Int := wrap64 (wrap64 ((IntKind.u64.wrap n).tmod m) + 1)
def cutTo (s : ByteArray) (n : Int) : ByteArray := s.extract 0 (min (s.size : Int) n).toNat
/-- a letter's field, laid -/
def putL (e x : Ent) (c : UInt8) : Ent :=
  if c = 99 then { x with client := e.client % 5 + 1, seq := e.seq % 9 } else if c = 98 then { x with block := e.block % 9 } else if c = 109 then { x with many := e.many % 9 }
  else if c = 110 then { x with node := modOf e.node 7 } else if c = 108 then { x with level := modOf e.level 2 }
  else if c = 100 then { x with data := cutTo e.data 64 } else if c = 111 then { x with old := cutTo e.old 64 } else x
def ownBase (e : Ent) : Ent := ⟨e.term % 1000 + 1, e.index % 1000 + 1, e.kind % 12, 0, 0, 0, 0, 0, 0, ⟨#[]⟩, ⟨#[]⟩⟩
/-- an entry that is right, by its parts -/
def ownEnt (e : Ent) : Ent := (entL (e.kind % 12)).foldl (putL e) (ownBase e)

theorem entL_letters (k : Int) : ∀ c ∈ entL k, c = 99 ∨ c = 98 ∨ c = 109 ∨ c = 110 ∨ c = 108 ∨ c = 100 ∨ c = 111 := by
  unfold entL
  repeat' split
  all_goals decide
theorem foldl_snoc {α β : Type} (f : β → α → β) (l : List α) (k : Nat) (h : k < l.length) (b : β) : (l.take (k + 1)).foldl f b = f ((l.take k).foldl f b) l[k] := by
  rw [List.take_succ_eq_append_getElem h, List.foldl_append]; rfl
theorem tmod_at (k m : Int) (hm : 0 < m) : (k.tmod m < 0 → k % m = k.tmod m + m) ∧ (0 ≤ k.tmod m → k % m = k.tmod m) ∧ -m < k.tmod m ∧ k.tmod m < m := by
  by_cases h : 0 ≤ k
  · rw [Int.tmod_eq_emod_of_nonneg h]
    have h1 := Int.emod_nonneg k (show m ≠ 0 by omega)
    have h2 := Int.emod_lt_of_pos k hm
    refine ⟨fun h => ?_, fun _ => rfl, ?_, h2⟩ <;> omega
  · have e : k.tmod m = -((-k) % m) := by
      have : k = -(-k) := by omega
      rw [this, Int.neg_tmod, Int.tmod_eq_emod_of_nonneg (by omega)]
      simp
    have h1 := Int.emod_nonneg (-k) (show m ≠ 0 by omega)
    have h2 := Int.emod_lt_of_pos (-k) hm
    have h3 := Int.emod_nonneg k (show m ≠ 0 by omega)
    have h4 := Int.emod_lt_of_pos k hm
    have hd : ∃ c, k % m = m * c - (-k) % m := by
      have e1 := Int.emod_def k m
      have e2 := Int.emod_def (-k) m
      refine ⟨-(k / m) - (-k) / m, ?_⟩
      rw [e1, e2, Int.mul_sub, Int.mul_neg]
      omega
    obtain ⟨c, hc⟩ := hd
    have hc1 : 0 ≤ c := by
      refine Int.not_lt.1 fun hneg => ?_
      have := Int.mul_le_mul_of_nonneg_left (show c ≤ -1 by omega) (Int.le_of_lt hm)
      omega
    have hc2 : c ≤ 1 := by
      refine Int.not_lt.1 fun hneg => ?_
      have := Int.mul_le_mul_of_nonneg_left (show (2 : Int) ≤ c by omega) (Int.le_of_lt hm)
      omega
    rw [e]
    rcases (show c = 0 ∨ c = 1 by omega) with rfl | rfl
    · refine ⟨fun h => ?_, fun h => ?_, ?_, ?_⟩ <;> omega
    · refine ⟨fun h => ?_, fun h => ?_, ?_, ?_⟩ <;> omega

end Go.Proofs.YtbjbgdnjcppjhaaGreatDoor
