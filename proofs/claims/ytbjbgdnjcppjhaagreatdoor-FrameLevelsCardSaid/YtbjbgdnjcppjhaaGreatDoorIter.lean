/-
  A text that is ranged over, its iterator in whatever block. No condition. By an AI agent.
-/
import Derived.Test.YtbjbgdnjcppjhaaGreatDoorMem
namespace Go.Proofs.YtbjbgdnjcppjhaaGreatDoor
open Go.RowKit
set_option linter.unusedVariables false
set_option linter.unusedSimpArgs false

/-- an iterator over a text, in whatever block -/
def iterSet (w : World) (b : Nat) (s : ByteArray) (pos : Nat) : World := { w with heap := w.heap.setIfInBounds b (.stringIter s pos) }
theorem iterSet_heap {w : World} {b : Nat} {o : Obj} (h : w.heap[b]? = some o) (s : ByteArray) (pos : Nat) : (iterSet w b s pos).heap[b]? = some (.stringIter s pos) := by
  have := (Array.getElem?_eq_some_iff.1 h).1
  simp [iterSet, Array.getElem?_setIfInBounds, this]
theorem iterSet_below (w : World) (b : Nat) (s : ByteArray) (pos : Nat) : Below b w (iterSet w b s pos) :=
  ⟨rfl, rfl, rfl, by simp [iterSet], fun k hk => by simp only [iterSet]; rw [Array.getElem?_setIfInBounds_ne (by omega)]⟩
theorem iterSet_size (w : World) (b : Nat) (s : ByteArray) (pos : Nat) : (iterSet w b s pos).heap.size = w.heap.size := by simp [iterSet]
theorem run_next_at {P : Program} {w : World} {b : Nat} {s : ByteArray} {pos : Nat} (hb : w.heap[b]? = some (.stringIter s pos)) (ty : TypeId) (h : pos < s.size) (ha : (s[pos]'h).toNat < 128) :
    (Instr.next (.pointer (some ⟨b, 0, none⟩)) true ty).run P w = .ok (.tuple #[.bool true, .int .i64 pos, .int .i32 (s[pos]'h).toNat]) (iterSet w b s (pos + 1)) := by
  simp only [Instr.next, getObj, setObj, Sem.run_bind, Sem.run, hb, Result.andThen, h, if_true, decode_ascii s pos h ha]
  simp [goInt, Sem.run, hb, iterSet]
theorem run_next_stop {P : Program} {w : World} {b : Nat} {s : ByteArray} {pos : Nat} (hb : w.heap[b]? = some (.stringIter s pos)) (ty : TypeId) (h : ¬ pos < s.size) :
    (Instr.next (.pointer (some ⟨b, 0, none⟩)) true ty).run P w = .ok (.tuple #[.bool false]) w := by
  simp [Instr.next, getObj, Sem.run, hb, h]

end Go.Proofs.YtbjbgdnjcppjhaaGreatDoor
