/-
  THE SMALL FUNCTIONS of package entry: the letters of a kind (two map literals, looked up), small, node, Level. No condition. By an AI agent.
-/
import Derived.Test.YtbjbgdnjcppjhaaGreatDoorNum
namespace Go.Proofs.YtbjbgdnjcppjhaaGreatDoor
open Go.RowKit

theorem zeroStr (w : World) : (zeroValue 9).run Tryz.prog w = .ok (.string ⟨#[]⟩) w := by kernel_rfl

def entTab : List (Int × Value) := [(0, .string ⟨#[]⟩), (1, .string ⟨#[99, 98, 100]⟩), (2, .string ⟨#[99, 98, 109]⟩), (3, .string ⟨#[99, 109]⟩), (4, .string ⟨#[99]⟩), (5, .string ⟨#[110]⟩), (6, .string ⟨#[110]⟩), (7, .string ⟨#[110, 108]⟩), (8, .string ⟨#[]⟩), (9, .string ⟨#[]⟩), (10, .string ⟨#[]⟩), (11, .string ⟨#[99, 98, 100, 111]⟩)]
def msgTab : List (Int × Value) := [(1, .string ⟨#[105, 112]⟩), (2, .string ⟨#[121]⟩), (3, .string ⟨#[105, 112]⟩), (4, .string ⟨#[121]⟩), (5, .string ⟨#[105, 112, 116, 101, 107]⟩), (6, .string ⟨#[105, 121, 107]⟩), (7, .string ⟨#[105, 112, 115]⟩), (8, .string ⟨#[105]⟩), (9, .string ⟨#[107]⟩), (10, .string ⟨#[107]⟩)]

theorem entTab_look (k : Int) : (entTab.lookup k).getD (.string ⟨#[]⟩) = .string ⟨(entL k).toArray⟩ ∧ (entTab.lookup k).isSome = entOk k := by
  by_cases h : 0 ≤ k ∧ k ≤ 11
  · have : k = 0 ∨ k = 1 ∨ k = 2 ∨ k = 3 ∨ k = 4 ∨ k = 5 ∨ k = 6 ∨ k = 7 ∨ k = 8 ∨ k = 9 ∨ k = 10 ∨ k = 11 := by omega
    rcases this with rfl | rfl | rfl | rfl | rfl | rfl | rfl | rfl | rfl | rfl | rfl | rfl <;> exact ⟨rfl, rfl⟩
  · have hn : entTab.lookup k = none := by
      simp only [entTab, List.lookup_cons, List.lookup_nil]
      repeat (rw [show (k == _) = false from by simp; omega])
    rw [hn]
    have e1 : entL k = [] := by
      unfold entL
      repeat (rw [if_neg (by omega)])
    have e2 : entOk k = false := by unfold entOk; simp; omega
    rw [e1, e2]
    exact ⟨rfl, rfl⟩
theorem msgTab_look (k : Int) : (msgTab.lookup k).getD (.string ⟨#[]⟩) = .string ⟨(msgL k).toArray⟩ ∧ (msgTab.lookup k).isSome = msgOk k := by
  by_cases h : 1 ≤ k ∧ k ≤ 10
  · have : k = 1 ∨ k = 2 ∨ k = 3 ∨ k = 4 ∨ k = 5 ∨ k = 6 ∨ k = 7 ∨ k = 8 ∨ k = 9 ∨ k = 10 := by omega
    rcases this with rfl | rfl | rfl | rfl | rfl | rfl | rfl | rfl | rfl | rfl <;> exact ⟨rfl, rfl⟩
  · have hn : msgTab.lookup k = none := by
      simp only [msgTab, List.lookup_cons, List.lookup_nil]
      repeat (rw [show (k == _) = false from by simp; omega])
    rw [hn]
    have e1 : msgL k = [] := by
      unfold msgL
      repeat (rw [if_neg (by omega)])
    have e2 : msgOk k = false := by unfold msgOk; simp; omega
    rw [e1, e2]
    exact ⟨rfl, rfl⟩

set_option maxRecDepth 100000 in
set_option maxHeartbeats 1000000 in
/-- entry.Fields (P4.1) -/
theorem fields_any (k : Int) (w : World) :
    Calls Tryz.prog 64 #[.int .i64 k] w fun e w' => e = .returned (.tuple #[.string ⟨(entL k).toArray⟩, .bool (entOk k)]) ∧ Below w.heap.size w w' := by
  obtain ⟨h1, h2⟩ := entTab_look k
  go_enter Tryz.func64, Tryz.ntmps64
  go_wp2_with (refine wpList_maplit Tryz.underlying131 Tryz.underlying3 12 entTab (by simp) rfl (by decide) ?_; simp only [List.drop_succ_cons, List.drop_zero])
  have hl := run_look (w.alloc (imap .i64 entTab)) Tryz.underlying131 Tryz.underlying3 entTab w.heap.size (heap_alloc_new _ _) k (.string ⟨#[]⟩) (zeroStr _) true
  rw [h1, h2] at hl
  go_wp2
  go_ret2
  exact ⟨rfl, (Below.refl _ _).alloc (Nat.le_refl _) _⟩

set_option maxRecDepth 100000 in
set_option maxHeartbeats 1000000 in
/-- entry.MsgFields (P4.2) -/
theorem msgFields_any (k : Int) (w : World) :
    Calls Tryz.prog 43 #[.int .i64 k] w fun e w' => e = .returned (.tuple #[.string ⟨(msgL k).toArray⟩, .bool (msgOk k)]) ∧ Below w.heap.size w w' := by
  obtain ⟨h1, h2⟩ := msgTab_look k
  go_enter Tryz.func43, Tryz.ntmps43
  go_wp2_with (refine wpList_maplit Tryz.underlying131 Tryz.underlying3 10 msgTab (by simp) rfl (by decide) ?_; simp only [List.drop_succ_cons, List.drop_zero])
  have hl := run_look (w.alloc (imap .i64 msgTab)) Tryz.underlying131 Tryz.underlying3 msgTab w.heap.size (heap_alloc_new _ _) k (.string ⟨#[]⟩) (zeroStr _) true
  rw [h1, h2] at hl
  go_wp2
  go_ret2
  exact ⟨rfl, (Below.refl _ _).alloc (Nat.le_refl _) _⟩

set_option maxHeartbeats 400000 in
theorem node_any (n : Int) (w : World) :
    Calls Tryz.prog 44 #[.int .i64 n] w fun e w' => e = .returned (.bool (nodeB n)) ∧ w = w' := by
  go_enter Tryz.func44, Tryz.ntmps44
  go_wp2
  all_goals go_ret
  all_goals refine ⟨?_, rfl⟩
  · have h : decide (1 ≤ n) = true := decide_eq_true ‹_›
    unfold nodeB
    rw [h]; rfl
  · have h : decide (1 ≤ n) = false := decide_eq_false (by omega)
    unfold nodeB
    rw [h]; rfl

set_option maxHeartbeats 400000 in
theorem small_any (n : Int) (w : World) (h0 : 0 ≤ n) :
    Calls Tryz.prog 65 #[.int .u64 n] w fun e w' => e = .returned (.bool (smallB n)) ∧ w = w' := by
  go_enter Tryz.func65, Tryz.ntmps65
  go_wp2
  go_ret
  refine ⟨?_, rfl⟩
  have h : (n / 4294967296 == 0) = smallB n := by
    unfold smallB
    rw [Bool.eq_iff_iff]
    simp only [beq_iff_eq, decide_eq_true_eq]
    omega
  exact congrArg (fun b => Ending.returned (Value.bool b)) h

set_option maxHeartbeats 400000 in
/-- entry.Level -/
theorem level_any (e : Ent) (w : World) :
    Calls Tryz.prog 21 #[e.val] w fun x w' => x = .returned (.int .i64 (levelI e.kind)) ∧ Below w.heap.size w w' := by
  obtain ⟨term, index, kind, client, seq, block, many, node, level, data, old⟩ := e
  simp only [Ent.val, Ent.cells]
  by_cases h : kind = 11
  · subst h
    go_enter Tryz.func21, Tryz.ntmps21
    go_wp2
    go_ret
    exact ⟨rfl, (Below.refl _ _).alloc (Nat.le_refl _) _⟩
  · have h' : (kind == 11) = false := by simpa using h
    go_enter Tryz.func21, Tryz.ntmps21
    go_wp2
    go_ret
    exact ⟨by simp [levelI, h], (Below.refl _ _).alloc (Nat.le_refl _) _⟩

end Go.Proofs.YtbjbgdnjcppjhaaGreatDoor
