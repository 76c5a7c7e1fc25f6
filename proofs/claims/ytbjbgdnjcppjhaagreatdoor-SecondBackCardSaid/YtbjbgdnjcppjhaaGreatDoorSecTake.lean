/-
  second.number[uint64]'s take closure: a number is read into the target. Conditions: as each theorem says. By an AI agent.
-/
import Derived.Test.YtbjbgdnjcppjhaaGreatDoorSecNum
namespace Go.Proofs.YtbjbgdnjcppjhaaGreatDoor
open Go.RowKit Go.Sort
set_option linter.unusedVariables false
set_option linter.unusedSimpArgs false

/-- what a number's take leaves of the reader -/
def takeN (r : Rd) : Nat × Rd := ((rdVar r).1, if (rdVar r).1 = 0 then rdFail else (rdVar r).2)

/-- all is as it was, but for two blocks, and new blocks -/
structure But2 (b e : Nat) (w w' : World) : Prop where
  os : w'.os = w.os
  tape : w'.tape = w.tape
  output : w'.output = w.output
  size : w.heap.size ≤ w'.heap.size
  block : ∀ k, k < w.heap.size → k ≠ b → k ≠ e → w'.heap[k]? = w.heap[k]?
theorem But2.ofBut {b e : Nat} {w w' : World} (h : But b w w') : But2 b e w w' := ⟨h.os, h.tape, h.output, h.size, fun k hk h1 _ => h.block k hk (fun h2 => h1 (Option.some.inj h2))⟩
theorem But2.set {b e o : Nat} {w : World} {v : Value} : But2 b e w (w.setCell ⟨e, o, none⟩ v) := by
  refine ⟨rfl, rfl, rfl, by simp [World.setCell], fun k _ _ h2 => ?_⟩
  have : e ≠ k := fun h => h2 h.symm
  simp [World.setCell, Array.getElem?_modify, this]
theorem But2.trans {b e : Nat} {w w' w'' : World} (h : But2 b e w w') (g : But2 b e w' w'') : But2 b e w w'' :=
  ⟨g.os.trans h.os, g.tape.trans h.tape, g.output.trans h.output, Nat.le_trans h.size g.size, fun k hk h1 h2 => (g.block k (Nat.lt_of_lt_of_le hk h.size) h1 h2).trans (h.block k hk h1 h2)⟩

set_option maxRecDepth 100000 in
set_option maxHeartbeats 4000000 in
theorem numU_take (b c e o : Nat) (r : Rd) (cs : Array Value) (t t2 : TypeId) (old : Int) (hbe : b ≠ e) (hbc : b ≠ c) (hce : c ≠ e) (hl : r.1.length ≤ 1099511627776) (w : World) (h : RdAt w b r) (hp : PtrAt w c e o t)
    (ht : w.heap[e]? = some (.cells cs t2 (0, 0))) (hold : cs[o]? = some (.int .u64 old)) :
    Calls Tryz.prog 103 #[.pointer (some ⟨b, 0, none⟩), .pointer (some ⟨c, 0, none⟩)] w fun x w' => x = .returned (.tuple #[]) ∧ RdAt w' b (takeN r).2 ∧
      w'.heap[e]? = some (.cells (cs.setIfInBounds o (.int .u64 (takeN r).1)) t2 (0, 0)) ∧ But2 b e w w' := by
  have hlc : c < w.heap.size := (Array.getElem?_eq_some_iff.1 hp).1
  have hle : e < w.heap.size := (Array.getElem?_eq_some_iff.1 ht).1
  have HV := Lib.hid (var_any b r hl w h)
  have hdef : takeN r = ((rdVar r).1, if (rdVar r).1 = 0 then rdFail else (rdVar r).2) := rfl
  generalize takeN r = y at *
  subst hdef
  generalize rdVar r = x at *
  obtain ⟨n, r2⟩ := x
  clear h
  go_enter Tryz.func103, Tryz.ntmps103
  go_wp2_with fail
  refine HV.out.mono ?_
  rintro x w1 ⟨rfl, h1, hb1⟩
  have hp1 : PtrAt w1 c e o t := (hb1.block c hlc (fun h => hbc (Option.some.inj h).symm)).trans hp
  have ht1 := (hb1.block e hle (fun h => hbe (Option.some.inj h).symm)).trans ht
  have p0 : w1.cell? ⟨c, 0, none⟩ = some (.pointer (some ⟨e, o, none⟩)) := Lib.cell_of_heap hp1 0
  have q0 : w1.cell? ⟨e, o, none⟩ = some (.int .u64 old) := (Lib.cell_of_heap ht1 o).trans hold
  have f0 : w1.frozen? ⟨e, o, none⟩ = false := Lib.frozen_of_heap ht1 o
  have HH1 := Lib.hid h1
  have HT1 := Lib.hid ht1
  have HB1 := Lib.hid hb1
  clear h1 ht1 hb1 hp1 hp ht
  have hset : (w1.setCell ⟨e, o, none⟩ (.int .u64 n)).heap[e]? = some (.cells (cs.setIfInBounds o (.int .u64 n)) t2 (0, 0)) := by
    simp [World.setCell, Array.getElem?_modify, HT1.out]
  have hrd : RdAt (w1.setCell ⟨e, o, none⟩ (.int .u64 n)) b r2 := by
    have h := HH1.out
    unfold RdAt at h ⊢
    simp [World.setCell, Array.getElem?_modify, h, Ne.symm hbe]
  have HSET := Lib.hid hset
  have HRD := Lib.hid hrd
  have HB2 := Lib.hid ((But2.ofBut HB1.out : But2 b e w w1).trans (But2.set (v := .int .u64 n) (o := o)))
  clear hset hrd
  by_cases hn : n = 0
  · have HN := Lib.hid hn
    have hz : ((n : Int) == 0) = true := by rw [hn]; rfl
    clear hn
    go_wp2_with fail
    refine (fail_any b r2 _ HRD.out).mono ?_
    rintro x w2 ⟨rfl, h2, hb2⟩
    have h4 := (hb2.block e (by have := (Array.getElem?_eq_some_iff.1 HSET.out).1; exact this) (fun h => hbe (Option.some.inj h).symm)).trans HSET.out
    go_wp2_with fail
    refine ⟨rfl, .tuple #[], results_none rfl _ _ _, rfl, ?_, ?_, HB2.out.trans (But2.ofBut hb2)⟩
    · first | exact h2 | (rw [if_pos HN.out]; exact h2)
    · rw [HN.out] at h4
      exact h4
  · have HN := Lib.hid hn
    have hz : ((n : Int) == 0) = false := beq_eq_false_iff_ne.2 (by omega)
    clear hn
    go_wp2_with fail
    refine ⟨rfl, .tuple #[], results_none rfl _ _ _, rfl, ?_, HSET.out, HB2.out⟩
    first | exact HRD.out | (rw [if_neg HN.out]; exact HRD.out)

end Go.Proofs.YtbjbgdnjcppjhaaGreatDoor
