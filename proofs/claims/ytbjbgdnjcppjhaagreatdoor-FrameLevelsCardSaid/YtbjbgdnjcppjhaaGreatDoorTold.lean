/-
  The seven methods of entry.told over this translation. Conditions: the table of the powers of ten reads as the program lays it; the numbers are of their kinds; the two texts of at most 2^20 bytes. By an AI agent.
-/
import Derived.Test.YtbjbgdnjcppjhaaGreatDoorFit
import Derived.Test.YtbjbgdnjcppjhaaGreatDoorRegion
import Derived.Test.YtbjbgdnjcppjhaaGreatDoorIter
import Derived.BigQuiet
namespace Go.Proofs.YtbjbgdnjcppjhaaGreatDoor
open Go.RowKit Go.Sort
set_option linter.unusedVariables false
set_option linter.unusedSimpArgs false

theorem one_sum (a b : List UInt8) : ByteArray.mk a.toArray ++ ByteArray.mk b.toArray = ByteArray.mk (a ++ b).toArray := ByteArray.mk_append_mk a b

theorem dec_len (n : Int) (h0 : 0 ≤ n) (h1 : n ≤ 18446744073709551615) : (dec n).length ≤ 20 := by
  unfold dec
  rw [Lib.decDigits_length]
  by_cases hs : n.toNat < 10
  · rw [Lib.nDigits_small hs]; omega
  · have := Lib.numDigits_eq n.toNat (by omega) (by omega)
    split at this <;> omega
theorem itoa_len (n : Int) (h0 : -9223372036854775808 ≤ n) (h1 : n ≤ 9223372036854775807) : (Lib.itoa n).length ≤ 21 := by
  unfold Lib.itoa
  split
  · have := dec_len (n.natAbs : Int) (by omega) (by omega)
    unfold dec at this
    simp only [Int.toNat_natCast] at this
    simp; omega
  · have := dec_len n (by omega) (by omega)
    unfold dec at this
    omega

set_option maxRecDepth 100000 in
set_option maxHeartbeats 1000000 in
theorem told_client (e : Ent) (h : e.wf) (w : World) (ht : Tabs w) :
    Calls Tryz.prog 114 #[e.val] w fun x w' => x = .returned (.string ⟨(dec e.client ++ [47] ++ dec e.seq).toArray⟩) ∧ Below w.heap.size w w' := by
  obtain ⟨term, index, kind, client, seq, block, many, node, level, data, old⟩ := e
  obtain ⟨c0, c1⟩ := h.client
  obtain ⟨s0, s1⟩ := h.seq
  simp only [Ent.val, Ent.cells] at *
  have l1 := dec_len client c0 c1
  have l2 := dec_len seq s0 s1
  go_enter Tryz.func114, Tryz.ntmps114
  go_wp2_with fail
  have d3 := cell_regrown (show (w.alloc (.cells #[.int .u64 term, .int .u64 index, .int .i64 kind, .int .u64 client, .int .u64 seq, .int .u64 block, .int .u64 many, .int .i64 node, .int .i64 level, .string data, .string old] 166)).cell? ⟨w.heap.size, 3, none⟩ = some (.int .u64 client) by simp)
  have d4 := cell_regrown (show (w.alloc (.cells #[.int .u64 term, .int .u64 index, .int .i64 kind, .int .u64 client, .int .u64 seq, .int .u64 block, .int .u64 many, .int .i64 node, .int .i64 level, .string data, .string old] 166)).cell? ⟨w.heap.size, 4, none⟩ = some (.int .u64 seq) by simp)
  refine wp_region_quiet_below (by kernel_rfl) (by kernel_rfl) ?_
  repeat (go_big_quiet_step ((go_at_call 79; exact meetB fun W hb => number_any _ (by assumption) (by assumption) W ((ht.alloc _).next hb))))
  refine wpQuiet_nil ?_
  intro w2 hw2
  obtain ⟨p2, hw2⟩ := hw2
  have hb2 := below_regrown (w.alloc (.cells #[.int .u64 term, .int .u64 index, .int .i64 kind, .int .u64 client, .int .u64 seq, .int .u64 block, .int .u64 many, .int .i64 node, .int .i64 level, .string data, .string old] 166)) p2.d p2.os
  rw [← hw2] at hb2
  clear hw2 d3 d4
  go_wp2_with fail
  go_ret
  exact ⟨by simp [one_sum], ((Below.refl _ _).alloc (Nat.le_refl _) _).trans (hb2.mono (by simp))⟩

set_option maxRecDepth 100000 in
set_option maxHeartbeats 1000000 in
theorem told_block (e : Ent) (h : e.wf) (hd : e.data.size ≤ 1048576) (ho : e.old.size ≤ 1048576) (w : World) (ht : Tabs w) :
    Calls Tryz.prog 115 #[e.val] w fun x w' => x = .returned (.string ⟨(dec e.block).toArray⟩) ∧ Below w.heap.size w w' := by
  obtain ⟨term, index, kind, client, seq, block, many, node, level, data, old⟩ := e
  obtain ⟨h0, h1⟩ := h.block
  simp only [Ent.val, Ent.cells] at *
  go_enter Tryz.func115, Tryz.ntmps115
  go_wp2_with fail
  refine (number_any _ h0 h1 _ (ht.alloc _)).mono ?_
  rintro x w1 ⟨rfl, hb1⟩
  go_wp2_with fail
  go_ret
  exact ⟨rfl, ((Below.refl _ _).alloc (Nat.le_refl _) _).trans (hb1.mono (by simp))⟩

set_option maxRecDepth 100000 in
set_option maxHeartbeats 1000000 in
theorem told_many (e : Ent) (h : e.wf) (hd : e.data.size ≤ 1048576) (ho : e.old.size ≤ 1048576) (w : World) (ht : Tabs w) :
    Calls Tryz.prog 116 #[e.val] w fun x w' => x = .returned (.string ⟨(dec e.many).toArray⟩) ∧ Below w.heap.size w w' := by
  obtain ⟨term, index, kind, client, seq, block, many, node, level, data, old⟩ := e
  obtain ⟨h0, h1⟩ := h.many
  simp only [Ent.val, Ent.cells] at *
  go_enter Tryz.func116, Tryz.ntmps116
  go_wp2_with fail
  refine (number_any _ h0 h1 _ (ht.alloc _)).mono ?_
  rintro x w1 ⟨rfl, hb1⟩
  go_wp2_with fail
  go_ret
  exact ⟨rfl, ((Below.refl _ _).alloc (Nat.le_refl _) _).trans (hb1.mono (by simp))⟩

set_option maxRecDepth 100000 in
set_option maxHeartbeats 1000000 in
theorem told_node (e : Ent) (h : e.wf) (hd : e.data.size ≤ 1048576) (ho : e.old.size ≤ 1048576) (w : World) (ht : Tabs w) :
    Calls Tryz.prog 117 #[e.val] w fun x w' => x = .returned (.string ⟨(Lib.itoa e.node).toArray⟩) ∧ Below w.heap.size w w' := by
  obtain ⟨term, index, kind, client, seq, block, many, node, level, data, old⟩ := e
  obtain ⟨h0, h1⟩ := h.node
  simp only [Ent.val, Ent.cells] at *
  go_enter Tryz.func117, Tryz.ntmps117
  go_wp2_with fail
  refine (itoa_any _ h0 h1 _ (ht.alloc _)).mono ?_
  rintro x w1 ⟨rfl, hb1⟩
  go_wp2_with fail
  go_ret
  exact ⟨rfl, ((Below.refl _ _).alloc (Nat.le_refl _) _).trans (hb1.mono (by simp))⟩

set_option maxRecDepth 100000 in
set_option maxHeartbeats 1000000 in
theorem told_level (e : Ent) (h : e.wf) (hd : e.data.size ≤ 1048576) (ho : e.old.size ≤ 1048576) (w : World) (ht : Tabs w) :
    Calls Tryz.prog 118 #[e.val] w fun x w' => x = .returned (.string ⟨(Lib.itoa e.level).toArray⟩) ∧ Below w.heap.size w w' := by
  obtain ⟨term, index, kind, client, seq, block, many, node, level, data, old⟩ := e
  obtain ⟨h0, h1⟩ := h.level
  simp only [Ent.val, Ent.cells] at *
  go_enter Tryz.func118, Tryz.ntmps118
  go_wp2_with fail
  refine (itoa_any _ h0 h1 _ (ht.alloc _)).mono ?_
  rintro x w1 ⟨rfl, hb1⟩
  go_wp2_with fail
  go_ret
  exact ⟨rfl, ((Below.refl _ _).alloc (Nat.le_refl _) _).trans (hb1.mono (by simp))⟩

set_option maxRecDepth 100000 in
set_option maxHeartbeats 1000000 in
theorem told_data (e : Ent) (h : e.wf) (hd : e.data.size ≤ 1048576) (ho : e.old.size ≤ 1048576) (w : World) (ht : Tabs w) :
    Calls Tryz.prog 119 #[e.val] w fun x w' => x = .returned (.string ⟨(hexL e.data.data.toList).toArray⟩) ∧ Below w.heap.size w w' := by
  obtain ⟨term, index, kind, client, seq, block, many, node, level, data, old⟩ := e
  simp only [Ent.val, Ent.cells] at *
  go_enter Tryz.func119, Tryz.ntmps119
  go_wp2_with fail
  refine (hex_any _ hd _).mono ?_
  rintro x w1 ⟨rfl, hb1⟩
  go_wp2_with fail
  go_ret
  exact ⟨rfl, ((Below.refl _ _).alloc (Nat.le_refl _) _).trans (hb1.mono (by simp))⟩

set_option maxRecDepth 100000 in
set_option maxHeartbeats 1000000 in
theorem told_old (e : Ent) (h : e.wf) (hd : e.data.size ≤ 1048576) (ho : e.old.size ≤ 1048576) (w : World) (ht : Tabs w) :
    Calls Tryz.prog 120 #[e.val] w fun x w' => x = .returned (.string ⟨(hexL e.old.data.toList).toArray⟩) ∧ Below w.heap.size w w' := by
  obtain ⟨term, index, kind, client, seq, block, many, node, level, data, old⟩ := e
  simp only [Ent.val, Ent.cells] at *
  go_enter Tryz.func120, Tryz.ntmps120
  go_wp2_with fail
  refine (hex_any _ ho _).mono ?_
  rintro x w1 ⟨rfl, hb1⟩
  go_wp2_with fail
  go_ret
  exact ⟨rfl, ((Below.refl _ _).alloc (Nat.le_refl _) _).trans (hb1.mono (by simp))⟩

/-- the function that tells a letter's field -/
def toldFn (c : UInt8) : FuncId :=
  if c = 99 then 114 else if c = 98 then 115 else if c = 109 then 116 else if c = 110 then 117
  else if c = 108 then 118 else if c = 100 then 119 else 120
theorem told_any (c : UInt8) (hc : c ∈ entOrder) (e : Ent) (h : e.wf) (hd : e.data.size ≤ 1048576) (ho : e.old.size ≤ 1048576) (w : World) (ht : Tabs w) :
    Calls Tryz.prog (toldFn c) #[e.val] w fun x w' => x = .returned (.string ⟨(e.fldT c).toArray⟩) ∧ Below w.heap.size w w' := by
  simp only [entOrder, List.mem_cons, List.mem_nil_iff, or_false] at hc
  rcases hc with rfl | rfl | rfl | rfl | rfl | rfl | rfl
  · exact told_client e h w ht
  · exact told_block e h hd ho w ht
  · exact told_many e h hd ho w ht
  · exact told_node e h hd ho w ht
  · exact told_level e h hd ho w ht
  · exact told_data e h hd ho w ht
  · exact told_old e h hd ho w ht
theorem toldFn_enters (c : UInt8) (hc : c ∈ entOrder) (args : Array Value) (w : World) : (callFunc (toldFn c) args).run Tryz.prog w = .ok (.enter (toldFn c) args) w := by
  simp only [entOrder, List.mem_cons, List.mem_nil_iff, or_false] at hc
  rcases hc with rfl | rfl | rfl | rfl | rfl | rfl | rfl
  · exact enters_of Tryz.func114 (by kernel_rfl) rfl args w
  · exact enters_of Tryz.func115 (by kernel_rfl) rfl args w
  · exact enters_of Tryz.func116 (by kernel_rfl) rfl args w
  · exact enters_of Tryz.func117 (by kernel_rfl) rfl args w
  · exact enters_of Tryz.func118 (by kernel_rfl) rfl args w
  · exact enters_of Tryz.func119 (by kernel_rfl) rfl args w
  · exact enters_of Tryz.func120 (by kernel_rfl) rfl args w

/-- the table of the methods -/
def toldTab : List (Int × Value) := [(99, .func (.func 114) #[] #[]), (98, .func (.func 115) #[] #[]), (109, .func (.func 116) #[] #[]), (110, .func (.func 117) #[] #[]), (108, .func (.func 118) #[] #[]), (100, .func (.func 119) #[] #[]), (111, .func (.func 120) #[] #[])]
theorem toldTab_look (c : UInt8) (hc : c ∈ entOrder) : (toldTab.lookup (c.toNat : Int)).getD .nilFunc = .func (.func (toldFn c)) #[] #[] := by
  simp only [entOrder, List.mem_cons, List.mem_nil_iff, or_false] at hc
  rcases hc with rfl | rfl | rfl | rfl | rfl | rfl | rfl <;> rfl
theorem rune_text (c : UInt8) (hc : c ∈ entOrder) (w : World) : (convert 21 9 (.int .i32 (c.toNat : Int))).run Tryz.prog w = .ok (.string ⟨#[c]⟩) w := by
  simp only [entOrder, List.mem_cons, List.mem_nil_iff, or_false] at hc
  rcases hc with rfl | rfl | rfl | rfl | rfl | rfl | rfl <;> kernel_rfl

end Go.Proofs.YtbjbgdnjcppjhaaGreatDoor
