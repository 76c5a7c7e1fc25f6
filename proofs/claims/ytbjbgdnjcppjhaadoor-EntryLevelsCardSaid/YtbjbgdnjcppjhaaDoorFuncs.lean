/-
  slices.ContainsFunc and IndexFunc over entries: whether one of them meets what a closure asks. Condition: the closure's own contract. By an AI agent.
-/
import Derived.Test.YtbjbgdnjcppjhaaDoorOwn
import Derived.Test.YtbjbgdnjcppjhaaDoorRight
namespace Go.Proofs.YtbjbgdnjcppjhaaDoor
open Go.RowKit Go.Sort
set_option linter.unusedVariables false
set_option linter.unusedSimpArgs false

set_option maxRecDepth 100000 in
set_option maxHeartbeats 4000000 in
theorem indexEnt_any (fn : FuncId) (q : Ent → Bool) (l : List Ent) (s : Value) (hent : ∀ (args : Array Value) (W : World), (callFunc fn args).run Tryd.prog W = .ok (.enter fn args) W)
    (hq : ∀ e ∈ l, ∀ W, Calls Tryd.prog fn #[e.val] W fun x w' => x = .returned (.bool (q e)) ∧ Below W.heap.size W w') (hn : l.length ≤ 1048576) (w : World) (hs : EntsAt w s l) :
    Calls Tryd.prog 60 #[s, .func (.func fn) #[] #[]] w (Found (l.any q) w) := by
  obtain ⟨sa, sc, rfl, h2, h3, h4⟩ := hs
  have HQ := Lib.hid hq
  have H4 := Lib.hid h4
  clear hq h4
  go_enter Tryd.func60, Tryd.ntmps60
  go_wp2_with fail
  go_loopw [8] (fun i wr => ∃ k : Nat, k ≤ l.length ∧ i = .int .i64 k ∧ (l.take k).any q = false ∧ Below w.heap.size w wr) (fun i _ => l.length - (intOf i).toNat)
  case atStart => exact ⟨0, Nat.zero_le _, rfl, rfl, Below.refl _ _⟩
  case round =>
    obtain ⟨k, hk, rfl, hno, hbel⟩ := hrel
    have HN := Lib.hid hno
    clear hno
    by_cases hlt : k < l.length
    · obtain ⟨B, o', rfl, q6, q7⟩ := H4.out (by intro h0; rw [h0] at hlt; simp at hlt)
      have he := (q7 k hlt).below hbel
      have hstep : (l.take (k + 1)).any q = q l[k] := by
        rw [List.take_succ_eq_append_getElem hlt, List.any_append, HN.out]; simp
      have hall : q l[k] = true → l.any q = true := fun h => List.any_eq_true.2 ⟨l[k], List.getElem_mem _, h⟩
      have hcall := HQ.out l[k] (List.getElem_mem hlt) wr
      have HS := Lib.hid hstep
      have HA := Lib.hid hall
      clear hstep hall q7 H4 HQ
      generalize l[k] = e at *
      rw [show e.val = .agg #[.int .u64 e.term, .int .u64 e.index, .int .i64 e.kind, .int .u64 e.client, .int .u64 e.seq, .int .u64 e.block, .int .u64 e.many, .int .i64 e.node, .int .i64 e.level, .string e.data, .string e.old] from rfl] at hcall
      obtain ⟨b0, b1, b2, b3, b4, b5, b6, b7, b8, b9, b10⟩ := he
      have HC := Lib.hid hcall
      have he1 := fun args => hent args wr
      clear hcall HN
      go_wp2_with fail
      refine HC.out.mono ?_
      rintro x w1 ⟨rfl, hb2⟩
      clear b0 b1 b2 b3 b4 b5 b6 b7 b8 b9 b10 he1 HC
      cases hok : q e
      · rw [hok] at HS
        clear hok HA
        go_wp2_with fail
        go_roundw
        case rel => exact ⟨k + 1, by omega, by go_num, HS.out, hbel.trans (hb2.mono hbel.size)⟩
        case measure => simp [intOf]; omega
      · have hA := Lib.hid (HA.out hok)
        clear hok HS HA
        go_wp2_with fail
        go_ret
        exact ⟨_, rfl, by rw [hA.out]; simp, by omega, by omega, hbel.trans (hb2.mono hbel.size)⟩
    · have hno : l.any q = false := by rw [← HN.out, List.take_of_length_le (by omega)]
      have HN' := Lib.hid hno
      clear hno HN
      go_wp2_with fail
      go_ret
      exact ⟨_, rfl, by rw [HN'.out]; simp, by omega, by omega, hbel⟩

set_option maxHeartbeats 400000 in
theorem containsEnt_any (fn : FuncId) (q : Ent → Bool) (l : List Ent) (s : Value) (hent : ∀ (args : Array Value) (W : World), (callFunc fn args).run Tryd.prog W = .ok (.enter fn args) W)
    (hq : ∀ e ∈ l, ∀ W, Calls Tryd.prog fn #[e.val] W fun x w' => x = .returned (.bool (q e)) ∧ Below W.heap.size W w') (hn : l.length ≤ 1048576) (w : World) (hs : EntsAt w s l) :
    Calls Tryd.prog 49 #[s, .func (.func fn) #[] #[]] w fun x w' => x = .returned (.bool (l.any q)) ∧ Below w.heap.size w w' := by
  have H := Lib.hid (indexEnt_any fn q l s hent hq hn w hs)
  clear hs hq
  go_enter Tryd.func49, Tryd.ntmps49
  go_wp2_with fail
  refine H.out.mono ?_
  rintro e w1 ⟨r, rfl, hr, h1, h2, hbel⟩
  have HR := Lib.hid hr
  clear hr
  go_wp2
  all_goals go_ret
  all_goals exact ⟨by rw [← HR.out]; simp; try omega, hbel⟩

/-- the closure of entry.MsgRight: an entry that is not right -/
theorem wrong_any (e : Ent) (h : e.wf) (w : World) : Calls Tryd.prog 50 #[e.val] w fun x w' => x = .returned (.bool (!rightB e)) ∧ Below w.heap.size w w' := by
  have hr := fun W => right_any e h W
  rw [show e.val = .agg #[.int .u64 e.term, .int .u64 e.index, .int .i64 e.kind, .int .u64 e.client, .int .u64 e.seq, .int .u64 e.block, .int .u64 e.many, .int .i64 e.node, .int .i64 e.level, .string e.data, .string e.old] from rfl] at *
  generalize rightB e = r at *
  have HR := Lib.hid hr
  clear hr h
  go_enter Tryd.func50, Tryd.ntmps50
  go_wp2_with fail
  refine (HR.out _).mono ?_
  rintro x w1 ⟨rfl, hb⟩
  go_wp2_with fail
  go_ret
  exact ⟨rfl, ((Below.refl _ _).alloc (Nat.le_refl _) _).trans (hb.mono (by simp))⟩
/-- the closure of entry.MsgLevel: an entry of the highest level -/
theorem high_any (e : Ent) (w : World) : Calls Tryd.prog 51 #[e.val] w fun x w' => x = .returned (.bool (decide (e.kind = 11))) ∧ Below w.heap.size w w' := by
  have hr := fun W => level_any e W
  have hl : (levelI e.kind == 2) = decide (e.kind = 11) := by
    unfold levelI
    split
    · rename_i h; simp [h]
    · rename_i h; simp [h]
  rw [show e.val = .agg #[.int .u64 e.term, .int .u64 e.index, .int .i64 e.kind, .int .u64 e.client, .int .u64 e.seq, .int .u64 e.block, .int .u64 e.many, .int .i64 e.node, .int .i64 e.level, .string e.data, .string e.old] from rfl] at *
  have HR := Lib.hid hr
  have HL := Lib.hid hl
  clear hr hl
  go_enter Tryd.func51, Tryd.ntmps51
  go_wp2_with fail
  refine (HR.out _).mono ?_
  rintro x w1 ⟨rfl, hb⟩
  go_wp2_with fail
  go_ret
  exact ⟨by rw [← HL.out]; rfl, ((Below.refl _ _).alloc (Nat.le_refl _) _).trans (hb.mono (by simp))⟩
theorem wrong_enters (args : Array Value) (W : World) : (callFunc 50 args).run Tryd.prog W = .ok (.enter 50 args) W := enters_of Tryd.func50 (by kernel_rfl) rfl args W
theorem high_enters (args : Array Value) (W : World) : (callFunc 51 args).run Tryd.prog W = .ok (.enter 51 args) W := enters_of Tryd.func51 (by kernel_rfl) rfl args W

end Go.Proofs.YtbjbgdnjcppjhaaDoor
