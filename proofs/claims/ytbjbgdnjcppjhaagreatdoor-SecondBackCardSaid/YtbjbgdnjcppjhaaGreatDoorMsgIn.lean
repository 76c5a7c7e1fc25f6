/-
  A message in a block, its entries in a row; a result's cell beside a plain result. Conditions: as each theorem says. By an AI agent.
-/
import Derived.Test.YtbjbgdnjcppjhaaGreatDoorNoteP
import Derived.Test.YtbjbgdnjcppjhaaGreatDoorVar
import Derived.Laws.ResultCell
namespace Go.Proofs.YtbjbgdnjcppjhaaGreatDoor
open Go.RowKit Go.Sort
set_option linter.unusedVariables false
set_option linter.unusedSimpArgs false

theorem own_not {w : World} {base size n b : Nat} {e : TypeId} {v : Value} {xs : List Value} (h : w.ownsRow base e size v n xs) (hb : b < base) : v.ownBlock = none ∨ v.ownBlock ≠ some b := by
  cases hv : v.ownBlock with
  | none => exact .inl rfl
  | some x =>
    refine .inr (fun h2 => ?_)
    cases h2
    have := (h.lt _ hv).1
    omega

/-- a message lies in block e; its entries in a row from n on -/
structure MsgIn (n e : Nat) (m : Msg) (v : Value) (w : World) : Prop where
  block : w.heap[e]? = some (.cells (m.cells v) MsgT (0, 0))
  row : w.ownsRow n EntT 11 v m.entries.length (m.entries.flatMap fun e => e.cells.toList)
theorem MsgIn.slice {n e : Nat} {m : Msg} {v : Value} {w : World} (h : MsgIn n e m v w) : ∃ a c, v = .slice a m.entries.length c := by
  rcases h.row.2 with ⟨hv, h0⟩ | ⟨g, cap, cur, hv, _⟩
  · exact ⟨none, 0, by rw [hv, h0]⟩
  · exact ⟨_, _, hv⟩
theorem MsgIn.but {n b e : Nat} {m : Msg} {v : Value} {w w' : World} (h : MsgIn n e m v w) (hb : But b w w') (hbn : b < n) (hbe : b ≠ e) : MsgIn n e m v w' :=
  ⟨(hb.block e (heap_lt h.block) (fun h => hbe (Option.some.inj h).symm)).trans h.block, h.row.kept hb (own_not h.row hbn)⟩

theorem results_cell_row_tmp {P : Program} {fn : Func} {p u : Tmp} {ty : TypeId} (h : fn.results = #[.cell p ty, .tmp u]) (tmps : Array Value) (w : World) (g : Nat) (t : TypeId) (cs : Array Value) (fr : Nat × Nat) (d : TypeDesc)
    (hp : tmps.getD p undef = .pointer (some ⟨g, 0, none⟩)) (hg : w.heap[g]? = some (.cells cs t fr))
    (hu : P.underlying ty = some d) (hd : (match d with | .struct _ | .array _ _ => true | _ => false) = true) (hi : (P.info? ty).map (·.size) = some cs.size) :
    (results fn tmps).run P w = .ok (.tuple #[.agg cs, tmps.getD u undef]) w := by
  have hp' : tmps[p]?.getD undef = .pointer (some ⟨g, 0, none⟩) := by simpa using hp
  rw [results_cell_tmp h]
  simp [hp', asAddr, run_loadVar_row w g t ty cs fr d hg hu hd hi]

end Go.Proofs.YtbjbgdnjcppjhaaGreatDoor
