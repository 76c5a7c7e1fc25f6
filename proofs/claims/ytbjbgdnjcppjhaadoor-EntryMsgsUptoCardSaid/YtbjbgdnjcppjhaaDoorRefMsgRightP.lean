/-
  PLAIN: what message is right, asked in the order in which pintleref04.MsgRight asks it. No condition. By an AI agent.
-/
import Derived.Test.YtbjbgdnjcppjhaaDoorRefRightP
namespace Go.Proofs.YtbjbgdnjcppjhaaDoor

def ask4 (m : Msg) (qi qp qt qk : Bool) : Bool := (!qi && decide (0 < m.index)) || (!qp && decide (0 < m.prev)) || (!qt && decide (0 < m.commit)) || (!qk && decide (0 < m.mark))
def ask3 (m : Msg) (qy qe qs : Bool) : Bool := (qy || !m.ok) && (qe || decide (m.entries.length = 0)) && (qs || decide (m.snap.size = 0))

theorem ask_one (q b : Bool) : (if q = true then true else !b) = !(!q && b) := by cases q <;> cases b <;> rfl
theorem ask_y (q b : Bool) : (if q = true then true else !b) = (q || !b) := by cases q <;> cases b <;> rfl
theorem ask_e (q : Bool) (l : List Ent) : (if q = true then (decide (l.length ≤ 64) && l.all rightB) else !decide (0 < l.length)) = (decide (l.length ≤ 64) && l.all rightB && (q || decide (l.length = 0))) := by
  cases l with
  | nil => cases q <;> rfl
  | cons x r => cases q <;> simp
theorem ask_s (q : Bool) (n : Nat) : (if q = true then decide (n ≤ 16384) else !(!decide (n = 0))) = (decide (n ≤ 16384) && (q || decide (n = 0))) := by
  by_cases h : n = 0
  · subst h; cases q <;> rfl
  · rw [decide_eq_false h]; cases q <;> simp

theorem msgRightB_asked (m : Msg) (q : UInt8 → Bool) (hq : ∀ c, q c = (msgL m.kind).contains c) :
    msgRightB m = (msgOk m.kind && nodeB m.frm && nodeB m.to && decide (m.entries.length ≤ 64) && decide (m.snap.size ≤ 16384) && m.entries.all rightB && !ask4 m (q 105) (q 112) (q 116) (q 107) && ask3 m (q 121) (q 101) (q 115)) := by
  unfold msgRightB
  have hf : fitB (msgL m.kind) m.flds = ((if q 105 = true then true else !decide (0 < m.index)) && ((if q 112 = true then true else !decide (0 < m.prev)) && ((if q 116 = true then true else !decide (0 < m.commit)) &&
      ((if q 107 = true then true else !decide (0 < m.mark)) && ((if q 121 = true then true else !m.ok) && ((if q 101 = true then (decide (m.entries.length ≤ 64) && m.entries.all rightB) else !decide (0 < m.entries.length)) &&
      ((if q 115 = true then decide (m.snap.size ≤ 16384) else !(!decide (m.snap.size = 0))) && true))))))) := by
    unfold fitB Msg.flds
    simp only [List.all_cons, List.all_nil, fldOk, hq]
  rw [hf, ask_one, ask_one, ask_one, ask_one, ask_y, ask_e, ask_s]
  unfold ask4 ask3
  generalize msgOk m.kind = a0
  generalize nodeB m.frm = a1
  generalize nodeB m.to = a2
  generalize decide (m.entries.length ≤ 64) = a3
  generalize m.entries.all rightB = a4
  generalize decide (m.snap.size ≤ 16384) = a5
  generalize (!q 105 && decide (0 < m.index)) = a6
  generalize (!q 112 && decide (0 < m.prev)) = a7
  generalize (!q 116 && decide (0 < m.commit)) = a8
  generalize (!q 107 && decide (0 < m.mark)) = a9
  generalize (q 121 || !m.ok) = b0
  generalize (q 101 || decide (m.entries.length = 0)) = b1
  generalize (q 115 || decide (m.snap.size = 0)) = b2
  clear hf
  cases a0 <;> cases a1 <;> cases a2 <;> simp <;> cases a3 <;> cases a4 <;> cases a5 <;> simp <;> cases a6 <;> cases a7 <;> cases a8 <;> cases a9 <;> simp <;> cases b0 <;> cases b1 <;> rfl

end Go.Proofs.YtbjbgdnjcppjhaaDoor
