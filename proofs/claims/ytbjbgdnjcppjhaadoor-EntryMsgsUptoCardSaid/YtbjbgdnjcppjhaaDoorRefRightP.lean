/-
  PLAIN: what is right, asked in the order in which pintleref04.Right asks it. No condition. By an AI agent.
-/
import Derived.Test.YtbjbgdnjcppjhaaDoorPlain
namespace Go.Proofs.YtbjbgdnjcppjhaaDoor

def askC (q : Bool) (c s : Int) : Bool := (q != decide (0 < c)) || (!q && decide (0 < s))
def askBMDO (e : Ent) (qb qm qd qo : Bool) : Bool := (!qb && decide (0 < e.block)) || (!qm && decide (0 < e.many)) || (!qd && !decide (e.data.size = 0)) || (!qo && !decide (e.old.size = 0))
def askN (q : Bool) (n : Int) : Bool := (q && (decide (n < 1) || decide (7 < n))) || (!q && !decide (n = 0))
def askL (q : Bool) (l : Int) : Bool := (q && (decide (l = 1) || decide (l = 2))) || (!q && decide (l = 0))
/-- sizes and numbers that are too great -/
def bigB (e : Ent) : Bool := decide (64 < e.data.size) || decide (64 < e.old.size) || decide (4294967296 ≤ e.block) || decide (4294967296 ≤ e.many)

theorem isEmpty_size (s : ByteArray) : s.toList.isEmpty = decide (s.size = 0) := by
  rw [ByteArray.toList_eq]
  have : s.size = s.data.toList.length := rfl
  rw [this]
  cases s.data.toList <;> simp
theorem emptyR {s : ByteArray} (h : s.size = 0) : s.toList.isEmpty = true := by rw [isEmpty_size, decide_eq_true h]
theorem fullR {s : ByteArray} (h : ¬ s.size = 0) : s.toList.isEmpty = false := by rw [isEmpty_size, decide_eq_false h]
theorem ask_c (q : Bool) (c s : Int) : (if q = true then decide (0 < c) else !(decide (0 < c) || decide (0 < s))) = !askC q c s := by
  unfold askC
  cases q <;> cases decide (0 < c) <;> cases decide (0 < s) <;> rfl
theorem ask_b (q : Bool) (b : Int) : (if q = true then smallB b else !decide (0 < b)) = (!decide (4294967296 ≤ b) && !(!q && decide (0 < b))) := by
  unfold smallB
  by_cases h1 : 0 < b
  · by_cases h2 : b < 4294967296
    · rw [decide_eq_true h1, decide_eq_true h2, decide_eq_false (show ¬ 4294967296 ≤ b by omega)]; cases q <;> rfl
    · rw [decide_eq_true h1, decide_eq_false h2, decide_eq_true (show 4294967296 ≤ b by omega)]; cases q <;> rfl
  · rw [decide_eq_false h1, decide_eq_true (show b < 4294967296 by omega), decide_eq_false (show ¬ 4294967296 ≤ b by omega)]; cases q <;> rfl
theorem ask_d (q : Bool) (n : Nat) : (if q = true then decide (n ≤ 64) else !(!decide (n = 0))) = (!decide (64 < n) && !(!q && !decide (n = 0))) := by
  by_cases h1 : n = 0
  · rw [decide_eq_true h1, decide_eq_true (show n ≤ 64 by omega), decide_eq_false (show ¬ 64 < n by omega)]; cases q <;> rfl
  · by_cases h2 : n ≤ 64
    · rw [decide_eq_false h1, decide_eq_true h2, decide_eq_false (show ¬ 64 < n by omega)]; cases q <;> rfl
    · rw [decide_eq_false h1, decide_eq_false h2, decide_eq_true (show 64 < n by omega)]; cases q <;> rfl
theorem ask_n (q : Bool) (n : Int) : (if q = true then nodeB n else !(!decide (n = 0))) = !askN q n := by
  unfold nodeB askN
  by_cases h1 : n < 1
  · rw [decide_eq_true h1, decide_eq_false (show ¬ 1 ≤ n by omega)]; cases q <;> cases decide (n = 0) <;> cases decide (n ≤ 7) <;> cases decide (7 < n) <;> rfl
  · by_cases h2 : n ≤ 7
    · rw [decide_eq_false h1, decide_eq_true h2, decide_eq_true (show 1 ≤ n by omega), decide_eq_false (show ¬ 7 < n by omega)]; cases q <;> cases decide (n = 0) <;> rfl
    · rw [decide_eq_false h1, decide_eq_false h2, decide_eq_true (show 1 ≤ n by omega), decide_eq_true (show 7 < n by omega)]; cases q <;> cases decide (n = 0) <;> rfl
theorem ask_l (q : Bool) (l : Int) : (if q = true then (decide (l = 1) || decide (l = 2)) else !(!decide (l = 0))) = askL q l := by
  unfold askL
  cases q <;> cases decide (l = 1) <;> cases decide (l = 2) <;> cases decide (l = 0) <;> rfl

/-- what is right, as pintleref04 asks it -/
theorem rightB_asked (e : Ent) (q : UInt8 → Bool) (hq : ∀ c, q c = (entL e.kind).contains c) :
    rightB e = (entOk e.kind && decide (0 < e.term) && decide (0 < e.index) && !bigB e && !askC (q 99) e.client e.seq && !askBMDO e (q 98) (q 109) (q 100) (q 111) && !askN (q 110) e.node && askL (q 108) e.level) := by
  unfold rightB
  have hf : fitB (entL e.kind) e.flds = ((if q 99 = true then decide (0 < e.client) else !(decide (0 < e.client) || decide (0 < e.seq))) && ((if q 98 = true then smallB e.block else !decide (0 < e.block)) && ((if q 109 = true then smallB e.many else !decide (0 < e.many)) &&
      ((if q 110 = true then nodeB e.node else !(!decide (e.node = 0))) && ((if q 108 = true then (decide (e.level = 1) || decide (e.level = 2)) else !(!decide (e.level = 0))) && ((if q 100 = true then decide (e.data.size ≤ 64) else !(!decide (e.data.size = 0))) &&
      ((if q 111 = true then decide (e.old.size ≤ 64) else !(!decide (e.old.size = 0))) && true))))))) := by
    unfold fitB Ent.flds
    simp only [List.all_cons, List.all_nil, fldOk, hq]
  rw [hf, ask_c, ask_b, ask_b, ask_n, ask_l, ask_d, ask_d]
  unfold bigB askBMDO
  generalize entOk e.kind = a0
  generalize decide (0 < e.term) = a1
  generalize decide (0 < e.index) = a2
  generalize askC (q 99) e.client e.seq = a3
  generalize decide (4294967296 ≤ e.block) = a4
  generalize decide (4294967296 ≤ e.many) = a5
  generalize (!q 98 && decide (0 < e.block)) = a6
  generalize (!q 109 && decide (0 < e.many)) = a7
  generalize askN (q 110) e.node = a8
  generalize askL (q 108) e.level = a9
  generalize decide (64 < e.data.size) = b0
  generalize decide (64 < e.old.size) = b1
  generalize (!q 100 && !decide (e.data.size = 0)) = b2
  generalize (!q 111 && !decide (e.old.size = 0)) = b3
  clear hf
  cases a0 <;> cases a1 <;> cases a2 <;> cases a3 <;> simp <;> cases a4 <;> cases a5 <;> cases a6 <;> cases a7 <;> simp <;> cases b0 <;> cases b1 <;> cases b2 <;> cases b3 <;> simp <;> cases a8 <;> rfl

end Go.Proofs.YtbjbgdnjcppjhaaDoor
