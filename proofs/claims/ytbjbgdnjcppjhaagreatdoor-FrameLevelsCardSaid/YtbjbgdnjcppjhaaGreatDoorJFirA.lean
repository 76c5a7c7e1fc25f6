/-
  PLAIN: numbers of so many bytes (varint.Fixed), readers one behind the other; what was put is read; a reader that reads from s reads the same from s ++ q, and leaves q. No program is imported. Conditions: as each theorem says. By an AI agent.
-/
import Derived.Test.YtbjbgdnjcppjhaaGreatDoorSecP
import Derived.Test.YtbjbgdnjcppjhaaGreatDoorNoteP
import Derived.Lib.TrimByte
namespace Go.Proofs.YtbjbgdnjcppjhaaGreatDoor
set_option linter.unusedSimpArgs false
set_option linter.unusedVariables false

/-- a number's lowest bytes, the greatest first -/
def fixL : Nat → Nat → List UInt8
  | 0, _ => []
  | k + 1, n => UInt8.ofNat (n / 256 ^ k % 256) :: fixL k n
def unfix (s : List UInt8) : Nat := s.foldl (fun a b => a * 256 + b.toNat) 0
theorem fixL_length : ∀ (k n : Nat), (fixL k n).length = k
  | 0, _ => rfl
  | k + 1, n => by rw [fixL, List.length_cons, fixL_length k n]
theorem unfix_from : ∀ (k n a : Nat), (fixL k n).foldl (fun a b => a * 256 + b.toNat) a = a * 256 ^ k + n % 256 ^ k := by
  intro k
  induction k with
  | zero => intro n a; simp [fixL, Nat.mod_one]
  | succ k ih =>
    intro n a
    rw [fixL, List.foldl_cons, ih, byte_val _ (Nat.mod_lt _ (by decide)), Nat.mod_pow_succ, Nat.pow_succ, Nat.add_mul]
    rw [Nat.mul_assoc, Nat.mul_comm 256 (256 ^ k), Nat.mul_comm (n / 256 ^ k % 256)]
    omega
theorem unfix_fix (k n : Nat) (h : n < 256 ^ k) : unfix (fixL k n) = n := by
  unfold unfix
  rw [unfix_from, Nat.mod_eq_of_lt h]
  omega
theorem unfix_lt_from : ∀ (s : List UInt8) (a : Nat), s.foldl (fun a b => a * 256 + b.toNat) a < (a + 1) * 256 ^ s.length := by
  intro s
  induction s with
  | nil => intro a; simp
  | cons b s ih =>
    intro a
    have h1 := ih (a * 256 + b.toNat)
    have hb := UInt8.toNat_lt b
    rw [List.foldl_cons, List.length_cons, Nat.pow_succ]
    refine Nat.lt_of_lt_of_le h1 ?_
    have : (a * 256 + b.toNat + 1) ≤ (a + 1) * 256 := by omega
    calc (a * 256 + b.toNat + 1) * 256 ^ s.length ≤ ((a + 1) * 256) * 256 ^ s.length := Nat.mul_le_mul_right _ this
      _ = (a + 1) * (256 ^ s.length * 256) := by rw [Nat.mul_assoc, Nat.mul_comm 256]
theorem unfix_lt (s : List UInt8) : unfix s < 256 ^ s.length := by
  have := unfix_lt_from s 0
  simpa [unfix] using this

/-- what reads -/
abbrev Rdr (α : Type) := Rd → α × Rd
structure FineR {α : Type} (a : Rdr α) : Prop where
  shrink : ∀ r, (a r).2.1.length ≤ r.1.length
  bad : ∀ u, (a (u, true)).2.2 = true
  pre : ∀ u q x u', a (u, false) = (x, (u', false)) → a (u ++ q, false) = (x, (u' ++ q, false))
def bindR {α β : Type} (a : Rdr α) (f : α → Rdr β) : Rdr β := fun r => f (a r).1 (a r).2
def pureR {α : Type} (x : α) : Rdr α := fun r => (x, r)
theorem fine_pure {α : Type} (x : α) : FineR (pureR x) := ⟨fun r => Nat.le_refl _, fun u => rfl, fun u q y u' h => by
  unfold pureR at h ⊢
  simp only [Prod.mk.injEq] at h ⊢
  exact ⟨h.1, by rw [h.2.1], trivial⟩⟩
theorem FineR.stays {α : Type} {a : Rdr α} (h : FineR a) (r : Rd) (hb : r.2 = true) : (a r).2.2 = true := by
  obtain ⟨u, b⟩ := r
  simp only at hb
  subst hb
  exact h.bad u
theorem fine_bind {α β : Type} {a : Rdr α} {f : α → Rdr β} (ha : FineR a) (hf : ∀ x, FineR (f x)) : FineR (bindR a f) := by
  refine ⟨fun r => Nat.le_trans ((hf _).shrink _) (ha.shrink r), fun u => (hf _).stays _ (ha.bad u), fun u q y u' h => ?_⟩
  unfold bindR at h ⊢
  rcases rd_cases (a (u, false)).2 with hb | hb
  · have := (hf (a (u, false)).1).stays _ hb
    rw [h] at this
    cases this
  · have hx : a (u, false) = ((a (u, false)).1, ((a (u, false)).2.1, false)) := by
      conv => lhs; rw [← Prod.eta (a (u, false))]
      rw [hb]
    rw [ha.pre _ q _ _ hx]
    rw [hx] at h
    exact (hf _).pre _ q _ _ h
theorem rdBytes_shrink (n : Nat) (r : Rd) : (rdBytes n r).2.1.length ≤ r.1.length := by
  unfold rdBytes
  split
  · simp [rdFail]
  · simp
theorem fine_bytes (n : Nat) : FineR (rdBytes n) := by
  refine ⟨rdBytes_shrink n, fun u => ?_, fun u q x u' h => ?_⟩
  · unfold rdBytes
    rw [if_pos (.inl rfl)]
    rfl
  · unfold rdBytes at h ⊢
    split at h
    · simp [rdFail] at h
    · rename_i hc
      simp only [not_or, Nat.not_lt] at hc
      simp only [Prod.mk.injEq] at h
      rw [if_neg (by simp; omega)]
      simp only
      rw [List.take_append_of_le_length hc.2, List.drop_append_of_le_length hc.2, h.1, h.2.1]
def rdFix (k : Nat) : Rdr Nat := fun r => (unfix (rdBytes k r).1, (rdBytes k r).2)
theorem fine_fix (k : Nat) : FineR (rdFix k) := by
  have h := fine_bytes k
  refine ⟨h.shrink, h.bad, fun u q x u' hx => ?_⟩
  unfold rdFix at hx ⊢
  simp only [Prod.mk.injEq] at hx
  have := h.pre u q (rdBytes k (u, false)).1 u' (by rw [← hx.2])
  rw [this, hx.1]
theorem rdBytes_back (s t : List UInt8) : rdBytes s.length (s ++ t, false) = (s, (t, false)) := by
  unfold rdBytes
  rw [if_neg (by simp)]
  simp
theorem rdFix_back (k n : Nat) (h : n < 256 ^ k) (t : List UInt8) : rdFix k (fixL k n ++ t, false) = (n, (t, false)) := by
  have := rdBytes_back (fixL k n) t
  rw [fixL_length] at this
  unfold rdFix
  rw [this, unfix_fix k n h]
theorem rdFix_lt (k : Nat) (r : Rd) : (rdFix k r).1 < 256 ^ k := by
  unfold rdFix rdBytes
  split
  · exact Nat.pow_pos (by decide)
  · have h := unfix_lt (r.1.take k)
    refine Nat.lt_of_lt_of_le h (Nat.pow_le_pow_right (by decide) (by simp; omega))

end Go.Proofs.YtbjbgdnjcppjhaaGreatDoor

/-
  PLAIN: an entry's and a message's bytes of a fixed size (first), put and got; a message's bytes, cut, or with a 0 behind, are none. No program is imported but by name. Conditions: as each theorem says. By an AI agent.
-/
namespace Go.Proofs.YtbjbgdnjcppjhaaGreatDoor
open Go.RowKit
set_option linter.unusedSimpArgs false
set_option linter.unusedVariables false

def zeroB (d : List UInt8) : Bool := (Lib.trimB d 0).isEmpty
theorem zeroB_zeros (k : Nat) : zeroB (List.replicate k 0) = true := by
  have h : ∀ k, (List.replicate k (0 : UInt8)).dropWhile (· == 0) = [] := by
    intro k
    induction k with
    | zero => rfl
    | succ k ih => rw [List.replicate_succ, List.dropWhile_cons, if_pos (by rfl)]; exact ih
  unfold zeroB Lib.trimB Lib.trimRightB Lib.trimLeftB
  rw [List.reverse_replicate, h]
  rfl

/-- an entry's fields ahead of its data, how long they are, the place of the data -/
def headF : Rdr (Ent × Nat × List UInt8) :=
  bindR (rdFix 1) fun kind => bindR (rdFix 8) fun term => bindR (rdFix 8) fun index => bindR (rdFix 8) fun client => bindR (rdFix 8) fun seq => bindR (rdFix 4) fun block => bindR (rdFix 4) fun many =>
  bindR (rdFix 1) fun node => bindR (rdFix 1) fun level => bindR (rdFix 1) fun n => bindR (rdBytes 66) fun data =>
  pureR (⟨term, index, kind, client, seq, block, many, node, level, ⟨#[]⟩, ⟨#[]⟩⟩, n, data)
theorem headF_fine : FineR headF :=
  fine_bind (fine_fix _) fun _ => fine_bind (fine_fix _) fun _ => fine_bind (fine_fix _) fun _ => fine_bind (fine_fix _) fun _ => fine_bind (fine_fix _) fun _ => fine_bind (fine_fix _) fun _ => fine_bind (fine_fix _) fun _ =>
  fine_bind (fine_fix _) fun _ => fine_bind (fine_fix _) fun _ => fine_bind (fine_fix _) fun _ => fine_bind (fine_bytes _) fun _ => fine_pure _
/-- the entry that was read, if it is right -/
def entF (x : Ent × Nat × List UInt8) : Ent := { x.1 with data := ⟨(x.2.2.take (min x.2.1 66)).toArray⟩ }
def okF (x : Ent × Nat × List UInt8) : Bool := rightB (entF x) && !decide (1 < levelI (entF x).kind) && zeroB (x.2.2.drop (min x.2.1 66))
def getF : Rdr Ent := fun r => if (headF r).2.2 = true then (Ent.zero, (headF r).2) else if okF (headF r).1 = true then (entF (headF r).1, (headF r).2) else (Ent.zero, rdFail)
theorem getF_fine : FineR getF := by
  refine ⟨fun r => ?_, fun u => ?_, fun u q x u' h => ?_⟩
  · unfold getF
    split
    · exact headF_fine.shrink r
    · split
      · exact headF_fine.shrink r
      · simp [rdFail]
  · unfold getF
    rw [if_pos (headF_fine.bad u)]
    exact headF_fine.bad u
  · unfold getF at h ⊢
    split at h
    · rename_i hb
      rw [Prod.mk.injEq] at h
      rw [h.2] at hb
      cases hb
    · rename_i hb
      split at h
      · rename_i ho
        rw [Prod.mk.injEq] at h
        have hx : headF (u, false) = ((headF (u, false)).1, (u', false)) := by rw [← h.2]
        rw [headF_fine.pre u q _ u' hx]
        simp only
        rw [if_neg (by decide), if_pos ho, h.1]
      · simp [rdFail] at h
def putF (e : Ent) : List UInt8 :=
  fixL 1 e.kind.toNat ++ (fixL 8 e.term.toNat ++ (fixL 8 e.index.toNat ++ (fixL 8 e.client.toNat ++ (fixL 8 e.seq.toNat ++ (fixL 4 e.block.toNat ++ (fixL 4 e.many.toNat ++ (fixL 1 e.node.toNat ++ (fixL 1 e.level.toNat ++ (fixL 1 e.data.size ++ (e.data.data.toList ++ List.replicate (66 - e.data.size) 0))))))))))
theorem putF_length (e : Ent) (h : e.data.size ≤ 66) : (putF e).length = 110 := by
  have hd : e.data.data.toList.length = e.data.size := rfl
  simp only [putF, List.length_append, fixL_length, List.length_replicate, hd]
  omega
theorem headF_back (e : Ent) (h : Small e) (t : List UInt8) : headF (putF e ++ t, false) = ((⟨e.term, e.index, e.kind, e.client, e.seq, e.block, e.many, e.node, e.level, ⟨#[]⟩, ⟨#[]⟩⟩, e.data.size, e.data.data.toList ++ List.replicate (66 - e.data.size) 0), (t, false)) := by
  obtain ⟨⟨a0, a1⟩, ⟨b0, b1⟩, ⟨c0, c1⟩, ⟨d0, d1⟩, ⟨e0, e1⟩, ⟨f0, f1⟩, ⟨g0, g1⟩, ⟨i0, i1⟩, ⟨j0, j1⟩, hd, ho⟩ := h
  have hl : (e.data.data.toList ++ List.replicate (66 - e.data.size) (0 : UInt8)).length = 66 := by
    have hd : e.data.data.toList.length = e.data.size := rfl
    rw [List.length_append, List.length_replicate, hd]
    omega
  have hb := rdBytes_back (e.data.data.toList ++ List.replicate (66 - e.data.size) (0 : UInt8)) t
  rw [hl] at hb
  unfold headF putF bindR pureR
  simp only [List.append_assoc]
  rw [rdFix_back 1 _ (by omega)]
  simp only
  rw [rdFix_back 8 _ (by omega)]
  simp only
  rw [rdFix_back 8 _ (by omega)]
  simp only
  rw [rdFix_back 8 _ (by omega)]
  simp only
  rw [rdFix_back 8 _ (by omega)]
  simp only
  rw [rdFix_back 4 _ (by omega)]
  simp only
  rw [rdFix_back 4 _ (by omega)]
  simp only
  rw [rdFix_back 1 _ (by omega)]
  simp only
  rw [rdFix_back 1 _ (by omega)]
  simp only
  rw [rdFix_back 1 _ (by omega)]
  simp only
  rw [← List.append_assoc, hb]
  simp only
  rw [Int.toNat_of_nonneg c0, Int.toNat_of_nonneg (show 0 ≤ e.term by omega), Int.toNat_of_nonneg (show 0 ≤ e.index by omega), Int.toNat_of_nonneg d0, Int.toNat_of_nonneg e0, Int.toNat_of_nonneg f0, Int.toNat_of_nonneg g0, Int.toNat_of_nonneg i0, Int.toNat_of_nonneg j0]
theorem getF_back (e : Ent) (h : Small e) (hr : rightB e = true) (hl : levelI e.kind = 1) (ho : e.old = ⟨#[]⟩) (t : List UInt8) : getF (putF e ++ t, false) = (e, (t, false)) := by
  have hd := h.data
  have hdl : e.data.data.toList.length = e.data.size := rfl
  have hm : min e.data.size 66 = e.data.size := by omega
  unfold getF
  rw [headF_back e h t]
  have he : entF (⟨e.term, e.index, e.kind, e.client, e.seq, e.block, e.many, e.node, e.level, ⟨#[]⟩, ⟨#[]⟩⟩, e.data.size, e.data.data.toList ++ List.replicate (66 - e.data.size) 0) = e := by
    unfold entF
    simp only [hm]
    rw [List.take_append_of_le_length (by omega), List.take_of_length_le (by omega)]
    obtain ⟨x0, x1, x2, x3, x4, x5, x6, x7, x8, x9, x10⟩ := e
    simp only at ho
    subst ho
    rfl
  have hok : okF (⟨e.term, e.index, e.kind, e.client, e.seq, e.block, e.many, e.node, e.level, ⟨#[]⟩, ⟨#[]⟩⟩, e.data.size, e.data.data.toList ++ List.replicate (66 - e.data.size) 0) = true := by
    unfold okF
    rw [he, hr, hl]
    simp only [hm]
    rw [List.drop_append_of_le_length (by omega), List.drop_of_length_le (by omega), List.nil_append, zeroB_zeros]
    rfl
  simp only
  rw [if_neg (by decide), if_pos hok, he]

/-- so many entries, while the reader does not fail -/
def entsR : Nat → Rd → List Ent × Rd
  | 0, r => ([], r)
  | n + 1, r => if r.2 = true then ([], r) else ((getF r).1 :: (entsR n (getF r).2).1, (entsR n (getF r).2).2)
theorem entsR_fine : ∀ n, FineR (entsR n) := by
  intro n
  induction n with
  | zero => exact fine_pure _
  | succ n ih =>
    have hb : FineR (bindR getF (fun e => bindR (entsR n) fun l => pureR (e :: l))) := fine_bind getF_fine fun _ => fine_bind ih fun _ => fine_pure _
    refine ⟨fun r => ?_, fun u => ?_, fun u q x u' h => ?_⟩
    · rw [entsR]
      split
      · exact Nat.le_refl _
      · exact hb.shrink r
    · rw [entsR, if_pos rfl]
    · rw [entsR, if_neg (by simp)] at h ⊢
      exact hb.pre u q x u' h
theorem entsR_snoc : ∀ (n : Nat) (r : Rd), entsR (n + 1) r = if (entsR n r).2.2 = true then entsR n r else ((entsR n r).1 ++ [(getF (entsR n r).2).1], (getF (entsR n r).2).2) := by
  intro n
  induction n with
  | zero =>
    intro r
    rw [entsR]
    simp only [entsR]
    split <;> rfl
  | succ n ih =>
    intro r
    rw [entsR]
    by_cases hr : r.2 = true
    · rw [if_pos hr]
      have : entsR (n + 1) r = ([], r) := by rw [entsR, if_pos hr]
      rw [this, if_pos hr]
    · rw [if_neg hr, ih]
      have : entsR (n + 1) r = ((getF r).1 :: (entsR n (getF r).2).1, (entsR n (getF r).2).2) := by rw [entsR, if_neg hr]
      rw [this]
      simp only
      split <;> simp
theorem entsR_stop (n : Nat) (r : Rd) (h : (entsR n r).2.2 = true) : ∀ k, entsR (n + k) r = entsR n r := by
  intro k
  induction k with
  | zero => rfl
  | succ k ih => rw [show n + (k + 1) = (n + k) + 1 by omega, entsR_snoc, ih, if_pos h]
theorem entsR_count : ∀ (n : Nat) (r : Rd), (entsR n r).1.length ≤ n := by
  intro n
  induction n with
  | zero => intro r; exact Nat.le_refl _
  | succ n ih =>
    intro r
    rw [entsR]
    split
    · simp
    · simp only [List.length_cons]
      have := ih (getF r).2
      omega
theorem entsR_back : ∀ (l : List Ent) (h : ∀ e ∈ l, Small e ∧ rightB e = true ∧ levelI e.kind = 1 ∧ e.old = ⟨#[]⟩) (t : List UInt8), entsR l.length (l.flatMap putF ++ t, false) = (l, (t, false)) := by
  intro l
  induction l with
  | nil => intro h t; rfl
  | cons e l ih =>
    intro h t
    obtain ⟨h1, h2, h3, h4⟩ := h e (List.mem_cons_self ..)
    rw [List.length_cons, entsR, if_neg (by simp), List.flatMap_cons, List.append_assoc, getF_back e h1 h2 h3 h4]
    simp only
    rw [ih (fun x hx => h x (List.mem_cons_of_mem _ hx)) t]
/-- a message's fields; yes, apart -/
def msgF : Rdr (Msg × Nat) :=
  bindR (rdFix 1) fun kind => bindR (rdFix 1) fun frm => bindR (rdFix 1) fun too => bindR (rdFix 8) fun term => bindR (rdFix 8) fun index => bindR (rdFix 8) fun prev => bindR (rdFix 8) fun commit => bindR (rdFix 8) fun mark =>
  bindR (rdFix 1) fun yes => bindR (rdFix 1) fun n => bindR (entsR n) fun l => bindR (rdFix 4) fun k => bindR (rdBytes k) fun snap =>
  pureR (⟨kind, frm, too, term, index, prev, commit, mark, yes == 1, ⟨snap.toArray⟩, l⟩, yes)
theorem msgF_fine : FineR msgF :=
  fine_bind (fine_fix _) fun _ => fine_bind (fine_fix _) fun _ => fine_bind (fine_fix _) fun _ => fine_bind (fine_fix _) fun _ => fine_bind (fine_fix _) fun _ => fine_bind (fine_fix _) fun _ => fine_bind (fine_fix _) fun _ =>
  fine_bind (fine_fix _) fun _ => fine_bind (fine_fix _) fun _ => fine_bind (fine_fix _) fun _ => fine_bind (entsR_fine _) fun _ => fine_bind (fine_fix _) fun _ => fine_bind (fine_bytes _) fun _ => fine_pure _
def getFM (s : List UInt8) : (Msg × Nat) × Rd := msgF (s, false)
def gotF (s : List UInt8) : Bool := !(getFM s).2.2 && (getFM s).2.1.isEmpty && !decide (1 < (getFM s).1.2) && msgRightB (getFM s).1.1 && !decide (1 < msgLevelI (getFM s).1.1)
def putFM (m : Msg) : List UInt8 :=
  fixL 1 m.kind.toNat ++ (fixL 1 m.frm.toNat ++ (fixL 1 m.to.toNat ++ (fixL 8 m.term.toNat ++ (fixL 8 m.index.toNat ++ (fixL 8 m.prev.toNat ++ (fixL 8 m.commit.toNat ++ (fixL 8 m.mark.toNat ++ (fixL 1 (if m.ok then 1 else 0) ++ (fixL 1 m.entries.length ++ (m.entries.flatMap putF ++ (fixL 4 m.snap.size ++ m.snap.data.toList)))))))))))
theorem msgF_back (m : Msg) (h : SmallM m) (hE : ∀ e ∈ m.entries, levelI e.kind = 1 ∧ e.old = ⟨#[]⟩) (t : List UInt8) : msgF (putFM m ++ t, false) = ((m, if m.ok then 1 else 0), (t, false)) := by
  obtain ⟨⟨a0, a1⟩, ⟨b0, b1⟩, ⟨c0, c1⟩, ⟨d0, d1⟩, ⟨e0, e1⟩, ⟨f0, f1⟩, ⟨g0, g1⟩, ⟨i0, i1⟩, hs, hc, he⟩ := h
  have hsl : m.snap.data.toList.length = m.snap.size := rfl
  have hb := rdBytes_back m.snap.data.toList t
  rw [hsl] at hb
  unfold msgF putFM bindR pureR
  simp only [List.append_assoc]
  rw [rdFix_back 1 _ (by omega)]
  simp only
  rw [rdFix_back 1 _ (by omega)]
  simp only
  rw [rdFix_back 1 _ (by omega)]
  simp only
  rw [rdFix_back 8 _ (by omega)]
  simp only
  rw [rdFix_back 8 _ (by omega)]
  simp only
  rw [rdFix_back 8 _ (by omega)]
  simp only
  rw [rdFix_back 8 _ (by omega)]
  simp only
  rw [rdFix_back 8 _ (by omega)]
  simp only
  rw [rdFix_back 1 _ (by split <;> decide)]
  simp only
  rw [rdFix_back 1 _ (by omega)]
  simp only
  rw [entsR_back m.entries (fun e hm => ⟨(he e hm).1, (he e hm).2, hE e hm⟩)]
  simp only
  rw [rdFix_back 4 _ (by omega)]
  simp only
  rw [hb]
  simp only
  rw [Int.toNat_of_nonneg (show 0 ≤ m.kind by omega), Int.toNat_of_nonneg (show 0 ≤ m.frm by omega), Int.toNat_of_nonneg (show 0 ≤ m.to by omega), Int.toNat_of_nonneg d0, Int.toNat_of_nonneg e0, Int.toNat_of_nonneg f0, Int.toNat_of_nonneg g0, Int.toNat_of_nonneg i0]
  obtain ⟨x0, x1, x2, x3, x4, x5, x6, x7, x8, x9, x10⟩ := m
  cases x8 <;> rfl
theorem gotF_back (m : Msg) (h : SmallM m) (hE : ∀ e ∈ m.entries, levelI e.kind = 1 ∧ e.old = ⟨#[]⟩) (hr : msgRightB m = true) (hl : msgLevelI m = 1) : gotF (putFM m) = true ∧ (getFM (putFM m)).1.1 = m := by
  have := msgF_back m h hE []
  rw [List.append_nil] at this
  unfold gotF getFM
  rw [this]
  refine ⟨?_, rfl⟩
  simp only [hr, hl]
  cases m.ok <;> rfl
theorem gotF_long (m : Msg) (h : SmallM m) (hE : ∀ e ∈ m.entries, levelI e.kind = 1 ∧ e.old = ⟨#[]⟩) : gotF (putFM m ++ [0]) = false := by
  unfold gotF getFM
  rw [msgF_back m h hE [0]]
  simp
theorem gotF_short (m : Msg) (h : SmallM m) (hE : ∀ e ∈ m.entries, levelI e.kind = 1 ∧ e.old = ⟨#[]⟩) (k : Nat) (hk : k < (putFM m).length) : gotF ((putFM m).take k) = false := by
  cases hg : gotF ((putFM m).take k) with
  | false => rfl
  | true =>
    exfalso
    unfold gotF getFM at hg
    simp only [Bool.and_eq_true, Bool.not_eq_true', List.isEmpty_iff] at hg
    obtain ⟨⟨⟨⟨h1, h2⟩, _⟩, _⟩, _⟩ := hg
    have hx : msgF ((putFM m).take k, false) = ((msgF ((putFM m).take k, false)).1, ([], false)) := by
      conv => lhs; rw [← Prod.eta (msgF ((putFM m).take k, false))]
      congr 1
      rw [← Prod.eta (msgF ((putFM m).take k, false)).2, h1, h2]
    have hp := msgF_fine.pre _ ((putFM m).drop k) _ _ hx
    rw [List.take_append_drop] at hp
    have hb := msgF_back m h hE []
    rw [List.append_nil] at hb
    rw [hb] at hp
    have hd := congrArg (fun x => x.2.1) hp
    simp only [List.nil_append] at hd
    have := congrArg List.length hd
    simp at this
    omega

/-! what is got is of its kinds -/
theorem fix_u8 (r : Rd) : U64 ((rdFix 8 r).1 : Int) := by
  have := rdFix_lt 8 r
  exact ⟨by omega, by omega⟩
theorem fix_u4 (r : Rd) : U64 ((rdFix 4 r).1 : Int) := by
  have := rdFix_lt 4 r
  exact ⟨by omega, by omega⟩
theorem fix_i1 (r : Rd) : I64 ((rdFix 1 r).1 : Int) := by
  have := rdFix_lt 1 r
  exact ⟨by omega, by omega⟩
theorem take_len (n : Nat) (r : Rd) : (rdBytes n r).1.length ≤ n := by
  unfold rdBytes
  split
  · simp
  · simp
    omega
theorem headF_wf (r : Rd) : (entF (headF r).1).wf ∧ (entF (headF r).1).data.size ≤ 66 := by
  have hd : (entF (headF r).1).data.size ≤ 66 := by
    show ((headF r).1.2.2.take (min (headF r).1.2.1 66)).length ≤ 66
    rw [List.length_take]
    omega
  exact ⟨⟨fix_u8 _, fix_u8 _, fix_i1 _, fix_u8 _, fix_u8 _, fix_u4 _, fix_u4 _, fix_i1 _, fix_i1 _, by omega, by show (0 : Nat) ≤ _; omega⟩, hd⟩
theorem zero_wfE : Ent.zero.wf := ⟨⟨by decide, by decide⟩, ⟨by decide, by decide⟩, ⟨by decide, by decide⟩, ⟨by decide, by decide⟩, ⟨by decide, by decide⟩, ⟨by decide, by decide⟩, ⟨by decide, by decide⟩, ⟨by decide, by decide⟩, ⟨by decide, by decide⟩, Nat.zero_le _, Nat.zero_le _⟩
theorem getF_wf (r : Rd) : (getF r).1.wf ∧ (getF r).1.data.size ≤ 66 := by
  unfold getF
  split
  · exact ⟨zero_wfE, Nat.zero_le _⟩
  · split
    · exact headF_wf r
    · exact ⟨zero_wfE, Nat.zero_le _⟩
theorem entsR_wf : ∀ (n : Nat) (r : Rd), ∀ e ∈ (entsR n r).1, e.wf := by
  intro n
  induction n with
  | zero => intro r e he; cases he
  | succ n ih =>
    intro r e he
    rw [entsR] at he
    split at he
    · cases he
    · rcases List.mem_cons.1 he with rfl | he
      · exact (getF_wf r).1
      · exact ih _ e he

end Go.Proofs.YtbjbgdnjcppjhaaGreatDoor

/-
  PLAIN: what is right and of level 1 has no old text; a message of level 1 has entries of level 1 alone. No program is imported but by name. No condition. By an AI agent.
-/
namespace Go.Proofs.YtbjbgdnjcppjhaaGreatDoor
open Go.RowKit
set_option linter.unusedSimpArgs false
set_option linter.unusedVariables false

theorem entL_old (k : Int) (h : k ≠ 11) : (entL k).contains 111 = false := by
  unfold entL
  repeat' split
  all_goals first | rfl | exact absurd ‹k = 11› h
theorem level_one {k : Int} (h : levelI k = 1) : k ≠ 11 := by
  intro h0
  subst h0
  cases h
theorem old_none (e : Ent) (hr : rightB e = true) (hl : levelI e.kind = 1) : e.old = ⟨#[]⟩ := by
  have hc := entL_old e.kind (level_one hl)
  unfold rightB at hr
  simp only [Bool.and_eq_true] at hr
  have hf := hr.2
  unfold fitB at hf
  have h1 := List.all_eq_true.1 hf (111, !decide (e.old.size = 0), decide (e.old.size ≤ 64)) (by simp [Ent.flds])
  unfold fldOk at h1
  rw [if_neg (by rw [hc]; decide)] at h1
  have hs : e.old.size = 0 := by simpa using h1
  have : e.old.data = #[] := Array.eq_empty_of_size_eq_zero hs
  exact ByteArray.ext this
theorem level_ents (m : Msg) (h : msgLevelI m = 1) : ∀ e ∈ m.entries, levelI e.kind = 1 := by
  intro e he
  unfold msgLevelI at h
  split at h
  · cases h
  · rename_i hc
    simp only [not_or] at hc
    unfold levelI
    rw [if_neg (fun h0 => hc.2.2 (List.any_eq_true.2 ⟨e, he, by simpa using h0⟩))]
theorem level_own (m : Msg) (h : SmallM m) (hl : msgLevelI m = 1) : ∀ e ∈ m.entries, levelI e.kind = 1 ∧ e.old = ⟨#[]⟩ := fun e he =>
  ⟨level_ents m hl e he, old_none e (h.each e he).2 (level_ents m hl e he)⟩
theorem level_two (m : Msg) : msgLevelI m = 1 ∨ msgLevelI m = 2 := by
  unfold msgLevelI
  split
  · exact .inr rfl
  · exact .inl rfl
theorem levelE_two (k : Int) : levelI k = 1 ∨ levelI k = 2 := by
  unfold levelI
  split
  · exact .inr rfl
  · exact .inl rfl

end Go.Proofs.YtbjbgdnjcppjhaaGreatDoor
