/-
  entry.hasRune and entry.Text over this translation. Conditions: the table of the powers of ten reads as the program lays it; the numbers are of their kinds; the two texts of at most 2^20 bytes. By an AI agent.
-/
import Derived.Test.YtbjbgdnjcppjhaaGreatDoorTold
namespace Go.Proofs.YtbjbgdnjcppjhaaGreatDoor
open Go.RowKit Go.Sort
set_option linter.unusedVariables false
set_option linter.unusedSimpArgs false

theorem take_snoc {α : Type} (l : List α) (k : Nat) (h : k < l.length) : l.take (k + 1) = l.take k ++ [l[k]] := List.take_succ_eq_append_getElem h
theorem i32_eq (a b : UInt8) : ((a.toNat : Int) == (b.toNat : Int)) = (a == b) := by
  rw [Bool.eq_iff_iff]
  simp only [beq_iff_eq]
  exact ⟨fun h => UInt8.toNat_inj.1 (by omega), fun h => by rw [h]⟩

set_option maxRecDepth 100000 in
set_option maxHeartbeats 1000000 in
theorem hasRune_any (l : List UInt8) (hl : ∀ b ∈ l, b.toNat < 128) (hn : l.length ≤ 1000) (c : UInt8) (w : World) :
    Calls Tryz.prog 121 #[.string ⟨l.toArray⟩, .int .i32 (c.toNat : Int)] w fun x w' => x = .returned (.bool (l.contains c)) ∧ Below w.heap.size w w' := by
  go_enter Tryz.func121, Tryz.ntmps121
  go_wp2
  go_loopw [] (fun w' => ∃ pos : Nat, pos ≤ l.length ∧ w' = w.iter ⟨l.toArray⟩ pos ∧ (l.take pos).contains c = false) (fun w' => l.length - w'.iterPos w.heap.size)
  case atStart => exact ⟨0, Nat.zero_le _, rfl, rfl⟩
  case round =>
    obtain ⟨pos, hp, rfl, hno⟩ := hrel
    have HN := Lib.hid hno
    clear hno
    by_cases hlt : pos < l.length
    · have hnx := fun ty => run_next_ascii (P := Tryz.prog) w ⟨l.toArray⟩ pos ty hlt (hl l[pos] (List.getElem_mem hlt))
      have hb : (ByteArray.mk l.toArray)[pos]'hlt = l[pos] := rfl
      simp only [hb] at hnx
      have hst : (l.take (pos + 1)).contains c = (l[pos] == c) := by
        rw [take_snoc l pos hlt, List.contains_append, HN.out]
        rw [Bool.eq_iff_iff]
        simp only [Bool.false_or, List.contains_cons, List.contains_nil, Bool.or_false, beq_iff_eq]
        exact ⟨Eq.symm, Eq.symm⟩
      have hin : (l[pos] == c) = true → l.contains c = true := fun h => by
        have h := beq_iff_eq.1 h
        rw [← h]
        simp
      generalize l[pos] = b at *
      have HS := Lib.hid hst
      have HI := Lib.hid hin
      clear hst hin hl HN hb
      cases hbc : b == c
      · have hbc' := i32_eq b c
        rw [hbc] at hbc' HS
        have HB := Lib.hid hbc
        clear hbc
        go_wp2
        go_roundw
        case rel => exact ⟨pos + 1, by omega, rfl, HS.out⟩
        case measure => simp; omega
      · have hbc' := i32_eq b c
        have hI := Lib.hid (HI.out hbc)
        rw [hbc] at hbc'
        clear hbc HI HS
        go_wp2
        go_ret
        exact ⟨by rw [hI.out]; rfl, (Below.refl _ _).alloc (Nat.le_refl _) _⟩
    · have hno : l.contains c = false := by rw [← HN.out, List.take_of_length_le (by omega)]
      have hnx := fun ty => run_next_end (P := Tryz.prog) w ⟨l.toArray⟩ pos ty hlt
      have HN' := Lib.hid hno
      clear hno hl
      go_wp2
      go_ret
      exact ⟨by rw [HN'.out]; rfl, (Below.refl _ _).alloc (Nat.le_refl _) _⟩

/-- an entry's cells lie there -/
def EntAt (w : World) (b o : Nat) (e : Ent) : Prop :=
  w.cell? ⟨b, o, none⟩ = some (.int .u64 e.term) ∧ w.cell? ⟨b, o + 1, none⟩ = some (.int .u64 e.index) ∧ w.cell? ⟨b, o + 2, none⟩ = some (.int .i64 e.kind) ∧ w.cell? ⟨b, o + 3, none⟩ = some (.int .u64 e.client) ∧ w.cell? ⟨b, o + 4, none⟩ = some (.int .u64 e.seq) ∧ w.cell? ⟨b, o + 5, none⟩ = some (.int .u64 e.block) ∧ w.cell? ⟨b, o + 6, none⟩ = some (.int .u64 e.many) ∧ w.cell? ⟨b, o + 7, none⟩ = some (.int .i64 e.node) ∧ w.cell? ⟨b, o + 8, none⟩ = some (.int .i64 e.level) ∧ w.cell? ⟨b, o + 9, none⟩ = some (.string e.data) ∧ w.cell? ⟨b, o + 10, none⟩ = some (.string e.old)
theorem EntAt.below {w w' : World} {b o : Nat} {e : Ent} (h : EntAt w b o e) (hb : Below w.heap.size w w') : EntAt w' b o e :=
  ⟨cell_later hb h.1, cell_later hb h.2.1, cell_later hb h.2.2.1, cell_later hb h.2.2.2.1, cell_later hb h.2.2.2.2.1, cell_later hb h.2.2.2.2.2.1, cell_later hb h.2.2.2.2.2.2.1, cell_later hb h.2.2.2.2.2.2.2.1, cell_later hb h.2.2.2.2.2.2.2.2.1, cell_later hb h.2.2.2.2.2.2.2.2.2.1, cell_later hb h.2.2.2.2.2.2.2.2.2.2⟩
theorem entAt_new (w : World) (e : Ent) (t : TypeId) : EntAt (w.alloc (.cells e.cells t)) w.heap.size 0 e := by
  obtain ⟨term, index, kind, client, seq, block, many, node, level, data, old⟩ := e
  unfold EntAt Ent.cells
  simp

theorem fldT_len (e : Ent) (h : e.wf) (hd : e.data.size ≤ 1048576) (ho : e.old.size ≤ 1048576) (c : UInt8) : (e.fldT c).length ≤ 2097152 := by
  have h1 := dec_len _ h.client.1 h.client.2
  have h2 := dec_len _ h.seq.1 h.seq.2
  have h3 := dec_len _ h.block.1 h.block.2
  have h4 := dec_len _ h.many.1 h.many.2
  have h5 := itoa_len _ h.node.1 h.node.2
  have h6 := itoa_len _ h.level.1 h.level.2
  have h7 : (hexL e.data.data.toList).length ≤ 2097152 := by
    rw [hexL_length]; have : e.data.data.toList.length = e.data.size := rfl; omega
  have h8 : (hexL e.old.data.toList).length ≤ 2097152 := by
    rw [hexL_length]; have : e.old.data.toList.length = e.old.size := rfl; omega
  unfold Ent.fldT
  repeat' split
  all_goals (try simp only [List.length_append, List.length_cons, List.length_nil]); omega

/-- the letters in their order, as the program's constant -/
def orderB : ByteArray := ⟨#[99, 98, 109, 110, 108, 100, 111]⟩
theorem order_at (k : Nat) (h : k < 7) : orderB[k]'(by show k < 7; exact h) = entOrder.getD k 0 ∧ entOrder.getD k 0 ∈ entOrder ∧ (entOrder.getD k 0).toNat < 128 ∧ entOrder.take (k + 1) = entOrder.take k ++ [entOrder.getD k 0] := by
  have : k = 0 ∨ k = 1 ∨ k = 2 ∨ k = 3 ∨ k = 4 ∨ k = 5 ∨ k = 6 := by omega
  rcases this with rfl | rfl | rfl | rfl | rfl | rfl | rfl <;> exact ⟨rfl, by decide, by decide, rfl⟩

theorem order_next {P : Program} {w : World} {b k : Nat} (hb : w.heap[b]? = some (.stringIter orderB k)) (hk : k < 7) (ty : TypeId) :
    (Instr.next (.pointer (some ⟨b, 0, none⟩)) true ty).run P w = .ok (.tuple #[.bool true, .int .i64 k, .int .i32 (entOrder.getD k 0).toNat]) (iterSet w b orderB (k + 1)) := by
  have h : k < orderB.size := hk
  have hoc : orderB[k]'h = entOrder.getD k 0 := (order_at k hk).1
  have := run_next_at (P := P) hb ty h (by rw [hoc]; exact (order_at k hk).2.2.1)
  rw [hoc] at this
  exact this
theorem zeroFn (w : World) : (zeroValue 164).run Tryz.prog w = .ok .nilFunc w := by kernel_rfl

/-- the text, letter by letter -/
def soFar (e : Ent) (k : Nat) (o : List UInt8) : Prop := o = e.headT ++ (entOrder.take k).flatMap e.piece ∧ o.length ≤ 64 + k * 2097200

theorem soFar_step {e : Ent} {k : Nat} {o : List UInt8} (hs : soFar e k o) (h : k < 7) (x : List UInt8) (hx : e.piece (entOrder.getD k 0) = x) (hl : x.length ≤ 2097200) : soFar e (k + 1) (o ++ x) := by
  obtain ⟨h1, h2⟩ := hs
  refine ⟨?_, by rw [List.length_append, Nat.add_mul]; omega⟩
  rw [h1, (order_at k h).2.2.2, List.flatMap_append]
  simp only [List.flatMap_cons, List.flatMap_nil, List.append_nil, hx, List.append_assoc]
theorem soFar_in {e : Ent} {k : Nat} {o : List UInt8} (hs : soFar e k o) (h : k < 7) (hin : (entL e.kind).contains (entOrder.getD k 0) = true) (hf : (e.fldT (entOrder.getD k 0)).length ≤ 2097152) :
    soFar e (k + 1) (o ++ ([32, entOrder.getD k 0, 61] ++ e.fldT (entOrder.getD k 0))) :=
  soFar_step hs h _ (by unfold Ent.piece; rw [if_pos hin]) (by generalize e.fldT _ = f at *; simp only [List.length_append, List.length_cons, List.length_nil]; omega)
theorem soFar_out {e : Ent} {k : Nat} {o : List UInt8} (hs : soFar e k o) (h : k < 7) (hin : (entL e.kind).contains (entOrder.getD k 0) = false) : soFar e (k + 1) o := by
  have := soFar_step hs h [] (by unfold Ent.piece; rw [hin]; rfl) (Nat.zero_le _)
  rwa [List.append_nil] at this

theorem entL_ascii (k : Int) : ∀ b ∈ entL k, b.toNat < 128 := by
  unfold entL
  repeat' split
  all_goals decide
theorem entL_len (k : Int) : (entL k).length ≤ 1000 := by
  unfold entL
  repeat' split
  all_goals decide

set_option maxRecDepth 100000 in
set_option maxHeartbeats 4000000 in
/-- entry.Text (P4.3) -/
theorem text_any (e : Ent) (h : e.wf) (hd : e.data.size ≤ 1048576) (ho : e.old.size ≤ 1048576) (w : World) (ht : Tabs w) :
    Calls Tryz.prog 77 #[e.val] w fun x w' => x = .returned (.string ⟨(textL e).toArray⟩) ∧ Below w.heap.size w w' := by
  have htold := fun c hc W hW => told_any c hc e h hd ho W hW
  have hfl := fldT_len e h hd ho
  have hval : e.val = .agg #[.int .u64 e.term, .int .u64 e.index, .int .i64 e.kind, .int .u64 e.client, .int .u64 e.seq, .int .u64 e.block, .int .u64 e.many, .int .i64 e.node, .int .i64 e.level, .string e.data, .string e.old] := rfl
  have ht1 := dec_len _ h.term.1 h.term.2
  have ht2 := dec_len _ h.index.1 h.index.2
  have ht3 := itoa_len _ h.kind.1 h.kind.2
  have hhead : e.headT = Lib.itoa e.kind ++ [32] ++ dec e.term ++ [46] ++ dec e.index := rfl
  have hT : textL e = e.headT ++ entOrder.flatMap e.piece := rfl
  rw [hval] at htold ⊢
  generalize hres : textL e = res at *
  have HT := Lib.hid hT
  have HH := Lib.hid hhead
  have HTO := Lib.hid htold
  have HF := Lib.hid hfl
  have HWF := Lib.hid h
  clear hval hT hhead htold hfl hres
  obtain ⟨t0, t1⟩ := h.term
  obtain ⟨i0, i1⟩ := h.index
  obtain ⟨k0, k1⟩ := h.kind
  clear h hd ho
  go_enter Tryz.func77, Tryz.ntmps77
  go_wp2_with fail
  refine (fields_any _ _).mono ?_
  rintro x w1 ⟨rfl, hb1⟩
  go_wp2_with (refine wpList_maplit Tryz.underlying167 Tryz.underlying21 7 toldTab (by simp) rfl (by decide) ?_; simp only [List.drop_succ_cons, List.drop_zero])
  generalize hW : w1.alloc (imap .i32 toldTab) = W
  have hmap : W.heap[w1.heap.size]? = some (imap .i32 toldTab) := by rw [← hW]; exact heap_alloc_new _ _
  have hbW : Below w.heap.size w W := by
    rw [← hW]
    exact (((Below.refl _ _).alloc (Nat.le_refl _) _).trans (hb1.mono (by simp))).alloc (by have := hb1.size; simp at this; omega) _
  have hsz : w.heap.size < w1.heap.size := by have := hb1.size; simp at this; omega
  have hszW : w1.heap.size < W.heap.size := by rw [← hW]; simp
  have heW : EntAt W w.heap.size 0 e := by
    rw [← hW]
    exact (((entAt_new w e 32).below hb1)).below ((Below.refl _ _).alloc (Nat.le_refl _) _)
  have htW : Tabs W := ht.next hbW
  clear hb1 hW
  have HE := Lib.hid heW
  obtain ⟨c0, c1, c2, _⟩ := heW
  simp only [Nat.zero_add] at c1 c2
  go_wp2_with fail
  have d0 := cell_regrown c0
  have d1 := cell_regrown c1
  have d2 := cell_regrown c2
  refine wp_region_quiet_below (by kernel_rfl) (by kernel_rfl) ?_
  repeat (go_big_quiet_step (first | (go_at_call 78; exact meetB fun U hb => itoa_any _ (by assumption) (by assumption) U (htW.next hb)) | (go_at_call 79; exact meetB fun U hb => number_any _ (by assumption) (by assumption) U (htW.next hb))))
  refine wpQuiet_nil ?_
  intro w2 hw2
  obtain ⟨p2, hw2⟩ := hw2
  have hb2 := below_regrown W p2.d p2.os
  rw [← hw2] at hb2
  clear hw2 d0 d1 d2 c0 c1 c2
  have hh2 : soFar e 0 (Lib.itoa e.kind ++ [32] ++ dec e.term ++ [46] ++ dec e.index) := by
    refine ⟨by rw [HH.out]; simp, ?_⟩
    simp only [List.length_append, List.length_cons, List.length_nil]; omega
  have hmap2 : w2.heap[w1.heap.size]? = some (imap .i32 toldTab) := by rw [hb2.block _ hszW]; exact hmap
  have he2 : EntAt w2 w.heap.size 0 e := HE.out.below hb2
  have ht2 := htW.next hb2
  have hsz2 := hb2.size
  have hb02 := hbW.trans (hb2.mono hbW.size)
  clear HH hmap htW hb2 HE hbW
  go_wp2_with fail
  go_loopw [6] (fun x wr => ∃ (k : Nat) (o : List UInt8), k ≤ 7 ∧ x = .string ⟨o.toArray⟩ ∧ soFar e k o ∧ wr.heap[w2.heap.size]? = some (.stringIter orderB k) ∧ Below w2.heap.size w2 wr) (fun x wr => 7 - wr.iterPos w2.heap.size)
  case atStart => exact ⟨0, _, by omega, by simp only [one_sum], hh2, heap_alloc_new _ _, (Below.refl _ _).alloc (Nat.le_refl _) _⟩
  case round =>
    obtain ⟨k, o, hk, rfl, hso, hit, hbr⟩ := hrel
    by_cases hlt : k < 7
    · obtain ⟨hoc, hmem, hasc, _⟩ := order_at k hlt
      have hnx := fun ty => order_next (P := Tryz.prog) hit hlt ty
      have hitm := iterSet_heap hit orderB (k + 1)
      have hbm := hbr.trans (iterSet_below wr w2.heap.size orderB (k + 1))
      have hin := fun h => soFar_in hso hlt h (HF.out _)
      have hout := fun h => soFar_out hso hlt h
      have holen := hso.2
      clear hoc hasc hso
      generalize entOrder.getD k 0 = c at *
      generalize iterSet wr w2.heap.size orderB (k + 1) = wm at *
      have hmapm : wm.heap[w1.heap.size]? = some (imap .i32 toldTab) := by rw [hbm.block _ (by omega)]; exact hmap2
      have hem := he2.below hbm
      have htm := ht2.next hbm
      have hszm := hbm.size
      have HIN := Lib.hid hin
      have HOUT := Lib.hid hout
      clear hin hout hbr he2 ht2
      cases hcon : (entL e.kind).contains c
      · have hhr := hasRune_any (entL e.kind) (entL_ascii _) (entL_len _) c wm
        rw [hcon] at hhr
        have HSO := Lib.hid (HOUT.out hcon)
        clear HOUT HIN hcon hh2
        go_wp2_with fail
        refine hhr.mono ?_
        rintro x w3 ⟨rfl, hb3⟩
        have hit3 : w3.heap[w2.heap.size]? = some (.stringIter orderB (k + 1)) := by rw [hb3.block _ (heap_lt hitm)]; exact hitm
        have hb23 := hbm.trans (hb3.mono hszm)
        clear hhr hb3 hnx
        go_wp2_with fail
        go_roundw
        case rel => exact ⟨k + 1, o, by omega, rfl, HSO.out, hit3, hb23⟩
        case measure => rw [iterPos_of hit3, iterPos_of hit]; omega
      · have hhr := hasRune_any (entL e.kind) (entL_ascii _) (entL_len _) c wm
        rw [hcon] at hhr
        have HSO := Lib.hid (HIN.out hcon)
        have hflen := HF.out c
        clear HOUT HIN hcon hh2
        go_wp2_with fail
        refine hhr.mono ?_
        rintro x w3 ⟨rfl, hb3⟩
        have hit3 : w3.heap[w2.heap.size]? = some (.stringIter orderB (k + 1)) := by rw [hb3.block _ (heap_lt hitm)]; exact hitm
        have hmap3 : w3.heap[w1.heap.size]? = some (imap .i32 toldTab) := by rw [hb3.block _ (heap_lt hmapm)]; exact hmapm
        have hb23 := hbm.trans (hb3.mono hszm)
        have he3 := hem.below hb3
        have ht3 := htm.next hb3
        have hlk := run_look w3 Tryz.underlying167 Tryz.underlying21 toldTab w1.heap.size hmap3 (c.toNat : Int) .nilFunc (zeroFn _) false
        rw [toldTab_look c hmem] at hlk
        have hrt := rune_text c hmem w3
        have hent := fun args => toldFn_enters c hmem args w3
        have hcall := HTO.out c hmem w3 ht3
        obtain ⟨c0, c1, c2, c3, c4, c5, c6, c7, c8, c9, c10⟩ := he3
        simp only [Nat.zero_add] at c1 c2 c3 c4 c5 c6 c7 c8 c9 c10
        simp only [Bool.false_eq_true, if_false] at hlk
        clear hhr hb3 hnx hmapm hem htm hmap3 ht3
        go_wp2_with fail
        refine hcall.mono ?_
        rintro x w4 ⟨rfl, hb4⟩
        have hit4 : w4.heap[w2.heap.size]? = some (.stringIter orderB (k + 1)) := by rw [hb4.block _ (heap_lt hit3)]; exact hit3
        have hb24 := hb23.trans (hb4.mono hb23.size)
        clear hcall hlk hrt hent c0 c1 c2 c3 c4 c5 c6 c7 c8 c9 c10
        go_wp2_with fail
        go_roundw
        case rel => exact ⟨k + 1, _, by omega, by simp only [one_sum]; rfl, by simpa using HSO.out, hit4, hb24⟩
        case measure => rw [iterPos_of hit4, iterPos_of hit]; omega
    · have hk7 : k = 7 := by omega
      subst hk7
      have hnx := fun ty => run_next_stop (P := Tryz.prog) hit ty (by decide)
      have hres : o = res := by rw [HT.out, hso.1]; rfl
      have HR := Lib.hid hres
      clear hres
      go_wp2_with fail
      go_ret
      exact ⟨by rw [HR.out]; rfl, hb02.trans (hbr.mono hb02.size)⟩

end Go.Proofs.YtbjbgdnjcppjhaaGreatDoor
