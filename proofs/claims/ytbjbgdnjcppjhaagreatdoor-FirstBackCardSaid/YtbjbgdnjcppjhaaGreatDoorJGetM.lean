/-
  first.GetMsg's closure small over this translation. Condition: at most 2^40 bytes are left. By an AI agent.
-/
import Derived.Test.YtbjbgdnjcppjhaaGreatDoorFirGet
import Derived.Test.YtbjbgdnjcppjhaaGreatDoorJPutM
import Derived.Test.YtbjbgdnjcppjhaaGreatDoorMsgIn
import Derived.Test.YtbjbgdnjcppjhaaGreatDoorSecQ
import Derived.Test.YtbjbgdnjcppjhaaGreatDoorMsgRight
import Derived.Deep.AppendLies
namespace Go.Proofs.YtbjbgdnjcppjhaaGreatDoor
open Go.RowKit
set_option linter.unusedVariables false
set_option linter.unusedSimpArgs false

set_option maxRecDepth 100000 in
set_option maxHeartbeats 2000000 in
theorem smallM_any (b N : Nat) (r : Rd) (hl : r.1.length ≤ 1099511627776) (w : World) (h : RdAt w b r) (hc : w.cell? ⟨N, 0, none⟩ = some (fixV b)) :
    Calls Tryz.prog 59 #[.pointer (some ⟨N, 0, none⟩)] w fun x w' => x = .returned (.int .i64 (rdFix 1 r).1) ∧ RdAt w' b (rdFix 1 r).2 ∧ But b w w' := by
  have HF := Lib.hid (fixedRd_any b 1 r (by decide) hl w h)
  have hlt := rdFix_lt 1 r
  generalize rdFix 1 r = x at *
  obtain ⟨v, r1⟩ := x
  have hv : v < 256 := hlt
  clear h hlt
  go_enter Tryz.func59, Tryz.ntmps59
  go_wp2_with fail
  refine HF.out.mono ?_
  rintro x w1 ⟨rfl, h1, hb1⟩
  go_wp2_with fail
  go_ret
  exact ⟨rfl, h1, hb1⟩

end Go.Proofs.YtbjbgdnjcppjhaaGreatDoor

/-
  first.GetMsg over this translation: the message of bytes. Condition: at most 2^40 bytes. (Printed by wip/genfirgetm.py.) By an AI agent.
-/
namespace Go.Proofs.YtbjbgdnjcppjhaaGreatDoor
open Go.RowKit Go.Sort
set_option linter.unusedVariables false
set_option linter.unusedSimpArgs false

theorem But.belowM {b n : Nat} {w w' : World} (h : But b w w') (hb : n ≤ b) (hn : n ≤ w.heap.size) : Below n w w' :=
  ⟨h.os, h.tape, h.output, h.size, fun k hk => h.block k (by omega) (fun h => by have := Option.some.inj h; omega)⟩
/-- what stands while a message is read -/
structure GetMSt (b z N : Nat) (w U : World) (r : Rd) : Prop where
  rd : RdAt U b r
  fn : U.cell? ⟨N, 0, none⟩ = some (fixV b)
  zero : U.heap[z]? = some (.cells (Msg.none.cells (.slice none 0 0)) MsgT (0, 0))
  below : Below z w U
  size : N < U.heap.size
theorem GetMSt.next {b z N : Nat} {w U U' : World} {r r' : Rd} (h : GetMSt b z N w U r) (hz : z < b) (hN : b < N) (hr : RdAt U' b r') (hb : But b U U') : GetMSt b z N w U' r' :=
  ⟨hr, (World.cell?_of_block (w := U) (a := ⟨N, 0, none⟩) (hb.block N h.size (fun h => by have := Option.some.inj h; omega))).trans h.fn,
   (hb.block z (by have := h.size; omega) (fun h => by have := Option.some.inj h; omega)).trans h.zero, h.below.trans (hb.belowM (Nat.le_of_lt hz) (by have := h.size; omega)), Nat.lt_of_lt_of_le h.size hb.size⟩
theorem GetMSt.keep {b z N : Nat} {w U U' : World} {r : Rd} (h : GetMSt b z N w U r) (hz : z < b) (hN : b < N) (hb : Below U.heap.size U U') : GetMSt b z N w U' r :=
  h.next hz hN (h.rd.keep hb) (But.of hb)
theorem GetMSt.own {b z N n0 : Nat} {w U U' : World} {r : Rd} (h : GetMSt b z N w U r) (hz : z < b) (hN : b < N) (hn : N < n0) (hb : Below n0 U U') : GetMSt b z N w U' r :=
  ⟨(hb.block b (by omega)).trans h.rd, (World.cell?_of_block (w := U) (a := ⟨N, 0, none⟩) (hb.block N hn)).trans h.fn, (hb.block z (by omega)).trans h.zero, h.below.trans (hb.mono (by omega)), Nat.lt_of_lt_of_le h.size hb.size⟩
theorem GetMSt.alloc {b z N : Nat} {w U : World} {r : Rd} (h : GetMSt b z N w U r) (hz : z < b) (hN : b < N) (o : Obj) : GetMSt b z N w (U.alloc o) r :=
  h.keep hz hN ((Below.refl _ _).alloc (Nat.le_refl _) o)
theorem GetMSt.set {b z N c o : Nat} {w U : World} {r : Rd} {v : Value} (h : GetMSt b z N w U r) (hz : z < b) (hN : b < N) (hc : N < c) : GetMSt b z N w (U.setCell ⟨c, o, none⟩ v) r := by
  have hne2 : c ≠ N := by omega
  have hne3 : c ≠ z := by omega
  refine ⟨fir_rd h.rd (by omega), ?_, ?_, h.below.setCell (by show z ≤ c; omega) _, by have := h.size; simpa [World.setCell] using this⟩
  · rw [World.cell?_setCell_far _ _ _ _ hne2]
    exact h.fn
  · have := h.zero
    simp [World.setCell, Array.getElem?_modify, hne3, this]

/-- the closure small -/
abbrev smallMV (N : Nat) : Value := .func (.func 59) #[] #[.pointer (some ⟨N, 0, none⟩)]
def getMAct (ss : ByteArray) (b z N : Nat) (val : Nat → Value) (k : Nat) (v7 : Value) : Act :=
  { tmps := #[.string ss, undef, .pointer (some ⟨z, 0, none⟩), .bool false, .pointer (some ⟨b, 0, none⟩), .pointer (some ⟨N, 0, none⟩), smallMV N, v7, undef, .string ss, .pointer (some ⟨b, 0, none⟩), .pointer (some ⟨b, 0, none⟩), fixV b, smallMV N, smallMV N, if 0 < k then val 0 else undef, smallMV N, if 1 < k then val 1 else undef, smallMV N, if 2 < k then val 2 else undef, fixV b, if 3 < k then val 3 else undef, fixV b, if 4 < k then val 4 else undef, fixV b, if 5 < k then val 5 else undef, fixV b, if 6 < k then val 6 else undef, fixV b, if 7 < k then val 7 else undef, if 8 < k then val 8 else undef, undef, undef, undef, undef, undef, undef, undef, undef, undef, undef, undef, undef, undef, undef, undef, undef, undef, undef, undef, undef, undef, undef, undef, undef, undef, undef, undef, undef, undef, undef, undef, undef, undef, undef, undef, undef, undef, undef, undef, undef, undef, undef, undef, undef, undef, undef, undef, undef, undef, undef], defers := [] }
/-- what stands behind k operations of the region, the box laid or not -/
structure GMInv (ss : ByteArray) (b z N : Nat) (w0 : World) (val : Nat → Value) (m : Msg) (rs : Nat → Rd) (k : Nat) (d : Bool) (a : Act) (w : World) : Prop where
  act : ∃ v7, a = getMAct ss b z N val k v7 ∧ (d = true → ∃ c, v7 = .pointer (some ⟨c, 0, none⟩) ∧ N < c ∧ w.heap[c]? = some (.cells (if k < 10 then Msg.none.cells (.slice none 0 0) else m.cells (.slice none 0 0)) MsgT (0, 0)))
  st : GetMSt b z N w0 w (rs (min k 8))
  lt : d = false → k < 10

set_option maxRecDepth 100000 in
set_option maxHeartbeats 16000000 in
theorem firstGetMsg_any (s : List UInt8) (hl : s.length ≤ 1099511627776) (w : World) :
    Calls Tryz.prog 26 #[.string ⟨s.toArray⟩] w fun x w' => ∃ m sv, x = .returned (.tuple #[.agg (m.cells sv), .bool (gotF s)]) ∧ (gotF s = true → m = (getFM s).1.1) ∧ (gotF s = false → m = Msg.none) ∧ EntsAt w' sv m.entries ∧ Below w.heap.size w w' := by
  obtain ⟨r, hr⟩ : ∃ r : Rd, r = (s, false) := ⟨_, rfl⟩
  have hl : r.1.length ≤ 1099511627776 := by rw [hr]; exact hl
  obtain ⟨⟨vk, r1⟩, h0⟩ : ∃ x, x = rdFix 1 r := ⟨_, rfl⟩
  have l0 : r1.1.length ≤ 1099511627776 := by
    have := (fine_fix 1).shrink r
    rw [← h0] at this
    exact Nat.le_trans this hl
  have v0 : vk < 256 ^ 1 := by
    have := rdFix_lt 1 r
    rw [← h0] at this
    exact this
  have C0 : ∀ N W, RdAt W (w.heap.size + 1) r → W.cell? ⟨N, 0, none⟩ = some (fixV (w.heap.size + 1)) → Calls Tryz.prog 59 #[.pointer (some ⟨N, 0, none⟩)] W fun x W' => x = .returned (.int .i64 vk) ∧ RdAt W' (w.heap.size + 1) r1 ∧ But (w.heap.size + 1) W W' := fun N W hW hc => by
    have := smallM_any (w.heap.size + 1) N r hl W hW hc
    rw [← h0] at this
    exact this
  obtain ⟨⟨vf, r2⟩, h1⟩ : ∃ x, x = rdFix 1 r1 := ⟨_, rfl⟩
  have l1 : r2.1.length ≤ 1099511627776 := by
    have := (fine_fix 1).shrink r1
    rw [← h1] at this
    exact Nat.le_trans this l0
  have v1 : vf < 256 ^ 1 := by
    have := rdFix_lt 1 r1
    rw [← h1] at this
    exact this
  have C1 : ∀ N W, RdAt W (w.heap.size + 1) r1 → W.cell? ⟨N, 0, none⟩ = some (fixV (w.heap.size + 1)) → Calls Tryz.prog 59 #[.pointer (some ⟨N, 0, none⟩)] W fun x W' => x = .returned (.int .i64 vf) ∧ RdAt W' (w.heap.size + 1) r2 ∧ But (w.heap.size + 1) W W' := fun N W hW hc => by
    have := smallM_any (w.heap.size + 1) N r1 l0 W hW hc
    rw [← h1] at this
    exact this
  obtain ⟨⟨vo, r3⟩, h2⟩ : ∃ x, x = rdFix 1 r2 := ⟨_, rfl⟩
  have l2 : r3.1.length ≤ 1099511627776 := by
    have := (fine_fix 1).shrink r2
    rw [← h2] at this
    exact Nat.le_trans this l1
  have v2 : vo < 256 ^ 1 := by
    have := rdFix_lt 1 r2
    rw [← h2] at this
    exact this
  have C2 : ∀ N W, RdAt W (w.heap.size + 1) r2 → W.cell? ⟨N, 0, none⟩ = some (fixV (w.heap.size + 1)) → Calls Tryz.prog 59 #[.pointer (some ⟨N, 0, none⟩)] W fun x W' => x = .returned (.int .i64 vo) ∧ RdAt W' (w.heap.size + 1) r3 ∧ But (w.heap.size + 1) W W' := fun N W hW hc => by
    have := smallM_any (w.heap.size + 1) N r2 l1 W hW hc
    rw [← h2] at this
    exact this
  obtain ⟨⟨vt, r4⟩, h3⟩ : ∃ x, x = rdFix 8 r3 := ⟨_, rfl⟩
  have l3 : r4.1.length ≤ 1099511627776 := by
    have := (fine_fix 8).shrink r3
    rw [← h3] at this
    exact Nat.le_trans this l2
  have v3 : vt < 256 ^ 8 := by
    have := rdFix_lt 8 r3
    rw [← h3] at this
    exact this
  have C3 : ∀ W, RdAt W (w.heap.size + 1) r3 → Calls Tryz.prog 54 #[.pointer (some ⟨w.heap.size + 1, 0, none⟩), .int .i64 8] W fun x W' => x = .returned (.int .u64 vt) ∧ RdAt W' (w.heap.size + 1) r4 ∧ But (w.heap.size + 1) W W' := fun W hW => by
    have := fixedRd_any (w.heap.size + 1) 8 r3 (by decide) l2 W hW
    rw [← h3] at this
    exact this
  obtain ⟨⟨vi, r5⟩, h4⟩ : ∃ x, x = rdFix 8 r4 := ⟨_, rfl⟩
  have l4 : r5.1.length ≤ 1099511627776 := by
    have := (fine_fix 8).shrink r4
    rw [← h4] at this
    exact Nat.le_trans this l3
  have v4 : vi < 256 ^ 8 := by
    have := rdFix_lt 8 r4
    rw [← h4] at this
    exact this
  have C4 : ∀ W, RdAt W (w.heap.size + 1) r4 → Calls Tryz.prog 54 #[.pointer (some ⟨w.heap.size + 1, 0, none⟩), .int .i64 8] W fun x W' => x = .returned (.int .u64 vi) ∧ RdAt W' (w.heap.size + 1) r5 ∧ But (w.heap.size + 1) W W' := fun W hW => by
    have := fixedRd_any (w.heap.size + 1) 8 r4 (by decide) l3 W hW
    rw [← h4] at this
    exact this
  obtain ⟨⟨vp, r6⟩, h5⟩ : ∃ x, x = rdFix 8 r5 := ⟨_, rfl⟩
  have l5 : r6.1.length ≤ 1099511627776 := by
    have := (fine_fix 8).shrink r5
    rw [← h5] at this
    exact Nat.le_trans this l4
  have v5 : vp < 256 ^ 8 := by
    have := rdFix_lt 8 r5
    rw [← h5] at this
    exact this
  have C5 : ∀ W, RdAt W (w.heap.size + 1) r5 → Calls Tryz.prog 54 #[.pointer (some ⟨w.heap.size + 1, 0, none⟩), .int .i64 8] W fun x W' => x = .returned (.int .u64 vp) ∧ RdAt W' (w.heap.size + 1) r6 ∧ But (w.heap.size + 1) W W' := fun W hW => by
    have := fixedRd_any (w.heap.size + 1) 8 r5 (by decide) l4 W hW
    rw [← h5] at this
    exact this
  obtain ⟨⟨vc, r7⟩, h6⟩ : ∃ x, x = rdFix 8 r6 := ⟨_, rfl⟩
  have l6 : r7.1.length ≤ 1099511627776 := by
    have := (fine_fix 8).shrink r6
    rw [← h6] at this
    exact Nat.le_trans this l5
  have v6 : vc < 256 ^ 8 := by
    have := rdFix_lt 8 r6
    rw [← h6] at this
    exact this
  have C6 : ∀ W, RdAt W (w.heap.size + 1) r6 → Calls Tryz.prog 54 #[.pointer (some ⟨w.heap.size + 1, 0, none⟩), .int .i64 8] W fun x W' => x = .returned (.int .u64 vc) ∧ RdAt W' (w.heap.size + 1) r7 ∧ But (w.heap.size + 1) W W' := fun W hW => by
    have := fixedRd_any (w.heap.size + 1) 8 r6 (by decide) l5 W hW
    rw [← h6] at this
    exact this
  obtain ⟨⟨vm, r8⟩, h7⟩ : ∃ x, x = rdFix 8 r7 := ⟨_, rfl⟩
  have l7 : r8.1.length ≤ 1099511627776 := by
    have := (fine_fix 8).shrink r7
    rw [← h7] at this
    exact Nat.le_trans this l6
  have v7 : vm < 256 ^ 8 := by
    have := rdFix_lt 8 r7
    rw [← h7] at this
    exact this
  have C7 : ∀ W, RdAt W (w.heap.size + 1) r7 → Calls Tryz.prog 54 #[.pointer (some ⟨w.heap.size + 1, 0, none⟩), .int .i64 8] W fun x W' => x = .returned (.int .u64 vm) ∧ RdAt W' (w.heap.size + 1) r8 ∧ But (w.heap.size + 1) W W' := fun W hW => by
    have := fixedRd_any (w.heap.size + 1) 8 r7 (by decide) l6 W hW
    rw [← h7] at this
    exact this
  obtain ⟨⟨vy, r9⟩, h8⟩ : ∃ x, x = rdFix 1 r8 := ⟨_, rfl⟩
  have l8 : r9.1.length ≤ 1099511627776 := by
    have := (fine_fix 1).shrink r8
    rw [← h8] at this
    exact Nat.le_trans this l7
  have v8 : vy < 256 ^ 1 := by
    have := rdFix_lt 1 r8
    rw [← h8] at this
    exact this
  have C8 : ∀ N W, RdAt W (w.heap.size + 1) r8 → W.cell? ⟨N, 0, none⟩ = some (fixV (w.heap.size + 1)) → Calls Tryz.prog 59 #[.pointer (some ⟨N, 0, none⟩)] W fun x W' => x = .returned (.int .i64 vy) ∧ RdAt W' (w.heap.size + 1) r9 ∧ But (w.heap.size + 1) W W' := fun N W hW hc => by
    have := smallM_any (w.heap.size + 1) N r8 l7 W hW hc
    rw [← h8] at this
    exact this
  obtain ⟨⟨vn, r10⟩, h9⟩ : ∃ x, x = rdFix 1 r9 := ⟨_, rfl⟩
  have l9 : r10.1.length ≤ 1099511627776 := by
    have := (fine_fix 1).shrink r9
    rw [← h9] at this
    exact Nat.le_trans this l8
  have v9 : vn < 256 ^ 1 := by
    have := rdFix_lt 1 r9
    rw [← h9] at this
    exact this
  have C9 : ∀ N W, RdAt W (w.heap.size + 1) r9 → W.cell? ⟨N, 0, none⟩ = some (fixV (w.heap.size + 1)) → Calls Tryz.prog 59 #[.pointer (some ⟨N, 0, none⟩)] W fun x W' => x = .returned (.int .i64 vn) ∧ RdAt W' (w.heap.size + 1) r10 ∧ But (w.heap.size + 1) W W' := fun N W hW hc => by
    have := smallM_any (w.heap.size + 1) N r9 l8 W hW hc
    rw [← h9] at this
    exact this
  obtain ⟨⟨es, r11⟩, h10⟩ : ∃ x, x = entsR vn r10 := ⟨_, rfl⟩
  have l10 : r11.1.length ≤ 1099511627776 := by
    have := (entsR_fine vn).shrink r10
    rw [← h10] at this
    exact Nat.le_trans this l9
  obtain ⟨⟨v4, r12⟩, h11⟩ : ∃ x, x = rdFix 4 r11 := ⟨_, rfl⟩
  have l11 : r12.1.length ≤ 1099511627776 := by
    have := (fine_fix 4).shrink r11
    rw [← h11] at this
    exact Nat.le_trans this l10
  have v11 : v4 < 256 ^ 4 := by
    have := rdFix_lt 4 r11
    rw [← h11] at this
    exact this
  have C11 : ∀ W, RdAt W (w.heap.size + 1) r11 → Calls Tryz.prog 54 #[.pointer (some ⟨w.heap.size + 1, 0, none⟩), .int .i64 4] W fun x W' => x = .returned (.int .u64 v4) ∧ RdAt W' (w.heap.size + 1) r12 ∧ But (w.heap.size + 1) W W' := fun W hW => by
    have := fixedRd_any (w.heap.size + 1) 4 r11 (by decide) l10 W hW
    rw [← h11] at this
    exact this
  simp only [show (256 : Nat) ^ 1 = 256 from rfl, show (256 : Nat) ^ 8 = 18446744073709551616 from rfl, show (256 : Nat) ^ 4 = 4294967296 from rfl] at v0 v1 v2 v3 v4 v5 v6 v7 v8 v9 v11
  obtain ⟨⟨sn, r13⟩, h12⟩ : ∃ x, x = rdBytes v4 r12 := ⟨_, rfl⟩
  have C12 : ∀ W, RdAt W (w.heap.size + 1) r12 → Calls Tryz.prog 56 #[.pointer (some ⟨w.heap.size + 1, 0, none⟩), .int .i64 v4] W fun x W' => x = .returned (.string ⟨sn.toArray⟩) ∧ RdAt W' (w.heap.size + 1) r13 ∧ But (w.heap.size + 1) W W' := fun W hW => by
    have := bytes_any (w.heap.size + 1) v4 r12 (by omega) (by omega) W hW
    rw [← h12] at this
    exact this
  have hm : getFM s = ((⟨(vk : Int), (vf : Int), (vo : Int), (vt : Int), (vi : Int), (vp : Int), (vc : Int), (vm : Int), vy == 1, ⟨sn.toArray⟩, es⟩, vy), r13) := by
    unfold getFM msgF bindR pureR
    rw [← hr]
    simp only [← h0, ← h1, ← h2, ← h3, ← h4, ← h5, ← h6, ← h7, ← h8, ← h9, ← h10, ← h11, ← h12]
  have hgot : gotF s = (!r13.2 && r13.1.isEmpty && !decide (1 < vy) && msgRightB ⟨(vk : Int), (vf : Int), (vo : Int), (vt : Int), (vi : Int), (vp : Int), (vc : Int), (vm : Int), vy == 1, ⟨sn.toArray⟩, es⟩ && !decide (1 < msgLevelI ⟨(vk : Int), (vf : Int), (vo : Int), (vt : Int), (vi : Int), (vp : Int), (vc : Int), (vm : Int), vy == 1, ⟨sn.toArray⟩, es⟩)) := by
    unfold gotF
    rw [hm]
  have hsnl : sn.length ≤ 4294967296 := by
    have := take_len v4 r12
    rw [← h12] at this
    have : sn.length ≤ v4 := this
    omega
  have hcnt : ∀ k, k ≤ vn → (entsR k r10).1.length ≤ 255 := fun k hk => by
    have := entsR_count k r10
    omega
  have hshr : ∀ k, (entsR k r10).2.1.length ≤ 1099511627776 := fun k => Nat.le_trans ((entsR_fine k).shrink r10) l9
  have hcn : es.length ≤ 255 := by
    have := hcnt vn (Nat.le_refl _)
    rw [← h10] at this
    exact this
  have hwf : ∀ e ∈ es, e.wf := fun e he => by
    have := entsR_wf vn r10
    rw [← h10] at this
    exact this e he
  have hright := fun W sv hW => msgRight_any ⟨(vk : Int), (vf : Int), (vo : Int), (vt : Int), (vi : Int), (vp : Int), (vc : Int), (vm : Int), vy == 1, ⟨sn.toArray⟩, es⟩ sv hwf (by show es.length ≤ _; omega) W hW
  have hlevel := fun W sv hW => msgLevel_any ⟨(vk : Int), (vf : Int), (vo : Int), (vt : Int), (vi : Int), (vp : Int), (vc : Int), (vm : Int), vy == 1, ⟨sn.toArray⟩, es⟩ sv (by show es.length ≤ _; omega) W hW
  rw [hm]
  simp only [Msg.cells] at hright hlevel
  generalize gotF s = got at *
  have HGOT0 := Lib.hid hgot
  have HRR := Lib.hid hright
  have HLV := Lib.hid hlevel
  have HENT := Lib.hid h10
  have HCNT := Lib.hid hcnt
  have HSHR := Lib.hid hshr
  have K0 := Lib.hid C0
  have K1 := Lib.hid C1
  have K2 := Lib.hid C2
  have K3 := Lib.hid C3
  have K4 := Lib.hid C4
  have K5 := Lib.hid C5
  have K6 := Lib.hid C6
  have K7 := Lib.hid C7
  have K8 := Lib.hid C8
  have K9 := Lib.hid C9
  have K11 := Lib.hid C11
  have K12 := Lib.hid C12
  clear hgot hright hlevel hm hwf hcnt hshr C0 C1 C2 C3 C4 C5 C6 C7 C8 C9 C11 C12 h0 h1 h2 h3 h4 h5 h6 h7 h8 h9 h10 h11 h12
  go_enter Tryz.func26, Tryz.ntmps26
  go_wp2_with fail
  have ha0 := (Below.refl w.heap.size w).alloc (Nat.le_refl _) (.cells (Msg.none.cells (.slice none 0 0)) MsgT)
  refine (new_any s _).mono ?_
  rintro x w1 ⟨rfl, h1, hb1, hs1⟩
  simp only [World.size_alloc] at h1 hs1
  rw [← hr] at h1
  have hzz : w1.heap[w.heap.size]? = some (.cells (Msg.none.cells (.slice none 0 0)) MsgT (0, 0)) := (hb1.block _ (by simp)).trans (heap_alloc_new w _)
  have H1 := Lib.hid h1
  have HZ1 := Lib.hid hzz
  have HB1 := Lib.hid (ha0.trans (hb1.mono (by simp)) : Below w.heap.size w w1)
  clear h1 hzz hb1 ha0 hr
  go_upto_region 4 with fail
  generalize hN : w1.heap.size = N at *
  go_cut [7] from 14 to 30 (fun s7 wx => ∃ c, s7 = .pointer (some ⟨c, 0, none⟩) ∧ N < c ∧ wx.heap[c]? = some (.cells (Msg.cells ⟨(vk : Int), (vf : Int), (vo : Int), (vt : Int), (vi : Int), (vp : Int), (vc : Int), (vm : Int), false, ⟨#[]⟩, []⟩ (.slice none 0 0)) MsgT (0, 0)) ∧ GetMSt (w.heap.size + 1) w.heap.size N w wx r8)
  case first =>
   go_wp2_with fail
   have hst : GetMSt (w.heap.size + 1) w.heap.size N w (w1.alloc (.cells #[fixV (w.heap.size + 1)] 102)).drew r := by
    have ha := (Below.refl w1.heap.size w1).alloc (Nat.le_refl _) (.cells #[fixV (w.heap.size + 1)] 102)
    have q0 := H1.out.keep ha
    refine ⟨q0, ?_, (Below.heap_alloc _ _ _ (by omega)).trans HZ1.out, ?_, ?_⟩
    · have := heap_alloc_new w1 (.cells #[fixV (w.heap.size + 1)] 102)
      rw [hN] at this
      exact Lib.cell_of_heap this 0
    · have q1 := HB1.out.trans (ha.mono HB1.out.size)
      exact ⟨q1.os, q1.tape, q1.output, q1.size, q1.block⟩
    · show N < (w1.alloc (.cells #[fixV (w.heap.size + 1)] 102)).heap.size
      rw [World.size_alloc]
      omega
   refine region_D (fun u => u.cell? ⟨N, 0, none⟩ = some (fixV (w.heap.size + 1))) [] 19 (by kernel_rfl) (by rfl) ?_
   have hst : GetMSt (w.heap.size + 1) w.heap.size N w (w1.alloc (.cells #[.func (.func 54) #[.pointer (some ⟨w.heap.size + 1, 0, none⟩)] #[]] 102)).drew r := hst
   generalize (w1.alloc (.cells #[.func (.func 54) #[.pointer (some ⟨w.heap.size + 1, 0, none⟩)] #[]] 102)).drew = U0 at *
   have ST0 := Lib.hid hst
   have hS0 := hst.fn
   have hzb : w.heap.size < w.heap.size + 1 := Nat.lt_succ_self _
   have hbN : w.heap.size + 1 < N := by omega
   refine takeD (i := 0) (v := (.func (.func 59) #[] #[.pointer (some ⟨N, 0, none⟩)])) (by rfl) (by kernel_rfl) (fun _ _ _ h => h) (by rfl) (fun u hu => by have hu0 : u.cell? ⟨N, 0, none⟩ = some (.func (.func 54) #[.pointer (some ⟨w.heap.size + 1, 0, none⟩)] #[]) := hu; go_simp) hS0 ?_
   simp only [Act.put, List.setIfInBounds_toArray, List.set_cons_zero, List.set_cons_succ]
   refine takeD (i := 2) (v := (.func (.func 59) #[] #[.pointer (some ⟨N, 0, none⟩)])) (by rfl) (by kernel_rfl) (fun _ _ _ h => h) (by rfl) (fun u hu => by have hu0 : u.cell? ⟨N, 0, none⟩ = some (.func (.func 54) #[.pointer (some ⟨w.heap.size + 1, 0, none⟩)] #[]) := hu; go_simp) hS0 ?_
   simp only [Act.put, List.setIfInBounds_toArray, List.set_cons_zero, List.set_cons_succ]
   refine takeD (i := 4) (v := (.func (.func 59) #[] #[.pointer (some ⟨N, 0, none⟩)])) (by rfl) (by kernel_rfl) (fun _ _ _ h => h) (by rfl) (fun u hu => by have hu0 : u.cell? ⟨N, 0, none⟩ = some (.func (.func 54) #[.pointer (some ⟨w.heap.size + 1, 0, none⟩)] #[]) := hu; go_simp) hS0 ?_
   simp only [Act.put, List.setIfInBounds_toArray, List.set_cons_zero, List.set_cons_succ]
   refine takeD (i := 6) (v := (.func (.func 54) #[.pointer (some ⟨w.heap.size + 1, 0, none⟩)] #[])) (by rfl) (by kernel_rfl) (fun _ _ _ h => h) (by rfl) (fun u hu => by have hu0 : u.cell? ⟨N, 0, none⟩ = some (.func (.func 54) #[.pointer (some ⟨w.heap.size + 1, 0, none⟩)] #[]) := hu; go_simp) hS0 ?_
   simp only [Act.put, List.setIfInBounds_toArray, List.set_cons_zero, List.set_cons_succ]
   refine takeD (i := 8) (v := (.func (.func 54) #[.pointer (some ⟨w.heap.size + 1, 0, none⟩)] #[])) (by rfl) (by kernel_rfl) (fun _ _ _ h => h) (by rfl) (fun u hu => by have hu0 : u.cell? ⟨N, 0, none⟩ = some (.func (.func 54) #[.pointer (some ⟨w.heap.size + 1, 0, none⟩)] #[]) := hu; go_simp) hS0 ?_
   simp only [Act.put, List.setIfInBounds_toArray, List.set_cons_zero, List.set_cons_succ]
   refine takeD (i := 10) (v := (.func (.func 54) #[.pointer (some ⟨w.heap.size + 1, 0, none⟩)] #[])) (by rfl) (by kernel_rfl) (fun _ _ _ h => h) (by rfl) (fun u hu => by have hu0 : u.cell? ⟨N, 0, none⟩ = some (.func (.func 54) #[.pointer (some ⟨w.heap.size + 1, 0, none⟩)] #[]) := hu; go_simp) hS0 ?_
   simp only [Act.put, List.setIfInBounds_toArray, List.set_cons_zero, List.set_cons_succ]
   refine takeD (i := 12) (v := (.func (.func 54) #[.pointer (some ⟨w.heap.size + 1, 0, none⟩)] #[])) (by rfl) (by kernel_rfl) (fun _ _ _ h => h) (by rfl) (fun u hu => by have hu0 : u.cell? ⟨N, 0, none⟩ = some (.func (.func 54) #[.pointer (some ⟨w.heap.size + 1, 0, none⟩)] #[]) := hu; go_simp) hS0 ?_
   simp only [Act.put, List.setIfInBounds_toArray, List.set_cons_zero, List.set_cons_succ]
   refine takeD (i := 14) (v := (.func (.func 54) #[.pointer (some ⟨w.heap.size + 1, 0, none⟩)] #[])) (by rfl) (by kernel_rfl) (fun _ _ _ h => h) (by rfl) (fun u hu => by have hu0 : u.cell? ⟨N, 0, none⟩ = some (.func (.func 54) #[.pointer (some ⟨w.heap.size + 1, 0, none⟩)] #[]) := hu; go_simp) hS0 ?_
   simp only [Act.put, List.setIfInBounds_toArray, List.set_cons_zero, List.set_cons_succ]
   refine chainD (chain := [1, 3, 5, 7, 9, 11, 13, 15, 16, 18]) (A := 17) (base := (((((((((Array.replicate 19 false).setIfInBounds 0 true).setIfInBounds 2 true).setIfInBounds 4 true).setIfInBounds 6 true).setIfInBounds 8 true).setIfInBounds 10 true).setIfInBounds 12 true).setIfInBounds 14 true)) (by kernel_rfl) _ (GMInv ⟨s.toArray⟩ (w.heap.size + 1) w.heap.size N w (fun j => [.int .i64 vk, .int .i64 vf, .int .i64 vo, .int .u64 vt, .int .u64 vi, .int .u64 vp, .int .u64 vc, .int .u64 vm, .agg #[.int .i64 vk, .int .i64 vf, .int .i64 vo, .int .u64 vt, .int .u64 vi, .int .u64 vp, .int .u64 vc, .int .u64 vm, .bool false, .slice none 0 0, .string ⟨#[]⟩]].getD j undef) (⟨vk, vf, vo, vt, vi, vp, vc, vm, false, ⟨#[]⟩, []⟩ : Msg) (fun j => [r, r1, r2, r3, r4, r5, r6, r7, r8].getD j r)) (fun k d a u hi => hi.st.fn) ?hstep ?halloc ?hend 11 0 false _ _ (by rfl) (by decide) ?hinit
   case hinit => exact ⟨⟨undef, rfl, fun h => by cases h⟩, ST0.out, fun _ => by decide⟩
   case hstep =>
    intro k hk d a u hi hready
    have hk10 : k < 10 := hk
    obtain ⟨⟨v7, rfl, hd⟩, st, _⟩ := hi
    match k, hk10, hk, hd, st, hready with
    | 0, _, _, hd, st, _ =>
      have hact : getMAct ⟨s.toArray⟩ (w.heap.size + 1) w.heap.size N (fun j => [.int .i64 vk, .int .i64 vf, .int .i64 vo, .int .u64 vt, .int .u64 vi, .int .u64 vp, .int .u64 vc, .int .u64 vm, .agg #[.int .i64 vk, .int .i64 vf, .int .i64 vo, .int .u64 vt, .int .u64 vi, .int .u64 vp, .int .u64 vc, .int .u64 vm, .bool false, .slice none 0 0, .string ⟨#[]⟩]].getD j undef) 0 v7 = { tmps := #[.string ⟨s.toArray⟩, undef, .pointer (some ⟨w.heap.size, 0, none⟩), .bool false, .pointer (some ⟨w.heap.size + 1, 0, none⟩), .pointer (some ⟨N, 0, none⟩), (.func (.func 59) #[] #[.pointer (some ⟨N, 0, none⟩)]), v7, undef, .string ⟨s.toArray⟩, .pointer (some ⟨w.heap.size + 1, 0, none⟩), .pointer (some ⟨w.heap.size + 1, 0, none⟩), .func (.func 54) #[.pointer (some ⟨w.heap.size + 1, 0, none⟩)] #[], (.func (.func 59) #[] #[.pointer (some ⟨N, 0, none⟩)]), (.func (.func 59) #[] #[.pointer (some ⟨N, 0, none⟩)]), undef, (.func (.func 59) #[] #[.pointer (some ⟨N, 0, none⟩)]), undef, (.func (.func 59) #[] #[.pointer (some ⟨N, 0, none⟩)]), undef, .func (.func 54) #[.pointer (some ⟨w.heap.size + 1, 0, none⟩)] #[], undef, .func (.func 54) #[.pointer (some ⟨w.heap.size + 1, 0, none⟩)] #[], undef, .func (.func 54) #[.pointer (some ⟨w.heap.size + 1, 0, none⟩)] #[], undef, .func (.func 54) #[.pointer (some ⟨w.heap.size + 1, 0, none⟩)] #[], undef, .func (.func 54) #[.pointer (some ⟨w.heap.size + 1, 0, none⟩)] #[], undef, undef, undef, undef, undef, undef, undef, undef, undef, undef, undef, undef, undef, undef, undef, undef, undef, undef, undef, undef, undef, undef, undef, undef, undef, undef, undef, undef, undef, undef, undef, undef, undef, undef, undef, undef, undef, undef, undef, undef, undef, undef, undef, undef, undef, undef, undef, undef, undef, undef, undef, undef], defers := [] } := rfl
      rw [hact]
      refine wpOp_of (i := 1) (by rfl) (by rfl) ?_
      go_simp
      refine (K0.out _ _ st.rd st.fn).mono ?_
      rintro _ u2 ⟨rfl, hr, hb⟩
      refine ⟨⟨v7, rfl, fun h => ?_⟩, st.next hzb hbN hr hb, fun _ => by decide⟩
      obtain ⟨c, h1, h2, h3⟩ := hd h
      exact ⟨c, h1, h2, (hb.block c (heap_lt h3) (fun h => by have := Option.some.inj h; omega)).trans h3⟩
    | 1, _, _, hd, st, _ =>
      have hact : getMAct ⟨s.toArray⟩ (w.heap.size + 1) w.heap.size N (fun j => [.int .i64 vk, .int .i64 vf, .int .i64 vo, .int .u64 vt, .int .u64 vi, .int .u64 vp, .int .u64 vc, .int .u64 vm, .agg #[.int .i64 vk, .int .i64 vf, .int .i64 vo, .int .u64 vt, .int .u64 vi, .int .u64 vp, .int .u64 vc, .int .u64 vm, .bool false, .slice none 0 0, .string ⟨#[]⟩]].getD j undef) 1 v7 = { tmps := #[.string ⟨s.toArray⟩, undef, .pointer (some ⟨w.heap.size, 0, none⟩), .bool false, .pointer (some ⟨w.heap.size + 1, 0, none⟩), .pointer (some ⟨N, 0, none⟩), (.func (.func 59) #[] #[.pointer (some ⟨N, 0, none⟩)]), v7, undef, .string ⟨s.toArray⟩, .pointer (some ⟨w.heap.size + 1, 0, none⟩), .pointer (some ⟨w.heap.size + 1, 0, none⟩), .func (.func 54) #[.pointer (some ⟨w.heap.size + 1, 0, none⟩)] #[], (.func (.func 59) #[] #[.pointer (some ⟨N, 0, none⟩)]), (.func (.func 59) #[] #[.pointer (some ⟨N, 0, none⟩)]), .int .i64 vk, (.func (.func 59) #[] #[.pointer (some ⟨N, 0, none⟩)]), undef, (.func (.func 59) #[] #[.pointer (some ⟨N, 0, none⟩)]), undef, .func (.func 54) #[.pointer (some ⟨w.heap.size + 1, 0, none⟩)] #[], undef, .func (.func 54) #[.pointer (some ⟨w.heap.size + 1, 0, none⟩)] #[], undef, .func (.func 54) #[.pointer (some ⟨w.heap.size + 1, 0, none⟩)] #[], undef, .func (.func 54) #[.pointer (some ⟨w.heap.size + 1, 0, none⟩)] #[], undef, .func (.func 54) #[.pointer (some ⟨w.heap.size + 1, 0, none⟩)] #[], undef, undef, undef, undef, undef, undef, undef, undef, undef, undef, undef, undef, undef, undef, undef, undef, undef, undef, undef, undef, undef, undef, undef, undef, undef, undef, undef, undef, undef, undef, undef, undef, undef, undef, undef, undef, undef, undef, undef, undef, undef, undef, undef, undef, undef, undef, undef, undef, undef, undef, undef, undef], defers := [] } := rfl
      rw [hact]
      refine wpOp_of (i := 3) (by rfl) (by rfl) ?_
      go_simp
      refine (K1.out _ _ st.rd st.fn).mono ?_
      rintro _ u2 ⟨rfl, hr, hb⟩
      refine ⟨⟨v7, rfl, fun h => ?_⟩, st.next hzb hbN hr hb, fun _ => by decide⟩
      obtain ⟨c, h1, h2, h3⟩ := hd h
      exact ⟨c, h1, h2, (hb.block c (heap_lt h3) (fun h => by have := Option.some.inj h; omega)).trans h3⟩
    | 2, _, _, hd, st, _ =>
      have hact : getMAct ⟨s.toArray⟩ (w.heap.size + 1) w.heap.size N (fun j => [.int .i64 vk, .int .i64 vf, .int .i64 vo, .int .u64 vt, .int .u64 vi, .int .u64 vp, .int .u64 vc, .int .u64 vm, .agg #[.int .i64 vk, .int .i64 vf, .int .i64 vo, .int .u64 vt, .int .u64 vi, .int .u64 vp, .int .u64 vc, .int .u64 vm, .bool false, .slice none 0 0, .string ⟨#[]⟩]].getD j undef) 2 v7 = { tmps := #[.string ⟨s.toArray⟩, undef, .pointer (some ⟨w.heap.size, 0, none⟩), .bool false, .pointer (some ⟨w.heap.size + 1, 0, none⟩), .pointer (some ⟨N, 0, none⟩), (.func (.func 59) #[] #[.pointer (some ⟨N, 0, none⟩)]), v7, undef, .string ⟨s.toArray⟩, .pointer (some ⟨w.heap.size + 1, 0, none⟩), .pointer (some ⟨w.heap.size + 1, 0, none⟩), .func (.func 54) #[.pointer (some ⟨w.heap.size + 1, 0, none⟩)] #[], (.func (.func 59) #[] #[.pointer (some ⟨N, 0, none⟩)]), (.func (.func 59) #[] #[.pointer (some ⟨N, 0, none⟩)]), .int .i64 vk, (.func (.func 59) #[] #[.pointer (some ⟨N, 0, none⟩)]), .int .i64 vf, (.func (.func 59) #[] #[.pointer (some ⟨N, 0, none⟩)]), undef, .func (.func 54) #[.pointer (some ⟨w.heap.size + 1, 0, none⟩)] #[], undef, .func (.func 54) #[.pointer (some ⟨w.heap.size + 1, 0, none⟩)] #[], undef, .func (.func 54) #[.pointer (some ⟨w.heap.size + 1, 0, none⟩)] #[], undef, .func (.func 54) #[.pointer (some ⟨w.heap.size + 1, 0, none⟩)] #[], undef, .func (.func 54) #[.pointer (some ⟨w.heap.size + 1, 0, none⟩)] #[], undef, undef, undef, undef, undef, undef, undef, undef, undef, undef, undef, undef, undef, undef, undef, undef, undef, undef, undef, undef, undef, undef, undef, undef, undef, undef, undef, undef, undef, undef, undef, undef, undef, undef, undef, undef, undef, undef, undef, undef, undef, undef, undef, undef, undef, undef, undef, undef, undef, undef, undef, undef], defers := [] } := rfl
      rw [hact]
      refine wpOp_of (i := 5) (by rfl) (by rfl) ?_
      go_simp
      refine (K2.out _ _ st.rd st.fn).mono ?_
      rintro _ u2 ⟨rfl, hr, hb⟩
      refine ⟨⟨v7, rfl, fun h => ?_⟩, st.next hzb hbN hr hb, fun _ => by decide⟩
      obtain ⟨c, h1, h2, h3⟩ := hd h
      exact ⟨c, h1, h2, (hb.block c (heap_lt h3) (fun h => by have := Option.some.inj h; omega)).trans h3⟩
    | 3, _, _, hd, st, _ =>
      have hact : getMAct ⟨s.toArray⟩ (w.heap.size + 1) w.heap.size N (fun j => [.int .i64 vk, .int .i64 vf, .int .i64 vo, .int .u64 vt, .int .u64 vi, .int .u64 vp, .int .u64 vc, .int .u64 vm, .agg #[.int .i64 vk, .int .i64 vf, .int .i64 vo, .int .u64 vt, .int .u64 vi, .int .u64 vp, .int .u64 vc, .int .u64 vm, .bool false, .slice none 0 0, .string ⟨#[]⟩]].getD j undef) 3 v7 = { tmps := #[.string ⟨s.toArray⟩, undef, .pointer (some ⟨w.heap.size, 0, none⟩), .bool false, .pointer (some ⟨w.heap.size + 1, 0, none⟩), .pointer (some ⟨N, 0, none⟩), (.func (.func 59) #[] #[.pointer (some ⟨N, 0, none⟩)]), v7, undef, .string ⟨s.toArray⟩, .pointer (some ⟨w.heap.size + 1, 0, none⟩), .pointer (some ⟨w.heap.size + 1, 0, none⟩), .func (.func 54) #[.pointer (some ⟨w.heap.size + 1, 0, none⟩)] #[], (.func (.func 59) #[] #[.pointer (some ⟨N, 0, none⟩)]), (.func (.func 59) #[] #[.pointer (some ⟨N, 0, none⟩)]), .int .i64 vk, (.func (.func 59) #[] #[.pointer (some ⟨N, 0, none⟩)]), .int .i64 vf, (.func (.func 59) #[] #[.pointer (some ⟨N, 0, none⟩)]), .int .i64 vo, .func (.func 54) #[.pointer (some ⟨w.heap.size + 1, 0, none⟩)] #[], undef, .func (.func 54) #[.pointer (some ⟨w.heap.size + 1, 0, none⟩)] #[], undef, .func (.func 54) #[.pointer (some ⟨w.heap.size + 1, 0, none⟩)] #[], undef, .func (.func 54) #[.pointer (some ⟨w.heap.size + 1, 0, none⟩)] #[], undef, .func (.func 54) #[.pointer (some ⟨w.heap.size + 1, 0, none⟩)] #[], undef, undef, undef, undef, undef, undef, undef, undef, undef, undef, undef, undef, undef, undef, undef, undef, undef, undef, undef, undef, undef, undef, undef, undef, undef, undef, undef, undef, undef, undef, undef, undef, undef, undef, undef, undef, undef, undef, undef, undef, undef, undef, undef, undef, undef, undef, undef, undef, undef, undef, undef, undef], defers := [] } := rfl
      rw [hact]
      refine wpOp_of (i := 7) (by rfl) (by rfl) ?_
      go_simp
      refine (K3.out _ st.rd).mono ?_
      rintro _ u2 ⟨rfl, hr, hb⟩
      refine ⟨⟨v7, rfl, fun h => ?_⟩, st.next hzb hbN hr hb, fun _ => by decide⟩
      obtain ⟨c, h1, h2, h3⟩ := hd h
      exact ⟨c, h1, h2, (hb.block c (heap_lt h3) (fun h => by have := Option.some.inj h; omega)).trans h3⟩
    | 4, _, _, hd, st, _ =>
      have hact : getMAct ⟨s.toArray⟩ (w.heap.size + 1) w.heap.size N (fun j => [.int .i64 vk, .int .i64 vf, .int .i64 vo, .int .u64 vt, .int .u64 vi, .int .u64 vp, .int .u64 vc, .int .u64 vm, .agg #[.int .i64 vk, .int .i64 vf, .int .i64 vo, .int .u64 vt, .int .u64 vi, .int .u64 vp, .int .u64 vc, .int .u64 vm, .bool false, .slice none 0 0, .string ⟨#[]⟩]].getD j undef) 4 v7 = { tmps := #[.string ⟨s.toArray⟩, undef, .pointer (some ⟨w.heap.size, 0, none⟩), .bool false, .pointer (some ⟨w.heap.size + 1, 0, none⟩), .pointer (some ⟨N, 0, none⟩), (.func (.func 59) #[] #[.pointer (some ⟨N, 0, none⟩)]), v7, undef, .string ⟨s.toArray⟩, .pointer (some ⟨w.heap.size + 1, 0, none⟩), .pointer (some ⟨w.heap.size + 1, 0, none⟩), .func (.func 54) #[.pointer (some ⟨w.heap.size + 1, 0, none⟩)] #[], (.func (.func 59) #[] #[.pointer (some ⟨N, 0, none⟩)]), (.func (.func 59) #[] #[.pointer (some ⟨N, 0, none⟩)]), .int .i64 vk, (.func (.func 59) #[] #[.pointer (some ⟨N, 0, none⟩)]), .int .i64 vf, (.func (.func 59) #[] #[.pointer (some ⟨N, 0, none⟩)]), .int .i64 vo, .func (.func 54) #[.pointer (some ⟨w.heap.size + 1, 0, none⟩)] #[], .int .u64 vt, .func (.func 54) #[.pointer (some ⟨w.heap.size + 1, 0, none⟩)] #[], undef, .func (.func 54) #[.pointer (some ⟨w.heap.size + 1, 0, none⟩)] #[], undef, .func (.func 54) #[.pointer (some ⟨w.heap.size + 1, 0, none⟩)] #[], undef, .func (.func 54) #[.pointer (some ⟨w.heap.size + 1, 0, none⟩)] #[], undef, undef, undef, undef, undef, undef, undef, undef, undef, undef, undef, undef, undef, undef, undef, undef, undef, undef, undef, undef, undef, undef, undef, undef, undef, undef, undef, undef, undef, undef, undef, undef, undef, undef, undef, undef, undef, undef, undef, undef, undef, undef, undef, undef, undef, undef, undef, undef, undef, undef, undef, undef], defers := [] } := rfl
      rw [hact]
      refine wpOp_of (i := 9) (by rfl) (by rfl) ?_
      go_simp
      refine (K4.out _ st.rd).mono ?_
      rintro _ u2 ⟨rfl, hr, hb⟩
      refine ⟨⟨v7, rfl, fun h => ?_⟩, st.next hzb hbN hr hb, fun _ => by decide⟩
      obtain ⟨c, h1, h2, h3⟩ := hd h
      exact ⟨c, h1, h2, (hb.block c (heap_lt h3) (fun h => by have := Option.some.inj h; omega)).trans h3⟩
    | 5, _, _, hd, st, _ =>
      have hact : getMAct ⟨s.toArray⟩ (w.heap.size + 1) w.heap.size N (fun j => [.int .i64 vk, .int .i64 vf, .int .i64 vo, .int .u64 vt, .int .u64 vi, .int .u64 vp, .int .u64 vc, .int .u64 vm, .agg #[.int .i64 vk, .int .i64 vf, .int .i64 vo, .int .u64 vt, .int .u64 vi, .int .u64 vp, .int .u64 vc, .int .u64 vm, .bool false, .slice none 0 0, .string ⟨#[]⟩]].getD j undef) 5 v7 = { tmps := #[.string ⟨s.toArray⟩, undef, .pointer (some ⟨w.heap.size, 0, none⟩), .bool false, .pointer (some ⟨w.heap.size + 1, 0, none⟩), .pointer (some ⟨N, 0, none⟩), (.func (.func 59) #[] #[.pointer (some ⟨N, 0, none⟩)]), v7, undef, .string ⟨s.toArray⟩, .pointer (some ⟨w.heap.size + 1, 0, none⟩), .pointer (some ⟨w.heap.size + 1, 0, none⟩), .func (.func 54) #[.pointer (some ⟨w.heap.size + 1, 0, none⟩)] #[], (.func (.func 59) #[] #[.pointer (some ⟨N, 0, none⟩)]), (.func (.func 59) #[] #[.pointer (some ⟨N, 0, none⟩)]), .int .i64 vk, (.func (.func 59) #[] #[.pointer (some ⟨N, 0, none⟩)]), .int .i64 vf, (.func (.func 59) #[] #[.pointer (some ⟨N, 0, none⟩)]), .int .i64 vo, .func (.func 54) #[.pointer (some ⟨w.heap.size + 1, 0, none⟩)] #[], .int .u64 vt, .func (.func 54) #[.pointer (some ⟨w.heap.size + 1, 0, none⟩)] #[], .int .u64 vi, .func (.func 54) #[.pointer (some ⟨w.heap.size + 1, 0, none⟩)] #[], undef, .func (.func 54) #[.pointer (some ⟨w.heap.size + 1, 0, none⟩)] #[], undef, .func (.func 54) #[.pointer (some ⟨w.heap.size + 1, 0, none⟩)] #[], undef, undef, undef, undef, undef, undef, undef, undef, undef, undef, undef, undef, undef, undef, undef, undef, undef, undef, undef, undef, undef, undef, undef, undef, undef, undef, undef, undef, undef, undef, undef, undef, undef, undef, undef, undef, undef, undef, undef, undef, undef, undef, undef, undef, undef, undef, undef, undef, undef, undef, undef, undef], defers := [] } := rfl
      rw [hact]
      refine wpOp_of (i := 11) (by rfl) (by rfl) ?_
      go_simp
      refine (K5.out _ st.rd).mono ?_
      rintro _ u2 ⟨rfl, hr, hb⟩
      refine ⟨⟨v7, rfl, fun h => ?_⟩, st.next hzb hbN hr hb, fun _ => by decide⟩
      obtain ⟨c, h1, h2, h3⟩ := hd h
      exact ⟨c, h1, h2, (hb.block c (heap_lt h3) (fun h => by have := Option.some.inj h; omega)).trans h3⟩
    | 6, _, _, hd, st, _ =>
      have hact : getMAct ⟨s.toArray⟩ (w.heap.size + 1) w.heap.size N (fun j => [.int .i64 vk, .int .i64 vf, .int .i64 vo, .int .u64 vt, .int .u64 vi, .int .u64 vp, .int .u64 vc, .int .u64 vm, .agg #[.int .i64 vk, .int .i64 vf, .int .i64 vo, .int .u64 vt, .int .u64 vi, .int .u64 vp, .int .u64 vc, .int .u64 vm, .bool false, .slice none 0 0, .string ⟨#[]⟩]].getD j undef) 6 v7 = { tmps := #[.string ⟨s.toArray⟩, undef, .pointer (some ⟨w.heap.size, 0, none⟩), .bool false, .pointer (some ⟨w.heap.size + 1, 0, none⟩), .pointer (some ⟨N, 0, none⟩), (.func (.func 59) #[] #[.pointer (some ⟨N, 0, none⟩)]), v7, undef, .string ⟨s.toArray⟩, .pointer (some ⟨w.heap.size + 1, 0, none⟩), .pointer (some ⟨w.heap.size + 1, 0, none⟩), .func (.func 54) #[.pointer (some ⟨w.heap.size + 1, 0, none⟩)] #[], (.func (.func 59) #[] #[.pointer (some ⟨N, 0, none⟩)]), (.func (.func 59) #[] #[.pointer (some ⟨N, 0, none⟩)]), .int .i64 vk, (.func (.func 59) #[] #[.pointer (some ⟨N, 0, none⟩)]), .int .i64 vf, (.func (.func 59) #[] #[.pointer (some ⟨N, 0, none⟩)]), .int .i64 vo, .func (.func 54) #[.pointer (some ⟨w.heap.size + 1, 0, none⟩)] #[], .int .u64 vt, .func (.func 54) #[.pointer (some ⟨w.heap.size + 1, 0, none⟩)] #[], .int .u64 vi, .func (.func 54) #[.pointer (some ⟨w.heap.size + 1, 0, none⟩)] #[], .int .u64 vp, .func (.func 54) #[.pointer (some ⟨w.heap.size + 1, 0, none⟩)] #[], undef, .func (.func 54) #[.pointer (some ⟨w.heap.size + 1, 0, none⟩)] #[], undef, undef, undef, undef, undef, undef, undef, undef, undef, undef, undef, undef, undef, undef, undef, undef, undef, undef, undef, undef, undef, undef, undef, undef, undef, undef, undef, undef, undef, undef, undef, undef, undef, undef, undef, undef, undef, undef, undef, undef, undef, undef, undef, undef, undef, undef, undef, undef, undef, undef, undef, undef], defers := [] } := rfl
      rw [hact]
      refine wpOp_of (i := 13) (by rfl) (by rfl) ?_
      go_simp
      refine (K6.out _ st.rd).mono ?_
      rintro _ u2 ⟨rfl, hr, hb⟩
      refine ⟨⟨v7, rfl, fun h => ?_⟩, st.next hzb hbN hr hb, fun _ => by decide⟩
      obtain ⟨c, h1, h2, h3⟩ := hd h
      exact ⟨c, h1, h2, (hb.block c (heap_lt h3) (fun h => by have := Option.some.inj h; omega)).trans h3⟩
    | 7, _, _, hd, st, _ =>
      have hact : getMAct ⟨s.toArray⟩ (w.heap.size + 1) w.heap.size N (fun j => [.int .i64 vk, .int .i64 vf, .int .i64 vo, .int .u64 vt, .int .u64 vi, .int .u64 vp, .int .u64 vc, .int .u64 vm, .agg #[.int .i64 vk, .int .i64 vf, .int .i64 vo, .int .u64 vt, .int .u64 vi, .int .u64 vp, .int .u64 vc, .int .u64 vm, .bool false, .slice none 0 0, .string ⟨#[]⟩]].getD j undef) 7 v7 = { tmps := #[.string ⟨s.toArray⟩, undef, .pointer (some ⟨w.heap.size, 0, none⟩), .bool false, .pointer (some ⟨w.heap.size + 1, 0, none⟩), .pointer (some ⟨N, 0, none⟩), (.func (.func 59) #[] #[.pointer (some ⟨N, 0, none⟩)]), v7, undef, .string ⟨s.toArray⟩, .pointer (some ⟨w.heap.size + 1, 0, none⟩), .pointer (some ⟨w.heap.size + 1, 0, none⟩), .func (.func 54) #[.pointer (some ⟨w.heap.size + 1, 0, none⟩)] #[], (.func (.func 59) #[] #[.pointer (some ⟨N, 0, none⟩)]), (.func (.func 59) #[] #[.pointer (some ⟨N, 0, none⟩)]), .int .i64 vk, (.func (.func 59) #[] #[.pointer (some ⟨N, 0, none⟩)]), .int .i64 vf, (.func (.func 59) #[] #[.pointer (some ⟨N, 0, none⟩)]), .int .i64 vo, .func (.func 54) #[.pointer (some ⟨w.heap.size + 1, 0, none⟩)] #[], .int .u64 vt, .func (.func 54) #[.pointer (some ⟨w.heap.size + 1, 0, none⟩)] #[], .int .u64 vi, .func (.func 54) #[.pointer (some ⟨w.heap.size + 1, 0, none⟩)] #[], .int .u64 vp, .func (.func 54) #[.pointer (some ⟨w.heap.size + 1, 0, none⟩)] #[], .int .u64 vc, .func (.func 54) #[.pointer (some ⟨w.heap.size + 1, 0, none⟩)] #[], undef, undef, undef, undef, undef, undef, undef, undef, undef, undef, undef, undef, undef, undef, undef, undef, undef, undef, undef, undef, undef, undef, undef, undef, undef, undef, undef, undef, undef, undef, undef, undef, undef, undef, undef, undef, undef, undef, undef, undef, undef, undef, undef, undef, undef, undef, undef, undef, undef, undef, undef, undef], defers := [] } := rfl
      rw [hact]
      refine wpOp_of (i := 15) (by rfl) (by rfl) ?_
      go_simp
      refine (K7.out _ st.rd).mono ?_
      rintro _ u2 ⟨rfl, hr, hb⟩
      refine ⟨⟨v7, rfl, fun h => ?_⟩, st.next hzb hbN hr hb, fun _ => by decide⟩
      obtain ⟨c, h1, h2, h3⟩ := hd h
      exact ⟨c, h1, h2, (hb.block c (heap_lt h3) (fun h => by have := Option.some.inj h; omega)).trans h3⟩
    | 8, _, _, hd, st, _ =>
      have hact : getMAct ⟨s.toArray⟩ (w.heap.size + 1) w.heap.size N (fun j => [.int .i64 vk, .int .i64 vf, .int .i64 vo, .int .u64 vt, .int .u64 vi, .int .u64 vp, .int .u64 vc, .int .u64 vm, .agg #[.int .i64 vk, .int .i64 vf, .int .i64 vo, .int .u64 vt, .int .u64 vi, .int .u64 vp, .int .u64 vc, .int .u64 vm, .bool false, .slice none 0 0, .string ⟨#[]⟩]].getD j undef) 8 v7 = { tmps := #[.string ⟨s.toArray⟩, undef, .pointer (some ⟨w.heap.size, 0, none⟩), .bool false, .pointer (some ⟨w.heap.size + 1, 0, none⟩), .pointer (some ⟨N, 0, none⟩), (.func (.func 59) #[] #[.pointer (some ⟨N, 0, none⟩)]), v7, undef, .string ⟨s.toArray⟩, .pointer (some ⟨w.heap.size + 1, 0, none⟩), .pointer (some ⟨w.heap.size + 1, 0, none⟩), .func (.func 54) #[.pointer (some ⟨w.heap.size + 1, 0, none⟩)] #[], (.func (.func 59) #[] #[.pointer (some ⟨N, 0, none⟩)]), (.func (.func 59) #[] #[.pointer (some ⟨N, 0, none⟩)]), .int .i64 vk, (.func (.func 59) #[] #[.pointer (some ⟨N, 0, none⟩)]), .int .i64 vf, (.func (.func 59) #[] #[.pointer (some ⟨N, 0, none⟩)]), .int .i64 vo, .func (.func 54) #[.pointer (some ⟨w.heap.size + 1, 0, none⟩)] #[], .int .u64 vt, .func (.func 54) #[.pointer (some ⟨w.heap.size + 1, 0, none⟩)] #[], .int .u64 vi, .func (.func 54) #[.pointer (some ⟨w.heap.size + 1, 0, none⟩)] #[], .int .u64 vp, .func (.func 54) #[.pointer (some ⟨w.heap.size + 1, 0, none⟩)] #[], .int .u64 vc, .func (.func 54) #[.pointer (some ⟨w.heap.size + 1, 0, none⟩)] #[], .int .u64 vm, undef, undef, undef, undef, undef, undef, undef, undef, undef, undef, undef, undef, undef, undef, undef, undef, undef, undef, undef, undef, undef, undef, undef, undef, undef, undef, undef, undef, undef, undef, undef, undef, undef, undef, undef, undef, undef, undef, undef, undef, undef, undef, undef, undef, undef, undef, undef, undef, undef, undef, undef], defers := [] } := rfl
      rw [hact]
      refine wpOp_of (i := 16) (by rfl) (by rfl) ?_
      go_simp
      exact ⟨⟨v7, rfl, fun h => hd h⟩, st, fun _ => by decide⟩
    | 9, _, _, hd, st, hready =>
      have hact : getMAct ⟨s.toArray⟩ (w.heap.size + 1) w.heap.size N (fun j => [.int .i64 vk, .int .i64 vf, .int .i64 vo, .int .u64 vt, .int .u64 vi, .int .u64 vp, .int .u64 vc, .int .u64 vm, .agg #[.int .i64 vk, .int .i64 vf, .int .i64 vo, .int .u64 vt, .int .u64 vi, .int .u64 vp, .int .u64 vc, .int .u64 vm, .bool false, .slice none 0 0, .string ⟨#[]⟩]].getD j undef) 9 v7 = { tmps := #[.string ⟨s.toArray⟩, undef, .pointer (some ⟨w.heap.size, 0, none⟩), .bool false, .pointer (some ⟨w.heap.size + 1, 0, none⟩), .pointer (some ⟨N, 0, none⟩), (.func (.func 59) #[] #[.pointer (some ⟨N, 0, none⟩)]), v7, undef, .string ⟨s.toArray⟩, .pointer (some ⟨w.heap.size + 1, 0, none⟩), .pointer (some ⟨w.heap.size + 1, 0, none⟩), .func (.func 54) #[.pointer (some ⟨w.heap.size + 1, 0, none⟩)] #[], (.func (.func 59) #[] #[.pointer (some ⟨N, 0, none⟩)]), (.func (.func 59) #[] #[.pointer (some ⟨N, 0, none⟩)]), .int .i64 vk, (.func (.func 59) #[] #[.pointer (some ⟨N, 0, none⟩)]), .int .i64 vf, (.func (.func 59) #[] #[.pointer (some ⟨N, 0, none⟩)]), .int .i64 vo, .func (.func 54) #[.pointer (some ⟨w.heap.size + 1, 0, none⟩)] #[], .int .u64 vt, .func (.func 54) #[.pointer (some ⟨w.heap.size + 1, 0, none⟩)] #[], .int .u64 vi, .func (.func 54) #[.pointer (some ⟨w.heap.size + 1, 0, none⟩)] #[], .int .u64 vp, .func (.func 54) #[.pointer (some ⟨w.heap.size + 1, 0, none⟩)] #[], .int .u64 vc, .func (.func 54) #[.pointer (some ⟨w.heap.size + 1, 0, none⟩)] #[], .int .u64 vm, .agg #[.int .i64 vk, .int .i64 vf, .int .i64 vo, .int .u64 vt, .int .u64 vi, .int .u64 vp, .int .u64 vc, .int .u64 vm, .bool false, .slice none 0 0, .string ⟨#[]⟩], undef, undef, undef, undef, undef, undef, undef, undef, undef, undef, undef, undef, undef, undef, undef, undef, undef, undef, undef, undef, undef, undef, undef, undef, undef, undef, undef, undef, undef, undef, undef, undef, undef, undef, undef, undef, undef, undef, undef, undef, undef, undef, undef, undef, undef, undef, undef, undef, undef, undef], defers := [] } := rfl
      rw [hact]
      cases d with
      | false => exact absurd hready (of_decide_eq_false (by kernel_rfl))
      | true =>
        obtain ⟨c, rfl, h2, h3⟩ := hd rfl
        refine wpOp_of (i := 18) (by rfl) (by rfl) ?_
        have h3 : u.heap[c]? = some (.cells (Msg.none.cells (.slice none 0 0)) MsgT (0, 0)) := h3
        have z0 : u.cell? ⟨c, 0, none⟩ = some (.int .i64 0) := Lib.cell_of_heap h3 0
        have z1 : u.cell? ⟨c, 1, none⟩ = some (.int .i64 0) := Lib.cell_of_heap h3 1
        have z2 : u.cell? ⟨c, 2, none⟩ = some (.int .i64 0) := Lib.cell_of_heap h3 2
        have z3 : u.cell? ⟨c, 3, none⟩ = some (.int .u64 0) := Lib.cell_of_heap h3 3
        have z4 : u.cell? ⟨c, 4, none⟩ = some (.int .u64 0) := Lib.cell_of_heap h3 4
        have z5 : u.cell? ⟨c, 5, none⟩ = some (.int .u64 0) := Lib.cell_of_heap h3 5
        have z6 : u.cell? ⟨c, 6, none⟩ = some (.int .u64 0) := Lib.cell_of_heap h3 6
        have z7 : u.cell? ⟨c, 7, none⟩ = some (.int .u64 0) := Lib.cell_of_heap h3 7
        have z8 : u.cell? ⟨c, 8, none⟩ = some (.bool false) := Lib.cell_of_heap h3 8
        have z9 : u.cell? ⟨c, 9, none⟩ = some (.slice none 0 0) := Lib.cell_of_heap h3 9
        have z10 : u.cell? ⟨c, 10, none⟩ = some (.string ⟨#[]⟩) := Lib.cell_of_heap h3 10
        have fz : ∀ o, u.frozen? ⟨c, o, none⟩ = false := fun o => Lib.frozen_of_heap h3 o
        have st9 : GetMSt (w.heap.size + 1) w.heap.size N w u r8 := st
        go_simp
        refine ⟨⟨.pointer (some ⟨c, 0, none⟩), rfl, fun _ => ⟨c, rfl, h2, ?_⟩⟩, ?_, fun h => by cases h⟩
        · simp [World.setCell, Array.getElem?_modify, h3, Msg.cells, Msg.none]
        · show GetMSt (w.heap.size + 1) w.heap.size N w _ r8
          repeat' (first | with_reducible exact st9 | with_reducible exact hzb | with_reducible exact hbN | with_reducible exact h2 | with_reducible refine GetMSt.set ?_ ?_ ?_ ?_)
    | k + 10, h, _, _, _, _ => exact absurd h (by omega)
   case halloc =>
    intro k hk a u hi
    obtain ⟨⟨v7, rfl, _⟩, st, hlt⟩ := hi
    refine wpOp_of (i := 17) (by rfl) (by rfl) ?_
    have hk10 := hlt rfl
    go_simp
    refine ⟨⟨.pointer (some ⟨u.heap.size, 0, none⟩), rfl, fun _ => ⟨u.heap.size, rfl, st.size, ?_⟩⟩, st.alloc hzb hbN _, fun h => by cases h⟩
    rw [if_pos hk10]
    exact heap_alloc_new u _
   case hend =>
    intro a u hi
    obtain ⟨⟨v7, rfl, hd⟩, st, _⟩ := hi
    obtain ⟨c, rfl, h2, h3⟩ := hd rfl
    refine NoPanic.normal ?_
    go_wp2_with fail
    go_meet
    exact ⟨c, rfl, h2, h3, st⟩
  case rest =>
  obtain ⟨c, rfl, hc, he, hst⟩ := hcut
  have hzb : w.heap.size < w.heap.size + 1 := Nat.lt_succ_self _
  have hbN : w.heap.size + 1 < N := by omega
  have HE := Lib.hid he
  have ST := Lib.hid hst
  clear he hst H1 HZ1 HB1
  go_wp2_with fail
  refine (K8.out _ _ ST.out.rd ST.out.fn).mono ?_
  rintro x w2 ⟨rfl, hr, hb⟩
  have HE2 := Lib.hid ((hb.block c (heap_lt HE.out) (fun h => by have := Option.some.inj h; omega)).trans HE.out)
  have ST2 := Lib.hid (ST.out.next hzb hbN hr hb)
  clear hr hb HE ST
  have c0 : w2.cell? ⟨c, 0, none⟩ = some (.int .i64 vk) := Lib.cell_of_heap HE2.out 0
  have c1 : w2.cell? ⟨c, 1, none⟩ = some (.int .i64 vf) := Lib.cell_of_heap HE2.out 1
  have c2 : w2.cell? ⟨c, 2, none⟩ = some (.int .i64 vo) := Lib.cell_of_heap HE2.out 2
  have c3 : w2.cell? ⟨c, 3, none⟩ = some (.int .u64 vt) := Lib.cell_of_heap HE2.out 3
  have c4 : w2.cell? ⟨c, 4, none⟩ = some (.int .u64 vi) := Lib.cell_of_heap HE2.out 4
  have c5 : w2.cell? ⟨c, 5, none⟩ = some (.int .u64 vp) := Lib.cell_of_heap HE2.out 5
  have c6 : w2.cell? ⟨c, 6, none⟩ = some (.int .u64 vc) := Lib.cell_of_heap HE2.out 6
  have c7 : w2.cell? ⟨c, 7, none⟩ = some (.int .u64 vm) := Lib.cell_of_heap HE2.out 7
  have c8 : w2.cell? ⟨c, 8, none⟩ = some (.bool false) := Lib.cell_of_heap HE2.out 8
  have c9 : w2.cell? ⟨c, 9, none⟩ = some (.slice none 0 0) := Lib.cell_of_heap HE2.out 9
  have c10 : w2.cell? ⟨c, 10, none⟩ = some (.string ⟨#[]⟩) := Lib.cell_of_heap HE2.out 10
  have hfz : ∀ o, w2.frozen? ⟨c, o, none⟩ = false := fun o => Lib.frozen_of_heap HE2.out o
  have hyb : ((vy : Int) == 1) = (vy == 1) := by
    by_cases h : vy = 1
    · subst h; rfl
    · rw [beq_eq_false_iff_ne.2 h]
      exact beq_eq_false_iff_ne.2 (by omega)
  generalize hyv : (vy == 1) = yb at *
  have HYV := Lib.hid hyv
  clear hyv
  go_upto_region 7 with fail
  have hE3 : (w2.setCell ⟨c, 8, none⟩ (.bool yb)).heap[c]? = some (.cells (Msg.cells ⟨(vk : Int), (vf : Int), (vo : Int), (vt : Int), (vi : Int), (vp : Int), (vc : Int), (vm : Int), yb, ⟨#[]⟩, []⟩ (.slice none 0 0)) MsgT (0, 0)) := by
    have := HE2.out
    simp [World.setCell, Array.getElem?_modify, this, Msg.cells]
  have ST3 := Lib.hid (ST2.out.set (o := 8) (v := .bool yb) hzb hbN hc)
  have HE3 := Lib.hid hE3
  clear hE3 c0 c1 c2 c3 c4 c5 c6 c7 c8 c9 c10 hfz HE2 ST2
  generalize (w2.setCell ⟨c, 8, none⟩ (.bool yb)) = w3 at *
  have hfn3 := ST3.out.fn
  go_wp2_with fail
  refine (K9.out _ _ ST3.out.rd ST3.out.fn).mono ?_
  rintro x w4 ⟨rfl, hr, hb⟩
  have HE4 := Lib.hid ((hb.block c (heap_lt HE3.out) (fun h => by have := Option.some.inj h; omega)).trans HE3.out)
  have ST4 := Lib.hid (ST3.out.next hzb hbN hr hb)
  have hfn4 := ST4.out.fn
  have hc4 := heap_lt HE4.out
  have hNn := ST4.out.size
  clear hr hb HE3 ST3 hfn3
  obtain ⟨n0, hn0⟩ : ∃ n0, n0 = w4.heap.size := ⟨_, rfl⟩
  have HN0 := Lib.hid hn0
  rw [← hn0] at hc4 hNn
  clear hn0
  go_upto_block 0 with fail
  go_cut [] from 38 to 50 (fun wx => ∃ v', MsgIn n0 c ⟨(vk : Int), (vf : Int), (vo : Int), (vt : Int), (vi : Int), (vp : Int), (vc : Int), (vm : Int), yb, ⟨#[]⟩, es⟩ v' wx ∧ GetMSt (w.heap.size + 1) w.heap.size N w wx r11)
  case first =>
    go_wp2_with fail
    go_loopw [38] (fun ix wr => ∃ (k : Nat) (v' : Value), k ≤ vn ∧ ix = .int .i64 k ∧ MsgIn n0 c ⟨(vk : Int), (vf : Int), (vo : Int), (vt : Int), (vi : Int), (vp : Int), (vc : Int), (vm : Int), yb, ⟨#[]⟩, (entsR k r10).1⟩ v' wr ∧ GetMSt (w.heap.size + 1) w.heap.size N w wr (entsR k r10).2 ∧ n0 ≤ wr.heap.size) (fun ix _ => vn - (intOf ix).toNat)
    case atStart => exact ⟨0, .slice none 0 0, Nat.zero_le _, rfl, ⟨HE4.out, World.ownsRow_nil _ _ _ _⟩, ST4.out, Nat.le_of_eq HN0.out⟩
    case round =>
      obtain ⟨k, v', hk, rfl, hmi, hst, hnw⟩ := hrel
      clear HE4 ST4 hfn4
      by_cases hlt : k < vn
      · have hck := HCNT.out k hk
        have hshrk := HSHR.out k
        have hsn := entsR_snoc k r10
        have hstop := entsR_stop k r10
        generalize hz : entsR k r10 = z at hck hshrk hsn hstop hmi hst
        clear hz
        obtain ⟨zs, u, bad⟩ := z
        simp only at hck hshrk hmi hst
        have HMI := Lib.hid hmi
        have HST := Lib.hid hst
        clear hmi hst
        cases bad
        case true =>
          have he : entsR vn r10 = (zs, u, true) := by
            have := hstop rfl (vn - k)
            rwa [show k + (vn - k) = vn by omega] at this
          obtain ⟨e1, e2⟩ := Prod.mk.inj (HENT.out.trans he)
          have HE1 := Lib.hid e1
          have HE2 := Lib.hid e2
          clear e1 e2 he hstop hsn
          go_wp2_with fail
          refine (ok_any _ (u, true) wr HST.out.rd).mono ?_
          rintro x wr' ⟨rfl, rfl⟩
          go_wp2_with fail
          go_meet
          exact ⟨v', by rw [HE1.out]; exact HMI.out, by rw [HE2.out]; exact HST.out⟩
        case false =>
          have hget := firstGet_any (w.heap.size + 1) (u, false) hshrk
          rw [if_neg (by simp)] at hsn
          simp only at hsn
          clear hstop
          generalize getF (u, false) = q at hget hsn
          obtain ⟨y, r4⟩ := q
          simp only at hsn hget
          obtain ⟨y0, y1, y2, y3, y4, y5, y6, y7, y8, y9, y10⟩ := y
          simp only [Ent.val, Ent.cells] at hget
          have HSN := Lib.hid hsn
          have HGET := Lib.hid hget
          clear hsn hget
          obtain ⟨qa, qc, hv⟩ := HMI.out.slice
          have hv : v' = .slice qa zs.length qc := hv
          subst hv
          have hrow : wr.ownsRow n0 EntT 11 (.slice qa zs.length qc) zs.length (zs.flatMap fun e => e.cells.toList) := HMI.out.row
          have hblk : wr.heap[c]? = some (.cells #[.int .i64 vk, .int .i64 vf, .int .i64 vo, .int .u64 vt, .int .u64 vi, .int .u64 vp, .int .u64 vc, .int .u64 vm, .bool yb, .slice qa zs.length qc, .string ⟨#[]⟩] MsgT (0, 0)) := HMI.out.block
          have ROW := Lib.hid hrow
          have HBLK := Lib.hid hblk
          clear hrow hblk
          go_wp2_with fail
          refine (ok_any _ (u, false) wr HST.out.rd).mono ?_
          rintro x wr' ⟨rfl, rfl⟩
          go_wp2_with fail
          have hS0 : wr'.drew.cell? ⟨c, 9, none⟩ = some (.slice qa zs.length qc) := by
            have : wr'.cell? ⟨c, 9, none⟩ = some (.slice qa zs.length qc) := Lib.cell_of_heap HBLK.out 9
            exact this
          refine region_D (fun u => u.cell? ⟨c, 9, none⟩ = some (.slice qa zs.length qc)) [7] 8 (by kernel_rfl) (by rfl) ?_
          refine takeD (i := 0) (v := .pointer (some ⟨c, 9, none⟩)) (by rfl) (by kernel_rfl) (fun _ _ _ h => h) (by rfl) (fun u hu => by go_simp) hS0 ?_
          simp only [Act.put, List.setIfInBounds_toArray, List.set_cons_zero, List.set_cons_succ]
          refine takeD (i := 1) (v := .slice qa zs.length qc) (by rfl) (by kernel_rfl) (fun _ _ _ h => h) (by rfl) (fun u hu => by go_simp) hS0 ?_
          simp only [Act.put, List.setIfInBounds_toArray, List.set_cons_zero, List.set_cons_succ]
          refine takeD (i := 2) (v := .pointer (some ⟨w.heap.size + 1, 0, none⟩)) (by rfl) (by kernel_rfl) (fun _ _ _ h => h) (by rfl) (fun u hu => by go_simp) hS0 ?_
          simp only [Act.put, List.setIfInBounds_toArray, List.set_cons_zero, List.set_cons_succ]
          refine oneD (i := 3) (by rfl) (by kernel_rfl) (by rfl) ?_
          go_simp
          refine (HGET.out wr'.drew HST.out.rd).mono ?_
          rintro _ w2 ⟨rfl, h2, hb2d⟩
          have hb2 : But (w.heap.size + 1) wr' w2 := ⟨hb2d.os, hb2d.tape, hb2d.output, hb2d.size, hb2d.block⟩
          have hS2 : w2.cell? ⟨c, 9, none⟩ = some (.slice qa zs.length qc) := (World.cell?_of_block (w := wr') (hb2.block c (heap_lt HBLK.out) (fun h => by have := Option.some.inj h; omega))).trans hS0
          have hn2w : n0 ≤ w2.heap.size := Nat.le_trans hnw hb2.size
          have hrow2 : w2.ownsRow n0 EntT 11 (.slice qa zs.length qc) zs.length (zs.flatMap fun e => e.cells.toList) := ROW.out.kept hb2 (own_not ROW.out (by omega))
          have hblk2 := (hb2.block c (heap_lt HBLK.out) (fun h => by have := Option.some.inj h; omega)).trans HBLK.out
          have HST2 := Lib.hid (HST.out.next hzb hbN h2 hb2)
          refine ⟨hS2, ?_⟩
          try simp only [Act.put, List.setIfInBounds_toArray, List.set_cons_zero, List.set_cons_succ]
          refine oneD (i := 4) (by rfl) (by kernel_rfl) (by rfl) ?_
          go_simp
          have hS2a : (w2.alloc (.cells #[.int .u64 y0, .int .u64 y1, .int .i64 y2, .int .u64 y3, .int .u64 y4, .int .u64 y5, .int .u64 y6, .int .i64 y7, .int .i64 y8, .string y9, .string y10] EntT)).cell? ⟨c, 9, none⟩ = some (.slice qa zs.length qc) := cell_al hS2 _
          refine ⟨hS2a, ?_⟩
          try simp only [Act.put, List.setIfInBounds_toArray, List.set_cons_zero, List.set_cons_succ]
          obtain ⟨i0, hi0, hz0, hz1, hz2⟩ := info_parts infoEnt
          refine oneD (i := 5) (by rfl) (by kernel_rfl) (by rfl) ?_
          refine wp_append_lies _ _ _ _ (by rfl) n0 EntT i0 Ent.zero.val 11 104 Tryz.underlying24 hi0 hz0 hz1 hz2 rfl (by decide) (.slice qa zs.length qc) zs.length _ (by rfl) (hrow2.alloc _)
            ⟨w2.heap.size, 0, none⟩ 1 1 (Ent.cells ⟨y0, y1, y2, y3, y4, y5, y6, y7, y8, y9, y10⟩).toList (by rfl) (by rfl) (World.news_of_block (cs := Ent.cells ⟨y0, y1, y2, y3, y4, y5, y6, y7, y8, y9, y10⟩) (t := EntT) (fr := (0, 0)) (heap_alloc_new w2 _)) (by intro u hu; simp [Ent.cells] at hu; rcases hu with rfl | rfl | rfl | rfl | rfl | rfl | rfl | rfl | rfl | rfl | rfl <;> rfl)
            (by omega) (by unfold maxLen; omega) (by omega) (by simp; omega) _ rfl ?_
          intro g cap w3 hown3 hgrow hat hlt3
          have hB23 : Below n0 w2 w3 := (((Below.refl _ _).alloc (Nat.le_refl _) _).mono hn2w).trans (grown_below hgrow (hrow2.alloc _) (by simp; omega))
          have hS3 : w3.cell? ⟨c, 9, none⟩ = some (.slice qa zs.length qc) := (World.cell?_of_block (w := w2) (hB23.block c hc4)).trans hS2
          refine ⟨fun _ => hS3, ?_⟩
          try simp only [Act.put, List.setIfInBounds_toArray, List.set_cons_zero, List.set_cons_succ]
          have hblk3 := (hB23.block c hc4).trans hblk2
          have hst3 := (HST2.out.own hzb hbN hNn hB23).set (o := 9) (v := (.slice (some ⟨g, 0, none⟩) (zs.length + 1) cap)) hzb hbN hc
          have hmi3 : MsgIn n0 c ⟨(vk : Int), (vf : Int), (vo : Int), (vt : Int), (vi : Int), (vp : Int), (vc : Int), (vm : Int), yb, ⟨#[]⟩, (zs ++ [⟨y0, y1, y2, y3, y4, y5, y6, y7, y8, y9, y10⟩])⟩ (.slice (some ⟨g, 0, none⟩) (zs.length + 1) cap) (w3.setCell ⟨c, 9, none⟩ (.slice (some ⟨g, 0, none⟩) (zs.length + 1) cap)) := by
            refine ⟨?_, ?_⟩
            · simp [World.setCell, Array.getElem?_modify, hblk3, Msg.cells]
            · have h1 := hown3.kept (set_grown (w := w3) (b := c) (o := 9) (u := (.slice (some ⟨g, 0, none⟩) (zs.length + 1) cap))) (own_not hown3 hc4)
              have e1 : (zs ++ [(⟨y0, y1, y2, y3, y4, y5, y6, y7, y8, y9, y10⟩ : Ent)]).length = zs.length + 1 := by simp
              have e2 : zs.flatMap (fun e => e.cells.toList) ++ (Ent.cells ⟨y0, y1, y2, y3, y4, y5, y6, y7, y8, y9, y10⟩).toList = (zs ++ [(⟨y0, y1, y2, y3, y4, y5, y6, y7, y8, y9, y10⟩ : Ent)]).flatMap (fun e => e.cells.toList) := by
                rw [List.flatMap_append]; simp
              rw [e2] at h1
              show World.ownsRow _ n0 EntT 11 _ (zs ++ [(⟨y0, y1, y2, y3, y4, y5, y6, y7, y8, y9, y10⟩ : Ent)]).length _
              rw [e1]
              exact h1
          have hnw3 : n0 ≤ (w3.setCell ⟨c, 9, none⟩ (.slice (some ⟨g, 0, none⟩) (zs.length + 1) cap)).heap.size := by
            have := hB23.size
            simp [World.setCell]
            omega
          have f3 := Lib.frozen_of_heap hblk3 9
          have HM3 := Lib.hid hmi3
          have HST3 := Lib.hid hst3
          clear hmi3 hst3 hblk3 hrow2 hblk2 hown3 hgrow hat h2 hb2 hb2d hS2 hS2a hB23 HST2
          refine oneD (i := 6) (by rfl) (by kernel_rfl) (by rfl) ?_
          go_simp
          try refine ⟨hS3, ?_⟩
          try simp only [Act.put, List.setIfInBounds_toArray, List.set_cons_zero, List.set_cons_succ]
          refine oneD (i := 7) (by rfl) (by kernel_rfl) (by rfl) ?_
          go_simp
          refine ⟨by kernel_rfl, NoPanic.normal ?_⟩
          try simp only [Act.put, List.setIfInBounds_toArray, List.set_cons_zero, List.set_cons_succ]
          go_wp2_with fail
          go_roundw
          case rel => exact ⟨k + 1, _, by omega, by go_num, by rw [HSN.out]; exact HM3.out, by rw [HSN.out]; exact HST3.out, hnw3⟩
          case measure => simp [intOf]; omega
      · obtain rfl : k = vn := by omega
        obtain ⟨e1, e2⟩ : es = (entsR k r10).1 ∧ r11 = (entsR k r10).2 := by
          rw [← HENT.out]
          exact ⟨rfl, rfl⟩
        have HE1 := Lib.hid e1
        have HE2 := Lib.hid e2
        have HMI := Lib.hid hmi
        have HST := Lib.hid hst
        clear e1 e2 hmi hst
        go_wp2_with fail
        go_meet
        exact ⟨v', by rw [HE1.out]; exact HMI.out, by rw [HE2.out]; exact HST.out⟩
  case rest =>
  obtain ⟨v', hmi, hst⟩ := hcut
  obtain ⟨qa, qc, hv⟩ := hmi.slice
  have hv : v' = .slice qa es.length qc := hv
  subst hv
  have HM5 := Lib.hid hmi
  have ST5 := Lib.hid hst
  have hfn5 := hst.fn
  clear hmi hst HE4 ST4 hfn4 HENT HCNT HSHR
  go_wp2_with fail
  refine (K11.out _ ST5.out.rd).mono ?_
  rintro x w5 ⟨rfl, hr, hb⟩
  have HM6 := Lib.hid (HM5.out.but hb (by omega) (by omega))
  have ST6 := Lib.hid (ST5.out.next hzb hbN hr hb)
  clear hr hb HM5 ST5 hfn5
  go_wp2_with fail
  refine (K12.out _ ST6.out.rd).mono ?_
  rintro x w6 ⟨rfl, hr, hb⟩
  have HM7 := Lib.hid (HM6.out.but hb (by omega) (by omega))
  have ST7 := Lib.hid (ST6.out.next hzb hbN hr hb)
  clear hr hb HM6 ST6
  have hblk : w6.heap[c]? = some (.cells #[.int .i64 vk, .int .i64 vf, .int .i64 vo, .int .u64 vt, .int .u64 vi, .int .u64 vp, .int .u64 vc, .int .u64 vm, .bool yb, .slice qa es.length qc, .string ⟨#[]⟩] MsgT (0, 0)) := HM7.out.block
  have HBLK := Lib.hid hblk
  clear hblk
  have c0 : w6.cell? ⟨c, 0, none⟩ = some (.int .i64 vk) := Lib.cell_of_heap HBLK.out 0
  have c1 : w6.cell? ⟨c, 1, none⟩ = some (.int .i64 vf) := Lib.cell_of_heap HBLK.out 1
  have c2 : w6.cell? ⟨c, 2, none⟩ = some (.int .i64 vo) := Lib.cell_of_heap HBLK.out 2
  have c3 : w6.cell? ⟨c, 3, none⟩ = some (.int .u64 vt) := Lib.cell_of_heap HBLK.out 3
  have c4 : w6.cell? ⟨c, 4, none⟩ = some (.int .u64 vi) := Lib.cell_of_heap HBLK.out 4
  have c5 : w6.cell? ⟨c, 5, none⟩ = some (.int .u64 vp) := Lib.cell_of_heap HBLK.out 5
  have c6 : w6.cell? ⟨c, 6, none⟩ = some (.int .u64 vc) := Lib.cell_of_heap HBLK.out 6
  have c7 : w6.cell? ⟨c, 7, none⟩ = some (.int .u64 vm) := Lib.cell_of_heap HBLK.out 7
  have c8 : w6.cell? ⟨c, 8, none⟩ = some (.bool yb) := Lib.cell_of_heap HBLK.out 8
  have c9 : w6.cell? ⟨c, 9, none⟩ = some (.slice qa es.length qc) := Lib.cell_of_heap HBLK.out 9
  have c10 : w6.cell? ⟨c, 10, none⟩ = some (.string ⟨#[]⟩) := Lib.cell_of_heap HBLK.out 10
  have hfz : ∀ o, w6.frozen? ⟨c, o, none⟩ = false := fun o => Lib.frozen_of_heap HBLK.out o
  have hmi8 : MsgIn n0 c ⟨(vk : Int), (vf : Int), (vo : Int), (vt : Int), (vi : Int), (vp : Int), (vc : Int), (vm : Int), yb, ⟨sn.toArray⟩, es⟩ (.slice qa es.length qc) (w6.setCell ⟨c, 10, none⟩ (.string ⟨sn.toArray⟩)) := by
    refine ⟨?_, ?_⟩
    · have := HBLK.out
      simp [World.setCell, Array.getElem?_modify, this, Msg.cells]
    · exact HM7.out.row.kept (set_grown (w := w6) (b := c) (o := 10) (u := .string ⟨sn.toArray⟩)) (own_not HM7.out.row hc4)
  have HM8 := Lib.hid hmi8
  have ST8 := Lib.hid (ST7.out.set (o := 10) (v := .string ⟨sn.toArray⟩) hzb hbN hc)
  clear hmi8 HM7 ST7
  go_upto_region 13 with fail
  generalize (w6.setCell ⟨c, 10, none⟩ (.string ⟨sn.toArray⟩)) = w7 at *
  clear c0 c1 c2 c3 c4 c5 c6 c7 c8 c9 c10 hfz HBLK
  obtain ⟨u, bad⟩ := r13
  simp only at HGOT0
  cases bad
  case true =>
    have HGOT := Lib.hid (HGOT0.out.trans rfl : got = false)
    clear HGOT0 HRR HLV
    go_wp2_with fail
    refine (ok_any _ (u, true) w7 ST8.out.rd).mono ?_
    rintro x w7a ⟨rfl, rfl⟩
    have z0 : w7a.cell? ⟨w.heap.size, 0, none⟩ = some (.int .i64 0) := Lib.cell_of_heap ST8.out.zero 0
    have z1 : w7a.cell? ⟨w.heap.size, 1, none⟩ = some (.int .i64 0) := Lib.cell_of_heap ST8.out.zero 1
    have z2 : w7a.cell? ⟨w.heap.size, 2, none⟩ = some (.int .i64 0) := Lib.cell_of_heap ST8.out.zero 2
    have z3 : w7a.cell? ⟨w.heap.size, 3, none⟩ = some (.int .u64 0) := Lib.cell_of_heap ST8.out.zero 3
    have z4 : w7a.cell? ⟨w.heap.size, 4, none⟩ = some (.int .u64 0) := Lib.cell_of_heap ST8.out.zero 4
    have z5 : w7a.cell? ⟨w.heap.size, 5, none⟩ = some (.int .u64 0) := Lib.cell_of_heap ST8.out.zero 5
    have z6 : w7a.cell? ⟨w.heap.size, 6, none⟩ = some (.int .u64 0) := Lib.cell_of_heap ST8.out.zero 6
    have z7 : w7a.cell? ⟨w.heap.size, 7, none⟩ = some (.int .u64 0) := Lib.cell_of_heap ST8.out.zero 7
    have z8 : w7a.cell? ⟨w.heap.size, 8, none⟩ = some (.bool false) := Lib.cell_of_heap ST8.out.zero 8
    have z9 : w7a.cell? ⟨w.heap.size, 9, none⟩ = some (.slice none 0 0) := Lib.cell_of_heap ST8.out.zero 9
    have z10 : w7a.cell? ⟨w.heap.size, 10, none⟩ = some (.string ⟨#[]⟩) := Lib.cell_of_heap ST8.out.zero 10
    have fz : ∀ o, w7a.frozen? ⟨w.heap.size, o, none⟩ = false := fun o => Lib.frozen_of_heap ST8.out.zero o
    go_wp2_with fail
    have hz := ST8.out.zero
    refine bodyPost_ret (results_cell_row_tmp rfl _ _ w.heap.size MsgT (Msg.none.cells (.slice none 0 0)) (0, 0) _ rfl ?_ Tryz.underlying26 rfl (by kernel_rfl)) rfl ?_
    · simp [World.setCell, Array.getElem?_modify, hz, Msg.cells, Msg.none]
    · refine ⟨Msg.none, .slice none 0 0, by rw [HGOT.out]; rfl, fun h => (by rw [HGOT.out] at h; cases h), fun _ => rfl, entsAt_nil _, ?_⟩
      repeat' (first | with_reducible exact ST8.out.below | with_reducible exact Nat.le_refl _ | with_reducible refine Below.setCell ?_ ?_ _)
  case false =>
    cases u with
    | cons u0 ul =>
      have HGOT := Lib.hid (HGOT0.out.trans rfl : got = false)
      have hpos : (0 : Int) < (((u0 :: ul).length : Nat) : Int) := by simp
      clear HGOT0 HRR HLV
      go_wp2_with fail
      refine (ok_any _ (u0 :: ul, false) w7 ST8.out.rd).mono ?_
      rintro x w7a ⟨rfl, rfl⟩
      go_wp2_with fail
      refine (left_any _ (u0 :: ul, false) _ ST8.out.rd).mono ?_
      rintro x w7b ⟨rfl, rfl⟩
      have z0 : w7b.cell? ⟨w.heap.size, 0, none⟩ = some (.int .i64 0) := Lib.cell_of_heap ST8.out.zero 0
      have z1 : w7b.cell? ⟨w.heap.size, 1, none⟩ = some (.int .i64 0) := Lib.cell_of_heap ST8.out.zero 1
      have z2 : w7b.cell? ⟨w.heap.size, 2, none⟩ = some (.int .i64 0) := Lib.cell_of_heap ST8.out.zero 2
      have z3 : w7b.cell? ⟨w.heap.size, 3, none⟩ = some (.int .u64 0) := Lib.cell_of_heap ST8.out.zero 3
      have z4 : w7b.cell? ⟨w.heap.size, 4, none⟩ = some (.int .u64 0) := Lib.cell_of_heap ST8.out.zero 4
      have z5 : w7b.cell? ⟨w.heap.size, 5, none⟩ = some (.int .u64 0) := Lib.cell_of_heap ST8.out.zero 5
      have z6 : w7b.cell? ⟨w.heap.size, 6, none⟩ = some (.int .u64 0) := Lib.cell_of_heap ST8.out.zero 6
      have z7 : w7b.cell? ⟨w.heap.size, 7, none⟩ = some (.int .u64 0) := Lib.cell_of_heap ST8.out.zero 7
      have z8 : w7b.cell? ⟨w.heap.size, 8, none⟩ = some (.bool false) := Lib.cell_of_heap ST8.out.zero 8
      have z9 : w7b.cell? ⟨w.heap.size, 9, none⟩ = some (.slice none 0 0) := Lib.cell_of_heap ST8.out.zero 9
      have z10 : w7b.cell? ⟨w.heap.size, 10, none⟩ = some (.string ⟨#[]⟩) := Lib.cell_of_heap ST8.out.zero 10
      have fz : ∀ o, w7b.frozen? ⟨w.heap.size, o, none⟩ = false := fun o => Lib.frozen_of_heap ST8.out.zero o
      go_wp2_with fail
      have hz := ST8.out.zero
      refine bodyPost_ret (results_cell_row_tmp rfl _ _ w.heap.size MsgT (Msg.none.cells (.slice none 0 0)) (0, 0) _ rfl ?_ Tryz.underlying26 rfl (by kernel_rfl)) rfl ?_
      · simp [World.setCell, Array.getElem?_modify, hz, Msg.cells, Msg.none]
      · refine ⟨Msg.none, .slice none 0 0, by rw [HGOT.out]; rfl, fun h => (by rw [HGOT.out] at h; cases h), fun _ => rfl, entsAt_nil _, ?_⟩
        repeat' (first | with_reducible exact ST8.out.below | with_reducible exact Nat.le_refl _ | with_reducible refine Below.setCell ?_ ?_ _)
    | nil =>
      by_cases hy : 1 < vy
      · have HGOT := Lib.hid (HGOT0.out.trans (by rw [decide_eq_true hy]; rfl) : got = false)
        have hy2 : (1 : Int) < (vy : Int) := by omega
        clear HGOT0 HRR HLV
        go_wp2_with fail
        refine (ok_any _ ([], false) w7 ST8.out.rd).mono ?_
        rintro x w7a ⟨rfl, rfl⟩
        go_wp2_with fail
        refine (left_any _ ([], false) _ ST8.out.rd).mono ?_
        rintro x w7b ⟨rfl, rfl⟩
        have z0 : w7b.cell? ⟨w.heap.size, 0, none⟩ = some (.int .i64 0) := Lib.cell_of_heap ST8.out.zero 0
        have z1 : w7b.cell? ⟨w.heap.size, 1, none⟩ = some (.int .i64 0) := Lib.cell_of_heap ST8.out.zero 1
        have z2 : w7b.cell? ⟨w.heap.size, 2, none⟩ = some (.int .i64 0) := Lib.cell_of_heap ST8.out.zero 2
        have z3 : w7b.cell? ⟨w.heap.size, 3, none⟩ = some (.int .u64 0) := Lib.cell_of_heap ST8.out.zero 3
        have z4 : w7b.cell? ⟨w.heap.size, 4, none⟩ = some (.int .u64 0) := Lib.cell_of_heap ST8.out.zero 4
        have z5 : w7b.cell? ⟨w.heap.size, 5, none⟩ = some (.int .u64 0) := Lib.cell_of_heap ST8.out.zero 5
        have z6 : w7b.cell? ⟨w.heap.size, 6, none⟩ = some (.int .u64 0) := Lib.cell_of_heap ST8.out.zero 6
        have z7 : w7b.cell? ⟨w.heap.size, 7, none⟩ = some (.int .u64 0) := Lib.cell_of_heap ST8.out.zero 7
        have z8 : w7b.cell? ⟨w.heap.size, 8, none⟩ = some (.bool false) := Lib.cell_of_heap ST8.out.zero 8
        have z9 : w7b.cell? ⟨w.heap.size, 9, none⟩ = some (.slice none 0 0) := Lib.cell_of_heap ST8.out.zero 9
        have z10 : w7b.cell? ⟨w.heap.size, 10, none⟩ = some (.string ⟨#[]⟩) := Lib.cell_of_heap ST8.out.zero 10
        have fz : ∀ o, w7b.frozen? ⟨w.heap.size, o, none⟩ = false := fun o => Lib.frozen_of_heap ST8.out.zero o
        go_wp2_with fail
        have hz := ST8.out.zero
        refine bodyPost_ret (results_cell_row_tmp rfl _ _ w.heap.size MsgT (Msg.none.cells (.slice none 0 0)) (0, 0) _ rfl ?_ Tryz.underlying26 rfl (by kernel_rfl)) rfl ?_
        · simp [World.setCell, Array.getElem?_modify, hz, Msg.cells, Msg.none]
        · refine ⟨Msg.none, .slice none 0 0, by rw [HGOT.out]; rfl, fun h => (by rw [HGOT.out] at h; cases h), fun _ => rfl, entsAt_nil _, ?_⟩
          repeat' (first | with_reducible exact ST8.out.below | with_reducible exact Nat.le_refl _ | with_reducible refine Below.setCell ?_ ?_ _)
      · have hy2 : ¬ (1 : Int) < (vy : Int) := by omega
        have HG1 := Lib.hid (HGOT0.out.trans (by rw [decide_eq_false hy]; rfl) : got = (msgRightB ⟨(vk : Int), (vf : Int), (vo : Int), (vt : Int), (vi : Int), (vp : Int), (vc : Int), (vm : Int), yb, ⟨sn.toArray⟩, es⟩ && !decide (1 < msgLevelI ⟨(vk : Int), (vf : Int), (vo : Int), (vt : Int), (vi : Int), (vp : Int), (vc : Int), (vm : Int), yb, ⟨sn.toArray⟩, es⟩)))
        have HEN8 := Lib.hid (own_entsAt HM8.out.row rfl : EntsAt w7 (.slice qa es.length qc) es)
        have HR8 := Lib.hid (HRR.out w7 _ HEN8.out)
        clear HGOT0 hy HRR
        have HBLK8 := Lib.hid (show w7.heap[c]? = some (.cells #[.int .i64 vk, .int .i64 vf, .int .i64 vo, .int .u64 vt, .int .u64 vi, .int .u64 vp, .int .u64 vc, .int .u64 vm, .bool yb, .slice qa es.length qc, .string ⟨sn.toArray⟩] MsgT (0, 0)) from HM8.out.block)
        cases hg : msgRightB ⟨(vk : Int), (vf : Int), (vo : Int), (vt : Int), (vi : Int), (vp : Int), (vc : Int), (vm : Int), yb, ⟨sn.toArray⟩, es⟩
        · have HGOT := Lib.hid (HG1.out.trans (by rw [hg]; rfl) : got = false)
          rw [hg] at HR8
          clear HG1 HLV hg
          go_wp2_with fail
          refine (ok_any _ ([], false) w7 ST8.out.rd).mono ?_
          rintro x w7a ⟨rfl, rfl⟩
          go_wp2_with fail
          refine (left_any _ ([], false) _ ST8.out.rd).mono ?_
          rintro x w7b ⟨rfl, rfl⟩
          have c0 : w7b.cell? ⟨c, 0, none⟩ = some (.int .i64 vk) := Lib.cell_of_heap HBLK8.out 0
          have c1 : w7b.cell? ⟨c, 1, none⟩ = some (.int .i64 vf) := Lib.cell_of_heap HBLK8.out 1
          have c2 : w7b.cell? ⟨c, 2, none⟩ = some (.int .i64 vo) := Lib.cell_of_heap HBLK8.out 2
          have c3 : w7b.cell? ⟨c, 3, none⟩ = some (.int .u64 vt) := Lib.cell_of_heap HBLK8.out 3
          have c4 : w7b.cell? ⟨c, 4, none⟩ = some (.int .u64 vi) := Lib.cell_of_heap HBLK8.out 4
          have c5 : w7b.cell? ⟨c, 5, none⟩ = some (.int .u64 vp) := Lib.cell_of_heap HBLK8.out 5
          have c6 : w7b.cell? ⟨c, 6, none⟩ = some (.int .u64 vc) := Lib.cell_of_heap HBLK8.out 6
          have c7 : w7b.cell? ⟨c, 7, none⟩ = some (.int .u64 vm) := Lib.cell_of_heap HBLK8.out 7
          have c8 : w7b.cell? ⟨c, 8, none⟩ = some (.bool yb) := Lib.cell_of_heap HBLK8.out 8
          have c9 : w7b.cell? ⟨c, 9, none⟩ = some (.slice qa es.length qc) := Lib.cell_of_heap HBLK8.out 9
          have c10 : w7b.cell? ⟨c, 10, none⟩ = some (.string ⟨sn.toArray⟩) := Lib.cell_of_heap HBLK8.out 10
          go_wp2_with fail
          refine HR8.out.mono ?_
          rintro x w8 ⟨rfl, hb8⟩
          have ST9 := Lib.hid (ST8.out.keep hzb hbN hb8)
          clear hb8 c0 c1 c2 c3 c4 c5 c6 c7 c8 c9 c10
          have z0 : w8.cell? ⟨w.heap.size, 0, none⟩ = some (.int .i64 0) := Lib.cell_of_heap ST9.out.zero 0
          have z1 : w8.cell? ⟨w.heap.size, 1, none⟩ = some (.int .i64 0) := Lib.cell_of_heap ST9.out.zero 1
          have z2 : w8.cell? ⟨w.heap.size, 2, none⟩ = some (.int .i64 0) := Lib.cell_of_heap ST9.out.zero 2
          have z3 : w8.cell? ⟨w.heap.size, 3, none⟩ = some (.int .u64 0) := Lib.cell_of_heap ST9.out.zero 3
          have z4 : w8.cell? ⟨w.heap.size, 4, none⟩ = some (.int .u64 0) := Lib.cell_of_heap ST9.out.zero 4
          have z5 : w8.cell? ⟨w.heap.size, 5, none⟩ = some (.int .u64 0) := Lib.cell_of_heap ST9.out.zero 5
          have z6 : w8.cell? ⟨w.heap.size, 6, none⟩ = some (.int .u64 0) := Lib.cell_of_heap ST9.out.zero 6
          have z7 : w8.cell? ⟨w.heap.size, 7, none⟩ = some (.int .u64 0) := Lib.cell_of_heap ST9.out.zero 7
          have z8 : w8.cell? ⟨w.heap.size, 8, none⟩ = some (.bool false) := Lib.cell_of_heap ST9.out.zero 8
          have z9 : w8.cell? ⟨w.heap.size, 9, none⟩ = some (.slice none 0 0) := Lib.cell_of_heap ST9.out.zero 9
          have z10 : w8.cell? ⟨w.heap.size, 10, none⟩ = some (.string ⟨#[]⟩) := Lib.cell_of_heap ST9.out.zero 10
          have fz : ∀ o, w8.frozen? ⟨w.heap.size, o, none⟩ = false := fun o => Lib.frozen_of_heap ST9.out.zero o
          go_wp2_with fail
          have hz := ST9.out.zero
          refine bodyPost_ret (results_cell_row_tmp rfl _ _ w.heap.size MsgT (Msg.none.cells (.slice none 0 0)) (0, 0) _ rfl ?_ Tryz.underlying26 rfl (by kernel_rfl)) rfl ?_
          · simp [World.setCell, Array.getElem?_modify, hz, Msg.cells, Msg.none]
          · refine ⟨Msg.none, .slice none 0 0, by rw [HGOT.out]; rfl, fun h => (by rw [HGOT.out] at h; cases h), fun _ => rfl, entsAt_nil _, ?_⟩
            repeat' (first | with_reducible exact ST9.out.below | with_reducible exact Nat.le_refl _ | with_reducible refine Below.setCell ?_ ?_ _)
        · have HG2 := Lib.hid (HG1.out.trans (by rw [hg]; rfl) : got = !decide (1 < msgLevelI ⟨(vk : Int), (vf : Int), (vo : Int), (vt : Int), (vi : Int), (vp : Int), (vc : Int), (vm : Int), yb, ⟨sn.toArray⟩, es⟩))
          rw [hg] at HR8
          clear HG1 hg
          go_wp2_with fail
          refine (ok_any _ ([], false) w7 ST8.out.rd).mono ?_
          rintro x w7a ⟨rfl, rfl⟩
          go_wp2_with fail
          refine (left_any _ ([], false) _ ST8.out.rd).mono ?_
          rintro x w7b ⟨rfl, rfl⟩
          have c0 : w7b.cell? ⟨c, 0, none⟩ = some (.int .i64 vk) := Lib.cell_of_heap HBLK8.out 0
          have c1 : w7b.cell? ⟨c, 1, none⟩ = some (.int .i64 vf) := Lib.cell_of_heap HBLK8.out 1
          have c2 : w7b.cell? ⟨c, 2, none⟩ = some (.int .i64 vo) := Lib.cell_of_heap HBLK8.out 2
          have c3 : w7b.cell? ⟨c, 3, none⟩ = some (.int .u64 vt) := Lib.cell_of_heap HBLK8.out 3
          have c4 : w7b.cell? ⟨c, 4, none⟩ = some (.int .u64 vi) := Lib.cell_of_heap HBLK8.out 4
          have c5 : w7b.cell? ⟨c, 5, none⟩ = some (.int .u64 vp) := Lib.cell_of_heap HBLK8.out 5
          have c6 : w7b.cell? ⟨c, 6, none⟩ = some (.int .u64 vc) := Lib.cell_of_heap HBLK8.out 6
          have c7 : w7b.cell? ⟨c, 7, none⟩ = some (.int .u64 vm) := Lib.cell_of_heap HBLK8.out 7
          have c8 : w7b.cell? ⟨c, 8, none⟩ = some (.bool yb) := Lib.cell_of_heap HBLK8.out 8
          have c9 : w7b.cell? ⟨c, 9, none⟩ = some (.slice qa es.length qc) := Lib.cell_of_heap HBLK8.out 9
          have c10 : w7b.cell? ⟨c, 10, none⟩ = some (.string ⟨sn.toArray⟩) := Lib.cell_of_heap HBLK8.out 10
          go_wp2_with fail
          refine HR8.out.mono ?_
          rintro x w8 ⟨rfl, hb8⟩
          have ST9 := Lib.hid (ST8.out.keep hzb hbN hb8)
          have HBLK9 := Lib.hid ((hb8.block c (heap_lt HBLK8.out)).trans HBLK8.out)
          have HROW9 := Lib.hid (ownsRow_below HM8.out.row hb8)
          have HL9 := Lib.hid (HLV.out w8 _ (HEN8.out.below hb8))
          clear hb8 HLV c0 c1 c2 c3 c4 c5 c6 c7 c8 c9 c10
          have c0 : w8.cell? ⟨c, 0, none⟩ = some (.int .i64 vk) := Lib.cell_of_heap HBLK9.out 0
          have c1 : w8.cell? ⟨c, 1, none⟩ = some (.int .i64 vf) := Lib.cell_of_heap HBLK9.out 1
          have c2 : w8.cell? ⟨c, 2, none⟩ = some (.int .i64 vo) := Lib.cell_of_heap HBLK9.out 2
          have c3 : w8.cell? ⟨c, 3, none⟩ = some (.int .u64 vt) := Lib.cell_of_heap HBLK9.out 3
          have c4 : w8.cell? ⟨c, 4, none⟩ = some (.int .u64 vi) := Lib.cell_of_heap HBLK9.out 4
          have c5 : w8.cell? ⟨c, 5, none⟩ = some (.int .u64 vp) := Lib.cell_of_heap HBLK9.out 5
          have c6 : w8.cell? ⟨c, 6, none⟩ = some (.int .u64 vc) := Lib.cell_of_heap HBLK9.out 6
          have c7 : w8.cell? ⟨c, 7, none⟩ = some (.int .u64 vm) := Lib.cell_of_heap HBLK9.out 7
          have c8 : w8.cell? ⟨c, 8, none⟩ = some (.bool yb) := Lib.cell_of_heap HBLK9.out 8
          have c9 : w8.cell? ⟨c, 9, none⟩ = some (.slice qa es.length qc) := Lib.cell_of_heap HBLK9.out 9
          have c10 : w8.cell? ⟨c, 10, none⟩ = some (.string ⟨sn.toArray⟩) := Lib.cell_of_heap HBLK9.out 10
          rcases level_two ⟨(vk : Int), (vf : Int), (vo : Int), (vt : Int), (vi : Int), (vp : Int), (vc : Int), (vm : Int), yb, ⟨sn.toArray⟩, es⟩ with hlv | hlv
          rotate_left
          · have HGOT := Lib.hid (HG2.out.trans (by rw [hlv]; rfl) : got = false)
            rw [hlv] at HL9
            clear HG2 hlv
            go_wp2_with fail
            refine HL9.out.mono ?_
            rintro x w9 ⟨rfl, hb9⟩
            have ST10 := Lib.hid (ST9.out.keep hzb hbN hb9)
            clear hb9 c0 c1 c2 c3 c4 c5 c6 c7 c8 c9 c10
            have z0 : w9.cell? ⟨w.heap.size, 0, none⟩ = some (.int .i64 0) := Lib.cell_of_heap ST10.out.zero 0
            have z1 : w9.cell? ⟨w.heap.size, 1, none⟩ = some (.int .i64 0) := Lib.cell_of_heap ST10.out.zero 1
            have z2 : w9.cell? ⟨w.heap.size, 2, none⟩ = some (.int .i64 0) := Lib.cell_of_heap ST10.out.zero 2
            have z3 : w9.cell? ⟨w.heap.size, 3, none⟩ = some (.int .u64 0) := Lib.cell_of_heap ST10.out.zero 3
            have z4 : w9.cell? ⟨w.heap.size, 4, none⟩ = some (.int .u64 0) := Lib.cell_of_heap ST10.out.zero 4
            have z5 : w9.cell? ⟨w.heap.size, 5, none⟩ = some (.int .u64 0) := Lib.cell_of_heap ST10.out.zero 5
            have z6 : w9.cell? ⟨w.heap.size, 6, none⟩ = some (.int .u64 0) := Lib.cell_of_heap ST10.out.zero 6
            have z7 : w9.cell? ⟨w.heap.size, 7, none⟩ = some (.int .u64 0) := Lib.cell_of_heap ST10.out.zero 7
            have z8 : w9.cell? ⟨w.heap.size, 8, none⟩ = some (.bool false) := Lib.cell_of_heap ST10.out.zero 8
            have z9 : w9.cell? ⟨w.heap.size, 9, none⟩ = some (.slice none 0 0) := Lib.cell_of_heap ST10.out.zero 9
            have z10 : w9.cell? ⟨w.heap.size, 10, none⟩ = some (.string ⟨#[]⟩) := Lib.cell_of_heap ST10.out.zero 10
            have fz : ∀ o, w9.frozen? ⟨w.heap.size, o, none⟩ = false := fun o => Lib.frozen_of_heap ST10.out.zero o
            go_wp2_with fail
            have hz := ST10.out.zero
            refine bodyPost_ret (results_cell_row_tmp rfl _ _ w.heap.size MsgT (Msg.none.cells (.slice none 0 0)) (0, 0) _ rfl ?_ Tryz.underlying26 rfl (by kernel_rfl)) rfl ?_
            · simp [World.setCell, Array.getElem?_modify, hz, Msg.cells, Msg.none]
            · refine ⟨Msg.none, .slice none 0 0, by rw [HGOT.out]; rfl, fun h => (by rw [HGOT.out] at h; cases h), fun _ => rfl, entsAt_nil _, ?_⟩
              repeat' (first | with_reducible exact ST10.out.below | with_reducible exact Nat.le_refl _ | with_reducible refine Below.setCell ?_ ?_ _)
          have HGOT := Lib.hid (HG2.out.trans (by rw [hlv]; rfl) : got = true)
          rw [hlv] at HL9
          clear HG2 hlv
          go_wp2_with fail
          refine HL9.out.mono ?_
          rintro x w9 ⟨rfl, hb9⟩
          have ST10 := Lib.hid (ST9.out.keep hzb hbN hb9)
          have HBLK10 := Lib.hid ((hb9.block c (heap_lt HBLK9.out)).trans HBLK9.out)
          have HROW10 := Lib.hid (ownsRow_below HROW9.out hb9)
          have hzn0 : w.heap.size < n0 := by omega
          clear hb9 c0 c1 c2 c3 c4 c5 c6 c7 c8 c9 c10
          have c0 : w9.cell? ⟨c, 0, none⟩ = some (.int .i64 vk) := Lib.cell_of_heap HBLK10.out 0
          have c1 : w9.cell? ⟨c, 1, none⟩ = some (.int .i64 vf) := Lib.cell_of_heap HBLK10.out 1
          have c2 : w9.cell? ⟨c, 2, none⟩ = some (.int .i64 vo) := Lib.cell_of_heap HBLK10.out 2
          have c3 : w9.cell? ⟨c, 3, none⟩ = some (.int .u64 vt) := Lib.cell_of_heap HBLK10.out 3
          have c4 : w9.cell? ⟨c, 4, none⟩ = some (.int .u64 vi) := Lib.cell_of_heap HBLK10.out 4
          have c5 : w9.cell? ⟨c, 5, none⟩ = some (.int .u64 vp) := Lib.cell_of_heap HBLK10.out 5
          have c6 : w9.cell? ⟨c, 6, none⟩ = some (.int .u64 vc) := Lib.cell_of_heap HBLK10.out 6
          have c7 : w9.cell? ⟨c, 7, none⟩ = some (.int .u64 vm) := Lib.cell_of_heap HBLK10.out 7
          have c8 : w9.cell? ⟨c, 8, none⟩ = some (.bool yb) := Lib.cell_of_heap HBLK10.out 8
          have c9 : w9.cell? ⟨c, 9, none⟩ = some (.slice qa es.length qc) := Lib.cell_of_heap HBLK10.out 9
          have c10 : w9.cell? ⟨c, 10, none⟩ = some (.string ⟨sn.toArray⟩) := Lib.cell_of_heap HBLK10.out 10
          have z0 : w9.cell? ⟨w.heap.size, 0, none⟩ = some (.int .i64 0) := Lib.cell_of_heap ST10.out.zero 0
          have z1 : w9.cell? ⟨w.heap.size, 1, none⟩ = some (.int .i64 0) := Lib.cell_of_heap ST10.out.zero 1
          have z2 : w9.cell? ⟨w.heap.size, 2, none⟩ = some (.int .i64 0) := Lib.cell_of_heap ST10.out.zero 2
          have z3 : w9.cell? ⟨w.heap.size, 3, none⟩ = some (.int .u64 0) := Lib.cell_of_heap ST10.out.zero 3
          have z4 : w9.cell? ⟨w.heap.size, 4, none⟩ = some (.int .u64 0) := Lib.cell_of_heap ST10.out.zero 4
          have z5 : w9.cell? ⟨w.heap.size, 5, none⟩ = some (.int .u64 0) := Lib.cell_of_heap ST10.out.zero 5
          have z6 : w9.cell? ⟨w.heap.size, 6, none⟩ = some (.int .u64 0) := Lib.cell_of_heap ST10.out.zero 6
          have z7 : w9.cell? ⟨w.heap.size, 7, none⟩ = some (.int .u64 0) := Lib.cell_of_heap ST10.out.zero 7
          have z8 : w9.cell? ⟨w.heap.size, 8, none⟩ = some (.bool false) := Lib.cell_of_heap ST10.out.zero 8
          have z9 : w9.cell? ⟨w.heap.size, 9, none⟩ = some (.slice none 0 0) := Lib.cell_of_heap ST10.out.zero 9
          have z10 : w9.cell? ⟨w.heap.size, 10, none⟩ = some (.string ⟨#[]⟩) := Lib.cell_of_heap ST10.out.zero 10
          have fz : ∀ o, w9.frozen? ⟨w.heap.size, o, none⟩ = false := fun o => Lib.frozen_of_heap ST10.out.zero o
          go_wp2_with fail
          have hz := ST10.out.zero
          refine bodyPost_ret (results_cell_row_tmp rfl _ _ w.heap.size MsgT (Msg.cells ⟨(vk : Int), (vf : Int), (vo : Int), (vt : Int), (vi : Int), (vp : Int), (vc : Int), (vm : Int), yb, ⟨sn.toArray⟩, es⟩ (.slice qa es.length qc)) (0, 0) _ rfl ?_ Tryz.underlying26 rfl (by kernel_rfl)) rfl ?_
          · simp [World.setCell, Array.getElem?_modify, hz, Msg.cells]
          · refine ⟨⟨(vk : Int), (vf : Int), (vo : Int), (vt : Int), (vi : Int), (vp : Int), (vc : Int), (vm : Int), yb, ⟨sn.toArray⟩, es⟩, .slice qa es.length qc, by rw [HGOT.out]; rfl, fun _ => (by rw [HYV.out]), fun h => (by rw [HGOT.out] at h; cases h), ?_, ?_⟩
            · refine own_entsAt (base := n0) (n := es.length) ?_ rfl
              repeat' (first | with_reducible exact HROW10.out | with_reducible exact hzn0 | with_reducible refine own_set ?_ ?_)
            · repeat' (first | with_reducible exact ST10.out.below | with_reducible exact Nat.le_refl _ | with_reducible refine Below.setCell ?_ ?_ _)

end Go.Proofs.YtbjbgdnjcppjhaaGreatDoor
