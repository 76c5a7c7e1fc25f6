/-
  crc over this translation: a sum is told by the sum so far and the text. Conditions: as each theorem says. By an AI agent.
-/
import Derived.Test.YtbjbgdnjcppjhaaGreatDoorHeld
import Derived.Test.YtbjbgdnjcppjhaaGreatDoorVar
import Derived.Laws.BitsAllLaws
import Derived.Laws.IdiomStrings
import Derived.Test.YtbjbgdnjcppjhaaGreatDoorJFirA
import Derived.Test.YtbjbgdnjcppjhaaGreatDoorVarPut
import Derived.Test.YtbjbgdnjcppjhaaGreatDoorJFirB
import Derived.Test.YtbjbgdnjcppjhaaGreatDoorSecQ
import Derived.Laws.EntriesVeiled
import Derived.Test.YtbjbgdnjcppjhaaGreatDoorNoteP
import Derived.Test.YtbjbgdnjcppjhaaGreatDoorMsgIn
import Derived.Test.YtbjbgdnjcppjhaaGreatDoorMsgRight
import Derived.Test.YtbjbgdnjcppjhaaGreatDoorMsgLevel
namespace Go.Proofs.YtbjbgdnjcppjhaaGreatDoor
open Go.RowKit
set_option linter.unusedVariables false
set_option linter.unusedSimpArgs false

abbrev CrcT : TypeId := 180
/-- a bit is taken in -/
def crcS (r : Nat) : Nat := (r / 2) ^^^ ((2197175160 * (r % 2)) % 4294967296)
theorem crcS_lt (r : Nat) (h : r < 4294967296) : crcS r < 4294967296 := by
  unfold crcS
  exact Nat.xor_lt_two_pow (n := 32) (by omega) (Nat.mod_lt _ (by decide))

set_option maxRecDepth 100000 in
set_option maxHeartbeats 2000000 in
theorem step_any (b : Nat) (r : Nat) (hr : r < 4294967296) (w : World) (h : w.heap[b]? = some (.cells #[.int .u32 r] CrcT (0, 0))) :
    Calls Tryz.prog 143 #[.pointer (some ⟨b, 0, none⟩)] w fun x w' => x = .returned (.tuple #[]) ∧ w'.heap[b]? = some (.cells #[.int .u32 (crcS r : Nat)] CrcT (0, 0)) ∧ But b w w' := by
  have hc : w.cell? ⟨b, 0, none⟩ = some (.int .u32 r) := Lib.cell_of_heap h 0
  have hf : ∀ o, w.frozen? ⟨b, o, none⟩ = false := fun o => Lib.frozen_of_heap h o
  have H := Lib.hid h
  clear h
  have hS0 : w.drew.cell? ⟨b, 0, none⟩ = some (.int .u32 r) := hc
  have h1 : Go.bits .and .u32 (r : Int) 1 = ((r % 2 : Nat) : Int) := by
    rw [← Nat.and_one_is_mod]
    exact Go.u32_and_nat r 1 hr (by decide)
  have h2 : Go.bits .xor .u32 ((r : Int) / 2) (2197175160 * ((r : Int) % 2) % 4294967296) = ((crcS r : Nat) : Int) := by
    have := Go.u32_xor_nat (r / 2) (2197175160 * (r % 2) % 4294967296) (by omega) (Nat.mod_lt _ (by decide))
    simpa [crcS] using this
  go_enter Tryz.func143, Tryz.ntmps143
  go_wp2_with fail
  refine region_D (fun u => u.cell? ⟨b, 0, none⟩ = some (.int .u32 r)) [12] 13 (by kernel_rfl) (by rfl) ?_
  refine takeD (i := 0) (v := .pointer (some ⟨b, 0, none⟩)) (by rfl) (by kernel_rfl) (fun _ _ _ h => h) (by rfl) (fun u hu => by go_simp) hS0 ?_
  simp only [Act.put, List.setIfInBounds_toArray, List.set_cons_zero, List.set_cons_succ]
  refine takeD (i := 1) (v := .pointer (some ⟨b, 0, none⟩)) (by rfl) (by kernel_rfl) (fun _ _ _ h => h) (by rfl) (fun u hu => by go_simp) hS0 ?_
  simp only [Act.put, List.setIfInBounds_toArray, List.set_cons_zero, List.set_cons_succ]
  refine takeD (i := 5) (v := .pointer (some ⟨b, 0, none⟩)) (by rfl) (by kernel_rfl) (fun _ _ _ h => h) (by rfl) (fun u hu => by go_simp) hS0 ?_
  simp only [Act.put, List.setIfInBounds_toArray, List.set_cons_zero, List.set_cons_succ]
  refine takeD (i := 2) (v := .pointer (some ⟨b, 0, none⟩)) (by rfl) (by kernel_rfl) (fun _ _ _ h => h) (by rfl) (fun u hu => by go_simp) hS0 ?_
  simp only [Act.put, List.setIfInBounds_toArray, List.set_cons_zero, List.set_cons_succ]
  refine takeD (i := 6) (v := .pointer (some ⟨b, 0, none⟩)) (by rfl) (by kernel_rfl) (fun _ _ _ h => h) (by rfl) (fun u hu => by go_simp) hS0 ?_
  simp only [Act.put, List.setIfInBounds_toArray, List.set_cons_zero, List.set_cons_succ]
  refine takeD (i := 3) (v := .int .u32 r) (by rfl) (by kernel_rfl) (fun _ _ _ h => h) (by rfl) (fun u hu => by go_simp) hS0 ?_
  simp only [Act.put, List.setIfInBounds_toArray, List.set_cons_zero, List.set_cons_succ]
  refine takeD (i := 7) (v := .int .u32 r) (by rfl) (by kernel_rfl) (fun _ _ _ h => h) (by rfl) (fun u hu => by go_simp) hS0 ?_
  simp only [Act.put, List.setIfInBounds_toArray, List.set_cons_zero, List.set_cons_succ]
  refine takeD (i := 4) (v := .int .u32 (r / 2 : Nat)) (by rfl) (by kernel_rfl) (fun _ _ _ h => h) (by rfl) (fun u hu => by go_simp) hS0 ?_
  simp only [Act.put, List.setIfInBounds_toArray, List.set_cons_zero, List.set_cons_succ]
  refine takeD (i := 8) (v := .int .u32 (r % 2 : Nat)) (by rfl) (by kernel_rfl) (fun _ _ _ h => h) (by rfl) (fun u hu => by go_simp) hS0 ?_
  simp only [Act.put, List.setIfInBounds_toArray, List.set_cons_zero, List.set_cons_succ]
  refine takeD (i := 9) (v := .int .u32 ((2197175160 * (r % 2)) % 4294967296 : Nat)) (by rfl) (by kernel_rfl) (fun _ _ _ h => h) (by rfl) (fun u hu => by go_simp; exact IntKind.wrap_u32' _) hS0 ?_
  simp only [Act.put, List.setIfInBounds_toArray, List.set_cons_zero, List.set_cons_succ]
  refine takeD (i := 10) (v := .int .u32 (crcS r : Nat)) (by rfl) (by kernel_rfl) (fun _ _ _ h => h) (by rfl) (fun u hu => by go_simp) hS0 ?_
  simp only [Act.put, List.setIfInBounds_toArray, List.set_cons_zero, List.set_cons_succ]
  refine oneD (i := 11) (by rfl) (by kernel_rfl) (by rfl) ?_
  go_simp
  first | refine ⟨hS0, ?_⟩ | skip
  try simp only [Act.put, List.setIfInBounds_toArray, List.set_cons_zero, List.set_cons_succ]
  refine oneD (i := 12) (by rfl) (by kernel_rfl) (by rfl) ?_
  have hc2 : w.drew.cell? ⟨b, 0, none⟩ = some (.int .u32 r) := hc
  have hf2 : ∀ o, w.drew.frozen? ⟨b, o, none⟩ = false := hf
  go_simp
  refine ⟨by kernel_rfl, NoPanic.normal ?_⟩
  try simp only [Act.put, List.setIfInBounds_toArray, List.set_cons_zero, List.set_cons_succ]
  have hend : (w.drew.setCell ⟨b, 0, none⟩ (.int .u32 (crcS r : Nat))).heap[b]? = some (.cells #[.int .u32 (crcS r : Nat)] CrcT (0, 0)) := by
    have h0 : w.drew.heap[b]? = some (.cells #[.int .u32 r] CrcT (0, 0)) := H.out
    simp [World.setCell, Array.getElem?_modify, h0]
  have hbut : But b w (w.drew.setCell ⟨b, 0, none⟩ (.int .u32 (crcS r : Nat))) := by
    refine ⟨rfl, rfl, rfl, by simp [World.setCell], fun k hk hne => ?_⟩
    have hkb : b ≠ k := fun h => hne (congrArg some h.symm)
    simp [World.setCell, Array.getElem?_modify, hkb]
    rfl
  have HE := Lib.hid hend
  have HB := Lib.hid hbut
  clear hend hbut
  go_wp2_with fail
  exact ⟨rfl, .tuple #[], results_none rfl _ _ _, rfl, HE.out, HB.out⟩

/-- k bits are taken in -/
def crcK : Nat → Nat → Nat
  | 0, r => r
  | k + 1, r => crcS (crcK k r)
theorem crcK_lt : ∀ (k r : Nat), r < 4294967296 → crcK k r < 4294967296
  | 0, _, h => h
  | k + 1, r, h => crcS_lt _ (crcK_lt k r h)
theorem xor_lt32 (a b : Nat) (ha : a < 4294967296) (hb : b < 4294967296) : a ^^^ b < 4294967296 := Nat.xor_lt_two_pow (n := 32) ha hb

set_option maxRecDepth 100000 in
set_option maxHeartbeats 2000000 in
theorem take_any (b : Nat) (r x : Nat) (hr : r < 4294967296) (hx : x < 256) (w : World) (h : w.heap[b]? = some (.cells #[.int .u32 r] CrcT (0, 0))) :
    Calls Tryz.prog 134 #[.pointer (some ⟨b, 0, none⟩), .int .u8 x] w fun e w' => e = .returned (.tuple #[]) ∧ w'.heap[b]? = some (.cells #[.int .u32 (crcK 8 (r ^^^ x) : Nat)] CrcT (0, 0)) ∧ But b w w' := by
  have hc : w.cell? ⟨b, 0, none⟩ = some (.int .u32 r) := Lib.cell_of_heap h 0
  have hf : ∀ o, w.frozen? ⟨b, o, none⟩ = false := fun o => Lib.frozen_of_heap h o
  have H := Lib.hid h
  clear h
  have hy := xor_lt32 r x hr (by omega)
  have h2 : Go.bits .xor .u32 (r : Int) (x : Int) = ((r ^^^ x : Nat) : Int) := Go.u32_xor_nat r x hr (by omega)
  have hw : IntKind.u32.wrap (x : Int) = (x : Int) := by rw [IntKind.wrap_u32']; omega
  generalize r ^^^ x = y at *
  go_enter Tryz.func134, Tryz.ntmps134
  go_wp2_with fail
  have h3 : (w.setCell ⟨b, 0, none⟩ (.int .u32 y)).heap[b]? = some (.cells #[.int .u32 y] CrcT (0, 0)) := by
    have h0 := H.out
    simp [World.setCell, Array.getElem?_modify, h0]
  have h4 : But b w (w.setCell ⟨b, 0, none⟩ (.int .u32 y)) := by
    refine ⟨rfl, rfl, rfl, by simp [World.setCell], fun k hk hne => ?_⟩
    have hkb : b ≠ k := fun h => hne (congrArg some h.symm)
    simp [World.setCell, Array.getElem?_modify, hkb]
  have H3 := Lib.hid h3
  have H4 := Lib.hid h4
  clear h3 h4 hc hf H
  go_loopw [14] (fun i wr => ∃ (k : Nat), k ≤ 8 ∧ i = .int .i64 k ∧ wr.heap[b]? = some (.cells #[.int .u32 (crcK k y : Nat)] CrcT (0, 0)) ∧ But b w wr) (fun i _ => 8 - (intOf i).toNat)
  case atStart => exact ⟨0, by decide, rfl, H3.out, H4.out⟩
  case round =>
    obtain ⟨k, hk, rfl, hcell, hbut⟩ := hrel
    clear H3 H4
    by_cases hlt : k < 8
    · have HST := Lib.hid (step_any b (crcK k y) (crcK_lt k y hy) wr hcell)
      have HB := Lib.hid hbut
      clear hcell hbut
      go_wp2_with fail
      refine HST.out.mono ?_
      rintro x w2 ⟨rfl, hc2, hb2⟩
      have HC2 := Lib.hid hc2
      have HB2 := Lib.hid (HB.out.trans hb2)
      clear hc2 hb2
      go_wp2_with fail
      go_roundw
      case rel => exact ⟨k + 1, by omega, by go_num, HC2.out, HB2.out⟩
      case measure => simp [intOf]; omega
    · obtain rfl : k = 8 := by omega
      have HC := Lib.hid hcell
      have HB := Lib.hid hbut
      clear hcell hbut
      go_wp2_with fail
      exact ⟨rfl, .tuple #[], results_none rfl _ _ _, rfl, HC.out, HB.out⟩

/-- a byte is taken in -/
def crcB (r : Nat) (x : UInt8) : Nat := crcK 8 (r ^^^ x.toNat)
theorem crcB_lt (r : Nat) (x : UInt8) (h : r < 4294967296) : crcB r x < 4294967296 :=
  crcK_lt 8 _ (xor_lt32 _ _ h (by have := UInt8.toNat_lt x; omega))
theorem crcF_lt : ∀ (l : List UInt8) (r : Nat), r < 4294967296 → l.foldl crcB r < 4294967296
  | [], _, h => h
  | x :: l, r, h => crcF_lt l _ (crcB_lt r x h)
/-- crc.More -/
def crcM (n : Nat) (l : List UInt8) : Nat := 4294967295 ^^^ l.foldl crcB (4294967295 ^^^ n)
theorem crcM_lt (n : Nat) (l : List UInt8) (h : n < 4294967296) : crcM n l < 4294967296 :=
  xor_lt32 _ _ (by decide) (crcF_lt l _ (xor_lt32 _ _ (by decide) h))

set_option maxRecDepth 100000 in
set_option maxHeartbeats 2000000 in
theorem more_any (n : Nat) (l : List UInt8) (hn : n < 4294967296) (hl : l.length ≤ 1099511627776) (w : World) :
    Calls Tryz.prog 96 #[.int .u32 n, .string ⟨l.toArray⟩] w fun e w' => e = .returned (.int .u32 (crcM n l : Nat)) ∧ Below w.heap.size w w' := by
  have hy := xor_lt32 4294967295 n (by decide) hn
  have h1 : Go.bits .xor .u32 IntKind.u32.max (n : Int) = ((4294967295 ^^^ n : Nat) : Int) := Go.u32_xor_nat 4294967295 n (by decide) hn
  have h9 : Go.bits .xor .u32 IntKind.u32.max ((l.foldl crcB (4294967295 ^^^ n) : Nat) : Int) = ((4294967295 ^^^ l.foldl crcB (4294967295 ^^^ n) : Nat) : Int) := Go.u32_xor_nat 4294967295 _ (by decide) (crcF_lt l _ hy)
  rw [← show crcM n l = 4294967295 ^^^ l.foldl crcB (4294967295 ^^^ n) from rfl] at h9
  have hM : crcM n l = 4294967295 ^^^ l.foldl crcB (4294967295 ^^^ n) := rfl
  generalize crcM n l = res at *
  generalize 4294967295 ^^^ n = y at *
  have hbs : ∀ W : World, (convert 9 88 (.string ⟨l.toArray⟩)).run Tryz.prog W = _ := fun W => run_bytes_of_string W 9 88 5 ⟨l.toArray⟩ Tryz.underlying9 Tryz.underlying88 Tryz.underlying5
  go_enter Tryz.func96, Tryz.ntmps96
  have H9 := Lib.hid h9
  clear h9 hM
  go_wp2_with fail
  generalize hcap : grownCap (w.alloc (.cells #[.int .u32 y] CrcT)) l.length 0 5 = cap
  have hA := (Below.refl w.heap.size w).alloc (Nat.le_refl _) (.cells #[.int .u32 y] CrcT)
  have h5 := heap_alloc_new w (.cells #[.int .u32 y] CrcT)
  have hsz : (w.alloc (.cells #[.int .u32 y] CrcT)).heap.size = w.heap.size + 1 := World.size_alloc _ _
  generalize (w.alloc (.cells #[.int .u32 y] CrcT)) = W0 at *
  have hrow : ∀ fr, (W0.alloc (.cells (bytesRow ⟨l.toArray⟩ cap) 5 fr)).drew.heap[w.heap.size + 1]? = some (.cells (bytesRow ⟨l.toArray⟩ cap) 5 fr) := fun fr => by
    have := heap_alloc_new W0 (.cells (bytesRow ⟨l.toArray⟩ cap) 5 fr)
    rwa [hsz] at this
  have hel : ∀ k (h : k < l.length), (bytesRow ⟨l.toArray⟩ cap)[k]? = some (.int .u8 ((l[k]).toNat : Nat)) := fun k h => by
    simp [bytesRow, Array.getElem?_append, h]
  have hbl : ∀ fr, Below w.heap.size w (W0.alloc (.cells (bytesRow ⟨l.toArray⟩ cap) 5 fr)).drew := fun fr => by
    have q := hA.trans (((Below.refl W0.heap.size W0).alloc (Nat.le_refl _) (.cells (bytesRow ⟨l.toArray⟩ cap) 5 fr)).mono hA.size)
    exact ⟨q.os, q.tape, q.output, q.size, q.block⟩
  have hreg : ∀ fr, (W0.alloc (.cells (bytesRow ⟨l.toArray⟩ cap) 5 fr)).drew.heap[w.heap.size]? = some (.cells #[.int .u32 y] CrcT (0, 0)) := fun fr => by
    exact (Below.heap_alloc _ _ _ (by omega)).trans h5
  have hfr : ∃ fr, fr = ((bytesRow ⟨l.toArray⟩ cap).size, (bytesRow ⟨l.toArray⟩ cap).size + 1) := ⟨_, rfl⟩
  obtain ⟨fr, hfr⟩ := hfr
  rw [← hfr]
  have HROW := Lib.hid (hrow fr)
  have HBL := Lib.hid (hbl fr)
  have HREG := Lib.hid (hreg fr)
  have HEL := Lib.hid hel
  clear hrow hbl hreg hel hfr hcap h5 hA hsz hbs
  generalize (W0.alloc (.cells (bytesRow ⟨l.toArray⟩ cap) 5 fr)).drew = W1 at *
  generalize bytesRow ⟨l.toArray⟩ cap = row at *
  go_loopw [7, 13] (fun x7 i wr => ∃ (k : Nat), k ≤ l.length ∧ i = .int .i64 k ∧ wr.heap[w.heap.size]? = some (.cells #[.int .u32 ((l.take k).foldl crcB y : Nat)] CrcT (0, 0)) ∧ wr.heap[w.heap.size + 1]? = some (.cells row 5 fr) ∧ Below w.heap.size w wr) (fun x7 i _ => l.length - (intOf i).toNat)
  case atStart => exact ⟨0, Nat.zero_le _, rfl, HREG.out, HROW.out, HBL.out⟩
  case round =>
    obtain ⟨k, hk, rfl, hreg, hrow, hbr⟩ := hrel
    clear HREG HROW HBL
    by_cases hlt : k < l.length
    · have hcell : wr.cell? ⟨w.heap.size + 1, k, none⟩ = some (.int .u8 ((l[k]).toNat : Nat)) := (Lib.cell_of_heap hrow k).trans (HEL.out k hlt)
      have hsn : (l.take (k + 1)).foldl crcB y = crcB ((l.take k).foldl crcB y) l[k] := by
        rw [List.take_succ_eq_append_getElem hlt, List.foldl_append]; rfl
      have hx := UInt8.toNat_lt l[k]
      have HT := Lib.hid (take_any w.heap.size ((l.take k).foldl crcB y) (l[k]).toNat (crcF_lt _ y hy) (by omega) wr hreg)
      rw [← show crcB ((l.take k).foldl crcB y) l[k] = crcK 8 (((l.take k).foldl crcB y) ^^^ (l[k]).toNat) from rfl, ← hsn] at HT
      have HROW := Lib.hid hrow
      have HBR := Lib.hid hbr
      clear hsn hrow hbr hreg
      generalize (l[k]).toNat = x at *
      go_wp2_with fail
      refine HT.out.mono ?_
      rintro _ w2 ⟨rfl, hc2, hb2⟩
      have HC2 := Lib.hid hc2
      have HROW2 := Lib.hid ((hb2.block (w.heap.size + 1) (heap_lt HROW.out) (fun h => by have := Option.some.inj h; omega)).trans HROW.out)
      have HB2 := Lib.hid (HBR.out.trans (⟨hb2.os, hb2.tape, hb2.output, hb2.size, fun j hj => hb2.block j (Nat.lt_of_lt_of_le hj HBR.out.size) (fun h => by have := Option.some.inj h; omega)⟩ : Below w.heap.size wr w2))
      clear hc2 hb2 hcell
      go_wp2_with fail
      go_roundw
      case rel => exact ⟨k + 1, by omega, by go_num, HC2.out, HROW2.out, HB2.out⟩
      case measure => simp [intOf]; omega
    · obtain rfl : k = l.length := by omega
      rw [List.take_length] at hreg
      have hc : wr.cell? ⟨w.heap.size, 0, none⟩ = some (.int .u32 (l.foldl crcB y : Nat)) := Lib.cell_of_heap hreg 0
      have h9 := H9.out
      have HBR := Lib.hid hbr
      clear hreg hrow hbr
      generalize l.foldl crcB y = q at *
      go_wp2_with fail
      go_ret
      exact ⟨rfl, HBR.out⟩

theorem sum_any (l : List UInt8) (hl : l.length ≤ 1099511627776) (w : World) :
    Calls Tryz.prog 97 #[.string ⟨l.toArray⟩] w fun e w' => e = .returned (.int .u32 (crcM 0 l : Nat)) ∧ Below w.heap.size w w' := by
  have hm := fun W => more_any 0 l (by decide) hl W
  go_enter Tryz.func97, Tryz.ntmps97
  go_wp2_with fail
  refine (hm _).mono ?_
  rintro x w1 ⟨rfl, hb1⟩
  go_wp2_with fail
  go_ret
  exact ⟨rfl, hb1⟩

end Go.Proofs.YtbjbgdnjcppjhaaGreatDoor

/-
  frame.length, frame.Pack over this translation. Conditions: version 1 or 2, a body of at most 2^20 bytes. By an AI agent.
-/
namespace Go.Proofs.YtbjbgdnjcppjhaaGreatDoor
open Go.RowKit
set_option linter.unusedVariables false
set_option linter.unusedSimpArgs false

/-- how long a body is, as bytes of a version -/
def lenL (v n : Nat) : List UInt8 := if v = 1 then fixL 4 n else varL n
def headL (v n : Nat) : List UInt8 := fixL 1 (160 + v) ++ lenL v n
def sumL (v : Nat) (body : List UInt8) : Nat := crcM (crcM 0 (headL v body.length)) body
/-- a body in a frame -/
def packL (v : Nat) (body : List UInt8) : List UInt8 := headL v body.length ++ fixL 4 (sumL v body) ++ body
theorem sumL_lt (v : Nat) (body : List UInt8) : sumL v body < 4294967296 := crcM_lt _ _ (crcM_lt _ _ (by decide))
/-- how long it is, as a version reads it -/
def rdLen (v : Nat) : Rd → Nat × Rd := if v = 1 then rdFix 4 else rdVar
theorem lenL_len (v n : Nat) (hn : n ≤ 1048576) : (lenL v n).length ≤ 10 := by
  unfold lenL
  split
  · rw [fixL_length]; decide
  · exact varL_len 10 n (Nat.lt_of_le_of_lt hn (by decide)) (by decide)
theorem rdLen_back (v n : Nat) (hn : n ≤ 1048576) (t : List UInt8) : rdLen v (lenL v n ++ t, false) = (n, (t, false)) := by
  unfold rdLen lenL
  split
  · exact rdFix_back 4 n (by omega) t
  · exact rdVar_back n (by omega) t false
theorem packL_len (v : Nat) (body : List UInt8) (hb : body.length ≤ 1048576) : (packL v body).length ≤ 1048600 := by
  have := lenL_len v body.length hb
  simp only [packL, headL, List.length_append, fixL_length]
  omega
theorem packL_ne (v : Nat) (body : List UInt8) : packL v body ≠ [] := fun h => by
  have := congrArg List.length h
  simp only [packL, headL, List.length_append, fixL_length, List.length_nil] at this
  omega

set_option maxRecDepth 100000 in
set_option maxHeartbeats 1000000 in
theorem length_any (v n : Nat) (hv : v = 1 ∨ v = 2) (hn : n ≤ 1048576) (w : World) :
    Calls Tryz.prog 95 #[.int .i64 v, .int .i64 n] w fun x w' => x = .returned (.string ⟨(lenL v n).toArray⟩) ∧ Below w.heap.size w w' := by
  have hf := fun W => fixed_any n (by omega) 4 (.inr (.inl rfl)) W
  have hp := fun W => put_any n (by omega) W
  have hwr : IntKind.u64.wrap (n : Int) = (n : Int) := wrapU_small (by omega) (by omega)
  rcases hv with rfl | rfl
  · have e : lenL 1 n = fixL 4 n := rfl
    rw [e]
    generalize fixL 4 n = z at *
    have HF := Lib.hid hf
    clear hf hp e
    go_enter Tryz.func95, Tryz.ntmps95
    go_wp2_with fail
    refine (HF.out _).mono ?_
    rintro x w1 ⟨rfl, hb1⟩
    go_wp2_with fail
    go_ret
    exact ⟨rfl, hb1⟩
  · have e : lenL 2 n = varL n := rfl
    rw [e]
    generalize varL n = z at *
    have HP := Lib.hid hp
    clear hf hp e
    go_enter Tryz.func95, Tryz.ntmps95
    go_wp2_with fail
    refine (HP.out _).mono ?_
    rintro x w1 ⟨rfl, hb1⟩
    go_wp2_with fail
    go_ret
    exact ⟨rfl, hb1⟩

set_option maxRecDepth 100000 in
set_option maxHeartbeats 2000000 in
theorem pack_any (v : Nat) (hv : v = 1 ∨ v = 2) (body : List UInt8) (hb : body.length ≤ 1048576) (w : World) :
    Calls Tryz.prog 60 #[.int .i64 v, .string ⟨body.toArray⟩] w fun x w' => x = .returned (.tuple #[.string ⟨(packL v body).toArray⟩, .bool true]) ∧ Below w.heap.size w w' := by
  have hf : ∀ W : World, Calls Tryz.prog 82 #[.int .u64 (160 + (v : Int)), .int .i64 1] W fun x w' => x = .returned (.string ⟨(fixL 1 (160 + v)).toArray⟩) ∧ Below W.heap.size W w' := fun W => by
    have := fixed_any (160 + v) (by omega) 1 (.inl rfl) W
    rwa [show (((160 + v : Nat)) : Int) = 160 + (v : Int) by omega] at this
  have hl := fun W => length_any v body.length hv hb W
  have hs := fun W => sum_any (headL v body.length) (by have := lenL_len v body.length hb; simp only [headL, List.length_append, fixL_length]; omega) W
  have hm := fun W => more_any (crcM 0 (headL v body.length)) body (crcM_lt _ _ (by decide)) (by omega) W
  have hg := fun W => fixed_any (sumL v body) (by have := sumL_lt v body; omega) 4 (.inr (.inl rfl)) W
  have hsl := sumL_lt v body
  have hll := lenL_len v body.length hb
  have e1 : headL v body.length = fixL 1 (160 + v) ++ lenL v body.length := rfl
  have e2 : packL v body = headL v body.length ++ fixL 4 (sumL v body) ++ body := rfl
  have e3 : sumL v body = crcM (crcM 0 (headL v body.length)) body := rfl
  rw [← e3] at hm
  have hl1 := fixL_length 1 (160 + v)
  have hl4 := fixL_length 4 (sumL v body)
  have hhl : (headL v body.length).length ≤ 11 := by rw [e1, List.length_append]; omega
  generalize packL v body = res at *
  generalize headL v body.length = hd at *
  generalize lenL v body.length = ln at *
  generalize sumL v body = sm at *
  generalize crcM 0 hd = c0 at *
  generalize fixL 1 (160 + v) = f1 at *
  generalize fixL 4 sm = f4 at *
  have HF := Lib.hid hf
  have HL := Lib.hid hl
  have HS := Lib.hid hs
  have HM := Lib.hid hm
  have HG := Lib.hid hg
  have E1 := Lib.hid e1
  have E2 := Lib.hid e2
  clear hf hl hs hm hg e1 e2 e3
  have hwv : IntKind.i64.wrap (160 + (v : Int)) = 160 + (v : Int) := by
    rw [show (160 : Int) + (v : Int) = ((160 + v : Nat) : Int) by omega]
    exact wrap_nat _ (by omega)
  have hwu : IntKind.u64.wrap (160 + (v : Int)) = 160 + (v : Int) := wrapU_small (by omega) (by omega)
  have hws : IntKind.u64.wrap ((sm : Nat) : Int) = ((sm : Nat) : Int) := wrapU_small (by omega) (by omega)
  have h1 : ¬ (v : Int) < 1 := by omega
  have h2 : ¬ (2 : Int) < (v : Int) := by omega
  have h3 : ¬ (1048576 : Int) < ((body.length : Nat) : Int) := by omega
  go_enter Tryz.func60, Tryz.ntmps60
  go_wp2_with fail
  refine (HF.out _).mono ?_
  rintro x w1 ⟨rfl, hb1⟩
  have HB1 := Lib.hid hb1
  clear hb1
  go_wp2_with fail
  refine (HL.out _).mono ?_
  rintro x w2 ⟨rfl, hb2⟩
  have HB2 := Lib.hid (HB1.out.trans (hb2.mono HB1.out.size))
  have hcat : (⟨f1.toArray⟩ : ByteArray) ++ ⟨ln.toArray⟩ = ⟨hd.toArray⟩ := by rw [E1.out]; exact ByteArray.mk_append_mk f1 ln
  clear hb2 HB1
  have hn1 : ¬ 9223372036854775807 < f1.length + ln.length := by omega
  go_wp2_with fail
  refine (HS.out _).mono ?_
  rintro x w3 ⟨rfl, hb3⟩
  have HB3 := Lib.hid (HB2.out.trans (hb3.mono HB2.out.size))
  clear hb3 HB2 hcat
  go_wp2_with fail
  refine (HM.out _).mono ?_
  rintro x w4 ⟨rfl, hb4⟩
  have HB4 := Lib.hid (HB3.out.trans (hb4.mono HB3.out.size))
  clear hb4 HB3
  go_wp2_with fail
  refine (HG.out _).mono ?_
  rintro x w5 ⟨rfl, hb5⟩
  have HB5 := Lib.hid (HB4.out.trans (hb5.mono HB4.out.size))
  clear hb5 HB4
  have hn2 : ¬ 9223372036854775807 < hd.length + f4.length := by omega
  have hn3 : ¬ 9223372036854775807 < (hd ++ f4).length + body.length := by rw [List.length_append]; omega
  have hn4 : ¬ 9223372036854775807 < hd.length + f4.length + body.length := by omega
  have hcat2 : (⟨hd.toArray⟩ : ByteArray) ++ ⟨f4.toArray⟩ = ⟨(hd ++ f4).toArray⟩ := ByteArray.mk_append_mk hd f4
  have hcat3 : (⟨(hd ++ f4).toArray⟩ : ByteArray) ++ ⟨body.toArray⟩ = ⟨res.toArray⟩ := by rw [E2.out]; exact ByteArray.mk_append_mk (hd ++ f4) body
  go_wp2_with fail
  go_ret2
  exact ⟨rfl, HB5.out⟩

end Go.Proofs.YtbjbgdnjcppjhaaGreatDoor

/-
  frame.Next over this translation: a frame is told. Conditions: as each theorem says. By an AI agent.
-/
namespace Go.Proofs.YtbjbgdnjcppjhaaGreatDoor
open Go.RowKit
set_option linter.unusedVariables false
set_option linter.unusedSimpArgs false

theorem results_tmp4 {fn : Func} {t u v y : Tmp} (h : fn.results = #[.tmp t, .tmp u, .tmp v, .tmp y]) (tmps : Array Value) (P : Program) (w : World) :
    (results fn tmps).run P w = .ok (.tuple #[tmps.getD t undef, tmps.getD u undef, tmps.getD v undef, tmps.getD y undef]) w := by
  simp [results, h]

set_option maxRecDepth 100000 in
set_option maxHeartbeats 2000000 in
theorem lenC_any (b N : Nat) (r : Rd) (hl : r.1.length ≤ 1099511627776) (w : World) (h : RdAt w b r) (hc : w.cell? ⟨N, 0, none⟩ = some (.pointer (some ⟨b, 0, none⟩))) :
    Calls Tryz.prog 135 #[.pointer (some ⟨N, 0, none⟩)] w fun x w' => x = .returned (.int .u64 (rdFix 4 r).1) ∧ RdAt w' b (rdFix 4 r).2 ∧ But b w w' := by
  have HF := Lib.hid (fixedRd_any b 4 r (by decide) hl w h)
  have hlt := rdFix_lt 4 r
  generalize rdFix 4 r = x at *
  obtain ⟨v, r1⟩ := x
  have hv : v < 4294967296 := hlt
  clear h hlt
  go_enter Tryz.func135, Tryz.ntmps135
  go_wp2_with fail
  refine HF.out.mono ?_
  rintro x w1 ⟨rfl, h1, hb1⟩
  go_wp2_with fail
  go_ret
  exact ⟨rfl, h1, hb1⟩

set_option maxRecDepth 100000 in
set_option maxHeartbeats 4000000 in
theorem next_nil (w : World) :
    Calls Tryz.prog 98 #[.string ⟨#[]⟩] w fun x w' => x = .returned (.tuple #[.int .i64 0, .string ⟨#[]⟩, .int .i64 0, .bool false]) ∧ Below w.heap.size w w' := by
  have K0 : ∀ b W, RdAt W b ([], false) → Calls Tryz.prog 54 #[.pointer (some ⟨b, 0, none⟩), .int .i64 1] W fun x W' => x = .returned (.int .u64 0) ∧ RdAt W' b rdFail ∧ But b W W' := fun b W hW => by
    have := fixedRd_any b 1 ([], false) (by decide) (by decide) W hW
    rw [show rdFix 1 ([], false) = (0, rdFail) from rfl] at this
    exact this
  have HK0 := Lib.hid K0
  clear K0
  have hnew := fun W => new_any [] W
  have HNEW := Lib.hid hnew
  clear hnew
  go_enter Tryz.func98, Tryz.ntmps98
  go_wp2_with fail
  refine (HNEW.out _).mono ?_
  rintro x w1 ⟨rfl, h1, hb1, hs1⟩
  have H1 := Lib.hid h1
  have HB1 := Lib.hid hb1
  clear h1 hb1
  go_wp2_with fail
  have ha1 := (Below.refl w1.heap.size w1).alloc (Nat.le_refl _) (.cells #[.pointer (some ⟨w.heap.size, 0, none⟩)] 38)
  have HN := Lib.hid (heap_alloc_new w1 (.cells #[.pointer (some ⟨w.heap.size, 0, none⟩)] 38))
  refine (HK0.out _ _ (H1.out.keep ha1)).mono ?_
  rintro x w2 ⟨rfl, h2, hb2⟩
  have H2 := Lib.hid h2
  have HN2 := Lib.hid ((hb2.block w1.heap.size (by simp) (fun h => by have := Option.some.inj h; omega)).trans HN.out)
  have HB2 := Lib.hid ((HB1.out.trans (ha1.mono (Nat.le_of_lt hs1))).trans (⟨hb2.os, hb2.tape, hb2.output, hb2.size, fun k hk => hb2.block k (by rw [World.size_alloc]; omega) (fun h => by have := Option.some.inj h; omega)⟩ : Below w.heap.size _ w2))
  have hn2 : w2.cell? ⟨w1.heap.size, 0, none⟩ = some (.pointer (some ⟨w.heap.size, 0, none⟩)) := Lib.cell_of_heap HN2.out 0
  have hsz2 := heap_lt HN2.out
  clear h2 hb2 ha1 HN HB1 H1
  generalize hN : w1.heap.size = N at *
  clear hN
  have hmk := mk_imap (P := Tryz.prog) 182 .i64 w2
  have hi1 : ∀ v, (Instr.mapUpdate 182 (.map (some w2.heap.size)) (.int .i64 1) v).run Tryz.prog (w2.alloc (imap .i64 [])) = .ok () (w2.alloc (imap .i64 [(1, v)])) := fun v => run_insert_new w2 Tryz.underlying182 Tryz.underlying3 [] 1 v rfl
  have hi2 : ∀ u v, (Instr.mapUpdate 182 (.map (some w2.heap.size)) (.int .i64 2) v).run Tryz.prog (w2.alloc (imap .i64 [(1, u)])) = .ok () (w2.alloc (imap .i64 [(1, u), (2, v)])) := fun u v => run_insert_new w2 Tryz.underlying182 Tryz.underlying3 [(1, u)] 2 v rfl
  have hcm : ∀ o, (w2.alloc o).cell? ⟨N, 0, none⟩ = some (.pointer (some ⟨w.heap.size, 0, none⟩)) := fun o => cell_al hn2 o
  have hlk : ∀ u v, (Instr.lookup 182 (.map (some w2.heap.size)) (.int .i64 (-160)) true).run Tryz.prog (w2.alloc (imap .i64 [(1, u), (2, v)])) = .ok (.tuple #[.nilFunc, .bool false]) (w2.alloc (imap .i64 [(1, u), (2, v)])) := fun u v =>
    run_look (w2.alloc (imap .i64 [(1, u), (2, v)])) Tryz.underlying182 Tryz.underlying3 [(1, u), (2, v)] w2.heap.size (heap_alloc_new w2 _) (-160) .nilFunc rfl true
  go_wp2_with fail
  refine bodyPost_ret (results_tmp4 rfl _ _ _) rfl ?_
  exact ⟨rfl, HB2.out.trans (((Below.refl _ _).alloc (Nat.le_refl _) _).mono HB2.out.size)⟩

set_option maxRecDepth 100000 in
set_option maxHeartbeats 4000000 in
theorem next_one (body : List UInt8) (hb : body.length ≤ 1048576) (w : World) :
    Calls Tryz.prog 98 #[.string ⟨(packL 1 body).toArray⟩] w fun x w' => x = .returned (.tuple #[.int .i64 1, .string ⟨body.toArray⟩, .int .i64 (packL 1 body).length, .bool true]) ∧ Below w.heap.size w w' := by
  have e1 : packL 1 body = fixL 1 161 ++ (lenL 1 body.length ++ (fixL 4 (sumL 1 body) ++ body)) := by
    simp only [packL, headL, List.append_assoc]
  have e2 : packL 1 body = headL 1 body.length ++ (fixL 4 (sumL 1 body) ++ body) := by
    simp only [packL, List.append_assoc]
  have e3 : sumL 1 body = crcM (crcM 0 (headL 1 body.length)) body := rfl
  have hsl := sumL_lt 1 body
  have hpl := packL_len 1 body hb
  have r1 : rdFix 1 (packL 1 body, false) = (161, (lenL 1 body.length ++ (fixL 4 (sumL 1 body) ++ body), false)) := by
    rw [e1]
    exact rdFix_back 1 161 (by decide) _
  have r2 := rdLen_back 1 body.length hb (fixL 4 (sumL 1 body) ++ body)
  have r2 : rdFix 4 (lenL 1 body.length ++ (fixL 4 (sumL 1 body) ++ body), false) = (body.length, (fixL 4 (sumL 1 body) ++ body, false)) := r2
  have r3 : rdFix 4 (fixL 4 (sumL 1 body) ++ body, false) = (sumL 1 body, (body, false)) := rdFix_back 4 _ hsl _
  have r4 : rdBytes body.length (body, false) = (body, ([], false)) := by
    have := rdBytes_back body []
    rwa [List.append_nil] at this
  have hl2 : (fixL 4 (sumL 1 body) ++ body).length = 4 + body.length := by rw [List.length_append, fixL_length]
  have hl1 : (lenL 1 body.length ++ (fixL 4 (sumL 1 body) ++ body)).length ≤ 1099511627776 := by
    have := lenL_len 1 body.length hb
    rw [List.length_append]
    omega
  have hlp : (packL 1 body).length = (headL 1 body.length).length + (4 + body.length) := by rw [e2, List.length_append, hl2]
  have hhl : (headL 1 body.length).length ≤ 1048600 := by omega
  have hs := fun W => sum_any (headL 1 body.length) (by omega) W
  have hm := fun W => more_any (crcM 0 (headL 1 body.length)) body (crcM_lt _ _ (by decide)) (by omega) W
  rw [← e3] at hm
  have hx : (⟨(packL 1 body).toArray⟩ : ByteArray).extract 0 (headL 1 body.length).length = ⟨(headL 1 body.length).toArray⟩ := by
    rw [e2]
    apply ByteArray.ext
    simp [ByteArray.data_extract]
  clear e1 e2 e3
  generalize packL 1 body = s at *
  generalize headL 1 body.length = hd at *
  generalize lenL 1 body.length ++ (fixL 4 (sumL 1 body) ++ body) = s1 at *
  generalize fixL 4 (sumL 1 body) ++ body = s2 at *
  generalize sumL 1 body = sm at *
  generalize crcM 0 hd = c0 at *
  have K0 : ∀ b W, RdAt W b (s, false) → Calls Tryz.prog 54 #[.pointer (some ⟨b, 0, none⟩), .int .i64 1] W fun x W' => x = .returned (.int .u64 161) ∧ RdAt W' b (s1, false) ∧ But b W W' := fun b W hW => by
    have := fixedRd_any b 1 (s, false) (by decide) (by show s.length ≤ _; omega) W hW
    rw [r1] at this
    exact this
  have K1 : ∀ b N W, RdAt W b (s1, false) → W.cell? ⟨N, 0, none⟩ = some (.pointer (some ⟨b, 0, none⟩)) → Calls Tryz.prog 135 #[.pointer (some ⟨N, 0, none⟩)] W fun x W' => x = .returned (.int .u64 body.length) ∧ RdAt W' b (s2, false) ∧ But b W W' := fun b N W hW hc => by
    have := lenC_any b N (s1, false) hl1 W hW hc
    rw [r2] at this
    exact this
  have K2 : ∀ b W, RdAt W b (s2, false) → Calls Tryz.prog 54 #[.pointer (some ⟨b, 0, none⟩), .int .i64 4] W fun x W' => x = .returned (.int .u64 sm) ∧ RdAt W' b (body, false) ∧ But b W W' := fun b W hW => by
    have := fixedRd_any b 4 (s2, false) (by decide) (by show s2.length ≤ _; omega) W hW
    rw [r3] at this
    exact this
  have K3 : ∀ b W, RdAt W b (body, false) → Calls Tryz.prog 56 #[.pointer (some ⟨b, 0, none⟩), .int .i64 body.length] W fun x W' => x = .returned (.string ⟨body.toArray⟩) ∧ RdAt W' b ([], false) ∧ But b W W' := fun b W hW => by
    have := bytes_any b body.length (body, false) (by omega) (by show body.length ≤ _; omega) W hW
    rw [r4] at this
    exact this
  have HK0 := Lib.hid K0
  have HK1 := Lib.hid K1
  have HK2 := Lib.hid K2
  have HK3 := Lib.hid K3
  have HS := Lib.hid hs
  have HM := Lib.hid hm
  have HX := Lib.hid hx
  clear K0 K1 K2 K3 hs hm hx r1 r2 r3 r4
  go_enter Tryz.func98, Tryz.ntmps98
  go_wp2_with fail
  refine (new_any s _).mono ?_
  rintro x w1 ⟨rfl, h1, hb1, hs1⟩
  have H1 := Lib.hid h1
  have HB1 := Lib.hid hb1
  clear h1 hb1
  go_wp2_with fail
  have ha1 := (Below.refl w1.heap.size w1).alloc (Nat.le_refl _) (.cells #[.pointer (some ⟨w.heap.size, 0, none⟩)] 38)
  have HN := Lib.hid (heap_alloc_new w1 (.cells #[.pointer (some ⟨w.heap.size, 0, none⟩)] 38))
  refine (HK0.out _ _ (H1.out.keep ha1)).mono ?_
  rintro x w2 ⟨rfl, h2, hb2⟩
  have H2 := Lib.hid h2
  have HN2 := Lib.hid ((hb2.block w1.heap.size (by simp) (fun h => by have := Option.some.inj h; omega)).trans HN.out)
  have HB2 := Lib.hid ((HB1.out.trans (ha1.mono (Nat.le_of_lt hs1))).trans (⟨hb2.os, hb2.tape, hb2.output, hb2.size, fun k hk => hb2.block k (by rw [World.size_alloc]; omega) (fun h => by have := Option.some.inj h; omega)⟩ : Below w.heap.size _ w2))
  have hn2 : w2.cell? ⟨w1.heap.size, 0, none⟩ = some (.pointer (some ⟨w.heap.size, 0, none⟩)) := Lib.cell_of_heap HN2.out 0
  have hsz2 := heap_lt HN2.out
  clear h2 hb2 ha1 HN HB1 H1
  generalize hN : w1.heap.size = N at *
  clear hN
  have hmk := mk_imap (P := Tryz.prog) 182 .i64 w2
  have hi1 : ∀ v, (Instr.mapUpdate 182 (.map (some w2.heap.size)) (.int .i64 1) v).run Tryz.prog (w2.alloc (imap .i64 [])) = .ok () (w2.alloc (imap .i64 [(1, v)])) := fun v => run_insert_new w2 Tryz.underlying182 Tryz.underlying3 [] 1 v rfl
  have hi2 : ∀ u v, (Instr.mapUpdate 182 (.map (some w2.heap.size)) (.int .i64 2) v).run Tryz.prog (w2.alloc (imap .i64 [(1, u)])) = .ok () (w2.alloc (imap .i64 [(1, u), (2, v)])) := fun u v => run_insert_new w2 Tryz.underlying182 Tryz.underlying3 [(1, u)] 2 v rfl
  have hcm : ∀ o, (w2.alloc o).cell? ⟨N, 0, none⟩ = some (.pointer (some ⟨w.heap.size, 0, none⟩)) := fun o => cell_al hn2 o
  have hlk : ∀ u v, (Instr.lookup 182 (.map (some w2.heap.size)) (.int .i64 1) true).run Tryz.prog (w2.alloc (imap .i64 [(1, u), (2, v)])) = .ok (.tuple #[u, .bool true]) (w2.alloc (imap .i64 [(1, u), (2, v)])) := fun u v =>
    run_look (w2.alloc (imap .i64 [(1, u), (2, v)])) Tryz.underlying182 Tryz.underlying3 [(1, u), (2, v)] w2.heap.size (heap_alloc_new w2 _) 1 .nilFunc rfl true
  go_wp2_with fail
  have ha2 := (Below.refl w2.heap.size w2).alloc (Nat.le_refl _) (imap .i64 [(1, .func (.func 135) #[] #[.pointer (some ⟨N, 0, none⟩)]), (2, .func (.func 70) #[.pointer (some ⟨w.heap.size, 0, none⟩)] #[])])
  refine (HK1.out _ _ _ (H2.out.keep ha2) (cell_al hn2 _)).mono ?_
  rintro x w3 ⟨rfl, h3, hb3⟩
  have hN2 : w2.heap.size ≤ (w2.alloc (imap .i64 [(1, .func (.func 135) #[] #[.pointer (some ⟨N, 0, none⟩)]), (2, .func (.func 70) #[.pointer (some ⟨w.heap.size, 0, none⟩)] #[])])).heap.size := by rw [World.size_alloc]; omega
  have H3 := Lib.hid h3
  have HN3 := Lib.hid (((hb3.block N (by omega) (fun h => by have := Option.some.inj h; omega)).trans (ha2.block N hsz2)).trans HN2.out)
  have HB3 := Lib.hid ((HB2.out.trans (ha2.mono HB2.out.size)).trans (⟨hb3.os, hb3.tape, hb3.output, hb3.size, fun k hk => hb3.block k (by have := HB2.out.size; omega) (fun h => by have := Option.some.inj h; omega)⟩ : Below w.heap.size _ w3))
  have hn3 : w3.cell? ⟨N, 0, none⟩ = some (.pointer (some ⟨w.heap.size, 0, none⟩)) := Lib.cell_of_heap HN3.out 0
  have hsz3 := heap_lt HN3.out
  clear h3 hb3 ha2 hN2 hn2 hcm hmk hi1 hi2 hlk HN2 HB2 H2
  go_wp2_with fail
  refine (left_any _ (s2, false) w3 H3.out).mono ?_
  rintro x w3a ⟨rfl, rfl⟩
  have hsub : IntKind.i64.wrap ((s.length : Int) - (s2.length : Int)) = (hd.length : Int) := by
    rw [show (s.length : Int) - (s2.length : Int) = ((hd.length : Nat) : Int) by omega]
    exact wrap_nat _ (by omega)
  have hdl : (hd.length : Int) ≤ (s.length : Int) := by omega
  have hx := HX.out
  simp only at hsub ⊢
  go_wp2_with fail
  refine (HK2.out _ _ H3.out).mono ?_
  rintro x w4 ⟨rfl, h4, hb4⟩
  have H4 := Lib.hid h4
  have HN4 := Lib.hid ((hb4.block N hsz3 (fun h => by have := Option.some.inj h; omega)).trans HN3.out)
  have HB4 := Lib.hid (HB3.out.trans (⟨hb4.os, hb4.tape, hb4.output, hb4.size, fun k hk => hb4.block k (by omega) (fun h => by have := Option.some.inj h; omega)⟩ : Below w.heap.size _ w4))
  have hn4 : w4.cell? ⟨N, 0, none⟩ = some (.pointer (some ⟨w.heap.size, 0, none⟩)) := Lib.cell_of_heap HN4.out 0
  have hsz4 := heap_lt HN4.out
  clear h4 hb4 hn3 HN3 HB3 H3 hsub hx
  have hk1 : ¬ (1048576 : Int) < ((body.length : Nat) : Int) := by omega
  have hwu : IntKind.u64.wrap ((body.length : Nat) : Int) = ((body.length : Nat) : Int) := wrapU_small (by omega) (by omega)
  have hwi : IntKind.i64.wrap ((body.length : Nat) : Int) = ((body.length : Nat) : Int) := wrap_nat _ (by omega)
  go_wp2_with fail
  refine (ok_any _ (body, false) w4 H4.out).mono ?_
  rintro x w4a ⟨rfl, rfl⟩
  go_wp2_with fail
  refine (left_any _ (body, false) w4a H4.out).mono ?_
  rintro x w4b ⟨rfl, rfl⟩
  go_wp2_with fail
  refine (HK3.out _ _ H4.out).mono ?_
  rintro x w5 ⟨rfl, h5, hb5⟩
  have H5 := Lib.hid h5
  have HN5 := Lib.hid ((hb5.block N hsz4 (fun h => by have := Option.some.inj h; omega)).trans HN4.out)
  have HB5 := Lib.hid (HB4.out.trans (⟨hb5.os, hb5.tape, hb5.output, hb5.size, fun k hk => hb5.block k (by omega) (fun h => by have := Option.some.inj h; omega)⟩ : Below w.heap.size _ w5))
  have hsz5 := heap_lt HN5.out
  clear h5 hb5 hn4 HN4 HB4 H4
  go_wp2_with fail
  refine (HS.out _).mono ?_
  rintro x w6 ⟨rfl, hb6⟩
  have H6 := Lib.hid (H5.out.keep hb6)
  have HN6 := Lib.hid ((hb6.block N hsz5).trans HN5.out)
  have HB6 := Lib.hid (HB5.out.trans (hb6.mono HB5.out.size))
  have hsz6 := heap_lt HN6.out
  clear hb6 H5 HN5 HB5
  go_wp2_with fail
  refine (HM.out _).mono ?_
  rintro x w7 ⟨rfl, hb7⟩
  have H7 := Lib.hid (H6.out.keep hb7)
  have HN7 := Lib.hid ((hb7.block N hsz6).trans HN6.out)
  have HB7 := Lib.hid (HB6.out.trans (hb7.mono HB6.out.size))
  have hn7 : w7.cell? ⟨N, 0, none⟩ = some (.pointer (some ⟨w.heap.size, 0, none⟩)) := Lib.cell_of_heap HN7.out 0
  clear hb7 H6 HN6 HB6
  have hws : IntKind.u64.wrap ((sm : Nat) : Int) = ((sm : Nat) : Int) := wrapU_small (by omega) (by omega)
  go_wp2_with fail
  refine (left_any _ ([], false) w7 H7.out).mono ?_
  rintro x w8 ⟨rfl, rfl⟩
  have hw9 : IntKind.i64.wrap ((hd.length : Int) + (4 + (body.length : Int))) = (hd.length : Int) + (4 + (body.length : Int)) := by
    rw [show (hd.length : Int) + (4 + (body.length : Int)) = ((hd.length + (4 + body.length) : Nat) : Int) by omega]
    exact wrap_nat _ (by omega)
  go_wp2_with fail
  refine bodyPost_ret (results_tmp4 rfl _ _ _) rfl ?_
  refine ⟨?_, HB7.out⟩
  have e : ((s.length : Nat) : Int) = (hd.length : Int) + (4 + (body.length : Int)) := by omega
  rw [e]
  rfl

set_option maxRecDepth 100000 in
set_option maxHeartbeats 4000000 in
theorem next_two (body : List UInt8) (hb : body.length ≤ 1048576) (w : World) :
    Calls Tryz.prog 98 #[.string ⟨(packL 2 body).toArray⟩] w fun x w' => x = .returned (.tuple #[.int .i64 2, .string ⟨body.toArray⟩, .int .i64 (packL 2 body).length, .bool true]) ∧ Below w.heap.size w w' := by
  have e1 : packL 2 body = fixL 1 162 ++ (lenL 2 body.length ++ (fixL 4 (sumL 2 body) ++ body)) := by
    simp only [packL, headL, List.append_assoc]
  have e2 : packL 2 body = headL 2 body.length ++ (fixL 4 (sumL 2 body) ++ body) := by
    simp only [packL, List.append_assoc]
  have e3 : sumL 2 body = crcM (crcM 0 (headL 2 body.length)) body := rfl
  have hsl := sumL_lt 2 body
  have hpl := packL_len 2 body hb
  have r1 : rdFix 1 (packL 2 body, false) = (162, (lenL 2 body.length ++ (fixL 4 (sumL 2 body) ++ body), false)) := by
    rw [e1]
    exact rdFix_back 1 162 (by decide) _
  have r2 := rdLen_back 2 body.length hb (fixL 4 (sumL 2 body) ++ body)
  have r2 : rdVar (lenL 2 body.length ++ (fixL 4 (sumL 2 body) ++ body), false) = (body.length, (fixL 4 (sumL 2 body) ++ body, false)) := r2
  have r3 : rdFix 4 (fixL 4 (sumL 2 body) ++ body, false) = (sumL 2 body, (body, false)) := rdFix_back 4 _ hsl _
  have r4 : rdBytes body.length (body, false) = (body, ([], false)) := by
    have := rdBytes_back body []
    rwa [List.append_nil] at this
  have hl2 : (fixL 4 (sumL 2 body) ++ body).length = 4 + body.length := by rw [List.length_append, fixL_length]
  have hl1 : (lenL 2 body.length ++ (fixL 4 (sumL 2 body) ++ body)).length ≤ 1099511627776 := by
    have := lenL_len 2 body.length hb
    rw [List.length_append]
    omega
  have hlp : (packL 2 body).length = (headL 2 body.length).length + (4 + body.length) := by rw [e2, List.length_append, hl2]
  have hhl : (headL 2 body.length).length ≤ 1048600 := by omega
  have hs := fun W => sum_any (headL 2 body.length) (by omega) W
  have hm := fun W => more_any (crcM 0 (headL 2 body.length)) body (crcM_lt _ _ (by decide)) (by omega) W
  rw [← e3] at hm
  have hx : (⟨(packL 2 body).toArray⟩ : ByteArray).extract 0 (headL 2 body.length).length = ⟨(headL 2 body.length).toArray⟩ := by
    rw [e2]
    apply ByteArray.ext
    simp [ByteArray.data_extract]
  clear e1 e2 e3
  generalize packL 2 body = s at *
  generalize headL 2 body.length = hd at *
  generalize lenL 2 body.length ++ (fixL 4 (sumL 2 body) ++ body) = s1 at *
  generalize fixL 4 (sumL 2 body) ++ body = s2 at *
  generalize sumL 2 body = sm at *
  generalize crcM 0 hd = c0 at *
  have K0 : ∀ b W, RdAt W b (s, false) → Calls Tryz.prog 54 #[.pointer (some ⟨b, 0, none⟩), .int .i64 1] W fun x W' => x = .returned (.int .u64 162) ∧ RdAt W' b (s1, false) ∧ But b W W' := fun b W hW => by
    have := fixedRd_any b 1 (s, false) (by decide) (by show s.length ≤ _; omega) W hW
    rw [r1] at this
    exact this
  have K1 : ∀ b W, RdAt W b (s1, false) → Calls Tryz.prog 70 #[.pointer (some ⟨b, 0, none⟩)] W fun x W' => x = .returned (.int .u64 body.length) ∧ RdAt W' b (s2, false) ∧ But b W W' := fun b W hW => by
    have := var_any b (s1, false) hl1 W hW
    rw [r2] at this
    exact this
  have K2 : ∀ b W, RdAt W b (s2, false) → Calls Tryz.prog 54 #[.pointer (some ⟨b, 0, none⟩), .int .i64 4] W fun x W' => x = .returned (.int .u64 sm) ∧ RdAt W' b (body, false) ∧ But b W W' := fun b W hW => by
    have := fixedRd_any b 4 (s2, false) (by decide) (by show s2.length ≤ _; omega) W hW
    rw [r3] at this
    exact this
  have K3 : ∀ b W, RdAt W b (body, false) → Calls Tryz.prog 56 #[.pointer (some ⟨b, 0, none⟩), .int .i64 body.length] W fun x W' => x = .returned (.string ⟨body.toArray⟩) ∧ RdAt W' b ([], false) ∧ But b W W' := fun b W hW => by
    have := bytes_any b body.length (body, false) (by omega) (by show body.length ≤ _; omega) W hW
    rw [r4] at this
    exact this
  have HK0 := Lib.hid K0
  have HK1 := Lib.hid K1
  have HK2 := Lib.hid K2
  have HK3 := Lib.hid K3
  have HS := Lib.hid hs
  have HM := Lib.hid hm
  have HX := Lib.hid hx
  clear K0 K1 K2 K3 hs hm hx r1 r2 r3 r4
  go_enter Tryz.func98, Tryz.ntmps98
  go_wp2_with fail
  refine (new_any s _).mono ?_
  rintro x w1 ⟨rfl, h1, hb1, hs1⟩
  have H1 := Lib.hid h1
  have HB1 := Lib.hid hb1
  clear h1 hb1
  go_wp2_with fail
  have ha1 := (Below.refl w1.heap.size w1).alloc (Nat.le_refl _) (.cells #[.pointer (some ⟨w.heap.size, 0, none⟩)] 38)
  have HN := Lib.hid (heap_alloc_new w1 (.cells #[.pointer (some ⟨w.heap.size, 0, none⟩)] 38))
  refine (HK0.out _ _ (H1.out.keep ha1)).mono ?_
  rintro x w2 ⟨rfl, h2, hb2⟩
  have H2 := Lib.hid h2
  have HN2 := Lib.hid ((hb2.block w1.heap.size (by simp) (fun h => by have := Option.some.inj h; omega)).trans HN.out)
  have HB2 := Lib.hid ((HB1.out.trans (ha1.mono (Nat.le_of_lt hs1))).trans (⟨hb2.os, hb2.tape, hb2.output, hb2.size, fun k hk => hb2.block k (by rw [World.size_alloc]; omega) (fun h => by have := Option.some.inj h; omega)⟩ : Below w.heap.size _ w2))
  have hn2 : w2.cell? ⟨w1.heap.size, 0, none⟩ = some (.pointer (some ⟨w.heap.size, 0, none⟩)) := Lib.cell_of_heap HN2.out 0
  have hsz2 := heap_lt HN2.out
  clear h2 hb2 ha1 HN HB1 H1
  generalize hN : w1.heap.size = N at *
  clear hN
  have hmk := mk_imap (P := Tryz.prog) 182 .i64 w2
  have hi1 : ∀ v, (Instr.mapUpdate 182 (.map (some w2.heap.size)) (.int .i64 1) v).run Tryz.prog (w2.alloc (imap .i64 [])) = .ok () (w2.alloc (imap .i64 [(1, v)])) := fun v => run_insert_new w2 Tryz.underlying182 Tryz.underlying3 [] 1 v rfl
  have hi2 : ∀ u v, (Instr.mapUpdate 182 (.map (some w2.heap.size)) (.int .i64 2) v).run Tryz.prog (w2.alloc (imap .i64 [(1, u)])) = .ok () (w2.alloc (imap .i64 [(1, u), (2, v)])) := fun u v => run_insert_new w2 Tryz.underlying182 Tryz.underlying3 [(1, u)] 2 v rfl
  have hcm : ∀ o, (w2.alloc o).cell? ⟨N, 0, none⟩ = some (.pointer (some ⟨w.heap.size, 0, none⟩)) := fun o => cell_al hn2 o
  have hlk : ∀ u v, (Instr.lookup 182 (.map (some w2.heap.size)) (.int .i64 2) true).run Tryz.prog (w2.alloc (imap .i64 [(1, u), (2, v)])) = .ok (.tuple #[v, .bool true]) (w2.alloc (imap .i64 [(1, u), (2, v)])) := fun u v =>
    run_look (w2.alloc (imap .i64 [(1, u), (2, v)])) Tryz.underlying182 Tryz.underlying3 [(1, u), (2, v)] w2.heap.size (heap_alloc_new w2 _) 2 .nilFunc rfl true
  go_wp2_with fail
  have ha2 := (Below.refl w2.heap.size w2).alloc (Nat.le_refl _) (imap .i64 [(1, .func (.func 135) #[] #[.pointer (some ⟨N, 0, none⟩)]), (2, .func (.func 70) #[.pointer (some ⟨w.heap.size, 0, none⟩)] #[])])
  refine (HK1.out _ _ (H2.out.keep ha2)).mono ?_
  rintro x w3 ⟨rfl, h3, hb3⟩
  have hN2 : w2.heap.size ≤ (w2.alloc (imap .i64 [(1, .func (.func 135) #[] #[.pointer (some ⟨N, 0, none⟩)]), (2, .func (.func 70) #[.pointer (some ⟨w.heap.size, 0, none⟩)] #[])])).heap.size := by rw [World.size_alloc]; omega
  have H3 := Lib.hid h3
  have HN3 := Lib.hid (((hb3.block N (by omega) (fun h => by have := Option.some.inj h; omega)).trans (ha2.block N hsz2)).trans HN2.out)
  have HB3 := Lib.hid ((HB2.out.trans (ha2.mono HB2.out.size)).trans (⟨hb3.os, hb3.tape, hb3.output, hb3.size, fun k hk => hb3.block k (by have := HB2.out.size; omega) (fun h => by have := Option.some.inj h; omega)⟩ : Below w.heap.size _ w3))
  have hn3 : w3.cell? ⟨N, 0, none⟩ = some (.pointer (some ⟨w.heap.size, 0, none⟩)) := Lib.cell_of_heap HN3.out 0
  have hsz3 := heap_lt HN3.out
  clear h3 hb3 ha2 hN2 hn2 hcm hmk hi1 hi2 hlk HN2 HB2 H2
  go_wp2_with fail
  refine (left_any _ (s2, false) w3 H3.out).mono ?_
  rintro x w3a ⟨rfl, rfl⟩
  have hsub : IntKind.i64.wrap ((s.length : Int) - (s2.length : Int)) = (hd.length : Int) := by
    rw [show (s.length : Int) - (s2.length : Int) = ((hd.length : Nat) : Int) by omega]
    exact wrap_nat _ (by omega)
  have hdl : (hd.length : Int) ≤ (s.length : Int) := by omega
  have hx := HX.out
  simp only at hsub ⊢
  go_wp2_with fail
  refine (HK2.out _ _ H3.out).mono ?_
  rintro x w4 ⟨rfl, h4, hb4⟩
  have H4 := Lib.hid h4
  have HN4 := Lib.hid ((hb4.block N hsz3 (fun h => by have := Option.some.inj h; omega)).trans HN3.out)
  have HB4 := Lib.hid (HB3.out.trans (⟨hb4.os, hb4.tape, hb4.output, hb4.size, fun k hk => hb4.block k (by omega) (fun h => by have := Option.some.inj h; omega)⟩ : Below w.heap.size _ w4))
  have hn4 : w4.cell? ⟨N, 0, none⟩ = some (.pointer (some ⟨w.heap.size, 0, none⟩)) := Lib.cell_of_heap HN4.out 0
  have hsz4 := heap_lt HN4.out
  clear h4 hb4 hn3 HN3 HB3 H3 hsub hx
  have hk1 : ¬ (1048576 : Int) < ((body.length : Nat) : Int) := by omega
  have hwu : IntKind.u64.wrap ((body.length : Nat) : Int) = ((body.length : Nat) : Int) := wrapU_small (by omega) (by omega)
  have hwi : IntKind.i64.wrap ((body.length : Nat) : Int) = ((body.length : Nat) : Int) := wrap_nat _ (by omega)
  go_wp2_with fail
  refine (ok_any _ (body, false) w4 H4.out).mono ?_
  rintro x w4a ⟨rfl, rfl⟩
  go_wp2_with fail
  refine (left_any _ (body, false) w4a H4.out).mono ?_
  rintro x w4b ⟨rfl, rfl⟩
  go_wp2_with fail
  refine (HK3.out _ _ H4.out).mono ?_
  rintro x w5 ⟨rfl, h5, hb5⟩
  have H5 := Lib.hid h5
  have HN5 := Lib.hid ((hb5.block N hsz4 (fun h => by have := Option.some.inj h; omega)).trans HN4.out)
  have HB5 := Lib.hid (HB4.out.trans (⟨hb5.os, hb5.tape, hb5.output, hb5.size, fun k hk => hb5.block k (by omega) (fun h => by have := Option.some.inj h; omega)⟩ : Below w.heap.size _ w5))
  have hsz5 := heap_lt HN5.out
  clear h5 hb5 hn4 HN4 HB4 H4
  go_wp2_with fail
  refine (HS.out _).mono ?_
  rintro x w6 ⟨rfl, hb6⟩
  have H6 := Lib.hid (H5.out.keep hb6)
  have HN6 := Lib.hid ((hb6.block N hsz5).trans HN5.out)
  have HB6 := Lib.hid (HB5.out.trans (hb6.mono HB5.out.size))
  have hsz6 := heap_lt HN6.out
  clear hb6 H5 HN5 HB5
  go_wp2_with fail
  refine (HM.out _).mono ?_
  rintro x w7 ⟨rfl, hb7⟩
  have H7 := Lib.hid (H6.out.keep hb7)
  have HN7 := Lib.hid ((hb7.block N hsz6).trans HN6.out)
  have HB7 := Lib.hid (HB6.out.trans (hb7.mono HB6.out.size))
  have hn7 : w7.cell? ⟨N, 0, none⟩ = some (.pointer (some ⟨w.heap.size, 0, none⟩)) := Lib.cell_of_heap HN7.out 0
  clear hb7 H6 HN6 HB6
  have hws : IntKind.u64.wrap ((sm : Nat) : Int) = ((sm : Nat) : Int) := wrapU_small (by omega) (by omega)
  go_wp2_with fail
  refine (left_any _ ([], false) w7 H7.out).mono ?_
  rintro x w8 ⟨rfl, rfl⟩
  have hw9 : IntKind.i64.wrap ((hd.length : Int) + (4 + (body.length : Int))) = (hd.length : Int) + (4 + (body.length : Int)) := by
    rw [show (hd.length : Int) + (4 + (body.length : Int)) = ((hd.length + (4 + body.length) : Nat) : Int) by omega]
    exact wrap_nat _ (by omega)
  go_wp2_with fail
  refine bodyPost_ret (results_tmp4 rfl _ _ _) rfl ?_
  refine ⟨?_, HB7.out⟩
  have e : ((s.length : Nat) : Int) = (hd.length : Int) + (4 + (body.length : Int)) := by omega
  rw [e]
  rfl

end Go.Proofs.YtbjbgdnjcppjhaaGreatDoor

/-
  frame.Unpack, frame.put over this translation. Conditions: as each theorem says. By an AI agent.
-/
namespace Go.Proofs.YtbjbgdnjcppjhaaGreatDoor
open Go.RowKit
set_option linter.unusedVariables false
set_option linter.unusedSimpArgs false

theorem next_back (v : Nat) (hv : v = 1 ∨ v = 2) (body : List UInt8) (hb : body.length ≤ 1048576) (w : World) :
    Calls Tryz.prog 98 #[.string ⟨(packL v body).toArray⟩] w fun x w' => x = .returned (.tuple #[.int .i64 v, .string ⟨body.toArray⟩, .int .i64 (packL v body).length, .bool true]) ∧ Below w.heap.size w w' := by
  rcases hv with rfl | rfl
  · exact next_one body hb w
  · exact next_two body hb w

set_option maxRecDepth 100000 in
set_option maxHeartbeats 1000000 in
theorem unpack_back (v : Nat) (hv : v = 1 ∨ v = 2) (body : List UInt8) (hb : body.length ≤ 1048576) (w : World) :
    Calls Tryz.prog 61 #[.string ⟨(packL v body).toArray⟩] w fun x w' => x = .returned (.tuple #[.int .i64 v, .string ⟨body.toArray⟩, .bool true]) ∧ Below w.heap.size w w' := by
  have HX := Lib.hid (fun W => next_back v hv body hb W)
  generalize packL v body = s at *
  go_enter Tryz.func61, Tryz.ntmps61
  go_wp2_with fail
  refine (HX.out _).mono ?_
  rintro x w1 ⟨rfl, hb1⟩
  go_wp2_with fail
  go_ret3
  exact ⟨rfl, hb1⟩

set_option maxRecDepth 100000 in
set_option maxHeartbeats 1000000 in
theorem unpack_nil (w : World) :
    Calls Tryz.prog 61 #[.string ⟨#[]⟩] w fun x w' => x = .returned (.tuple #[.int .i64 0, .string ⟨#[]⟩, .bool false]) ∧ Below w.heap.size w w' := by
  go_enter Tryz.func61, Tryz.ntmps61
  go_wp2_with fail
  refine (next_nil _).mono ?_
  rintro x w1 ⟨rfl, hb1⟩
  go_wp2_with fail
  go_ret3
  exact ⟨rfl, hb1⟩

theorem zeroPutE (w : World) : (zeroValue 36).run Tryz.prog w = .ok .nilFunc w := by kernel_rfl

set_option maxRecDepth 100000 in
set_option maxHeartbeats 2000000 in
theorem putE_any (v : Nat) (hv : v = 1 ∨ v = 2) (M : Nat) (l : List (Int × Value)) (fn : FuncId) (hent : ∀ (args : Array Value) (W : World), (callFunc fn args).run Tryz.prog W = .ok (.enter fn args) W) (hl : l.lookup (v : Int) = some (.func (.func fn) #[] #[])) (e : Ent) (s : List UInt8) (hs : s.length ≤ 1048576) (ok : Bool) (w : World)
    (hcall : ∀ W, Calls Tryz.prog fn #[e.val] W fun x w' => x = .returned (.tuple #[.string ⟨s.toArray⟩, .bool ok]) ∧ Below W.heap.size W w') (hM : w.heap[M]? = some (imap .i64 l)) :
    Calls Tryz.prog 62 #[.int .i64 v, e.val, .map (some M)] w fun x w' => x = .returned (.tuple #[.string (if ok then ⟨(packL v s).toArray⟩ else ⟨#[]⟩), .bool ok]) ∧ Below w.heap.size w w' := by
  have hlk := run_look (w.alloc (.cells e.cells EntT)) Tryz.underlying109 Tryz.underlying3 l M ((Below.heap_alloc _ _ _ (heap_lt hM)).trans hM) (v : Int) .nilFunc (zeroPutE _) true
  rw [hl] at hlk
  have HP := Lib.hid (fun W => pack_any v hv s hs W)
  have HBOX := Lib.hid (heap_alloc_new w (.cells e.cells EntT))
  have HC := Lib.hid hcall
  have hB1 := (Below.refl w.heap.size w).alloc (Nat.le_refl _) (.cells e.cells EntT)
  clear hcall hM hl
  generalize packL v s = p at *
  obtain ⟨x0, x1, x2, x3, x4, x5, x6, x7, x8, x9, x10⟩ := e
  simp only [Ent.val, Ent.cells, Option.getD_some, Option.isSome_some, if_true] at hlk HBOX HC hB1 ⊢
  have HB1 := Lib.hid hB1
  clear hB1
  go_enter Tryz.func62, Tryz.ntmps62
  go_wp2_with fail
  refine (HC.out _).mono ?_
  rintro x w1 ⟨rfl, hb1⟩
  have HB2 := Lib.hid (HB1.out.trans (hb1.mono HB1.out.size))
  clear hb1 HB1
  cases ok
  · go_wp2_with fail
    go_ret2
    exact ⟨rfl, HB2.out⟩
  · go_wp2_with fail
    refine (HP.out _).mono ?_
    rintro x w2 ⟨rfl, hb2⟩
    go_wp2_with fail
    go_ret2
    exact ⟨rfl, HB2.out.trans (hb2.mono HB2.out.size)⟩

theorem zeroPutM (w : World) : (zeroValue 42).run Tryz.prog w = .ok .nilFunc w := by kernel_rfl

set_option maxRecDepth 100000 in
set_option maxHeartbeats 2000000 in
theorem putM_any (v : Nat) (hv : v = 1 ∨ v = 2) (M : Nat) (l : List (Int × Value)) (fn : FuncId) (hent : ∀ (args : Array Value) (W : World), (callFunc fn args).run Tryz.prog W = .ok (.enter fn args) W) (hl : l.lookup (v : Int) = some (.func (.func fn) #[] #[])) (m : Msg) (sv : Value) (s : List UInt8) (hs : s.length ≤ 1048576) (ok : Bool) (w : World) (hsv : ∃ a n c, sv = .slice a n c)
    (hcall : ∀ W, Below w.heap.size w W → Calls Tryz.prog fn #[(.agg (m.cells sv))] W fun x w' => x = .returned (.tuple #[.string ⟨s.toArray⟩, .bool ok]) ∧ Below W.heap.size W w') (hM : w.heap[M]? = some (imap .i64 l)) :
    Calls Tryz.prog 63 #[.int .i64 v, (.agg (m.cells sv)), .map (some M)] w fun x w' => x = .returned (.tuple #[.string (if ok then ⟨(packL v s).toArray⟩ else ⟨#[]⟩), .bool ok]) ∧ Below w.heap.size w w' := by
  obtain ⟨qa, qn, qc, rfl⟩ := hsv
  have hlk := run_look (w.alloc (.cells (m.cells (.slice qa qn qc)) MsgT)) Tryz.underlying112 Tryz.underlying3 l M ((Below.heap_alloc _ _ _ (heap_lt hM)).trans hM) (v : Int) .nilFunc (zeroPutM _) true
  rw [hl] at hlk
  have HP := Lib.hid (fun W => pack_any v hv s hs W)
  have HBOX := Lib.hid (heap_alloc_new w (.cells (m.cells (.slice qa qn qc)) MsgT))
  have HC := Lib.hid hcall
  have hB1 := (Below.refl w.heap.size w).alloc (Nat.le_refl _) (.cells (m.cells (.slice qa qn qc)) MsgT)
  clear hcall hM hl
  generalize packL v s = p at *
  obtain ⟨x0, x1, x2, x3, x4, x5, x6, x7, x8, x10, x9⟩ := m
  simp only [Msg.cells, Option.getD_some, Option.isSome_some, if_true] at hlk HBOX HC hB1 ⊢
  have HB1 := Lib.hid hB1
  clear hB1
  go_enter Tryz.func63, Tryz.ntmps63
  go_wp2_with fail
  refine (HC.out _ HB1.out).mono ?_
  rintro x w1 ⟨rfl, hb1⟩
  have HB2 := Lib.hid (HB1.out.trans (hb1.mono HB1.out.size))
  clear hb1 HB1
  cases ok
  · go_wp2_with fail
    go_ret2
    exact ⟨rfl, HB2.out⟩
  · go_wp2_with fail
    refine (HP.out _).mono ?_
    rintro x w2 ⟨rfl, hb2⟩
    go_wp2_with fail
    go_ret2
    exact ⟨rfl, HB2.out.trans (hb2.mono HB2.out.size)⟩

end Go.Proofs.YtbjbgdnjcppjhaaGreatDoor

/-
  frame.PutEntry, PutMsg, GetEntry, GetMsg over this translation, by what the version's codec does. Conditions: as each theorem says. (Printed by wip/genframe.py.) By an AI agent.
-/
namespace Go.Proofs.YtbjbgdnjcppjhaaGreatDoor
open Go.RowKit
set_option linter.unusedVariables false
set_option linter.unusedSimpArgs false

theorem results_cell_row_tmp2 {P : Program} {fn : Func} {p u u2 : Tmp} {ty : TypeId} (h : fn.results = #[.cell p ty, .tmp u, .tmp u2]) (tmps : Array Value) (w : World) (g : Nat) (t : TypeId) (cs : Array Value) (fr : Nat × Nat) (d : TypeDesc)
    (hp : tmps.getD p undef = .pointer (some ⟨g, 0, none⟩)) (hg : w.heap[g]? = some (.cells cs t fr))
    (hu : P.underlying ty = some d) (hd : (match d with | .struct _ | .array _ _ => true | _ => false) = true) (hi : (P.info? ty).map (·.size) = some cs.size) :
    (results fn tmps).run P w = .ok (.tuple #[.agg cs, tmps.getD u undef, tmps.getD u2 undef]) w := by
  have hp' : tmps[p]?.getD undef = .pointer (some ⟨g, 0, none⟩) := by simpa using hp
  have hl := run_loadVar_row w g t ty cs fr d hg hu hd hi
  simp [results, h, hp', asAddr, hl, Sem.run_bind, Result.andThen]

set_option maxRecDepth 100000 in
set_option maxHeartbeats 2000000 in
theorem frPutE_any (v : Nat) (hv : v = 1 ∨ v = 2) (fn : FuncId) (hent : ∀ (args : Array Value) (W : World), (callFunc fn args).run Tryz.prog W = .ok (.enter fn args) W) (hl : ([(1, .func (.func 19) #[] #[]), (2, .func (.func 7) #[] #[])] : List (Int × Value)).lookup (v : Int) = some (.func (.func fn) #[] #[])) (e : Ent) (s : List UInt8) (hs : s.length ≤ 1048576) (ok : Bool) (w : World)
    (hcall' : ∀ W, Calls Tryz.prog fn #[e.val] W fun x w' => x = .returned (.tuple #[.string ⟨s.toArray⟩, .bool ok]) ∧ Below W.heap.size W w') :
    Calls Tryz.prog 30 #[.int .i64 v, e.val] w fun x w' => x = .returned (.tuple #[.string (if ok then ⟨(packL v s).toArray⟩ else ⟨#[]⟩), .bool ok]) ∧ Below w.heap.size w w' := by
  have hB1 := (Below.refl w.heap.size w).alloc (Nat.le_refl _) (.cells e.cells EntT)
  have hmk : (Instr.makeMap 109 none).run Tryz.prog (w.alloc (.cells e.cells EntT)) = .ok (.map (some (w.heap.size + 1))) ((w.alloc (.cells e.cells EntT)).alloc (imap .i64 [])) := by
    have := mk_imap (P := Tryz.prog) 109 .i64 (w.alloc (.cells e.cells EntT))
    rwa [World.size_alloc] at this
  have hi1 : ∀ y, (Instr.mapUpdate 109 (.map (some (w.heap.size + 1))) (.int .i64 1) y).run Tryz.prog ((w.alloc (.cells e.cells EntT)).alloc (imap .i64 [])) = .ok () ((w.alloc (.cells e.cells EntT)).alloc (imap .i64 [(1, y)])) := fun y => by
    have := run_insert_new (w.alloc (.cells e.cells EntT)) Tryz.underlying109 Tryz.underlying3 [] 1 y rfl
    rwa [World.size_alloc] at this
  have hi2 : ∀ u y, (Instr.mapUpdate 109 (.map (some (w.heap.size + 1))) (.int .i64 2) y).run Tryz.prog ((w.alloc (.cells e.cells EntT)).alloc (imap .i64 [(1, u)])) = .ok () ((w.alloc (.cells e.cells EntT)).alloc (imap .i64 [(1, u), (2, y)])) := fun u y => by
    have := run_insert_new (w.alloc (.cells e.cells EntT)) Tryz.underlying109 Tryz.underlying3 [(1, u)] 2 y rfl
    rwa [World.size_alloc] at this
  have hB2 : Below w.heap.size w ((w.alloc (.cells e.cells EntT)).alloc (imap .i64 [(1, .func (.func 19) #[] #[]), (2, .func (.func 7) #[] #[])])) := hB1.trans (((Below.refl _ _).alloc (Nat.le_refl _) _).mono hB1.size)
  have hM : ((w.alloc (.cells e.cells EntT)).alloc (imap .i64 [(1, .func (.func 19) #[] #[]), (2, .func (.func 7) #[] #[])])).heap[w.heap.size + 1]? = some (imap .i64 [(1, .func (.func 19) #[] #[]), (2, .func (.func 7) #[] #[])]) := by
    have := heap_alloc_new (w.alloc (.cells e.cells EntT)) (imap .i64 [(1, .func (.func 19) #[] #[]), (2, .func (.func 7) #[] #[])])
    rwa [World.size_alloc] at this
  have hput := putE_any v hv (w.heap.size + 1) [(1, .func (.func 19) #[] #[]), (2, .func (.func 7) #[] #[])] fn hent hl e s hs ok ((w.alloc (.cells e.cells EntT)).alloc (imap .i64 [(1, .func (.func 19) #[] #[]), (2, .func (.func 7) #[] #[])])) (fun W => hcall' W) hM
  generalize (if ok = true then (⟨(packL v s).toArray⟩ : ByteArray) else ⟨#[]⟩) = ans at *
  have HPUT := Lib.hid hput
  have HB2 := Lib.hid hB2
  clear hput hB2 hM hcall' hB1 hl
  obtain ⟨x0, x1, x2, x3, x4, x5, x6, x7, x8, x9, x10⟩ := e
  simp only [Ent.val, Ent.cells] at hmk hi1 hi2 HPUT HB2 ⊢
  go_enter Tryz.func30, Tryz.ntmps30
  go_wp2_with fail
  refine HPUT.out.mono ?_
  rintro x w1 ⟨rfl, hb1⟩
  go_wp2_with fail
  go_ret2
  exact ⟨rfl, HB2.out.trans (hb1.mono HB2.out.size)⟩

set_option maxRecDepth 100000 in
set_option maxHeartbeats 2000000 in
theorem frPutM_any (v : Nat) (hv : v = 1 ∨ v = 2) (fn : FuncId) (hent : ∀ (args : Array Value) (W : World), (callFunc fn args).run Tryz.prog W = .ok (.enter fn args) W) (hl : ([(1, .func (.func 24) #[] #[]), (2, .func (.func 12) #[] #[])] : List (Int × Value)).lookup (v : Int) = some (.func (.func fn) #[] #[])) (m : Msg) (sv : Value) (s : List UInt8) (hs : s.length ≤ 1048576) (ok : Bool) (w : World) (hsv : ∃ a n c, sv = .slice a n c)
    (hcall : ∀ W, Below w.heap.size w W → Calls Tryz.prog fn #[(.agg (m.cells sv))] W fun x w' => x = .returned (.tuple #[.string ⟨s.toArray⟩, .bool ok]) ∧ Below W.heap.size W w') :
    Calls Tryz.prog 32 #[.int .i64 v, (.agg (m.cells sv))] w fun x w' => x = .returned (.tuple #[.string (if ok then ⟨(packL v s).toArray⟩ else ⟨#[]⟩), .bool ok]) ∧ Below w.heap.size w w' := by
  obtain ⟨qa, qn, qc, rfl⟩ := hsv
  have hB1 := (Below.refl w.heap.size w).alloc (Nat.le_refl _) (.cells (m.cells (.slice qa qn qc)) MsgT)
  have hmk : (Instr.makeMap 112 none).run Tryz.prog (w.alloc (.cells (m.cells (.slice qa qn qc)) MsgT)) = .ok (.map (some (w.heap.size + 1))) ((w.alloc (.cells (m.cells (.slice qa qn qc)) MsgT)).alloc (imap .i64 [])) := by
    have := mk_imap (P := Tryz.prog) 112 .i64 (w.alloc (.cells (m.cells (.slice qa qn qc)) MsgT))
    rwa [World.size_alloc] at this
  have hi1 : ∀ y, (Instr.mapUpdate 112 (.map (some (w.heap.size + 1))) (.int .i64 1) y).run Tryz.prog ((w.alloc (.cells (m.cells (.slice qa qn qc)) MsgT)).alloc (imap .i64 [])) = .ok () ((w.alloc (.cells (m.cells (.slice qa qn qc)) MsgT)).alloc (imap .i64 [(1, y)])) := fun y => by
    have := run_insert_new (w.alloc (.cells (m.cells (.slice qa qn qc)) MsgT)) Tryz.underlying112 Tryz.underlying3 [] 1 y rfl
    rwa [World.size_alloc] at this
  have hi2 : ∀ u y, (Instr.mapUpdate 112 (.map (some (w.heap.size + 1))) (.int .i64 2) y).run Tryz.prog ((w.alloc (.cells (m.cells (.slice qa qn qc)) MsgT)).alloc (imap .i64 [(1, u)])) = .ok () ((w.alloc (.cells (m.cells (.slice qa qn qc)) MsgT)).alloc (imap .i64 [(1, u), (2, y)])) := fun u y => by
    have := run_insert_new (w.alloc (.cells (m.cells (.slice qa qn qc)) MsgT)) Tryz.underlying112 Tryz.underlying3 [(1, u)] 2 y rfl
    rwa [World.size_alloc] at this
  have hB2 : Below w.heap.size w ((w.alloc (.cells (m.cells (.slice qa qn qc)) MsgT)).alloc (imap .i64 [(1, .func (.func 24) #[] #[]), (2, .func (.func 12) #[] #[])])) := hB1.trans (((Below.refl _ _).alloc (Nat.le_refl _) _).mono hB1.size)
  have hM : ((w.alloc (.cells (m.cells (.slice qa qn qc)) MsgT)).alloc (imap .i64 [(1, .func (.func 24) #[] #[]), (2, .func (.func 12) #[] #[])])).heap[w.heap.size + 1]? = some (imap .i64 [(1, .func (.func 24) #[] #[]), (2, .func (.func 12) #[] #[])]) := by
    have := heap_alloc_new (w.alloc (.cells (m.cells (.slice qa qn qc)) MsgT)) (imap .i64 [(1, .func (.func 24) #[] #[]), (2, .func (.func 12) #[] #[])])
    rwa [World.size_alloc] at this
  have hput := putM_any v hv (w.heap.size + 1) [(1, .func (.func 24) #[] #[]), (2, .func (.func 12) #[] #[])] fn hent hl m (.slice qa qn qc) s hs ok ((w.alloc (.cells (m.cells (.slice qa qn qc)) MsgT)).alloc (imap .i64 [(1, .func (.func 24) #[] #[]), (2, .func (.func 12) #[] #[])])) ⟨qa, qn, qc, rfl⟩ (fun W hW => hcall W (hB2.trans (hW.mono hB2.size))) hM
  generalize (if ok = true then (⟨(packL v s).toArray⟩ : ByteArray) else ⟨#[]⟩) = ans at *
  have HPUT := Lib.hid hput
  have HB2 := Lib.hid hB2
  clear hput hB2 hM hcall hB1 hl
  obtain ⟨x0, x1, x2, x3, x4, x5, x6, x7, x8, x10, x9⟩ := m
  simp only [Msg.cells] at hmk hi1 hi2 HPUT HB2 ⊢
  go_enter Tryz.func32, Tryz.ntmps32
  go_wp2_with fail
  refine HPUT.out.mono ?_
  rintro x w1 ⟨rfl, hb1⟩
  go_wp2_with fail
  go_ret2
  exact ⟨rfl, HB2.out.trans (hb1.mono HB2.out.size)⟩

theorem zeroGetE (w : World) : (zeroValue 40).run Tryz.prog w = .ok .nilFunc w := by kernel_rfl

set_option maxRecDepth 100000 in
set_option maxHeartbeats 4000000 in
theorem frGetE_any (v : Nat) (hv : v = 1 ∨ v = 2) (fn : FuncId) (hent : ∀ (args : Array Value) (W : World), (callFunc fn args).run Tryz.prog W = .ok (.enter fn args) W) (hl : ([(1, .func (.func 22) #[] #[]), (2, .func (.func 10) #[] #[])] : List (Int × Value)).lookup (v : Int) = some (.func (.func fn) #[] #[])) (e : Ent) (body : List UInt8) (hb : body.length ≤ 1048576) (w : World)
    (hcall : ∀ b W, RdAt W b (body, false) → Calls Tryz.prog fn #[.pointer (some ⟨b, 0, none⟩)] W fun x w' => x = .returned e.val ∧ RdAt w' b ([], false) ∧ But b W w') :
    Calls Tryz.prog 31 #[.string ⟨(packL v body).toArray⟩] w fun x w' => x = .returned (.tuple #[e.val, .int .i64 v, .bool true]) ∧ Below w.heap.size w w' := by
  have HU := Lib.hid (fun W => unpack_back v hv body hb W)
  have HC := Lib.hid hcall
  have HZ := Lib.hid (heap_alloc_new w (.cells Ent.zero.cells EntT))
  have HA := Lib.hid ((Below.refl w.heap.size w).alloc (Nat.le_refl _) (.cells Ent.zero.cells EntT))
  generalize packL v body = s at *
  clear hcall
  obtain ⟨x0, x1, x2, x3, x4, x5, x6, x7, x8, x9, x10⟩ := e
  simp only [Ent.val, Ent.cells, Ent.zero] at HC HZ HA ⊢
  go_enter Tryz.func31, Tryz.ntmps31
  go_wp2_with fail
  refine (HU.out _).mono ?_
  rintro x w1 ⟨rfl, hb1⟩
  have HZ1 := Lib.hid ((hb1.block w.heap.size (by simp)).trans HZ.out)
  have HB1 := Lib.hid (HA.out.trans (hb1.mono HA.out.size))
  have hsz1 := heap_lt HZ1.out
  clear hb1 HZ HA HU
  have hmk := mk_imap (P := Tryz.prog) 110 .i64 w1
  have hi1 : ∀ y, (Instr.mapUpdate 110 (.map (some w1.heap.size)) (.int .i64 1) y).run Tryz.prog (w1.alloc (imap .i64 [])) = .ok () (w1.alloc (imap .i64 [(1, y)])) := fun y => run_insert_new w1 Tryz.underlying110 Tryz.underlying3 [] 1 y rfl
  have hi2 : ∀ u y, (Instr.mapUpdate 110 (.map (some w1.heap.size)) (.int .i64 2) y).run Tryz.prog (w1.alloc (imap .i64 [(1, u)])) = .ok () (w1.alloc (imap .i64 [(1, u), (2, y)])) := fun u y => run_insert_new w1 Tryz.underlying110 Tryz.underlying3 [(1, u)] 2 y rfl
  have ha1 := (Below.refl w1.heap.size w1).alloc (Nat.le_refl _) (imap .i64 [(1, .func (.func 22) #[] #[]), (2, .func (.func 10) #[] #[])])
  go_wp2_with fail
  refine (new_any body _).mono ?_
  rintro x w2 ⟨rfl, h2, hb2, hs2⟩
  simp only [World.size_alloc] at h2 hs2
  have hM := (hb2.block w1.heap.size (by simp)).trans (heap_alloc_new w1 (imap .i64 [(1, .func (.func 22) #[] #[]), (2, .func (.func 10) #[] #[])]))
  have H2 := Lib.hid h2
  have HB2 := Lib.hid (HB1.out.trans ((ha1.trans (hb2.mono ha1.size)).mono (Nat.le_of_lt hsz1)))
  have HZ2 := Lib.hid (((hb2.block w.heap.size (by simp; omega)).trans (ha1.block w.heap.size hsz1)).trans HZ1.out)
  have hlk := run_look w2 Tryz.underlying110 Tryz.underlying3 [(1, .func (.func 22) #[] #[]), (2, .func (.func 10) #[] #[])] w1.heap.size hM (v : Int) .nilFunc (zeroGetE _) false
  rw [hl] at hlk
  simp only [Option.getD_some, Bool.false_eq_true, if_false] at hlk
  clear h2 hb2 ha1 hmk hi1 hi2 HB1 HZ1 hM hl
  generalize hbd : w1.heap.size + 1 = b at *
  go_wp2_with fail
  refine (HC.out _ _ H2.out).mono ?_
  rintro x w3 ⟨rfl, h3, hb3⟩
  have H3 := Lib.hid h3
  have HZ3 := Lib.hid ((hb3.block w.heap.size (heap_lt HZ2.out) (fun h => by have := Option.some.inj h; omega)).trans HZ2.out)
  have HB3 := Lib.hid (HB2.out.trans (⟨hb3.os, hb3.tape, hb3.output, hb3.size, fun k hk => hb3.block k (Nat.lt_of_lt_of_le hk HB2.out.size) (fun h => by have := Option.some.inj h; omega)⟩ : Below w.heap.size w2 w3))
  clear h3 hb3 HZ2 HB2 H2 hlk HC
  have z0 : w3.cell? ⟨w.heap.size, 0, none⟩ = some (.int .u64 0) := Lib.cell_of_heap HZ3.out 0
  have z1 : w3.cell? ⟨w.heap.size, 1, none⟩ = some (.int .u64 0) := Lib.cell_of_heap HZ3.out 1
  have z2 : w3.cell? ⟨w.heap.size, 2, none⟩ = some (.int .i64 0) := Lib.cell_of_heap HZ3.out 2
  have z3 : w3.cell? ⟨w.heap.size, 3, none⟩ = some (.int .u64 0) := Lib.cell_of_heap HZ3.out 3
  have z4 : w3.cell? ⟨w.heap.size, 4, none⟩ = some (.int .u64 0) := Lib.cell_of_heap HZ3.out 4
  have z5 : w3.cell? ⟨w.heap.size, 5, none⟩ = some (.int .u64 0) := Lib.cell_of_heap HZ3.out 5
  have z6 : w3.cell? ⟨w.heap.size, 6, none⟩ = some (.int .u64 0) := Lib.cell_of_heap HZ3.out 6
  have z7 : w3.cell? ⟨w.heap.size, 7, none⟩ = some (.int .i64 0) := Lib.cell_of_heap HZ3.out 7
  have z8 : w3.cell? ⟨w.heap.size, 8, none⟩ = some (.int .i64 0) := Lib.cell_of_heap HZ3.out 8
  have z9 : w3.cell? ⟨w.heap.size, 9, none⟩ = some (.string ⟨#[]⟩) := Lib.cell_of_heap HZ3.out 9
  have z10 : w3.cell? ⟨w.heap.size, 10, none⟩ = some (.string ⟨#[]⟩) := Lib.cell_of_heap HZ3.out 10
  have fz : ∀ o, w3.frozen? ⟨w.heap.size, o, none⟩ = false := fun o => Lib.frozen_of_heap HZ3.out o
  go_wp2_with fail
  have hE : (((((((((((w3.setCell ⟨w.heap.size, 0, none⟩ (.int .u64 x0)).setCell ⟨w.heap.size, 1, none⟩ (.int .u64 x1)).setCell ⟨w.heap.size, 2, none⟩ (.int .i64 x2)).setCell ⟨w.heap.size, 3, none⟩ (.int .u64 x3)).setCell ⟨w.heap.size, 4, none⟩ (.int .u64 x4)).setCell ⟨w.heap.size, 5, none⟩ (.int .u64 x5)).setCell ⟨w.heap.size, 6, none⟩ (.int .u64 x6)).setCell ⟨w.heap.size, 7, none⟩ (.int .i64 x7)).setCell ⟨w.heap.size, 8, none⟩ (.int .i64 x8)).setCell ⟨w.heap.size, 9, none⟩ (.string x9)).setCell ⟨w.heap.size, 10, none⟩ (.string x10)).heap[w.heap.size]? = some (.cells #[.int .u64 x0, .int .u64 x1, .int .i64 x2, .int .u64 x3, .int .u64 x4, .int .u64 x5, .int .u64 x6, .int .i64 x7, .int .i64 x8, .string x9, .string x10] EntT (0, 0)) := by
    have hz := HZ3.out
    simp [World.setCell, Array.getElem?_modify, hz]
  have hR : RdAt (((((((((((w3.setCell ⟨w.heap.size, 0, none⟩ (.int .u64 x0)).setCell ⟨w.heap.size, 1, none⟩ (.int .u64 x1)).setCell ⟨w.heap.size, 2, none⟩ (.int .i64 x2)).setCell ⟨w.heap.size, 3, none⟩ (.int .u64 x3)).setCell ⟨w.heap.size, 4, none⟩ (.int .u64 x4)).setCell ⟨w.heap.size, 5, none⟩ (.int .u64 x5)).setCell ⟨w.heap.size, 6, none⟩ (.int .u64 x6)).setCell ⟨w.heap.size, 7, none⟩ (.int .i64 x7)).setCell ⟨w.heap.size, 8, none⟩ (.int .i64 x8)).setCell ⟨w.heap.size, 9, none⟩ (.string x9)).setCell ⟨w.heap.size, 10, none⟩ (.string x10)) b ([], false) := by
    have hne : w.heap.size ≠ b := by omega
    have hr := H3.out
    unfold RdAt at hr ⊢
    simp [World.setCell, Array.getElem?_modify, hne, hr]
  have hB : Below w.heap.size w (((((((((((w3.setCell ⟨w.heap.size, 0, none⟩ (.int .u64 x0)).setCell ⟨w.heap.size, 1, none⟩ (.int .u64 x1)).setCell ⟨w.heap.size, 2, none⟩ (.int .i64 x2)).setCell ⟨w.heap.size, 3, none⟩ (.int .u64 x3)).setCell ⟨w.heap.size, 4, none⟩ (.int .u64 x4)).setCell ⟨w.heap.size, 5, none⟩ (.int .u64 x5)).setCell ⟨w.heap.size, 6, none⟩ (.int .u64 x6)).setCell ⟨w.heap.size, 7, none⟩ (.int .i64 x7)).setCell ⟨w.heap.size, 8, none⟩ (.int .i64 x8)).setCell ⟨w.heap.size, 9, none⟩ (.string x9)).setCell ⟨w.heap.size, 10, none⟩ (.string x10)) := by
    repeat' (first | with_reducible exact HB3.out | with_reducible exact Nat.le_refl _ | with_reducible refine Below.setCell ?_ ?_ _)
  have HE := Lib.hid hE
  have HR := Lib.hid hR
  have HB := Lib.hid hB
  clear hE hR hB z0 z1 z2 z3 z4 z5 z6 z7 z8 z9 z10 fz HZ3 H3 HB3
  generalize (((((((((((w3.setCell ⟨w.heap.size, 0, none⟩ (.int .u64 x0)).setCell ⟨w.heap.size, 1, none⟩ (.int .u64 x1)).setCell ⟨w.heap.size, 2, none⟩ (.int .i64 x2)).setCell ⟨w.heap.size, 3, none⟩ (.int .u64 x3)).setCell ⟨w.heap.size, 4, none⟩ (.int .u64 x4)).setCell ⟨w.heap.size, 5, none⟩ (.int .u64 x5)).setCell ⟨w.heap.size, 6, none⟩ (.int .u64 x6)).setCell ⟨w.heap.size, 7, none⟩ (.int .i64 x7)).setCell ⟨w.heap.size, 8, none⟩ (.int .i64 x8)).setCell ⟨w.heap.size, 9, none⟩ (.string x9)).setCell ⟨w.heap.size, 10, none⟩ (.string x10)) = w4 at *
  refine (ok_any _ ([], false) w4 HR.out).mono ?_
  rintro x w4a ⟨rfl, rfl⟩
  go_wp2_with fail
  refine (left_any _ ([], false) _ HR.out).mono ?_
  rintro x w4b ⟨rfl, rfl⟩
  have z0 : w4b.cell? ⟨w.heap.size, 0, none⟩ = some (.int .u64 x0) := Lib.cell_of_heap HE.out 0
  have z1 : w4b.cell? ⟨w.heap.size, 1, none⟩ = some (.int .u64 x1) := Lib.cell_of_heap HE.out 1
  have z2 : w4b.cell? ⟨w.heap.size, 2, none⟩ = some (.int .i64 x2) := Lib.cell_of_heap HE.out 2
  have z3 : w4b.cell? ⟨w.heap.size, 3, none⟩ = some (.int .u64 x3) := Lib.cell_of_heap HE.out 3
  have z4 : w4b.cell? ⟨w.heap.size, 4, none⟩ = some (.int .u64 x4) := Lib.cell_of_heap HE.out 4
  have z5 : w4b.cell? ⟨w.heap.size, 5, none⟩ = some (.int .u64 x5) := Lib.cell_of_heap HE.out 5
  have z6 : w4b.cell? ⟨w.heap.size, 6, none⟩ = some (.int .u64 x6) := Lib.cell_of_heap HE.out 6
  have z7 : w4b.cell? ⟨w.heap.size, 7, none⟩ = some (.int .i64 x7) := Lib.cell_of_heap HE.out 7
  have z8 : w4b.cell? ⟨w.heap.size, 8, none⟩ = some (.int .i64 x8) := Lib.cell_of_heap HE.out 8
  have z9 : w4b.cell? ⟨w.heap.size, 9, none⟩ = some (.string x9) := Lib.cell_of_heap HE.out 9
  have z10 : w4b.cell? ⟨w.heap.size, 10, none⟩ = some (.string x10) := Lib.cell_of_heap HE.out 10
  have fz : ∀ o, w4b.frozen? ⟨w.heap.size, o, none⟩ = false := fun o => Lib.frozen_of_heap HE.out o
  go_wp2_with fail
  have hz := HE.out
  refine bodyPost_ret (results_cell_row_tmp2 rfl _ _ w.heap.size EntT #[.int .u64 x0, .int .u64 x1, .int .i64 x2, .int .u64 x3, .int .u64 x4, .int .u64 x5, .int .u64 x6, .int .i64 x7, .int .i64 x8, .string x9, .string x10] (0, 0) _ rfl ?_ Tryz.underlying32 rfl (by kernel_rfl)) rfl ?_
  · simp [World.setCell, Array.getElem?_modify, hz]
  · refine ⟨rfl, ?_⟩
    repeat' (first | with_reducible exact HB.out | with_reducible exact Nat.le_refl _ | with_reducible refine Below.setCell ?_ ?_ _)

set_option maxRecDepth 100000 in
set_option maxHeartbeats 4000000 in
theorem frGetE_nil (w : World) :
    Calls Tryz.prog 31 #[.string ⟨#[]⟩] w fun x w' => x = .returned (.tuple #[Ent.zero.val, .int .i64 0, .bool false]) ∧ Below w.heap.size w w' := by
  have HZ := Lib.hid (heap_alloc_new w (.cells Ent.zero.cells EntT))
  have HA := Lib.hid ((Below.refl w.heap.size w).alloc (Nat.le_refl _) (.cells Ent.zero.cells EntT))
  simp only [Ent.val, Ent.cells, Ent.zero] at HZ HA ⊢
  go_enter Tryz.func31, Tryz.ntmps31
  go_wp2_with fail
  refine (unpack_nil _).mono ?_
  rintro x w1 ⟨rfl, hb1⟩
  have HZ1 := Lib.hid ((hb1.block w.heap.size (by simp)).trans HZ.out)
  have HB1 := Lib.hid (HA.out.trans (hb1.mono HA.out.size))
  clear hb1 HZ HA
  have z0 : w1.cell? ⟨w.heap.size, 0, none⟩ = some (.int .u64 0) := Lib.cell_of_heap HZ1.out 0
  have z1 : w1.cell? ⟨w.heap.size, 1, none⟩ = some (.int .u64 0) := Lib.cell_of_heap HZ1.out 1
  have z2 : w1.cell? ⟨w.heap.size, 2, none⟩ = some (.int .i64 0) := Lib.cell_of_heap HZ1.out 2
  have z3 : w1.cell? ⟨w.heap.size, 3, none⟩ = some (.int .u64 0) := Lib.cell_of_heap HZ1.out 3
  have z4 : w1.cell? ⟨w.heap.size, 4, none⟩ = some (.int .u64 0) := Lib.cell_of_heap HZ1.out 4
  have z5 : w1.cell? ⟨w.heap.size, 5, none⟩ = some (.int .u64 0) := Lib.cell_of_heap HZ1.out 5
  have z6 : w1.cell? ⟨w.heap.size, 6, none⟩ = some (.int .u64 0) := Lib.cell_of_heap HZ1.out 6
  have z7 : w1.cell? ⟨w.heap.size, 7, none⟩ = some (.int .i64 0) := Lib.cell_of_heap HZ1.out 7
  have z8 : w1.cell? ⟨w.heap.size, 8, none⟩ = some (.int .i64 0) := Lib.cell_of_heap HZ1.out 8
  have z9 : w1.cell? ⟨w.heap.size, 9, none⟩ = some (.string ⟨#[]⟩) := Lib.cell_of_heap HZ1.out 9
  have z10 : w1.cell? ⟨w.heap.size, 10, none⟩ = some (.string ⟨#[]⟩) := Lib.cell_of_heap HZ1.out 10
  have fz : ∀ o, w1.frozen? ⟨w.heap.size, o, none⟩ = false := fun o => Lib.frozen_of_heap HZ1.out o
  go_wp2_with fail
  have hz := HZ1.out
  refine bodyPost_ret (results_cell_row_tmp2 rfl _ _ w.heap.size EntT #[.int .u64 0, .int .u64 0, .int .i64 0, .int .u64 0, .int .u64 0, .int .u64 0, .int .u64 0, .int .i64 0, .int .i64 0, .string ⟨#[]⟩, .string ⟨#[]⟩] (0, 0) _ rfl ?_ Tryz.underlying32 rfl (by kernel_rfl)) rfl ?_
  · simp [World.setCell, Array.getElem?_modify, hz]
  · refine ⟨rfl, ?_⟩
    repeat' (first | with_reducible exact HB1.out | with_reducible exact Nat.le_refl _ | with_reducible refine Below.setCell ?_ ?_ _)

theorem zeroGetM (w : World) : (zeroValue 45).run Tryz.prog w = .ok .nilFunc w := by kernel_rfl
theorem entAt_keep {w w' : World} {b o : Nat} {e : Ent} (hb : w'.heap[b]? = w.heap[b]?) (h : EntAt w b o e) : EntAt w' b o e := by
  obtain ⟨c0, c1, c2, c3, c4, c5, c6, c7, c8, c9, c10⟩ := h
  have k : ∀ q v, w.cell? ⟨b, q, none⟩ = some v → w'.cell? ⟨b, q, none⟩ = some v := fun q v h => (World.cell?_of_block (w := w) (a := ⟨b, q, none⟩) hb).trans h
  exact ⟨k _ _ c0, k _ _ c1, k _ _ c2, k _ _ c3, k _ _ c4, k _ _ c5, k _ _ c6, k _ _ c7, k _ _ c8, k _ _ c9, k _ _ c10⟩
/-- no entry lies in a message's own block -/
theorem entsAt_but {w w' : World} {z : Nat} {cs : Array Value} {t : TypeId} {fr : Nat × Nat} {k : Int} {s : Value} {l : List Ent} (hz : w.heap[z]? = some (.cells cs t fr)) (hsz : cs.size = 11) (h0 : cs[0]? = some (.int .i64 k)) (hbut : ∀ j, j ≠ z → w'.heap[j]? = w.heap[j]?) (hsize : w.heap.size ≤ w'.heap.size) (h : EntsAt w s l) : EntsAt w' s l := by
  obtain ⟨a, c, h1, h2, h3, h4⟩ := h
  refine ⟨a, c, h1, h2, h3, fun hne => ?_⟩
  obtain ⟨B, o, h5, h6, h7⟩ := h4 hne
  refine ⟨B, o, h5, Nat.lt_of_lt_of_le h6 hsize, fun i hi => ?_⟩
  have he := h7 i hi
  by_cases hB : B = z
  · exfalso
    subst hB
    obtain ⟨c0, _, _, _, _, _, _, _, _, _, c10⟩ := he
    rw [Lib.cell_of_heap hz] at c0 c10
    have hlt := (Array.getElem?_eq_some_iff.1 c10).1
    have ho : o + i * 11 = 0 := by omega
    rw [ho, h0] at c0
    cases c0
  · exact entAt_keep (hbut B hB) he

set_option maxRecDepth 100000 in
set_option maxHeartbeats 4000000 in
theorem frGetM_any (v : Nat) (hv : v = 1 ∨ v = 2) (fn : FuncId) (hent : ∀ (args : Array Value) (W : World), (callFunc fn args).run Tryz.prog W = .ok (.enter fn args) W) (hl : ([(1, .func (.func 26) #[] #[]), (2, .func (.func 14) #[] #[])] : List (Int × Value)).lookup (v : Int) = some (.func (.func fn) #[] #[])) (m : Msg) (body : List UInt8) (hb : body.length ≤ 1048576) (w : World)
    (hcall : ∀ W, Calls Tryz.prog fn #[.string ⟨body.toArray⟩] W fun x w' => ∃ sv, x = .returned (.tuple #[.agg (m.cells sv), .bool true]) ∧ EntsAt w' sv m.entries ∧ Below W.heap.size W w') :
    Calls Tryz.prog 33 #[.string ⟨(packL v body).toArray⟩] w fun x w' => ∃ sv, x = .returned (.tuple #[.agg (m.cells sv), .int .i64 v, .bool true]) ∧ EntsAt w' sv m.entries ∧ Below w.heap.size w w' := by
  have HU := Lib.hid (fun W => unpack_back v hv body hb W)
  have HC := Lib.hid hcall
  have HZ := Lib.hid (heap_alloc_new w (.cells #[.int .i64 0, .int .i64 0, .int .i64 0, .int .u64 0, .int .u64 0, .int .u64 0, .int .u64 0, .int .u64 0, .bool false, .slice none 0 0, .string ⟨#[]⟩] MsgT))
  have HA := Lib.hid ((Below.refl w.heap.size w).alloc (Nat.le_refl _) (.cells #[.int .i64 0, .int .i64 0, .int .i64 0, .int .u64 0, .int .u64 0, .int .u64 0, .int .u64 0, .int .u64 0, .bool false, .slice none 0 0, .string ⟨#[]⟩] MsgT))
  generalize packL v body = s at *
  clear hcall
  obtain ⟨x0, x1, x2, x3, x4, x5, x6, x7, x8, x10, x9⟩ := m
  simp only [Msg.cells] at HC ⊢
  go_enter Tryz.func33, Tryz.ntmps33
  go_wp2_with fail
  refine (HU.out _).mono ?_
  rintro x w1 ⟨rfl, hb1⟩
  have HZ1 := Lib.hid ((hb1.block w.heap.size (by simp)).trans HZ.out)
  have HB1 := Lib.hid (HA.out.trans (hb1.mono HA.out.size))
  have hsz1 := heap_lt HZ1.out
  clear hb1 HZ HA HU
  have hmk := mk_imap (P := Tryz.prog) 113 .i64 w1
  have hi1 : ∀ y, (Instr.mapUpdate 113 (.map (some w1.heap.size)) (.int .i64 1) y).run Tryz.prog (w1.alloc (imap .i64 [])) = .ok () (w1.alloc (imap .i64 [(1, y)])) := fun y => run_insert_new w1 Tryz.underlying113 Tryz.underlying3 [] 1 y rfl
  have hi2 : ∀ u y, (Instr.mapUpdate 113 (.map (some w1.heap.size)) (.int .i64 2) y).run Tryz.prog (w1.alloc (imap .i64 [(1, u)])) = .ok () (w1.alloc (imap .i64 [(1, u), (2, y)])) := fun u y => run_insert_new w1 Tryz.underlying113 Tryz.underlying3 [(1, u)] 2 y rfl
  have ha1 := (Below.refl w1.heap.size w1).alloc (Nat.le_refl _) (imap .i64 [(1, .func (.func 26) #[] #[]), (2, .func (.func 14) #[] #[])])
  have hlk := run_look (w1.alloc (imap .i64 [(1, .func (.func 26) #[] #[]), (2, .func (.func 14) #[] #[])])) Tryz.underlying113 Tryz.underlying3 [(1, .func (.func 26) #[] #[]), (2, .func (.func 14) #[] #[])] w1.heap.size (heap_alloc_new w1 _) (v : Int) .nilFunc (zeroGetM _) false
  rw [hl] at hlk
  simp only [Option.getD_some, Bool.false_eq_true, if_false] at hlk
  have HB2 := Lib.hid (HB1.out.trans (ha1.mono (Nat.le_of_lt hsz1)))
  have HZ2 := Lib.hid ((ha1.block w.heap.size hsz1).trans HZ1.out)
  clear ha1 HB1 HZ1 hl
  go_wp2_with fail
  refine (HC.out _).mono ?_
  rintro x w3 ⟨sv, rfl, he, hb3⟩
  obtain ⟨va, vc, rfl, -⟩ := id he
  have HE3 := Lib.hid he
  have HZ3 := Lib.hid ((hb3.block w.heap.size (heap_lt HZ2.out)).trans HZ2.out)
  have HB3 := Lib.hid (HB2.out.trans (hb3.mono HB2.out.size))
  clear he hb3 HZ2 HB2 hlk HC hmk hi1 hi2
  have z0 : w3.cell? ⟨w.heap.size, 0, none⟩ = some (.int .i64 0) := Lib.cell_of_heap HZ3.out 0
  have z1 : w3.cell? ⟨w.heap.size, 1, none⟩ = some (.int .i64 0) := Lib.cell_of_heap HZ3.out 1
  have z2 : w3.cell? ⟨w.heap.size, 2, none⟩ = some (.int .i64 0) := Lib.cell_of_heap HZ3.out 2
  have z3 : w3.cell? ⟨w.heap.size, 3, none⟩ = some (.int .u64 0) := Lib.cell_of_heap HZ3.out 3
  have z4 : w3.cell? ⟨w.heap.size, 4, none⟩ = some (.int .u64 0) := Lib.cell_of_heap HZ3.out 4
  have z5 : w3.cell? ⟨w.heap.size, 5, none⟩ = some (.int .u64 0) := Lib.cell_of_heap HZ3.out 5
  have z6 : w3.cell? ⟨w.heap.size, 6, none⟩ = some (.int .u64 0) := Lib.cell_of_heap HZ3.out 6
  have z7 : w3.cell? ⟨w.heap.size, 7, none⟩ = some (.int .u64 0) := Lib.cell_of_heap HZ3.out 7
  have z8 : w3.cell? ⟨w.heap.size, 8, none⟩ = some (.bool false) := Lib.cell_of_heap HZ3.out 8
  have z9 : w3.cell? ⟨w.heap.size, 9, none⟩ = some (.slice none 0 0) := Lib.cell_of_heap HZ3.out 9
  have z10 : w3.cell? ⟨w.heap.size, 10, none⟩ = some (.string ⟨#[]⟩) := Lib.cell_of_heap HZ3.out 10
  have fz : ∀ o, w3.frozen? ⟨w.heap.size, o, none⟩ = false := fun o => Lib.frozen_of_heap HZ3.out o
  go_wp2_with fail
  have hE : (((((((((((w3.setCell ⟨w.heap.size, 0, none⟩ (.int .i64 x0)).setCell ⟨w.heap.size, 1, none⟩ (.int .i64 x1)).setCell ⟨w.heap.size, 2, none⟩ (.int .i64 x2)).setCell ⟨w.heap.size, 3, none⟩ (.int .u64 x3)).setCell ⟨w.heap.size, 4, none⟩ (.int .u64 x4)).setCell ⟨w.heap.size, 5, none⟩ (.int .u64 x5)).setCell ⟨w.heap.size, 6, none⟩ (.int .u64 x6)).setCell ⟨w.heap.size, 7, none⟩ (.int .u64 x7)).setCell ⟨w.heap.size, 8, none⟩ (.bool x8)).setCell ⟨w.heap.size, 9, none⟩ (.slice va x9.length vc)).setCell ⟨w.heap.size, 10, none⟩ (.string x10)).heap[w.heap.size]? = some (.cells #[.int .i64 x0, .int .i64 x1, .int .i64 x2, .int .u64 x3, .int .u64 x4, .int .u64 x5, .int .u64 x6, .int .u64 x7, .bool x8, .slice va x9.length vc, .string x10] MsgT (0, 0)) := by
    have hz := HZ3.out
    simp [World.setCell, Array.getElem?_modify, hz]
  have hR : EntsAt (((((((((((w3.setCell ⟨w.heap.size, 0, none⟩ (.int .i64 x0)).setCell ⟨w.heap.size, 1, none⟩ (.int .i64 x1)).setCell ⟨w.heap.size, 2, none⟩ (.int .i64 x2)).setCell ⟨w.heap.size, 3, none⟩ (.int .u64 x3)).setCell ⟨w.heap.size, 4, none⟩ (.int .u64 x4)).setCell ⟨w.heap.size, 5, none⟩ (.int .u64 x5)).setCell ⟨w.heap.size, 6, none⟩ (.int .u64 x6)).setCell ⟨w.heap.size, 7, none⟩ (.int .u64 x7)).setCell ⟨w.heap.size, 8, none⟩ (.bool x8)).setCell ⟨w.heap.size, 9, none⟩ (.slice va x9.length vc)).setCell ⟨w.heap.size, 10, none⟩ (.string x10)) (.slice va x9.length vc) x9 := entsAt_but HZ3.out rfl rfl (fun j hj => by simp [World.setCell, Array.getElem?_modify, Ne.symm hj]) (by simp [World.setCell]) HE3.out
  have hB : Below w.heap.size w (((((((((((w3.setCell ⟨w.heap.size, 0, none⟩ (.int .i64 x0)).setCell ⟨w.heap.size, 1, none⟩ (.int .i64 x1)).setCell ⟨w.heap.size, 2, none⟩ (.int .i64 x2)).setCell ⟨w.heap.size, 3, none⟩ (.int .u64 x3)).setCell ⟨w.heap.size, 4, none⟩ (.int .u64 x4)).setCell ⟨w.heap.size, 5, none⟩ (.int .u64 x5)).setCell ⟨w.heap.size, 6, none⟩ (.int .u64 x6)).setCell ⟨w.heap.size, 7, none⟩ (.int .u64 x7)).setCell ⟨w.heap.size, 8, none⟩ (.bool x8)).setCell ⟨w.heap.size, 9, none⟩ (.slice va x9.length vc)).setCell ⟨w.heap.size, 10, none⟩ (.string x10)) := by
    repeat' (first | with_reducible exact HB3.out | with_reducible exact Nat.le_refl _ | with_reducible refine Below.setCell ?_ ?_ _)
  have HE := Lib.hid hE
  have HR := Lib.hid hR
  have HB := Lib.hid hB
  clear hE hR hB z0 z1 z2 z3 z4 z5 z6 z7 z8 z9 z10 fz HZ3 HE3 HB3
  generalize (((((((((((w3.setCell ⟨w.heap.size, 0, none⟩ (.int .i64 x0)).setCell ⟨w.heap.size, 1, none⟩ (.int .i64 x1)).setCell ⟨w.heap.size, 2, none⟩ (.int .i64 x2)).setCell ⟨w.heap.size, 3, none⟩ (.int .u64 x3)).setCell ⟨w.heap.size, 4, none⟩ (.int .u64 x4)).setCell ⟨w.heap.size, 5, none⟩ (.int .u64 x5)).setCell ⟨w.heap.size, 6, none⟩ (.int .u64 x6)).setCell ⟨w.heap.size, 7, none⟩ (.int .u64 x7)).setCell ⟨w.heap.size, 8, none⟩ (.bool x8)).setCell ⟨w.heap.size, 9, none⟩ (.slice va x9.length vc)).setCell ⟨w.heap.size, 10, none⟩ (.string x10)) = w4 at *
  have z0 : w4.cell? ⟨w.heap.size, 0, none⟩ = some (.int .i64 x0) := Lib.cell_of_heap HE.out 0
  have z1 : w4.cell? ⟨w.heap.size, 1, none⟩ = some (.int .i64 x1) := Lib.cell_of_heap HE.out 1
  have z2 : w4.cell? ⟨w.heap.size, 2, none⟩ = some (.int .i64 x2) := Lib.cell_of_heap HE.out 2
  have z3 : w4.cell? ⟨w.heap.size, 3, none⟩ = some (.int .u64 x3) := Lib.cell_of_heap HE.out 3
  have z4 : w4.cell? ⟨w.heap.size, 4, none⟩ = some (.int .u64 x4) := Lib.cell_of_heap HE.out 4
  have z5 : w4.cell? ⟨w.heap.size, 5, none⟩ = some (.int .u64 x5) := Lib.cell_of_heap HE.out 5
  have z6 : w4.cell? ⟨w.heap.size, 6, none⟩ = some (.int .u64 x6) := Lib.cell_of_heap HE.out 6
  have z7 : w4.cell? ⟨w.heap.size, 7, none⟩ = some (.int .u64 x7) := Lib.cell_of_heap HE.out 7
  have z8 : w4.cell? ⟨w.heap.size, 8, none⟩ = some (.bool x8) := Lib.cell_of_heap HE.out 8
  have z9 : w4.cell? ⟨w.heap.size, 9, none⟩ = some (.slice va x9.length vc) := Lib.cell_of_heap HE.out 9
  have z10 : w4.cell? ⟨w.heap.size, 10, none⟩ = some (.string x10) := Lib.cell_of_heap HE.out 10
  have fz : ∀ o, w4.frozen? ⟨w.heap.size, o, none⟩ = false := fun o => Lib.frozen_of_heap HE.out o
  go_wp2_with fail
  have hz := HE.out
  refine bodyPost_ret (results_cell_row_tmp2 rfl _ _ w.heap.size MsgT #[.int .i64 x0, .int .i64 x1, .int .i64 x2, .int .u64 x3, .int .u64 x4, .int .u64 x5, .int .u64 x6, .int .u64 x7, .bool x8, .slice va x9.length vc, .string x10] (0, 0) _ rfl ?_ Tryz.underlying26 rfl (by kernel_rfl)) rfl ?_
  · simp [World.setCell, Array.getElem?_modify, hz]
  · refine ⟨_, rfl, entsAt_but HE.out rfl rfl (fun j hj => by simp [World.setCell, Array.getElem?_modify, Ne.symm hj]) (by simp [World.setCell]) HR.out, ?_⟩
    repeat' (first | with_reducible exact HB.out | with_reducible exact Nat.le_refl _ | with_reducible refine Below.setCell ?_ ?_ _)

set_option maxRecDepth 100000 in
set_option maxHeartbeats 4000000 in
theorem frGetM_nil (w : World) :
    Calls Tryz.prog 33 #[.string ⟨#[]⟩] w fun x w' => x = .returned (.tuple #[.agg #[.int .i64 0, .int .i64 0, .int .i64 0, .int .u64 0, .int .u64 0, .int .u64 0, .int .u64 0, .int .u64 0, .bool false, .slice none 0 0, .string ⟨#[]⟩], .int .i64 0, .bool false]) ∧ Below w.heap.size w w' := by
  have HZ := Lib.hid (heap_alloc_new w (.cells #[.int .i64 0, .int .i64 0, .int .i64 0, .int .u64 0, .int .u64 0, .int .u64 0, .int .u64 0, .int .u64 0, .bool false, .slice none 0 0, .string ⟨#[]⟩] MsgT))
  have HA := Lib.hid ((Below.refl w.heap.size w).alloc (Nat.le_refl _) (.cells #[.int .i64 0, .int .i64 0, .int .i64 0, .int .u64 0, .int .u64 0, .int .u64 0, .int .u64 0, .int .u64 0, .bool false, .slice none 0 0, .string ⟨#[]⟩] MsgT))
  go_enter Tryz.func33, Tryz.ntmps33
  go_wp2_with fail
  refine (unpack_nil _).mono ?_
  rintro x w1 ⟨rfl, hb1⟩
  have HZ1 := Lib.hid ((hb1.block w.heap.size (by simp)).trans HZ.out)
  have HB1 := Lib.hid (HA.out.trans (hb1.mono HA.out.size))
  clear hb1 HZ HA
  have z0 : w1.cell? ⟨w.heap.size, 0, none⟩ = some (.int .i64 0) := Lib.cell_of_heap HZ1.out 0
  have z1 : w1.cell? ⟨w.heap.size, 1, none⟩ = some (.int .i64 0) := Lib.cell_of_heap HZ1.out 1
  have z2 : w1.cell? ⟨w.heap.size, 2, none⟩ = some (.int .i64 0) := Lib.cell_of_heap HZ1.out 2
  have z3 : w1.cell? ⟨w.heap.size, 3, none⟩ = some (.int .u64 0) := Lib.cell_of_heap HZ1.out 3
  have z4 : w1.cell? ⟨w.heap.size, 4, none⟩ = some (.int .u64 0) := Lib.cell_of_heap HZ1.out 4
  have z5 : w1.cell? ⟨w.heap.size, 5, none⟩ = some (.int .u64 0) := Lib.cell_of_heap HZ1.out 5
  have z6 : w1.cell? ⟨w.heap.size, 6, none⟩ = some (.int .u64 0) := Lib.cell_of_heap HZ1.out 6
  have z7 : w1.cell? ⟨w.heap.size, 7, none⟩ = some (.int .u64 0) := Lib.cell_of_heap HZ1.out 7
  have z8 : w1.cell? ⟨w.heap.size, 8, none⟩ = some (.bool false) := Lib.cell_of_heap HZ1.out 8
  have z9 : w1.cell? ⟨w.heap.size, 9, none⟩ = some (.slice none 0 0) := Lib.cell_of_heap HZ1.out 9
  have z10 : w1.cell? ⟨w.heap.size, 10, none⟩ = some (.string ⟨#[]⟩) := Lib.cell_of_heap HZ1.out 10
  have fz : ∀ o, w1.frozen? ⟨w.heap.size, o, none⟩ = false := fun o => Lib.frozen_of_heap HZ1.out o
  go_wp2_with fail
  have hz := HZ1.out
  refine bodyPost_ret (results_cell_row_tmp2 rfl _ _ w.heap.size MsgT #[.int .i64 0, .int .i64 0, .int .i64 0, .int .u64 0, .int .u64 0, .int .u64 0, .int .u64 0, .int .u64 0, .bool false, .slice none 0 0, .string ⟨#[]⟩] (0, 0) _ rfl ?_ Tryz.underlying26 rfl (by kernel_rfl)) rfl ?_
  · simp [World.setCell, Array.getElem?_modify, hz]
  · refine ⟨rfl, ?_⟩
    repeat' (first | with_reducible exact HB1.out | with_reducible exact Nat.le_refl _ | with_reducible refine Below.setCell ?_ ?_ _)

end Go.Proofs.YtbjbgdnjcppjhaaGreatDoor

/-
  frame.Shim over this translation; first.PutMsg of a message that is not right. Conditions: as each theorem says. (Printed by wip/genshim.py.) By an AI agent.
-/
namespace Go.Proofs.YtbjbgdnjcppjhaaGreatDoor
open Go.RowKit
set_option linter.unusedVariables false
set_option linter.unusedSimpArgs false

set_option maxRecDepth 100000 in
set_option maxHeartbeats 2000000 in
theorem firstPutMsg_bad (m : Msg) (hwf : ∀ e ∈ m.entries, e.wf) (hn : m.entries.length ≤ 64) (hr : msgRightB m = false) (sv : Value) (w : World) (hs : EntsAt w sv m.entries) :
    Calls Tryz.prog 24 #[.agg (m.cells sv)] w fun x w' => x = .returned (.tuple #[.string ⟨#[]⟩, .bool false]) ∧ Below w.heap.size w w' := by
  have hright := fun W hW => msgRight_any m sv hwf (by omega) W hW
  rw [hr] at hright
  clear hwf hr hn
  obtain ⟨x0, x1, x2, x3, x4, x5, x6, x7, x8, x10, x9⟩ := m
  simp only [Msg.cells] at hright hs ⊢
  obtain ⟨va, vc, rfl, -⟩ := id hs
  have HR := Lib.hid hright
  have HS := Lib.hid hs
  clear hright hs
  go_enter Tryz.func24, Tryz.ntmps24
  go_wp2_with fail
  have ha := (Below.refl w.heap.size w).alloc (Nat.le_refl _) (.cells #[.int .i64 x0, .int .i64 x1, .int .i64 x2, .int .u64 x3, .int .u64 x4, .int .u64 x5, .int .u64 x6, .int .u64 x7, .bool x8, .slice va x9.length vc, .string x10] MsgT)
  refine (HR.out _ (HS.out.below ha)).mono ?_
  rintro x w1 ⟨rfl, hb1⟩
  have HB1 := Lib.hid (ha.trans (hb1.mono (by simp)) : Below w.heap.size w w1)
  clear hb1 HR ha
  go_wp2_with fail
  go_ret2
  exact ⟨rfl, HB1.out⟩

/-- what Shim answers -/
def shimM (m : Msg) : Msg := if m.kind = 9 then ⟨5, m.frm, m.to, m.term, 0, 0, 0, m.mark, false, ⟨#[]⟩, []⟩ else if m.kind = 10 then ⟨6, m.frm, m.to, m.term, 0, 0, 0, m.mark, true, ⟨#[]⟩, []⟩ else if msgLevelI m = 2 then Msg.none else m
def shimB (m : Msg) : Bool := if m.kind = 9 then true else if m.kind = 10 then true else !decide (msgLevelI m = 2)

set_option maxRecDepth 100000 in
set_option maxHeartbeats 4000000 in
theorem shim_any (m : Msg) (hwf : ∀ e ∈ m.entries, e.wf) (hn : m.entries.length ≤ 64) (hr : msgRightB m = true) (sv : Value) (w : World) (hs : EntsAt w sv m.entries) :
    Calls Tryz.prog 34 #[.agg (m.cells sv)] w fun x w' => ∃ sv', x = .returned (.tuple #[.agg ((shimM m).cells sv'), .bool (shimB m)]) ∧ EntsAt w' sv' (shimM m).entries ∧ Below w.heap.size w w' := by
  have hright := fun W hW => msgRight_any m sv hwf (by omega) W hW
  have hlevel := fun W hW => msgLevel_any m sv (by omega) W hW
  have hlv := level_two m
  have hS : shimM m = if m.kind = 9 then ⟨5, m.frm, m.to, m.term, 0, 0, 0, m.mark, false, ⟨#[]⟩, []⟩ else if m.kind = 10 then ⟨6, m.frm, m.to, m.term, 0, 0, 0, m.mark, true, ⟨#[]⟩, []⟩ else if msgLevelI m = 2 then Msg.none else m := rfl
  have hSB : shimB m = if m.kind = 9 then true else if m.kind = 10 then true else !decide (msgLevelI m = 2) := rfl
  rw [hr] at hright
  generalize shimM m = M at *
  generalize shimB m = B at *
  generalize hlvd : msgLevelI m = lv at *
  clear hwf hr hn hlvd
  obtain ⟨x0, x1, x2, x3, x4, x5, x6, x7, x8, x10, x9⟩ := m
  simp only [Msg.cells] at hright hlevel hs hS hSB ⊢
  obtain ⟨va, vc, rfl, -⟩ := id hs
  have HR := Lib.hid hright
  have HL := Lib.hid hlevel
  have HS := Lib.hid hs
  have HD := Lib.hid hS
  have HDB := Lib.hid hSB
  have HX := Lib.hid (heap_alloc_new w (.cells #[.int .i64 x0, .int .i64 x1, .int .i64 x2, .int .u64 x3, .int .u64 x4, .int .u64 x5, .int .u64 x6, .int .u64 x7, .bool x8, .slice va x9.length vc, .string x10] MsgT))
  have HA := Lib.hid ((Below.refl w.heap.size w).alloc (Nat.le_refl _) (.cells #[.int .i64 x0, .int .i64 x1, .int .i64 x2, .int .u64 x3, .int .u64 x4, .int .u64 x5, .int .u64 x6, .int .u64 x7, .bool x8, .slice va x9.length vc, .string x10] MsgT))
  clear hright hlevel hs hS hSB
  go_enter Tryz.func34, Tryz.ntmps34
  go_wp2_with fail
  have ha2 := HA.out.trans (((Below.refl (w.alloc (.cells #[.int .i64 x0, .int .i64 x1, .int .i64 x2, .int .u64 x3, .int .u64 x4, .int .u64 x5, .int .u64 x6, .int .u64 x7, .bool x8, .slice va x9.length vc, .string x10] MsgT)).heap.size (w.alloc (.cells #[.int .i64 x0, .int .i64 x1, .int .i64 x2, .int .u64 x3, .int .u64 x4, .int .u64 x5, .int .u64 x6, .int .u64 x7, .bool x8, .slice va x9.length vc, .string x10] MsgT))).alloc (Nat.le_refl _) (.cells #[.int .i64 0, .int .i64 0, .int .i64 0, .int .u64 0, .int .u64 0, .int .u64 0, .int .u64 0, .int .u64 0, .bool false, .slice none 0 0, .string ⟨#[]⟩] MsgT)).mono HA.out.size)
  have hz0 := heap_alloc_new (w.alloc (.cells #[.int .i64 x0, .int .i64 x1, .int .i64 x2, .int .u64 x3, .int .u64 x4, .int .u64 x5, .int .u64 x6, .int .u64 x7, .bool x8, .slice va x9.length vc, .string x10] MsgT)) (.cells #[.int .i64 0, .int .i64 0, .int .i64 0, .int .u64 0, .int .u64 0, .int .u64 0, .int .u64 0, .int .u64 0, .bool false, .slice none 0 0, .string ⟨#[]⟩] MsgT)
  rw [World.size_alloc] at hz0
  refine (HR.out _ (HS.out.below ha2)).mono ?_
  rintro x w1 ⟨rfl, hb1⟩
  have HX1 := Lib.hid ((hb1.block w.heap.size (by simp; omega)).trans ((Below.heap_alloc _ _ _ (by simp)).trans HX.out))
  have HZ1 := Lib.hid ((hb1.block (w.heap.size + 1) (by simp)).trans hz0)
  have HB1 := Lib.hid (ha2.trans (hb1.mono ha2.size))
  have HS1 := Lib.hid ((HS.out.below ha2).below hb1)
  clear hb1 ha2 hz0 HX HA HS HR
  have c0 : w1.cell? ⟨w.heap.size, 0, none⟩ = some (.int .i64 x0) := Lib.cell_of_heap HX1.out 0
  have c1 : w1.cell? ⟨w.heap.size, 1, none⟩ = some (.int .i64 x1) := Lib.cell_of_heap HX1.out 1
  have c2 : w1.cell? ⟨w.heap.size, 2, none⟩ = some (.int .i64 x2) := Lib.cell_of_heap HX1.out 2
  have c3 : w1.cell? ⟨w.heap.size, 3, none⟩ = some (.int .u64 x3) := Lib.cell_of_heap HX1.out 3
  have c4 : w1.cell? ⟨w.heap.size, 4, none⟩ = some (.int .u64 x4) := Lib.cell_of_heap HX1.out 4
  have c5 : w1.cell? ⟨w.heap.size, 5, none⟩ = some (.int .u64 x5) := Lib.cell_of_heap HX1.out 5
  have c6 : w1.cell? ⟨w.heap.size, 6, none⟩ = some (.int .u64 x6) := Lib.cell_of_heap HX1.out 6
  have c7 : w1.cell? ⟨w.heap.size, 7, none⟩ = some (.int .u64 x7) := Lib.cell_of_heap HX1.out 7
  have c8 : w1.cell? ⟨w.heap.size, 8, none⟩ = some (.bool x8) := Lib.cell_of_heap HX1.out 8
  have c9 : w1.cell? ⟨w.heap.size, 9, none⟩ = some (.slice va x9.length vc) := Lib.cell_of_heap HX1.out 9
  have c10 : w1.cell? ⟨w.heap.size, 10, none⟩ = some (.string x10) := Lib.cell_of_heap HX1.out 10
  have z0 : w1.cell? ⟨w.heap.size + 1, 0, none⟩ = some (.int .i64 0) := Lib.cell_of_heap HZ1.out 0
  have z1 : w1.cell? ⟨w.heap.size + 1, 1, none⟩ = some (.int .i64 0) := Lib.cell_of_heap HZ1.out 1
  have z2 : w1.cell? ⟨w.heap.size + 1, 2, none⟩ = some (.int .i64 0) := Lib.cell_of_heap HZ1.out 2
  have z3 : w1.cell? ⟨w.heap.size + 1, 3, none⟩ = some (.int .u64 0) := Lib.cell_of_heap HZ1.out 3
  have z4 : w1.cell? ⟨w.heap.size + 1, 4, none⟩ = some (.int .u64 0) := Lib.cell_of_heap HZ1.out 4
  have z5 : w1.cell? ⟨w.heap.size + 1, 5, none⟩ = some (.int .u64 0) := Lib.cell_of_heap HZ1.out 5
  have z6 : w1.cell? ⟨w.heap.size + 1, 6, none⟩ = some (.int .u64 0) := Lib.cell_of_heap HZ1.out 6
  have z7 : w1.cell? ⟨w.heap.size + 1, 7, none⟩ = some (.int .u64 0) := Lib.cell_of_heap HZ1.out 7
  have z8 : w1.cell? ⟨w.heap.size + 1, 8, none⟩ = some (.bool false) := Lib.cell_of_heap HZ1.out 8
  have z9 : w1.cell? ⟨w.heap.size + 1, 9, none⟩ = some (.slice none 0 0) := Lib.cell_of_heap HZ1.out 9
  have z10 : w1.cell? ⟨w.heap.size + 1, 10, none⟩ = some (.string ⟨#[]⟩) := Lib.cell_of_heap HZ1.out 10
  have fzz : ∀ o, w1.frozen? ⟨w.heap.size + 1, o, none⟩ = false := fun o => Lib.frozen_of_heap HZ1.out o
  have hs1 := HB1.out.size
  have hlt1 := heap_lt HZ1.out
  have hbl1 : ∀ o : Obj, Below w1.heap.size w1 (w1.alloc o) := fun o => (Below.refl _ _).alloc (Nat.le_refl _) o
  have fza : ∀ o q, (w1.alloc o).frozen? ⟨w.heap.size + 1, q, none⟩ = false := fun o q => ((hbl1 o).frozen (p := ⟨w.heap.size + 1, q, none⟩) hlt1).trans (fzz q)
  have ca0 : ∀ o, (w1.alloc o).cell? ⟨w.heap.size, 0, none⟩ = some (.int .i64 x0) := fun o => cell_al c0 o
  have ca1 : ∀ o, (w1.alloc o).cell? ⟨w.heap.size, 1, none⟩ = some (.int .i64 x1) := fun o => cell_al c1 o
  have ca2 : ∀ o, (w1.alloc o).cell? ⟨w.heap.size, 2, none⟩ = some (.int .i64 x2) := fun o => cell_al c2 o
  have ca3 : ∀ o, (w1.alloc o).cell? ⟨w.heap.size, 3, none⟩ = some (.int .u64 x3) := fun o => cell_al c3 o
  have ca4 : ∀ o, (w1.alloc o).cell? ⟨w.heap.size, 4, none⟩ = some (.int .u64 x4) := fun o => cell_al c4 o
  have ca5 : ∀ o, (w1.alloc o).cell? ⟨w.heap.size, 5, none⟩ = some (.int .u64 x5) := fun o => cell_al c5 o
  have ca6 : ∀ o, (w1.alloc o).cell? ⟨w.heap.size, 6, none⟩ = some (.int .u64 x6) := fun o => cell_al c6 o
  have ca7 : ∀ o, (w1.alloc o).cell? ⟨w.heap.size, 7, none⟩ = some (.int .u64 x7) := fun o => cell_al c7 o
  have ca8 : ∀ o, (w1.alloc o).cell? ⟨w.heap.size, 8, none⟩ = some (.bool x8) := fun o => cell_al c8 o
  have ca9 : ∀ o, (w1.alloc o).cell? ⟨w.heap.size, 9, none⟩ = some (.slice va x9.length vc) := fun o => cell_al c9 o
  have ca10 : ∀ o, (w1.alloc o).cell? ⟨w.heap.size, 10, none⟩ = some (.string x10) := fun o => cell_al c10 o
  have za0 : ∀ o, (w1.alloc o).cell? ⟨w.heap.size + 1, 0, none⟩ = some (.int .i64 0) := fun o => cell_al z0 o
  have za1 : ∀ o, (w1.alloc o).cell? ⟨w.heap.size + 1, 1, none⟩ = some (.int .i64 0) := fun o => cell_al z1 o
  have za2 : ∀ o, (w1.alloc o).cell? ⟨w.heap.size + 1, 2, none⟩ = some (.int .i64 0) := fun o => cell_al z2 o
  have za3 : ∀ o, (w1.alloc o).cell? ⟨w.heap.size + 1, 3, none⟩ = some (.int .u64 0) := fun o => cell_al z3 o
  have za4 : ∀ o, (w1.alloc o).cell? ⟨w.heap.size + 1, 4, none⟩ = some (.int .u64 0) := fun o => cell_al z4 o
  have za5 : ∀ o, (w1.alloc o).cell? ⟨w.heap.size + 1, 5, none⟩ = some (.int .u64 0) := fun o => cell_al z5 o
  have za6 : ∀ o, (w1.alloc o).cell? ⟨w.heap.size + 1, 6, none⟩ = some (.int .u64 0) := fun o => cell_al z6 o
  have za7 : ∀ o, (w1.alloc o).cell? ⟨w.heap.size + 1, 7, none⟩ = some (.int .u64 0) := fun o => cell_al z7 o
  have za8 : ∀ o, (w1.alloc o).cell? ⟨w.heap.size + 1, 8, none⟩ = some (.bool false) := fun o => cell_al z8 o
  have za9 : ∀ o, (w1.alloc o).cell? ⟨w.heap.size + 1, 9, none⟩ = some (.slice none 0 0) := fun o => cell_al z9 o
  have za10 : ∀ o, (w1.alloc o).cell? ⟨w.heap.size + 1, 10, none⟩ = some (.string ⟨#[]⟩) := fun o => cell_al z10 o
  by_cases h9 : x0 = 9
  · subst h9
    have HM := Lib.hid (HD.out.trans (if_pos rfl))
    have HMB := Lib.hid (HDB.out.trans (if_pos rfl))
    clear HD HDB HL
    go_wp2_with fail
    have hz := HZ1.out
    refine bodyPost_ret (results_cell_row_tmp rfl _ _ (w.heap.size + 1) MsgT #[.int .i64 5, .int .i64 x1, .int .i64 x2, .int .u64 x3, .int .u64 0, .int .u64 0, .int .u64 0, .int .u64 x7, .bool false, .slice none 0 0, .string ⟨#[]⟩] (0, 0) _ rfl ?_ Tryz.underlying26 rfl (by kernel_rfl)) rfl ?_
    · rw [Below.heap_alloc _ _ _ (by simp [World.setCell]; exact hlt1)]
      simp [World.setCell, Array.getElem?_modify, hz]
    · rw [HM.out, HMB.out]
      refine ⟨_, rfl, entsAt_nil _, ?_⟩
      refine Below.alloc ?_ (by simp [World.setCell]; omega) _
      repeat' (first | with_reducible exact HB1.out | with_reducible exact Nat.le_refl _ | with_reducible exact Nat.le_succ _ | with_reducible refine Below.setCell ?_ ?_ _)
  · by_cases h10 : x0 = 10
    · subst h10
      have HM := Lib.hid (HD.out.trans ((if_neg (by decide)).trans (if_pos rfl)))
      have HMB := Lib.hid (HDB.out.trans ((if_neg (by decide)).trans (if_pos rfl)))
      clear HD HDB HL
      go_wp2_with fail
      have hz := HZ1.out
      refine bodyPost_ret (results_cell_row_tmp rfl _ _ (w.heap.size + 1) MsgT #[.int .i64 6, .int .i64 x1, .int .i64 x2, .int .u64 x3, .int .u64 0, .int .u64 0, .int .u64 0, .int .u64 x7, .bool true, .slice none 0 0, .string ⟨#[]⟩] (0, 0) _ rfl ?_ Tryz.underlying26 rfl (by kernel_rfl)) rfl ?_
      · rw [Below.heap_alloc _ _ _ (by simp [World.setCell]; exact hlt1)]
        simp [World.setCell, Array.getElem?_modify, hz]
      · rw [HM.out, HMB.out]
        refine ⟨_, rfl, entsAt_nil _, ?_⟩
        refine Below.alloc ?_ (by simp [World.setCell]; omega) _
        repeat' (first | with_reducible exact HB1.out | with_reducible exact Nat.le_refl _ | with_reducible exact Nat.le_succ _ | with_reducible refine Below.setCell ?_ ?_ _)
    · have hq9 : (x0 == 9) = false := beq_eq_false_iff_ne.2 h9
      have hq10 : (x0 == 10) = false := beq_eq_false_iff_ne.2 h10
      have HD2 := Lib.hid (HD.out.trans ((if_neg h9).trans (if_neg h10)))
      have HDB2 := Lib.hid (HDB.out.trans ((if_neg h9).trans (if_neg h10)))
      clear HD HDB
      go_wp2_with fail
      refine (HL.out _ (HS1.out.below (hbl1 _))).mono ?_
      rintro x w2 ⟨rfl, hb2⟩
      have HB2 := Lib.hid ((HB1.out.trans ((hbl1 (.cells #[.int .i64 0, .int .i64 x1, .int .i64 x2, .int .u64 x3, .int .u64 0, .int .u64 0, .int .u64 0, .int .u64 x7, .bool false, .slice none 0 0, .string ⟨#[]⟩] MsgT)).mono hs1)).trans (hb2.mono (HB1.out.trans ((hbl1 (.cells #[.int .i64 0, .int .i64 x1, .int .i64 x2, .int .u64 x3, .int .u64 0, .int .u64 0, .int .u64 0, .int .u64 x7, .bool false, .slice none 0 0, .string ⟨#[]⟩] MsgT)).mono hs1)).size))
      have HZ2 := Lib.hid ((hb2.block (w.heap.size + 1) (by simp; omega)).trans (((hbl1 (.cells #[.int .i64 0, .int .i64 x1, .int .i64 x2, .int .u64 x3, .int .u64 0, .int .u64 0, .int .u64 0, .int .u64 x7, .bool false, .slice none 0 0, .string ⟨#[]⟩] MsgT)).block _ hlt1).trans HZ1.out))
      have HX2 := Lib.hid ((hb2.block w.heap.size (by simp; omega)).trans (((hbl1 (.cells #[.int .i64 0, .int .i64 x1, .int .i64 x2, .int .u64 x3, .int .u64 0, .int .u64 0, .int .u64 0, .int .u64 x7, .bool false, .slice none 0 0, .string ⟨#[]⟩] MsgT)).block _ (by omega)).trans HX1.out))
      have HS2 := Lib.hid ((HS1.out.below (hbl1 (.cells #[.int .i64 0, .int .i64 x1, .int .i64 x2, .int .u64 x3, .int .u64 0, .int .u64 0, .int .u64 0, .int .u64 x7, .bool false, .slice none 0 0, .string ⟨#[]⟩] MsgT))).below hb2)
      clear hb2 HB1 HZ1 HX1 HS1 hbl1 fza fzz hq9 hq10 HL c0 z0 ca0 za0 c1 z1 ca1 za1 c2 z2 ca2 za2 c3 z3 ca3 za3 c4 z4 ca4 za4 c5 z5 ca5 za5 c6 z6 ca6 za6 c7 z7 ca7 za7 c8 z8 ca8 za8 c9 z9 ca9 za9 c10 z10 ca10 za10
      have c0 : w2.cell? ⟨w.heap.size, 0, none⟩ = some (.int .i64 x0) := Lib.cell_of_heap HX2.out 0
      have c1 : w2.cell? ⟨w.heap.size, 1, none⟩ = some (.int .i64 x1) := Lib.cell_of_heap HX2.out 1
      have c2 : w2.cell? ⟨w.heap.size, 2, none⟩ = some (.int .i64 x2) := Lib.cell_of_heap HX2.out 2
      have c3 : w2.cell? ⟨w.heap.size, 3, none⟩ = some (.int .u64 x3) := Lib.cell_of_heap HX2.out 3
      have c4 : w2.cell? ⟨w.heap.size, 4, none⟩ = some (.int .u64 x4) := Lib.cell_of_heap HX2.out 4
      have c5 : w2.cell? ⟨w.heap.size, 5, none⟩ = some (.int .u64 x5) := Lib.cell_of_heap HX2.out 5
      have c6 : w2.cell? ⟨w.heap.size, 6, none⟩ = some (.int .u64 x6) := Lib.cell_of_heap HX2.out 6
      have c7 : w2.cell? ⟨w.heap.size, 7, none⟩ = some (.int .u64 x7) := Lib.cell_of_heap HX2.out 7
      have c8 : w2.cell? ⟨w.heap.size, 8, none⟩ = some (.bool x8) := Lib.cell_of_heap HX2.out 8
      have c9 : w2.cell? ⟨w.heap.size, 9, none⟩ = some (.slice va x9.length vc) := Lib.cell_of_heap HX2.out 9
      have c10 : w2.cell? ⟨w.heap.size, 10, none⟩ = some (.string x10) := Lib.cell_of_heap HX2.out 10
      have z0 : w2.cell? ⟨w.heap.size + 1, 0, none⟩ = some (.int .i64 0) := Lib.cell_of_heap HZ2.out 0
      have z1 : w2.cell? ⟨w.heap.size + 1, 1, none⟩ = some (.int .i64 0) := Lib.cell_of_heap HZ2.out 1
      have z2 : w2.cell? ⟨w.heap.size + 1, 2, none⟩ = some (.int .i64 0) := Lib.cell_of_heap HZ2.out 2
      have z3 : w2.cell? ⟨w.heap.size + 1, 3, none⟩ = some (.int .u64 0) := Lib.cell_of_heap HZ2.out 3
      have z4 : w2.cell? ⟨w.heap.size + 1, 4, none⟩ = some (.int .u64 0) := Lib.cell_of_heap HZ2.out 4
      have z5 : w2.cell? ⟨w.heap.size + 1, 5, none⟩ = some (.int .u64 0) := Lib.cell_of_heap HZ2.out 5
      have z6 : w2.cell? ⟨w.heap.size + 1, 6, none⟩ = some (.int .u64 0) := Lib.cell_of_heap HZ2.out 6
      have z7 : w2.cell? ⟨w.heap.size + 1, 7, none⟩ = some (.int .u64 0) := Lib.cell_of_heap HZ2.out 7
      have z8 : w2.cell? ⟨w.heap.size + 1, 8, none⟩ = some (.bool false) := Lib.cell_of_heap HZ2.out 8
      have z9 : w2.cell? ⟨w.heap.size + 1, 9, none⟩ = some (.slice none 0 0) := Lib.cell_of_heap HZ2.out 9
      have z10 : w2.cell? ⟨w.heap.size + 1, 10, none⟩ = some (.string ⟨#[]⟩) := Lib.cell_of_heap HZ2.out 10
      have fzz : ∀ o, w2.frozen? ⟨w.heap.size + 1, o, none⟩ = false := fun o => Lib.frozen_of_heap HZ2.out o
      rcases hlv with rfl | rfl
      · have HM := Lib.hid (HD2.out.trans (if_neg (by decide)))
        have HMB := Lib.hid (HDB2.out.trans rfl : B = true)
        clear HD2 HDB2
        go_wp2_with fail
        have hz := HZ2.out
        refine bodyPost_ret (results_cell_row_tmp rfl _ _ (w.heap.size + 1) MsgT #[.int .i64 x0, .int .i64 x1, .int .i64 x2, .int .u64 x3, .int .u64 x4, .int .u64 x5, .int .u64 x6, .int .u64 x7, .bool x8, .slice va x9.length vc, .string x10] (0, 0) _ rfl ?_ Tryz.underlying26 rfl (by kernel_rfl)) rfl ?_
        · simp [World.setCell, Array.getElem?_modify, hz]
        · rw [HM.out, HMB.out]
          refine ⟨_, rfl, entsAt_but HZ2.out rfl rfl (fun j hj => by simp [World.setCell, Array.getElem?_modify, Ne.symm hj]) (by simp [World.setCell]) HS2.out, ?_⟩
          repeat' (first | with_reducible exact HB2.out | with_reducible exact Nat.le_refl _ | with_reducible exact Nat.le_succ _ | with_reducible refine Below.setCell ?_ ?_ _)
      · have HM := Lib.hid (HD2.out.trans (if_pos rfl))
        have HMB := Lib.hid (HDB2.out.trans rfl : B = false)
        clear HD2 HDB2
        go_wp2_with fail
        have hz := HZ2.out
        refine bodyPost_ret (results_cell_row_tmp rfl _ _ (w.heap.size + 1) MsgT #[.int .i64 0, .int .i64 0, .int .i64 0, .int .u64 0, .int .u64 0, .int .u64 0, .int .u64 0, .int .u64 0, .bool false, .slice none 0 0, .string ⟨#[]⟩] (0, 0) _ rfl ?_ Tryz.underlying26 rfl (by kernel_rfl)) rfl ?_
        · simp [World.setCell, Array.getElem?_modify, hz]
        · rw [HM.out, HMB.out]
          refine ⟨_, rfl, entsAt_nil _, ?_⟩
          repeat' (first | with_reducible exact HB2.out | with_reducible exact Nat.le_refl _ | with_reducible exact Nat.le_succ _ | with_reducible refine Below.setCell ?_ ?_ _)

end Go.Proofs.YtbjbgdnjcppjhaaGreatDoor
