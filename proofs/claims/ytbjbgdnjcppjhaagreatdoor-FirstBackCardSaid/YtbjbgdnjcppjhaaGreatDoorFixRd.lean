/-
  varint's Reader.Fixed over this translation. Conditions: at most 8 bytes; at most 2^40 bytes are left. By an AI agent.
-/
import Derived.Test.YtbjbgdnjcppjhaaGreatDoorFixPut
namespace Go.Proofs.YtbjbgdnjcppjhaaGreatDoor
open Go.RowKit Go.Sort
set_option linter.unusedVariables false
set_option linter.unusedSimpArgs false

theorem unfix_snoc (d : List UInt8) (k : Nat) (h : k < d.length) : unfix (d.take (k + 1)) = unfix (d.take k) * 256 + (d.getD k 0).toNat := by
  unfold unfix
  rw [List.take_succ_eq_append_getElem h, List.foldl_append]
  simp [h]
theorem fix_step (m c : Nat) (hm : m < 72057594037927936) (hc : c < 256) : bits .or .u64 ((m : Int) * 256) (c : Int) = ((m * 256 + c : Nat) : Int) := by
  have e1 : (m : Int) * 256 = ((m * 256 : Nat) : Int) := by omega
  rw [e1, u64_or_nat _ _ (by omega) (by omega)]
  congr 1
  have := Nat.two_pow_add_eq_or_of_lt (show c < 2 ^ 8 by omega) m
  rw [show m * 256 = 2 ^ 8 * m by omega]
  exact this.symm
theorem rdBytes_size (n : Nat) (r : Rd) : (rdBytes n r).1.length ≤ n := by
  unfold rdBytes
  split
  · simp
  · simp
    omega

set_option maxRecDepth 100000 in
set_option maxHeartbeats 4000000 in
theorem fixedRd_any (b size : Nat) (r : Rd) (hs : size ≤ 8) (hl : r.1.length ≤ 1099511627776) (w : World) (h : RdAt w b r) :
    Calls Tryz.prog 54 #[.pointer (some ⟨b, 0, none⟩), .int .i64 size] w fun x w' => x = .returned (.int .u64 (rdFix size r).1) ∧ RdAt w' b (rdFix size r).2 ∧ But b w w' := by
  have HBY := Lib.hid (bytes_any b size r (by omega) (by omega) w h)
  have hres : rdFix size r = (unfix (rdBytes size r).1, (rdBytes size r).2) := rfl
  have hlen := rdBytes_size size r
  generalize rdBytes size r = y at *
  obtain ⟨d, r2⟩ := y
  have HRES := Lib.hid hres
  clear hres h
  simp only at hlen
  have hs2 : ¬ (8 : Int) < (size : Int) := by omega
  go_enter Tryz.func54, Tryz.ntmps54
  go_wp2_with fail
  refine HBY.out.mono ?_
  rintro x w1 ⟨rfl, h1, hb1⟩
  obtain ⟨c, W, hcv, hbW, hsW, hcell⟩ := conv_bytes ⟨d.toArray⟩ w1
  have hsz : (ByteArray.mk d.toArray).size = d.length := rfl
  have hdl : (ByteArray.mk d.toArray).data.toList = d := by simp
  rw [hsz] at hcv hcell
  rw [hdl] at hcell
  have HR := Lib.hid (h1.keep hbW)
  have HB := Lib.hid (hb1.trans (But.of hbW))
  have HCELL := Lib.hid hcell
  clear hcell hsz hdl h1 hb1
  go_wp2_with fail
  go_loopw [4, 6, 16] (fun n b6 i wr => ∃ (k : Nat), k ≤ d.length ∧ i = .int .i64 k ∧ n = .int .u64 (unfix (d.take k)) ∧ wr = W) (fun n b6 i _ => d.length - (intOf i).toNat)
  case atStart => exact ⟨0, Nat.zero_le _, rfl, rfl, rfl⟩
  case round =>
    obtain ⟨k, hk, rfl, rfl, rfl⟩ := hrel
    by_cases hlt : k < d.length
    · have hc := HCELL.out k hlt
      have hsn := unfix_snoc d k hlt
      have hm : unfix (d.take k) < 72057594037927936 := by
        have h1 := unfix_lt (d.take k)
        refine Nat.lt_of_lt_of_le h1 (Nat.le_trans (Nat.pow_le_pow_right (by decide) (show (d.take k).length ≤ 7 by rw [List.length_take]; omega)) (by decide))
      have hb := UInt8.toNat_lt (d.getD k 0)
      have hst := fix_step _ _ hm hb
      have HSN := Lib.hid hsn
      clear hsn
      generalize unfix (d.take k) = m at *
      generalize d.getD k 0 = e at *
      go_wp2_with fail
      go_roundw
      case rel => exact ⟨k + 1, by omega, by go_num, by rw [HSN.out]; exact congrArg (Value.int IntKind.u64) (by omega), by first | rfl | trivial⟩
      case measure => simp [intOf]; omega
    · have hke : k = d.length := by omega
      subst hke
      rw [List.take_length]
      go_wp2_with fail
      go_ret
      rw [HRES.out]
      exact ⟨rfl, HR.out, HB.out⟩

end Go.Proofs.YtbjbgdnjcppjhaaGreatDoor
