/-
  varint's Reader.Text over this translation. Condition: at most 2^40 bytes are left. By an AI agent.
-/
import Derived.Test.YtbjbgdnjcppjhaaGreatDoorVarPut
namespace Go.Proofs.YtbjbgdnjcppjhaaGreatDoor
open Go.RowKit Go.Sort
set_option linter.unusedVariables false
set_option linter.unusedSimpArgs false

set_option maxRecDepth 100000 in
set_option maxHeartbeats 2000000 in
theorem bytes_bad (b : Nat) (n : Int) (s : List UInt8) (w : World) (h : RdAt w b (s, true)) :
    Calls Tryz.prog 56 #[.pointer (some ⟨b, 0, none⟩), .int .i64 n] w fun x w' => x = .returned (.string ⟨#[]⟩) ∧ RdAt w' b rdFail ∧ But b w w' := by
  obtain ⟨c0, c1, f0⟩ := h.cell
  have HF := Lib.hid (fail_any b (s, true) w h)
  clear h
  go_enter Tryz.func56, Tryz.ntmps56
  go_wp2_with fail
  refine HF.out.mono ?_
  rintro x w1 ⟨rfl, h1, h2⟩
  go_wp2_with fail
  go_ret
  exact ⟨rfl, h1, h2⟩

theorem varAt_len : ∀ (f : Nat) (s : List UInt8) (i n m : Nat) (t : List UInt8), varAt f s i n = some (m, t) → t.length ≤ s.length := by
  intro f
  induction f with
  | zero => intro s i n m t h; cases h
  | succ f ih =>
    intro s i n m t h
    cases s with
    | nil => cases h
    | cons b r =>
      rw [varAt] at h
      split at h
      · have := ih _ _ _ _ _ h
        simp only [List.length_cons]; omega
      · split at h
        · cases h
        · cases h
          simp
theorem rdVar_len (r : Rd) : (rdVar r).2.1.length ≤ r.1.length := by
  unfold rdVar
  split
  · rename_i n s h
    exact varAt_len _ _ _ _ _ _ h
  · simp [rdFail]

set_option maxRecDepth 100000 in
set_option maxHeartbeats 4000000 in
theorem textRd_any (b : Nat) (r : Rd) (hl : r.1.length ≤ 1099511627776) (w : World) (h : RdAt w b r) :
    Calls Tryz.prog 107 #[.pointer (some ⟨b, 0, none⟩)] w fun x w' => x = .returned (.string ⟨(rdText r).1.toArray⟩) ∧ RdAt w' b (rdText r).2 ∧ But b w w' := by
  have HV := Lib.hid (fun W (hW : RdAt W b r) => var_any b r hl W hW)
  have hle := rdVar_len r
  have hres : rdText r = if (rdVar r).2.1.length < (rdVar r).1 then ([], rdFail) else rdBytes (rdVar r).1 (rdVar r).2 := rfl
  generalize rdVar r = x at *
  obtain ⟨n, s, bad⟩ := x
  simp only at hle hres
  have H := Lib.hid h
  have HRES := Lib.hid hres
  clear h hres
  go_enter Tryz.func107, Tryz.ntmps107
  go_wp2_with fail
  refine (HV.out _ H.out).mono ?_
  rintro x w1 ⟨rfl, h1, hb1⟩
  go_wp2_with fail
  refine (left_any b (s, bad) w1 h1).mono ?_
  rintro x w1' ⟨rfl, rfl⟩
  by_cases hlt : s.length < n
  · have hlt' : ((s.length : Nat) : Int) < (n : Int) := by omega
    have HF := Lib.hid (fail_any b (s, bad) w1' h1)
    have HR := Lib.hid (HRES.out.trans (if_pos hlt))
    clear hlt h1
    go_wp2_with fail
    refine HF.out.mono ?_
    rintro x w2 ⟨rfl, h2, hb2⟩
    go_wp2_with fail
    refine (bytes_bad b _ [] w2 h2).mono ?_
    rintro x w3 ⟨rfl, h3, hb3⟩
    go_wp2_with fail
    go_ret
    exact ⟨by rw [HR.out]; rfl, by rw [HR.out]; exact h3, (hb1.trans hb2).trans hb3⟩
  · have hge : ((n : Nat) : Int) ≤ (s.length : Int) := by omega
    have HB := Lib.hid (bytes_any b n (s, bad) (by omega) (show s.length ≤ _ by omega) w1' h1)
    have HR := Lib.hid (HRES.out.trans (if_neg hlt))
    clear hlt h1
    go_wp2_with fail
    refine HB.out.mono ?_
    rintro x w2 ⟨rfl, h2, hb2⟩
    go_wp2_with fail
    go_ret
    exact ⟨by rw [HR.out]; rfl, by rw [HR.out]; exact h2, hb1.trans hb2⟩

end Go.Proofs.YtbjbgdnjcppjhaaGreatDoor
