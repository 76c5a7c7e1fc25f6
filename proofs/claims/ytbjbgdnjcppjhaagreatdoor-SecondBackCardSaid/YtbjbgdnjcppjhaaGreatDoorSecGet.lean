/-
  second.get over any list of fields and any state: it takes as getL says. Conditions: as the theorem says. By an AI agent.
-/
import Derived.Test.YtbjbgdnjcppjhaaGreatDoorSecNum
namespace Go.Proofs.YtbjbgdnjcppjhaaGreatDoor
open Go.RowKit Go.Sort
set_option linter.unusedVariables false
set_option linter.unusedSimpArgs false

set_option maxRecDepth 100000 in
set_option maxHeartbeats 4000000 in
theorem secGet_of {σ : Type} (T : List (Take σ)) (hT : ∀ t ∈ T, Fine t) (St : Nat → World → σ → Prop) (b L cap : Nat) (m : Nat) (F : Nat → FuncId) (V : Nat → Value) (hlen : T.length = m) (hn : m ≤ 1000)
    (hcell : ∀ la w s, la ≤ m → St la w s → ∀ k, k < m → w.cell? ⟨L, k * 2 + 1, none⟩ = some (.func (.func (F k)) #[] #[V k]))
    (hent : ∀ k, k < m → ∀ (args : Array Value) (W : World), (callFunc (F k) args).run Tryz.prog W = .ok (.enter (F k) args) W)
    (hbut : ∀ la w w' s, St la w s → But b w w' → St la w' s)
    (htake : ∀ k (h : k < T.length) la w s r, la ≤ k → St la w s → RdAt w b r → r.1.length ≤ 1099511627776 → Calls Tryz.prog (F k) #[.pointer (some ⟨b, 0, none⟩), V k] w fun x w' => x = .returned (.tuple #[]) ∧ RdAt w' b (T[k] s r).2 ∧ St (k + 1) w' (T[k] s r).1)
    (s0 : σ) (r0 : Rd) (hr0 : r0.1.length ≤ 1099511627776) (w : World) (hs0 : St 0 w s0) (h0 : RdAt w b r0) :
    Calls Tryz.prog 39 #[.pointer (some ⟨b, 0, none⟩), .slice (some ⟨L, 0, none⟩) m cap] w fun x w' => x = .returned (.tuple #[]) ∧ RdAt w' b (getL T 0 s0 r0).2 ∧ ∃ la, la ≤ m ∧ St la w' (getL T 0 s0 r0).1 := by
  have HCELL := Lib.hid hcell
  have HENT := Lib.hid hent
  have HBUT := Lib.hid hbut
  have HTAKE := Lib.hid htake
  have HFINE := Lib.hid hT
  have HS0 := Lib.hid hs0
  clear hcell hent hbut htake hT hs0
  have HV := Lib.hid (fun r hl W h => var_any b r hl W h)
  go_enter Tryz.func39, Tryz.ntmps39
  go_wp2_with fail
  refine (HV.out r0 hr0 _ h0).mono ?_
  rintro x w1 ⟨rfl, h1, hb1⟩
  have HS1 := Lib.hid (HBUT.out _ _ _ _ HS0.out hb1)
  have H1 := Lib.hid h1
  clear h1 hb1 HS0 h0
  go_wp2_with fail
  go_loopw [4, 5] (fun last tag wr => ∃ (la : Nat) (s : σ) (r : Rd), la ≤ T.length ∧ r.1.length ≤ 1099511627776 ∧ last = .int .u64 la ∧ tag = .int .u64 (rdVar r).1 ∧ RdAt wr b (rdVar r).2 ∧ St la wr s ∧ getL T la s r = getL T 0 s0 r0) (fun last tag _ => T.length + 1 - (intOf last).toNat)
  case atStart => exact ⟨0, s0, r0, Nat.zero_le _, hr0, rfl, rfl, H1.out, HS1.out, rfl⟩
  case round =>
    obtain ⟨la, s, r, hla, hrl, rfl, rfl, hrd, hst, hinv⟩ := hrel
    have hless := rdVar_less r
    have HEQ := Lib.hid (fun n x (h : rdVar r = (n, x)) => getL_eq T la s r h)
    generalize hx : rdVar r = x at *
    obtain ⟨n, v⟩ := x
    have HE := Lib.hid (HEQ.out n v rfl)
    have HINV := Lib.hid hinv
    have HRD := Lib.hid hrd
    have HST := Lib.hid hst
    simp only at hless
    have hvl : v.1.length ≤ 1099511627776 := Nat.le_trans hless hrl
    clear HEQ hinv hx hrd hst
    by_cases hz : n = 0
    · have HZ := Lib.hid hz
      have hz2 : ¬ ((0 : Int) < (n : Int)) := by omega
      clear hz
      go_wp2_with fail
      refine ⟨rfl, .tuple #[], results_none rfl _ _ _, rfl, ?_, ?_⟩
      · rw [← HINV.out, HE.out, if_pos HZ.out]; exact HRD.out
      · rw [← HINV.out, HE.out, if_pos HZ.out]; exact ⟨la, by omega, HST.out⟩
    · obtain ⟨j, rfl⟩ : ∃ j, n = j + 1 := ⟨n - 1, by omega⟩
      have hpos : (0 : Int) < ((j + 1 : Nat) : Int) := by omega
      rw [if_neg hz] at HE
      clear hz
      have HF := Lib.hid (fail_any b v _ HRD.out)
      by_cases hle : j + 1 ≤ la
      · have hle2 : ((j + 1 : Nat) : Int) ≤ (la : Int) := by omega
        have HE2 := Lib.hid (HE.out.trans (dif_pos (.inl hle)))
        go_wp2_with fail
        refine HF.out.mono ?_
        rintro x w2 ⟨rfl, h2, hb2⟩
        go_wp2_with fail
        refine ⟨rfl, .tuple #[], results_none rfl _ _ _, rfl, ?_, ?_⟩
        · rw [← HINV.out, HE2.out]; exact h2
        · rw [← HINV.out, HE2.out]; exact ⟨la, by omega, HBUT.out _ _ _ _ HST.out hb2⟩
      · have hle2 : ¬ ((j + 1 : Nat) : Int) ≤ (la : Int) := by omega
        by_cases hgt : m < j + 1
        · have hgt2 : ((m : Nat) : Int) < ((j + 1 : Nat) : Int) := by omega
          have HE2 := Lib.hid (HE.out.trans (dif_pos (.inr (by omega))))
          go_wp2_with fail
          refine HF.out.mono ?_
          rintro x w2 ⟨rfl, h2, hb2⟩
          go_wp2_with fail
          refine ⟨rfl, .tuple #[], results_none rfl _ _ _, rfl, ?_, ?_⟩
          · rw [← HINV.out, HE2.out]; exact h2
          · rw [← HINV.out, HE2.out]; exact ⟨la, by omega, HBUT.out _ _ _ _ HST.out hb2⟩
        · have hgt2 : ¬ ((m : Nat) : Int) < ((j + 1 : Nat) : Int) := by omega
          have hjT : j < T.length := by omega
          have HE2 : Hid (getL T la s r = getL T (j + 1) (T[j] s v).1 (T[j] s v).2) := Lib.hid (HE.out.trans (dif_neg (by omega)))
          have hcj := HCELL.out la _ _ (by omega) HST.out j (by omega)
          have hej := HENT.out j (by omega)
          have HTK := Lib.hid (HTAKE.out j hjT la wr s v (by omega) HST.out HRD.out hvl)
          have hshr := (HFINE.out _ (List.getElem_mem hjT)).shrink s v
          clear HE
          generalize T[j] s v = y at *
          generalize F j = fn at *
          generalize V j = cv at *
          obtain ⟨s2, r2⟩ := y
          simp only at hshr
          go_wp2_with fail
          refine HTK.out.mono ?_
          rintro x w2 ⟨rfl, h2, hs2⟩
          go_wp2_with fail
          refine (HV.out r2 (by omega) _ h2).mono ?_
          rintro x w3 ⟨rfl, h3, hb3⟩
          have HS3 := Lib.hid (HBUT.out _ _ _ _ hs2 hb3)
          have H3 := Lib.hid h3
          clear h2 hs2 h3 hb3 hcj hej
          go_wp2_with fail
          go_roundw
          case rel => exact ⟨j + 1, s2, r2, by omega, by omega, rfl, rfl, H3.out, HS3.out, HE2.out.symm.trans HINV.out⟩
          case measure => simp [intOf]; omega

end Go.Proofs.YtbjbgdnjcppjhaaGreatDoor
