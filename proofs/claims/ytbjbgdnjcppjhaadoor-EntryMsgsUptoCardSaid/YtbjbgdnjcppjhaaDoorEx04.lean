/-
  law04's examples: they are so. Condition: the table of the powers of ten reads as the program lays it. By an AI agent.
-/
import Derived.Test.YtbjbgdnjcppjhaaDoorMsgText
import Derived.Test.YtbjbgdnjcppjhaaDoorRight
namespace Go.Proofs.YtbjbgdnjcppjhaaDoor
open Go.RowKit Go.Sort
set_option linter.unusedVariables false
set_option linter.unusedSimpArgs false

def exEnt : Ent := ⟨2, 3, 1, 4, 5, 6, 0, 0, 0, ⟨#[97]⟩, ⟨#[]⟩⟩
def exMsg : Msg := ⟨2, 1, 2, 0, 0, 0, 0, 0, true, ⟨#[]⟩, []⟩
theorem exEnt_wf : exEnt.wf := ⟨⟨by decide, by decide⟩, ⟨by decide, by decide⟩, ⟨by decide, by decide⟩, ⟨by decide, by decide⟩, ⟨by decide, by decide⟩, ⟨by decide, by decide⟩, ⟨by decide, by decide⟩, ⟨by decide, by decide⟩, ⟨by decide, by decide⟩, by decide, by decide⟩
theorem zero_wf : Ent.zero.wf := ⟨⟨by decide, by decide⟩, ⟨by decide, by decide⟩, ⟨by decide, by decide⟩, ⟨by decide, by decide⟩, ⟨by decide, by decide⟩, ⟨by decide, by decide⟩, ⟨by decide, by decide⟩, ⟨by decide, by decide⟩, ⟨by decide, by decide⟩, by decide, by decide⟩
theorem exMsg_fine : exMsg.fine := ⟨⟨⟨by decide, by decide⟩, ⟨by decide, by decide⟩, ⟨by decide, by decide⟩, ⟨by decide, by decide⟩, ⟨by decide, by decide⟩, ⟨by decide, by decide⟩, ⟨by decide, by decide⟩, ⟨by decide, by decide⟩, by decide, fun e h => by cases h⟩, by decide, by decide, fun e h => by cases h⟩
theorem exEnt_right : rightB exEnt = true := by rfl
theorem zero_right : rightB Ent.zero = false := by rfl
theorem dec_d (n : Int) (h : n.toNat < 10) : dec n = [UInt8.ofNat (48 + n.toNat)] := Lib.decDigits_one h
theorem itoa_d (n : Int) (h0 : 0 ≤ n) (h : n.toNat < 10) : Lib.itoa n = [UInt8.ofNat (48 + n.toNat)] := by
  unfold Lib.itoa
  rw [if_neg (by omega)]
  exact Lib.decDigits_one h
theorem exEnt_text : textL exEnt = [49, 32, 50, 46, 51, 32, 99, 61, 52, 47, 53, 32, 98, 61, 54, 32, 100, 61, 54, 49] := by
  have : textL exEnt = (Lib.itoa 1 ++ [32] ++ dec 2 ++ [46] ++ dec 3) ++ (([32, 99, 61] ++ (dec 4 ++ [47] ++ dec 5)) ++ (([32, 98, 61] ++ dec 6) ++ [32, 100, 61, 54, 49])) := by rfl
  rw [this, itoa_d 1 (by decide) (by decide), dec_d 2 (by decide), dec_d 3 (by decide), dec_d 4 (by decide), dec_d 5 (by decide), dec_d 6 (by decide)]
  rfl
theorem exMsg_text : msgTextL exMsg = [50, 32, 49, 62, 50, 32, 48, 32, 121, 61, 49] := by
  have : msgTextL exMsg = (Lib.itoa 2 ++ [32] ++ Lib.itoa 1 ++ [62] ++ Lib.itoa 2 ++ [32] ++ dec 0) ++ [32, 121, 61, 49] := by rfl
  rw [this, itoa_d 1 (by decide) (by decide), itoa_d 2 (by decide) (by decide), dec_d 0 (by decide)]
  rfl

set_option maxRecDepth 100000 in
set_option maxHeartbeats 4000000 in
theorem examples04 (w : World) (ht : Tabs w) : Calls Tryd.prog 9 #[] w fun x w' => x = .returned (.bool true) ∧ Below w.heap.size w w' := by
  have HR := Lib.hid (fun W => right_any exEnt exEnt_wf W)
  have HZ := Lib.hid (fun W => right_any Ent.zero zero_wf W)
  have HT := Lib.hid (fun W hW => text_any exEnt exEnt_wf (by decide) (by decide) W hW)
  have HM := Lib.hid (fun W hW => msgText_any exMsg (.slice none 0 0) exMsg_fine W hW (entsAt_nil W))
  rw [exEnt_right] at HR
  rw [zero_right] at HZ
  rw [exEnt_text] at HT
  rw [exMsg_text] at HM
  go_enter Tryd.func9, Tryd.ntmps9
  go_wp2_with fail
  refine (fields_any _ _).mono ?_
  rintro x w1 ⟨rfl, hb1⟩
  obtain ⟨hc1, hf1⟩ := bcell hb1
  have hb01 := ((Below.refl w.heap.size w).alloc (Nat.le_refl _) _).trans (hb1.mono (by simp))
  have he1 := (entAt_new w exEnt EntT).below hb1
  have ht1 := ht.next hb01
  rw [show (entL 1).toArray = #[99, 98, 100] from rfl, show entOk 1 = true from rfl]
  go_wp2_with fail
  refine (HR.out _).mono ?_
  rintro x w2 ⟨rfl, hb2⟩
  have he2 := he1.below hb2
  have ht2 := ht1.next hb2
  obtain ⟨hc2, hf2⟩ := bcell hb2
  obtain ⟨a0, a1, a2, a3, a4, a5, a6, a7, a8, a9, a10⟩ := he2
  simp only [Nat.zero_add, exEnt] at a0 a1 a2 a3 a4 a5 a6 a7 a8 a9 a10
  clear hc1 hf1 hc2 hf2 he1
  go_wp2_with fail
  refine (level_any exEnt _).mono ?_
  rintro x w3 ⟨rfl, hb3⟩
  have he2 : EntAt w2 w.heap.size 0 exEnt := ⟨a0, a1, a2, a3, a4, a5, a6, a7, a8, a9, a10⟩
  have he3 := he2.below hb3
  have ht3 := ht2.next hb3
  clear a0 a1 a2 a3 a4 a5 a6 a7 a8 a9 a10
  obtain ⟨a0, a1, a2, a3, a4, a5, a6, a7, a8, a9, a10⟩ := he3
  simp only [Nat.zero_add, exEnt] at a0 a1 a2 a3 a4 a5 a6 a7 a8 a9 a10
  rw [show levelI exEnt.kind = 1 from rfl]
  go_wp2_with fail
  refine (HT.out _ ht3).mono ?_
  rintro x w4 ⟨rfl, hb4⟩
  have ht4 := ht3.next hb4
  clear a0 a1 a2 a3 a4 a5 a6 a7 a8 a9 a10 he2
  go_wp2_with fail
  refine (HZ.out _).mono ?_
  rintro x w5 ⟨rfl, hb5⟩
  have ht5 := ht4.next hb5
  go_wp2_with fail
  refine (HM.out _ ht5).mono ?_
  rintro x w6 ⟨rfl, hb6⟩
  have ht6 := ht5.next hb6
  have k2 := hb01.trans (hb2.mono hb01.size)
  have k3 := k2.trans (hb3.mono k2.size)
  have k4 := k3.trans (hb4.mono k3.size)
  have k5 := k4.trans (hb5.mono k4.size)
  have k6 := k5.trans (hb6.mono k5.size)
  clear hb01 hb1 hb2 hb3 hb4 hb5 hb6 ht ht1 ht2 ht3 ht4 ht5 ht6 k2 k3 k4 k5 HR HZ HT HM
  go_wp2_with fail
  go_ret
  exact ⟨rfl, k6⟩

end Go.Proofs.YtbjbgdnjcppjhaaDoor
