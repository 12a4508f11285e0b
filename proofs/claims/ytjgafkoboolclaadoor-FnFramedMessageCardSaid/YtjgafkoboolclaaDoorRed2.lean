import Derived.Test.YtjgafkoboolclaaDoorProg
import Derived.Test.YtjgafkoboolclaaDoorLib
import Derived.Test.YtjgafkoboolclaaDoorNum
import Derived.Test.YtjgafkoboolclaaDoorSym
import Derived.Test.YtjgafkoboolclaaDoorInts
import Derived.Test.YtjgafkoboolclaaDoorBlk
import Derived.Test.YtjgafkoboolclaaDoorCrc
import Derived.Test.YtjgafkoboolclaaDoorRead
import Derived.Test.YtjgafkoboolclaaDoorRed
import Derived.Test.YtjgafkoboolclaaDoorStuff
namespace Go.Proofs.YtjgafkoboolclaaDoor
open Go.RowKit

/-! The reference's remainder, bit by bit. -/
theorem specGen_c (w : World) : Calls Tryd.prog 48 #[.int .i64 69665] w (RetQ w (.bool true)) := by
  go_enter Tryd.func48, Tryd.ntmps48
  go_wp2_with fail
  refine (l1In_c 69665 2 131071 _).mono ?_
  rintro e w1 hr
  obtain ⟨rfl, hs1⟩ := hr.same
  have HS := Lib.hid hs1
  clear hr hs1
  rw [show inB 69665 2 131071 = true by decide]
  go_wp2
  go_ret
  exact RetQ.mkS rfl HS.out
theorem half_gt : ∀ t : Fin 16, 1 < 69665 / 2 ^ t.val := by decide
theorem l2Degree_c (w : World) : Calls Tryd.prog 49 #[.int .i64 69665] w (RetQ w (.int .i64 16)) := by
  go_enter Tryd.func49, Tryd.ntmps49
  go_wp2
  go_loopw [0, 3] (fun q i wr => ∃ (t G : Nat), t ≤ 16 ∧ i = .int .i64 t ∧ q = .int .i64 G ∧ Hid (G = 69665 / 2 ^ t) ∧ Hid (SameW w wr)) (fun _ i _ => 16 - (intOf i).toNat)
  case atStart => exact ⟨0, 69665, by decide, rfl, rfl, Lib.hid (by decide), Lib.hid (SameW.refl _)⟩
  case round =>
    obtain ⟨t, G, ht, rfl, rfl, HG, HS⟩ := hrel
    have hG2 : G ≤ 69665 := by rw [HG.out]; exact Nat.div_le_self _ _
    by_cases hlt : t < 16
    · have h1 : 1 < G := by rw [HG.out]; exact half_gt ⟨t, hlt⟩
      have e : decide ((G : Int) > 1) = true := by rw [decide_eq_true_eq]; omega
      go_wp2
      go_roundw
      case rel => exact ⟨t + 1, G / 2, hlt, by go_num, intv (by omega), Lib.hid (by rw [HG.out, Nat.div_div_eq_div_mul, ← Nat.pow_succ]), HS⟩
      case measure => simp [intOf]; omega
    · obtain rfl : t = 16 := by omega
      obtain rfl : G = 1 := by rw [HG.out]
      go_wp2
      go_ret
      exact RetQ.mkS rfl HS.out
set_option maxRecDepth 100000 in
set_option maxHeartbeats 1000000 in
theorem l2Remainder_c (va : Value) (xs : List Int) (w : World) (h : RdI w va xs) (hx : okB xs) (hl : xs.length ≤ 1048576) :
    Calls Tryd.prog 57 #[va, .int .i64 69665] w (RetQ w (.int .i64 (remT xs xs.length : Int))) := by
  obtain ⟨a, ca, rfl, ml⟩ := h.form
  have H := Lib.hid h
  have HX := Lib.hid hx
  clear h hx
  go_enter Tryd.func57, Tryd.ntmps57
  go_wp2_with fail
  refine (l2Degree_c _).mono ?_
  rintro e w1 hr
  obtain ⟨rfl, hs1⟩ := hr.same
  have HS1 := Lib.hid hs1
  clear hr hs1
  go_wp2
  go_loopw [5, 7] (fun r i wr => ∃ k : Nat, k ≤ xs.length ∧ i = .int .i64 k ∧ r = .int .i64 (remT xs k : Int) ∧ Hid (SameW w wr)) (fun _ i _ => xs.length - (intOf i).toNat)
  case atStart => exact ⟨0, Nat.zero_le _, rfl, rfl, HS1⟩
  case round =>
    obtain ⟨k, hk, rfl, rfl, HS⟩ := hrel
    by_cases hlt : k < xs.length
    · obtain ⟨b, off, rfl, hc⟩ := (H.out.below HS.out.below).at_ hlt
      obtain ⟨y, hy⟩ : ∃ y : Nat, gi xs k = (y : Int) ∧ y ≤ 1 := ⟨(gi xs k).toNat, by have := HX.out k hlt; omega, by have := HX.out k hlt; omega⟩
      have hy1 := hy.2
      have HT := Lib.hid (remT_succ hlt)
      rw [hy.1] at hc HT
      rw [Int.toNat_natCast] at HT
      clear hy
      have hrl := remT_lt HX.out k
      obtain ⟨R, hR⟩ : ∃ R, remT xs k = R := ⟨_, rfl⟩
      rw [hR] at hrl HT ⊢
      clear hR
      by_cases h65 : 65536 ≤ 2 * R + y
      · have HT2 : Hid (remT xs (k + 1) = (2 * R + y) ^^^ 69665) := by unfold Hid; rw [HT.out]; unfold stepN; rw [if_pos h65]
        have hxr : bits .xor .i64 (2 * (R : Int) + (y : Int)) 69665 = (((2 * R + y) ^^^ 69665 : Nat) : Int) := by
          rw [show 2 * (R : Int) + (y : Int) = ((2 * R + y : Nat) : Int) by omega, show (69665 : Int) = ((69665 : Nat) : Int) from rfl]
          exact i64_xor_nat (2 * R + y) 69665 (by omega) (by decide)
        have hge : decide (2 * (R : Int) + (y : Int) ≥ 65536) = true := by rw [decide_eq_true_eq]; omega
        have hrl2 : R < 70000 := by omega
        clear h65 hrl
        go_wp2
        go_roundw
        case rel => exact ⟨k + 1, hlt, by go_num, intv (by rw [HT2.out]), HS⟩
        case measure => simp [intOf]; omega
      · have HT2 : Hid (remT xs (k + 1) = 2 * R + y) := by unfold Hid; rw [HT.out]; unfold stepN; rw [if_neg h65]
        have hge : decide (2 * (R : Int) + (y : Int) ≥ 65536) = false := by rw [decide_eq_false_iff_not]; omega
        have hrl2 : R < 70000 := by omega
        clear h65 hrl
        go_wp2
        go_roundw
        case rel => exact ⟨k + 1, hlt, by go_num, intv (by rw [HT2.out]; omega), HS⟩
        case measure => simp [intOf]; omega
    · obtain rfl : k = xs.length := by omega
      go_wp2
      go_ret
      exact RetQ.mkS rfl HS.out
set_option maxRecDepth 100000 in
set_option maxHeartbeats 1000000 in
theorem specCheckPasses_c (va : Value) (xs : List Int) (w : World) (h : RdI w va xs) :
    Calls Tryd.prog 42 #[va, .int .i64 69665] w (RetQ w (.bool (chkB xs))) := by
  obtain ⟨a, ca, rfl, ma⟩ := h.form
  have H := Lib.hid h
  clear h
  cases hv : bitsB xs
  · have HF : Hid (chkB xs = false) := by unfold Hid chkB; rw [hv]; rfl
    go_enter Tryd.func42, Tryd.ntmps42
    go_wp2_with fail
    refine (specBitsValid_c _ xs _ H.out).mono ?_
    rintro e w1 hr
    obtain ⟨rfl, hs1⟩ := hr.same
    have HS := Lib.hid hs1
    clear hr hs1
    rw [hv]
    go_wp2
    go_ret
    exact RetQ.mkS (boolv HF.out.symm) HS.out
  · obtain ⟨hl, hx⟩ := bitsB_true.1 hv
    have HX := Lib.hid (show okB xs from hx)
    clear hx
    have HF : Hid (chkB xs = (decide (16 ≤ xs.length) && ((remT xs xs.length : Int) == 0))) := by
      unfold Hid chkB
      rw [hv, Bool.true_and]
      congr 1
      rw [Bool.eq_iff_iff]
      simp only [beq_iff_eq]
      omega
    by_cases h16 : 16 ≤ xs.length
    · have hd : decide ((xs.length : Int) ≥ 16) = true := by rw [decide_eq_true_eq]; omega
      have HF2 : Hid (chkB xs = ((remT xs xs.length : Int) == 0)) := by unfold Hid; rw [HF.out, decide_eq_true h16, Bool.true_and]
      go_enter Tryd.func42, Tryd.ntmps42
      go_wp2_with fail
      refine (specBitsValid_c _ xs _ H.out).mono ?_
      rintro e w1 hr
      obtain ⟨rfl, hs1⟩ := hr.same
      have HS := Lib.hid hs1
      clear hr hs1
      rw [hv]
      go_wp2_with fail
      refine (specGen_c _).mono ?_
      rintro e w2 hr
      obtain ⟨rfl, hs1⟩ := hr.same
      have HS2 := Lib.hid (HS.out.trans hs1)
      clear hr hs1
      go_wp2_with fail
      refine (l2Degree_c _).mono ?_
      rintro e w3 hr
      obtain ⟨rfl, hs1⟩ := hr.same
      have HS3 := Lib.hid (HS2.out.trans hs1)
      clear hr hs1
      go_wp2_with fail
      refine (l2Remainder_c _ xs _ (H.out.below HS3.out.below) HX.out (by omega)).mono ?_
      rintro e w4 hr
      obtain ⟨rfl, hs1⟩ := hr.same
      have HS4 := Lib.hid (HS3.out.trans hs1)
      clear hr hs1
      go_wp2
      go_ret
      exact RetQ.mkS (boolv HF2.out.symm) HS4.out
    · have hd : decide ((xs.length : Int) ≥ 16) = false := by rw [decide_eq_false_iff_not]; omega
      have HF2 : Hid (chkB xs = false) := by unfold Hid; rw [HF.out, decide_eq_false h16, Bool.false_and]
      go_enter Tryd.func42, Tryd.ntmps42
      go_wp2_with fail
      refine (specBitsValid_c _ xs _ H.out).mono ?_
      rintro e w1 hr
      obtain ⟨rfl, hs1⟩ := hr.same
      have HS := Lib.hid hs1
      clear hr hs1
      rw [hv]
      go_wp2_with fail
      refine (specGen_c _).mono ?_
      rintro e w2 hr
      obtain ⟨rfl, hs1⟩ := hr.same
      have HS2 := Lib.hid (HS.out.trans hs1)
      clear hr hs1
      go_wp2_with fail
      refine (l2Degree_c _).mono ?_
      rintro e w3 hr
      obtain ⟨rfl, hs1⟩ := hr.same
      have HS3 := Lib.hid (HS2.out.trans hs1)
      clear hr hs1
      go_wp2
      go_ret
      exact RetQ.mkS (boolv HF2.out.symm) HS3.out
end Go.Proofs.YtjgafkoboolclaaDoor
