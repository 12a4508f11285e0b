import Derived.Test.YtoilofcpijgaiaaProg
import Derived.Test.YtoilofcpijgaiaaLib
import Derived.Test.YtoilofcpijgaiaaMem
import Derived.Test.YtoilofcpijgaiaaNum
import Derived.Test.YtoilofcpijgaiaaOpen
import Derived.Test.YtoilofcpijgaiaaPair
namespace Go.Proofs.Ytoilofcpijgaiaa
open Go.RowKit

theorem info_band : (Try.prog.info? 47).map (fun i => (i.zero, i.size, i.bytes)) = some (some (.agg #[.int .i64 0, .int .i64 0]), 2, 16) := info_Band

/-- how two bands follow each other, and where they lie -/
def bvAt (xs : List (Int × Int)) (k : Nat) : Bool :=
  decide (0 ≤ bF xs k ∧ bF xs k ≤ bL xs k ∧ bL xs k ≤ 63) && (decide (k = 0) || decide (bL xs (k - 1) < bF xs k))
/-- the first k bands are valid -/
def bvTo (xs : List (Int × Int)) (k : Nat) : Prop := ∀ i, i < k → bvAt xs i = true
/-- BandsValid -/
def bvB (xs : List (Int × Int)) : Bool := decide (xs.length ≤ 64) && (List.range xs.length).all (bvAt xs)

theorem bvB_true {xs : List (Int × Int)} : bvB xs = true ↔ xs.length ≤ 64 ∧ bvTo xs xs.length := by
  simp [bvB, bvTo]
theorem bvB_bad {xs : List (Int × Int)} {k : Nat} (hk : k < xs.length) (h : bvAt xs k = false) : bvB xs = false := by
  cases hb : bvB xs
  · rfl
  · have := (bvB_true.1 hb).2 k hk
    rw [h] at this; exact this.symm

/-- the first channel that is left behind the first k bands -/
def nxtB (xs : List (Int × Int)) (k : Nat) : Int := if k = 0 then 0 else bL xs (k - 1) + 1
theorem bvAt_iff {xs : List (Int × Int)} {k : Nat} (h : bvTo xs k) : bvAt xs k = true ↔ nxtB xs k ≤ bF xs k ∧ bF xs k ≤ bL xs k ∧ bL xs k < 64 := by
  unfold bvAt nxtB
  rcases Nat.eq_zero_or_pos k with rfl | hk
  · simp; omega
  · have hp := h (k - 1) (by omega)
    unfold bvAt at hp
    simp only [Bool.and_eq_true, decide_eq_true_eq, Bool.or_eq_true] at hp
    rw [if_neg (by omega)]
    simp only [Bool.and_eq_true, decide_eq_true_eq, Bool.or_eq_true]
    omega
theorem nxtB_bd {xs : List (Int × Int)} {k : Nat} (h : bvTo xs k) : 0 ≤ nxtB xs k ∧ nxtB xs k ≤ 64 := by
  unfold nxtB
  rcases Nat.eq_zero_or_pos k with rfl | hk
  · simp
  · have hp := h (k - 1) (by omega)
    unfold bvAt at hp
    simp only [Bool.and_eq_true, decide_eq_true_eq, Bool.or_eq_true] at hp
    rw [if_neg (by omega)]; omega
theorem bvTo_succ {xs : List (Int × Int)} {k : Nat} (h : bvTo xs k) (h' : bvAt xs k = true) : bvTo xs (k + 1) := by
  intro i hi
  rcases Nat.lt_succ_iff_lt_or_eq.1 hi with h1 | rfl
  · exact h i h1
  · exact h'

theorem implBandsValid_c (va : Value) (xs : List (Int × Int)) (w : World) (h : RdBand w va xs) :
    Calls Try.prog 34 #[va] w (Ret w fun v _ => v = .bool (bvB xs)) := by
  obtain ⟨a, ca, rfl, ma⟩ := h.form
  have H := Lib.hid h
  clear h
  by_cases hl : 64 < xs.length
  · have HF : Hid (bvB xs = false) := by simp [Hid, bvB]; omega
    go_enter Try.func34, Try.ntmps34
    go_wp2
    go_ret
    exact Ret.mk1 (boolv HF.out.symm) (Below.refl _ _)
  go_enter Try.func34, Try.ntmps34
  go_wp2
  go_loopw [3, 11] (fun nx i wr => ∃ k : Nat, k ≤ xs.length ∧ i = .int .i64 k ∧ nx = .int .i64 (nxtB xs k) ∧ Below w.heap.size w wr ∧ bvTo xs k) (fun _ i _ => xs.length - (intOf i).toNat)
  case atStart => exact ⟨0, Nat.zero_le _, rfl, rfl, Below.refl _ _, fun j h => absurd h (Nat.not_lt_zero _)⟩
  case round =>
    obtain ⟨k, hk, rfl, rfl, hbel, hall⟩ := hrel
    have HAll := Lib.hid hall
    have HBel := Lib.hid hbel
    have hiff := bvAt_iff hall
    obtain ⟨hn0, hn1⟩ := nxtB_bd hall
    clear hall hbel
    by_cases hlt : k < xs.length
    · obtain ⟨ba, oa, rfl, hca⟩ := (H.out.below (by decide) HBel.out).at_ hlt
      have ha0 : wr.cell? ⟨ba, oa + k * 2, none⟩ = some (.int .i64 (bF xs k)) := hca 0 (by decide)
      have ha1 : wr.cell? ⟨ba, oa + k * 2 + 1, none⟩ = some (.int .i64 (bL xs k)) := hca 1 (by decide)
      clear hca
      by_cases h0 : nxtB xs k ≤ bF xs k ∧ bF xs k ≤ bL xs k ∧ bL xs k < 64
      · obtain ⟨h1, h2, h3⟩ := h0
        have HA := Lib.hid (hiff.2 ⟨h1, h2, h3⟩)
        clear hiff
        go_wp2
        go_roundw
        case rel => exact ⟨k + 1, hlt, by go_num, by simp [nxtB], HBel.out.alloc HBel.out.size _, bvTo_succ HAll.out HA.out⟩
        case measure => simp [intOf]; omega
      · have HF : Hid (bvB xs = false) := bvB_bad hlt (by
          cases hb : bvAt xs k
          · rfl
          · exact absurd (hiff.1 hb) h0)
        clear hiff
        by_cases h1 : bF xs k < nxtB xs k
        · clear h0
          go_wp2
          go_ret
          exact Ret.mk1 (boolv HF.out.symm) (HBel.out.alloc HBel.out.size _)
        by_cases h2 : bL xs k < bF xs k
        · clear h0
          go_wp2
          go_ret
          exact Ret.mk1 (boolv HF.out.symm) (HBel.out.alloc HBel.out.size _)
        have h3 : 64 ≤ bL xs k := by omega
        clear h0
        go_wp2
        go_ret
        exact Ret.mk1 (boolv HF.out.symm) (HBel.out.alloc HBel.out.size _)
    · go_wp2
      go_ret
      refine Ret.mk1 (boolv ?_) HBel.out
      obtain rfl : k = xs.length := by omega
      exact (bvB_true.2 ⟨by omega, HAll.out⟩).symm

theorem specBandsValid_c (va : Value) (xs : List (Int × Int)) (w : World) (h : RdBand w va xs) :
    Calls Try.prog 35 #[va] w (RetQ w (.bool (bvB xs))) := by
  obtain ⟨a, ca, rfl, ma⟩ := h.form
  have H := Lib.hid h
  clear h
  go_enter Try.func35, Try.ntmps35
  go_wp2
  go_loopw [3] (fun i wr => ∃ k : Nat, k ≤ xs.length ∧ i = .int .i64 k ∧ SameW w wr ∧ bvTo xs k) (fun i _ => xs.length - (intOf i).toNat)
  case atStart => exact ⟨0, Nat.zero_le _, rfl, SameW.refl _, fun j h => absurd h (Nat.not_lt_zero _)⟩
  case round =>
    obtain ⟨k, hk, rfl, hsame, hall⟩ := hrel
    have HAll := Lib.hid hall
    have HS := Lib.hid hsame
    have hiff := bvAt_iff hall
    clear hall hsame
    by_cases hlt : k < xs.length
    · obtain ⟨ba, oa, rfl, hca⟩ := (H.out.below (by decide) HS.out.below).at_ hlt
      have ha0 : wr.cell? ⟨ba, oa + k * 2, none⟩ = some (.int .i64 (bF xs k)) := hca 0 (by decide)
      have ha1 : wr.cell? ⟨ba, oa + k * 2 + 1, none⟩ = some (.int .i64 (bL xs k)) := hca 1 (by decide)
      clear hca
      cases h1 : inB (bF xs k) 0 63
      · have HF : Hid (bvB xs = false) := bvB_bad hlt (by
          have := inB_false.1 h1
          simp only [bvAt, Bool.and_eq_false_iff, decide_eq_false_iff_not]; omega)
        clear hiff
        go_wp2
        go_quiet ((go_at_call 52; exact quiet_of (l1In_c _ _ _ _)))
        go_wp2
        go_ret
        exact RetQ.mkS (boolv HF.out.symm) (HS.out.drewN _)
      cases h2 : inB (bL xs k) (bF xs k) 63
      · have HF : Hid (bvB xs = false) := bvB_bad hlt (by
          have := inB_false.1 h2
          have := inB_true.1 h1
          simp only [bvAt, Bool.and_eq_false_iff, decide_eq_false_iff_not]; omega)
        clear hiff
        go_wp2
        go_quiet ((go_at_call 52; exact quiet_of (l1In_c _ _ _ _)))
        go_wp2
        go_ret
        exact RetQ.mkS (boolv HF.out.symm) (HS.out.drewN _)
      obtain ⟨i1, i2⟩ := inB_true.1 h1
      obtain ⟨i3, i4⟩ := inB_true.1 h2
      rcases Nat.eq_zero_or_pos k with hz | hz
      · have HA : Hid (bvTo xs (k + 1)) := bvTo_succ HAll.out (hiff.2 (by subst hz; simp [nxtB]; omega))
        have hz1 : decide (0 < k) = false := by simp; omega
        have hz2 : ¬ (0 < k) := by omega
        have HZ := Lib.hid hz
        clear hiff hz
        go_wp2
        go_quiet ((go_at_call 52; exact quiet_of (l1In_c _ _ _ _)))
        go_wp2
        go_roundw
        case rel => exact ⟨k + 1, hlt, by go_num, HS.out.drewN _, HA.out⟩
        case measure => simp [intOf]; omega
      · obtain ⟨bp, op, he, hcp⟩ := (H.out.below (by decide) HS.out.below).at_ (show k - 1 < xs.length by omega)
        simp only [Option.some.injEq, Addr.mk.injEq, and_true] at he
        obtain ⟨rfl, rfl⟩ := he
        have hp1 : wr.cell? ⟨ba, oa + (k - 1) * 2 + 1, none⟩ = some (.int .i64 (bL xs (k - 1))) := hcp 1 (by decide)
        clear hcp
        by_cases h3 : bF xs k ≤ bL xs (k - 1)
        · have HF : Hid (bvB xs = false) := bvB_bad hlt (by
            simp only [bvAt, Bool.and_eq_false_iff, decide_eq_false_iff_not, Bool.or_eq_false_iff]; omega)
          clear hiff
          go_wp2
          go_quiet ((go_at_call 52; exact quiet_of (l1In_c _ _ _ _)))
          go_wp2
          go_ret
          exact RetQ.mkS (boolv HF.out.symm) (HS.out.drewN _)
        · have HA : Hid (bvTo xs (k + 1)) := bvTo_succ HAll.out (hiff.2 (by unfold nxtB; rw [if_neg (by omega)]; omega))
          have h3' : decide (bF xs k ≤ bL xs (k - 1)) = false := by simpa using h3
          clear hiff
          go_wp2
          go_quiet ((go_at_call 52; exact quiet_of (l1In_c _ _ _ _)))
          go_wp2
          go_roundw
          case rel => exact ⟨k + 1, hlt, by go_num, HS.out.drewN _, HA.out⟩
          case measure => simp [intOf]; omega
    · obtain rfl : k = xs.length := by omega
      have HF : Hid (bvB xs = decide (((xs.length : Nat) : Int) ≤ 64)) := by
        unfold Hid
        by_cases h : xs.length ≤ 64
        · rw [bvB_true.2 ⟨h, HAll.out⟩]; simp; omega
        · have : bvB xs = false := by simp [bvB, h]
          rw [this]; simp; omega
      go_wp2
      go_ret
      exact RetQ.mkS (boolv HF.out.symm) HS.out


end Go.Proofs.Ytoilofcpijgaiaa
