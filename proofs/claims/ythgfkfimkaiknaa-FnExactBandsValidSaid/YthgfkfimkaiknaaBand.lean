import Derived.Test.YthgfkfimkaiknaaProg
import Derived.Test.YthgfkfimkaiknaaLib
import Derived.Test.YthgfkfimkaiknaaMem
import Derived.Test.YthgfkfimkaiknaaNum
import Derived.Test.YthgfkfimkaiknaaOpen
namespace Go.Proofs.Ythgfkfimkaiknaa
open Go.RowKit

/-- the first and the last channel of a band, by index -/
def bF (xs : List (Int × Int)) (i : Nat) : Int := (xs.getD i (0, 0)).1
def bL (xs : List (Int × Int)) (i : Nat) : Int := (xs.getD i (0, 0)).2
def bC (xs : List (Int × Int)) (i j : Nat) : Value := .int .i64 (if j = 0 then bF xs i else bL xs i)
abbrev RdBand (w : World) (v : Value) (xs : List (Int × Int)) : Prop := RdM 2 w v xs.length (bC xs)
abbrev OwnBand (w : World) (base : Nat) (v : Value) (xs : List (Int × Int)) : Prop := OwnM 2 w base 51 v xs.length (bC xs)

theorem band_ext {xs ys : List (Int × Int)} (hl : xs.length = ys.length) (h : ∀ i, i < xs.length → bF xs i = bF ys i ∧ bL xs i = bL ys i) : xs = ys := by
  apply List.ext_getElem hl
  intro i h1 h2
  have := h i h1
  simp [bF, bL, h1, h2] at this
  exact Prod.ext this.1 this.2

theorem info_band : (Try.prog.info? 51).map (fun i => (i.zero, i.size, i.bytes)) = some (some (.agg #[.int .i64 0, .int .i64 0]), 2, 16) := by kernel_rfl

theorem toBand_c (a b : Int) (w : World) :
    Calls Try.prog 32 #[.agg #[.int .i64 a, .int .i64 b]] w (Ret w fun v _ => v = .agg #[.int .i64 a, .int .i64 b]) := by
  go_enter Try.func32, Try.ntmps32
  go_wp2
  go_returns
  exact Ret.mk1 rfl (by go_grown)

theorem toBandS_c (va : Value) (xs : List (Int × Int)) (w : World) (h : RdBand w va xs) (hs : xs.length ≤ 1048576) :
    Calls Try.prog 24 #[va] w (Ret w fun v w' => OwnBand w' w.heap.size v xs) := by
  obtain ⟨a, ca, rfl, ml⟩ := h.form
  have H := Lib.hid h
  clear h
  go_enter Try.func24, Try.ntmps24
  go_wp2_with (at_make; refine wp_makeM rfl rfl w.heap.size 51 16 2 _ Try.underlying42 info_band rfl xs.length rfl rfl rfl rfl (by omega) (by unfold maxLen; omega) (Nat.le_refl _) ?_; intro w1 hown hg hsz)
  have HO := Lib.hid hown
  clear hown
  go_loopw [4] (fun i wr => ∃ k : Nat, ∃ c : Nat → Nat → Value, k ≤ xs.length ∧ i = .int .i64 k ∧ OwnM 2 wr w.heap.size 51 (.slice (some ⟨w.heap.size, 0, none⟩) xs.length xs.length) xs.length c ∧ Below w.heap.size w wr ∧ ∀ j q, j < k → q < 2 → c j q = bC xs j q) (fun i _ => xs.length - (intOf i).toNat)
  case atStart => exact ⟨0, _, Nat.zero_le _, rfl, HO.out, (Below.refl _ _).grown hg (Nat.le_refl _) (fun k h => by cases h), fun j q h => absurd h (Nat.not_lt_zero _)⟩
  case round =>
    obtain ⟨k, c, hk, rfl, hown, hb, hall⟩ := hrel
    have HOwn := Lib.hid hown
    have HAll := Lib.hid hall
    have HB := Lib.hid hb
    clear hown hall hb
    by_cases hlt : k < xs.length
    · obtain ⟨b, off, rfl, hc⟩ := (H.out.below (by decide) HB.out).at_ hlt
      have hc0 : wr.cell? ⟨b, off + k * 2, none⟩ = some (.int .i64 (bF xs k)) := hc 0 (by decide)
      have hc1 : wr.cell? ⟨b, off + k * 2 + 1, none⟩ = some (.int .i64 (bL xs k)) := hc 1 (by decide)
      clear hc
      go_wp2_with fail
      refine (toBand_c _ _ _).mono ?_
      rintro e w2 ⟨v, rfl, rfl, hb2⟩
      have HB2 := Lib.hid (HB.out.trans (hb2.mono HB.out.size))
      have HOwn2 := Lib.hid (HOwn.out.below hb2)
      clear hb2 hc0 hc1
      obtain ⟨g, hge, hg1, hgc, hgf⟩ := HOwn2.out.at_ hlt
      simp only [Option.some.injEq, Addr.mk.injEq] at hge
      obtain ⟨rfl, _, _⟩ := hge
      have hg0 : w2.cell? ⟨w.heap.size, k * 2, none⟩ = some (c k 0) := hgc 0 (by decide)
      have hg1 : w2.cell? ⟨w.heap.size, k * 2 + 1, none⟩ = some (c k 1) := hgc 1 (by decide)
      have hf0 := hgf (k * 2)
      have hf1 := hgf (k * 2 + 1)
      clear hgc hgf
      go_wp2
      go_roundw
      case rel =>
        refine ⟨k + 1, _, hlt, by go_num, (HOwn2.out.set1 hlt (j := 0) (by decide) _).set1 hlt (j := 1) (by decide) _, (HB2.out.setCell (Nat.le_refl _) _).setCell (Nat.le_refl _) _, ?_⟩
        intro j q hj hq
        simp only [updC]
        by_cases e : j = k
        · subst e
          have : q = 0 ∨ q = 1 := by omega
          rcases this with rfl | rfl <;> simp [bC]
        · rw [if_neg e, if_neg e]; exact HAll.out j q (by omega) hq
      case measure => simp [intOf]; omega
    · go_wp2
      go_ret
      refine Ret.mk1 ?_ HB.out
      exact HOwn.out.congr (fun i j hi hj => HAll.out i j (by omega) hj)

def eq2B (a b c d : Int) : Bool := a == c && b == d

theorem eqBand_c (a b c d : Int) (w : World) :
    Calls Try.prog 33 #[.agg #[.int .i64 a, .int .i64 b], .agg #[.int .i64 c, .int .i64 d]] w (Ret w fun v _ => v = .bool (eq2B a b c d)) := by
  by_cases h : a = c
  · by_cases h2 : b = d
    · have e1 : (a != c) = false := by simp [h]
      have e2 : (b != d) = false := by simp [h2]
      have HF : Hid (eq2B a b c d = true) := by subst h; subst h2; simp [Hid, eq2B]
      clear h h2
      go_enter Try.func33, Try.ntmps33
      go_wp2
      go_ret
      exact Ret.mk1 (boolv HF.out.symm) (by go_grown)
    · have e1 : (a != c) = false := by simp [h]
      have e2 : (b != d) = true := by simp [h2]
      have HF : Hid (eq2B a b c d = false) := by simp [Hid, eq2B, h2]
      clear h h2
      go_enter Try.func33, Try.ntmps33
      go_wp2
      go_ret
      exact Ret.mk1 (boolv HF.out.symm) (by go_grown)
  · have e1 : (a != c) = true := by simp [h]
    have HF : Hid (eq2B a b c d = false) := by simp [Hid, eq2B, h]
    clear h
    go_enter Try.func33, Try.ntmps33
    go_wp2
    go_ret
    exact Ret.mk1 (boolv HF.out.symm) (by go_grown)

/-- eqBandS: equal lists. -/
theorem eqBandS_c (va vb : Value) (xs ys : List (Int × Int)) (w : World) (ha : RdBand w va xs) (hb : RdBand w vb ys) :
    Calls Try.prog 26 #[va, vb] w (Ret w fun v _ => v = .bool (decide (xs = ys))) := by
  obtain ⟨a, ca, rfl, ma⟩ := ha.form
  obtain ⟨b, cb, rfl, mb⟩ := hb.form
  have HA := Lib.hid ha
  have HB := Lib.hid hb
  clear ha hb
  by_cases hl : xs.length = ys.length
  · have hl0 : ((xs.length : Int) != (ys.length : Int)) = false := by simp [hl]
    have HL := Lib.hid hl
    clear hl
    go_enter Try.func26, Try.ntmps26
    go_wp2
    go_loopw [5] (fun i wr => ∃ k : Nat, k ≤ xs.length ∧ i = .int .i64 k ∧ Below w.heap.size w wr ∧ ∀ j, j < k → bF xs j = bF ys j ∧ bL xs j = bL ys j) (fun i _ => xs.length - (intOf i).toNat)
    case atStart => exact ⟨0, Nat.zero_le _, rfl, Below.refl _ _, fun j h => absurd h (Nat.not_lt_zero _)⟩
    case round =>
      obtain ⟨k, hk, rfl, hbel, hall⟩ := hrel
      have HAll := Lib.hid hall
      have HBel := Lib.hid hbel
      clear hall hbel
      by_cases hlt : k < xs.length
      · obtain ⟨ba, oa, rfl, hca⟩ := (HA.out.below (by decide) HBel.out).at_ hlt
        have hltb : k < ys.length := HL.out ▸ hlt
        obtain ⟨bb, ob, rfl, hcb⟩ := (HB.out.below (by decide) HBel.out).at_ hltb
        have ha0 : wr.cell? ⟨ba, oa + k * 2, none⟩ = some (.int .i64 (bF xs k)) := hca 0 (by decide)
        have ha1 : wr.cell? ⟨ba, oa + k * 2 + 1, none⟩ = some (.int .i64 (bL xs k)) := hca 1 (by decide)
        have hb0 : wr.cell? ⟨bb, ob + k * 2, none⟩ = some (.int .i64 (bF ys k)) := hcb 0 (by decide)
        have hb1 : wr.cell? ⟨bb, ob + k * 2 + 1, none⟩ = some (.int .i64 (bL ys k)) := hcb 1 (by decide)
        clear hca hcb
        go_wp2
        go_region_held3 (fun wx => wx.cell? ⟨ba, oa + k * 2, none⟩ = some (.int .i64 (bF xs k)) ∧ wx.cell? ⟨ba, oa + k * 2 + 1, none⟩ = some (.int .i64 (bL xs k)) ∧ wx.cell? ⟨bb, ob + k * 2, none⟩ = some (.int .i64 (bF ys k)) ∧ wx.cell? ⟨bb, ob + k * 2 + 1, none⟩ = some (.int .i64 (bL ys k))) (first | exact ⟨ha0, ha1, hb0, hb1⟩ | exact ⟨(hb2.cell (cell_lt ha0)).trans ha0, (hb2.cell (cell_lt ha1)).trans ha1, (hb2.cell (cell_lt hb0)).trans hb0, (hb2.cell (cell_lt hb1)).trans hb1⟩) (first | (go_at_call 33; refine (eqBand_c _ _ _ _ _).mono ?_; rintro e w2 ⟨v, rfl, rfl, hb2⟩))
        have HB2 := Lib.hid (HBel.out.trans ((below_undrew hb2).mono HBel.out.size))
        clear hb2
        cases he : eq2B (bF xs k) (bL xs k) (bF ys k) (bL ys k)
        · have HE : Hid (xs ≠ ys) := by
            intro e
            subst e
            simp [eq2B] at he
          go_wp2
          go_ret
          exact Ret.mk1 (by have := HE.out; simp [this]) HB2.out
        · have HE : Hid (bF xs k = bF ys k ∧ bL xs k = bL ys k) := by simpa [Hid, eq2B] using he
          go_wp2
          go_roundw
          case rel =>
            refine ⟨k + 1, hlt, by go_num, HB2.out, ?_⟩
            intro j hj
            rcases Nat.lt_succ_iff_lt_or_eq.1 hj with h | rfl
            · exact HAll.out j h
            · exact HE.out
          case measure => simp [intOf]; omega
      · go_wp2
        go_ret
        refine Ret.mk1 ?_ HBel.out
        have : xs = ys := band_ext HL.out (fun i hi => HAll.out i (by omega))
        simp [this]
  · have hl0 : ((xs.length : Int) != (ys.length : Int)) = true := by simp; omega
    have HN : Hid (xs ≠ ys) := Lib.hid (by rintro rfl; exact hl rfl)
    clear hl
    go_enter Try.func26, Try.ntmps26
    go_wp2
    go_ret
    exact Ret.mk1 (by have := HN.out; simp [this]) (Below.refl _ _)

/-- how two bands follow each other, and where they lie -/
def bvAt (xs : List (Int × Int)) (k : Nat) : Bool :=
  decide (0 ≤ bF xs k ∧ bF xs k ≤ bL xs k ∧ bL xs k ≤ 63) && (decide (k = 0) || decide (bL xs (k - 1) < bF xs k))
/-- the first k bands are valid -/
def bvTo (xs : List (Int × Int)) (k : Nat) : Prop := ∀ i, i < k → bvAt xs i = true
/-- BandsValid -/
def bvB (xs : List (Int × Int)) : Bool := decide (xs.length ≤ 64) && (List.range xs.length).all (bvAt xs)

theorem bvB_true {xs : List (Int × Int)} : bvB xs = true ↔ xs.length ≤ 64 ∧ bvTo xs xs.length := by
  simp [bvB, bvTo]
theorem bvB_bad {xs : List (Int × Int)} {k : Nat} (hk : k < xs.length) (h : bvAt xs k = false) : bvB xs = false := by
  cases hb : bvB xs
  · rfl
  · have := (bvB_true.1 hb).2 k hk
    rw [h] at this; exact this.symm

/-- the first channel that is left behind the first k bands -/
def nxtB (xs : List (Int × Int)) (k : Nat) : Int := if k = 0 then 0 else bL xs (k - 1) + 1
theorem bvAt_iff {xs : List (Int × Int)} {k : Nat} (h : bvTo xs k) : bvAt xs k = true ↔ nxtB xs k ≤ bF xs k ∧ bF xs k ≤ bL xs k ∧ bL xs k < 64 := by
  unfold bvAt nxtB
  rcases Nat.eq_zero_or_pos k with rfl | hk
  · simp; omega
  · have hp := h (k - 1) (by omega)
    unfold bvAt at hp
    simp only [Bool.and_eq_true, decide_eq_true_eq, Bool.or_eq_true] at hp
    rw [if_neg (by omega)]
    simp only [Bool.and_eq_true, decide_eq_true_eq, Bool.or_eq_true]
    omega
theorem nxtB_bd {xs : List (Int × Int)} {k : Nat} (h : bvTo xs k) : 0 ≤ nxtB xs k ∧ nxtB xs k ≤ 64 := by
  unfold nxtB
  rcases Nat.eq_zero_or_pos k with rfl | hk
  · simp
  · have hp := h (k - 1) (by omega)
    unfold bvAt at hp
    simp only [Bool.and_eq_true, decide_eq_true_eq, Bool.or_eq_true] at hp
    rw [if_neg (by omega)]; omega
theorem bvTo_succ {xs : List (Int × Int)} {k : Nat} (h : bvTo xs k) (h' : bvAt xs k = true) : bvTo xs (k + 1) := by
  intro i hi
  rcases Nat.lt_succ_iff_lt_or_eq.1 hi with h1 | rfl
  · exact h i h1
  · exact h'

theorem implBandsValid_c (va : Value) (xs : List (Int × Int)) (w : World) (h : RdBand w va xs) :
    Calls Try.prog 25 #[va] w (Ret w fun v _ => v = .bool (bvB xs)) := by
  obtain ⟨a, ca, rfl, ma⟩ := h.form
  have H := Lib.hid h
  clear h
  by_cases hl : 64 < xs.length
  · have HF : Hid (bvB xs = false) := by simp [Hid, bvB]; omega
    go_enter Try.func25, Try.ntmps25
    go_wp2
    go_ret
    exact Ret.mk1 (boolv HF.out.symm) (Below.refl _ _)
  go_enter Try.func25, Try.ntmps25
  go_wp2
  go_loopw [3, 11] (fun nx i wr => ∃ k : Nat, k ≤ xs.length ∧ i = .int .i64 k ∧ nx = .int .i64 (nxtB xs k) ∧ Below w.heap.size w wr ∧ bvTo xs k) (fun _ i _ => xs.length - (intOf i).toNat)
  case atStart => exact ⟨0, Nat.zero_le _, rfl, rfl, Below.refl _ _, fun j h => absurd h (Nat.not_lt_zero _)⟩
  case round =>
    obtain ⟨k, hk, rfl, rfl, hbel, hall⟩ := hrel
    have HAll := Lib.hid hall
    have HBel := Lib.hid hbel
    have hiff := bvAt_iff hall
    obtain ⟨hn0, hn1⟩ := nxtB_bd hall
    clear hall hbel
    by_cases hlt : k < xs.length
    · obtain ⟨ba, oa, rfl, hca⟩ := (H.out.below (by decide) HBel.out).at_ hlt
      have ha0 : wr.cell? ⟨ba, oa + k * 2, none⟩ = some (.int .i64 (bF xs k)) := hca 0 (by decide)
      have ha1 : wr.cell? ⟨ba, oa + k * 2 + 1, none⟩ = some (.int .i64 (bL xs k)) := hca 1 (by decide)
      clear hca
      by_cases h0 : nxtB xs k ≤ bF xs k ∧ bF xs k ≤ bL xs k ∧ bL xs k < 64
      · obtain ⟨h1, h2, h3⟩ := h0
        have HA := Lib.hid (hiff.2 ⟨h1, h2, h3⟩)
        clear hiff
        go_wp2
        go_roundw
        case rel => exact ⟨k + 1, hlt, by go_num, by simp [nxtB], HBel.out.alloc HBel.out.size _, bvTo_succ HAll.out HA.out⟩
        case measure => simp [intOf]; omega
      · have HF : Hid (bvB xs = false) := bvB_bad hlt (by
          cases hb : bvAt xs k
          · rfl
          · exact absurd (hiff.1 hb) h0)
        clear hiff
        by_cases h1 : bF xs k < nxtB xs k
        · clear h0
          go_wp2
          go_ret
          exact Ret.mk1 (boolv HF.out.symm) (HBel.out.alloc HBel.out.size _)
        by_cases h2 : bL xs k < bF xs k
        · clear h0
          go_wp2
          go_ret
          exact Ret.mk1 (boolv HF.out.symm) (HBel.out.alloc HBel.out.size _)
        have h3 : 64 ≤ bL xs k := by omega
        clear h0
        go_wp2
        go_ret
        exact Ret.mk1 (boolv HF.out.symm) (HBel.out.alloc HBel.out.size _)
    · go_wp2
      go_ret
      refine Ret.mk1 (boolv ?_) HBel.out
      obtain rfl : k = xs.length := by omega
      exact (bvB_true.2 ⟨by omega, HAll.out⟩).symm

theorem specBandsValid_c (va : Value) (xs : List (Int × Int)) (w : World) (h : RdBand w va xs) :
    Calls Try.prog 23 #[va] w (RetQ w (.bool (bvB xs))) := by
  obtain ⟨a, ca, rfl, ma⟩ := h.form
  have H := Lib.hid h
  clear h
  go_enter Try.func23, Try.ntmps23
  go_wp2
  go_loopw [3] (fun i wr => ∃ k : Nat, k ≤ xs.length ∧ i = .int .i64 k ∧ SameW w wr ∧ bvTo xs k) (fun i _ => xs.length - (intOf i).toNat)
  case atStart => exact ⟨0, Nat.zero_le _, rfl, SameW.refl _, fun j h => absurd h (Nat.not_lt_zero _)⟩
  case round =>
    obtain ⟨k, hk, rfl, hsame, hall⟩ := hrel
    have HAll := Lib.hid hall
    have HS := Lib.hid hsame
    have hiff := bvAt_iff hall
    clear hall hsame
    by_cases hlt : k < xs.length
    · obtain ⟨ba, oa, rfl, hca⟩ := (H.out.below (by decide) HS.out.below).at_ hlt
      have ha0 : wr.cell? ⟨ba, oa + k * 2, none⟩ = some (.int .i64 (bF xs k)) := hca 0 (by decide)
      have ha1 : wr.cell? ⟨ba, oa + k * 2 + 1, none⟩ = some (.int .i64 (bL xs k)) := hca 1 (by decide)
      clear hca
      cases h1 : inB (bF xs k) 0 63
      · have HF : Hid (bvB xs = false) := bvB_bad hlt (by
          have := inB_false.1 h1
          simp only [bvAt, Bool.and_eq_false_iff, decide_eq_false_iff_not]; omega)
        clear hiff
        go_wp2
        go_quiet ((go_at_call 27; exact quiet_of (l1In_c _ _ _ _)))
        go_wp2
        go_ret
        exact RetQ.mkS (boolv HF.out.symm) (HS.out.drewN _)
      cases h2 : inB (bL xs k) (bF xs k) 63
      · have HF : Hid (bvB xs = false) := bvB_bad hlt (by
          have := inB_false.1 h2
          have := inB_true.1 h1
          simp only [bvAt, Bool.and_eq_false_iff, decide_eq_false_iff_not]; omega)
        clear hiff
        go_wp2
        go_quiet ((go_at_call 27; exact quiet_of (l1In_c _ _ _ _)))
        go_wp2
        go_ret
        exact RetQ.mkS (boolv HF.out.symm) (HS.out.drewN _)
      obtain ⟨i1, i2⟩ := inB_true.1 h1
      obtain ⟨i3, i4⟩ := inB_true.1 h2
      rcases Nat.eq_zero_or_pos k with hz | hz
      · have HA : Hid (bvTo xs (k + 1)) := bvTo_succ HAll.out (hiff.2 (by subst hz; simp [nxtB]; omega))
        have hz1 : decide (0 < k) = false := by simp; omega
        have hz2 : ¬ (0 < k) := by omega
        have HZ := Lib.hid hz
        clear hiff hz
        go_wp2
        go_quiet ((go_at_call 27; exact quiet_of (l1In_c _ _ _ _)))
        go_wp2
        go_roundw
        case rel => exact ⟨k + 1, hlt, by go_num, HS.out.drewN _, HA.out⟩
        case measure => simp [intOf]; omega
      · obtain ⟨bp, op, he, hcp⟩ := (H.out.below (by decide) HS.out.below).at_ (show k - 1 < xs.length by omega)
        simp only [Option.some.injEq, Addr.mk.injEq, and_true] at he
        obtain ⟨rfl, rfl⟩ := he
        have hp1 : wr.cell? ⟨ba, oa + (k - 1) * 2 + 1, none⟩ = some (.int .i64 (bL xs (k - 1))) := hcp 1 (by decide)
        clear hcp
        by_cases h3 : bF xs k ≤ bL xs (k - 1)
        · have HF : Hid (bvB xs = false) := bvB_bad hlt (by
            simp only [bvAt, Bool.and_eq_false_iff, decide_eq_false_iff_not, Bool.or_eq_false_iff]; omega)
          clear hiff
          go_wp2
          go_quiet ((go_at_call 27; exact quiet_of (l1In_c _ _ _ _)))
          go_wp2
          go_ret
          exact RetQ.mkS (boolv HF.out.symm) (HS.out.drewN _)
        · have HA : Hid (bvTo xs (k + 1)) := bvTo_succ HAll.out (hiff.2 (by unfold nxtB; rw [if_neg (by omega)]; omega))
          have h3' : decide (bF xs k ≤ bL xs (k - 1)) = false := by simpa using h3
          clear hiff
          go_wp2
          go_quiet ((go_at_call 27; exact quiet_of (l1In_c _ _ _ _)))
          go_wp2
          go_roundw
          case rel => exact ⟨k + 1, hlt, by go_num, HS.out.drewN _, HA.out⟩
          case measure => simp [intOf]; omega
    · obtain rfl : k = xs.length := by omega
      have HF : Hid (bvB xs = decide (((xs.length : Nat) : Int) ≤ 64)) := by
        unfold Hid
        by_cases h : xs.length ≤ 64
        · rw [bvB_true.2 ⟨h, HAll.out⟩]; simp; omega
        · have : bvB xs = false := by simp [bvB, h]
          rw [this]; simp; omega
      go_wp2
      go_ret
      exact RetQ.mkS (boolv HF.out.symm) HS.out

theorem szBandS_c (va : Value) (xs : List (Int × Int)) (w : World) (h : RdBand w va xs) :
    Calls Try.prog 22 #[va, .int .i64 1048576] w (RetQ w (.int .i64 (if xs.length ≤ 1048576 then 1048576 - (xs.length : Int) else -1))) := by
  obtain ⟨a, ca, rfl, ma⟩ := h.form
  clear h
  by_cases hl : xs.length ≤ 1048576
  · rw [if_pos hl]
    go_enter Try.func22, Try.ntmps22
    go_wp2
    go_ret
    exact RetQ.mkS rfl (SameW.refl _)
  · rw [if_neg hl]
    go_enter Try.func22, Try.ntmps22
    go_wp2
    go_ret
    exact RetQ.mkS rfl (SameW.refl _)

theorem bandC_of {n : Nat} {c : Nat → Nat → Value} (h : ∀ i, i < n → isInts2 (c i)) : ∃ xs : List (Int × Int), xs.length = n ∧ ∀ i j, i < n → j < 2 → c i j = bC xs i j := by
  have each : ∀ i, i < n → ∃ q : Int × Int, c i 0 = .int .i64 q.1 ∧ c i 1 = .int .i64 q.2 := fun i hi => by
    obtain ⟨a, b, e0, e1, _⟩ := h i hi
    exact ⟨(a, b), e0, e1⟩
  obtain ⟨f, hf⟩ := Go.Deep.choose_lt each
  refine ⟨(List.range n).map f, by simp, fun i j hi hj => ?_⟩
  have : j = 0 ∨ j = 1 := by omega
  rcases this with rfl | rfl
  · rw [(hf i hi).1]; simp [bC, bF, hi]
  · rw [(hf i hi).2]; simp [bC, bL, hi]

theorem openBands {H : Type} {enc : TypeId × Value → H} {w : World} {spare : Nat → Bool} {held : Bool} {r : Reach} {bs : Nat} {v : Value} {d : DataW H} {p : List MemPlace}
    (hv : Value.okWide Try.prog w r bs 39 v) (h : DataW.Trod enc Try.prog w 0 spare held 39 v d p) : ∃ xs, RdBand w v xs := by
  obtain ⟨n, c, hr, hq⟩ := rdM_of_trod (m := 2) Try.underlying39 (by kernel_rfl) (by decide) hv h isInts2
    (fun n cs x hx => ints2_of_trod Try.underlying53 rfl rfl (by kernel_rfl) (by kernel_rfl) (by kernel_rfl) Try.underlying3 Try.underlying3 hx)
  obtain ⟨xs, hl, hc⟩ := bandC_of hq
  subst hl
  exact ⟨xs, hr.congr hc⟩

theorem fnExactBandsValid_c (va : Value) (xs : List (Int × Int)) (w : World) (h : RdBand w va xs) :
    Calls Try.prog 8 #[va] w (Ret w fun v _ => v = .bool true) := by
  have hform := h.form
  have H := Lib.hid h
  clear h
  by_cases hl : xs.length ≤ 1048576
  · go_enter Try.func8, Try.ntmps8
    go_wp2_with fail
    refine (szBandS_c _ xs _ H.out).mono ?_
    rintro e w0 ⟨rfl, n0, rfl⟩
    rw [if_pos hl]
    go_wp2_with fail
    refine (toBandS_c _ xs _ (H.out.drewN (by decide) _) hl).mono ?_
    rintro e w1 ⟨v1, rfl, ho1, hb1⟩
    have HO1 := Lib.hid ho1
    have HB1 := Lib.hid (below_undrewN hb1)
    clear ho1 hb1
    go_wp2_with fail
    refine (specBandsValid_c _ xs _ HO1.out.rd).mono ?_
    rintro e w2 hr2
    obtain ⟨rfl, hs2⟩ := hr2.same
    have HB2 := Lib.hid (HB1.out.trans (hs2.below.mono HB1.out.size))
    clear hr2 hs2
    go_wp2_with fail
    refine (toBandS_c _ xs _ (H.out.below (by decide) HB2.out) hl).mono ?_
    rintro e w3 ⟨v3, rfl, ho3, hb3⟩
    have HO3 := Lib.hid ho3
    have HB3 := Lib.hid (HB2.out.trans (hb3.mono HB2.out.size))
    clear ho3 hb3
    go_wp2_with fail
    refine (implBandsValid_c _ xs _ HO3.out.rd).mono ?_
    rintro e w4 ⟨v, rfl, rfl, hb4⟩
    have HO4 := Lib.hid (HO3.out.below hb4)
    have HB4 := Lib.hid (HB3.out.trans (hb4.mono HB3.out.size))
    clear hb4
    have hcmp : (bvB xs != bvB xs) = false := bne_self_eq_false _
    go_wp2_with fail
    refine (toBandS_c _ xs _ (H.out.below (by decide) HB4.out) hl).mono ?_
    rintro e w5 ⟨v5, rfl, ho5, hb5⟩
    have HO5 := Lib.hid ho5
    have HO6 := Lib.hid (HO4.out.below hb5)
    have HB5 := Lib.hid (HB4.out.trans (hb5.mono HB4.out.size))
    clear ho5 hb5
    go_wp2_with fail
    refine (eqBandS_c _ _ xs xs _ HO6.out.rd HO5.out.rd).mono ?_
    rintro e w6 ⟨v, rfl, rfl, hb6⟩
    have hd : decide (xs = xs) = true := by simp
    have HB6 := Lib.hid (HB5.out.trans (hb6.mono HB5.out.size))
    clear hb6
    go_wp2
    go_ret
    exact Ret.mk1 rfl HB6.out
  · go_enter Try.func8, Try.ntmps8
    go_wp2_with fail
    refine (szBandS_c _ xs _ H.out).mono ?_
    rintro e w0 hr0
    obtain ⟨rfl, hs0⟩ := hr0.same
    have HB := Lib.hid hs0.below
    clear hr0 hs0
    rw [if_neg hl]
    go_wp2
    go_ret
    exact Ret.mk1 rfl HB.out

end Go.Proofs.Ythgfkfimkaiknaa
