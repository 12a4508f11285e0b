import Derived.Test.YtpcmfmkpgidgpaaDoorProg
import Derived.Test.YtpcmfmkpgidgpaaDoorLib
import Derived.Test.YtpcmfmkpgidgpaaDoorMem
import Derived.Test.YtpcmfmkpgidgpaaDoorNum
import Derived.Test.YtpcmfmkpgidgpaaDoorSym
import Derived.Test.YtpcmfmkpgidgpaaDoorInts
import Derived.Test.YtpcmfmkpgidgpaaDoorBlk
namespace Go.Proofs.YtpcmfmkpgidgpaaDoor
open Go.RowKit

/-! Bits that are stuffed. -/
/-- what k bits come to, and how many 1 stand at the end -/
def stS (bs : List Int) : Nat → List Int × Nat
  | 0 => ([], 0)
  | k + 1 => if gi bs k = 0 then ((stS bs k).1 ++ [gi bs k], 0) else if (stS bs k).2 + 1 < 5 then ((stS bs k).1 ++ [gi bs k], (stS bs k).2 + 1) else ((stS bs k).1 ++ [gi bs k] ++ [0], 0)
theorem stS_0 {bs : List Int} {k : Nat} (h : gi bs k = 0) : stS bs (k + 1) = ((stS bs k).1 ++ [0], 0) := by simp only [stS]; rw [if_pos h, h]
theorem stS_1 {bs : List Int} {k : Nat} (h : gi bs k = 1) (h2 : (stS bs k).2 + 1 < 5) : stS bs (k + 1) = ((stS bs k).1 ++ [1], (stS bs k).2 + 1) := by simp only [stS]; rw [if_neg (by omega), if_pos h2, h]
theorem stS_5 {bs : List Int} {k : Nat} (h : gi bs k = 1) (h2 : ¬ (stS bs k).2 + 1 < 5) : stS bs (k + 1) = ((stS bs k).1 ++ [1] ++ [0], 0) := by simp only [stS]; rw [if_neg (by omega), if_neg h2, h]
theorem stS_bd (bs : List Int) : ∀ k, (stS bs k).2 ≤ 4 ∧ 5 * (stS bs k).1.length + (stS bs k).2 ≤ 6 * k
  | 0 => by simp [stS]
  | k + 1 => by
    have ih := stS_bd bs k
    simp only [stS]
    split
    · simp; omega
    · split
      · simp; omega
      · simp; omega
/-- StuffBits -/
def stV (bs : List Int) : List Int := if bitsB bs && decide (bs.length ≤ 512) then (stS bs bs.length).1 else []
theorem stV_bad {bs : List Int} (h : bitsB bs = false) : stV bs = [] := by simp [stV, h]
theorem stV_long {bs : List Int} (h : 512 < bs.length) : stV bs = [] := by
  have : ¬ bs.length ≤ 512 := by omega
  simp [stV, this]
theorem stV_ok {bs : List Int} (h : bitsB bs = true) (h2 : bs.length ≤ 512) : stV bs = (stS bs bs.length).1 := by simp [stV, h, h2]
theorem stV_len (bs : List Int) : (stV bs).length ≤ 1024 := by
  unfold stV
  split
  · next h =>
    simp only [Bool.and_eq_true, decide_eq_true_eq] at h
    have := (stS_bd bs bs.length).2
    omega
  · simp

/-- UnstuffBits: what k bits come to, and how many 1 stand at the end -/
def unS (bs : List Int) : Nat → Option (List Int × Nat)
  | 0 => some ([], 0)
  | k + 1 => match unS bs k with
    | none => none
    | some (out, o) => if o = 5 then (if gi bs k = 0 then some (out, 0) else none) else if gi bs k = 0 then some (out ++ [0], 0) else if gi bs k = 1 then some (out ++ [1], o + 1) else none
theorem unS_skip {bs : List Int} {k : Nat} {out : List Int} (h : unS bs k = some (out, 5)) (hb : gi bs k = 0) : unS bs (k + 1) = some (out, 0) := by simp [unS, h, hb]
theorem unS_full {bs : List Int} {k : Nat} {out : List Int} (h : unS bs k = some (out, 5)) (hb : gi bs k ≠ 0) : unS bs (k + 1) = none := by simp [unS, h, hb]
theorem unS_0 {bs : List Int} {k o : Nat} {out : List Int} (h : unS bs k = some (out, o)) (ho : o ≠ 5) (hb : gi bs k = 0) : unS bs (k + 1) = some (out ++ [0], 0) := by simp [unS, h, ho, hb]
theorem unS_1 {bs : List Int} {k o : Nat} {out : List Int} (h : unS bs k = some (out, o)) (ho : o ≠ 5) (hb : gi bs k = 1) : unS bs (k + 1) = some (out ++ [1], o + 1) := by simp [unS, h, ho, hb]
theorem unS_bad {bs : List Int} {k o : Nat} {out : List Int} (h : unS bs k = some (out, o)) (hb : gi bs k ≠ 0) (hb1 : gi bs k ≠ 1) : unS bs (k + 1) = none := by
  by_cases ho : o = 5 <;> simp [unS, h, ho, hb, hb1]
theorem unS_none {bs : List Int} {k : Nat} (h : unS bs k = none) : ∀ d, unS bs (k + d) = none
  | 0 => h
  | d + 1 => by rw [← Nat.add_assoc]; simp only [unS, unS_none h d]
theorem unS_bd {bs : List Int} : ∀ {k : Nat} {out : List Int} {o : Nat}, unS bs k = some (out, o) → o ≤ 5 ∧ out.length ≤ k ∧ 5 * k + o ≤ 6 * out.length
  | 0, out, o, h => by simp [unS] at h; obtain ⟨rfl, rfl⟩ := h; simp
  | k + 1, out, o, h => by
    cases hk : unS bs k with
    | none => simp [unS, hk] at h
    | some q =>
      obtain ⟨out', o'⟩ := q
      have ih := unS_bd hk
      simp only [unS, hk] at h
      split at h
      · next e =>
        split at h
        · simp at h; obtain ⟨rfl, rfl⟩ := h; omega
        · cases h
      · split at h
        · simp at h; obtain ⟨rfl, rfl⟩ := h; simp; omega
        · split at h
          · simp at h; obtain ⟨rfl, rfl⟩ := h; simp; omega
          · cases h
/-- UnstuffBits -/
def unR (bs : List Int) : List Int × Bool := match unS bs bs.length with
  | some (out, o) => if o = 5 ∨ 512 < out.length then ([], false) else (out, true)
  | none => ([], false)
theorem unR_none {bs : List Int} {k : Nat} (h : unS bs k = none) (hk : k ≤ bs.length) : unR bs = ([], false) := by
  have := unS_none h (bs.length - k)
  rw [Nat.add_sub_cancel' hk] at this
  simp [unR, this]
theorem unR_bad {bs : List Int} {out : List Int} {o : Nat} (h : unS bs bs.length = some (out, o)) (h2 : o = 5 ∨ 512 < out.length) : unR bs = ([], false) := by simp [unR, h, h2]
theorem unR_ok {bs : List Int} {out : List Int} {o : Nat} (h : unS bs bs.length = some (out, o)) (h2 : o ≠ 5) (h3 : out.length ≤ 512) : unR bs = (out, true) := by
  have : ¬ (o = 5 ∨ 512 < out.length) := by omega
  simp [unR, h, this]
theorem unR_len (bs : List Int) : (unR bs).1.length ≤ 512 := by
  unfold unR
  split
  · split <;> simp; omega
  · simp
theorem unR_bits {bs : List Int} (h : bitsB bs = false) : unR bs = ([], false) := by
  cases hu : unS bs bs.length with
  | none => exact unR_none hu (Nat.le_refl _)
  | some q =>
    obtain ⟨out, o⟩ := q
    have hbd := unS_bd hu
    rcases Nat.lt_or_ge 1024 bs.length with hl | hl
    · exact unR_bad hu (.inr (by omega))
    · exfalso
      have hall : ∀ i, i < bs.length → gi bs i = 0 ∨ gi bs i = 1 := by
        intro i hi
        by_cases h0 : gi bs i = 0
        · exact .inl h0
        by_cases h1 : gi bs i = 1
        · exact .inr h1
        exfalso
        have hn : unS bs (i + 1) = none := by
          cases hk : unS bs i with
          | none => simp only [unS, hk]
          | some q => obtain ⟨a, b⟩ := q; exact unS_bad hk h0 h1
        have := unS_none hn (bs.length - (i + 1))
        rw [Nat.add_sub_cancel' hi] at this
        rw [this] at hu; cases hu
      have : bitsB bs = true := bitsB_true.2 ⟨hl, hall⟩
      rw [h] at this; cases this

theorem specBitsValid_c (va : Value) (xs : List Int) (w : World) (h : RdI w va xs) :
    Calls Tryd.prog 34 #[va] w (RetQ w (.bool (bitsB xs))) := by
  obtain ⟨a, ca, rfl, ml⟩ := h.form
  have H := Lib.hid h
  clear h
  go_enter Tryd.func34, Tryd.ntmps34
  go_wp2
  go_loopw [3] (fun i wr => ∃ k : Nat, k ≤ xs.length ∧ i = .int .i64 k ∧ SameW w wr ∧ Hid (∀ i, i < k → gi xs i = 0 ∨ gi xs i = 1)) (fun i _ => xs.length - (intOf i).toNat)
  case atStart => exact ⟨0, Nat.zero_le _, rfl, SameW.refl _, Lib.hid (fun i h => absurd h (Nat.not_lt_zero _))⟩
  case round =>
    obtain ⟨k, hk, rfl, hsame, HX⟩ := hrel
    have HS := Lib.hid hsame
    clear hsame
    by_cases hlt : k < xs.length
    · obtain ⟨b, off, rfl, hc⟩ := (H.out.below HS.out.below).at_ hlt
      go_wp2_with fail
      refine (l1In_c (gi xs k) 0 1 _).mono ?_
      rintro e w1 hr
      obtain ⟨rfl, hs1⟩ := hr.same
      have HS1 := Lib.hid (HS.out.trans hs1)
      clear hs1 hr hc
      cases hin : inB (gi xs k) 0 1
      · have hbad := inB_false.1 hin
        go_wp2
        go_ret
        exact RetQ.mkS (boolv (bitsB_bad hlt (by omega) (by omega)).symm) HS1.out
      · have hok := inB_true.1 hin
        go_wp2
        go_roundw
        case rel =>
          refine ⟨k + 1, hlt, by go_num, HS1.out, Lib.hid ?_⟩
          intro i hi
          rcases Nat.lt_succ_iff_lt_or_eq.1 hi with h1 | rfl
          · exact HX.out i h1
          · omega
        case measure => simp [intOf]; omega
    · obtain rfl : k = xs.length := by omega
      have HF : Hid (bitsB xs = decide ((xs.length : Int) ≤ 1024)) := by
        unfold Hid
        by_cases h : xs.length ≤ 1024
        · rw [bitsB_true.2 ⟨h, HX.out⟩]; simp; omega
        · have : bitsB xs = false := by
            cases hb : bitsB xs
            · rfl
            · exact absurd (bitsB_true.1 hb).1 h
          rw [this]; simp; omega
      go_wp2
      go_ret
      exact RetQ.mkS (boolv HF.out.symm) HS.out






end Go.Proofs.YtpcmfmkpgidgpaaDoor
