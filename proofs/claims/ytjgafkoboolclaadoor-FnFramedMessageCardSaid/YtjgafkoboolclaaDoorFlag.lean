import Derived.Test.YtjgafkoboolclaaDoorProg
import Derived.Test.YtjgafkoboolclaaDoorLib
import Derived.Test.YtjgafkoboolclaaDoorInts
namespace Go.Proofs.YtjgafkoboolclaaDoor
open Go.RowKit

/-! Flags in a list of bits, by a window of eight bits, and one bit after the other. -/
def flagL : List Int := [0, 1, 1, 1, 1, 1, 1, 0]
def flagAt (bs : List Int) (i : Nat) : Bool := decide (i + 8 ≤ bs.length) && (decide (gi bs i = 0) && decide (gi bs (i + 1) = 1) && decide (gi bs (i + 2) = 1) && decide (gi bs (i + 3) = 1) && decide (gi bs (i + 4) = 1) && decide (gi bs (i + 5) = 1) && decide (gi bs (i + 6) = 1) && decide (gi bs (i + 7) = 0))
/-- the last eight of the first k bits, as a number -/
def rcN (bs : List Int) : Nat → Int
  | 0 => 0
  | k + 1 => (2 * rcN bs k + gi bs k) % 256
theorem rcN_bd (bs : List Int) : ∀ k, 0 ≤ rcN bs k ∧ rcN bs k < 256
  | 0 => by simp [rcN]
  | k + 1 => by simp only [rcN]; omega
theorem rc_mod (x b : Int) : (2 * (x % 256) + b) % 256 = (2 * x + b) % 256 := by omega
theorem rcN_word (bs : List Int) (k : Nat) : rcN bs (k + 8) = (256 * rcN bs k + (128 * gi bs k + 64 * gi bs (k + 1) + 32 * gi bs (k + 2) + 16 * gi bs (k + 3) + 8 * gi bs (k + 4) + 4 * gi bs (k + 5) + 2 * gi bs (k + 6) + gi bs (k + 7))) % 256 := by
  simp only [rcN, rc_mod]
  congr 1
  omega
theorem rc_flag {bs : List Int} {k : Nat} (hb : ∀ i, i < bs.length → gi bs i = 0 ∨ gi bs i = 1) (h : k + 8 ≤ bs.length) : (rcN bs (k + 8) == 126) = flagAt bs k := by
  rw [rcN_word]
  have h0 := hb k (by omega)
  have h1 := hb (k + 1) (by omega)
  have h2 := hb (k + 2) (by omega)
  have h3 := hb (k + 3) (by omega)
  have h4 := hb (k + 4) (by omega)
  have h5 := hb (k + 5) (by omega)
  have h6 := hb (k + 6) (by omega)
  have h7 := hb (k + 7) (by omega)
  unfold flagAt
  generalize gi bs k = a0 at *
  generalize gi bs (k + 1) = a1 at *
  generalize gi bs (k + 2) = a2 at *
  generalize gi bs (k + 3) = a3 at *
  generalize gi bs (k + 4) = a4 at *
  generalize gi bs (k + 5) = a5 at *
  generalize gi bs (k + 6) = a6 at *
  generalize gi bs (k + 7) = a7 at *
  rw [Bool.eq_iff_iff]
  simp only [beq_iff_eq, Bool.and_eq_true, decide_eq_true_eq]
  omega
theorem flagAt_far {bs : List Int} {k : Nat} (h : bs.length < k + 8) : flagAt bs k = false := by
  unfold flagAt
  have : ¬ k + 8 ≤ bs.length := by omega
  simp [this]
/-- the frames between the flags that begin ahead of index k, and the last of these flags; 'btw' gives what is between two flags -/
def ffS (bs : List Int) (btw : Nat → Nat → List (List Int)) : Nat → Option Nat × List (List Int)
  | 0 => (none, [])
  | k + 1 => if flagAt bs k then (some k, match (ffS bs btw k).1 with
      | some l => if l + 8 ≤ k then (ffS bs btw k).2 ++ btw (l + 8) k else (ffS bs btw k).2
      | none => (ffS bs btw k).2) else ffS bs btw k
theorem ffS_far {bs : List Int} {btw : Nat → Nat → List (List Int)} : ∀ d, bs.length ≤ 7 → ffS bs btw d = (none, [])
  | 0, _ => rfl
  | d + 1, h => by simp only [ffS]; rw [flagAt_far (by omega)]; exact ffS_far d h
theorem ffS_end {bs : List Int} {btw : Nat → Nat → List (List Int)} {k : Nat} (h : bs.length ≤ k + 7) : ∀ d, ffS bs btw (k + d) = ffS bs btw k
  | 0 => rfl
  | d + 1 => by
    rw [← Nat.add_assoc]
    simp only [ffS]
    rw [flagAt_far (by omega)]
    exact ffS_end h d
theorem ffS_lt {bs : List Int} {btw : Nat → Nat → List (List Int)} : ∀ {k l : Nat}, (ffS bs btw k).1 = some l → l < k
  | 0, _, h => by simp [ffS] at h
  | k + 1, l, h => by
    simp only [ffS] at h
    split at h
    · simp at h; omega
    · have := ffS_lt h; omega
end Go.Proofs.YtjgafkoboolclaaDoor
