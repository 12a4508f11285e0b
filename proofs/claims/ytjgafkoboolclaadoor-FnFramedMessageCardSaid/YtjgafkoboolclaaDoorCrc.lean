import Derived.Test.YtjgafkoboolclaaDoorProg
import Derived.Test.YtjgafkoboolclaaDoorLib
namespace Go.Proofs.YtjgafkoboolclaaDoor
open Go.RowKit

/-! The remainder of a list of bits, modulo 2, by the polynomial 69665 of degree 16: bit by bit, and eight bits at a time. -/
/-- one coefficient more -/
def stepN (r b : Nat) : Nat := if 65536 ≤ 2 * r + b then (2 * r + b) ^^^ 69665 else 2 * r + b
/-- the coefficient of power 16 + k taken off -/
def offN (v k : Nat) : Nat := if v.testBit (16 + k) then v ^^^ (69665 <<< k) else v
def offTo (v : Nat) : Nat → Nat
  | 0 => v
  | k + 1 => offTo (offN v k) k
theorem xor16 {x : Nat} (h : 65536 ≤ x) (h2 : x < 131072) : x ^^^ 69665 < 65536 := by
  have e1 : (x ^^^ 69665).testBit 16 = false := by
    rw [Nat.testBit_xor]
    have : x.testBit 16 = true := by
      rw [Nat.testBit_eq_decide_div_mod_eq]
      simp; omega
    rw [this]; decide
  have h3 : x ^^^ 69665 < 2 ^ 17 := Nat.xor_lt_two_pow (by omega) (by decide)
  rcases Nat.lt_or_ge (x ^^^ 69665) 65536 with h4 | h4
  · exact h4
  · exfalso
    rw [Nat.testBit_eq_decide_div_mod_eq] at e1
    simp at e1
    omega
theorem stepN_lt {r b : Nat} (hr : r < 65536) (hb : b ≤ 1) : stepN r b < 65536 := by
  unfold stepN
  split
  · next h => exact xor16 h (by omega)
  · omega
/-- one step, in the word of which the rest is still to come -/
theorem off_step {r b k e : Nat} (hr : r < 65536) (hb : b ≤ 1) (he : e < 2 ^ k) : offN ((2 * r + b) * 2 ^ k + e) k = stepN r b * 2 ^ k + e := by
  have hd : ((2 * r + b) * 2 ^ k + e) / 2 ^ k = 2 * r + b := by
    rw [Nat.add_comm, Nat.add_mul_div_right _ _ (Nat.two_pow_pos k), Nat.div_eq_of_lt he, Nat.zero_add]
  have hm : ((2 * r + b) * 2 ^ k + e) % 2 ^ k = e := by
    rw [Nat.add_comm, Nat.add_mul_mod_self_right, Nat.mod_eq_of_lt he]
  have ht : ((2 * r + b) * 2 ^ k + e).testBit (16 + k) = decide (65536 ≤ 2 * r + b) := by
    rw [← Nat.testBit_div_two_pow, hd, Nat.testBit_eq_decide_div_mod_eq]
    rw [decide_eq_decide]
    omega
  unfold offN stepN
  rw [ht]
  by_cases h : 65536 ≤ 2 * r + b
  · rw [if_pos h, if_pos (by simpa using h)]
    have e1 : (((2 * r + b) * 2 ^ k + e) ^^^ (69665 <<< k)) / 2 ^ k = (2 * r + b) ^^^ 69665 := by
      rw [← Nat.shiftRight_eq_div_pow, Nat.shiftRight_xor_distrib, Nat.shiftRight_eq_div_pow, hd, Nat.shiftLeft_shiftRight]
    have e2 : (((2 * r + b) * 2 ^ k + e) ^^^ (69665 <<< k)) % 2 ^ k = e := by
      rw [Nat.xor_mod_two_pow, hm, Nat.shiftLeft_eq, Nat.mul_mod_left, Nat.xor_zero]
    have := Nat.div_add_mod (((2 * r + b) * 2 ^ k + e) ^^^ (69665 <<< k)) (2 ^ k)
    rw [e1, e2] at this
    rw [← this, Nat.mul_comm]
  · rw [if_neg h, if_neg (by simpa using h)]
/-- eight steps -/
def stepsN (r : Nat) (bits : List Nat) : Nat := bits.foldl stepN r
def wordN (bits : List Nat) : Nat := bits.foldl (fun v b => 2 * v + b) 0
theorem foldl_word (bits : List Nat) : ∀ v, bits.foldl (fun v b => 2 * v + b) v = v * 2 ^ bits.length + wordN bits := by
  induction bits with
  | nil => intro v; simp [wordN]
  | cons b bits ih =>
    intro v
    unfold wordN
    rw [List.foldl_cons, List.foldl_cons, ih, ih (2 * 0 + b), List.length_cons, Nat.pow_succ]
    simp only [Nat.mul_zero, Nat.zero_add, Nat.add_mul]
    rw [Nat.mul_comm 2 v, Nat.mul_assoc, Nat.mul_comm 2 (2 ^ bits.length), Nat.add_assoc]
theorem wordN_lt {bits : List Nat} (h : ∀ b ∈ bits, b ≤ 1) : wordN bits < 2 ^ bits.length := by
  induction bits with
  | nil => simp [wordN]
  | cons b bits ih =>
    have h1 := ih (fun x hx => h x (by simp [hx]))
    have hb := h b (by simp)
    unfold wordN
    rw [List.foldl_cons, foldl_word, List.length_cons, Nat.pow_succ]
    simp only [Nat.mul_zero, Nat.zero_add]
    have : b * 2 ^ bits.length ≤ 1 * 2 ^ bits.length := Nat.mul_le_mul_right _ hb
    omega
theorem off_steps : ∀ (bits : List Nat) (r : Nat), r < 65536 → (∀ b ∈ bits, b ≤ 1) → offTo (r * 2 ^ bits.length + wordN bits) bits.length = stepsN r bits
  | [], r, _, _ => by simp [offTo, stepsN, wordN]
  | b :: bits, r, hr, hb => by
    have h1 := wordN_lt (bits := bits) (fun x hx => hb x (by simp [hx]))
    have hb1 := hb b (by simp)
    have e : r * 2 ^ (b :: bits).length + wordN (b :: bits) = (2 * r + b) * 2 ^ bits.length + wordN bits := by
      rw [List.length_cons, Nat.pow_succ]
      show _ + (b :: bits).foldl _ 0 = _
      rw [List.foldl_cons, foldl_word]
      simp only [Nat.mul_zero, Nat.zero_add, Nat.add_mul]
      rw [Nat.mul_comm 2 r, Nat.mul_assoc, Nat.mul_comm 2 (2 ^ bits.length), Nat.add_assoc]
    rw [e, List.length_cons]
    show offTo (offN _ bits.length) bits.length = _
    rw [off_step hr hb1 h1, off_steps bits (stepN r b) (stepN_lt hr hb1) (fun x hx => hb x (by simp [hx]))]
    rfl
/-- the low sixteen coefficients go through -/
theorem offN_low {v low k : Nat} (h : low < 65536) : offN (v ^^^ low) k = offN v k ^^^ low := by
  have ht : low.testBit (16 + k) = false := Nat.testBit_lt_two_pow (Nat.lt_of_lt_of_le h (by rw [Nat.pow_add]; exact Nat.le_mul_of_pos_right _ (Nat.two_pow_pos k)))
  unfold offN
  rw [Nat.testBit_xor, ht, Bool.xor_false]
  split
  · rw [Nat.xor_assoc, Nat.xor_comm low, Nat.xor_assoc]
  · rfl
theorem offTo_low {low : Nat} (h : low < 65536) : ∀ k v, offTo (v ^^^ low) k = offTo v k ^^^ low
  | 0, _ => rfl
  | k + 1, v => by
    show offTo (offN (v ^^^ low) k) k = offTo (offN v k) k ^^^ low
    rw [offN_low h, offTo_low h k]
/-- the table -/
def tabN (top : Nat) : Nat := offTo (top <<< 16) 8
theorem split16 (v : Nat) : ((v >>> 16) <<< 16) ^^^ (v % 65536) = v := by
  apply Nat.eq_of_testBit_eq
  intro i
  rw [Nat.testBit_xor, Nat.testBit_shiftLeft, Nat.testBit_shiftRight, show (65536 : Nat) = 2 ^ 16 from rfl, Nat.testBit_mod_two_pow]
  by_cases h : 16 ≤ i
  · have : ¬ i < 16 := by omega
    simp [h, this, Nat.add_sub_cancel' h]
  · have : i < 16 := by omega
    simp [h, this]
/-- eight coefficients at a time -/
theorem feed8 {r : Nat} {bits : List Nat} (hr : r < 65536) (hb : ∀ b ∈ bits, b ≤ 1) (hl : bits.length = 8) : (r * 256 + wordN bits) % 65536 ^^^ tabN ((r * 256 + wordN bits) >>> 16) = stepsN r bits := by
  have h := off_steps bits r hr hb
  rw [hl] at h
  rw [← h]
  unfold tabN
  rw [Nat.xor_comm, ← offTo_low (Nat.mod_lt _ (by decide)), split16]
theorem offTo_small {v : Nat} (h : v < 65536) : ∀ k, offTo v k = v
  | 0 => rfl
  | k + 1 => by
    show offTo (offN v k) k = v
    have ht : v.testBit (16 + k) = false := Nat.testBit_lt_two_pow (Nat.lt_of_lt_of_le h (by rw [Nat.pow_add]; exact Nat.le_mul_of_pos_right _ (Nat.two_pow_pos k)))
    unfold offN
    rw [if_neg (by rw [ht]; simp)]
    exact offTo_small h k
theorem tab01 : tabN 0 = 0 ∧ tabN 1 = 4129 := by decide
/-- one at a time, by the table -/
theorem feed1 {r b : Nat} (hr : r < 65536) (hb : b ≤ 1) : (2 * r + b) % 65536 ^^^ tabN ((2 * r + b) >>> 16) = stepN r b := by
  unfold stepN
  by_cases h : 65536 ≤ 2 * r + b
  · rw [if_pos h]
    have e : (2 * r + b) >>> 16 = 1 := by rw [Nat.shiftRight_eq_div_pow]; omega
    rw [e, tab01.2]
    have e2 : 2 * r + b = 65536 ^^^ ((2 * r + b) % 65536) := by
      have := split16 (2 * r + b)
      rw [e] at this
      exact this.symm
    generalize (2 * r + b) % 65536 = x at e2 ⊢
    rw [e2, Nat.xor_comm 65536 x, Nat.xor_assoc]; rfl
  · rw [if_neg h]
    have e : (2 * r + b) >>> 16 = 0 := by rw [Nat.shiftRight_eq_div_pow]; omega
    rw [e, tab01.1, Nat.xor_zero, Nat.mod_eq_of_lt (by omega)]
end Go.Proofs.YtjgafkoboolclaaDoor
