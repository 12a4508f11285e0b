import Derived.Test.YtdfinlpfkmmpkaaDoorProg
import Derived.Test.YtdfinlpfkmmpkaaDoorLib
import Derived.Lib.TrailingZeros
namespace Go.Proofs.YtdfinlpfkmmpkaaDoor

/-! Slots that are given greedily. No program here. -/
def mskN (f : Nat → Bool) : Nat → Nat
  | 0 => 0
  | k + 1 => if f k then mskN f k ||| 2 ^ k else mskN f k
theorem mskN_bit (f : Nat → Bool) (i : Nat) : ∀ k, (mskN f k).testBit i = (decide (i < k) && f i)
  | 0 => by simp [mskN]
  | k + 1 => by
    have ih := mskN_bit f i k
    rw [mskN]
    by_cases hf : f k = true
    · rw [if_pos hf, Nat.testBit_or, ih, Nat.testBit_two_pow]
      by_cases e : k = i
      · subst e; simp [hf]
      · have : decide (i < k + 1) = decide (i < k) := decide_eq_decide.2 (by omega)
        rw [this]; simp [e]
    · rw [if_neg hf, ih]
      by_cases e : k = i
      · subst e; simp [hf]
      · have : decide (i < k + 1) = decide (i < k) := decide_eq_decide.2 (by omega)
        rw [this]
theorem mskN_lt (f : Nat → Bool) : ∀ k, mskN f k < 2 ^ k
  | 0 => by simp [mskN]
  | k + 1 => by
    have ih := mskN_lt f k
    rw [mskN]
    have h2 : 2 ^ k < 2 ^ (k + 1) := Nat.pow_lt_pow_right (by decide) (by omega)
    split
    · exact Nat.or_lt_two_pow (by omega) h2
    · omega
def usdN (row : Nat) (S : List Int) : Nat → Nat
  | 0 => 0
  | k + 1 => if row.testBit k then usdN row S k ||| 2 ^ (gi S k).toNat else usdN row S k
theorem usdN_bit (row : Nat) (S : List Int) (s : Nat) : ∀ k, (usdN row S k).testBit s = true ↔ ∃ j, j < k ∧ row.testBit j = true ∧ (gi S j).toNat = s
  | 0 => by simp [usdN]
  | k + 1 => by
    have ih := usdN_bit row S s k
    rw [usdN]
    by_cases hf : row.testBit k = true
    · rw [if_pos hf, Nat.testBit_or, Bool.or_eq_true, ih, Nat.testBit_two_pow, decide_eq_true_eq]
      constructor
      · rintro (⟨j, h1, h2, h3⟩ | h)
        · exact ⟨j, by omega, h2, h3⟩
        · exact ⟨k, by omega, hf, h⟩
      · rintro ⟨j, h1, h2, h3⟩
        by_cases e : j = k
        · subst e; exact .inr h3
        · exact .inl ⟨j, by omega, h2, h3⟩
    · rw [if_neg hf, ih]
      constructor
      · rintro ⟨j, h1, h2, h3⟩; exact ⟨j, by omega, h2, h3⟩
      · rintro ⟨j, h1, h2, h3⟩
        by_cases e : j = k
        · subst e; exact absurd h2 hf
        · exact ⟨j, by omega, h2, h3⟩
theorem usdN_lt {row : Nat} {S : List Int} {m : Nat} : ∀ {k}, (∀ j, j < k → (gi S j).toNat < m) → usdN row S k < 2 ^ m
  | 0, _ => by rw [usdN]; exact Nat.pow_pos (by decide)
  | k + 1, h => by
    have ih := usdN_lt (row := row) fun j hj => h j (Nat.lt_succ_of_lt hj)
    rw [usdN]
    split
    · exact Nat.or_lt_two_pow ih (Nat.pow_lt_pow_right (by decide) (h k (by omega)))
    · exact ih
def tzN (u : Nat) : Nat := Lib.ctz 64 (18446744073709551615 - u)
theorem tzN_spec {u : Nat} (hu : u < 18446744073709551615) : u.testBit (tzN u) = false ∧ tzN u < 64 ∧ ∀ s, s < tzN u → u.testBit s = true := by
  obtain ⟨m, hm, hk⟩ := Lib.ctzFrom_spec 64 (18446744073709551615 - u) (by omega) (by omega)
  have e : tzN u = Lib.ctzFrom 64 (18446744073709551615 - u) := by unfold tzN Lib.ctz; rw [if_neg (by omega)]
  rw [← e] at hm hk
  have hb : ∀ i, (18446744073709551615 - u).testBit i = (decide (i < 64) && !u.testBit i) := fun i => by
    have := Nat.testBit_two_pow_sub_succ (x := u) (n := 64) (by omega) i
    rw [show (2 : Nat) ^ 64 - (u + 1) = 18446744073709551615 - u by omega] at this
    exact this
  refine ⟨?_, hk, fun s hs => ?_⟩
  · have h1 := hb (tzN u)
    rw [hm] at h1
    rw [Nat.mul_comm, Nat.testBit_mul_two_pow] at h1
    have : (2 * m + 1).testBit (tzN u - tzN u) = true := by rw [Nat.sub_self, Nat.testBit_zero]; simp
    rw [this, decide_eq_true hk] at h1
    simpa using h1
  · have h1 := hb s
    rw [hm, Nat.mul_comm, Nat.testBit_mul_two_pow, decide_eq_false (by omega : ¬ tzN u ≤ s), decide_eq_true (by omega : s < 64)] at h1
    simpa using h1
def grdS (T : Nat → Nat → Bool) (n : Nat) : Nat → List Int
  | 0 => []
  | k + 1 => grdS T n k ++ [(tzN (usdN (mskN (T k) n) (grdS T n k) k) : Int)]
theorem grdS_len (T : Nat → Nat → Bool) (n : Nat) : ∀ k, (grdS T n k).length = k
  | 0 => rfl
  | k + 1 => by rw [grdS, List.length_append, grdS_len T n k]; rfl
theorem grdS_at (T : Nat → Nat → Bool) (n k : Nat) : gi (grdS T n (k + 1)) k = (tzN (usdN (mskN (T k) n) (grdS T n k) k) : Int) := by
  have h := gi_append_at (xs := grdS T n k) (x := (tzN (usdN (mskN (T k) n) (grdS T n k) k) : Int))
  rw [grdS_len] at h
  exact h
theorem grdS_old (T : Nat → Nat → Bool) (n : Nat) {i : Nat} : ∀ {k}, i < k → gi (grdS T n k) i = gi (grdS T n (i + 1)) i
  | 0, h => by omega
  | k + 1, h => by
    by_cases e : i = k
    · subst e; rfl
    · rw [grdS, gi_append_left (by rw [grdS_len]; omega)]
      exact grdS_old T n (by omega)
theorem grdS_bd (T : Nat → Nat → Bool) (n : Nat) : ∀ k, k ≤ 10 → ∀ i, i < k → 0 ≤ gi (grdS T n k) i ∧ gi (grdS T n k) i ≤ i
  | 0, _, i, h => by omega
  | k + 1, hk, i, hi => by
    have ih := grdS_bd T n k (by omega)
    by_cases e : i = k
    · subst e
      rw [grdS_at]
      have hl : usdN (mskN (T i) n) (grdS T n i) i < 2 ^ 10 := usdN_lt fun j hj => by have := ih j hj; omega
      obtain ⟨-, -, h3⟩ := tzN_spec (u := usdN (mskN (T i) n) (grdS T n i) i) (by omega)
      refine ⟨by omega, ?_⟩
      by_cases h : tzN (usdN (mskN (T i) n) (grdS T n i) i) ≤ i
      · omega
      · obtain ⟨j, h4, -, h6⟩ := (usdN_bit _ _ _ _).1 (h3 i (by omega))
        have := ih j h4
        omega
    · rw [grdS, gi_append_left (by rw [grdS_len]; omega)]
      exact ih i (by omega)
theorem grdS_use (T : Nat → Nat → Bool) (n k : Nat) (hk : k ≤ 10) : usdN (mskN (T k) n) (grdS T n k) k < 1024 :=
  usdN_lt (m := 10) fun j hj => by have := grdS_bd T n k hk j hj; omega
/-- those in conflict have different slots -/
theorem grdS_ne {T : Nat → Nat → Bool} {n : Nat} (hn : n ≤ 10) {i j : Nat} (hj : j < i) (hi : i < n) (h : T i j = true) : gi (grdS T n n) i ≠ gi (grdS T n n) j := by
  rw [grdS_old T n hi, grdS_old T n (show j < n by omega), grdS_at]
  intro e
  obtain ⟨h1, -, -⟩ := tzN_spec (u := usdN (mskN (T i) n) (grdS T n i) i) (by have := grdS_use T n i (by omega); omega)
  have h2 : (usdN (mskN (T i) n) (grdS T n i) i).testBit (tzN (usdN (mskN (T i) n) (grdS T n i) i)) = true := by
    refine (usdN_bit _ _ _ _).2 ⟨j, hj, ?_, ?_⟩
    · rw [mskN_bit]; simp [h]; omega
    · rw [grdS_old T n hj, ← e]; omega
  rw [h1] at h2
  cases h2
theorem grdS_ne2 {T : Nat → Nat → Bool} {n : Nat} (hn : n ≤ 10) (hs : ∀ i j, i < n → j < n → T i j = T j i) (hd : ∀ i, i < n → T i i = false) {i j : Nat} (hi : i < n) (hj : j < n) (h : T i j = true) : gi (grdS T n n) i ≠ gi (grdS T n n) j := by
  rcases Nat.lt_trichotomy i j with e | e | e
  · exact fun h2 => grdS_ne hn e hj (by rw [← hs i j hi hj]; exact h) h2.symm
  · subst e; rw [hd i hi] at h; cases h
  · exact grdS_ne hn e hi h
end Go.Proofs.YtdfinlpfkmmpkaaDoor
