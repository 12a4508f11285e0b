import Derived.Test.YtfllfbmdnokmnaaProg
import Derived.Test.YtfllfbmdnokmnaaLib
import Derived.Test.YtfllfbmdnokmnaaNum
import Derived.Test.YtfllfbmdnokmnaaVoice
import Derived.Test.YtfllfbmdnokmnaaBits
namespace Go.Proofs.Ytfllfbmdnokmnaa
open Go.RowKit

/-- the number s of an absolute value -/
def sV (m : Int) : Int := if m < 32 then 0 else if m < 64 then 1 else if m < 128 then 2 else if m < 256 then 3 else if m < 512 then 4 else if m < 1024 then 5 else if m < 2048 then 6 else 7
/-- the code of an absolute value -/
def cAbs (m : Int) : Int := if m < 32 then m / 2 else 16 * sV m + m / p2 (sV m) - 16
/-- the code of a sample -/
def compV (n : Int) : Int := if -4095 ≤ n ∧ n ≤ 4095 then (if n < 0 then 128 + cAbs (-n) else cAbs n) else -1
theorem compV_neg {n : Int} (h0 : -4095 ≤ n) (h1 : n < 0) : compV n = 128 + cAbs (-n) := by unfold compV; rw [if_pos (by omega), if_pos h1]
theorem compV_pos {n : Int} (h0 : 0 ≤ n) (h1 : n ≤ 4095) : compV n = cAbs n := by unfold compV; rw [if_pos (by omega), if_neg (by omega)]
theorem compV_out {n : Int} (h : n < -4095 ∨ 4095 < n) : compV n = -1 := by unfold compV; rw [if_neg (by omega)]

theorem bitLenAux_at : ∀ (k f x : Nat), 2 ^ k ≤ x → x < 2 ^ (k + 1) → k < f → Lib.bitLenAux f x = k + 1
  | 0, 0, x, _, _, h => by omega
  | 0, f + 1, x, h1, h2, _ => by
    obtain rfl : x = 1 := by simp at h1 h2; omega
    simp only [Lib.bitLenAux]
    cases f with
    | zero => rfl
    | succ f => simp [Lib.bitLenAux]
  | k + 1, 0, x, _, _, h => by omega
  | k + 1, f + 1, x, h1, h2, h => by
    have hp : 2 ^ (k + 1) = 2 * 2 ^ k := by rw [Nat.pow_succ]; omega
    have hp2 : 2 ^ (k + 1 + 1) = 2 * 2 ^ (k + 1) := by rw [Nat.pow_succ]; omega
    have hpos : 0 < 2 ^ k := Nat.two_pow_pos k
    simp only [Lib.bitLenAux]
    rw [if_neg (by omega), bitLenAux_at k f (x / 2) (by omega) (by omega) (by omega)]
    omega

theorem bitLen_at {m : Int} (k : Nat) {a b : Int} (ha : a = 2 ^ k) (hb : b = 2 ^ (k + 1)) (h1 : a ≤ m) (h2 : m < b) (hk : k < 64) : Lib.bitLen m.toNat = k + 1 := by
  subst ha hb
  have h0 : (0 : Int) < 2 ^ k := by
    have := Nat.two_pow_pos k
    exact_mod_cast this
  refine bitLenAux_at k 64 m.toNat ?_ ?_ hk
  · have : ((2 ^ k : Nat) : Int) ≤ m := by simpa using h1
    omega
  · have : m < ((2 ^ (k + 1) : Nat) : Int) := by simpa using h2
    omega

theorem bitLen_small {m : Int} (h0 : 0 ≤ m) (h1 : m ≤ 4095) :
    (m < 1 ∧ Lib.bitLen m.toNat = 0) ∨ (1 ≤ m ∧ m < 2 ∧ Lib.bitLen m.toNat = 1) ∨ (2 ≤ m ∧ m < 4 ∧ Lib.bitLen m.toNat = 2) ∨ (4 ≤ m ∧ m < 8 ∧ Lib.bitLen m.toNat = 3) ∨ (8 ≤ m ∧ m < 16 ∧ Lib.bitLen m.toNat = 4) ∨ (16 ≤ m ∧ m < 32 ∧ Lib.bitLen m.toNat = 5) ∨
    (32 ≤ m ∧ m < 64 ∧ Lib.bitLen m.toNat = 6) ∨ (64 ≤ m ∧ m < 128 ∧ Lib.bitLen m.toNat = 7) ∨ (128 ≤ m ∧ m < 256 ∧ Lib.bitLen m.toNat = 8) ∨ (256 ≤ m ∧ m < 512 ∧ Lib.bitLen m.toNat = 9) ∨ (512 ≤ m ∧ m < 1024 ∧ Lib.bitLen m.toNat = 10) ∨ (1024 ≤ m ∧ m < 2048 ∧ Lib.bitLen m.toNat = 11) ∨ (2048 ≤ m ∧ m < 4096 ∧ Lib.bitLen m.toNat = 12) := by
  by_cases c0 : m < 1
  · left; obtain rfl : m = 0 := by omega
    exact ⟨by omega, by decide⟩
  right
  by_cases c1 : m < 2
  · left; exact ⟨by omega, c1, bitLen_at 0 (by decide) (by decide) (show (1 : Int) ≤ m by omega) c1 (by decide)⟩
  right
  by_cases c2 : m < 4
  · left; exact ⟨by omega, c2, bitLen_at 1 (by decide) (by decide) (show (2 : Int) ≤ m by omega) c2 (by decide)⟩
  right
  by_cases c3 : m < 8
  · left; exact ⟨by omega, c3, bitLen_at 2 (by decide) (by decide) (show (4 : Int) ≤ m by omega) c3 (by decide)⟩
  right
  by_cases c4 : m < 16
  · left; exact ⟨by omega, c4, bitLen_at 3 (by decide) (by decide) (show (8 : Int) ≤ m by omega) c4 (by decide)⟩
  right
  by_cases c5 : m < 32
  · left; exact ⟨by omega, c5, bitLen_at 4 (by decide) (by decide) (show (16 : Int) ≤ m by omega) c5 (by decide)⟩
  right
  by_cases c6 : m < 64
  · left; exact ⟨by omega, c6, bitLen_at 5 (by decide) (by decide) (show (32 : Int) ≤ m by omega) c6 (by decide)⟩
  right
  by_cases c7 : m < 128
  · left; exact ⟨by omega, c7, bitLen_at 6 (by decide) (by decide) (show (64 : Int) ≤ m by omega) c7 (by decide)⟩
  right
  by_cases c8 : m < 256
  · left; exact ⟨by omega, c8, bitLen_at 7 (by decide) (by decide) (show (128 : Int) ≤ m by omega) c8 (by decide)⟩
  right
  by_cases c9 : m < 512
  · left; exact ⟨by omega, c9, bitLen_at 8 (by decide) (by decide) (show (256 : Int) ≤ m by omega) c9 (by decide)⟩
  right
  by_cases c10 : m < 1024
  · left; exact ⟨by omega, c10, bitLen_at 9 (by decide) (by decide) (show (512 : Int) ≤ m by omega) c10 (by decide)⟩
  right
  by_cases c11 : m < 2048
  · left; exact ⟨by omega, c11, bitLen_at 10 (by decide) (by decide) (show (1024 : Int) ≤ m by omega) c11 (by decide)⟩
  right
  exact ⟨by omega, by omega, bitLen_at 11 (a := 2048) (b := 4096) (by decide) (by decide) (by omega) (by omega) (by decide)⟩

set_option maxHeartbeats 4000000 in
theorem implCompressVoice_c (n : Int) (w : World) :
    Calls Try.prog 16 #[.int .i64 n] w (RetQ w (.int .i64 (compV n))) := by
  by_cases h0 : n < -4095
  · rw [compV_out (.inl h0)]
    go_enter Try.func16, Try.ntmps16
    go_wp2
    go_ret
    exact RetQ.mkS rfl (SameW.refl _)
  by_cases h1 : 4095 < n
  · rw [compV_out (.inr h1)]
    go_enter Try.func16, Try.ntmps16
    go_wp2
    go_ret
    exact RetQ.mkS rfl (SameW.refl _)
  have x0 : max (-5 : Int) 0 = 0 := by decide
  have x1 : max (-4 : Int) 0 = 0 := by decide
  have x2 : max (-3 : Int) 0 = 0 := by decide
  have x3 : max (-2 : Int) 0 = 0 := by decide
  have x4 : max (-1 : Int) 0 = 0 := by decide
  have y1 : max (1 : Int) 0 = 1 := by decide
  have y2 : max (2 : Int) 0 = 2 := by decide
  have y3 : max (3 : Int) 0 = 3 := by decide
  have y4 : max (4 : Int) 0 = 4 := by decide
  have y5 : max (5 : Int) 0 = 5 := by decide
  have y6 : max (6 : Int) 0 = 6 := by decide
  have y7 : max (7 : Int) 0 = 7 := by decide
  by_cases hs : n < 0
  · rw [compV_neg (by omega) hs]
    obtain ⟨b0, b⟩ | ⟨b0, b1, b⟩ | ⟨b0, b1, b⟩ | ⟨b0, b1, b⟩ | ⟨b0, b1, b⟩ | ⟨b0, b1, b⟩ | ⟨b0, b1, b⟩ | ⟨b0, b1, b⟩ | ⟨b0, b1, b⟩ | ⟨b0, b1, b⟩ | ⟨b0, b1, b⟩ | ⟨b0, b1, b⟩ | ⟨b0, b1, b⟩ := bitLen_small (m := -n) (by omega) (by omega)
    · omega
    all_goals
      go_enter Try.func16, Try.ntmps16
      go_wp2_with (go_at_call 47; refine (bits_Len _ _ (by omega) (by omega)).mono ?_; rintro e w' ⟨rfl, rfl⟩)
      go_ret
      exact RetQ.mkS (intv (by unfold cAbs sV p2; repeat (first | rw [if_pos (by omega)] | rw [if_neg (by omega)]); try omega)) (SameW.refl _)
  · rw [compV_pos (by omega) (by omega)]
    obtain ⟨b0, b⟩ | ⟨b0, b1, b⟩ | ⟨b0, b1, b⟩ | ⟨b0, b1, b⟩ | ⟨b0, b1, b⟩ | ⟨b0, b1, b⟩ | ⟨b0, b1, b⟩ | ⟨b0, b1, b⟩ | ⟨b0, b1, b⟩ | ⟨b0, b1, b⟩ | ⟨b0, b1, b⟩ | ⟨b0, b1, b⟩ | ⟨b0, b1, b⟩ := bitLen_small (m := n) (by omega) (by omega)
    all_goals
      go_enter Try.func16, Try.ntmps16
      go_wp2_with (go_at_call 47; refine (bits_Len _ _ (by omega) (by omega)).mono ?_; rintro e w' ⟨rfl, rfl⟩)
      go_ret
      exact RetQ.mkS (intv (by unfold cAbs sV p2; repeat (first | rw [if_pos (by omega)] | rw [if_neg (by omega)]); try omega)) (SameW.refl _)

theorem tdiv_neg2 {n : Int} (h : n ≤ 0) : n.tdiv 2 = -((-n) / 2) := by rw [← Int.tdiv_eq_ediv_of_nonneg (by omega), Int.neg_tdiv, Int.neg_neg]
theorem seg8 {m : Int} (h0 : 0 ≤ m) (h1 : m ≤ 4095) : (0 ≤ m ∧ m < 32) ∨ (32 ≤ m ∧ m < 64) ∨ (64 ≤ m ∧ m < 128) ∨ (128 ≤ m ∧ m < 256) ∨ (256 ≤ m ∧ m < 512) ∨ (512 ≤ m ∧ m < 1024) ∨ (1024 ≤ m ∧ m < 2048) ∨ (2048 ≤ m) := by omega

set_option maxHeartbeats 8000000 in
theorem specCompressVoice_c (n : Int) (w : World) (hw0 : -9223372036854775808 ≤ n) (hw1 : n ≤ 9223372036854775807) :
    Calls Try.prog 15 #[.int .i64 n] w (RetQ w (.int .i64 (compV n))) := by
  cases hi : inB n (-4095) 4095
  · have hn := inB_false.1 hi
    rw [compV_out (by omega)]
    clear hn
    go_enter Try.func15, Try.ntmps15
    go_wp2_with (go_at_call 46; refine (l1In_c _ _ _ _).mono ?_; rintro e w' ⟨rfl, n, rfl⟩)
    all_goals
      go_ret
      exact RetQ.mk1 rfl (by first | exact ⟨_, rfl⟩ | exact ⟨_, drewN_add _ _ _⟩)
  obtain ⟨h0, h1⟩ := inB_true.1 hi
  by_cases hs : n < 0
  · rw [compV_neg (by omega) hs]
    have hmx : max n (-n) = -n := by omega
    have hnn : 0 ≤ -n := by omega
    obtain ⟨b0, b⟩ | ⟨b0, b⟩ | ⟨b0, b⟩ | ⟨b0, b⟩ | ⟨b0, b⟩ | ⟨b0, b⟩ | ⟨b0, b⟩ | b := seg8 (m := -n) (by omega) (by omega)
    · go_enter Try.func15, Try.ntmps15
      go_wp2_with (go_at_call 46; refine (l1In_c _ _ _ _).mono ?_; rintro e w' ⟨rfl, q, rfl⟩)
      go_rounds 1
      go_ret
      refine RetQ.mk1 (intv ?_) (by first | exact ⟨_, rfl⟩ | exact ⟨_, drewN_add _ _ _⟩)
      rw [tdiv_neg2 (n := n) (by omega), Int.neg_neg, IntWalk.wrap64_in (-n / 2) (by omega), IntWalk.wrap64_in _ (by omega)]
      unfold cAbs
      rw [if_pos b]
      omega
    all_goals
      go_enter Try.func15, Try.ntmps15
      go_wp2_with (go_at_call 46; refine (l1In_c _ _ _ _).mono ?_; rintro e w' ⟨rfl, n, rfl⟩)
      go_rounds 8
      go_ret
      exact RetQ.mk1 (intv (by unfold cAbs sV p2; repeat (first | rw [if_pos (by omega)] | rw [if_neg (by omega)]); try omega)) (by first | exact ⟨_, rfl⟩ | exact ⟨_, drewN_add _ _ _⟩)
  · rw [compV_pos (by omega) (by omega)]
    have hmx : max n (-n) = n := by omega
    obtain ⟨b0, b⟩ | ⟨b0, b⟩ | ⟨b0, b⟩ | ⟨b0, b⟩ | ⟨b0, b⟩ | ⟨b0, b⟩ | ⟨b0, b⟩ | b := seg8 (m := n) (by omega) (by omega)
    all_goals
      go_enter Try.func15, Try.ntmps15
      go_wp2_with (go_at_call 46; refine (l1In_c _ _ _ _).mono ?_; rintro e w' ⟨rfl, n, rfl⟩)
      go_rounds 8
      go_ret
      exact RetQ.mk1 (intv (by unfold cAbs sV p2; repeat (first | rw [if_pos (by omega)] | rw [if_neg (by omega)]); try omega)) (by first | exact ⟨_, rfl⟩ | exact ⟨_, drewN_add _ _ _⟩)

theorem fnExactCompressVoice_c (n : Int) (w : World) (hw : (Lit.int .i64 n).wf = true) :
    Calls Try.prog 3 #[.int .i64 n] w (Ret w fun v _ => v = .bool true) := by
  obtain ⟨hw0, hw1⟩ := wf_i64 hw
  go_enter Try.func3, Try.ntmps3
  go_wp2_with fail
  refine (specCompressVoice_c n _ hw0 hw1).mono ?_
  rintro e w1 ⟨rfl, k, rfl⟩
  go_wp2_with fail
  refine (implCompressVoice_c n _).mono ?_
  rintro e w1 ⟨rfl, m, rfl⟩
  have hcmp : (compV n != compV n) = false := bne_self_eq_false _
  go_wp2
  go_ret
  exact Ret.mk1 rfl (by repeat' (first | with_reducible exact Below.refl _ _ | with_reducible assumption | with_reducible refine below_drewN ?_ _ | with_reducible refine Below.drew ?_ | with_reducible refine Below.alloc ?_ ?_ _ | with_reducible refine Below.setCell ?_ ?_ _ | go_size))

end Go.Proofs.Ytfllfbmdnokmnaa
