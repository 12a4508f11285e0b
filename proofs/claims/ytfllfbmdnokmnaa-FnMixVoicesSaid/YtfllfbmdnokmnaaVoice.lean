import Derived.Test.YtfllfbmdnokmnaaProg
import Derived.Test.YtfllfbmdnokmnaaLib
import Derived.Test.YtfllfbmdnokmnaaNum
namespace Go.Proofs.Ytfllfbmdnokmnaa
open Go.RowKit

theorem and7 (c : Int) (h0 : 0 ≤ c) (h1 : c ≤ 255) : bits BinOp.and IntKind.i64 (c / 16) 7 = c / 16 % 8 := by
  have h : ∀ n : Fin 256, bits BinOp.and IntKind.i64 (((n.val : Nat) : Int) / 16) 7 = ((n.val : Nat) : Int) / 16 % 8 := by decide +kernel
  have := h ⟨c.toNat, by omega⟩
  simpa [Int.toNat_of_nonneg h0] using this
theorem and15 (c : Int) (h0 : 0 ≤ c) (h1 : c ≤ 255) : bits BinOp.and IntKind.i64 c 15 = c % 16 := by
  have h : ∀ n : Fin 256, bits BinOp.and IntKind.i64 ((n.val : Nat) : Int) 15 = ((n.val : Nat) : Int) % 16 := by decide +kernel
  have := h ⟨c.toNat, by omega⟩
  simpa [Int.toNat_of_nonneg h0] using this

/-- powers of two, from 0 to 7 -/
def p2 (s : Int) : Int := if s = 0 then 1 else if s = 1 then 2 else if s = 2 then 4 else if s = 3 then 8 else if s = 4 then 16 else if s = 5 then 32 else if s = 6 then 64 else 128
/-- the absolute value of a code's sample, by its s and r -/
def expM (s r : Int) : Int := if s = 0 then 2 * r else (16 + r) * p2 s
/-- the sample of a code -/
def expV (c : Int) : Int := if 0 ≤ c ∧ c ≤ 255 then (if 128 ≤ c then -expM (c / 16 % 8) (c % 16) else expM (c / 16 % 8) (c % 16)) else 0

theorem expV_in {c : Int} (h0 : 0 ≤ c) (h1 : c ≤ 255) : expV c = if 128 ≤ c then -expM (c / 16 % 8) (c % 16) else expM (c / 16 % 8) (c % 16) := by unfold expV; rw [if_pos ⟨h0, h1⟩]
theorem expV_out {c : Int} (h : c < 0 ∨ 255 < c) : expV c = 0 := by unfold expV; rw [if_neg (by omega)]

theorem implExpandVoice_c (c : Int) (w : World) :
    Calls Try.prog 28 #[.int .i64 c] w (RetQ w (.int .i64 (expV c))) := by
  by_cases h0 : c < 0
  · go_enter Try.func28, Try.ntmps28
    go_wp2
    go_ret
    exact RetQ.mk0 (intv (by rw [expV_out (.inl h0)]))
  by_cases h1 : 255 < c
  · go_enter Try.func28, Try.ntmps28
    go_wp2
    go_ret
    exact RetQ.mk0 (intv (by rw [expV_out (.inr h1)]))
  have h0 : 0 ≤ c := by omega
  have h1 : c ≤ 255 := by omega
  have e1 := and7 c h0 h1
  have e2 := and15 c h0 h1
  rw [expV_in h0 h1]
  obtain hs | hs | hs | hs | hs | hs | hs | hs : c / 16 % 8 = 0 ∨ c / 16 % 8 = 1 ∨ c / 16 % 8 = 2 ∨ c / 16 % 8 = 3 ∨ c / 16 % 8 = 4 ∨ c / 16 % 8 = 5 ∨ c / 16 % 8 = 6 ∨ c / 16 % 8 = 7 := by omega
  all_goals rw [hs]
  all_goals by_cases hg : 128 ≤ c
  all_goals
    go_enter Try.func28, Try.ntmps28
    go_wp2
    go_ret
    exact RetQ.mk0 (intv (by simp [expM, p2]))

theorem specExpandVoice_c (c : Int) (w : World) :
    Calls Try.prog 29 #[.int .i64 c] w (RetQ w (.int .i64 (expV c))) := by
  cases hi : inB c 0 255
  · have hn := inB_false.1 hi
    rw [expV_out (by omega)]
    clear hn
    go_enter Try.func29, Try.ntmps29
    go_wp2_with (go_at_call 46; refine (l1In_c _ _ _ _).mono ?_; rintro e w' ⟨rfl, n, rfl⟩)
    go_ret
    exact RetQ.mk1 rfl (by first | exact ⟨_, rfl⟩ | exact ⟨_, drewN_add _ _ _⟩)
  obtain ⟨h0, h1⟩ := inB_true.1 hi
  rw [expV_in h0 h1]
  obtain hs | hs | hs | hs | hs | hs | hs | hs : c / 16 % 8 = 0 ∨ c / 16 % 8 = 1 ∨ c / 16 % 8 = 2 ∨ c / 16 % 8 = 3 ∨ c / 16 % 8 = 4 ∨ c / 16 % 8 = 5 ∨ c / 16 % 8 = 6 ∨ c / 16 % 8 = 7 := by omega
  all_goals rw [hs]
  all_goals by_cases hg : 128 ≤ c
  all_goals
    have hd : c % 128 / 16 = c / 16 % 8 := by omega
    rw [hs] at hd
    have hd2 : c % 128 % 16 = c % 16 := by omega
    have hlt : c % 128 < 16 ↔ c / 16 % 8 = 0 := by omega
    rw [hs] at hlt
    first | have hl1 : c % 128 < 16 := hlt.2 rfl | have hl1 : 16 ≤ c % 128 := by omega
    clear hlt
    have HS := Lib.hid hs
    clear hs
    go_enter Try.func29, Try.ntmps29
    go_wp2_with (go_at_call 46; refine (l1In_c _ _ _ _).mono ?_; rintro e w' ⟨rfl, n, rfl⟩)
    go_ret
    exact RetQ.mk1 (intv (by simp [expM, p2] <;> omega)) (by first | exact ⟨_, rfl⟩ | exact ⟨_, drewN_add _ _ _⟩)


end Go.Proofs.Ytfllfbmdnokmnaa
