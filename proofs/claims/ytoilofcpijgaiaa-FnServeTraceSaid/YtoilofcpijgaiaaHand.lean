import Derived.Test.YtoilofcpijgaiaaProg
import Derived.Test.YtoilofcpijgaiaaLib
import Derived.Test.YtoilofcpijgaiaaInts
namespace Go.Proofs.Ytoilofcpijgaiaa
open Go.RowKit

/-- the changes among the first k + 1 numbers -/
def chTo (xs : List Int) : Nat → Nat
  | 0 => 0
  | k + 1 => chTo xs k + if gi xs (k + 1) != gi xs k then 1 else 0

theorem chTo_le (xs : List Int) (k : Nat) : chTo xs k ≤ k := by
  induction k with
  | zero => simp [chTo]
  | succ k ih => unfold chTo; split <;> omega

theorem specCountHandovers_c (va : Value) (xs : List Int) (w : World) (h : RdI w va xs) :
    Calls Try.prog 16 #[va] w (RetQ w (.int .i64 (chTo xs (xs.length - 1)))) := by
  obtain ⟨a, ca, rfl, ml⟩ := h.form
  have H := Lib.hid h
  clear h
  go_enter Try.func16, Try.ntmps16
  go_wp2
  go_loopw [3, 4] (fun n i wr => ∃ k : Nat, k ≤ xs.length - 1 ∧ i = .int .i64 ((k : Int) + 1) ∧ n = .int .i64 (chTo xs k) ∧ (∃ n, wr = w.drewN n)) (fun _ i _ => xs.length - (intOf i).toNat)
  case atStart => exact ⟨0, Nat.zero_le _, rfl, rfl, ⟨0, rfl⟩⟩
  case round =>
    obtain ⟨k, hk, rfl, rfl, ⟨n, rfl⟩⟩ := hrel
    have hle := chTo_le xs k
    by_cases hlt : k + 1 < xs.length
    · obtain ⟨ba, oa, rfl, hca⟩ := H.out.at_ hlt
      obtain ⟨ba', oa', he, hcb⟩ := H.out.at_ (Nat.lt_of_succ_lt hlt)
      simp only [Option.some.injEq, Addr.mk.injEq, and_true] at he
      obtain ⟨rfl, rfl⟩ := he
      go_wp2
      go_quiet (fail)
      go_wp2
      · have he : (gi xs (k + 1) != gi xs k) = true := by assumption
        go_roundw
        case rel => exact ⟨k + 1, by omega, by go_num, by simp [chTo, he], (by first | exact ⟨_, rfl⟩ | exact ⟨_, drewN_add _ _ _⟩)⟩
        case measure => simp [intOf]; omega
      · have he : (gi xs (k + 1) != gi xs k) = false := by assumption
        go_roundw
        case rel => exact ⟨k + 1, by omega, by go_num, by simp [chTo, he], (by first | exact ⟨_, rfl⟩ | exact ⟨_, drewN_add _ _ _⟩)⟩
        case measure => simp [intOf]; omega
    · go_wp2
      go_ret
      refine RetQ.mk1 ?_ ⟨_, rfl⟩
      have : k = xs.length - 1 := by omega
      subst this
      rfl
theorem implCountHandovers_c (va : Value) (xs : List Int) (w : World) (h : RdI w va xs) :
    Calls Try.prog 15 #[va] w (RetQ w (.int .i64 (chTo xs (xs.length - 1)))) := by
  obtain ⟨a, ca, rfl, ml⟩ := h.form
  have H := Lib.hid h
  clear h
  go_enter Try.func15, Try.ntmps15
  go_wp2
  go_loopw [3, 4] (fun n i wr => ∃ k : Nat, k ≤ xs.length - 1 ∧ i = .int .i64 ((k : Int) + 1) ∧ n = .int .i64 (chTo xs k) ∧ (∃ n, wr = w.drewN n)) (fun _ i _ => xs.length - (intOf i).toNat)
  case atStart => exact ⟨0, Nat.zero_le _, rfl, rfl, ⟨0, rfl⟩⟩
  case round =>
    obtain ⟨k, hk, rfl, rfl, ⟨n, rfl⟩⟩ := hrel
    have hle := chTo_le xs k
    by_cases hlt : k + 1 < xs.length
    · obtain ⟨ba, oa, rfl, hca⟩ := H.out.at_ hlt
      obtain ⟨ba', oa', he, hcb⟩ := H.out.at_ (Nat.lt_of_succ_lt hlt)
      simp only [Option.some.injEq, Addr.mk.injEq, and_true] at he
      obtain ⟨rfl, rfl⟩ := he
      go_wp2
      go_quiet (fail)
      go_wp2
      · have he : (gi xs (k + 1) != gi xs k) = true := by assumption
        go_roundw
        case rel => exact ⟨k + 1, by omega, by go_num, by simp [chTo, he], (by first | exact ⟨_, rfl⟩ | exact ⟨_, drewN_add _ _ _⟩)⟩
        case measure => simp [intOf]; omega
      · have he : (gi xs (k + 1) != gi xs k) = false := by assumption
        go_roundw
        case rel => exact ⟨k + 1, by omega, by go_num, by simp [chTo, he], (by first | exact ⟨_, rfl⟩ | exact ⟨_, drewN_add _ _ _⟩)⟩
        case measure => simp [intOf]; omega
    · go_wp2
      go_ret
      refine RetQ.mk1 ?_ ⟨_, rfl⟩
      have : k = xs.length - 1 := by omega
      subst this
      rfl


end Go.Proofs.Ytoilofcpijgaiaa
