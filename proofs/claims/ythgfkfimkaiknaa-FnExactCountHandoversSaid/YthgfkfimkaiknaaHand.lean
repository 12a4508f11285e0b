import Derived.Test.YthgfkfimkaiknaaProg
import Derived.Test.YthgfkfimkaiknaaLib
import Derived.Test.YthgfkfimkaiknaaInts
namespace Go.Proofs.Ythgfkfimkaiknaa
open Go.RowKit

/-- the changes among the first k + 1 numbers -/
def chTo (xs : List Int) : Nat → Nat
  | 0 => 0
  | k + 1 => chTo xs k + if gi xs (k + 1) != gi xs k then 1 else 0

theorem chTo_le (xs : List Int) (k : Nat) : chTo xs k ≤ k := by
  induction k with
  | zero => simp [chTo]
  | succ k ih => unfold chTo; split <;> omega

theorem specCountHandovers_c (va : Value) (xs : List Int) (w : World) (h : RdI w va xs) :
    Calls Try.prog 14 #[va] w (RetQ w (.int .i64 (chTo xs (xs.length - 1)))) := by
  obtain ⟨a, ca, rfl, ml⟩ := h.form
  have H := Lib.hid h
  clear h
  go_enter Try.func14, Try.ntmps14
  go_wp2
  go_loopw [3, 4] (fun n i wr => ∃ k : Nat, k ≤ xs.length - 1 ∧ i = .int .i64 ((k : Int) + 1) ∧ n = .int .i64 (chTo xs k) ∧ (∃ n, wr = w.drewN n)) (fun _ i _ => xs.length - (intOf i).toNat)
  case atStart => exact ⟨0, Nat.zero_le _, rfl, rfl, ⟨0, rfl⟩⟩
  case round =>
    obtain ⟨k, hk, rfl, rfl, ⟨n, rfl⟩⟩ := hrel
    have hle := chTo_le xs k
    by_cases hlt : k + 1 < xs.length
    · obtain ⟨ba, oa, rfl, hca⟩ := H.out.at_ hlt
      obtain ⟨ba', oa', he, hcb⟩ := H.out.at_ (Nat.lt_of_succ_lt hlt)
      simp only [Option.some.injEq, Addr.mk.injEq, and_true] at he
      obtain ⟨rfl, rfl⟩ := he
      go_wp2
      go_quiet (fail)
      go_wp2
      · have he : (gi xs (k + 1) != gi xs k) = true := by assumption
        go_roundw
        case rel => exact ⟨k + 1, by omega, by go_num, by simp [chTo, he], (by first | exact ⟨_, rfl⟩ | exact ⟨_, drewN_add _ _ _⟩)⟩
        case measure => simp [intOf]; omega
      · have he : (gi xs (k + 1) != gi xs k) = false := by assumption
        go_roundw
        case rel => exact ⟨k + 1, by omega, by go_num, by simp [chTo, he], (by first | exact ⟨_, rfl⟩ | exact ⟨_, drewN_add _ _ _⟩)⟩
        case measure => simp [intOf]; omega
    · go_wp2
      go_ret
      refine RetQ.mk1 ?_ ⟨_, rfl⟩
      have : k = xs.length - 1 := by omega
      subst this
      rfl
theorem implCountHandovers_c (va : Value) (xs : List Int) (w : World) (h : RdI w va xs) :
    Calls Try.prog 16 #[va] w (RetQ w (.int .i64 (chTo xs (xs.length - 1)))) := by
  obtain ⟨a, ca, rfl, ml⟩ := h.form
  have H := Lib.hid h
  clear h
  go_enter Try.func16, Try.ntmps16
  go_wp2
  go_loopw [3, 4] (fun n i wr => ∃ k : Nat, k ≤ xs.length - 1 ∧ i = .int .i64 ((k : Int) + 1) ∧ n = .int .i64 (chTo xs k) ∧ (∃ n, wr = w.drewN n)) (fun _ i _ => xs.length - (intOf i).toNat)
  case atStart => exact ⟨0, Nat.zero_le _, rfl, rfl, ⟨0, rfl⟩⟩
  case round =>
    obtain ⟨k, hk, rfl, rfl, ⟨n, rfl⟩⟩ := hrel
    have hle := chTo_le xs k
    by_cases hlt : k + 1 < xs.length
    · obtain ⟨ba, oa, rfl, hca⟩ := H.out.at_ hlt
      obtain ⟨ba', oa', he, hcb⟩ := H.out.at_ (Nat.lt_of_succ_lt hlt)
      simp only [Option.some.injEq, Addr.mk.injEq, and_true] at he
      obtain ⟨rfl, rfl⟩ := he
      go_wp2
      go_quiet (fail)
      go_wp2
      · have he : (gi xs (k + 1) != gi xs k) = true := by assumption
        go_roundw
        case rel => exact ⟨k + 1, by omega, by go_num, by simp [chTo, he], (by first | exact ⟨_, rfl⟩ | exact ⟨_, drewN_add _ _ _⟩)⟩
        case measure => simp [intOf]; omega
      · have he : (gi xs (k + 1) != gi xs k) = false := by assumption
        go_roundw
        case rel => exact ⟨k + 1, by omega, by go_num, by simp [chTo, he], (by first | exact ⟨_, rfl⟩ | exact ⟨_, drewN_add _ _ _⟩)⟩
        case measure => simp [intOf]; omega
    · go_wp2
      go_ret
      refine RetQ.mk1 ?_ ⟨_, rfl⟩
      have : k = xs.length - 1 := by omega
      subst this
      rfl

theorem fnExactCountHandovers_c (va : Value) (xs : List Int) (w : World) (h : RdI w va xs) (_ : ∀ n ∈ xs, (Lit.int .i64 n).wf = true) :
    Calls Try.prog 5 #[va] w (Ret w fun v _ => v = .bool true) := by
  obtain ⟨a, ca, rfl, ml⟩ := h.form
  have H := Lib.hid h
  clear h
  by_cases hl : xs.length ≤ 1048576
  · go_enter Try.func5, Try.ntmps5
    go_wp2_with fail
    refine (toIntS_c _ xs _ H.out (by omega)).mono ?_
    rintro e w1 ⟨v1, rfl, ho1, hb1⟩
    have HO1 := Lib.hid ho1
    have HB1 := Lib.hid hb1
    clear ho1 hb1
    go_wp2_with fail
    refine (specCountHandovers_c _ xs _ HO1.out.rd).mono ?_
    rintro e w2 ⟨rfl, n2, rfl⟩
    go_wp2_with fail
    refine (toIntS_c _ xs _ ((H.out.below HB1.out).drewN _) (by omega)).mono ?_
    rintro e w3 ⟨v3, rfl, ho3, hb3⟩
    have HO3 := Lib.hid ho3
    have HB3 := Lib.hid (HB1.out.trans ((below_drewN (Below.refl _ _) n2).trans hb3 |>.mono HB1.out.size))
    clear ho3 hb3
    go_wp2_with fail
    refine (implCountHandovers_c _ xs _ HO3.out.rd).mono ?_
    rintro e w4 ⟨rfl, n4, rfl⟩
    have hcmp : (((chTo xs (xs.length - 1) : Nat) : Int) != ((chTo xs (xs.length - 1) : Nat) : Int)) = false := bne_self_eq_false _
    go_wp2_with fail
    refine (toIntS_c _ xs _ ((H.out.below HB3.out).drewN _) (by omega)).mono ?_
    rintro e w5 ⟨v5, rfl, ho5, hb5⟩
    have HO5 := Lib.hid ho5
    have HB5 := Lib.hid hb5
    clear ho5 hb5
    go_wp2_with fail
    refine (eqIntS_c _ _ xs xs _ ((HO3.out.rd.drewN _).below HB5.out) HO5.out.rd).mono ?_
    rintro e w6 ⟨rfl, n6, rfl⟩
    have hd : decide (xs = xs) = true := by simp
    go_wp2
    go_ret
    refine Ret.mk1 rfl ?_
    exact HB3.out.trans ((below_drewN (Below.refl _ _) n4).trans (HB5.out.trans (below_drewN (Below.refl _ _) n6)) |>.mono HB3.out.size)
  · go_enter Try.func5, Try.ntmps5
    go_wp2
    go_ret
    exact Ret.mk1 rfl (Below.refl _ _)

end Go.Proofs.Ythgfkfimkaiknaa
