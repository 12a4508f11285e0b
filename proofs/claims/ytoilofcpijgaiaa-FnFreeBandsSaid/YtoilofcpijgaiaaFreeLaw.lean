import Derived.Test.YtoilofcpijgaiaaProg
import Derived.Test.YtoilofcpijgaiaaSym
import Derived.Test.YtoilofcpijgaiaaInts
import Derived.Test.YtoilofcpijgaiaaPair
import Derived.Test.YtoilofcpijgaiaaBand
import Derived.Test.YtoilofcpijgaiaaFree
import Derived.Test.YtoilofcpijgaiaaFreeEx
namespace Go.Proofs.Ytoilofcpijgaiaa
open Go.RowKit

theorem bC_int2 (xs : List (Int × Int)) (i j : Nat) : ∃ x : Int, bC xs i j = .int .i64 x := ⟨_, rfl⟩
theorem frV_len (xs : List Int) (th wd : Int) : (frV xs th wd).length ≤ 65 := by
  unfold frV
  split
  · next h =>
    have := List.length_filter_le (wideB wd) (rgs xs th (xs.length + 1))
    have := length_rgs xs th (xs.length + 1)
    simp only [Bool.and_eq_true, decide_eq_true_eq] at h
    omega
  · simp

theorem fnExactFreeBands_c (va : Value) (xs : List Int) (th wd : Int) (w : World) (ha : RdI w va xs) (_ : ∀ n ∈ xs, (Lit.int .i64 n).wf = true) (_ : (Lit.int .i64 th).wf = true) (_ : (Lit.int .i64 wd).wf = true) :
    Calls Try.prog 9 #[va, .int .i64 th, .int .i64 wd] w (Ret w fun v _ => v = .bool true) := by
  obtain ⟨a, ca, rfl, ma⟩ := ha.form
  have hs := SH.start w [rdP .i64 (.slice a xs.length ca) xs] (by simp only [List.forall_mem_cons]; exact ⟨⟨ha, rdP_wr⟩, by simp⟩)
  clear ha
  by_cases lw : xs.length ≤ 1048576
  case neg =>
    go_enter Try.func9, Try.ntmps9
    go_wp2
    go_ret
    exact Ret.mk1 rfl (Below.refl _ _)
  go_enter Try.func9, Try.ntmps9
  go_wp2_with fail
  refine (SH.own hs (by repeat' (first | with_reducible exact Below.refl _ _ | with_reducible assumption | with_reducible refine below_drewN ?_ _ | with_reducible refine Below.drew ?_ | with_reducible refine Below.alloc ?_ ?_ _ | with_reducible refine Below.setCell ?_ ?_ _ | go_size)) fun hs => toIntS_c _ xs _ hs.p0 (by omega)).mono ?_
  rintro e w1 ⟨x1, rfl, hs⟩
  go_wp2_with fail
  refine (SH.ownM hs (by repeat' (first | with_reducible exact Below.refl _ _ | with_reducible assumption | with_reducible refine below_drewN ?_ _ | with_reducible refine Below.drew ?_ | with_reducible refine Below.alloc ?_ ?_ _ | with_reducible refine Below.setCell ?_ ?_ _ | go_size)) fun hs => specFreeBands_c _ xs th wd _ (OwnK.rd hs.p0)).mono ?_
  rintro e w2 ⟨w0, rfl, hs⟩
  have hs := hs.drop1
  go_wp2_with fail
  refine (SH.own hs (by repeat' (first | with_reducible exact Below.refl _ _ | with_reducible assumption | with_reducible refine below_drewN ?_ _ | with_reducible refine Below.drew ?_ | with_reducible refine Below.alloc ?_ ?_ _ | with_reducible refine Below.setCell ?_ ?_ _ | go_size)) fun hs => toIntS_c _ xs _ hs.p1 (by omega)).mono ?_
  rintro e w3 ⟨x0, rfl, hs⟩
  go_wp2_with fail
  refine (SH.ownM hs (by repeat' (first | with_reducible exact Below.refl _ _ | with_reducible assumption | with_reducible refine below_drewN ?_ _ | with_reducible refine Below.drew ?_ | with_reducible refine Below.alloc ?_ ?_ _ | with_reducible refine Below.setCell ?_ ?_ _ | go_size)) fun hs => implFreeBands_c _ xs th wd _ (OwnK.rd hs.p0)).mono ?_
  rintro e w4 ⟨g0, rfl, hs⟩
  go_wp2_with fail
  refine (SH.ret hs (by repeat' (first | with_reducible exact Below.refl _ _ | with_reducible assumption | with_reducible refine below_drewN ?_ _ | with_reducible refine Below.drew ?_ | with_reducible refine Below.alloc ?_ ?_ _ | with_reducible refine Below.setCell ?_ ?_ _ | go_size)) fun hs => eqBandS_c _ _ _ _ _ (OwnM.rd hs.p0) (OwnM.rd hs.p2)).mono ?_
  rintro e w5 ⟨v, rfl, rfl, hs⟩
  rw [show decide (frV xs th wd = frV xs th wd) = true by simp]
  go_wp2_with fail
  refine (SH.own hs (by repeat' (first | with_reducible exact Below.refl _ _ | with_reducible assumption | with_reducible refine below_drewN ?_ _ | with_reducible refine Below.drew ?_ | with_reducible refine Below.alloc ?_ ?_ _ | with_reducible refine Below.setCell ?_ ?_ _ | go_size)) fun hs => toIntS_c _ xs _ hs.p3 (by omega)).mono ?_
  rintro e w6 ⟨y0, rfl, hs⟩
  go_wp2_with fail
  refine (SH.quiet hs (by repeat' (first | with_reducible exact Below.refl _ _ | with_reducible assumption | with_reducible refine below_drewN ?_ _ | with_reducible refine Below.drew ?_ | with_reducible refine Below.alloc ?_ ?_ _ | with_reducible refine Below.setCell ?_ ?_ _ | go_size)) fun hs => eqIntS_c _ _ _ _ _ (OwnK.rd hs.p2) (OwnK.rd hs.p0)).mono ?_
  rintro e w7 ⟨rfl, hs⟩
  rw [show decide (xs = xs) = true by simp]
  have hs := hs.drop0.bring1
  go_wp2_with fail
  refine (SH.writes hs (by repeat' (first | with_reducible exact Below.refl _ _ | with_reducible assumption | with_reducible refine below_drewN ?_ _ | with_reducible refine Below.drew ?_ | with_reducible refine Below.alloc ?_ ?_ _ | with_reducible refine Below.setCell ?_ ?_ _ | go_size)) fun hs => markIntS_c 0 _ _ _ _ hs.p0 (by omega) (by omega) (by omega)).mono ?_
  rintro e w8 ⟨rfl, hs⟩
  have hs := hs.drop0
  have hlen := frV_len xs th wd
  go_wp2_with fail
  refine (SH.ret hs (by repeat' (first | with_reducible exact Below.refl _ _ | with_reducible assumption | with_reducible refine below_drewN ?_ _ | with_reducible refine Below.drew ?_ | with_reducible refine Below.alloc ?_ ?_ _ | with_reducible refine Below.setCell ?_ ?_ _ | go_size)) fun hs => eqBandS_c _ _ _ _ _ (OwnM.rd hs.p0) (OwnM.rd hs.p1)).mono ?_
  rintro e w9 ⟨v, rfl, rfl, hs⟩
  rw [show decide (frV xs th wd = frV xs th wd) = true by simp]
  go_wp2_with fail
  refine (SH.writesM hs (by repeat' (first | with_reducible exact Below.refl _ _ | with_reducible assumption | with_reducible refine below_drewN ?_ _ | with_reducible refine Below.drew ?_ | with_reducible refine Below.alloc ?_ ?_ _ | with_reducible refine Below.setCell ?_ ?_ _ | go_size)) fun hs => markBandS_c 0 _ _ _ 1 _ hs.p0 (fun i j _ _ => bC_int2 _ i j) (by omega) (by omega) (by omega)).mono ?_
  rintro e w10 ⟨rfl, hs⟩
  go_wp2_with fail
  refine (SH.quiet hs (by repeat' (first | with_reducible exact Below.refl _ _ | with_reducible assumption | with_reducible refine below_drewN ?_ _ | with_reducible refine Below.drew ?_ | with_reducible refine Below.alloc ?_ ?_ _ | with_reducible refine Below.setCell ?_ ?_ _ | go_size)) fun hs => heldBandS_c _ _ 1 _ (OwnM.rd hs.p0) (by omega) (by omega) (by omega)).mono ?_
  rintro e w11 ⟨rfl, hs⟩
  have e1 : ((1 : Int) + 2 * ((frV xs th wd).length : Int) != 1 + 2 * ((frV xs th wd).length : Int)) = false := bne_self_eq_false _
  go_wp2_with fail
  refine (SH.own hs (by repeat' (first | with_reducible exact Below.refl _ _ | with_reducible assumption | with_reducible refine below_drewN ?_ _ | with_reducible refine Below.drew ?_ | with_reducible refine Below.alloc ?_ ?_ _ | with_reducible refine Below.setCell ?_ ?_ _ | go_size)) fun hs => toIntS_c _ xs _ hs.p2 (by omega)).mono ?_
  rintro e w12 ⟨z0, rfl, hs⟩
  go_wp2_with fail
  refine (SH.ownM hs (by repeat' (first | with_reducible exact Below.refl _ _ | with_reducible assumption | with_reducible refine below_drewN ?_ _ | with_reducible refine Below.drew ?_ | with_reducible refine Below.alloc ?_ ?_ _ | with_reducible refine Below.setCell ?_ ?_ _ | go_size)) fun hs => implFreeBands_c _ xs th wd _ (OwnK.rd hs.p0)).mono ?_
  rintro e w13 ⟨h0, rfl, hs⟩
  go_wp2_with fail
  refine (SH.ret hs (by repeat' (first | with_reducible exact Below.refl _ _ | with_reducible assumption | with_reducible refine below_drewN ?_ _ | with_reducible refine Below.drew ?_ | with_reducible refine Below.alloc ?_ ?_ _ | with_reducible refine Below.setCell ?_ ?_ _ | go_size)) fun hs => eqBandS_c _ _ _ _ _ (OwnM.rd hs.p0) (OwnM.rd hs.p3)).mono ?_
  rintro e w14 ⟨v, rfl, rfl, hs⟩
  rw [show decide (frV xs th wd = frV xs th wd) = true by simp]
  go_wp2_with fail
  refine (SH.quiet hs (by repeat' (first | with_reducible exact Below.refl _ _ | with_reducible assumption | with_reducible refine below_drewN ?_ _ | with_reducible refine Below.drew ?_ | with_reducible refine Below.alloc ?_ ?_ _ | with_reducible refine Below.setCell ?_ ?_ _ | go_size)) fun hs => heldBandS_c _ _ 1 _ (OwnM.rd hs.p2) (by omega) (by omega) (by omega)).mono ?_
  rintro e w15 ⟨rfl, hs⟩
  have e1 : ((1 : Int) + 2 * ((frV xs th wd).length : Int) != 1 + 2 * ((frV xs th wd).length : Int)) = false := bne_self_eq_false _
  go_wp2
  go_ret
  exact Ret.mk1 rfl (SH.done (by first | exact hs | exact (hs).alloc _ | exact ((hs).alloc _).alloc _ | exact (((hs).alloc _).alloc _).alloc _ | exact ((((hs).alloc _).alloc _).alloc _).alloc _ | exact (hs).drew | exact ((hs).alloc _).drew | exact (((hs).alloc _).alloc _).drew | exact ((((hs).alloc _).alloc _).alloc _).drew | exact (((((hs).alloc _).alloc _).alloc _).alloc _).drew | exact (hs).drewN _ | exact ((hs).alloc _).drewN _ | exact (((hs).alloc _).alloc _).drewN _ | exact ((((hs).alloc _).alloc _).alloc _).drewN _ | exact (((((hs).alloc _).alloc _).alloc _).alloc _).drewN _))

end Go.Proofs.Ytoilofcpijgaiaa
