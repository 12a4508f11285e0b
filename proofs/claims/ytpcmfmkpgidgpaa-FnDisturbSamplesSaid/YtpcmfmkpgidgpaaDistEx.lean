import Derived.Test.YtpcmfmkpgidgpaaProg
import Derived.Test.YtpcmfmkpgidgpaaSym
import Derived.Test.YtpcmfmkpgidgpaaPair
import Derived.Test.YtpcmfmkpgidgpaaDist
namespace Go.Proofs.Ytpcmfmkpgidgpaa
open Go.RowKit

theorem dsV_len (xs : List (Int × Int)) (a n : Int) : (dsV xs a n).length ≤ 256 := by
  unfold dsV
  split
  · next h =>
    rw [length_dsL]
    simp only [dsB, Bool.and_eq_true] at h
    exact (sgB_true.1 h.1.1.1).1
  · simp

theorem fnExactDisturbSamples_c (va : Value) (xs : List (Int × Int)) (a n : Int) (w : World) (h : RdM 2 w va xs.length (bC xs)) (ha : (Lit.int .i64 a).wf = true) (hn : (Lit.int .i64 n).wf = true) :
    Calls Try.prog 3 #[va, .int .i64 a, .int .i64 n] w (Ret w fun v _ => v = .bool true) := by
  obtain ⟨b, cb, rfl, mb⟩ := h.form
  have hs := SH.start w [rdMP 2 (.slice b xs.length cb) xs.length (bC xs)] (by simp only [List.forall_mem_cons]; exact ⟨⟨⟨h, by decide⟩, rdMP_wr⟩, by simp⟩)
  have WA := Lib.hid ha
  have WN := Lib.hid hn
  clear h ha hn
  go_enter Try.func3, Try.ntmps3
  go_wp2_with fail
  refine (SH.quiet hs (by repeat' (first | with_reducible exact Below.refl _ _ | with_reducible assumption | with_reducible refine below_drewN ?_ _ | with_reducible refine Below.drew ?_ | with_reducible refine Below.alloc ?_ ?_ _ | with_reducible refine Below.setCell ?_ ?_ _ | go_size)) fun hs => szSampleS_c _ xs _ hs.p0.1).mono ?_
  rintro e w1 ⟨rfl, hs⟩
  by_cases lf : xs.length ≤ 1048576
  case neg =>
    rw [if_neg lf]
    go_wp2
    go_ret
    exact Ret.mk1 rfl (SH.done (by first | exact hs | exact (hs).alloc _ | exact ((hs).alloc _).alloc _ | exact (((hs).alloc _).alloc _).alloc _ | exact ((((hs).alloc _).alloc _).alloc _).alloc _ | exact (hs).drew | exact ((hs).alloc _).drew | exact (((hs).alloc _).alloc _).drew | exact ((((hs).alloc _).alloc _).alloc _).drew | exact (((((hs).alloc _).alloc _).alloc _).alloc _).drew | exact (hs).drewN _ | exact ((hs).alloc _).drewN _ | exact (((hs).alloc _).alloc _).drewN _ | exact ((((hs).alloc _).alloc _).alloc _).drewN _ | exact (((((hs).alloc _).alloc _).alloc _).alloc _).drewN _))
  rw [if_pos lf]
  go_wp2_with fail
  refine (SH.ownM hs (by repeat' (first | with_reducible exact Below.refl _ _ | with_reducible assumption | with_reducible refine below_drewN ?_ _ | with_reducible refine Below.drew ?_ | with_reducible refine Below.alloc ?_ ?_ _ | with_reducible refine Below.setCell ?_ ?_ _ | go_size)) fun hs => toSampleS_c _ xs _ hs.p0.1 lf).mono ?_
  rintro e w2 ⟨x1, rfl, hs⟩
  go_wp2_with fail
  refine (SH.ownM hs (by repeat' (first | with_reducible exact Below.refl _ _ | with_reducible assumption | with_reducible refine below_drewN ?_ _ | with_reducible refine Below.drew ?_ | with_reducible refine Below.alloc ?_ ?_ _ | with_reducible refine Below.setCell ?_ ?_ _ | go_size)) fun hs => specDisturbSamples_c _ xs a n _ (OwnM.rd hs.p0) WA.out WN.out).mono ?_
  rintro e w3 ⟨w0, rfl, hs⟩
  have hs := hs.drop1
  go_wp2_with fail
  refine (SH.ownM hs (by repeat' (first | with_reducible exact Below.refl _ _ | with_reducible assumption | with_reducible refine below_drewN ?_ _ | with_reducible refine Below.drew ?_ | with_reducible refine Below.alloc ?_ ?_ _ | with_reducible refine Below.setCell ?_ ?_ _ | go_size)) fun hs => toSampleS_c _ xs _ hs.p1.1 lf).mono ?_
  rintro e w4 ⟨x0, rfl, hs⟩
  go_wp2_with fail
  refine (SH.ownM hs (by repeat' (first | with_reducible exact Below.refl _ _ | with_reducible assumption | with_reducible refine below_drewN ?_ _ | with_reducible refine Below.drew ?_ | with_reducible refine Below.alloc ?_ ?_ _ | with_reducible refine Below.setCell ?_ ?_ _ | go_size)) fun hs => implDisturbSamples_c _ xs a n _ (OwnM.rd hs.p0) WA.out WN.out).mono ?_
  rintro e w5 ⟨g0, rfl, hs⟩
  go_wp2_with fail
  refine (SH.ret hs (by repeat' (first | with_reducible exact Below.refl _ _ | with_reducible assumption | with_reducible refine below_drewN ?_ _ | with_reducible refine Below.drew ?_ | with_reducible refine Below.alloc ?_ ?_ _ | with_reducible refine Below.setCell ?_ ?_ _ | go_size)) fun hs => eqSampleS_c _ _ _ _ _ (OwnM.rd hs.p0) (OwnM.rd hs.p2)).mono ?_
  rintro e w6 ⟨v, rfl, rfl, hs⟩
  rw [show decide (dsV xs a n = dsV xs a n) = true by simp]
  go_wp2_with fail
  refine (SH.ownM hs (by repeat' (first | with_reducible exact Below.refl _ _ | with_reducible assumption | with_reducible refine below_drewN ?_ _ | with_reducible refine Below.drew ?_ | with_reducible refine Below.alloc ?_ ?_ _ | with_reducible refine Below.setCell ?_ ?_ _ | go_size)) fun hs => toSampleS_c _ xs _ hs.p3.1 lf).mono ?_
  rintro e w7 ⟨y0, rfl, hs⟩
  go_wp2_with fail
  refine (SH.ret hs (by repeat' (first | with_reducible exact Below.refl _ _ | with_reducible assumption | with_reducible refine below_drewN ?_ _ | with_reducible refine Below.drew ?_ | with_reducible refine Below.alloc ?_ ?_ _ | with_reducible refine Below.setCell ?_ ?_ _ | go_size)) fun hs => eqSampleS_c _ _ _ _ _ (OwnM.rd hs.p2) (OwnM.rd hs.p0)).mono ?_
  rintro e w8 ⟨v, rfl, rfl, hs⟩
  rw [show decide (xs = xs) = true by simp]
  have hs := hs.drop0.bring1
  go_wp2_with fail
  refine (SH.writesM hs (by repeat' (first | with_reducible exact Below.refl _ _ | with_reducible assumption | with_reducible refine below_drewN ?_ _ | with_reducible refine Below.drew ?_ | with_reducible refine Below.alloc ?_ ?_ _ | with_reducible refine Below.setCell ?_ ?_ _ | go_size)) fun hs => markSampleS_c 0 _ _ _ 1 _ hs.p0 (fun i j _ _ => ⟨_, rfl⟩) (by omega) (by omega) (by omega)).mono ?_
  rintro e w9 ⟨rfl, hs⟩
  have hs := hs.drop0
  have hlen := dsV_len xs a n
  go_wp2_with fail
  refine (SH.ret hs (by repeat' (first | with_reducible exact Below.refl _ _ | with_reducible assumption | with_reducible refine below_drewN ?_ _ | with_reducible refine Below.drew ?_ | with_reducible refine Below.alloc ?_ ?_ _ | with_reducible refine Below.setCell ?_ ?_ _ | go_size)) fun hs => eqSampleS_c _ _ _ _ _ (OwnM.rd hs.p0) (OwnM.rd hs.p1)).mono ?_
  rintro e w10 ⟨v, rfl, rfl, hs⟩
  rw [show decide (dsV xs a n = dsV xs a n) = true by simp]
  go_wp2_with fail
  refine (SH.writesM hs (by repeat' (first | with_reducible exact Below.refl _ _ | with_reducible assumption | with_reducible refine below_drewN ?_ _ | with_reducible refine Below.drew ?_ | with_reducible refine Below.alloc ?_ ?_ _ | with_reducible refine Below.setCell ?_ ?_ _ | go_size)) fun hs => markSampleS_c 0 _ _ _ 1 _ hs.p0 (fun i j _ _ => ⟨_, rfl⟩) (by omega) (by omega) (by omega)).mono ?_
  rintro e w11 ⟨rfl, hs⟩
  go_wp2_with fail
  refine (SH.quiet hs (by repeat' (first | with_reducible exact Below.refl _ _ | with_reducible assumption | with_reducible refine below_drewN ?_ _ | with_reducible refine Below.drew ?_ | with_reducible refine Below.alloc ?_ ?_ _ | with_reducible refine Below.setCell ?_ ?_ _ | go_size)) fun hs => heldSampleS_c _ _ 1 _ (OwnM.rd hs.p0) (by omega) (by omega) (by omega)).mono ?_
  rintro e w12 ⟨rfl, hs⟩
  have e1 : ((1 : Int) + 2 * ((dsV xs a n).length : Int) != 1 + 2 * ((dsV xs a n).length : Int)) = false := bne_self_eq_false _
  go_wp2_with fail
  refine (SH.ownM hs (by repeat' (first | with_reducible exact Below.refl _ _ | with_reducible assumption | with_reducible refine below_drewN ?_ _ | with_reducible refine Below.drew ?_ | with_reducible refine Below.alloc ?_ ?_ _ | with_reducible refine Below.setCell ?_ ?_ _ | go_size)) fun hs => toSampleS_c _ xs _ hs.p2.1 lf).mono ?_
  rintro e w13 ⟨z0, rfl, hs⟩
  go_wp2_with fail
  refine (SH.ownM hs (by repeat' (first | with_reducible exact Below.refl _ _ | with_reducible assumption | with_reducible refine below_drewN ?_ _ | with_reducible refine Below.drew ?_ | with_reducible refine Below.alloc ?_ ?_ _ | with_reducible refine Below.setCell ?_ ?_ _ | go_size)) fun hs => implDisturbSamples_c _ xs a n _ (OwnM.rd hs.p0) WA.out WN.out).mono ?_
  rintro e w14 ⟨h0, rfl, hs⟩
  go_wp2_with fail
  refine (SH.ret hs (by repeat' (first | with_reducible exact Below.refl _ _ | with_reducible assumption | with_reducible refine below_drewN ?_ _ | with_reducible refine Below.drew ?_ | with_reducible refine Below.alloc ?_ ?_ _ | with_reducible refine Below.setCell ?_ ?_ _ | go_size)) fun hs => eqSampleS_c _ _ _ _ _ (OwnM.rd hs.p0) (OwnM.rd hs.p3)).mono ?_
  rintro e w15 ⟨v, rfl, rfl, hs⟩
  rw [show decide (dsV xs a n = dsV xs a n) = true by simp]
  go_wp2_with fail
  refine (SH.quiet hs (by repeat' (first | with_reducible exact Below.refl _ _ | with_reducible assumption | with_reducible refine below_drewN ?_ _ | with_reducible refine Below.drew ?_ | with_reducible refine Below.alloc ?_ ?_ _ | with_reducible refine Below.setCell ?_ ?_ _ | go_size)) fun hs => heldSampleS_c _ _ 1 _ (OwnM.rd hs.p2) (by omega) (by omega) (by omega)).mono ?_
  rintro e w16 ⟨rfl, hs⟩
  have e1 : ((1 : Int) + 2 * ((dsV xs a n).length : Int) != 1 + 2 * ((dsV xs a n).length : Int)) = false := bne_self_eq_false _
  go_wp2
  go_ret
  exact Ret.mk1 rfl (SH.done (by first | exact hs | exact (hs).alloc _ | exact ((hs).alloc _).alloc _ | exact (((hs).alloc _).alloc _).alloc _ | exact ((((hs).alloc _).alloc _).alloc _).alloc _ | exact (hs).drew | exact ((hs).alloc _).drew | exact (((hs).alloc _).alloc _).drew | exact ((((hs).alloc _).alloc _).alloc _).drew | exact (((((hs).alloc _).alloc _).alloc _).alloc _).drew | exact (hs).drewN _ | exact ((hs).alloc _).drewN _ | exact (((hs).alloc _).alloc _).drewN _ | exact ((((hs).alloc _).alloc _).alloc _).drewN _ | exact (((((hs).alloc _).alloc _).alloc _).alloc _).drewN _))

end Go.Proofs.Ytpcmfmkpgidgpaa
