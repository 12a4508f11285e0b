import Derived.Test.YtpcmfmkpgidgpaaDoorProg
import Derived.Test.YtpcmfmkpgidgpaaDoorSym
import Derived.Test.YtpcmfmkpgidgpaaDoorPair
import Derived.Test.YtpcmfmkpgidgpaaDoorDist
import Derived.Test.YtpcmfmkpgidgpaaDoorLink6
namespace Go.Proofs.YtpcmfmkpgidgpaaDoor
open Go.RowKit

theorem fnExactReceiveLink_c (va : Value) (xs : List (Int × Int)) (w : World) (h : RdM 2 w va xs.length (bC xs)) (hD : RdI w (.slice (some ⟨0, 0, none⟩) 4 4) dpL) :
    Calls Tryd.prog 5 #[va] w (Ret w fun v _ => v = .bool true) := by
  obtain ⟨b, cb, rfl, mb⟩ := h.form
  have hs := SH.start w [rdMP 2 (.slice b xs.length cb) xs.length (bC xs), rdP .i64 (.slice (some ⟨0, 0, none⟩) 4 4) dpL] (by simp only [List.forall_mem_cons]; exact ⟨⟨⟨h, by decide⟩, rdMP_wr⟩, ⟨hD, rdP_wr⟩, by simp⟩)
  clear h hD
  go_enter Tryd.func5, Tryd.ntmps5
  go_wp2_with fail
  refine (SH.quiet hs (by repeat' (first | with_reducible exact Below.refl _ _ | with_reducible assumption | with_reducible refine below_drewN ?_ _ | with_reducible refine Below.drew ?_ | with_reducible refine Below.alloc ?_ ?_ _ | with_reducible refine Below.setCell ?_ ?_ _ | go_size)) fun hs => szSampleS_c _ xs _ hs.p0.1).mono ?_
  rintro e w1 ⟨rfl, hs⟩
  by_cases lf : xs.length ≤ 1048576
  case neg =>
    rw [if_neg lf]
    go_wp2
    go_ret
    exact Ret.mk1 rfl (SH.done (by first | exact hs | exact (hs).alloc _ | exact ((hs).alloc _).alloc _ | exact (((hs).alloc _).alloc _).alloc _ | exact ((((hs).alloc _).alloc _).alloc _).alloc _ | exact (hs).drew | exact ((hs).alloc _).drew | exact (((hs).alloc _).alloc _).drew | exact ((((hs).alloc _).alloc _).alloc _).drew | exact (((((hs).alloc _).alloc _).alloc _).alloc _).drew | exact (hs).drewN _ | exact ((hs).alloc _).drewN _ | exact (((hs).alloc _).alloc _).drewN _ | exact ((((hs).alloc _).alloc _).alloc _).drewN _ | exact (((((hs).alloc _).alloc _).alloc _).alloc _).drewN _))
  rw [if_pos lf]
  go_wp2_with fail
  refine (SH.ownM hs (by repeat' (first | with_reducible exact Below.refl _ _ | with_reducible assumption | with_reducible refine below_drewN ?_ _ | with_reducible refine Below.drew ?_ | with_reducible refine Below.alloc ?_ ?_ _ | with_reducible refine Below.setCell ?_ ?_ _ | go_size)) fun hs => toSampleS_c _ xs _ hs.p0.1 lf).mono ?_
  rintro e w2 ⟨x1, rfl, hs⟩
  go_wp2_with fail
  refine (SH.ownT3 hs (by repeat' (first | with_reducible exact Below.refl _ _ | with_reducible assumption | with_reducible refine below_drewN ?_ _ | with_reducible refine Below.drew ?_ | with_reducible refine Below.alloc ?_ ?_ _ | with_reducible refine Below.setCell ?_ ?_ _ | go_size)) fun hs => specReceive_c _ xs _ (OwnM.rd hs.p0)).mono ?_
  rintro e w3 ⟨w0, rfl, hs⟩
  have hs := hs.drop1
  go_wp2_with fail
  refine (SH.ownM hs (by repeat' (first | with_reducible exact Below.refl _ _ | with_reducible assumption | with_reducible refine below_drewN ?_ _ | with_reducible refine Below.drew ?_ | with_reducible refine Below.alloc ?_ ?_ _ | with_reducible refine Below.setCell ?_ ?_ _ | go_size)) fun hs => toSampleS_c _ xs _ hs.p1.1 lf).mono ?_
  rintro e w4 ⟨x0, rfl, hs⟩
  go_wp2_with fail
  refine (SH.ownT3 hs (by repeat' (first | with_reducible exact Below.refl _ _ | with_reducible assumption | with_reducible refine below_drewN ?_ _ | with_reducible refine Below.drew ?_ | with_reducible refine Below.alloc ?_ ?_ _ | with_reducible refine Below.setCell ?_ ?_ _ | go_size)) fun hs => implReceive_c _ xs _ (OwnM.rd hs.p0) hs.p3).mono ?_
  rintro e w5 ⟨g0, rfl, hs⟩
  have hlen := rxL_len xs
  have n1 : ((rxN xs : Int) != (rxN xs : Int)) = false := bne_self_eq_false _
  have n2 : (rxB xs != rxB xs) = false := bne_self_eq_false _
  obtain ⟨rb, hrb⟩ : ∃ b, rxB xs = b := ⟨_, rfl⟩
  obtain ⟨rn, hrn⟩ : ∃ n : Int, ((rxN xs : Nat) : Int) = n := ⟨_, rfl⟩
  rw [hrb] at n2 ⊢
  rw [hrn] at n1 ⊢
  have HRB := Lib.hid hrb
  have HRN := Lib.hid hrn
  clear hrb hrn
  go_wp2_with fail
  refine (SH.quiet hs (by repeat' (first | with_reducible exact Below.refl _ _ | with_reducible assumption | with_reducible refine below_drewN ?_ _ | with_reducible refine Below.drew ?_ | with_reducible refine Below.alloc ?_ ?_ _ | with_reducible refine Below.setCell ?_ ?_ _ | go_size)) fun hs => eqIntS_c _ _ _ _ _ (OwnK.rd hs.p0) (OwnK.rd hs.p2)).mono ?_
  rintro e w6 ⟨rfl, hs⟩
  rw [show decide (rxL xs = rxL xs) = true by simp]
  go_wp2_with fail
  refine (SH.ownM hs (by repeat' (first | with_reducible exact Below.refl _ _ | with_reducible assumption | with_reducible refine below_drewN ?_ _ | with_reducible refine Below.drew ?_ | with_reducible refine Below.alloc ?_ ?_ _ | with_reducible refine Below.setCell ?_ ?_ _ | go_size)) fun hs => toSampleS_c _ xs _ hs.p3.1 lf).mono ?_
  rintro e w7 ⟨y0, rfl, hs⟩
  go_wp2_with fail
  refine (SH.ret hs (by repeat' (first | with_reducible exact Below.refl _ _ | with_reducible assumption | with_reducible refine below_drewN ?_ _ | with_reducible refine Below.drew ?_ | with_reducible refine Below.alloc ?_ ?_ _ | with_reducible refine Below.setCell ?_ ?_ _ | go_size)) fun hs => eqSampleS_c _ _ _ _ _ (OwnM.rd hs.p2) (OwnM.rd hs.p0)).mono ?_
  rintro e w8 ⟨v, rfl, rfl, hs⟩
  rw [show decide (xs = xs) = true by simp]
  have hs := hs.drop0.bring1
  go_wp2_with fail
  refine (SH.writesM hs (by repeat' (first | with_reducible exact Below.refl _ _ | with_reducible assumption | with_reducible refine below_drewN ?_ _ | with_reducible refine Below.drew ?_ | with_reducible refine Below.alloc ?_ ?_ _ | with_reducible refine Below.setCell ?_ ?_ _ | go_size)) fun hs => markSampleS_c 0 _ _ _ 1 _ hs.p0 (fun i j _ _ => ⟨_, rfl⟩) (by omega) (by omega) (by omega)).mono ?_
  rintro e w9 ⟨rfl, hs⟩
  have hs := hs.drop0
  go_wp2_with fail
  refine (SH.quiet hs (by repeat' (first | with_reducible exact Below.refl _ _ | with_reducible assumption | with_reducible refine below_drewN ?_ _ | with_reducible refine Below.drew ?_ | with_reducible refine Below.alloc ?_ ?_ _ | with_reducible refine Below.setCell ?_ ?_ _ | go_size)) fun hs => eqIntS_c _ _ _ _ _ (OwnK.rd hs.p0) (OwnK.rd hs.p1)).mono ?_
  rintro e w10 ⟨rfl, hs⟩
  rw [show decide (rxL xs = rxL xs) = true by simp]
  go_wp2_with fail
  refine (SH.writes hs (by repeat' (first | with_reducible exact Below.refl _ _ | with_reducible assumption | with_reducible refine below_drewN ?_ _ | with_reducible refine Below.drew ?_ | with_reducible refine Below.alloc ?_ ?_ _ | with_reducible refine Below.setCell ?_ ?_ _ | go_size)) fun hs => markIntS_c 0 _ _ 1 _ hs.p0 (by omega) (by omega) (by omega)).mono ?_
  rintro e w11 ⟨rfl, hs⟩
  go_wp2_with fail
  refine (SH.quiet hs (by repeat' (first | with_reducible exact Below.refl _ _ | with_reducible assumption | with_reducible refine below_drewN ?_ _ | with_reducible refine Below.drew ?_ | with_reducible refine Below.alloc ?_ ?_ _ | with_reducible refine Below.setCell ?_ ?_ _ | go_size)) fun hs => heldIntS_c _ _ 1 _ (OwnK.rd hs.p0) (by omega) (by omega) (by omega)).mono ?_
  rintro e w12 ⟨rfl, hs⟩
  have e2 : ((1 : Int) + ((rxL xs).length : Int) != 1 + ((rxL xs).length : Int)) = false := bne_self_eq_false _
  go_wp2_with fail
  refine (SH.ownM hs (by repeat' (first | with_reducible exact Below.refl _ _ | with_reducible assumption | with_reducible refine below_drewN ?_ _ | with_reducible refine Below.drew ?_ | with_reducible refine Below.alloc ?_ ?_ _ | with_reducible refine Below.setCell ?_ ?_ _ | go_size)) fun hs => toSampleS_c _ xs _ hs.p2.1 lf).mono ?_
  rintro e w13 ⟨z0, rfl, hs⟩
  go_wp2_with fail
  refine (SH.ownT3 (n := rn) (b := rb) hs (by repeat' (first | with_reducible exact Below.refl _ _ | with_reducible assumption | with_reducible refine below_drewN ?_ _ | with_reducible refine Below.drew ?_ | with_reducible refine Below.alloc ?_ ?_ _ | with_reducible refine Below.setCell ?_ ?_ _ | go_size)) fun hs => by have := implReceive_c _ xs _ (OwnM.rd hs.p0) hs.p4; rw [HRN.out, HRB.out] at this; exact this).mono ?_
  rintro e w14 ⟨h0, rfl, hs⟩
  go_wp2_with fail
  refine (SH.quiet hs (by repeat' (first | with_reducible exact Below.refl _ _ | with_reducible assumption | with_reducible refine below_drewN ?_ _ | with_reducible refine Below.drew ?_ | with_reducible refine Below.alloc ?_ ?_ _ | with_reducible refine Below.setCell ?_ ?_ _ | go_size)) fun hs => eqIntS_c _ _ _ _ _ (OwnK.rd hs.p0) (OwnK.rd hs.p3)).mono ?_
  rintro e w15 ⟨rfl, hs⟩
  rw [show decide (rxL xs = rxL xs) = true by simp]
  go_wp2_with fail
  refine (SH.quiet hs (by repeat' (first | with_reducible exact Below.refl _ _ | with_reducible assumption | with_reducible refine below_drewN ?_ _ | with_reducible refine Below.drew ?_ | with_reducible refine Below.alloc ?_ ?_ _ | with_reducible refine Below.setCell ?_ ?_ _ | go_size)) fun hs => heldIntS_c _ _ 1 _ (OwnK.rd hs.p2) (by omega) (by omega) (by omega)).mono ?_
  rintro e w16 ⟨rfl, hs⟩
  have e2 : ((1 : Int) + ((rxL xs).length : Int) != 1 + ((rxL xs).length : Int)) = false := bne_self_eq_false _
  go_wp2
  go_ret
  exact Ret.mk1 rfl (SH.done (by first | exact hs | exact (hs).alloc _ | exact ((hs).alloc _).alloc _ | exact (((hs).alloc _).alloc _).alloc _ | exact ((((hs).alloc _).alloc _).alloc _).alloc _ | exact (hs).drew | exact ((hs).alloc _).drew | exact (((hs).alloc _).alloc _).drew | exact ((((hs).alloc _).alloc _).alloc _).drew | exact (((((hs).alloc _).alloc _).alloc _).alloc _).drew | exact (hs).drewN _ | exact ((hs).alloc _).drewN _ | exact (((hs).alloc _).alloc _).drewN _ | exact ((((hs).alloc _).alloc _).alloc _).drewN _ | exact (((((hs).alloc _).alloc _).alloc _).alloc _).drewN _))

end Go.Proofs.YtpcmfmkpgidgpaaDoor
