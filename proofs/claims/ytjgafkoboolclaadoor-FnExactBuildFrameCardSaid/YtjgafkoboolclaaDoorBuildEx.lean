import Derived.Test.YtjgafkoboolclaaDoorProg
import Derived.Test.YtjgafkoboolclaaDoorSym
import Derived.Test.YtjgafkoboolclaaDoorInts
import Derived.Test.YtjgafkoboolclaaDoorApp
import Derived.Test.YtjgafkoboolclaaDoorStuff
import Derived.Test.YtjgafkoboolclaaDoorFlag
import Derived.Test.YtjgafkoboolclaaDoorBuild
namespace Go.Proofs.YtjgafkoboolclaaDoor
open Go.RowKit

set_option maxHeartbeats 4000000 in
theorem fnExactBuildFrame_c (va : Value) (bs : List Int) (w : World) (ha : RdI w va bs) (_ : ∀ n ∈ bs, (Lit.int .i64 n).wf = true) (hg : RdI w (.slice (some ⟨0, 0, none⟩) 8 8) flagL) :
    Calls Tryd.prog 3 #[va] w (Ret w fun v _ => v = .bool true) := by
  obtain ⟨a, ca, rfl, ma⟩ := ha.form
  have hs := SH.start w [rdP .i64 (.slice a bs.length ca) bs, rdP .i64 (.slice (some ⟨0, 0, none⟩) 8 8) flagL] (by simp only [List.forall_mem_cons]; exact ⟨⟨ha, rdP_wr⟩, ⟨hg, rdP_wr⟩, by simp⟩)
  clear ha hg
  by_cases lw : bs.length ≤ 1048576
  case neg =>
    go_enter Tryd.func3, Tryd.ntmps3
    go_wp2
    go_ret
    exact Ret.mk1 rfl (Below.refl _ _)
  have hlen := bfV_len bs
  go_enter Tryd.func3, Tryd.ntmps3
  go_wp2_with fail
  refine (SH.own hs (by repeat' (first | with_reducible exact Below.refl _ _ | with_reducible assumption | with_reducible refine below_drewN ?_ _ | with_reducible refine Below.drew ?_ | with_reducible refine Below.alloc ?_ ?_ _ | with_reducible refine Below.setCell ?_ ?_ _ | go_size)) fun hs => toIntS_c _ bs _ hs.p0 (by omega)).mono ?_
  rintro e w1 ⟨p, rfl, hs⟩
  go_wp2_with fail
  refine (SH.own hs (by repeat' (first | with_reducible exact Below.refl _ _ | with_reducible assumption | with_reducible refine below_drewN ?_ _ | with_reducible refine Below.drew ?_ | with_reducible refine Below.alloc ?_ ?_ _ | with_reducible refine Below.setCell ?_ ?_ _ | go_size)) fun hs => specBuildFrame_c _ bs _ (OwnK.rd hs.p0)).mono ?_
  rintro e w2 ⟨w0, rfl, hs⟩
  have hs := hs.drop1
  go_wp2_with fail
  refine (SH.own hs (by repeat' (first | with_reducible exact Below.refl _ _ | with_reducible assumption | with_reducible refine below_drewN ?_ _ | with_reducible refine Below.drew ?_ | with_reducible refine Below.alloc ?_ ?_ _ | with_reducible refine Below.setCell ?_ ?_ _ | go_size)) fun hs => toIntS_c _ bs _ hs.p1 (by omega)).mono ?_
  rintro e w3 ⟨x0, rfl, hs⟩
  go_wp2_with fail
  refine (SH.own hs (by repeat' (first | with_reducible exact Below.refl _ _ | with_reducible assumption | with_reducible refine below_drewN ?_ _ | with_reducible refine Below.drew ?_ | with_reducible refine Below.alloc ?_ ?_ _ | with_reducible refine Below.setCell ?_ ?_ _ | go_size)) fun hs => implBuildFrame_c _ bs _ (OwnK.rd hs.p0) hs.p3).mono ?_
  rintro e w4 ⟨g0, rfl, hs⟩
  go_wp2_with fail
  refine (SH.quiet hs (by repeat' (first | with_reducible exact Below.refl _ _ | with_reducible assumption | with_reducible refine below_drewN ?_ _ | with_reducible refine Below.drew ?_ | with_reducible refine Below.alloc ?_ ?_ _ | with_reducible refine Below.setCell ?_ ?_ _ | go_size)) fun hs => eqIntS_c _ _ _ _ _ (OwnK.rd hs.p0) (OwnK.rd hs.p2)).mono ?_
  rintro e w5 ⟨rfl, hs⟩
  rw [show decide (bfV bs = bfV bs) = true by simp]
  go_wp2_with fail
  refine (SH.own hs (by repeat' (first | with_reducible exact Below.refl _ _ | with_reducible assumption | with_reducible refine below_drewN ?_ _ | with_reducible refine Below.drew ?_ | with_reducible refine Below.alloc ?_ ?_ _ | with_reducible refine Below.setCell ?_ ?_ _ | go_size)) fun hs => toIntS_c _ bs _ hs.p3 (by omega)).mono ?_
  rintro e w6 ⟨y0, rfl, hs⟩
  go_wp2_with fail
  refine (SH.quiet hs (by repeat' (first | with_reducible exact Below.refl _ _ | with_reducible assumption | with_reducible refine below_drewN ?_ _ | with_reducible refine Below.drew ?_ | with_reducible refine Below.alloc ?_ ?_ _ | with_reducible refine Below.setCell ?_ ?_ _ | go_size)) fun hs => eqIntS_c _ _ _ _ _ (OwnK.rd hs.p2) (OwnK.rd hs.p0)).mono ?_
  rintro e w7 ⟨rfl, hs⟩
  rw [show decide (bs = bs) = true by simp]
  have hs := hs.drop0.bring1
  go_wp2_with fail
  refine (SH.writes hs (by repeat' (first | with_reducible exact Below.refl _ _ | with_reducible assumption | with_reducible refine below_drewN ?_ _ | with_reducible refine Below.drew ?_ | with_reducible refine Below.alloc ?_ ?_ _ | with_reducible refine Below.setCell ?_ ?_ _ | go_size)) fun hs => markIntS_c 0 _ _ 1 _ hs.p0 (by omega) (by omega) (by omega)).mono ?_
  rintro e w8 ⟨rfl, hs⟩
  have hs := hs.drop0
  go_wp2_with fail
  refine (SH.quiet hs (by repeat' (first | with_reducible exact Below.refl _ _ | with_reducible assumption | with_reducible refine below_drewN ?_ _ | with_reducible refine Below.drew ?_ | with_reducible refine Below.alloc ?_ ?_ _ | with_reducible refine Below.setCell ?_ ?_ _ | go_size)) fun hs => eqIntS_c _ _ _ _ _ (OwnK.rd hs.p0) (OwnK.rd hs.p1)).mono ?_
  rintro e w9 ⟨rfl, hs⟩
  rw [show decide (bfV bs = bfV bs) = true by simp]
  go_wp2_with fail
  refine (SH.writes hs (by repeat' (first | with_reducible exact Below.refl _ _ | with_reducible assumption | with_reducible refine below_drewN ?_ _ | with_reducible refine Below.drew ?_ | with_reducible refine Below.alloc ?_ ?_ _ | with_reducible refine Below.setCell ?_ ?_ _ | go_size)) fun hs => markIntS_c 0 _ _ 1 _ hs.p0 (by omega) (by omega) (by omega)).mono ?_
  rintro e w10 ⟨rfl, hs⟩
  go_wp2_with fail
  refine (SH.quiet hs (by repeat' (first | with_reducible exact Below.refl _ _ | with_reducible assumption | with_reducible refine below_drewN ?_ _ | with_reducible refine Below.drew ?_ | with_reducible refine Below.alloc ?_ ?_ _ | with_reducible refine Below.setCell ?_ ?_ _ | go_size)) fun hs => heldIntS_c _ _ 1 _ (OwnK.rd hs.p0) (by omega) (by omega) (by omega)).mono ?_
  rintro e w11 ⟨rfl, hs⟩
  have e2 : ((1 : Int) + ((bfV bs).length : Int) != 1 + ((bfV bs).length : Int)) = false := bne_self_eq_false _
  go_wp2_with fail
  refine (SH.own hs (by repeat' (first | with_reducible exact Below.refl _ _ | with_reducible assumption | with_reducible refine below_drewN ?_ _ | with_reducible refine Below.drew ?_ | with_reducible refine Below.alloc ?_ ?_ _ | with_reducible refine Below.setCell ?_ ?_ _ | go_size)) fun hs => toIntS_c _ bs _ hs.p2 (by omega)).mono ?_
  rintro e w12 ⟨z0, rfl, hs⟩
  go_wp2_with fail
  refine (SH.own hs (by repeat' (first | with_reducible exact Below.refl _ _ | with_reducible assumption | with_reducible refine below_drewN ?_ _ | with_reducible refine Below.drew ?_ | with_reducible refine Below.alloc ?_ ?_ _ | with_reducible refine Below.setCell ?_ ?_ _ | go_size)) fun hs => implBuildFrame_c _ bs _ (OwnK.rd hs.p0) hs.p4).mono ?_
  rintro e w13 ⟨h0, rfl, hs⟩
  go_wp2_with fail
  refine (SH.quiet hs (by repeat' (first | with_reducible exact Below.refl _ _ | with_reducible assumption | with_reducible refine below_drewN ?_ _ | with_reducible refine Below.drew ?_ | with_reducible refine Below.alloc ?_ ?_ _ | with_reducible refine Below.setCell ?_ ?_ _ | go_size)) fun hs => eqIntS_c _ _ _ _ _ (OwnK.rd hs.p0) (OwnK.rd hs.p3)).mono ?_
  rintro e w14 ⟨rfl, hs⟩
  rw [show decide (bfV bs = bfV bs) = true by simp]
  go_wp2_with fail
  refine (SH.quiet hs (by repeat' (first | with_reducible exact Below.refl _ _ | with_reducible assumption | with_reducible refine below_drewN ?_ _ | with_reducible refine Below.drew ?_ | with_reducible refine Below.alloc ?_ ?_ _ | with_reducible refine Below.setCell ?_ ?_ _ | go_size)) fun hs => heldIntS_c _ _ 1 _ (OwnK.rd hs.p2) (by omega) (by omega) (by omega)).mono ?_
  rintro e w15 ⟨rfl, hs⟩
  have e2 : ((1 : Int) + ((bfV bs).length : Int) != 1 + ((bfV bs).length : Int)) = false := bne_self_eq_false _
  go_wp2
  go_ret
  exact Ret.mk1 rfl (SH.done (by first | exact hs | exact (hs).alloc _ | exact ((hs).alloc _).alloc _ | exact (((hs).alloc _).alloc _).alloc _ | exact ((((hs).alloc _).alloc _).alloc _).alloc _ | exact (hs).drew | exact ((hs).alloc _).drew | exact (((hs).alloc _).alloc _).drew | exact ((((hs).alloc _).alloc _).alloc _).drew | exact (((((hs).alloc _).alloc _).alloc _).alloc _).drew | exact (hs).drewN _ | exact ((hs).alloc _).drewN _ | exact (((hs).alloc _).alloc _).drewN _ | exact ((((hs).alloc _).alloc _).alloc _).drewN _ | exact (((((hs).alloc _).alloc _).alloc _).alloc _).drewN _))
end Go.Proofs.YtjgafkoboolclaaDoor
