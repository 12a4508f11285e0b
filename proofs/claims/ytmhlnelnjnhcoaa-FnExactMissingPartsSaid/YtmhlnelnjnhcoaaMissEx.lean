import Derived.Test.YtmhlnelnjnhcoaaProg
import Derived.Test.YtmhlnelnjnhcoaaLib
import Derived.Test.YtmhlnelnjnhcoaaMem
import Derived.Test.YtmhlnelnjnhcoaaSym
import Derived.Test.YtmhlnelnjnhcoaaInts
import Derived.Test.YtmhlnelnjnhcoaaBlk
import Derived.Test.YtmhlnelnjnhcoaaFrag
import Derived.Test.YtmhlnelnjnhcoaaSplit
import Derived.Test.YtmhlnelnjnhcoaaIdx
import Derived.Test.YtmhlnelnjnhcoaaJoin
import Derived.Test.YtmhlnelnjnhcoaaMiss
import Derived.Test.YtmhlnelnjnhcoaaSplitEx
import Derived.Test.YtmhlnelnjnhcoaaJoinEx
namespace Go.Proofs.Ytmhlnelnjnhcoaa
open Go.RowKit

set_option maxHeartbeats 4000000 in
theorem fnExactMissingParts_c (va : Value) (vs : Nat → Value) (fs : List Frag) (m : Int) (w : World) (ha : RdF w va vs fs ∧ wfF fs) (hm : wfI m) :
    Calls Try.prog 7 #[va, .int .i64 m] w (Ret w fun v _ => v = .bool true) := by
  obtain ⟨ha, hw⟩ := ha
  obtain ⟨a, ca, rfl, ma⟩ := ha.rows.form
  have hs := SH.start w [rdFP (.slice a fs.length ca) vs fs] (by simp only [List.forall_mem_cons]; exact ⟨⟨ha, rdFP_wr⟩, by simp⟩)
  clear ha
  by_cases hsz : 0 ≤ szF fs
  case neg =>
    have hz := szF_neg hsz
    go_enter Try.func7, Try.ntmps7
    go_wp2_with fail
    refine (SH.ret hs (by repeat' (first | with_reducible exact Below.refl _ _ | with_reducible assumption | with_reducible refine below_drewN ?_ _ | with_reducible refine Below.drew ?_ | with_reducible refine Below.alloc ?_ ?_ _ | with_reducible refine Below.setCell ?_ ?_ _ | go_size)) fun hs => szFragmentS_c _ vs fs _ hs.p0).mono ?_
    rintro e w1 ⟨v, rfl, rfl, hs⟩
    rw [hz]
    go_wp2
    go_ret
    exact Ret.mk1 rfl hs.done
  obtain ⟨hn, hd, hsum⟩ := lenF_of hsz
  have HD := Lib.hid (show ∀ i, i < fs.length → (fr fs i).d.length ≤ 17592186044416 from fun i hi => by have := hd i hi; omega)
  have HL := Lib.hid (show fs.length ≤ 4000000 by omega)
  have HW := Lib.hid hw
  clear hd hw
  have hjl := missF_len fs m
  obtain ⟨J, hJ⟩ : ∃ J, missF fs m = J := ⟨_, rfl⟩
  have HJ := Lib.hid hJ
  rw [hJ] at hjl
  clear hJ
  go_enter Try.func7, Try.ntmps7
  go_wp2_with fail
  refine (SH.ret hs (by repeat' (first | with_reducible exact Below.refl _ _ | with_reducible assumption | with_reducible refine below_drewN ?_ _ | with_reducible refine Below.drew ?_ | with_reducible refine Below.alloc ?_ ?_ _ | with_reducible refine Below.setCell ?_ ?_ _ | go_size)) fun hs => szFragmentS_c _ vs fs _ hs.p0).mono ?_
  rintro e w1 ⟨v, rfl, rfl, hs⟩
  go_wp2_with fail
  refine (toFragmentS_s _ vs fs _ (hs.below (by repeat' (first | with_reducible exact Below.refl _ _ | with_reducible assumption | with_reducible refine below_drewN ?_ _ | with_reducible refine Below.drew ?_ | with_reducible refine Below.alloc ?_ ?_ _ | with_reducible refine Below.setCell ?_ ?_ _ | go_size))) hn HD.out).mono ?_
  rintro e w2 ⟨x1, x1s, rfl, hs⟩
  go_wp2_with fail
  refine (SH.own hs (by repeat' (first | with_reducible exact Below.refl _ _ | with_reducible assumption | with_reducible refine below_drewN ?_ _ | with_reducible refine Below.drew ?_ | with_reducible refine Below.alloc ?_ ?_ _ | with_reducible refine Below.setCell ?_ ?_ _ | go_size)) fun hs => specMiss_c _ _ fs m _ (rd_of_inn hs)).mono ?_
  rintro e w3 ⟨w0, rfl, hs⟩
  rw [HJ.out] at hs
  have hs := hs.drop1.drop1.bring1
  go_wp2_with fail
  refine (toFragmentS_s _ vs fs _ (hs.below (by repeat' (first | with_reducible exact Below.refl _ _ | with_reducible assumption | with_reducible refine below_drewN ?_ _ | with_reducible refine Below.drew ?_ | with_reducible refine Below.alloc ?_ ?_ _ | with_reducible refine Below.setCell ?_ ?_ _ | go_size))) hn HD.out).mono ?_
  rintro e w4 ⟨x0, x0s, rfl, hs⟩
  go_wp2_with fail
  refine (SH.own hs (by repeat' (first | with_reducible exact Below.refl _ _ | with_reducible assumption | with_reducible refine below_drewN ?_ _ | with_reducible refine Below.drew ?_ | with_reducible refine Below.alloc ?_ ?_ _ | with_reducible refine Below.setCell ?_ ?_ _ | go_size)) fun hs => implMiss_c _ _ fs m _ (rd_of_inn hs) HW.out hm HL.out).mono ?_
  rintro e w5 ⟨g0, rfl, hs⟩
  rw [HJ.out] at hs
  go_wp2_with fail
  refine (SH.quiet hs (by repeat' (first | with_reducible exact Below.refl _ _ | with_reducible assumption | with_reducible refine below_drewN ?_ _ | with_reducible refine Below.drew ?_ | with_reducible refine Below.alloc ?_ ?_ _ | with_reducible refine Below.setCell ?_ ?_ _ | go_size)) fun hs => eqIntS_c _ _ _ _ _ (OwnK.rd hs.p0) (OwnK.rd hs.p4)).mono ?_
  rintro e w6 ⟨rfl, hs⟩
  rw [show decide (J = J) = true by simp]
  have hs := hs.bring3
  go_wp2_with fail
  refine (toFragmentS_s _ vs fs _ (hs.below (by repeat' (first | with_reducible exact Below.refl _ _ | with_reducible assumption | with_reducible refine below_drewN ?_ _ | with_reducible refine Below.drew ?_ | with_reducible refine Below.alloc ?_ ?_ _ | with_reducible refine Below.setCell ?_ ?_ _ | go_size))) hn HD.out).mono ?_
  rintro e w7 ⟨y0, y0s, rfl, hs⟩
  go_wp2_with fail
  refine (SH.ret hs (by repeat' (first | with_reducible exact Below.refl _ _ | with_reducible assumption | with_reducible refine below_drewN ?_ _ | with_reducible refine Below.drew ?_ | with_reducible refine Below.alloc ?_ ?_ _ | with_reducible refine Below.setCell ?_ ?_ _ | go_size)) fun hs => eqFragmentS_c _ _ _ _ fs _ (rd_of_inn hs.drop0.drop0.drop0.drop0) (rd_of_inn hs)).mono ?_
  rintro e w8 ⟨v, rfl, rfl, hs⟩
  have hs := hs.drop0.drop0.bring2.bring3.bring1
  go_wp2_with fail
  refine (markFragmentS_s _ _ _ _ 1 _ (hs.below (by repeat' (first | with_reducible exact Below.refl _ _ | with_reducible assumption | with_reducible refine below_drewN ?_ _ | with_reducible refine Below.drew ?_ | with_reducible refine Below.alloc ?_ ?_ _ | with_reducible refine Below.setCell ?_ ?_ _ | go_size))) (by omega) (by omega) hsum).mono ?_
  rintro e w9 ⟨rfl, hs⟩
  have hs := hs.drop0.drop0
  go_wp2_with fail
  refine (SH.quiet hs (by repeat' (first | with_reducible exact Below.refl _ _ | with_reducible assumption | with_reducible refine below_drewN ?_ _ | with_reducible refine Below.drew ?_ | with_reducible refine Below.alloc ?_ ?_ _ | with_reducible refine Below.setCell ?_ ?_ _ | go_size)) fun hs => eqIntS_c _ _ _ _ _ (OwnK.rd hs.p1) (OwnK.rd hs.p2)).mono ?_
  rintro e w10 ⟨rfl, hs⟩
  rw [show decide (J = J) = true by simp]
  have hs := hs.bring1
  go_wp2_with fail
  refine (SH.writes hs (by repeat' (first | with_reducible exact Below.refl _ _ | with_reducible assumption | with_reducible refine below_drewN ?_ _ | with_reducible refine Below.drew ?_ | with_reducible refine Below.alloc ?_ ?_ _ | with_reducible refine Below.setCell ?_ ?_ _ | go_size)) fun hs => markIntS_c 0 _ _ _ _ hs.p0 (by omega) (by omega) (by omega)).mono ?_
  rintro e w11 ⟨rfl, hs⟩
  go_wp2_with fail
  refine (SH.quiet hs (by repeat' (first | with_reducible exact Below.refl _ _ | with_reducible assumption | with_reducible refine below_drewN ?_ _ | with_reducible refine Below.drew ?_ | with_reducible refine Below.alloc ?_ ?_ _ | with_reducible refine Below.setCell ?_ ?_ _ | go_size)) fun hs => heldIntS_c _ _ 1 _ (OwnK.rd hs.p0) (by omega) (by omega) (by omega)).mono ?_
  rintro e w12 ⟨rfl, hs⟩
  have e2 : ((1 : Int) + (J.length : Int) != 1 + (J.length : Int)) = false := bne_self_eq_false _
  have hs := hs.bring1
  go_wp2_with fail
  refine (toFragmentS_s _ vs fs _ (hs.below (by repeat' (first | with_reducible exact Below.refl _ _ | with_reducible assumption | with_reducible refine below_drewN ?_ _ | with_reducible refine Below.drew ?_ | with_reducible refine Below.alloc ?_ ?_ _ | with_reducible refine Below.setCell ?_ ?_ _ | go_size))) hn HD.out).mono ?_
  rintro e w13 ⟨z0, z0s, rfl, hs⟩
  go_wp2_with fail
  refine (SH.own hs (by repeat' (first | with_reducible exact Below.refl _ _ | with_reducible assumption | with_reducible refine below_drewN ?_ _ | with_reducible refine Below.drew ?_ | with_reducible refine Below.alloc ?_ ?_ _ | with_reducible refine Below.setCell ?_ ?_ _ | go_size)) fun hs => implMiss_c _ _ fs m _ (rd_of_inn hs) HW.out hm HL.out).mono ?_
  rintro e w14 ⟨h0, rfl, hs⟩
  rw [HJ.out] at hs
  go_wp2_with fail
  refine (SH.quiet hs (by repeat' (first | with_reducible exact Below.refl _ _ | with_reducible assumption | with_reducible refine below_drewN ?_ _ | with_reducible refine Below.drew ?_ | with_reducible refine Below.alloc ?_ ?_ _ | with_reducible refine Below.setCell ?_ ?_ _ | go_size)) fun hs => eqIntS_c _ _ _ _ _ (OwnK.rd hs.p0) (OwnK.rd hs.p5)).mono ?_
  rintro e w15 ⟨rfl, hs⟩
  rw [show decide (J = J) = true by simp]
  go_wp2_with fail
  refine (SH.quiet hs (by repeat' (first | with_reducible exact Below.refl _ _ | with_reducible assumption | with_reducible refine below_drewN ?_ _ | with_reducible refine Below.drew ?_ | with_reducible refine Below.alloc ?_ ?_ _ | with_reducible refine Below.setCell ?_ ?_ _ | go_size)) fun hs => heldIntS_c _ _ 1 _ (OwnK.rd hs.p4) (by omega) (by omega) (by omega)).mono ?_
  rintro e w16 ⟨rfl, hs⟩
  have e2 : ((1 : Int) + (J.length : Int) != 1 + (J.length : Int)) = false := bne_self_eq_false _
  go_wp2
  go_ret
  exact Ret.mk1 rfl (SH.done (by first | exact hs | exact (hs).alloc _ | exact ((hs).alloc _).alloc _ | exact (((hs).alloc _).alloc _).alloc _ | exact ((((hs).alloc _).alloc _).alloc _).alloc _ | exact (hs).drew | exact ((hs).alloc _).drew | exact (((hs).alloc _).alloc _).drew | exact ((((hs).alloc _).alloc _).alloc _).drew | exact (((((hs).alloc _).alloc _).alloc _).alloc _).drew | exact (hs).drewN _ | exact ((hs).alloc _).drewN _ | exact (((hs).alloc _).alloc _).drewN _ | exact ((((hs).alloc _).alloc _).alloc _).drewN _ | exact (((((hs).alloc _).alloc _).alloc _).alloc _).drewN _))

end Go.Proofs.Ytmhlnelnjnhcoaa
