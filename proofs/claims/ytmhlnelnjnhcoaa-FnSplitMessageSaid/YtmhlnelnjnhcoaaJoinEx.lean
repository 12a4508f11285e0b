import Derived.Test.YtmhlnelnjnhcoaaProg
import Derived.Test.YtmhlnelnjnhcoaaLib
import Derived.Test.YtmhlnelnjnhcoaaMem
import Derived.Test.YtmhlnelnjnhcoaaSym
import Derived.Test.YtmhlnelnjnhcoaaInts
import Derived.Test.YtmhlnelnjnhcoaaBytes
import Derived.Test.YtmhlnelnjnhcoaaBlk
import Derived.Test.YtmhlnelnjnhcoaaFrag
import Derived.Test.YtmhlnelnjnhcoaaSplit
import Derived.Test.YtmhlnelnjnhcoaaIdx
import Derived.Test.YtmhlnelnjnhcoaaJoin
import Derived.Test.YtmhlnelnjnhcoaaSplitEx
namespace Go.Proofs.Ytmhlnelnjnhcoaa
open Go.RowKit

theorem joinK_len {fs : List Frag} (h : lenF fs) (m : Int) : ∀ n k acc, (joinK fs m n k acc).1.length ≤ acc.length + n * 4000000
  | 0, _, _ => by simp [joinK]
  | n + 1, k, acc => by
    unfold joinK
    cases hl : look fs m (k : Int) fs.length with
    | none => simp
    | some i =>
      have hd := h.2 i (look_some hl).1
      have hlen : (acc ++ (fr fs i).d).length ≤ acc.length + 4000000 := by rw [List.length_append]; omega
      have ih := joinK_len h m n (k + 1) (acc ++ (fr fs i).d)
      rw [Nat.succ_mul]
      generalize n * 4000000 = z at *
      simp only []
      split
      · refine Nat.le_trans hlen ?_
        clear ih hlen
        omega
      · refine Nat.le_trans ih ?_
        clear ih
        generalize (acc ++ (fr fs i).d).length = y at *
        omega
theorem joinF_len {fs : List Frag} (h : lenF fs) (m : Int) : (joinF fs m).1.length ≤ 200000000 :=
  Nat.le_trans (joinK_len h m 50 0 []) (by simp)
theorem lenF_of {fs : List Frag} (h : 0 ≤ szF fs) : fs.length ≤ 1048576 ∧ (∀ i, i < fs.length → (fr fs i).d.length ≤ 1048576) ∧ sumF fs fs.length ≤ 100000000 := by
  unfold szF at h
  split at h
  · next h1 =>
    have h0 := byF_nonneg fs fs.length
    refine ⟨by omega, fun i hi => ?_, ?_⟩
    · have := byF_row (fs := fs) hi; omega
    · unfold byF at h1; omega
  · omega
theorem szF_neg {fs : List Frag} (h : ¬ 0 ≤ szF fs) : szF fs = -1 := by
  unfold szF at h ⊢
  split
  · next h1 => rw [if_pos h1] at h; omega
  · rfl

set_option maxHeartbeats 4000000 in
theorem fnExactJoinFragments_c (va : Value) (vs : Nat → Value) (fs : List Frag) (m : Int) (w : World) (ha : RdF w va vs fs ∧ wfF fs) (hm : wfI m) :
    Calls Try.prog 5 #[va, .int .i64 m] w (Ret w fun v _ => v = .bool true) := by
  obtain ⟨ha, hw⟩ := ha
  obtain ⟨a, ca, rfl, ma⟩ := ha.rows.form
  have hs := SH.start w [rdFP (.slice a fs.length ca) vs fs] (by simp only [List.forall_mem_cons]; exact ⟨⟨ha, rdFP_wr⟩, by simp⟩)
  clear ha
  by_cases hsz : 0 ≤ szF fs
  case neg =>
    have hz := szF_neg hsz
    go_enter Try.func5, Try.ntmps5
    go_wp2_with fail
    refine (SH.ret hs (by repeat' (first | with_reducible exact Below.refl _ _ | with_reducible assumption | with_reducible refine below_drewN ?_ _ | with_reducible refine Below.drew ?_ | with_reducible refine Below.alloc ?_ ?_ _ | with_reducible refine Below.setCell ?_ ?_ _ | go_size)) fun hs => szFragmentS_c _ vs fs _ hs.p0).mono ?_
    rintro e w1 ⟨v, rfl, rfl, hs⟩
    rw [hz]
    go_wp2
    go_ret
    exact Ret.mk1 rfl hs.done
  obtain ⟨hn, hd, hsum⟩ := lenF_of hsz
  have hL : lenF fs := ⟨by omega, fun i hi => by have := hd i hi; omega⟩
  have hjl := joinF_len hL m
  have HD := Lib.hid (show ∀ i, i < fs.length → (fr fs i).d.length ≤ 17592186044416 from fun i hi => by have := hd i hi; omega)
  have HL := Lib.hid hL
  have HW := Lib.hid hw
  clear hd hL hw
  obtain ⟨J, b, hJ⟩ : ∃ J b, joinF fs m = (J, b) := ⟨_, _, rfl⟩
  have HJ := Lib.hid hJ
  rw [hJ] at hjl
  have e1 : (b != b) = false := bne_self_eq_false _
  clear hJ
  go_enter Try.func5, Try.ntmps5
  go_wp2_with fail
  refine (SH.ret hs (by repeat' (first | with_reducible exact Below.refl _ _ | with_reducible assumption | with_reducible refine below_drewN ?_ _ | with_reducible refine Below.drew ?_ | with_reducible refine Below.alloc ?_ ?_ _ | with_reducible refine Below.setCell ?_ ?_ _ | go_size)) fun hs => szFragmentS_c _ vs fs _ hs.p0).mono ?_
  rintro e w1 ⟨v, rfl, rfl, hs⟩
  go_wp2_with fail
  refine (toFragmentS_s _ vs fs _ (hs.below (by repeat' (first | with_reducible exact Below.refl _ _ | with_reducible assumption | with_reducible refine below_drewN ?_ _ | with_reducible refine Below.drew ?_ | with_reducible refine Below.alloc ?_ ?_ _ | with_reducible refine Below.setCell ?_ ?_ _ | go_size))) hn HD.out).mono ?_
  rintro e w2 ⟨x1, x1s, rfl, hs⟩
  go_wp2_with fail
  refine (SH.ownT (xs := (joinF fs m).1) (b := (joinF fs m).2) hs (by repeat' (first | with_reducible exact Below.refl _ _ | with_reducible assumption | with_reducible refine below_drewN ?_ _ | with_reducible refine Below.drew ?_ | with_reducible refine Below.alloc ?_ ?_ _ | with_reducible refine Below.setCell ?_ ?_ _ | go_size)) fun hs => specJoin_c _ _ fs m _ (rd_of_inn hs) HL.out).mono ?_
  rintro e w3 ⟨w0, rfl, hs⟩
  rw [HJ.out] at hs
  rw [HJ.out]
  have hs := hs.drop1.drop1.bring1
  go_wp2_with fail
  refine (toFragmentS_s _ vs fs _ (hs.below (by repeat' (first | with_reducible exact Below.refl _ _ | with_reducible assumption | with_reducible refine below_drewN ?_ _ | with_reducible refine Below.drew ?_ | with_reducible refine Below.alloc ?_ ?_ _ | with_reducible refine Below.setCell ?_ ?_ _ | go_size))) hn HD.out).mono ?_
  rintro e w4 ⟨x0, x0s, rfl, hs⟩
  go_wp2_with fail
  refine (SH.ownT (xs := (joinF fs m).1) (b := (joinF fs m).2) hs (by repeat' (first | with_reducible exact Below.refl _ _ | with_reducible assumption | with_reducible refine below_drewN ?_ _ | with_reducible refine Below.drew ?_ | with_reducible refine Below.alloc ?_ ?_ _ | with_reducible refine Below.setCell ?_ ?_ _ | go_size)) fun hs => implJoin_c _ _ fs m _ (rd_of_inn hs) HW.out hm HL.out).mono ?_
  rintro e w5 ⟨g0, rfl, hs⟩
  rw [HJ.out] at hs
  rw [HJ.out]
  go_wp2_with fail
  refine (SH.quiet hs (by repeat' (first | with_reducible exact Below.refl _ _ | with_reducible assumption | with_reducible refine below_drewN ?_ _ | with_reducible refine Below.drew ?_ | with_reducible refine Below.alloc ?_ ?_ _ | with_reducible refine Below.setCell ?_ ?_ _ | go_size)) fun hs => eqByteS_c _ _ _ _ _ (OwnK.rd hs.p0) (OwnK.rd hs.p4)).mono ?_
  rintro e w6 ⟨rfl, hs⟩
  rw [show decide (J = J) = true by simp]
  have hs := hs.bring3
  go_wp2_with fail
  refine (toFragmentS_s _ vs fs _ (hs.below (by repeat' (first | with_reducible exact Below.refl _ _ | with_reducible assumption | with_reducible refine below_drewN ?_ _ | with_reducible refine Below.drew ?_ | with_reducible refine Below.alloc ?_ ?_ _ | with_reducible refine Below.setCell ?_ ?_ _ | go_size))) hn HD.out).mono ?_
  rintro e w7 ⟨y0, y0s, rfl, hs⟩
  go_wp2_with fail
  refine (SH.ret hs (by repeat' (first | with_reducible exact Below.refl _ _ | with_reducible assumption | with_reducible refine below_drewN ?_ _ | with_reducible refine Below.drew ?_ | with_reducible refine Below.alloc ?_ ?_ _ | with_reducible refine Below.setCell ?_ ?_ _ | go_size)) fun hs => eqFragmentS_c _ _ _ _ fs _ (rd_of_inn hs.drop0.drop0.drop0.drop0) (rd_of_inn hs)).mono ?_
  rintro e w8 ⟨v, rfl, rfl, hs⟩
  have hs := hs.drop0.drop0.bring2.bring3.bring1
  go_wp2_with fail
  refine (markFragmentS_s _ _ _ _ 1 _ (hs.below (by repeat' (first | with_reducible exact Below.refl _ _ | with_reducible assumption | with_reducible refine below_drewN ?_ _ | with_reducible refine Below.drew ?_ | with_reducible refine Below.alloc ?_ ?_ _ | with_reducible refine Below.setCell ?_ ?_ _ | go_size))) (by omega) (by omega) hsum).mono ?_
  rintro e w9 ⟨rfl, hs⟩
  have hs := hs.drop0.drop0
  go_wp2_with fail
  refine (SH.quiet hs (by repeat' (first | with_reducible exact Below.refl _ _ | with_reducible assumption | with_reducible refine below_drewN ?_ _ | with_reducible refine Below.drew ?_ | with_reducible refine Below.alloc ?_ ?_ _ | with_reducible refine Below.setCell ?_ ?_ _ | go_size)) fun hs => eqByteS_c _ _ _ _ _ (OwnK.rd hs.p1) (OwnK.rd hs.p2)).mono ?_
  rintro e w10 ⟨rfl, hs⟩
  rw [show decide (J = J) = true by simp]
  have hs := hs.bring1
  go_wp2_with fail
  refine (SH.writes hs (by repeat' (first | with_reducible exact Below.refl _ _ | with_reducible assumption | with_reducible refine below_drewN ?_ _ | with_reducible refine Below.drew ?_ | with_reducible refine Below.alloc ?_ ?_ _ | with_reducible refine Below.setCell ?_ ?_ _ | go_size)) fun hs => markByteS_c 0 _ _ _ _ hs.p0 (by omega) (by omega) (by omega)).mono ?_
  rintro e w11 ⟨rfl, hs⟩
  go_wp2_with fail
  refine (SH.quiet hs (by repeat' (first | with_reducible exact Below.refl _ _ | with_reducible assumption | with_reducible refine below_drewN ?_ _ | with_reducible refine Below.drew ?_ | with_reducible refine Below.alloc ?_ ?_ _ | with_reducible refine Below.setCell ?_ ?_ _ | go_size)) fun hs => heldByteS_c _ _ 1 _ (OwnK.rd hs.p0) (by omega) (by omega) (by omega)).mono ?_
  rintro e w12 ⟨rfl, hs⟩
  have e2 : ((1 : Int) + (J.length : Int) != 1 + (J.length : Int)) = false := bne_self_eq_false _
  have hs := hs.bring1
  go_wp2_with fail
  refine (toFragmentS_s _ vs fs _ (hs.below (by repeat' (first | with_reducible exact Below.refl _ _ | with_reducible assumption | with_reducible refine below_drewN ?_ _ | with_reducible refine Below.drew ?_ | with_reducible refine Below.alloc ?_ ?_ _ | with_reducible refine Below.setCell ?_ ?_ _ | go_size))) hn HD.out).mono ?_
  rintro e w13 ⟨z0, z0s, rfl, hs⟩
  go_wp2_with fail
  refine (SH.ownT (xs := (joinF fs m).1) (b := (joinF fs m).2) hs (by repeat' (first | with_reducible exact Below.refl _ _ | with_reducible assumption | with_reducible refine below_drewN ?_ _ | with_reducible refine Below.drew ?_ | with_reducible refine Below.alloc ?_ ?_ _ | with_reducible refine Below.setCell ?_ ?_ _ | go_size)) fun hs => implJoin_c _ _ fs m _ (rd_of_inn hs) HW.out hm HL.out).mono ?_
  rintro e w14 ⟨h0, rfl, hs⟩
  rw [HJ.out] at hs
  rw [HJ.out]
  go_wp2_with fail
  refine (SH.quiet hs (by repeat' (first | with_reducible exact Below.refl _ _ | with_reducible assumption | with_reducible refine below_drewN ?_ _ | with_reducible refine Below.drew ?_ | with_reducible refine Below.alloc ?_ ?_ _ | with_reducible refine Below.setCell ?_ ?_ _ | go_size)) fun hs => eqByteS_c _ _ _ _ _ (OwnK.rd hs.p0) (OwnK.rd hs.p5)).mono ?_
  rintro e w15 ⟨rfl, hs⟩
  rw [show decide (J = J) = true by simp]
  go_wp2_with fail
  refine (SH.quiet hs (by repeat' (first | with_reducible exact Below.refl _ _ | with_reducible assumption | with_reducible refine below_drewN ?_ _ | with_reducible refine Below.drew ?_ | with_reducible refine Below.alloc ?_ ?_ _ | with_reducible refine Below.setCell ?_ ?_ _ | go_size)) fun hs => heldByteS_c _ _ 1 _ (OwnK.rd hs.p4) (by omega) (by omega) (by omega)).mono ?_
  rintro e w16 ⟨rfl, hs⟩
  have e2 : ((1 : Int) + (J.length : Int) != 1 + (J.length : Int)) = false := bne_self_eq_false _
  go_wp2
  go_ret
  exact Ret.mk1 rfl (SH.done (by first | exact hs | exact (hs).alloc _ | exact ((hs).alloc _).alloc _ | exact (((hs).alloc _).alloc _).alloc _ | exact ((((hs).alloc _).alloc _).alloc _).alloc _ | exact (hs).drew | exact ((hs).alloc _).drew | exact (((hs).alloc _).alloc _).drew | exact ((((hs).alloc _).alloc _).alloc _).drew | exact (((((hs).alloc _).alloc _).alloc _).alloc _).drew | exact (hs).drewN _ | exact ((hs).alloc _).drewN _ | exact (((hs).alloc _).alloc _).drewN _ | exact ((((hs).alloc _).alloc _).alloc _).drewN _ | exact (((((hs).alloc _).alloc _).alloc _).alloc _).drewN _))

end Go.Proofs.Ytmhlnelnjnhcoaa
