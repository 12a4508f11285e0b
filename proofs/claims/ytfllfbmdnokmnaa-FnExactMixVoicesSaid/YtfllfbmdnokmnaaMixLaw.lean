import Derived.Test.YtfllfbmdnokmnaaProg
import Derived.Test.YtfllfbmdnokmnaaLib
import Derived.Test.YtfllfbmdnokmnaaNum
import Derived.Test.YtfllfbmdnokmnaaInts
import Derived.Test.YtfllfbmdnokmnaaMix
namespace Go.Proofs.Ytfllfbmdnokmnaa
open Go.RowKit

set_option maxHeartbeats 2000000 in
theorem fnExactMixVoices_c (va : Value) (xs : List Int) (vb : Value) (ys : List Int) (w : World) (ha : RdI w va xs) (_ : ∀ n ∈ xs, (Lit.int .i64 n).wf = true) (hb : RdI w vb ys) (_ : ∀ n ∈ ys, (Lit.int .i64 n).wf = true) :
    Calls Try.prog 4 #[va, vb] w (Ret w fun v _ => v = .bool true) := by
  obtain ⟨a, ca, rfl, ma⟩ := ha.form
  obtain ⟨b, cb, rfl, mb⟩ := hb.form
  have HA := Lib.hid ha
  have HB := Lib.hid hb
  clear ha hb
  by_cases hl : xs.length ≤ 1048576
  case neg =>
    go_enter Try.func4, Try.ntmps4
    go_wp2
    go_ret
    exact Ret.mk1 rfl (Below.refl _ _)
  by_cases hk : ys.length ≤ 1048576
  case neg =>
    go_enter Try.func4, Try.ntmps4
    go_wp2
    go_ret
    exact Ret.mk1 rfl (Below.refl _ _)
  obtain ⟨M, hM⟩ : ∃ M, mixV xs ys = M := ⟨_, rfl⟩
  have hml : M.length ≤ 1048576 := by
    rw [← hM]; unfold mixV; split
    · rw [length_mixL]; exact hl
    · simp
  have HM := Lib.hid hM
  clear hM
  have e1 : decide (M = M) = true := by simp
  have e2 : decide (xs = xs) = true := by simp
  have e3 : decide (ys = ys) = true := by simp
  go_enter Try.func4, Try.ntmps4
  go_wp2_with fail
  refine (toIntS_c _ xs _ HA.out (by omega)).mono ?_
  rintro e w1 ⟨v1, rfl, ho, hb⟩
  have HB_1 := Lib.hid hb
  have HOp_1 := Lib.hid (ho.mono (Nat.le_refl _))
  clear hb ho
  go_wp2_with fail
  refine (toIntS_c _ ys _ (HB.out.below HB_1.out) (by omega)).mono ?_
  rintro e w2 ⟨v2, rfl, ho, hb⟩
  have HOp_2 := Lib.hid (HOp_1.out.below hb)
  have Dp_q := Lib.hid (fun (g h : Nat) (e1 : (v1).ownBlock = some g) (e2 : (v2).ownBlock = some h) => (show g ≠ h by have := (HOp_1.out.base g e1).2; have := (ho.base h e2).1; omega))
  have HB_2 := Lib.hid (HB_1.out.trans (hb.mono HB_1.out.size))
  have HOq_2 := Lib.hid (ho.mono HB_1.out.size)
  clear hb ho HOp_1 HB_1
  go_wp2_with fail
  refine (specMixVoices_c _ _ xs ys _ HOp_2.out.rd HOq_2.out.rd).mono ?_
  rintro e w3 ⟨v3, rfl, ho, hb⟩
  have HOp_3 := Lib.hid (HOp_2.out.below hb)
  have HOq_3 := Lib.hid (HOq_2.out.below hb)
  have Dp_w0 := Lib.hid (fun (g h : Nat) (e1 : (v1).ownBlock = some g) (e2 : (v3).ownBlock = some h) => (show g ≠ h by have := (HOp_2.out.base g e1).2; have := (ho.base h e2).1; omega))
  have Dq_w0 := Lib.hid (fun (g h : Nat) (e1 : (v2).ownBlock = some g) (e2 : (v3).ownBlock = some h) => (show g ≠ h by have := (HOq_2.out.base g e1).2; have := (ho.base h e2).1; omega))
  have HB_3 := Lib.hid (HB_2.out.trans (hb.mono HB_2.out.size))
  have HOw0_3 := Lib.hid (ho.mono HB_2.out.size)
  clear hb ho HOp_2 HOq_2 HB_2
  go_wp2_with fail
  refine (toIntS_c _ xs _ (HA.out.below HB_3.out) (by omega)).mono ?_
  rintro e w4 ⟨v4, rfl, ho, hb⟩
  have HOp_4 := Lib.hid (HOp_3.out.below hb)
  have HOq_4 := Lib.hid (HOq_3.out.below hb)
  have HOw0_4 := Lib.hid (HOw0_3.out.below hb)
  have Dp_x0 := Lib.hid (fun (g h : Nat) (e1 : (v1).ownBlock = some g) (e2 : (v4).ownBlock = some h) => (show g ≠ h by have := (HOp_3.out.base g e1).2; have := (ho.base h e2).1; omega))
  have Dq_x0 := Lib.hid (fun (g h : Nat) (e1 : (v2).ownBlock = some g) (e2 : (v4).ownBlock = some h) => (show g ≠ h by have := (HOq_3.out.base g e1).2; have := (ho.base h e2).1; omega))
  have Dw0_x0 := Lib.hid (fun (g h : Nat) (e1 : (v3).ownBlock = some g) (e2 : (v4).ownBlock = some h) => (show g ≠ h by have := (HOw0_3.out.base g e1).2; have := (ho.base h e2).1; omega))
  have HB_4 := Lib.hid (HB_3.out.trans (hb.mono HB_3.out.size))
  have HOx0_4 := Lib.hid (ho.mono HB_3.out.size)
  clear hb ho HOp_3 HOq_3 HOw0_3 HB_3
  go_wp2_with fail
  refine (toIntS_c _ ys _ (HB.out.below HB_4.out) (by omega)).mono ?_
  rintro e w5 ⟨v5, rfl, ho, hb⟩
  have HOp_5 := Lib.hid (HOp_4.out.below hb)
  have HOq_5 := Lib.hid (HOq_4.out.below hb)
  have HOw0_5 := Lib.hid (HOw0_4.out.below hb)
  have HOx0_5 := Lib.hid (HOx0_4.out.below hb)
  have Dp_x1 := Lib.hid (fun (g h : Nat) (e1 : (v1).ownBlock = some g) (e2 : (v5).ownBlock = some h) => (show g ≠ h by have := (HOp_4.out.base g e1).2; have := (ho.base h e2).1; omega))
  have Dq_x1 := Lib.hid (fun (g h : Nat) (e1 : (v2).ownBlock = some g) (e2 : (v5).ownBlock = some h) => (show g ≠ h by have := (HOq_4.out.base g e1).2; have := (ho.base h e2).1; omega))
  have Dw0_x1 := Lib.hid (fun (g h : Nat) (e1 : (v3).ownBlock = some g) (e2 : (v5).ownBlock = some h) => (show g ≠ h by have := (HOw0_4.out.base g e1).2; have := (ho.base h e2).1; omega))
  have Dx0_x1 := Lib.hid (fun (g h : Nat) (e1 : (v4).ownBlock = some g) (e2 : (v5).ownBlock = some h) => (show g ≠ h by have := (HOx0_4.out.base g e1).2; have := (ho.base h e2).1; omega))
  have HB_5 := Lib.hid (HB_4.out.trans (hb.mono HB_4.out.size))
  have HOx1_5 := Lib.hid (ho.mono HB_4.out.size)
  clear hb ho HOp_4 HOq_4 HOw0_4 HOx0_4 HB_4
  go_wp2_with fail
  refine (implMixVoices_c _ _ xs ys _ HOx0_5.out.rd HOx1_5.out.rd).mono ?_
  rintro e w6 ⟨v6, rfl, ho, hb⟩
  have HOp_6 := Lib.hid (HOp_5.out.below hb)
  have HOq_6 := Lib.hid (HOq_5.out.below hb)
  have HOw0_6 := Lib.hid (HOw0_5.out.below hb)
  have HOx0_6 := Lib.hid (HOx0_5.out.below hb)
  have HOx1_6 := Lib.hid (HOx1_5.out.below hb)
  have Dp_g0 := Lib.hid (fun (g h : Nat) (e1 : (v1).ownBlock = some g) (e2 : (v6).ownBlock = some h) => (show g ≠ h by have := (HOp_5.out.base g e1).2; have := (ho.base h e2).1; omega))
  have Dq_g0 := Lib.hid (fun (g h : Nat) (e1 : (v2).ownBlock = some g) (e2 : (v6).ownBlock = some h) => (show g ≠ h by have := (HOq_5.out.base g e1).2; have := (ho.base h e2).1; omega))
  have Dw0_g0 := Lib.hid (fun (g h : Nat) (e1 : (v3).ownBlock = some g) (e2 : (v6).ownBlock = some h) => (show g ≠ h by have := (HOw0_5.out.base g e1).2; have := (ho.base h e2).1; omega))
  have Dx0_g0 := Lib.hid (fun (g h : Nat) (e1 : (v4).ownBlock = some g) (e2 : (v6).ownBlock = some h) => (show g ≠ h by have := (HOx0_5.out.base g e1).2; have := (ho.base h e2).1; omega))
  have Dx1_g0 := Lib.hid (fun (g h : Nat) (e1 : (v5).ownBlock = some g) (e2 : (v6).ownBlock = some h) => (show g ≠ h by have := (HOx1_5.out.base g e1).2; have := (ho.base h e2).1; omega))
  have HB_6 := Lib.hid (HB_5.out.trans (hb.mono HB_5.out.size))
  have HOg0_6 := Lib.hid (ho.mono HB_5.out.size)
  clear hb ho HOp_5 HOq_5 HOw0_5 HOx0_5 HOx1_5 HB_5
  have HOw0_m := Lib.hid (HM.out ▸ HOw0_6.out)
  have HOg0_m := Lib.hid (HM.out ▸ HOg0_6.out)
  clear HOw0_6 HOg0_6
  go_wp2_with fail
  refine (eqIntS_c _ _ M M _ HOg0_m.out.rd HOw0_m.out.rd).mono ?_
  rintro e w7 hr
  obtain ⟨rfl, hs⟩ := hr.same
  have hb := hs.below
  clear hr hs
  have HOp_7 := Lib.hid (HOp_6.out.below hb)
  have HOq_7 := Lib.hid (HOq_6.out.below hb)
  have HOw0_7 := Lib.hid (HOw0_m.out.below hb)
  have HOx0_7 := Lib.hid (HOx0_6.out.below hb)
  have HOx1_7 := Lib.hid (HOx1_6.out.below hb)
  have HOg0_7 := Lib.hid (HOg0_m.out.below hb)
  have HB_7 := Lib.hid (HB_6.out.trans (hb.mono HB_6.out.size))
  clear hb HOp_6 HOq_6 HOw0_m HOx0_6 HOx1_6 HOg0_m HB_6
  go_wp2_with fail
  refine (toIntS_c _ xs _ (HA.out.below HB_7.out) (by omega)).mono ?_
  rintro e w8 ⟨v8, rfl, ho, hb⟩
  have HOp_8 := Lib.hid (HOp_7.out.below hb)
  have HOq_8 := Lib.hid (HOq_7.out.below hb)
  have HOw0_8 := Lib.hid (HOw0_7.out.below hb)
  have HOx0_8 := Lib.hid (HOx0_7.out.below hb)
  have HOx1_8 := Lib.hid (HOx1_7.out.below hb)
  have HOg0_8 := Lib.hid (HOg0_7.out.below hb)
  have Dp_y0 := Lib.hid (fun (g h : Nat) (e1 : (v1).ownBlock = some g) (e2 : (v8).ownBlock = some h) => (show g ≠ h by have := (HOp_7.out.base g e1).2; have := (ho.base h e2).1; omega))
  have Dq_y0 := Lib.hid (fun (g h : Nat) (e1 : (v2).ownBlock = some g) (e2 : (v8).ownBlock = some h) => (show g ≠ h by have := (HOq_7.out.base g e1).2; have := (ho.base h e2).1; omega))
  have Dw0_y0 := Lib.hid (fun (g h : Nat) (e1 : (v3).ownBlock = some g) (e2 : (v8).ownBlock = some h) => (show g ≠ h by have := (HOw0_7.out.base g e1).2; have := (ho.base h e2).1; omega))
  have Dx0_y0 := Lib.hid (fun (g h : Nat) (e1 : (v4).ownBlock = some g) (e2 : (v8).ownBlock = some h) => (show g ≠ h by have := (HOx0_7.out.base g e1).2; have := (ho.base h e2).1; omega))
  have Dx1_y0 := Lib.hid (fun (g h : Nat) (e1 : (v5).ownBlock = some g) (e2 : (v8).ownBlock = some h) => (show g ≠ h by have := (HOx1_7.out.base g e1).2; have := (ho.base h e2).1; omega))
  have Dg0_y0 := Lib.hid (fun (g h : Nat) (e1 : (v6).ownBlock = some g) (e2 : (v8).ownBlock = some h) => (show g ≠ h by have := (HOg0_7.out.base g e1).2; have := (ho.base h e2).1; omega))
  have HB_8 := Lib.hid (HB_7.out.trans (hb.mono HB_7.out.size))
  have HOy0_8 := Lib.hid (ho.mono HB_7.out.size)
  clear hb ho HOp_7 HOq_7 HOw0_7 HOx0_7 HOx1_7 HOg0_7 HB_7
  go_wp2_with fail
  refine (eqIntS_c _ _ xs xs _ HOx0_8.out.rd HOy0_8.out.rd).mono ?_
  rintro e w9 hr
  obtain ⟨rfl, hs⟩ := hr.same
  have hb := hs.below
  clear hr hs
  have HOp_9 := Lib.hid (HOp_8.out.below hb)
  have HOq_9 := Lib.hid (HOq_8.out.below hb)
  have HOw0_9 := Lib.hid (HOw0_8.out.below hb)
  have HOx0_9 := Lib.hid (HOx0_8.out.below hb)
  have HOx1_9 := Lib.hid (HOx1_8.out.below hb)
  have HOg0_9 := Lib.hid (HOg0_8.out.below hb)
  have HOy0_9 := Lib.hid (HOy0_8.out.below hb)
  have HB_9 := Lib.hid (HB_8.out.trans (hb.mono HB_8.out.size))
  clear hb HOp_8 HOq_8 HOw0_8 HOx0_8 HOx1_8 HOg0_8 HOy0_8 HB_8
  go_wp2_with fail
  refine (toIntS_c _ ys _ (HB.out.below HB_9.out) (by omega)).mono ?_
  rintro e w10 ⟨v10, rfl, ho, hb⟩
  have HOp_10 := Lib.hid (HOp_9.out.below hb)
  have HOq_10 := Lib.hid (HOq_9.out.below hb)
  have HOw0_10 := Lib.hid (HOw0_9.out.below hb)
  have HOx0_10 := Lib.hid (HOx0_9.out.below hb)
  have HOx1_10 := Lib.hid (HOx1_9.out.below hb)
  have HOg0_10 := Lib.hid (HOg0_9.out.below hb)
  have HOy0_10 := Lib.hid (HOy0_9.out.below hb)
  have Dp_y1 := Lib.hid (fun (g h : Nat) (e1 : (v1).ownBlock = some g) (e2 : (v10).ownBlock = some h) => (show g ≠ h by have := (HOp_9.out.base g e1).2; have := (ho.base h e2).1; omega))
  have Dq_y1 := Lib.hid (fun (g h : Nat) (e1 : (v2).ownBlock = some g) (e2 : (v10).ownBlock = some h) => (show g ≠ h by have := (HOq_9.out.base g e1).2; have := (ho.base h e2).1; omega))
  have Dw0_y1 := Lib.hid (fun (g h : Nat) (e1 : (v3).ownBlock = some g) (e2 : (v10).ownBlock = some h) => (show g ≠ h by have := (HOw0_9.out.base g e1).2; have := (ho.base h e2).1; omega))
  have Dx0_y1 := Lib.hid (fun (g h : Nat) (e1 : (v4).ownBlock = some g) (e2 : (v10).ownBlock = some h) => (show g ≠ h by have := (HOx0_9.out.base g e1).2; have := (ho.base h e2).1; omega))
  have Dx1_y1 := Lib.hid (fun (g h : Nat) (e1 : (v5).ownBlock = some g) (e2 : (v10).ownBlock = some h) => (show g ≠ h by have := (HOx1_9.out.base g e1).2; have := (ho.base h e2).1; omega))
  have Dg0_y1 := Lib.hid (fun (g h : Nat) (e1 : (v6).ownBlock = some g) (e2 : (v10).ownBlock = some h) => (show g ≠ h by have := (HOg0_9.out.base g e1).2; have := (ho.base h e2).1; omega))
  have Dy0_y1 := Lib.hid (fun (g h : Nat) (e1 : (v8).ownBlock = some g) (e2 : (v10).ownBlock = some h) => (show g ≠ h by have := (HOy0_9.out.base g e1).2; have := (ho.base h e2).1; omega))
  have HB_10 := Lib.hid (HB_9.out.trans (hb.mono HB_9.out.size))
  have HOy1_10 := Lib.hid (ho.mono HB_9.out.size)
  clear hb ho HOp_9 HOq_9 HOw0_9 HOx0_9 HOx1_9 HOg0_9 HOy0_9 HB_9
  go_wp2_with fail
  refine (eqIntS_c _ _ ys ys _ HOx1_10.out.rd HOy1_10.out.rd).mono ?_
  rintro e w11 hr
  obtain ⟨rfl, hs⟩ := hr.same
  have hb := hs.below
  clear hr hs
  have HOp_11 := Lib.hid (HOp_10.out.below hb)
  have HOq_11 := Lib.hid (HOq_10.out.below hb)
  have HOw0_11 := Lib.hid (HOw0_10.out.below hb)
  have HOx0_11 := Lib.hid (HOx0_10.out.below hb)
  have HOx1_11 := Lib.hid (HOx1_10.out.below hb)
  have HOg0_11 := Lib.hid (HOg0_10.out.below hb)
  have HOy0_11 := Lib.hid (HOy0_10.out.below hb)
  have HOy1_11 := Lib.hid (HOy1_10.out.below hb)
  have HB_11 := Lib.hid (HB_10.out.trans (hb.mono HB_10.out.size))
  clear hb HOp_10 HOq_10 HOw0_10 HOx0_10 HOx1_10 HOg0_10 HOy0_10 HOy1_10 HB_10
  go_wp2_with fail
  refine (markIntS_c _ _ xs _ _ HOx0_11.out (by omega) (by omega) (by omega)).mono ?_
  rintro e w12 ⟨rfl, ho, hg⟩
  have HB_12 := Lib.hid (HB_11.out.grown hg HB_11.out.size (fun g e => (HOx0_11.out.base g e).1))
  have HOp_12 := Lib.hid (HOp_11.out.grown hg (fun g e h => Dp_x0.out g g e h.symm rfl))
  have HOq_12 := Lib.hid (HOq_11.out.grown hg (fun g e h => Dq_x0.out g g e h.symm rfl))
  have HOw0_12 := Lib.hid (HOw0_11.out.grown hg (fun g e h => Dw0_x0.out g g e h.symm rfl))
  have HOx0_12 := Lib.hid ho
  have HOx1_12 := Lib.hid (HOx1_11.out.grown hg (fun g e h => Dx0_x1.out g g h.symm e rfl))
  have HOg0_12 := Lib.hid (HOg0_11.out.grown hg (fun g e h => Dx0_g0.out g g h.symm e rfl))
  have HOy0_12 := Lib.hid (HOy0_11.out.grown hg (fun g e h => Dx0_y0.out g g h.symm e rfl))
  have HOy1_12 := Lib.hid (HOy1_11.out.grown hg (fun g e h => Dx0_y1.out g g h.symm e rfl))
  clear ho hg HOp_11 HOq_11 HOw0_11 HOx0_11 HOx1_11 HOg0_11 HOy0_11 HOy1_11 HB_11
  go_wp2_with fail
  refine (markIntS_c _ _ ys _ _ HOx1_12.out (by omega) (by omega) (by omega)).mono ?_
  rintro e w13 ⟨rfl, ho, hg⟩
  have HB_13 := Lib.hid (HB_12.out.grown hg HB_12.out.size (fun g e => (HOx1_12.out.base g e).1))
  have HOp_13 := Lib.hid (HOp_12.out.grown hg (fun g e h => Dp_x1.out g g e h.symm rfl))
  have HOq_13 := Lib.hid (HOq_12.out.grown hg (fun g e h => Dq_x1.out g g e h.symm rfl))
  have HOw0_13 := Lib.hid (HOw0_12.out.grown hg (fun g e h => Dw0_x1.out g g e h.symm rfl))
  have HOx0_13 := Lib.hid (HOx0_12.out.grown hg (fun g e h => Dx0_x1.out g g e h.symm rfl))
  have HOx1_13 := Lib.hid ho
  have HOg0_13 := Lib.hid (HOg0_12.out.grown hg (fun g e h => Dx1_g0.out g g h.symm e rfl))
  have HOy0_13 := Lib.hid (HOy0_12.out.grown hg (fun g e h => Dx1_y0.out g g h.symm e rfl))
  have HOy1_13 := Lib.hid (HOy1_12.out.grown hg (fun g e h => Dx1_y1.out g g h.symm e rfl))
  clear ho hg HOp_12 HOq_12 HOw0_12 HOx0_12 HOx1_12 HOg0_12 HOy0_12 HOy1_12 HB_12
  go_wp2_with fail
  refine (eqIntS_c _ _ M M _ HOg0_13.out.rd HOw0_13.out.rd).mono ?_
  rintro e w14 hr
  obtain ⟨rfl, hs⟩ := hr.same
  have hb := hs.below
  clear hr hs
  have HOp_14 := Lib.hid (HOp_13.out.below hb)
  have HOq_14 := Lib.hid (HOq_13.out.below hb)
  have HOw0_14 := Lib.hid (HOw0_13.out.below hb)
  have HOx0_14 := Lib.hid (HOx0_13.out.below hb)
  have HOx1_14 := Lib.hid (HOx1_13.out.below hb)
  have HOg0_14 := Lib.hid (HOg0_13.out.below hb)
  have HOy0_14 := Lib.hid (HOy0_13.out.below hb)
  have HOy1_14 := Lib.hid (HOy1_13.out.below hb)
  have HB_14 := Lib.hid (HB_13.out.trans (hb.mono HB_13.out.size))
  clear hb HOp_13 HOq_13 HOw0_13 HOx0_13 HOx1_13 HOg0_13 HOy0_13 HOy1_13 HB_13
  go_wp2_with fail
  refine (markIntS_c _ _ M _ _ HOg0_14.out (by omega) (by omega) (by omega)).mono ?_
  rintro e w15 ⟨rfl, ho, hg⟩
  have HB_15 := Lib.hid (HB_14.out.grown hg HB_14.out.size (fun g e => (HOg0_14.out.base g e).1))
  have HOp_15 := Lib.hid (HOp_14.out.grown hg (fun g e h => Dp_g0.out g g e h.symm rfl))
  have HOq_15 := Lib.hid (HOq_14.out.grown hg (fun g e h => Dq_g0.out g g e h.symm rfl))
  have HOw0_15 := Lib.hid (HOw0_14.out.grown hg (fun g e h => Dw0_g0.out g g e h.symm rfl))
  have HOx0_15 := Lib.hid (HOx0_14.out.grown hg (fun g e h => Dx0_g0.out g g e h.symm rfl))
  have HOx1_15 := Lib.hid (HOx1_14.out.grown hg (fun g e h => Dx1_g0.out g g e h.symm rfl))
  have HOg0_15 := Lib.hid ho
  have HOy0_15 := Lib.hid (HOy0_14.out.grown hg (fun g e h => Dg0_y0.out g g h.symm e rfl))
  have HOy1_15 := Lib.hid (HOy1_14.out.grown hg (fun g e h => Dg0_y1.out g g h.symm e rfl))
  clear ho hg HOp_14 HOq_14 HOw0_14 HOx0_14 HOx1_14 HOg0_14 HOy0_14 HOy1_14 HB_14
  have e4 := bne_self_eq_false (1 + (M.length : Int))
  go_wp2_with fail
  refine (heldIntS_c _ M.length _ _ HOg0_15.out.rd (by omega) (by omega) (by omega)).mono ?_
  rintro e w16 hr
  obtain ⟨rfl, hs⟩ := hr.same
  have hb := hs.below
  clear hr hs
  have HOp_16 := Lib.hid (HOp_15.out.below hb)
  have HOq_16 := Lib.hid (HOq_15.out.below hb)
  have HOw0_16 := Lib.hid (HOw0_15.out.below hb)
  have HOx0_16 := Lib.hid (HOx0_15.out.below hb)
  have HOx1_16 := Lib.hid (HOx1_15.out.below hb)
  have HOg0_16 := Lib.hid (HOg0_15.out.below hb)
  have HOy0_16 := Lib.hid (HOy0_15.out.below hb)
  have HOy1_16 := Lib.hid (HOy1_15.out.below hb)
  have HB_16 := Lib.hid (HB_15.out.trans (hb.mono HB_15.out.size))
  clear hb HOp_15 HOq_15 HOw0_15 HOx0_15 HOx1_15 HOg0_15 HOy0_15 HOy1_15 HB_15
  go_wp2_with fail
  refine (toIntS_c _ xs _ (HA.out.below HB_16.out) (by omega)).mono ?_
  rintro e w17 ⟨v17, rfl, ho, hb⟩
  have HOp_17 := Lib.hid (HOp_16.out.below hb)
  have HOq_17 := Lib.hid (HOq_16.out.below hb)
  have HOw0_17 := Lib.hid (HOw0_16.out.below hb)
  have HOx0_17 := Lib.hid (HOx0_16.out.below hb)
  have HOx1_17 := Lib.hid (HOx1_16.out.below hb)
  have HOg0_17 := Lib.hid (HOg0_16.out.below hb)
  have HOy0_17 := Lib.hid (HOy0_16.out.below hb)
  have HOy1_17 := Lib.hid (HOy1_16.out.below hb)
  have Dp_z0 := Lib.hid (fun (g h : Nat) (e1 : (v1).ownBlock = some g) (e2 : (v17).ownBlock = some h) => (show g ≠ h by have := (HOp_16.out.base g e1).2; have := (ho.base h e2).1; omega))
  have Dq_z0 := Lib.hid (fun (g h : Nat) (e1 : (v2).ownBlock = some g) (e2 : (v17).ownBlock = some h) => (show g ≠ h by have := (HOq_16.out.base g e1).2; have := (ho.base h e2).1; omega))
  have Dw0_z0 := Lib.hid (fun (g h : Nat) (e1 : (v3).ownBlock = some g) (e2 : (v17).ownBlock = some h) => (show g ≠ h by have := (HOw0_16.out.base g e1).2; have := (ho.base h e2).1; omega))
  have Dx0_z0 := Lib.hid (fun (g h : Nat) (e1 : (v4).ownBlock = some g) (e2 : (v17).ownBlock = some h) => (show g ≠ h by have := (HOx0_16.out.base g e1).2; have := (ho.base h e2).1; omega))
  have Dx1_z0 := Lib.hid (fun (g h : Nat) (e1 : (v5).ownBlock = some g) (e2 : (v17).ownBlock = some h) => (show g ≠ h by have := (HOx1_16.out.base g e1).2; have := (ho.base h e2).1; omega))
  have Dg0_z0 := Lib.hid (fun (g h : Nat) (e1 : (v6).ownBlock = some g) (e2 : (v17).ownBlock = some h) => (show g ≠ h by have := (HOg0_16.out.base g e1).2; have := (ho.base h e2).1; omega))
  have Dy0_z0 := Lib.hid (fun (g h : Nat) (e1 : (v8).ownBlock = some g) (e2 : (v17).ownBlock = some h) => (show g ≠ h by have := (HOy0_16.out.base g e1).2; have := (ho.base h e2).1; omega))
  have Dy1_z0 := Lib.hid (fun (g h : Nat) (e1 : (v10).ownBlock = some g) (e2 : (v17).ownBlock = some h) => (show g ≠ h by have := (HOy1_16.out.base g e1).2; have := (ho.base h e2).1; omega))
  have HB_17 := Lib.hid (HB_16.out.trans (hb.mono HB_16.out.size))
  have HOz0_17 := Lib.hid (ho.mono HB_16.out.size)
  clear hb ho HOp_16 HOq_16 HOw0_16 HOx0_16 HOx1_16 HOg0_16 HOy0_16 HOy1_16 HB_16
  go_wp2_with fail
  refine (toIntS_c _ ys _ (HB.out.below HB_17.out) (by omega)).mono ?_
  rintro e w18 ⟨v18, rfl, ho, hb⟩
  have HOp_18 := Lib.hid (HOp_17.out.below hb)
  have HOq_18 := Lib.hid (HOq_17.out.below hb)
  have HOw0_18 := Lib.hid (HOw0_17.out.below hb)
  have HOx0_18 := Lib.hid (HOx0_17.out.below hb)
  have HOx1_18 := Lib.hid (HOx1_17.out.below hb)
  have HOg0_18 := Lib.hid (HOg0_17.out.below hb)
  have HOy0_18 := Lib.hid (HOy0_17.out.below hb)
  have HOy1_18 := Lib.hid (HOy1_17.out.below hb)
  have HOz0_18 := Lib.hid (HOz0_17.out.below hb)
  have Dp_z1 := Lib.hid (fun (g h : Nat) (e1 : (v1).ownBlock = some g) (e2 : (v18).ownBlock = some h) => (show g ≠ h by have := (HOp_17.out.base g e1).2; have := (ho.base h e2).1; omega))
  have Dq_z1 := Lib.hid (fun (g h : Nat) (e1 : (v2).ownBlock = some g) (e2 : (v18).ownBlock = some h) => (show g ≠ h by have := (HOq_17.out.base g e1).2; have := (ho.base h e2).1; omega))
  have Dw0_z1 := Lib.hid (fun (g h : Nat) (e1 : (v3).ownBlock = some g) (e2 : (v18).ownBlock = some h) => (show g ≠ h by have := (HOw0_17.out.base g e1).2; have := (ho.base h e2).1; omega))
  have Dx0_z1 := Lib.hid (fun (g h : Nat) (e1 : (v4).ownBlock = some g) (e2 : (v18).ownBlock = some h) => (show g ≠ h by have := (HOx0_17.out.base g e1).2; have := (ho.base h e2).1; omega))
  have Dx1_z1 := Lib.hid (fun (g h : Nat) (e1 : (v5).ownBlock = some g) (e2 : (v18).ownBlock = some h) => (show g ≠ h by have := (HOx1_17.out.base g e1).2; have := (ho.base h e2).1; omega))
  have Dg0_z1 := Lib.hid (fun (g h : Nat) (e1 : (v6).ownBlock = some g) (e2 : (v18).ownBlock = some h) => (show g ≠ h by have := (HOg0_17.out.base g e1).2; have := (ho.base h e2).1; omega))
  have Dy0_z1 := Lib.hid (fun (g h : Nat) (e1 : (v8).ownBlock = some g) (e2 : (v18).ownBlock = some h) => (show g ≠ h by have := (HOy0_17.out.base g e1).2; have := (ho.base h e2).1; omega))
  have Dy1_z1 := Lib.hid (fun (g h : Nat) (e1 : (v10).ownBlock = some g) (e2 : (v18).ownBlock = some h) => (show g ≠ h by have := (HOy1_17.out.base g e1).2; have := (ho.base h e2).1; omega))
  have Dz0_z1 := Lib.hid (fun (g h : Nat) (e1 : (v17).ownBlock = some g) (e2 : (v18).ownBlock = some h) => (show g ≠ h by have := (HOz0_17.out.base g e1).2; have := (ho.base h e2).1; omega))
  have HB_18 := Lib.hid (HB_17.out.trans (hb.mono HB_17.out.size))
  have HOz1_18 := Lib.hid (ho.mono HB_17.out.size)
  clear hb ho HOp_17 HOq_17 HOw0_17 HOx0_17 HOx1_17 HOg0_17 HOy0_17 HOy1_17 HOz0_17 HB_17
  go_wp2_with fail
  refine (implMixVoices_c _ _ xs ys _ HOz0_18.out.rd HOz1_18.out.rd).mono ?_
  rintro e w19 ⟨v19, rfl, ho, hb⟩
  have HOp_19 := Lib.hid (HOp_18.out.below hb)
  have HOq_19 := Lib.hid (HOq_18.out.below hb)
  have HOw0_19 := Lib.hid (HOw0_18.out.below hb)
  have HOx0_19 := Lib.hid (HOx0_18.out.below hb)
  have HOx1_19 := Lib.hid (HOx1_18.out.below hb)
  have HOg0_19 := Lib.hid (HOg0_18.out.below hb)
  have HOy0_19 := Lib.hid (HOy0_18.out.below hb)
  have HOy1_19 := Lib.hid (HOy1_18.out.below hb)
  have HOz0_19 := Lib.hid (HOz0_18.out.below hb)
  have HOz1_19 := Lib.hid (HOz1_18.out.below hb)
  have Dp_h0 := Lib.hid (fun (g h : Nat) (e1 : (v1).ownBlock = some g) (e2 : (v19).ownBlock = some h) => (show g ≠ h by have := (HOp_18.out.base g e1).2; have := (ho.base h e2).1; omega))
  have Dq_h0 := Lib.hid (fun (g h : Nat) (e1 : (v2).ownBlock = some g) (e2 : (v19).ownBlock = some h) => (show g ≠ h by have := (HOq_18.out.base g e1).2; have := (ho.base h e2).1; omega))
  have Dw0_h0 := Lib.hid (fun (g h : Nat) (e1 : (v3).ownBlock = some g) (e2 : (v19).ownBlock = some h) => (show g ≠ h by have := (HOw0_18.out.base g e1).2; have := (ho.base h e2).1; omega))
  have Dx0_h0 := Lib.hid (fun (g h : Nat) (e1 : (v4).ownBlock = some g) (e2 : (v19).ownBlock = some h) => (show g ≠ h by have := (HOx0_18.out.base g e1).2; have := (ho.base h e2).1; omega))
  have Dx1_h0 := Lib.hid (fun (g h : Nat) (e1 : (v5).ownBlock = some g) (e2 : (v19).ownBlock = some h) => (show g ≠ h by have := (HOx1_18.out.base g e1).2; have := (ho.base h e2).1; omega))
  have Dg0_h0 := Lib.hid (fun (g h : Nat) (e1 : (v6).ownBlock = some g) (e2 : (v19).ownBlock = some h) => (show g ≠ h by have := (HOg0_18.out.base g e1).2; have := (ho.base h e2).1; omega))
  have Dy0_h0 := Lib.hid (fun (g h : Nat) (e1 : (v8).ownBlock = some g) (e2 : (v19).ownBlock = some h) => (show g ≠ h by have := (HOy0_18.out.base g e1).2; have := (ho.base h e2).1; omega))
  have Dy1_h0 := Lib.hid (fun (g h : Nat) (e1 : (v10).ownBlock = some g) (e2 : (v19).ownBlock = some h) => (show g ≠ h by have := (HOy1_18.out.base g e1).2; have := (ho.base h e2).1; omega))
  have Dz0_h0 := Lib.hid (fun (g h : Nat) (e1 : (v17).ownBlock = some g) (e2 : (v19).ownBlock = some h) => (show g ≠ h by have := (HOz0_18.out.base g e1).2; have := (ho.base h e2).1; omega))
  have Dz1_h0 := Lib.hid (fun (g h : Nat) (e1 : (v18).ownBlock = some g) (e2 : (v19).ownBlock = some h) => (show g ≠ h by have := (HOz1_18.out.base g e1).2; have := (ho.base h e2).1; omega))
  have HB_19 := Lib.hid (HB_18.out.trans (hb.mono HB_18.out.size))
  have HOh0_19 := Lib.hid (ho.mono HB_18.out.size)
  clear hb ho HOp_18 HOq_18 HOw0_18 HOx0_18 HOx1_18 HOg0_18 HOy0_18 HOy1_18 HOz0_18 HOz1_18 HB_18
  have HOh0_m := Lib.hid (HM.out ▸ HOh0_19.out)
  clear HOh0_19
  go_wp2_with fail
  refine (eqIntS_c _ _ M M _ HOh0_m.out.rd HOw0_19.out.rd).mono ?_
  rintro e w20 hr
  obtain ⟨rfl, hs⟩ := hr.same
  have hb := hs.below
  clear hr hs
  have HOp_20 := Lib.hid (HOp_19.out.below hb)
  have HOq_20 := Lib.hid (HOq_19.out.below hb)
  have HOw0_20 := Lib.hid (HOw0_19.out.below hb)
  have HOx0_20 := Lib.hid (HOx0_19.out.below hb)
  have HOx1_20 := Lib.hid (HOx1_19.out.below hb)
  have HOg0_20 := Lib.hid (HOg0_19.out.below hb)
  have HOy0_20 := Lib.hid (HOy0_19.out.below hb)
  have HOy1_20 := Lib.hid (HOy1_19.out.below hb)
  have HOz0_20 := Lib.hid (HOz0_19.out.below hb)
  have HOz1_20 := Lib.hid (HOz1_19.out.below hb)
  have HOh0_20 := Lib.hid (HOh0_m.out.below hb)
  have HB_20 := Lib.hid (HB_19.out.trans (hb.mono HB_19.out.size))
  clear hb HOp_19 HOq_19 HOw0_19 HOx0_19 HOx1_19 HOg0_19 HOy0_19 HOy1_19 HOz0_19 HOz1_19 HOh0_m HB_19
  go_wp2_with fail
  refine (heldIntS_c _ M.length _ _ HOg0_20.out.rd (by omega) (by omega) (by omega)).mono ?_
  rintro e w21 hr
  obtain ⟨rfl, hs⟩ := hr.same
  have hb := hs.below
  clear hr hs
  have HOp_21 := Lib.hid (HOp_20.out.below hb)
  have HOq_21 := Lib.hid (HOq_20.out.below hb)
  have HOw0_21 := Lib.hid (HOw0_20.out.below hb)
  have HOx0_21 := Lib.hid (HOx0_20.out.below hb)
  have HOx1_21 := Lib.hid (HOx1_20.out.below hb)
  have HOg0_21 := Lib.hid (HOg0_20.out.below hb)
  have HOy0_21 := Lib.hid (HOy0_20.out.below hb)
  have HOy1_21 := Lib.hid (HOy1_20.out.below hb)
  have HOz0_21 := Lib.hid (HOz0_20.out.below hb)
  have HOz1_21 := Lib.hid (HOz1_20.out.below hb)
  have HOh0_21 := Lib.hid (HOh0_20.out.below hb)
  have HB_21 := Lib.hid (HB_20.out.trans (hb.mono HB_20.out.size))
  clear hb HOp_20 HOq_20 HOw0_20 HOx0_20 HOx1_20 HOg0_20 HOy0_20 HOy1_20 HOz0_20 HOz1_20 HOh0_20 HB_20
  go_wp2
  go_ret
  exact Ret.mk1 rfl HB_21.out

end Go.Proofs.Ytfllfbmdnokmnaa
