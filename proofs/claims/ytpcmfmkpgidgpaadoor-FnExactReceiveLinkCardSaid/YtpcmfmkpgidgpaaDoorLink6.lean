import Derived.Test.YtpcmfmkpgidgpaaDoorProg
import Derived.Test.YtpcmfmkpgidgpaaDoorLink5
namespace Go.Proofs.YtpcmfmkpgidgpaaDoor
open Go.RowKit

/-! What is received. -/
def rxD (ss : List (Int × Int)) : List Int := diL (slcL ss) (ss.length / 7)
def rxA (ss : List (Int × Int)) : Bool := sgB ss && decide (ss.length % 7 = 0) && decide (28 ≤ ss.length)
def rxB (ss : List (Int × Int)) : Bool := rxA ss && chkB (decT (rxD ss) (ss.length / 7))
def rxL (ss : List (Int × Int)) : List Int := if rxB ss then (decT (rxD ss) (ss.length / 7)).take (4 * (ss.length / 7) - 16) else []
def rxN (ss : List (Int × Int)) : Nat := if rxB ss then decN (rxD ss) (ss.length / 7) else 0
theorem rxL_len (ss : List (Int × Int)) : (rxL ss).length ≤ 1024 := by
  unfold rxL
  split
  · next h =>
    simp only [rxB, rxA, Bool.and_eq_true] at h
    have := (sgB_true.1 h.1.1.1).1
    rw [List.length_take, decT_len]
    omega
  · simp
theorem rx_bad {ss : List (Int × Int)} (h : rxB ss = false) : rxL ss = [] ∧ rxN ss = 0 := by simp [rxL, rxN, h]
structure RxOK (ss : List (Int × Int)) (n : Nat) : Prop where
  len : ss.length = 7 * n
  n4 : 4 ≤ n
  n36 : n ≤ 36
  q : ss.length / 7 = n
  slc : bitsB (slcL ss) = true
  slcl : (slcL ss).length = 7 * n
  di : bitsB (rxD ss) = true
  dil : (rxD ss).length = 7 * n
theorem rx_ok {ss : List (Int × Int)} (h : rxA ss = true) : ∃ n, RxOK ss n := by
  simp only [rxA, Bool.and_eq_true, decide_eq_true_eq] at h
  obtain ⟨⟨h1, h2⟩, h3⟩ := h
  have h256 := (sgB_true.1 h1).1
  have hl : ss.length = 7 * (ss.length / 7) := by omega
  have hs : (slcL ss).length = 7 * (ss.length / 7) := by rw [slcL_len]; exact hl
  refine ⟨ss.length / 7, hl, by omega, by omega, rfl, bitsB_true.2 ⟨by rw [slcL_len]; omega, slcL_bits ss⟩, hs, ?_, ?_⟩
  · exact bitsB_true.2 ⟨by unfold rxD; rw [diL_len, slcL_len]; omega, diL_bits (slcL_bits ss) hs⟩
  · unfold rxD; rw [diL_len]; exact hs

set_option maxRecDepth 100000 in
set_option maxHeartbeats 4000000 in
theorem implReceive_c (va : Value) (ss : List (Int × Int)) (w : World) (h : RdM 2 w va ss.length (bC ss)) (hD : RdI w (.slice (some ⟨0, 0, none⟩) 4 4) dpL) :
    Calls Tryd.prog 19 #[va] w (Ret w fun v w' => ∃ v', v = .tuple #[v', .int .i64 (rxN ss : Nat), .bool (rxB ss)] ∧ OwnI w' w.heap.size 3 v' (rxL ss)) := by
  obtain ⟨a, ca, rfl, ml⟩ := h.form
  have hs := SH.start w [rdMP 2 (.slice a ss.length ca) ss.length (bC ss), rdP .i64 (.slice (some ⟨0, 0, none⟩) 4 4) dpL] (by simp only [List.forall_mem_cons]; exact ⟨⟨⟨h, by decide⟩, rdMP_wr⟩, ⟨hD, rdP_wr⟩, by simp⟩)
  clear h hD
  cases hA : rxA ss
  · have HB : Hid (rxB ss = false) := Lib.hid (by unfold rxB; rw [hA]; rfl)
    have HE := Lib.hid (rx_bad HB.out)
    go_enter Tryd.func19, Tryd.ntmps19
    go_wp2_with fail
    refine (SH.ret hs (by repeat' (first | with_reducible exact Below.refl _ _ | with_reducible assumption | with_reducible refine below_drewN ?_ _ | with_reducible refine Below.drew ?_ | with_reducible refine Below.alloc ?_ ?_ _ | with_reducible refine Below.setCell ?_ ?_ _ | go_size)) fun hs => implSignalValid_c _ ss _ hs.p0.1).mono ?_
    rintro e w1 ⟨v, rfl, rfl, hs⟩
    cases hv : sgB ss
    · go_wp2
      go_ret3
      exact Ret.mk1 ⟨_, by rw [HE.out.2, HB.out]; rfl, by rw [HE.out.1]; exact OwnK.nil _ _ _ _⟩ hs.done
    · by_cases h7 : ss.length % 7 = 0
      · have e7 : ((ss.length : Int) % 7 != 0) = false := by rw [bne_eq_false_iff_eq]; omega
        have h28 : ¬ 28 ≤ ss.length := fun h => by simp [rxA, hv, h7, h] at hA
        have e8 : decide ((ss.length : Int) < 28) = true := by rw [decide_eq_true_eq]; omega
        clear h7 hv hA
        go_wp2
        go_ret3
        exact Ret.mk1 ⟨_, by rw [HE.out.2, HB.out]; rfl, by rw [HE.out.1]; exact OwnK.nil _ _ _ _⟩ hs.done
      · have e7 : ((ss.length : Int) % 7 != 0) = true := by rw [bne_iff_ne]; omega
        clear h7 hv hA
        go_wp2
        go_ret3
        exact Ret.mk1 ⟨_, by rw [HE.out.2, HB.out]; rfl, by rw [HE.out.1]; exact OwnK.nil _ _ _ _⟩ hs.done
  · obtain ⟨n, hO⟩ := rx_ok hA
    have HO := Lib.hid hO
    have e7 : ((ss.length : Int) % 7 != 0) = false := by rw [bne_eq_false_iff_eq]; have := hO.len; omega
    have e8 : decide ((ss.length : Int) < 28) = false := by rw [decide_eq_false_iff_not]; have := hO.len; have := hO.n4; omega
    have HV : Hid (sgB ss = true) := Lib.hid (by simp only [rxA, Bool.and_eq_true] at hA; exact hA.1.1)
    have HRB : Hid (rxB ss = chkB (decT (rxD ss) n)) := Lib.hid (by unfold rxB; rw [hA, hO.q]; rfl)
    have HRL : Hid (rxB ss = true → rxL ss = (decT (rxD ss) n).take (4 * n - 16) ∧ rxN ss = decN (rxD ss) n) := Lib.hid fun h => by unfold rxL rxN; rw [if_pos h, if_pos h, hO.q]; exact ⟨rfl, rfl⟩
    have hn4 := hO.n4
    have hn36 := hO.n36
    clear hA hO
    go_enter Tryd.func19, Tryd.ntmps19
    go_wp2_with fail
    refine (SH.ret hs (by repeat' (first | with_reducible exact Below.refl _ _ | with_reducible assumption | with_reducible refine below_drewN ?_ _ | with_reducible refine Below.drew ?_ | with_reducible refine Below.alloc ?_ ?_ _ | with_reducible refine Below.setCell ?_ ?_ _ | go_size)) fun hs => implSignalValid_c _ ss _ hs.p0.1).mono ?_
    rintro e w1 ⟨v, rfl, rfl, hs⟩
    rw [HV.out]
    go_wp2_with fail
    refine (SH.own hs (by repeat' (first | with_reducible exact Below.refl _ _ | with_reducible assumption | with_reducible refine below_drewN ?_ _ | with_reducible refine Below.drew ?_ | with_reducible refine Below.alloc ?_ ?_ _ | with_reducible refine Below.setCell ?_ ?_ _ | go_size)) fun hs => implSlice_c _ ss _ hs.p0.1 HV.out).mono ?_
    rintro e w2 ⟨v2, rfl, hs⟩
    go_wp2_with fail
    refine (SH.own hs (by repeat' (first | with_reducible exact Below.refl _ _ | with_reducible assumption | with_reducible refine below_drewN ?_ _ | with_reducible refine Below.drew ?_ | with_reducible refine Below.alloc ?_ ?_ _ | with_reducible refine Below.setCell ?_ ?_ _ | go_size)) fun hs => implDeint_c _ (slcL ss) n _ (OwnK.rd hs.p0) HO.out.slc HO.out.slcl (by omega)).mono ?_
    rintro e w3 ⟨v3, rfl, hs⟩
    rw [show diL (slcL ss) n = rxD ss by unfold rxD; rw [HO.out.q]] at hs
    go_wp2_with fail
    refine (SH.ownT2 hs (by repeat' (first | with_reducible exact Below.refl _ _ | with_reducible assumption | with_reducible refine below_drewN ?_ _ | with_reducible refine Below.drew ?_ | with_reducible refine Below.alloc ?_ ?_ _ | with_reducible refine Below.setCell ?_ ?_ _ | go_size)) fun hs => implDecode_c _ (rxD ss) n _ (OwnK.rd hs.p0) hs.p3 HO.out.di HO.out.dil (by omega)).mono ?_
    rintro e w4 ⟨v4, rfl, hs⟩
    have hdl := decT_len (rxD ss) n
    obtain ⟨X, hX⟩ : ∃ X, decT (rxD ss) n = X := ⟨_, rfl⟩
    rw [hX] at hs hdl HRB HRL
    have hX2 := hX
    clear hX hX2
    generalize decN (rxD ss) n = dn at *
    obtain ⟨aX, cX, rfl, hcX, -⟩ := (OwnK.rd hs.p0).form'
    rw [hdl] at hs ⊢
    have HXL := Lib.hid hdl
    clear hdl
    go_wp2_with fail
    refine (SH.ret hs (by repeat' (first | with_reducible exact Below.refl _ _ | with_reducible assumption | with_reducible refine below_drewN ?_ _ | with_reducible refine Below.drew ?_ | with_reducible refine Below.alloc ?_ ?_ _ | with_reducible refine Below.setCell ?_ ?_ _ | go_size)) fun hs => implCheckPasses_c _ X _ (OwnK.rd hs.p0)).mono ?_
    rintro e w5 ⟨v, rfl, rfl, hs⟩
    cases hc : chkB X
    · have HB : Hid (rxB ss = false) := Lib.hid (by rw [HRB.out, hc])
      have HE := Lib.hid (rx_bad HB.out)
      go_wp2
      go_ret3
      exact Ret.mk1 ⟨_, by rw [HE.out.2, HB.out]; rfl, by rw [HE.out.1]; exact OwnK.nil _ _ _ _⟩ hs.done
    · have HB : Hid (rxB ss = true) := Lib.hid (by rw [HRB.out, hc])
      have HE := Lib.hid (HRL.out HB.out)
      have hw : IntKind.i64.wrap (((4 * n : Nat) : Int) - 16) = ((4 * n - 16 : Nat) : Int) := by
        rw [show (((4 * n : Nat) : Int) - 16) = ((4 * n - 16 : Nat) : Int) by omega]; exact IntWalk.i64_in _ (by omega)
      have s0 : (0 : Int) ≤ ((4 * n : Nat) : Int) - 16 := by omega
      have s1 : ((4 * n : Nat) : Int) - 16 ≤ (cX : Int) := by have := HXL.out; omega
      have s2 : (((4 * n : Nat) : Int) - 16).toNat = 4 * n - 16 := by omega
      clear hc
      go_wp2_with fail
      refine (SH.quiet (hs.ownEmpty .i64 3) (by repeat' (first | with_reducible exact Below.refl _ _ | with_reducible assumption | with_reducible refine below_drewN ?_ _ | with_reducible refine Below.drew ?_ | with_reducible refine Below.alloc ?_ ?_ _ | with_reducible refine Below.setCell ?_ ?_ _ | go_size)) fun hs => degreeOf_c _).mono ?_
      rintro e w6 ⟨rfl, hs⟩
      go_wp2_with (at_builtin; refine wp_appKX (xs := []) (ys := X.take (4 * n - 16)) rfl rfl .i64 3 8 Tryd.underlying22 info_int rfl hs rfl (RdK.take (OwnK.rd hs.p1) (by omega)) (by simp; omega) (by simp; unfold maxLen; omega) ?_; intro v7 w7 hs; rw [List.nil_append] at hs)
      go_ret3
      exact Ret.mk1 ⟨_, by rw [HE.out.2, HB.out]; rfl, by rw [HE.out.1]; exact SH.ownRet hs⟩ hs.done
set_option maxRecDepth 100000 in
set_option maxHeartbeats 4000000 in
theorem specReceive_c (va : Value) (ss : List (Int × Int)) (w : World) (h : RdM 2 w va ss.length (bC ss)) :
    Calls Tryd.prog 23 #[va] w (Ret w fun v w' => ∃ v', v = .tuple #[v', .int .i64 (rxN ss : Nat), .bool (rxB ss)] ∧ OwnI w' w.heap.size 3 v' (rxL ss)) := by
  obtain ⟨a, ca, rfl, ml⟩ := h.form
  have hs := SH.start w [rdMP 2 (.slice a ss.length ca) ss.length (bC ss)] (by simp only [List.forall_mem_cons]; exact ⟨⟨⟨h, by decide⟩, rdMP_wr⟩, by simp⟩)
  clear h
  cases hA : rxA ss
  · have HB : Hid (rxB ss = false) := Lib.hid (by unfold rxB; rw [hA]; rfl)
    have HE := Lib.hid (rx_bad HB.out)
    go_enter Tryd.func23, Tryd.ntmps23
    go_wp2_with fail
    refine (SH.quiet hs (by repeat' (first | with_reducible exact Below.refl _ _ | with_reducible assumption | with_reducible refine below_drewN ?_ _ | with_reducible refine Below.drew ?_ | with_reducible refine Below.alloc ?_ ?_ _ | with_reducible refine Below.setCell ?_ ?_ _ | go_size)) fun hs => specSignalValid_c _ ss _ hs.p0.1).mono ?_
    rintro e w1 ⟨rfl, hs⟩
    cases hv : sgB ss
    · go_wp2
      go_ret3
      exact Ret.mk1 ⟨_, by rw [HE.out.2, HB.out]; rfl, by rw [HE.out.1]; exact SH.ownRet (hs.ownEmpty .i64 3)⟩ (hs.ownEmpty .i64 3).done
    · by_cases h7 : ss.length % 7 = 0
      · have e7 : ((ss.length : Int) % 7 != 0) = false := by rw [bne_eq_false_iff_eq]; omega
        have h28 : ¬ 28 ≤ ss.length := fun h => by simp [rxA, hv, h7, h] at hA
        have e8 : decide ((ss.length : Int) < 28) = true := by rw [decide_eq_true_eq]; omega
        clear h7 hv hA
        go_wp2
        go_ret3
        exact Ret.mk1 ⟨_, by rw [HE.out.2, HB.out]; rfl, by rw [HE.out.1]; exact SH.ownRet (hs.ownEmpty .i64 3)⟩ (hs.ownEmpty .i64 3).done
      · have e7 : ((ss.length : Int) % 7 != 0) = true := by rw [bne_iff_ne]; omega
        clear h7 hv hA
        go_wp2
        go_ret3
        exact Ret.mk1 ⟨_, by rw [HE.out.2, HB.out]; rfl, by rw [HE.out.1]; exact SH.ownRet (hs.ownEmpty .i64 3)⟩ (hs.ownEmpty .i64 3).done
  · obtain ⟨n, hO⟩ := rx_ok hA
    have HO := Lib.hid hO
    have e7 : ((ss.length : Int) % 7 != 0) = false := by rw [bne_eq_false_iff_eq]; have := hO.len; omega
    have e8 : decide ((ss.length : Int) < 28) = false := by rw [decide_eq_false_iff_not]; have := hO.len; have := hO.n4; omega
    have HV : Hid (sgB ss = true) := Lib.hid (by simp only [rxA, Bool.and_eq_true] at hA; exact hA.1.1)
    have HRB : Hid (rxB ss = chkB (decT (rxD ss) n)) := Lib.hid (by unfold rxB; rw [hA, hO.q]; rfl)
    have HRL : Hid (rxB ss = true → rxL ss = (decT (rxD ss) n).take (4 * n - 16) ∧ rxN ss = decN (rxD ss) n) := Lib.hid fun h => by unfold rxL rxN; rw [if_pos h, if_pos h, hO.q]; exact ⟨rfl, rfl⟩
    have hn4 := hO.n4
    have hn36 := hO.n36
    clear hA hO
    go_enter Tryd.func23, Tryd.ntmps23
    go_wp2_with fail
    refine (SH.quiet hs (by repeat' (first | with_reducible exact Below.refl _ _ | with_reducible assumption | with_reducible refine below_drewN ?_ _ | with_reducible refine Below.drew ?_ | with_reducible refine Below.alloc ?_ ?_ _ | with_reducible refine Below.setCell ?_ ?_ _ | go_size)) fun hs => specSignalValid_c _ ss _ hs.p0.1).mono ?_
    rintro e w1 ⟨rfl, hs⟩
    rw [HV.out]
    go_wp2_with fail
    refine (SH.own hs (by repeat' (first | with_reducible exact Below.refl _ _ | with_reducible assumption | with_reducible refine below_drewN ?_ _ | with_reducible refine Below.drew ?_ | with_reducible refine Below.alloc ?_ ?_ _ | with_reducible refine Below.setCell ?_ ?_ _ | go_size)) fun hs => specSlice_c _ ss _ hs.p0.1 HV.out).mono ?_
    rintro e w2 ⟨v2, rfl, hs⟩
    go_wp2_with fail
    refine (SH.own hs (by repeat' (first | with_reducible exact Below.refl _ _ | with_reducible assumption | with_reducible refine below_drewN ?_ _ | with_reducible refine Below.drew ?_ | with_reducible refine Below.alloc ?_ ?_ _ | with_reducible refine Below.setCell ?_ ?_ _ | go_size)) fun hs => specDeint_c _ (slcL ss) n _ (OwnK.rd hs.p0) HO.out.slc HO.out.slcl (by omega)).mono ?_
    rintro e w3 ⟨v3, rfl, hs⟩
    rw [show diL (slcL ss) n = rxD ss by unfold rxD; rw [HO.out.q]] at hs
    go_wp2_with fail
    refine (SH.ownT2 hs (by repeat' (first | with_reducible exact Below.refl _ _ | with_reducible assumption | with_reducible refine below_drewN ?_ _ | with_reducible refine Below.drew ?_ | with_reducible refine Below.alloc ?_ ?_ _ | with_reducible refine Below.setCell ?_ ?_ _ | go_size)) fun hs => specDecode_c _ (rxD ss) n _ (OwnK.rd hs.p0) HO.out.di HO.out.dil (by omega)).mono ?_
    rintro e w4 ⟨v4, rfl, hs⟩
    have hdl := decT_len (rxD ss) n
    obtain ⟨X, hX⟩ : ∃ X, decT (rxD ss) n = X := ⟨_, rfl⟩
    rw [hX] at hs hdl HRB HRL
    have hX2 := hX
    clear hX hX2
    generalize decN (rxD ss) n = dn at *
    obtain ⟨aX, cX, rfl, hcX, -⟩ := (OwnK.rd hs.p0).form'
    rw [hdl] at hs ⊢
    have HXL := Lib.hid hdl
    clear hdl
    go_wp2_with fail
    refine (SH.quiet hs (by repeat' (first | with_reducible exact Below.refl _ _ | with_reducible assumption | with_reducible refine below_drewN ?_ _ | with_reducible refine Below.drew ?_ | with_reducible refine Below.alloc ?_ ?_ _ | with_reducible refine Below.setCell ?_ ?_ _ | go_size)) fun hs => specCheckPasses_c _ X _ (OwnK.rd hs.p0)).mono ?_
    rintro e w5 ⟨rfl, hs⟩
    cases hc : chkB X
    · have HB : Hid (rxB ss = false) := Lib.hid (by rw [HRB.out, hc])
      have HE := Lib.hid (rx_bad HB.out)
      go_wp2
      go_ret3
      exact Ret.mk1 ⟨_, by rw [HE.out.2, HB.out]; rfl, by rw [HE.out.1]; exact SH.ownRet (hs.ownEmpty .i64 3)⟩ (hs.ownEmpty .i64 3).done
    · have HB : Hid (rxB ss = true) := Lib.hid (by rw [HRB.out, hc])
      have HE := Lib.hid (HRL.out HB.out)
      have hw : IntKind.i64.wrap (((4 * n : Nat) : Int) - 16) = ((4 * n - 16 : Nat) : Int) := by
        rw [show (((4 * n : Nat) : Int) - 16) = ((4 * n - 16 : Nat) : Int) by omega]; exact IntWalk.i64_in _ (by omega)
      have s0 : (0 : Int) ≤ ((4 * n : Nat) : Int) - 16 := by omega
      have s1 : ((4 * n : Nat) : Int) - 16 ≤ (cX : Int) := by have := HXL.out; omega
      have s2 : (((4 * n : Nat) : Int) - 16).toNat = 4 * n - 16 := by omega
      clear hc
      have hs := hs.ownEmpty .i64 3
      go_wp2_with (at_builtin; refine wp_appKX (xs := []) (ys := X.take (4 * n - 16)) rfl rfl .i64 3 8 Tryd.underlying22 info_int rfl hs rfl (RdK.take (OwnK.rd hs.p1) (by omega)) (by simp; omega) (by simp; unfold maxLen; omega) ?_; intro v7 w7 hs; rw [List.nil_append] at hs)
      go_ret3
      exact Ret.mk1 ⟨_, by rw [HE.out.2, HB.out]; rfl, by rw [HE.out.1]; exact SH.ownRet hs⟩ hs.done
end Go.Proofs.YtpcmfmkpgidgpaaDoor
