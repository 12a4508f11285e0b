import Derived.Test.YtdfinlpfkmmpkaaProg
import Derived.Test.YtdfinlpfkmmpkaaLawLib
import Derived.Test.YtdfinlpfkmmpkaaCut
namespace Go.Proofs.Ytdfinlpfkmmpkaa
open Go.RowKit

theorem nsB_no {xss : List (List Int)} {fr to : Int} (h : nsB xss fr to = true) : ∃ f q : Nat, fr = (f : Int) ∧ to = (q : Int) ∧ f < xss.length ∧ q < xss.length ∧ cvB xss = true ∧ lcB xss (q : Int) = true := by
  obtain ⟨h1, h2, h3⟩ := nsB_true.1 h
  obtain ⟨h4, h5, h6⟩ := lcB_true.1 h1
  exact ⟨fr.toNat, to.toNat, by omega, by omega, by omega, by omega, h4, by rw [show ((to.toNat : Nat) : Int) = to by omega]; exact h1⟩
theorem cut_mono {xss : List (List Int)} {f q : Nat} (hb : nsB xss (f : Int) (q : Int) = true) (hf : f < xss.length) (hqf : q < (gl xss f).length) (hlb : lcB xss (q : Int) = true) (hl2 : lcB (cutL xss (f : Int) (q : Int)) (q : Int) = true) (hCl : (cutL xss (f : Int) (q : Int)).length = xss.length) :
    ∀ k, k < xss.length → 0 ≤ gi (lcV (cutL xss (f : Int) (q : Int)) (q : Int)) k → 0 ≤ gi (lcV xss (q : Int)) k ∧ gi (lcV xss (q : Int)) k ≤ gi (lcV (cutL xss (f : Int) (q : Int)) (q : Int)) k := by
  have ha := lcV_least hlb
  have hb2 := lcV_least hl2
  rw [hCl] at hb2
  refine least_mono ha hb2 (fun i j hi hj h0 => ?_)
  rw [cutL_ok hb, cut_tt hf hqf] at h0 ⊢
  split at h0
  · omega
  · next e => rw [if_neg e]

set_option maxRecDepth 100000 in
set_option maxHeartbeats 8000000 in
theorem fnCutLink_c (vc : Value) (c : List Int) (w : World) (hc : RdB w vc c) (bc : ∀ n ∈ c, (Lit.int .u8 n).wf = true) :
    Calls Try.prog 5 #[vc] w (Ret w fun v _ => v = .bool true) := by
  have hs := SH.add (p := rdP .u8 vc c) (SH.start0 w) (by simp) hc rdP_wr
  obtain ⟨ac, cc, rfl, -⟩ := hc.form
  have Bc := Lib.hid bc
  clear hc bc
  by_cases lc : c.length ≤ 1048576
  case neg =>
    go_enter Try.func5, Try.ntmps5
    go_wp2
    go_ret
    exact Ret.mk1 rfl (Below.refl _ _)
  go_enter Try.func5, Try.ntmps5
  go_wp2_with fail
  refine (DrawCutLink_s _ c _ (by first | exact hs | exact (hs).allocP1 _ _ | exact ((hs).allocP1 _ _).allocP1 _ _ | exact (((hs).allocP1 _ _).allocP1 _ _).allocP1 _ _ | exact ((((hs).allocP1 _ _).allocP1 _ _).allocP1 _ _).allocP1 _ _ | exact (hs).drew | exact ((hs).allocP1 _ _).drew | exact (((hs).allocP1 _ _).allocP1 _ _).drew | exact ((((hs).allocP1 _ _).allocP1 _ _).allocP1 _ _).drew | exact (((((hs).allocP1 _ _).allocP1 _ _).allocP1 _ _).allocP1 _ _).drew | exact (hs).drewN _ | exact ((hs).allocP1 _ _).drewN _ | exact (((hs).allocP1 _ _).allocP1 _ _).drewN _ | exact ((((hs).allocP1 _ _).allocP1 _ _).allocP1 _ _).drewN _ | exact (((((hs).allocP1 _ _).allocP1 _ _).allocP1 _ _).allocP1 _ _).drewN _) Bc.out).mono ?_
  rintro e w1 ⟨v1, vs, xss, fr, to, rfl, hR8, hs⟩
  have hs := hs.asSS
  obtain ⟨a1, c1, rfl, -⟩ := (SH.p0 hs : RdSS _ _ _ _).rows.form
  obtain ⟨r81, r82, -⟩ := hR8
  go_wp2_with fail
  refine (implCutLink_s _ vs xss fr to _ (by first | exact hs | exact (hs).alloc _ | exact ((hs).alloc _).alloc _ | exact (((hs).alloc _).alloc _).alloc _ | exact ((((hs).alloc _).alloc _).alloc _).alloc _ | exact (hs).drew | exact ((hs).alloc _).drew | exact (((hs).alloc _).alloc _).drew | exact ((((hs).alloc _).alloc _).alloc _).drew | exact (((((hs).alloc _).alloc _).alloc _).alloc _).drew | exact (hs).drewN _ | exact ((hs).alloc _).drewN _ | exact (((hs).alloc _).alloc _).drewN _ | exact ((((hs).alloc _).alloc _).alloc _).drewN _ | exact (((((hs).alloc _).alloc _).alloc _).alloc _).drewN _)).mono ?_
  rintro e w2 ⟨vx, vsx, rfl, hs⟩
  have hs := hs.asSS.bring1
  go_wp2_with fail
  refine (specCutLink_s _ vs xss fr to _ (by first | exact hs | exact (hs).alloc _ | exact ((hs).alloc _).alloc _ | exact (((hs).alloc _).alloc _).alloc _ | exact ((((hs).alloc _).alloc _).alloc _).alloc _ | exact (hs).drew | exact ((hs).alloc _).drew | exact (((hs).alloc _).alloc _).drew | exact ((((hs).alloc _).alloc _).alloc _).drew | exact (((((hs).alloc _).alloc _).alloc _).alloc _).drew | exact (hs).drewN _ | exact ((hs).alloc _).drewN _ | exact (((hs).alloc _).alloc _).drewN _ | exact ((((hs).alloc _).alloc _).alloc _).drewN _ | exact (((((hs).alloc _).alloc _).alloc _).alloc _).drewN _)).mono ?_
  rintro e w3 ⟨vy, vsy, rfl, hs⟩
  have hs := hs.asSS
  obtain ⟨ax, cx, rfl, -⟩ := (SH.p2 hs : RdSS _ _ _ _).rows.form
  obtain ⟨ay, cy, rfl, -⟩ := (SH.p0 hs : RdSS _ _ _ _).rows.form
  cases hb : nsB xss fr to
  case false =>
    rw [cutL_no hb] at hs ⊢
    go_wp2_with fail
    refine (SH.ret hs (by repeat' (first | with_reducible exact Below.refl _ _ | with_reducible assumption | with_reducible refine below_drewN ?_ _ | with_reducible refine Below.drew ?_ | with_reducible refine Below.alloc ?_ ?_ _ | with_reducible refine Below.setCell ?_ ?_ _ | go_size)) fun hs => alive_c _).mono ?_
    rintro e w4 ⟨v, rfl, rfl, hs⟩
    go_wp2
    go_ret
    exact Ret.mk1 rfl (SH.done (by first | exact hs | exact (hs).alloc _ | exact ((hs).alloc _).alloc _ | exact (((hs).alloc _).alloc _).alloc _ | exact ((((hs).alloc _).alloc _).alloc _).alloc _ | exact (hs).drew | exact ((hs).alloc _).drew | exact (((hs).alloc _).alloc _).drew | exact ((((hs).alloc _).alloc _).alloc _).drew | exact (((((hs).alloc _).alloc _).alloc _).alloc _).drew | exact (hs).drewN _ | exact ((hs).alloc _).drewN _ | exact (((hs).alloc _).alloc _).drewN _ | exact ((((hs).alloc _).alloc _).alloc _).drewN _ | exact (((((hs).alloc _).alloc _).alloc _).alloc _).drewN _))
  obtain ⟨f, q, rfl, rfl, hf, hq, hv, hlb⟩ := nsB_no hb
  have HN := Lib.hid (cutL_ok hb)
  have HCV : Hid (cvB (cutL xss (f : Int) (q : Int)) = true) := Lib.hid (by rw [HN.out]; exact cut_valid hf hq hv)
  have hCl : (cutL xss (f : Int) (q : Int)).length = xss.length := by rw [HN.out, List.length_set]
  have HLB2 : Hid (lcB (cutL xss (f : Int) (q : Int)) (q : Int) = true) := Lib.hid (lcB_true.2 ⟨HCV.out, by omega, by omega⟩)
  have HRL : Hid (∀ i, i < xss.length → (gl (cutL xss (f : Int) (q : Int)) i).length = xss.length) := Lib.hid (fun i hi => by rw [(cvRow_true.1 ((cvB_true.1 HCV.out).2 i (by omega))).1, hCl])
  have hqf : q < (gl xss f).length := by rw [(cvRow_true.1 ((cvB_true.1 hv).2 f hf)).1]; exact hq
  have HZ : Hid (gi (gl (cutL xss (f : Int) (q : Int)) f) q = 0) := Lib.hid (by rw [HN.out]; have := cut_tt hf hqf f q; rw [if_pos ⟨rfl, rfl⟩] at this; exact this)
  have HMO := Lib.hid (cut_mono hb hf hqf hlb HLB2.out hCl)
  have HXA := Lib.hid (lcV_len hlb)
  have HXB : Hid ((lcV (cutL xss (f : Int) (q : Int)) (q : Int)).length = xss.length) := Lib.hid (by rw [lcV_len HLB2.out, hCl])
  have HBA := Lib.hid (lcV_bd hlb)
  have HCl := Lib.hid hCl
  clear hb hv hlb hCl hqf HN HLB2
  generalize cutL xss (f : Int) (q : Int) = C at *
  rw [HCl.out]
  have hz2 : ((xss.length : Int) == 0) = false := by simp only [beq_eq_false_iff_ne]; omega
  go_wp2
  clear hz2
  rw [HCl.out] at hs
  go_loopw [8] (fun i wr => ∃ k : Nat, k ≤ xss.length ∧ i = .int .i64 k ∧ SH none w wr [rdSSP (.slice ay xss.length cy) vsy C, rdSSP (.slice a1 xss.length c1) vs xss, rdSSP (.slice ax xss.length cx) vsx C, rdP .u8 (.slice ac c.length cc) c]) (fun i _ => xss.length - (intOf i).toNat)
  case atStart => exact ⟨0, Nat.zero_le _, rfl, hs⟩
  case round =>
    clear hs
    obtain ⟨k, hk, rfl, hs⟩ := hrel
    obtain ⟨b1, o1, k1, d1, rfl, -, -, -⟩ := rowAt (SH.p0 hs : RdSS _ _ _ _) (k := f) (by rw [HCl.out]; exact hf)
    obtain ⟨b2, o2, k2, d2, rfl, -, -, -⟩ := rowAt (SH.p2 hs : RdSS _ _ _ _) (k := f) (by rw [HCl.out]; exact hf)
    by_cases hlt : k < xss.length
    · obtain ⟨b1, o1, k1, d1, e1, -, hc1, hr1⟩ := rowAt (SH.p0 hs : RdSS _ _ _ _) (k := k) (by rw [HCl.out]; exact hlt)
      cases e1
      obtain ⟨b2, o2, k2, d2, e2, -, hc2, hr2⟩ := rowAt (SH.p2 hs : RdSS _ _ _ _) (k := k) (by rw [HCl.out]; exact hlt)
      cases e2
      have HR1 := Lib.hid hr1
      have HR2 := Lib.hid hr2
      have i0 : (0 : Int) ≤ (k : Int) := by omega
      have i1 : (k : Int) < (xss.length : Int) := by omega
      have hde : decide (gl C k = gl C k) = true := by simp
      clear hr1 hr2
      go_wp2
      go_quiet ((go_at_call 28; exact quiet_of (sameInts_c _ _ (gl C k) (gl C k) _ (RdK.drewN HR2.out _) (RdK.drewN HR1.out _))))
      go_wp2
      go_roundw
      case rel => exact ⟨k + 1, hlt, by go_num, hs.drewN _⟩
      case measure => simp [intOf]; omega
    · clear hk
      go_wp2_with fail
      refine (SH.own hs (by repeat' (first | with_reducible exact Below.refl _ _ | with_reducible assumption | with_reducible refine below_drewN ?_ _ | with_reducible refine Below.drew ?_ | with_reducible refine Below.alloc ?_ ?_ _ | with_reducible refine Below.setCell ?_ ?_ _ | go_size)) fun hs => implLeastCosts_f _ vs xss (q : Int) _ hs.p1).mono ?_
      rintro e w21 ⟨va, rfl, hs⟩
      go_wp2_with fail
      refine (SH.own hs (by repeat' (first | with_reducible exact Below.refl _ _ | with_reducible assumption | with_reducible refine below_drewN ?_ _ | with_reducible refine Below.drew ?_ | with_reducible refine Below.alloc ?_ ?_ _ | with_reducible refine Below.setCell ?_ ?_ _ | go_size)) fun hs => implLeastCosts_f _ vsx C (q : Int) _ hs.p3).mono ?_
      rintro e w22 ⟨vb, rfl, hs⟩
      obtain ⟨aA, cA, rfl, -⟩ := (OwnK.rd hs.p1).form
      obtain ⟨aB, cB, rfl, -⟩ := (OwnK.rd hs.p0).form
      rw [HXA.out, HXB.out] at hs ⊢
      obtain ⟨gA, rfl⟩ := own_some hs.p1 (show 0 < xss.length by omega)
      obtain ⟨gB, rfl⟩ := own_some hs.p0 (show 0 < xss.length by omega)
      generalize lcV xss (q : Int) = XA at *
      generalize lcV C (q : Int) = XB at *
      go_wp2
      go_loopw [11] (fun i wr => ∃ m : Nat, m ≤ xss.length ∧ i = .int .i64 m ∧ SH none w wr [ownP .i64 3 (.slice (some ⟨gB, 0, none⟩) xss.length cB) XB, ownP .i64 3 (.slice (some ⟨gA, 0, none⟩) xss.length cA) XA, rdSSP (.slice (some ⟨b1, o1, none⟩) xss.length cy) vsy C, rdSSP (.slice a1 xss.length c1) vs xss, rdSSP (.slice (some ⟨b2, o2, none⟩) xss.length cx) vsx C, rdP .u8 (.slice ac c.length cc) c]) (fun i _ => xss.length - (intOf i).toNat)
      case atStart => exact ⟨0, Nat.zero_le _, rfl, hs⟩
      case round =>
        clear hs
        obtain ⟨m, hm, rfl, hs⟩ := hrel
        by_cases hml : m < xss.length
        · have hcA := own_cell hs.p1 hml
          have hcB := own_cell hs.p0 hml
          have HM := Lib.hid (HMO.out m hml)
          have m0 : (0 : Int) ≤ (m : Int) := by omega
          have m1 : (m : Int) < (xss.length : Int) := by omega
          obtain ⟨xa, hxa⟩ : ∃ x, gi XA m = x := ⟨_, rfl⟩
          obtain ⟨xb, hxb⟩ : ∃ x, gi XB m = x := ⟨_, rfl⟩
          rw [hxa, hxb] at HM
          rw [hxa] at hcA
          rw [hxb] at hcB
          clear hxa hxb
          by_cases q1 : 0 ≤ xb
          · obtain ⟨q2, q3⟩ := HM.out q1
            have d1 : decide (0 ≤ xb) = true := decide_eq_true q1
            have d2 : decide (xa < 0) = false := decide_eq_false (by omega)
            have d3 : decide (xb < xa) = false := decide_eq_false (by omega)
            go_wp2
            go_quiet (fail)
            go_wp2
            go_roundw
            case rel => exact ⟨m + 1, hml, by go_num, hs.drewN _⟩
            case measure => simp [intOf]; omega
          · have d1 : decide (0 ≤ xb) = false := decide_eq_false q1
            go_wp2
            go_quiet (fail)
            go_wp2
            go_roundw
            case rel => exact ⟨m + 1, hml, by go_num, hs.drewN _⟩
            case measure => simp [intOf]; omega
        · go_wp2_with fail
          refine (SH.quiet hs (by repeat' (first | with_reducible exact Below.refl _ _ | with_reducible assumption | with_reducible refine below_drewN ?_ _ | with_reducible refine Below.drew ?_ | with_reducible refine Below.alloc ?_ ?_ _ | with_reducible refine Below.setCell ?_ ?_ _ | go_size)) fun hs => implCostsValid_c _ vsx C _ hs.p4).mono ?_
          rintro e w31 ⟨rfl, hs⟩
          rw [HCV.out]
          obtain ⟨b5, o5, k1, d1, e1, -, hc1, hr1⟩ := rowAt (SH.p4 hs : RdSS _ _ _ _) (k := f) (by rw [HCl.out]; exact hf)
          cases e1
          have hrl := HRL.out f hf
          rw [hrl] at hc1 hr1
          obtain ⟨b6, o6, rfl, hd⟩ := hr1.at_ hq
          rw [HZ.out] at hd
          have f1 : (f : Int) < (xss.length : Int) := by omega
          have q1 : (q : Int) < (xss.length : Int) := by omega
          clear hr1 hrl
          go_wp2
          go_ret
          exact Ret.mk1 rfl (SH.done (by first | exact hs | exact (hs).alloc _ | exact ((hs).alloc _).alloc _ | exact (((hs).alloc _).alloc _).alloc _ | exact ((((hs).alloc _).alloc _).alloc _).alloc _ | exact (hs).drew | exact ((hs).alloc _).drew | exact (((hs).alloc _).alloc _).drew | exact ((((hs).alloc _).alloc _).alloc _).drew | exact (((((hs).alloc _).alloc _).alloc _).alloc _).drew | exact (hs).drewN _ | exact ((hs).alloc _).drewN _ | exact (((hs).alloc _).alloc _).drewN _ | exact ((((hs).alloc _).alloc _).alloc _).drewN _ | exact (((((hs).alloc _).alloc _).alloc _).alloc _).drewN _))
end Go.Proofs.Ytdfinlpfkmmpkaa
