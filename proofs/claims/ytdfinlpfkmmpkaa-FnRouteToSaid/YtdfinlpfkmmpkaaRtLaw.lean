import Derived.Test.YtdfinlpfkmmpkaaProg
import Derived.Test.YtdfinlpfkmmpkaaLawLib
namespace Go.Proofs.Ytdfinlpfkmmpkaa
open Go.RowKit

theorem rtV_lc {xss : List (List Int)} {fr to : Int} (h : lcB xss to = false) : rtV xss fr to = [] := by unfold rtV rtB nsB; rw [h]; rfl
theorem rtV_fr {xss : List (List Int)} {fr to : Int} (h : inB fr 0 ((xss.length : Int) - 1) = false) : rtV xss fr to = [] := by unfold rtV rtB nsB; rw [h]; simp
theorem RtStep.congr {xss : List (List Int)} {c c' : Nat → Int} {L : List Int} (h : RtStep xss c L) (e : ∀ i, i < xss.length → c' i = c i) : RtStep xss c' L := fun k hk => by
  obtain ⟨i, j, h1, h2, h3, h4, h5, h6, h7⟩ := h k hk
  exact ⟨i, j, h1, h2, h3, h4, h5, by rw [e j h4]; exact h6, by rw [e j h4, e i h3]; exact h7⟩
/-- the cost from the k-th station of a route -/
def rcA (c : Nat → Int) (L : List Int) (k : Nat) : Int := c (gi L k).toNat
theorem rt_desc {xss : List (List Int)} {c : Nat → Int} {L : List Int} (h : RtStep xss c L) (k : Nat) : ∀ d, k + d + 1 < L.length → rcA c L (k + d + 1) < rcA c L k
  | 0, hd => by
    obtain ⟨i, j, h1, h2, h3, h4, h5, h6, h7⟩ := h k hd
    unfold rcA
    rw [Nat.add_zero, h2, h1]
    simp only [Int.toNat_natCast]; omega
  | d + 1, hd => by
    have ih := rt_desc h k d (by omega)
    obtain ⟨i, j, h1, h2, h3, h4, h5, h6, h7⟩ := h (k + d + 1) hd
    have : rcA c L (k + (d + 1) + 1) < rcA c L (k + d + 1) := by
      unfold rcA
      rw [show k + (d + 1) + 1 = k + d + 1 + 1 by omega, h2, h1]
      simp only [Int.toNat_natCast]; omega
    omega
theorem rt_ne {xss : List (List Int)} {c : Nat → Int} {L : List Int} (h : RtStep xss c L) {j k : Nat} (hjk : j < k) (hk : k < L.length) : gi L j ≠ gi L k := fun e => by
  have := rt_desc h j (k - j - 1) (by omega)
  rw [show j + (k - j - 1) + 1 = k by omega] at this
  unfold rcA at this
  rw [e] at this; omega
theorem rt_len {xss : List (List Int)} {c : Nat → Int} {L : List Int} {s to : Nat} (h : RtOK xss c s to L) (hb : c s ≤ 1000) : L.length ≤ 1001 := by have := h.len2; omega

set_option maxRecDepth 100000 in
set_option maxHeartbeats 8000000 in
theorem fnRouteTo_c (vc : Value) (c : List Int) (w : World) (hc : RdB w vc c) (bc : ∀ n ∈ c, (Lit.int .u8 n).wf = true) :
    Calls Try.prog 10 #[vc] w (Ret w fun v _ => v = .bool true) := by
  have hs := SH.add (p := rdP .u8 vc c) (SH.start0 w) (by simp) hc rdP_wr
  obtain ⟨ac, cc, rfl, -⟩ := hc.form
  have Bc := Lib.hid bc
  clear hc bc
  by_cases lc : c.length ≤ 1048576
  case neg =>
    go_enter Try.func10, Try.ntmps10
    go_wp2
    go_ret
    exact Ret.mk1 rfl (Below.refl _ _)
  go_enter Try.func10, Try.ntmps10
  go_wp2_with fail
  refine (DrawRouteTo_s _ c _ (by first | exact hs | exact (hs).allocP1 _ _ | exact ((hs).allocP1 _ _).allocP1 _ _ | exact (((hs).allocP1 _ _).allocP1 _ _).allocP1 _ _ | exact ((((hs).allocP1 _ _).allocP1 _ _).allocP1 _ _).allocP1 _ _ | exact (hs).drew | exact ((hs).allocP1 _ _).drew | exact (((hs).allocP1 _ _).allocP1 _ _).drew | exact ((((hs).allocP1 _ _).allocP1 _ _).allocP1 _ _).drew | exact (((((hs).allocP1 _ _).allocP1 _ _).allocP1 _ _).allocP1 _ _).drew | exact (hs).drewN _ | exact ((hs).allocP1 _ _).drewN _ | exact (((hs).allocP1 _ _).allocP1 _ _).drewN _ | exact ((((hs).allocP1 _ _).allocP1 _ _).allocP1 _ _).drewN _ | exact (((((hs).allocP1 _ _).allocP1 _ _).allocP1 _ _).allocP1 _ _).drewN _) Bc.out).mono ?_
  rintro e w1 ⟨v1, vs, xss, fr, to, rfl, hR8, hs⟩
  have hs := hs.asSS
  obtain ⟨a1, c1, rfl, -⟩ := (SH.p0 hs : RdSS _ _ _ _).rows.form
  obtain ⟨r81, r82, -⟩ := hR8
  go_wp2_with fail
  refine (SH.own hs (by repeat' (first | with_reducible exact Below.refl _ _ | with_reducible assumption | with_reducible refine below_drewN ?_ _ | with_reducible refine Below.drew ?_ | with_reducible refine Below.alloc ?_ ?_ _ | with_reducible refine Below.setCell ?_ ?_ _ | go_size)) fun hs => implRouteTo_c _ vs xss fr to _ hs.p0).mono ?_
  rintro e w2 ⟨v2, rfl, hs⟩
  go_wp2_with fail
  refine (SH.own hs (by repeat' (first | with_reducible exact Below.refl _ _ | with_reducible assumption | with_reducible refine below_drewN ?_ _ | with_reducible refine Below.drew ?_ | with_reducible refine Below.alloc ?_ ?_ _ | with_reducible refine Below.setCell ?_ ?_ _ | go_size)) fun hs => specRouteTo_c _ vs xss fr to _ hs.p1).mono ?_
  rintro e w3 ⟨v3, rfl, hs⟩
  go_wp2_with fail
  refine (SH.quiet hs (by repeat' (first | with_reducible exact Below.refl _ _ | with_reducible assumption | with_reducible refine below_drewN ?_ _ | with_reducible refine Below.drew ?_ | with_reducible refine Below.alloc ?_ ?_ _ | with_reducible refine Below.setCell ?_ ?_ _ | go_size)) fun hs => sameInts_c _ _ _ _ _ (OwnK.rd hs.p1) (OwnK.rd hs.p0)).mono ?_
  rintro e w4 ⟨rfl, hs⟩
  rw [show decide (rtV xss fr to = rtV xss fr to) = true by simp]
  have hs := hs.drop0
  have hrl := rtV_len xss fr to
  obtain ⟨a3, c3, rfl, -⟩ := (OwnK.rd hs.p0).form
  go_wp2_with fail
  refine (SH.own hs (by repeat' (first | with_reducible exact Below.refl _ _ | with_reducible assumption | with_reducible refine below_drewN ?_ _ | with_reducible refine Below.drew ?_ | with_reducible refine Below.alloc ?_ ?_ _ | with_reducible refine Below.setCell ?_ ?_ _ | go_size)) fun hs => implLeastCosts_f _ vs xss to _ hs.p1).mono ?_
  rintro e w5 ⟨v4, rfl, hs⟩
  have hlen := lcV_le xss to
  cases hb : lcB xss to
  case false =>
    obtain ⟨X, hX⟩ : ∃ X, lcV xss to = X := ⟨_, rfl⟩
    have hx0 : X = [] := by rw [← hX]; exact lcV_none hb
    rw [hX] at hs
    subst hx0
    clear hX
    obtain ⟨a2, c2, rfl, -⟩ := (OwnK.rd hs.p0).form
    obtain ⟨Y, hY⟩ : ∃ Y, rtV xss fr to = Y := ⟨_, rfl⟩
    have hy0 : Y = [] := by rw [← hY]; exact rtV_lc hb
    rw [hY] at hs ⊢
    subst hy0
    clear hY hrl
    go_wp2_with fail
    refine (SH.ret hs (by repeat' (first | with_reducible exact Below.refl _ _ | with_reducible assumption | with_reducible refine below_drewN ?_ _ | with_reducible refine Below.drew ?_ | with_reducible refine Below.alloc ?_ ?_ _ | with_reducible refine Below.setCell ?_ ?_ _ | go_size)) fun hs => alive_c _).mono ?_
    rintro e w6 ⟨v, rfl, rfl, hs⟩
    go_wp2
    go_ret
    exact Ret.mk1 rfl (SH.done (by first | exact hs | exact (hs).alloc _ | exact ((hs).alloc _).alloc _ | exact (((hs).alloc _).alloc _).alloc _ | exact ((((hs).alloc _).alloc _).alloc _).alloc _ | exact (hs).drew | exact ((hs).alloc _).drew | exact (((hs).alloc _).alloc _).drew | exact ((((hs).alloc _).alloc _).alloc _).drew | exact (((((hs).alloc _).alloc _).alloc _).alloc _).drew | exact (hs).drewN _ | exact ((hs).alloc _).drewN _ | exact (((hs).alloc _).alloc _).drewN _ | exact ((((hs).alloc _).alloc _).alloc _).drewN _ | exact (((((hs).alloc _).alloc _).alloc _).alloc _).drewN _))
  by_cases hfr : 0 ≤ fr ∧ fr < (xss.length : Int)
  case neg =>
    obtain ⟨Y, hY⟩ : ∃ Y, rtV xss fr to = Y := ⟨_, rfl⟩
    have hy0 : Y = [] := by rw [← hY]; exact rtV_fr (inB_false.2 (show ¬ (0 ≤ fr ∧ fr ≤ (xss.length : Int) - 1) by omega))
    rw [hY] at hs ⊢
    subst hy0
    clear hY hrl
    obtain ⟨a2, c2, rfl, -⟩ := (OwnK.rd hs.p0).form
    have HXL := Lib.hid (lcV_len hb)
    rw [HXL.out] at hs ⊢
    have hz2 : ((xss.length : Int) == 0) = false := by simp only [beq_eq_false_iff_ne]; omega
    clear hb hlen
    by_cases h0 : fr < 0
    · clear hfr
      go_wp2_with fail
      refine (SH.ret hs (by repeat' (first | with_reducible exact Below.refl _ _ | with_reducible assumption | with_reducible refine below_drewN ?_ _ | with_reducible refine Below.drew ?_ | with_reducible refine Below.alloc ?_ ?_ _ | with_reducible refine Below.setCell ?_ ?_ _ | go_size)) fun hs => alive_c _).mono ?_
      rintro e w6 ⟨v, rfl, rfl, hs⟩
      go_wp2
      go_ret
      exact Ret.mk1 rfl (SH.done (by first | exact hs | exact (hs).alloc _ | exact ((hs).alloc _).alloc _ | exact (((hs).alloc _).alloc _).alloc _ | exact ((((hs).alloc _).alloc _).alloc _).alloc _ | exact (hs).drew | exact ((hs).alloc _).drew | exact (((hs).alloc _).alloc _).drew | exact ((((hs).alloc _).alloc _).alloc _).drew | exact (((((hs).alloc _).alloc _).alloc _).alloc _).drew | exact (hs).drewN _ | exact ((hs).alloc _).drewN _ | exact (((hs).alloc _).alloc _).drewN _ | exact ((((hs).alloc _).alloc _).alloc _).drewN _ | exact (((((hs).alloc _).alloc _).alloc _).alloc _).drewN _))
    · have h1 : (xss.length : Int) ≤ fr := by omega
      clear hfr
      go_wp2_with fail
      refine (SH.ret hs (by repeat' (first | with_reducible exact Below.refl _ _ | with_reducible assumption | with_reducible refine below_drewN ?_ _ | with_reducible refine Below.drew ?_ | with_reducible refine Below.alloc ?_ ?_ _ | with_reducible refine Below.setCell ?_ ?_ _ | go_size)) fun hs => alive_c _).mono ?_
      rintro e w6 ⟨v, rfl, rfl, hs⟩
      go_wp2
      go_ret
      exact Ret.mk1 rfl (SH.done (by first | exact hs | exact (hs).alloc _ | exact ((hs).alloc _).alloc _ | exact (((hs).alloc _).alloc _).alloc _ | exact ((((hs).alloc _).alloc _).alloc _).alloc _ | exact (hs).drew | exact ((hs).alloc _).drew | exact (((hs).alloc _).alloc _).drew | exact ((((hs).alloc _).alloc _).alloc _).drew | exact (((((hs).alloc _).alloc _).alloc _).alloc _).drew | exact (hs).drewN _ | exact ((hs).alloc _).drewN _ | exact (((hs).alloc _).alloc _).drewN _ | exact ((((hs).alloc _).alloc _).alloc _).drewN _ | exact (((((hs).alloc _).alloc _).alloc _).alloc _).drewN _))
  obtain ⟨hv, t0, t1⟩ := lcB_true.1 hb
  have HRW : Hid (∀ i, i < xss.length → (gl xss i).length = xss.length ∧ ∀ j, j < xss.length → 0 ≤ gi (gl xss i) j ∧ gi (gl xss i) j ≤ 100) := Lib.hid (fun i hi => by
    have := cvRow_true.1 ((cvB_true.1 hv).2 i hi)
    exact ⟨this.1, this.2.2⟩)
  obtain ⟨q, rfl⟩ : ∃ q : Nat, to = (q : Int) := ⟨to.toNat, by omega⟩
  have hq : q < xss.length := by omega
  have HLS : Hid (Least (tt xss) xss.length q (gi (lcV xss (q : Int)))) := Lib.hid (by have := lcV_least hb; simpa using this)
  have HXB := Lib.hid (lcV_bd hb)
  have HXL := Lib.hid (lcV_len hb)
  obtain ⟨f, rfl⟩ : ∃ f : Nat, fr = (f : Int) := ⟨fr.toNat, by omega⟩
  have hf : f < xss.length := by omega
  have HGI : Hid (∀ i, i < xss.length → gi (lcV xss (q : Int)) i = lcC xss q i) := Lib.hid (fun i hi => by have := lcV_gi hb hi; simpa using this)
  have HNB : Hid (nsB xss (f : Int) (q : Int) = true) := Lib.hid (nsB_true.2 ⟨hb, by omega, by omega⟩)
  have HLC : Hid (Least (tt xss) xss.length q (lcC xss q)) := Lib.hid (by have := lcC_least hb; simpa using this)
  clear hb hv t0 t1 hlen hfr
  generalize lcV xss (q : Int) = X at *
  obtain ⟨a2, c2, rfl, -⟩ := (OwnK.rd hs.p0).form
  rw [HXL.out] at hs ⊢
  obtain ⟨gx, rfl⟩ := own_some hs.p0 (show 0 < xss.length by omega)
  have hz2 : ((xss.length : Int) == 0) = false := by simp only [beq_eq_false_iff_ne]; omega
  have f1 : (f : Int) < (xss.length : Int) := by omega
  have f0 : (0 : Int) ≤ (f : Int) := by omega
  have hcf := own_cell hs.p0 hf
  by_cases h0 : gi X f < 0
  · obtain ⟨Y, hY⟩ : ∃ Y, rtV xss (f : Int) (q : Int) = Y := ⟨_, rfl⟩
    have hy0 : Y = [] := by
      rw [← hY]
      have : rtB xss (f : Int) (q : Int) = false := by
        cases hx : rtB xss (f : Int) (q : Int)
        · rfl
        · have h1 := (rtB_true.1 hx).2
          have h2 := HGI.out f hf
          simp at h1; omega
      unfold rtV; rw [this]; rfl
    rw [hY] at hs ⊢
    subst hy0
    clear hY hrl
    go_wp2
    go_ret
    exact Ret.mk1 rfl (SH.done (by first | exact hs | exact (hs).alloc _ | exact ((hs).alloc _).alloc _ | exact (((hs).alloc _).alloc _).alloc _ | exact ((((hs).alloc _).alloc _).alloc _).alloc _ | exact (hs).drew | exact ((hs).alloc _).drew | exact (((hs).alloc _).alloc _).drew | exact ((((hs).alloc _).alloc _).alloc _).drew | exact (((((hs).alloc _).alloc _).alloc _).alloc _).drew | exact (hs).drewN _ | exact ((hs).alloc _).drewN _ | exact (((hs).alloc _).alloc _).drewN _ | exact ((((hs).alloc _).alloc _).alloc _).drewN _ | exact (((((hs).alloc _).alloc _).alloc _).alloc _).drewN _))
  have hok : RtOK xss (gi X) f q (rtV xss (f : Int) (q : Int)) := by
    have h1 : 0 ≤ lcC xss q f := by rw [← HGI.out f hf]; omega
    have h2 : rtB xss (f : Int) (q : Int) = true := rtB_true.2 ⟨HNB.out, h1⟩
    have h3 := rtK_ok HLC.out (lcC xss q f).toNat f hf h1 (by omega)
    unfold rtV; rw [if_pos h2]
    exact ⟨h3.len, by rw [HGI.out f hf]; exact h3.len2, h3.first, h3.last, h3.step.congr HGI.out⟩
  generalize rtV xss (f : Int) (q : Int) = R at *
  have HST := Lib.hid hok.step
  have HLast := Lib.hid hok.last
  have HFirst := Lib.hid hok.first
  have hr0 := hok.len
  obtain ⟨gr, rfl⟩ := own_some hs.p1 hr0
  have HC0 : Hid (rcA (gi X) R 0 = gi X f) := Lib.hid (by unfold rcA; rw [hok.first]; simp)
  have hxf := HXB.out f hf
  clear hok
  have hz3 : ((R.length : Int) == 0) = false := by simp only [beq_eq_false_iff_ne]; omega
  obtain ⟨bt, ot, -, -, rfl, -, -, -⟩ := rowAt (SH.p2 hs : RdSS _ _ _ _) hf
  go_wp2
  clear hz2 hz3
  go_loopw [8, 9] (fun sm i wr => ∃ k : Nat, k + 1 ≤ R.length ∧ i = .int .i64 k ∧ sm = .int .i64 (gi X f - rcA (gi X) R k) ∧ -1 ≤ rcA (gi X) R k ∧ rcA (gi X) R k ≤ 1000 ∧ SH none w wr [ownP .i64 3 (.slice (some ⟨gx, 0, none⟩) xss.length c2) X, ownP .i64 3 (.slice (some ⟨gr, 0, none⟩) R.length c3) R, rdSSP (.slice (some ⟨bt, ot, none⟩) xss.length c1) vs xss, rdP .u8 (.slice ac c.length cc) c]) (fun _ i _ => R.length - (intOf i).toNat)
  case atStart => exact ⟨0, by omega, rfl, by rw [HC0.out, Int.sub_self], by rw [HC0.out]; omega, by rw [HC0.out]; omega, hs⟩
  case round =>
    clear hs
    obtain ⟨k, hk, rfl, rfl, hlo, hhi, hs⟩ := hrel
    by_cases hlt : k + 1 < R.length
    · obtain ⟨i, j, hi, hj, hin, hjn, htp, hcj0, hsum⟩ := HST.out k hlt
      have hgk := own_cell hs.p1 (show k < R.length by omega)
      have hgk1 := own_cell hs.p1 hlt
      have HGK : Hid (_ = _) := Lib.hid hgk
      rw [hi] at hgk
      rw [hj] at hgk1
      obtain ⟨bt2, ot2, am, cm, e4, -, hc0, hrm⟩ := rowAt (SH.p2 hs : RdSS _ _ _ _) hin
      cases e4
      have hrl2 := (HRW.out i hin).1
      rw [hrl2] at hc0 hrm
      clear hrl2
      obtain ⟨br, ob, rfl, hrc⟩ := hrm.at_ hjn
      have hRk : rcA (gi X) R k = gi X i := by unfold rcA; rw [hi]; simp
      have hRk1 : rcA (gi X) R (k + 1) = gi X j := by unfold rcA; rw [hj]; simp
      have htt : tt xss i j = gi (gl xss i) j := rfl
      rw [htt] at htp hsum
      have hxi := HXB.out i hin
      have hxj := HXB.out j hjn
      have HNEW : Hid (gi X f - rcA (gi X) R k + gi (gl xss i) j = gi X f - rcA (gi X) R (k + 1)) := Lib.hid (by rw [hRk, hRk1]; omega)
      have HB2 : Hid (-1 ≤ rcA (gi X) R (k + 1) ∧ rcA (gi X) R (k + 1) ≤ 1000) := Lib.hid (by rw [hRk1]; omega)
      have htb : gi (gl xss i) j ≤ 100 := ((HRW.out i hin).2 j hjn).2
      obtain ⟨tv, htv⟩ : ∃ x, gi (gl xss i) j = x := ⟨_, rfl⟩
      rw [htv] at hrc htp htb hsum
      obtain ⟨sv, hsv⟩ : ∃ x, gi X f - rcA (gi X) R k = x := ⟨_, rfl⟩
      have hsvb : -1000 ≤ sv ∧ sv ≤ 1001 := by omega
      obtain ⟨hsv0, hsv1⟩ := hsvb
      rw [htv, hsv] at HNEW
      rw [hsv]
      have k0 : (0 : Int) ≤ (k : Int) := by omega
      have k1 : (k : Int) < (R.length : Int) := by omega
      have k2 : (k : Int) + 1 < (R.length : Int) := by omega
      have i0 : (0 : Int) ≤ (i : Int) := by omega
      have i1 : (i : Int) < (xss.length : Int) := by omega
      have j0 : (0 : Int) ≤ (j : Int) := by omega
      have j1 : (j : Int) < (xss.length : Int) := by omega
      clear hi hj hsum hRk hRk1 htt htv hsv hrm hlo hhi
      go_wp2
      go_quiet (fail)
      have hs := hs.drewN nq
      generalize wr.drewN nq = W at *
      clear hgk hgk1 hc0 hrc
      go_wp2
      try rw [decide_eq_true (show (k : Int) + 1 < (R.length : Int) by omega)]
      go_loopw [10] (fun i wr => ∃ m : Nat, m ≤ k ∧ i = .int .i64 m ∧ SH none w wr [ownP .i64 3 (.slice (some ⟨gx, 0, none⟩) xss.length c2) X, ownP .i64 3 (.slice (some ⟨gr, 0, none⟩) R.length c3) R, rdSSP (.slice (some ⟨bt, ot, none⟩) xss.length c1) vs xss, rdP .u8 (.slice ac c.length cc) c]) (fun i _ => k - (intOf i).toNat)
      case atStart => exact ⟨0, Nat.zero_le _, rfl, hs⟩
      case round =>
        clear hs
        obtain ⟨m, hm, rfl, hs⟩ := hrel
        by_cases hml : m < k
        · have hgm := own_cell hs.p1 (show m < R.length by omega)
          have hgk := own_cell hs.p1 (show k < R.length by omega)
          have hne : (gi R m == gi R k) = false := by have := rt_ne HST.out hml (by omega); simp [this]
          have m0 : (0 : Int) ≤ (m : Int) := by omega
          have m1 : (m : Int) < (R.length : Int) := by omega
          go_wp2
          go_quiet (fail)
          go_wp2
          go_roundw
          case rel => exact ⟨m + 1, hml, by go_num, hs.drewN _⟩
          case measure => simp [intOf]; omega
        · obtain rfl : m = k := by omega
          go_wp2
          go_roundw
          case rel => exact ⟨m + 1, by omega, by go_num, intv HNEW.out, HB2.out.1, HB2.out.2, hs⟩
          case measure => simp [intOf]; omega
    · obtain ⟨r, hr⟩ : ∃ r, R.length = r + 1 := ⟨R.length - 1, by omega⟩
      obtain rfl : k = r := by omega
      have hcf := own_cell hs.p0 hf
      have hg0 := own_cell hs.p1 hr0
      have hgl := own_cell hs.p1 (show k < R.length by omega)
      rw [HFirst.out] at hg0
      have hlast := HLast.out
      rw [hr, Nat.add_sub_cancel] at hlast
      rw [hlast] at hgl
      have hRl : rcA (gi X) R k = 0 := by unfold rcA; rw [hlast]; simp only [Int.toNat_natCast]; exact HLS.out.zero
      rw [hRl, Int.sub_zero, hr]
      have HR := Lib.hid hr
      have kb : k ≤ 1001 := by omega
      clear hlast hRl hr hlt hk
      have k0 : (0 : Int) ≤ (k : Int) := by omega
      have k1 : (k : Int) < (k : Int) + 1 := by omega
      have e1 : (gi X f == gi X f) = true := by simp
      go_wp2
      go_ret
      exact Ret.mk1 rfl (SH.done (by first | exact hs | exact (hs).alloc _ | exact ((hs).alloc _).alloc _ | exact (((hs).alloc _).alloc _).alloc _ | exact ((((hs).alloc _).alloc _).alloc _).alloc _ | exact (hs).drew | exact ((hs).alloc _).drew | exact (((hs).alloc _).alloc _).drew | exact ((((hs).alloc _).alloc _).alloc _).drew | exact (((((hs).alloc _).alloc _).alloc _).alloc _).drew | exact (hs).drewN _ | exact ((hs).alloc _).drewN _ | exact (((hs).alloc _).alloc _).drewN _ | exact ((((hs).alloc _).alloc _).alloc _).drewN _ | exact (((((hs).alloc _).alloc _).alloc _).alloc _).drewN _))
end Go.Proofs.Ytdfinlpfkmmpkaa
