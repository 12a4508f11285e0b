import Derived.Test.YtdfinlpfkmmpkaaProg
import Derived.Test.YtdfinlpfkmmpkaaLawLib
namespace Go.Proofs.Ytdfinlpfkmmpkaa
open Go.RowKit

theorem nsV_bd {xss : List (List Int)} {f q : Nat} (hb : lcB xss (q : Int) = true) (hf : f < xss.length) : nsV xss (f : Int) (q : Int) = naV xss (gi (lcV xss (q : Int))) f := by
  have h1 : nsB xss (f : Int) (q : Int) = true := nsB_true.2 ⟨hb, by omega, by omega⟩
  unfold nsV; rw [if_pos h1]
  exact (naV_congr (fun i hi => by have := lcV_gi hb hi; simpa using this) hf).symm
theorem nsV_lc {xss : List (List Int)} {fr to : Int} (h : lcB xss to = false) : nsV xss fr to = -1 := by unfold nsV nsB; rw [h]; rfl
theorem nsV_fr {xss : List (List Int)} {fr to : Int} (h : inB fr 0 ((xss.length : Int) - 1) = false) : nsV xss fr to = -1 := by unfold nsV nsB; rw [h]; simp

set_option maxRecDepth 100000 in
set_option maxHeartbeats 8000000 in
theorem fnNextStation_c (vc : Value) (c : List Int) (w : World) (hc : RdB w vc c) (bc : ∀ n ∈ c, (Lit.int .u8 n).wf = true) :
    Calls Try.prog 8 #[vc] w (Ret w fun v _ => v = .bool true) := by
  have hs := SH.add (p := rdP .u8 vc c) (SH.start0 w) (by simp) hc rdP_wr
  obtain ⟨ac, cc, rfl, -⟩ := hc.form
  have Bc := Lib.hid bc
  clear hc bc
  by_cases lc : c.length ≤ 1048576
  case neg =>
    go_enter Try.func8, Try.ntmps8
    go_wp2
    go_ret
    exact Ret.mk1 rfl (Below.refl _ _)
  go_enter Try.func8, Try.ntmps8
  go_wp2_with fail
  refine (DrawNextStation_s _ c _ (by first | exact hs | exact (hs).allocP1 _ _ | exact ((hs).allocP1 _ _).allocP1 _ _ | exact (((hs).allocP1 _ _).allocP1 _ _).allocP1 _ _ | exact ((((hs).allocP1 _ _).allocP1 _ _).allocP1 _ _).allocP1 _ _ | exact (hs).drew | exact ((hs).allocP1 _ _).drew | exact (((hs).allocP1 _ _).allocP1 _ _).drew | exact ((((hs).allocP1 _ _).allocP1 _ _).allocP1 _ _).drew | exact (((((hs).allocP1 _ _).allocP1 _ _).allocP1 _ _).allocP1 _ _).drew | exact (hs).drewN _ | exact ((hs).allocP1 _ _).drewN _ | exact (((hs).allocP1 _ _).allocP1 _ _).drewN _ | exact ((((hs).allocP1 _ _).allocP1 _ _).allocP1 _ _).drewN _ | exact (((((hs).allocP1 _ _).allocP1 _ _).allocP1 _ _).allocP1 _ _).drewN _) Bc.out).mono ?_
  rintro e w1 ⟨v1, vs, xss, fr, to, rfl, hR8, hs⟩
  have hs := hs.asSS
  obtain ⟨a1, c1, rfl, -⟩ := (SH.p0 hs : RdSS _ _ _ _).rows.form
  obtain ⟨r81, r82, -⟩ := hR8
  go_wp2_with fail
  refine (SH.ret hs (by repeat' (first | with_reducible exact Below.refl _ _ | with_reducible assumption | with_reducible refine below_drewN ?_ _ | with_reducible refine Below.drew ?_ | with_reducible refine Below.alloc ?_ ?_ _ | with_reducible refine Below.setCell ?_ ?_ _ | go_size)) fun hs => implNextStation_c _ vs xss fr to _ hs.p0).mono ?_
  rintro e w2 ⟨v, rfl, rfl, hs⟩
  go_wp2_with fail
  refine (SH.ret hs (by repeat' (first | with_reducible exact Below.refl _ _ | with_reducible assumption | with_reducible refine below_drewN ?_ _ | with_reducible refine Below.drew ?_ | with_reducible refine Below.alloc ?_ ?_ _ | with_reducible refine Below.setCell ?_ ?_ _ | go_size)) fun hs => specNextStation_c _ vs xss fr to _ hs.p0).mono ?_
  rintro e w3 ⟨v, rfl, rfl, hs⟩
  have e0 : (nsV xss fr to != nsV xss fr to) = false := bne_self_eq_false _
  go_wp2_with fail
  refine (SH.own hs (by repeat' (first | with_reducible exact Below.refl _ _ | with_reducible assumption | with_reducible refine below_drewN ?_ _ | with_reducible refine Below.drew ?_ | with_reducible refine Below.alloc ?_ ?_ _ | with_reducible refine Below.setCell ?_ ?_ _ | go_size)) fun hs => implLeastCosts_f _ vs xss to _ hs.p0).mono ?_
  rintro e w4 ⟨v2, rfl, hs⟩
  clear e0
  have hlen := lcV_le xss to
  cases hb : lcB xss to
  case false =>
    have HZ := Lib.hid (nsV_lc (fr := fr) hb)
    obtain ⟨X, hX⟩ : ∃ X, lcV xss to = X := ⟨_, rfl⟩
    have hx0 : X = [] := by rw [← hX]; exact lcV_none hb
    rw [hX] at hs
    subst hx0
    clear hX
    obtain ⟨a2, c2, rfl, -⟩ := (OwnK.rd hs.p0).form
    rw [HZ.out]
    go_wp2_with fail
    refine (SH.ret hs (by repeat' (first | with_reducible exact Below.refl _ _ | with_reducible assumption | with_reducible refine below_drewN ?_ _ | with_reducible refine Below.drew ?_ | with_reducible refine Below.alloc ?_ ?_ _ | with_reducible refine Below.setCell ?_ ?_ _ | go_size)) fun hs => alive_c _).mono ?_
    rintro e w5 ⟨v, rfl, rfl, hs⟩
    go_wp2
    go_ret
    exact Ret.mk1 rfl (SH.done (by first | exact hs | exact (hs).alloc _ | exact ((hs).alloc _).alloc _ | exact (((hs).alloc _).alloc _).alloc _ | exact ((((hs).alloc _).alloc _).alloc _).alloc _ | exact (hs).drew | exact ((hs).alloc _).drew | exact (((hs).alloc _).alloc _).drew | exact ((((hs).alloc _).alloc _).alloc _).drew | exact (((((hs).alloc _).alloc _).alloc _).alloc _).drew | exact (hs).drewN _ | exact ((hs).alloc _).drewN _ | exact (((hs).alloc _).alloc _).drewN _ | exact ((((hs).alloc _).alloc _).alloc _).drewN _ | exact (((((hs).alloc _).alloc _).alloc _).alloc _).drewN _))
  by_cases hfr : 0 ≤ fr ∧ fr < (xss.length : Int)
  case neg =>
    have HZ := Lib.hid (nsV_fr (fr := fr) (to := to) (inB_false.2 (show ¬ (0 ≤ fr ∧ fr ≤ (xss.length : Int) - 1) by omega)))
    obtain ⟨a2, c2, rfl, -⟩ := (OwnK.rd hs.p0).form
    have HXL := Lib.hid (lcV_len hb)
    rw [HXL.out] at hs ⊢
    have hz2 : ((xss.length : Int) == 0) = false := by simp only [beq_eq_false_iff_ne]; omega
    rw [HZ.out]
    clear hb hlen
    by_cases h0 : fr < 0
    · clear hfr
      go_wp2_with fail
      refine (SH.ret hs (by repeat' (first | with_reducible exact Below.refl _ _ | with_reducible assumption | with_reducible refine below_drewN ?_ _ | with_reducible refine Below.drew ?_ | with_reducible refine Below.alloc ?_ ?_ _ | with_reducible refine Below.setCell ?_ ?_ _ | go_size)) fun hs => alive_c _).mono ?_
      rintro e w5 ⟨v, rfl, rfl, hs⟩
      go_wp2
      go_ret
      exact Ret.mk1 rfl (SH.done (by first | exact hs | exact (hs).alloc _ | exact ((hs).alloc _).alloc _ | exact (((hs).alloc _).alloc _).alloc _ | exact ((((hs).alloc _).alloc _).alloc _).alloc _ | exact (hs).drew | exact ((hs).alloc _).drew | exact (((hs).alloc _).alloc _).drew | exact ((((hs).alloc _).alloc _).alloc _).drew | exact (((((hs).alloc _).alloc _).alloc _).alloc _).drew | exact (hs).drewN _ | exact ((hs).alloc _).drewN _ | exact (((hs).alloc _).alloc _).drewN _ | exact ((((hs).alloc _).alloc _).alloc _).drewN _ | exact (((((hs).alloc _).alloc _).alloc _).alloc _).drewN _))
    · have h1 : (xss.length : Int) ≤ fr := by omega
      clear hfr
      go_wp2_with fail
      refine (SH.ret hs (by repeat' (first | with_reducible exact Below.refl _ _ | with_reducible assumption | with_reducible refine below_drewN ?_ _ | with_reducible refine Below.drew ?_ | with_reducible refine Below.alloc ?_ ?_ _ | with_reducible refine Below.setCell ?_ ?_ _ | go_size)) fun hs => alive_c _).mono ?_
      rintro e w5 ⟨v, rfl, rfl, hs⟩
      go_wp2
      go_ret
      exact Ret.mk1 rfl (SH.done (by first | exact hs | exact (hs).alloc _ | exact ((hs).alloc _).alloc _ | exact (((hs).alloc _).alloc _).alloc _ | exact ((((hs).alloc _).alloc _).alloc _).alloc _ | exact (hs).drew | exact ((hs).alloc _).drew | exact (((hs).alloc _).alloc _).drew | exact ((((hs).alloc _).alloc _).alloc _).drew | exact (((((hs).alloc _).alloc _).alloc _).alloc _).drew | exact (hs).drewN _ | exact ((hs).alloc _).drewN _ | exact (((hs).alloc _).alloc _).drewN _ | exact ((((hs).alloc _).alloc _).alloc _).drewN _ | exact (((((hs).alloc _).alloc _).alloc _).alloc _).drewN _))
  obtain ⟨hv, t0, t1⟩ := lcB_true.1 hb
  have HRW : Hid (∀ i, i < xss.length → (gl xss i).length = xss.length ∧ ∀ j, j < xss.length → 0 ≤ gi (gl xss i) j ∧ gi (gl xss i) j ≤ 100) := Lib.hid (fun i hi => by
    have := cvRow_true.1 ((cvB_true.1 hv).2 i hi)
    exact ⟨this.1, this.2.2⟩)
  obtain ⟨q, rfl⟩ : ∃ q : Nat, to = (q : Int) := ⟨to.toNat, by omega⟩
  have hq : q < xss.length := by omega
  have HLS : Hid (Least (tt xss) xss.length q (gi (lcV xss (q : Int)))) := Lib.hid (by have := lcV_least hb; simpa using this)
  have HXB := Lib.hid (lcV_bd hb)
  have HXL := Lib.hid (lcV_len hb)
  obtain ⟨f, rfl⟩ : ∃ f : Nat, fr = (f : Int) := ⟨fr.toNat, by omega⟩
  have hf : f < xss.length := by omega
  have HNS := Lib.hid (nsV_bd hb hf)
  rw [HNS.out]
  clear hb hv t0 t1 hlen hfr
  generalize lcV xss (q : Int) = X at *
  obtain ⟨a2, c2, rfl, -⟩ := (OwnK.rd hs.p0).form
  rw [HXL.out] at hs ⊢
  obtain ⟨gx, rfl⟩ := own_some hs.p0 (show 0 < xss.length by omega)
  have hz2 : ((xss.length : Int) == 0) = false := by simp only [beq_eq_false_iff_ne]; omega
  have f1 : (f : Int) < (xss.length : Int) := by omega
  have f0 : (0 : Int) ≤ (f : Int) := by omega
  have hcf := own_cell hs.p0 hf
  by_cases he : f = q
  · have HZ : Hid (naV xss (gi X) f = -1) := Lib.hid (by rw [he]; exact naV_to HLS.out)
    have e2 : ((f : Int) == (q : Int)) = true := by simp [he]
    clear he
    rw [HZ.out]
    go_wp2
    go_ret
    exact Ret.mk1 rfl (SH.done (by first | exact hs | exact (hs).alloc _ | exact ((hs).alloc _).alloc _ | exact (((hs).alloc _).alloc _).alloc _ | exact ((((hs).alloc _).alloc _).alloc _).alloc _ | exact (hs).drew | exact ((hs).alloc _).drew | exact (((hs).alloc _).alloc _).drew | exact ((((hs).alloc _).alloc _).alloc _).drew | exact (((((hs).alloc _).alloc _).alloc _).alloc _).drew | exact (hs).drewN _ | exact ((hs).alloc _).drewN _ | exact (((hs).alloc _).alloc _).drewN _ | exact ((((hs).alloc _).alloc _).alloc _).drewN _ | exact (((((hs).alloc _).alloc _).alloc _).alloc _).drewN _))
  have e2 : ((f : Int) == (q : Int)) = false := by simp; omega
  have HE := Lib.hid he
  clear he
  by_cases h0 : gi X f < 0
  · have HZ : Hid (naV xss (gi X) f = -1) := Lib.hid (naV_un HLS.out h0)
    rw [HZ.out]
    go_wp2
    go_ret
    exact Ret.mk1 rfl (SH.done (by first | exact hs | exact (hs).alloc _ | exact ((hs).alloc _).alloc _ | exact (((hs).alloc _).alloc _).alloc _ | exact ((((hs).alloc _).alloc _).alloc _).alloc _ | exact (hs).drew | exact ((hs).alloc _).drew | exact (((hs).alloc _).alloc _).drew | exact ((((hs).alloc _).alloc _).alloc _).drew | exact (((((hs).alloc _).alloc _).alloc _).alloc _).drew | exact (hs).drewN _ | exact ((hs).alloc _).drewN _ | exact (((hs).alloc _).alloc _).drewN _ | exact ((((hs).alloc _).alloc _).alloc _).drewN _ | exact (((((hs).alloc _).alloc _).alloc _).alloc _).drewN _))
  obtain ⟨j, hj, hjn, hnb⟩ := naV_ex HLS.out hf HE.out (Int.not_lt.1 h0)
  obtain ⟨b1, b2, b3⟩ := naB_true.1 hnb
  rw [hj]
  have HB3 := Lib.hid b3
  have HB1 := Lib.hid b1
  obtain ⟨bt, ot, am, cm, e4, -, hc0, hrm⟩ := rowAt (SH.p1 hs : RdSS _ _ _ _) hf
  cases e4
  have hrl := (HRW.out f hf).1
  rw [hrl] at hc0 hrm
  clear hrl
  obtain ⟨br, ob, rfl, hrc⟩ := hrm.at_ hjn
  have hcj := own_cell hs.p0 hjn
  have hl1 := ((HRW.out f hf).2 j hjn).2
  have hxj := HXB.out j hjn
  have hl0 : 0 < gi (gl xss f) j := b1
  have hsum : gi X j + gi (gl xss f) j = gi X f := by have : tt xss f j = gi (gl xss f) j := rfl; omega
  obtain ⟨tv, htv⟩ : ∃ x, gi (gl xss f) j = x := ⟨_, rfl⟩
  obtain ⟨cj, hcjv⟩ : ∃ x, gi X j = x := ⟨_, rfl⟩
  obtain ⟨cf, hcfv⟩ : ∃ x, gi X f = x := ⟨_, rfl⟩
  rw [htv] at hrc hl0 hl1 hsum
  rw [hcjv] at hcj hxj b2 hsum
  rw [hcfv] at hcf hsum h0
  have e7 : (cj + tv == cf) = true := by simp [hsum]
  have d0 : decide (0 < tv) = true := decide_eq_true hl0
  have j1 : (j : Int) < (xss.length : Int) := by omega
  have j0 : (0 : Int) ≤ (j : Int) := by omega
  clear hsum hnb hj b1 b3 hrm htv hcjv hcfv
  go_wp2
  go_quiet (fail)
  go_wp2
  go_ret
  exact Ret.mk1 rfl (SH.done (hs.drewN _))
end Go.Proofs.Ytdfinlpfkmmpkaa
