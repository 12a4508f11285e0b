import Derived.Test.YtfllfbmdnokmnaaProg
import Derived.Test.YtfllfbmdnokmnaaSym
import Derived.Test.YtfllfbmdnokmnaaInts
import Derived.Test.YtfllfbmdnokmnaaSteer
import Derived.Test.YtfllfbmdnokmnaaDrawSteer
namespace Go.Proofs.Ytfllfbmdnokmnaa
open Go.RowKit

theorem stB_mk {o sh l : Int} (a1 : -1000000 ≤ o) (a2 : o ≤ 1000000) (b1 : 0 ≤ sh) (b2 : sh ≤ 10) (c1 : 1 ≤ l) (c2 : l ≤ 1000000) : stB o sh l = true := by
  simp only [stB, Bool.and_eq_true, inB_true]; omega
theorem tq_neg (o sh : Int) : tq (-o) sh = -tq o sh := by unfold tq; exact Int.neg_tdiv ..
theorem st_neg {o sh l : Int} (hl : 1 ≤ l) : stP (-o) sh l = -stP o sh l := by
  unfold stP
  rw [tq_neg]
  unfold clipI cmpI
  by_cases h : tq o sh = 0
  · have hz : max (-l) (min l 0) = 0 := by omega
    simp only [h, Int.neg_zero, hz, if_true]
    rcases Int.lt_trichotomy o 0 with q | q | q
    · rw [if_neg (show ¬ -o < 0 by omega), if_pos (show 0 < -o by omega), if_pos q]; rfl
    · subst q; rfl
    · rw [if_pos (show -o < 0 by omega), if_neg (show ¬ o < 0 by omega), if_pos q]
  · rw [if_neg (show ¬ max (-l) (min l (-tq o sh)) = 0 by omega), if_neg (show ¬ max (-l) (min l (tq o sh)) = 0 by omega)]; omega
theorem st_pos {o sh l : Int} (h0 : 0 ≤ sh) (h1 : sh ≤ 10) (hl : 1 ≤ l) (ho : 0 ≤ o) : 0 ≤ stP o sh l ∧ stP o sh l ≤ l ∧ stP o sh l ≤ o ∧ (o ≠ 0 → 1 ≤ stP o sh l) := by
  have hb := (tq_bd (o := o) h0 h1).1 ho
  unfold stP
  unfold clipI cmpI
  by_cases h : tq o sh = 0
  · have hz : max (-l) (min l 0) = 0 := by omega
    simp only [h, hz, if_true]
    rcases Int.lt_trichotomy o 0 with q | q | q
    · omega
    · subst q; simp; omega
    · rw [if_neg (show ¬ o < 0 by omega), if_pos q]; omega
  · rw [if_neg (show ¬ max (-l) (min l (tq o sh)) = 0 by omega)]; omega
theorem tmod_bd (o : Int) : -499 ≤ o.tmod 500 ∧ o.tmod 500 ≤ 499 := by
  have h1 := Int.tmod_lt_of_pos o (show (0 : Int) < 500 by decide)
  have h2 := Int.tmod_lt_of_pos (-o) (show (0 : Int) < 500 by decide)
  rw [Int.neg_tmod] at h2
  omega
theorem st_bd {o sh l : Int} (h0 : 0 ≤ sh) (h1 : sh ≤ 10) (hl : 1 ≤ l) : -l ≤ stP o sh l ∧ stP o sh l ≤ l ∧ (0 ≤ o → 0 ≤ stP o sh l ∧ stP o sh l ≤ o) ∧ (o ≤ 0 → o ≤ stP o sh l ∧ stP o sh l ≤ 0) ∧ (stP o sh l = 0 ↔ o = 0) := by
  rcases Int.le_total 0 o with ho | ho
  · have := st_pos h0 h1 hl ho; omega
  · have := st_pos h0 h1 hl (show 0 ≤ -o by omega)
    rw [st_neg hl] at this; omega

theorem mul_up {x y : Int} (h0 : -1000000 ≤ x) (h1 : x ≤ 1000000) (h2 : -1000000 ≤ y) (h3 : y ≤ 1000000) : x * y ≤ 1000000000000 := by
  have e1 := Int.mul_nonneg (show 0 ≤ 1000000 - x by omega) (show 0 ≤ 1000000 + y by omega)
  have e2 := Int.mul_nonneg (show 0 ≤ 1000000 + x by omega) (show 0 ≤ 1000000 - y by omega)
  simp only [Int.sub_mul, Int.mul_sub, Int.add_mul, Int.mul_add] at e1 e2
  omega

set_option maxRecDepth 100000 in
set_option maxHeartbeats 4000000 in
theorem fnSteerClock_c (vc : Value) (c : List Int) (w : World) (hc : RdB w vc c) (bc : ∀ n ∈ c, (Lit.int .u8 n).wf = true) :
    Calls Try.prog 13 #[vc] w (Ret w fun v _ => v = .bool true) := by
  have hs := SH.add (p := rdP .u8 vc c) (SH.start0 w) (by simp) hc rdP_wr
  obtain ⟨ac, cc, rfl, -⟩ := hc.form
  have Bc := Lib.hid bc
  clear hc bc
  by_cases lc : c.length ≤ 1048576
  case neg =>
    go_enter Try.func13, Try.ntmps13
    go_wp2
    go_ret
    exact Ret.mk1 rfl (Below.refl _ _)
  go_enter Try.func13, Try.ntmps13
  go_wp2_with fail
  refine (DrawSteerClock_s _ c _ (by first | exact hs | exact (hs).allocP1 _ _ | exact ((hs).allocP1 _ _).allocP1 _ _ | exact (((hs).allocP1 _ _).allocP1 _ _).allocP1 _ _ | exact ((((hs).allocP1 _ _).allocP1 _ _).allocP1 _ _).allocP1 _ _ | exact (hs).drew | exact ((hs).allocP1 _ _).drew | exact (((hs).allocP1 _ _).allocP1 _ _).drew | exact ((((hs).allocP1 _ _).allocP1 _ _).allocP1 _ _).drew | exact (((((hs).allocP1 _ _).allocP1 _ _).allocP1 _ _).allocP1 _ _).drew | exact (hs).drewN _ | exact ((hs).allocP1 _ _).drewN _ | exact (((hs).allocP1 _ _).allocP1 _ _).drewN _ | exact ((((hs).allocP1 _ _).allocP1 _ _).allocP1 _ _).drewN _ | exact (((((hs).allocP1 _ _).allocP1 _ _).allocP1 _ _).allocP1 _ _).drewN _) Bc.out).mono ?_
  rintro e w1 ⟨o, sh, l, rfl, ⟨o0, o1⟩, ⟨s0, s1⟩, ⟨l0, l1⟩, hs⟩
  go_wp2_with fail
  refine (SH.quiet hs (by repeat' (first | with_reducible exact Below.refl _ _ | with_reducible assumption | with_reducible refine below_drewN ?_ _ | with_reducible refine Below.drew ?_ | with_reducible refine Below.alloc ?_ ?_ _ | with_reducible refine Below.setCell ?_ ?_ _ | go_size)) fun hs => implSteerClock_c o sh l _).mono ?_
  rintro e w2 ⟨rfl, hs⟩
  have e1 : (stV o sh l != stV o sh l) = false := bne_self_eq_false _
  go_wp2_with fail
  refine (SH.quiet hs (by repeat' (first | with_reducible exact Below.refl _ _ | with_reducible assumption | with_reducible refine below_drewN ?_ _ | with_reducible refine Below.drew ?_ | with_reducible refine Below.alloc ?_ ?_ _ | with_reducible refine Below.setCell ?_ ?_ _ | go_size)) fun hs => specSteerClock_c o sh l _).mono ?_
  rintro e w3 ⟨rfl, hs⟩
  by_cases t0 : 1000000 < max o (-o)
  · have hv : stV o sh l = 0 := stV_false (by cases h : stB o sh l; rfl; simp only [stB, Bool.and_eq_true, inB_true] at h; omega)
    go_wp2_with fail
    refine (SH.quiet hs (by repeat' (first | with_reducible exact Below.refl _ _ | with_reducible assumption | with_reducible refine below_drewN ?_ _ | with_reducible refine Below.drew ?_ | with_reducible refine Below.alloc ?_ ?_ _ | with_reducible refine Below.setCell ?_ ?_ _ | go_size)) fun hs => abs_c o _ (by omega) (by omega)).mono ?_
    rintro e w4 ⟨rfl, hs⟩
    go_wp2_with fail
    refine (SH.ret hs (by repeat' (first | with_reducible exact Below.refl _ _ | with_reducible assumption | with_reducible refine below_drewN ?_ _ | with_reducible refine Below.drew ?_ | with_reducible refine Below.alloc ?_ ?_ _ | with_reducible refine Below.setCell ?_ ?_ _ | go_size)) fun hs => alive_c _).mono ?_
    rintro e w5 ⟨v, rfl, rfl, hs⟩
    go_wp2
    go_ret
    exact Ret.mk1 rfl (SH.done (by first | exact hs | exact (hs).alloc _ | exact ((hs).alloc _).alloc _ | exact (((hs).alloc _).alloc _).alloc _ | exact ((((hs).alloc _).alloc _).alloc _).alloc _ | exact (hs).drew | exact ((hs).alloc _).drew | exact (((hs).alloc _).alloc _).drew | exact ((((hs).alloc _).alloc _).alloc _).drew | exact (((((hs).alloc _).alloc _).alloc _).alloc _).drew | exact (hs).drewN _ | exact ((hs).alloc _).drewN _ | exact (((hs).alloc _).alloc _).drewN _ | exact ((((hs).alloc _).alloc _).alloc _).drewN _ | exact (((((hs).alloc _).alloc _).alloc _).alloc _).drewN _))
  by_cases t1 : sh < 0
  · have hv : stV o sh l = 0 := stV_false (by cases h : stB o sh l; rfl; simp only [stB, Bool.and_eq_true, inB_true] at h; omega)
    go_wp2_with fail
    refine (SH.quiet hs (by repeat' (first | with_reducible exact Below.refl _ _ | with_reducible assumption | with_reducible refine below_drewN ?_ _ | with_reducible refine Below.drew ?_ | with_reducible refine Below.alloc ?_ ?_ _ | with_reducible refine Below.setCell ?_ ?_ _ | go_size)) fun hs => abs_c o _ (by omega) (by omega)).mono ?_
    rintro e w4 ⟨rfl, hs⟩
    go_wp2_with fail
    refine (SH.ret hs (by repeat' (first | with_reducible exact Below.refl _ _ | with_reducible assumption | with_reducible refine below_drewN ?_ _ | with_reducible refine Below.drew ?_ | with_reducible refine Below.alloc ?_ ?_ _ | with_reducible refine Below.setCell ?_ ?_ _ | go_size)) fun hs => alive_c _).mono ?_
    rintro e w5 ⟨v, rfl, rfl, hs⟩
    go_wp2
    go_ret
    exact Ret.mk1 rfl (SH.done (by first | exact hs | exact (hs).alloc _ | exact ((hs).alloc _).alloc _ | exact (((hs).alloc _).alloc _).alloc _ | exact ((((hs).alloc _).alloc _).alloc _).alloc _ | exact (hs).drew | exact ((hs).alloc _).drew | exact (((hs).alloc _).alloc _).drew | exact ((((hs).alloc _).alloc _).alloc _).drew | exact (((((hs).alloc _).alloc _).alloc _).alloc _).drew | exact (hs).drewN _ | exact ((hs).alloc _).drewN _ | exact (((hs).alloc _).alloc _).drewN _ | exact ((((hs).alloc _).alloc _).alloc _).drewN _ | exact (((((hs).alloc _).alloc _).alloc _).alloc _).drewN _))
  by_cases t2 : 10 < sh
  · have hv : stV o sh l = 0 := stV_false (by cases h : stB o sh l; rfl; simp only [stB, Bool.and_eq_true, inB_true] at h; omega)
    go_wp2_with fail
    refine (SH.quiet hs (by repeat' (first | with_reducible exact Below.refl _ _ | with_reducible assumption | with_reducible refine below_drewN ?_ _ | with_reducible refine Below.drew ?_ | with_reducible refine Below.alloc ?_ ?_ _ | with_reducible refine Below.setCell ?_ ?_ _ | go_size)) fun hs => abs_c o _ (by omega) (by omega)).mono ?_
    rintro e w4 ⟨rfl, hs⟩
    go_wp2_with fail
    refine (SH.ret hs (by repeat' (first | with_reducible exact Below.refl _ _ | with_reducible assumption | with_reducible refine below_drewN ?_ _ | with_reducible refine Below.drew ?_ | with_reducible refine Below.alloc ?_ ?_ _ | with_reducible refine Below.setCell ?_ ?_ _ | go_size)) fun hs => alive_c _).mono ?_
    rintro e w5 ⟨v, rfl, rfl, hs⟩
    go_wp2
    go_ret
    exact Ret.mk1 rfl (SH.done (by first | exact hs | exact (hs).alloc _ | exact ((hs).alloc _).alloc _ | exact (((hs).alloc _).alloc _).alloc _ | exact ((((hs).alloc _).alloc _).alloc _).alloc _ | exact (hs).drew | exact ((hs).alloc _).drew | exact (((hs).alloc _).alloc _).drew | exact ((((hs).alloc _).alloc _).alloc _).drew | exact (((((hs).alloc _).alloc _).alloc _).alloc _).drew | exact (hs).drewN _ | exact ((hs).alloc _).drewN _ | exact (((hs).alloc _).alloc _).drewN _ | exact ((((hs).alloc _).alloc _).alloc _).drewN _ | exact (((((hs).alloc _).alloc _).alloc _).alloc _).drewN _))
  by_cases t3 : l < 1
  · have hv : stV o sh l = 0 := stV_false (by cases h : stB o sh l; rfl; simp only [stB, Bool.and_eq_true, inB_true] at h; omega)
    go_wp2_with fail
    refine (SH.quiet hs (by repeat' (first | with_reducible exact Below.refl _ _ | with_reducible assumption | with_reducible refine below_drewN ?_ _ | with_reducible refine Below.drew ?_ | with_reducible refine Below.alloc ?_ ?_ _ | with_reducible refine Below.setCell ?_ ?_ _ | go_size)) fun hs => abs_c o _ (by omega) (by omega)).mono ?_
    rintro e w4 ⟨rfl, hs⟩
    go_wp2_with fail
    refine (SH.ret hs (by repeat' (first | with_reducible exact Below.refl _ _ | with_reducible assumption | with_reducible refine below_drewN ?_ _ | with_reducible refine Below.drew ?_ | with_reducible refine Below.alloc ?_ ?_ _ | with_reducible refine Below.setCell ?_ ?_ _ | go_size)) fun hs => alive_c _).mono ?_
    rintro e w5 ⟨v, rfl, rfl, hs⟩
    go_wp2
    go_ret
    exact Ret.mk1 rfl (SH.done (by first | exact hs | exact (hs).alloc _ | exact ((hs).alloc _).alloc _ | exact (((hs).alloc _).alloc _).alloc _ | exact ((((hs).alloc _).alloc _).alloc _).alloc _ | exact (hs).drew | exact ((hs).alloc _).drew | exact (((hs).alloc _).alloc _).drew | exact ((((hs).alloc _).alloc _).alloc _).drew | exact (((((hs).alloc _).alloc _).alloc _).alloc _).drew | exact (hs).drewN _ | exact ((hs).alloc _).drewN _ | exact (((hs).alloc _).alloc _).drewN _ | exact ((((hs).alloc _).alloc _).alloc _).drewN _ | exact (((((hs).alloc _).alloc _).alloc _).alloc _).drewN _))
  by_cases t4 : 1000000 < l
  · have hv : stV o sh l = 0 := stV_false (by cases h : stB o sh l; rfl; simp only [stB, Bool.and_eq_true, inB_true] at h; omega)
    go_wp2_with fail
    refine (SH.quiet hs (by repeat' (first | with_reducible exact Below.refl _ _ | with_reducible assumption | with_reducible refine below_drewN ?_ _ | with_reducible refine Below.drew ?_ | with_reducible refine Below.alloc ?_ ?_ _ | with_reducible refine Below.setCell ?_ ?_ _ | go_size)) fun hs => abs_c o _ (by omega) (by omega)).mono ?_
    rintro e w4 ⟨rfl, hs⟩
    go_wp2_with fail
    refine (SH.ret hs (by repeat' (first | with_reducible exact Below.refl _ _ | with_reducible assumption | with_reducible refine below_drewN ?_ _ | with_reducible refine Below.drew ?_ | with_reducible refine Below.alloc ?_ ?_ _ | with_reducible refine Below.setCell ?_ ?_ _ | go_size)) fun hs => alive_c _).mono ?_
    rintro e w5 ⟨v, rfl, rfl, hs⟩
    go_wp2
    go_ret
    exact Ret.mk1 rfl (SH.done (by first | exact hs | exact (hs).alloc _ | exact ((hs).alloc _).alloc _ | exact (((hs).alloc _).alloc _).alloc _ | exact ((((hs).alloc _).alloc _).alloc _).alloc _ | exact (hs).drew | exact ((hs).alloc _).drew | exact (((hs).alloc _).alloc _).drew | exact ((((hs).alloc _).alloc _).alloc _).drew | exact (((((hs).alloc _).alloc _).alloc _).alloc _).drew | exact (hs).drewN _ | exact ((hs).alloc _).drewN _ | exact (((hs).alloc _).alloc _).drewN _ | exact ((((hs).alloc _).alloc _).alloc _).drewN _ | exact (((((hs).alloc _).alloc _).alloc _).alloc _).drewN _))
  have hv : stV o sh l = stP o sh l := stV_true (stB_mk (by omega) (by omega) (by omega) (by omega) (by omega) (by omega))
  obtain ⟨a1, a2, a3, a4, a5⟩ := st_bd (o := o) (sh := sh) (l := l) (by omega) (by omega) (by omega)
  have hvn : stV (-o) sh l = -stV o sh l := by rw [hv, stV_true (stB_mk (by omega) (by omega) (by omega) (by omega) (by omega) (by omega)), st_neg (by omega)]
  rw [← hv] at a1 a2 a3 a4 a5
  obtain ⟨n, hn⟩ : ∃ n, stV o sh l = n := ⟨_, rfl⟩
  rw [hn] at a1 a2 a3 a4 a5 hvn
  have HN := Lib.hid hn
  rw [hn]
  have HV := Lib.hid hvn
  have A5 := Lib.hid a5
  clear hn hv hvn a5 e1
  go_wp2_with fail
  refine (SH.quiet hs (by repeat' (first | with_reducible exact Below.refl _ _ | with_reducible assumption | with_reducible refine below_drewN ?_ _ | with_reducible refine Below.drew ?_ | with_reducible refine Below.alloc ?_ ?_ _ | with_reducible refine Below.setCell ?_ ?_ _ | go_size)) fun hs => abs_c o _ (by omega) (by omega)).mono ?_
  rintro e w4 ⟨rfl, hs⟩
  go_wp2_with fail
  have htm := tmod_bd o
  go_loopw [7, 8] (fun x i wr => ∃ (k : Nat) (v : Int), k ≤ 600 ∧ i = .int .i64 k ∧ x = .int .i64 v ∧ -499 ≤ v ∧ v ≤ 499 ∧ (v ≤ 499 - k ∨ v ≤ 0) ∧ (-v ≤ 499 - k ∨ 0 ≤ v) ∧ SH none w wr [rdP .u8 (.slice ac c.length cc) c]) (fun _ i _ => 600 - (intOf i).toNat)
  case atStart => exact ⟨0, _, by omega, rfl, rfl, by omega, by omega, by omega, by omega, hs⟩
  case round =>
    obtain ⟨k, v, hk, rfl, rfl, v0, v1, v2, v3, hs⟩ := hrel
    by_cases hlt : k < 600
    · obtain ⟨b1, b2, b3, b4, b5⟩ := st_bd (o := v) (sh := sh) (l := l) (by omega) (by omega) (by omega)
      have hv2 : stV v sh l = stP v sh l := stV_true (stB_mk (by omega) (by omega) (by omega) (by omega) (by omega) (by omega))
      rw [← hv2] at b1 b2 b3 b4 b5
      obtain ⟨r, hr⟩ : ∃ r, stV v sh l = r := ⟨_, rfl⟩
      rw [hr] at b1 b2 b3 b4 b5
      have HR := Lib.hid hr
      clear hr hv2
      go_wp2_with fail
      refine (SH.quiet hs (by repeat' (first | with_reducible exact Below.refl _ _ | with_reducible assumption | with_reducible refine below_drewN ?_ _ | with_reducible refine Below.drew ?_ | with_reducible refine Below.alloc ?_ ?_ _ | with_reducible refine Below.setCell ?_ ?_ _ | go_size)) fun hs => implSteerClock_c v sh l _).mono ?_
      rintro e w5 ⟨rfl, hs⟩
      rw [HR.out]
      have B5 := Lib.hid b5
      clear b5
      go_wp2
      go_roundw
      case rel => exact ⟨k + 1, v - r, by omega, by go_num, rfl, by omega, by omega, by have := B5.out; omega, by have := B5.out; omega, (by first | exact hs | exact (hs).alloc _ | exact ((hs).alloc _).alloc _ | exact (((hs).alloc _).alloc _).alloc _ | exact ((((hs).alloc _).alloc _).alloc _).alloc _ | exact (hs).drew | exact ((hs).alloc _).drew | exact (((hs).alloc _).alloc _).drew | exact ((((hs).alloc _).alloc _).alloc _).drew | exact (((((hs).alloc _).alloc _).alloc _).alloc _).drew | exact (hs).drewN _ | exact ((hs).alloc _).drewN _ | exact (((hs).alloc _).alloc _).drewN _ | exact ((((hs).alloc _).alloc _).alloc _).drewN _ | exact (((((hs).alloc _).alloc _).alloc _).alloc _).drewN _)⟩
      case measure => simp [intOf]; omega
    · obtain rfl : v = 0 := by omega
      go_wp2_with fail
      refine (SH.quiet hs (by repeat' (first | with_reducible exact Below.refl _ _ | with_reducible assumption | with_reducible refine below_drewN ?_ _ | with_reducible refine Below.drew ?_ | with_reducible refine Below.alloc ?_ ?_ _ | with_reducible refine Below.setCell ?_ ?_ _ | go_size)) fun hs => abs_c n _ (by omega) (by omega)).mono ?_
      rintro e w5 ⟨rfl, hs⟩
      go_wp2_with fail
      refine (SH.quiet hs (by repeat' (first | with_reducible exact Below.refl _ _ | with_reducible assumption | with_reducible refine below_drewN ?_ _ | with_reducible refine Below.drew ?_ | with_reducible refine Below.alloc ?_ ?_ _ | with_reducible refine Below.setCell ?_ ?_ _ | go_size)) fun hs => abs_c n _ (by omega) (by omega)).mono ?_
      rintro e w6 ⟨rfl, hs⟩
      go_wp2_with fail
      refine (SH.quiet hs (by repeat' (first | with_reducible exact Below.refl _ _ | with_reducible assumption | with_reducible refine below_drewN ?_ _ | with_reducible refine Below.drew ?_ | with_reducible refine Below.alloc ?_ ?_ _ | with_reducible refine Below.setCell ?_ ?_ _ | go_size)) fun hs => abs_c o _ (by omega) (by omega)).mono ?_
      rintro e w7 ⟨rfl, hs⟩
      have m0 : 0 ≤ n * o := by
        rcases Int.le_total 0 o with h | h
        · exact Int.mul_nonneg (a3 h).1 h
        · have := Int.mul_nonneg (show 0 ≤ -n by have := (a4 h).2; omega) (show 0 ≤ -o by omega); rwa [Int.neg_mul_neg] at this
      have m1 : n * o ≤ 1000000000000 := mul_up (by omega) (by omega) (by omega) (by omega)
      have e2 : ((n == 0) == (o == 0)) = true := by
        by_cases h : o = 0
        · have := A5.out.2 h; simp [this, h]
        · have h2 : n ≠ 0 := fun e => h (A5.out.1 e); rw [beq_false_of_ne h2, beq_false_of_ne h]; rfl
      have e3 : (-n == -n) = true := beq_self_eq_true _
      go_wp2_with fail
      refine (SH.quiet hs (by repeat' (first | with_reducible exact Below.refl _ _ | with_reducible assumption | with_reducible refine below_drewN ?_ _ | with_reducible refine Below.drew ?_ | with_reducible refine Below.alloc ?_ ?_ _ | with_reducible refine Below.setCell ?_ ?_ _ | go_size)) fun hs => implSteerClock_c (-o) sh l _).mono ?_
      rintro e w8 ⟨rfl, hs⟩
      rw [HV.out]
      go_wp2
      go_ret
      exact Ret.mk1 rfl (SH.done (by first | exact hs | exact (hs).alloc _ | exact ((hs).alloc _).alloc _ | exact (((hs).alloc _).alloc _).alloc _ | exact ((((hs).alloc _).alloc _).alloc _).alloc _ | exact (hs).drew | exact ((hs).alloc _).drew | exact (((hs).alloc _).alloc _).drew | exact ((((hs).alloc _).alloc _).alloc _).drew | exact (((((hs).alloc _).alloc _).alloc _).alloc _).drew | exact (hs).drewN _ | exact ((hs).alloc _).drewN _ | exact (((hs).alloc _).alloc _).drewN _ | exact ((((hs).alloc _).alloc _).alloc _).drewN _ | exact (((((hs).alloc _).alloc _).alloc _).alloc _).drewN _))

end Go.Proofs.Ytfllfbmdnokmnaa
