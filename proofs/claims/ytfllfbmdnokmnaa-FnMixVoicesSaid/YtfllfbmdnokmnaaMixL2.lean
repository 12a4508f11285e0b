import Derived.Test.YtfllfbmdnokmnaaProg
import Derived.Test.YtfllfbmdnokmnaaSym
import Derived.Test.YtfllfbmdnokmnaaDraw
import Derived.Test.YtfllfbmdnokmnaaInts
import Derived.Test.YtfllfbmdnokmnaaMix
import Derived.Test.YtfllfbmdnokmnaaVoiceL2
namespace Go.Proofs.Ytfllfbmdnokmnaa
open Go.RowKit

set_option maxHeartbeats 1000000 in
theorem DrawMixVoices_s (va : Value) (cs : List Int) (w : World) {row : Option Nat} {w0 : World} {I : List Part} (hs : SH row w0 w (rdP .u8 va cs :: I)) (hb : ∀ n ∈ cs, (Lit.int .u8 n).wf = true) :
    Calls Try.prog 23 #[va] w (fun e w' => ∃ (v v' : Value) (xs ys : List Int), e = .returned (.tuple #[v, v']) ∧ xs.length ≤ 10 ∧ ys.length ≤ 10 ∧ SH row w0 w' (ownP .i64 3 v xs :: ownP .i64 3 v' ys :: rdP .u8 va cs :: I)) := by
  have HB := Lib.hid hb
  clear hb
  go_enter Try.func23, Try.ntmps23
  go_wp2_with fail
  refine (open_s va cs _ (by first | exact hs | exact (hs).allocP1 _ _ | exact ((hs).allocP1 _ _).allocP1 _ _ | exact (((hs).allocP1 _ _).allocP1 _ _).allocP1 _ _ | exact ((((hs).allocP1 _ _).allocP1 _ _).allocP1 _ _).allocP1 _ _ | exact (hs).drew | exact ((hs).allocP1 _ _).drew | exact (((hs).allocP1 _ _).allocP1 _ _).drew | exact ((((hs).allocP1 _ _).allocP1 _ _).allocP1 _ _).drew | exact (((((hs).allocP1 _ _).allocP1 _ _).allocP1 _ _).allocP1 _ _).drew | exact (hs).drewN _ | exact ((hs).allocP1 _ _).drewN _ | exact (((hs).allocP1 _ _).allocP1 _ _).drewN _ | exact ((((hs).allocP1 _ _).allocP1 _ _).allocP1 _ _).drewN _ | exact (((((hs).allocP1 _ _).allocP1 _ _).allocP1 _ _).allocP1 _ _).drewN _) HB.out).mono ?_
  rintro e w1 ⟨g, sv, bs, rfl, hs⟩
  go_wp2_with fail
  refine (pick_s g _ 9 _ ⟨((hs.ownEmpty .i64 _).ownEmpty .i64 _).bring2, by omega⟩ (by decide)).mono ?_
  rintro e w2 ⟨c0, rfl, c0_0, c0_a, -, hs⟩
  have c0_1 := c0_a (by decide)
  clear c0_a
  rw [show (w1.alloc (.cells #[] 3)).heap.size = w1.heap.size + 1 from by simp] at hs
  go_wp2_with fail
  go_loopw [5, 6, 7] (fun o o2 i wr => ∃ (q : Int) (xs ys : List Int), 0 ≤ q ∧ i = .int .i64 q ∧ (xs.length : Int) + q ≤ 8 ∧ ys.length = xs.length ∧ SH row w0 wr (rdrP g (1 + 48 * xs.length) sv bs :: ownP .i64 3 o2 ys :: ownP .i64 3 o xs :: rdP .u8 va cs :: I)) (fun _ _ i _ => (intOf i).toNat)
  case atStart => exact ⟨c0, [], [], c0_0, rfl, by simp; omega, rfl, hs⟩
  case round =>
    obtain ⟨q, xs, ys, q0, rfl, hlen, hyl, hs⟩ := hrel
    obtain ⟨ao, co, rfl, -⟩ := (OwnK.rd hs.p2).form
    obtain ⟨bo, do_, rfl, -⟩ := (OwnK.rd hs.p1).form
    have HY := Lib.hid hyl
    clear hyl
    by_cases hq : 0 < q
    · go_wp2_with fail
      refine (l20Voice_s g _ 60 _ (by first | exact hs | exact (hs).allocP1 _ _ | exact ((hs).allocP1 _ _).allocP1 _ _ | exact (((hs).allocP1 _ _).allocP1 _ _).allocP1 _ _ | exact ((((hs).allocP1 _ _).allocP1 _ _).allocP1 _ _).allocP1 _ _ | exact (hs).drew | exact ((hs).allocP1 _ _).drew | exact (((hs).allocP1 _ _).allocP1 _ _).drew | exact ((((hs).allocP1 _ _).allocP1 _ _).allocP1 _ _).drew | exact (((((hs).allocP1 _ _).allocP1 _ _).allocP1 _ _).allocP1 _ _).drew | exact (hs).drewN _ | exact ((hs).allocP1 _ _).drewN _ | exact (((hs).allocP1 _ _).allocP1 _ _).drewN _ | exact ((((hs).allocP1 _ _).allocP1 _ _).allocP1 _ _).drewN _ | exact (((((hs).allocP1 _ _).allocP1 _ _).allocP1 _ _).allocP1 _ _).drewN _) (by omega) (by decide)).mono ?_
      rintro e w3 ⟨x, rfl, x0, x1, hs⟩
      go_wp2_with (at_builtin; refine wp_app1S rfl rfl .i64 3 8 Try.underlying24 info_int x rfl (hs.bring2.alloc _) rfl (World.cell?_alloc_at _ _ _ _ rfl) (by first | omega | (rw [HY.out]; omega)) (by unfold maxLen; first | omega | (rw [HY.out]; omega)) ?_; intro v90 w90 hs)
      have hs := hs.bring1
      go_wp2_with fail
      refine (l20Voice_s g _ 60 _ (by first | exact hs | exact (hs).allocP1 _ _ | exact ((hs).allocP1 _ _).allocP1 _ _ | exact (((hs).allocP1 _ _).allocP1 _ _).allocP1 _ _ | exact ((((hs).allocP1 _ _).allocP1 _ _).allocP1 _ _).allocP1 _ _ | exact (hs).drew | exact ((hs).allocP1 _ _).drew | exact (((hs).allocP1 _ _).allocP1 _ _).drew | exact ((((hs).allocP1 _ _).allocP1 _ _).allocP1 _ _).drew | exact (((((hs).allocP1 _ _).allocP1 _ _).allocP1 _ _).allocP1 _ _).drew | exact (hs).drewN _ | exact ((hs).allocP1 _ _).drewN _ | exact (((hs).allocP1 _ _).allocP1 _ _).drewN _ | exact ((((hs).allocP1 _ _).allocP1 _ _).allocP1 _ _).drewN _ | exact (((((hs).allocP1 _ _).allocP1 _ _).allocP1 _ _).allocP1 _ _).drewN _) (by omega) (by decide)).mono ?_
      rintro e w4 ⟨y, rfl, y0, y1, hs⟩
      go_wp2_with (at_builtin; refine wp_app1S rfl rfl .i64 3 8 Try.underlying24 info_int y rfl (hs.bring2.alloc _) rfl (World.cell?_alloc_at _ _ _ _ rfl) (by first | omega | (rw [HY.out]; omega)) (by unfold maxLen; first | omega | (rw [HY.out]; omega)) ?_; intro v91 w91 hs)
      go_wp2
      go_roundw
      case rel => exact ⟨q - 1, xs ++ [x], ys ++ [y], by omega, by go_num, by simp; omega, by simp [HY.out], rdrP_mono hs.bring1 (by simp; omega)⟩
      case measure => simp [intOf]; omega
    · go_wp2_with fail
      refine (odd_s g _ 12 _ (by first | exact ⟨hs, by omega⟩ | exact ⟨(hs).allocP1 _ _, by omega⟩ | exact ⟨((hs).allocP1 _ _).allocP1 _ _, by omega⟩ | exact ⟨(((hs).allocP1 _ _).allocP1 _ _).allocP1 _ _, by omega⟩ | exact ⟨((((hs).allocP1 _ _).allocP1 _ _).allocP1 _ _).allocP1 _ _, by omega⟩ | exact ⟨(hs).drew, by omega⟩ | exact ⟨((hs).allocP1 _ _).drew, by omega⟩ | exact ⟨(((hs).allocP1 _ _).allocP1 _ _).drew, by omega⟩ | exact ⟨((((hs).allocP1 _ _).allocP1 _ _).allocP1 _ _).drew, by omega⟩ | exact ⟨(((((hs).allocP1 _ _).allocP1 _ _).allocP1 _ _).allocP1 _ _).drew, by omega⟩ | exact ⟨(hs).drewN _, by omega⟩ | exact ⟨((hs).allocP1 _ _).drewN _, by omega⟩ | exact ⟨(((hs).allocP1 _ _).allocP1 _ _).drewN _, by omega⟩ | exact ⟨((((hs).allocP1 _ _).allocP1 _ _).allocP1 _ _).drewN _, by omega⟩ | exact ⟨(((((hs).allocP1 _ _).allocP1 _ _).allocP1 _ _).allocP1 _ _).drewN _, by omega⟩) (by decide)).mono ?_
      rintro e w3 ⟨od, rfl, -, hs⟩
      cases od
      · go_wp2
        go_ret2
        exact ⟨_, _, xs, ys, rfl, by omega, by rw [HY.out]; omega, hs.drop0.bring1⟩
      · go_wp2_with (at_builtin; refine wp_app1S rfl rfl .i64 3 8 Try.underlying24 info_int 0 rfl (hs.bring2.alloc _) rfl (World.cell?_alloc_at _ _ _ _ rfl) (by first | omega | (rw [HY.out]; omega)) (by unfold maxLen; first | omega | (rw [HY.out]; omega)) ?_; intro v90 w90 hs)
        go_wp2
        go_ret2
        exact ⟨_, _, xs ++ [0], ys, rfl, by simp; omega, by rw [HY.out]; omega, hs.drop1⟩

theorem mixV_comm (xs ys : List Int) : mixV xs ys = mixV ys xs := by
  have e : mixB xs ys = mixB ys xs := by
    unfold mixB
    by_cases h : xs.length = ys.length
    · rw [h]; cases allIn xs 4095 <;> cases allIn ys 4095 <;> simp
    · have h' : ¬ ys.length = xs.length := fun e => h e.symm
      simp [h, h']
  unfold mixV
  rw [← e]
  cases hb : mixB xs ys
  · rfl
  · have hl : xs.length = ys.length := by simp only [mixB, Bool.and_eq_true, decide_eq_true_eq] at hb; exact hb.1.1.1
    simp only [if_true]
    refine gi_ext (by simp [length_mixL, hl]) fun i hi => ?_
    rw [length_mixL] at hi
    rw [gi_mixL hi, gi_mixL (by omega), Int.add_comm]
theorem mixB_parts {xs ys : List Int} (h : mixB xs ys = true) : xs.length = ys.length ∧ xs.length ≤ 256 ∧ (∀ i, i < xs.length → -4095 ≤ gi xs i ∧ gi xs i ≤ 4095) ∧ (∀ i, i < ys.length → -4095 ≤ gi ys i ∧ gi ys i ≤ 4095) := by
  simp only [mixB, Bool.and_eq_true, decide_eq_true_eq] at h
  exact ⟨h.1.1.1, h.1.1.2, fun i hi => inB_true.1 (allIn_true.1 h.1.2 i hi), fun i hi => inB_true.1 (allIn_true.1 h.2 i hi)⟩
theorem mixV_zero {xs ys : List Int} (h : mixB xs ys = true) : mixV xs (List.replicate xs.length 0) = xs := by
  obtain ⟨hl, h2, h3, -⟩ := mixB_parts h
  have hg : ∀ i, i < xs.length → gi (List.replicate xs.length 0) i = 0 := fun i hi => by simp [gi, hi]
  have hb : mixB xs (List.replicate xs.length 0) = true := by
    have ha : allIn xs 4095 = true := by simp only [mixB, Bool.and_eq_true] at h; exact h.1.2
    have hz : allIn (List.replicate xs.length 0) 4095 = true := allIn_true.2 fun i hi => by
      rw [List.length_replicate] at hi; rw [hg i hi]; rfl
    simp [mixB, ha, hz, h2]
  unfold mixV
  rw [hb, if_pos rfl]
  refine gi_ext (length_mixL _ _) fun i hi => ?_
  rw [length_mixL] at hi
  rw [gi_mixL hi, hg i hi]
  have := h3 i hi
  unfold clipI; omega

set_option maxRecDepth 100000 in
set_option maxHeartbeats 4000000 in
theorem fnMixVoices_c (vc : Value) (c : List Int) (w : World) (hc : RdB w vc c) (bc : ∀ n ∈ c, (Lit.int .u8 n).wf = true) :
    Calls Try.prog 5 #[vc] w (Ret w fun v _ => v = .bool true) := by
  have hs := SH.add (p := rdP .u8 vc c) (SH.start0 w) (by simp) hc rdP_wr
  obtain ⟨ac, cc, rfl, -⟩ := hc.form
  have Bc := Lib.hid bc
  clear hc bc
  by_cases lc : c.length ≤ 1048576
  case neg =>
    go_enter Try.func5, Try.ntmps5
    go_wp2
    go_ret
    exact Ret.mk1 rfl (Below.refl _ _)
  go_enter Try.func5, Try.ntmps5
  go_wp2_with fail
  refine (DrawMixVoices_s _ c _ (by first | exact hs | exact (hs).allocP1 _ _ | exact ((hs).allocP1 _ _).allocP1 _ _ | exact (((hs).allocP1 _ _).allocP1 _ _).allocP1 _ _ | exact ((((hs).allocP1 _ _).allocP1 _ _).allocP1 _ _).allocP1 _ _ | exact (hs).drew | exact ((hs).allocP1 _ _).drew | exact (((hs).allocP1 _ _).allocP1 _ _).drew | exact ((((hs).allocP1 _ _).allocP1 _ _).allocP1 _ _).drew | exact (((((hs).allocP1 _ _).allocP1 _ _).allocP1 _ _).allocP1 _ _).drew | exact (hs).drewN _ | exact ((hs).allocP1 _ _).drewN _ | exact (((hs).allocP1 _ _).allocP1 _ _).drewN _ | exact ((((hs).allocP1 _ _).allocP1 _ _).allocP1 _ _).drewN _ | exact (((((hs).allocP1 _ _).allocP1 _ _).allocP1 _ _).allocP1 _ _).drewN _) Bc.out).mono ?_
  rintro e w1 ⟨v1, v2, xs, ys, rfl, hx, hy, hs⟩
  obtain ⟨a1, c1, rfl, -⟩ := (OwnK.rd hs.p0).form
  obtain ⟨a2, c2, rfl, -⟩ := (OwnK.rd hs.p1).form
  go_wp2_with fail
  refine (SH.own hs (by repeat' (first | with_reducible exact Below.refl _ _ | with_reducible assumption | with_reducible refine below_drewN ?_ _ | with_reducible refine Below.drew ?_ | with_reducible refine Below.alloc ?_ ?_ _ | with_reducible refine Below.setCell ?_ ?_ _ | go_size)) fun hs => implMixVoices_c _ _ xs ys _ (OwnK.rd hs.p0) (OwnK.rd hs.p1)).mono ?_
  rintro e w2 ⟨v3, rfl, hs⟩
  have hvl : (mixV xs ys).length ≤ 256 := by
    unfold mixV
    split
    · next h => rw [length_mixL]; exact (mixB_parts h).2.1
    · simp
  go_wp2_with fail
  refine (SH.own hs (by repeat' (first | with_reducible exact Below.refl _ _ | with_reducible assumption | with_reducible refine below_drewN ?_ _ | with_reducible refine Below.drew ?_ | with_reducible refine Below.alloc ?_ ?_ _ | with_reducible refine Below.setCell ?_ ?_ _ | go_size)) fun hs => specMixVoices_c _ _ xs ys _ (OwnK.rd hs.p1) (OwnK.rd hs.p2)).mono ?_
  rintro e w3 ⟨v4, rfl, hs⟩
  go_wp2_with fail
  refine (SH.quiet hs (by repeat' (first | with_reducible exact Below.refl _ _ | with_reducible assumption | with_reducible refine below_drewN ?_ _ | with_reducible refine Below.drew ?_ | with_reducible refine Below.alloc ?_ ?_ _ | with_reducible refine Below.setCell ?_ ?_ _ | go_size)) fun hs => sameInts_c _ _ _ _ _ (OwnK.rd hs.p1) (OwnK.rd hs.p0)).mono ?_
  rintro e w4 ⟨rfl, hs⟩
  have hs := hs.drop0
  rw [show decide (mixV xs ys = mixV xs ys) = true by simp]
  go_wp2_with fail
  refine (SH.own hs (by repeat' (first | with_reducible exact Below.refl _ _ | with_reducible assumption | with_reducible refine below_drewN ?_ _ | with_reducible refine Below.drew ?_ | with_reducible refine Below.alloc ?_ ?_ _ | with_reducible refine Below.setCell ?_ ?_ _ | go_size)) fun hs => implMixVoices_c _ _ ys xs _ (OwnK.rd hs.p2) (OwnK.rd hs.p1)).mono ?_
  rintro e w5 ⟨v5, rfl, hs⟩
  rw [← mixV_comm xs ys] at hs
  go_wp2_with fail
  refine (SH.quiet hs (by repeat' (first | with_reducible exact Below.refl _ _ | with_reducible assumption | with_reducible refine below_drewN ?_ _ | with_reducible refine Below.drew ?_ | with_reducible refine Below.alloc ?_ ?_ _ | with_reducible refine Below.setCell ?_ ?_ _ | go_size)) fun hs => sameInts_c _ _ _ _ _ (OwnK.rd hs.p1) (OwnK.rd hs.p0)).mono ?_
  rintro e w6 ⟨rfl, hs⟩
  have hs := hs.drop0
  rw [show decide (mixV xs ys = mixV xs ys) = true by simp]
  obtain ⟨C, hC⟩ : ∃ C, mixV xs ys = C := ⟨_, rfl⟩
  rw [hC] at hs hvl
  obtain ⟨a3, c3, rfl, -⟩ := (OwnK.rd hs.p0).form
  cases hb : mixB xs ys
  · have hz : C = [] := by rw [← hC]; simp [mixV, hb]
    subst hz
    clear hC hb
    go_wp2_with fail
    refine (SH.ret hs (by repeat' (first | with_reducible exact Below.refl _ _ | with_reducible assumption | with_reducible refine below_drewN ?_ _ | with_reducible refine Below.drew ?_ | with_reducible refine Below.alloc ?_ ?_ _ | with_reducible refine Below.setCell ?_ ?_ _ | go_size)) fun hs => alive_c _).mono ?_
    rintro e w7 ⟨v, rfl, rfl, hs⟩
    go_wp2
    go_ret
    exact Ret.mk1 rfl (SH.done (by first | exact hs | exact (hs).alloc _ | exact ((hs).alloc _).alloc _ | exact (((hs).alloc _).alloc _).alloc _ | exact ((((hs).alloc _).alloc _).alloc _).alloc _ | exact (hs).drew | exact ((hs).alloc _).drew | exact (((hs).alloc _).alloc _).drew | exact ((((hs).alloc _).alloc _).alloc _).drew | exact (((((hs).alloc _).alloc _).alloc _).alloc _).drew | exact (hs).drewN _ | exact ((hs).alloc _).drewN _ | exact (((hs).alloc _).alloc _).drewN _ | exact ((((hs).alloc _).alloc _).alloc _).drewN _ | exact (((((hs).alloc _).alloc _).alloc _).alloc _).drewN _))
  have HZ := Lib.hid (mixV_zero hb)
  obtain ⟨hl, -, p1, p2⟩ := mixB_parts hb
  have hCm : C = mixL xs ys := by rw [← hC]; simp [mixV, hb]
  have hCl : C.length = xs.length := by rw [hCm, length_mixL]
  have HG := Lib.hid (show ∀ i, i < xs.length → gi C i = clipI (gi xs i + gi ys i) (-4095) 4095 from fun i hi => by rw [hCm, gi_mixL hi])
  have HP1 := Lib.hid p1
  have HP2 := Lib.hid p2
  have HL := Lib.hid hl
  have HCL := Lib.hid hCl
  clear hC hb hCm p1 p2 hl hCl
  by_cases h0 : xs.length = 0
  · have hz : C = [] := List.eq_nil_of_length_eq_zero (by rw [HCL.out]; exact h0)
    subst hz
    clear h0
    go_wp2_with fail
    refine (SH.ret hs (by repeat' (first | with_reducible exact Below.refl _ _ | with_reducible assumption | with_reducible refine below_drewN ?_ _ | with_reducible refine Below.drew ?_ | with_reducible refine Below.alloc ?_ ?_ _ | with_reducible refine Below.setCell ?_ ?_ _ | go_size)) fun hs => alive_c _).mono ?_
    rintro e w7 ⟨v, rfl, rfl, hs⟩
    go_wp2
    go_ret
    exact Ret.mk1 rfl (SH.done (by first | exact hs | exact (hs).alloc _ | exact ((hs).alloc _).alloc _ | exact (((hs).alloc _).alloc _).alloc _ | exact ((((hs).alloc _).alloc _).alloc _).alloc _ | exact (hs).drew | exact ((hs).alloc _).drew | exact (((hs).alloc _).alloc _).drew | exact ((((hs).alloc _).alloc _).alloc _).drew | exact (((((hs).alloc _).alloc _).alloc _).alloc _).drew | exact (hs).drewN _ | exact ((hs).alloc _).drewN _ | exact (((hs).alloc _).alloc _).drewN _ | exact ((((hs).alloc _).alloc _).alloc _).drewN _ | exact (((((hs).alloc _).alloc _).alloc _).alloc _).drewN _))
  have e2 : ((C.length : Int) == 0) = false := by have := HCL.out; simp only [beq_eq_false_iff_ne]; omega
  go_wp2_with fail
  clear e2
  go_loopw [6] (fun i wr => ∃ k : Nat, k ≤ C.length ∧ i = .int .i64 k ∧ SH none w wr [ownP .i64 3 (.slice a3 C.length c3) C, ownP .i64 3 (.slice a1 xs.length c1) xs, ownP .i64 3 (.slice a2 ys.length c2) ys, rdP .u8 (.slice ac c.length cc) c]) (fun i _ => C.length - (intOf i).toNat)
  case atStart => exact ⟨0, Nat.zero_le _, rfl, hs⟩
  case round =>
    obtain ⟨k, hk, rfl, hs⟩ := hrel
    by_cases hlt : k < C.length
    · have h1 : k < xs.length := by rw [← HCL.out]; exact hlt
      have h2 : k < ys.length := by rw [← HL.out]; exact h1
      obtain ⟨b1, o1, rfl, hx1⟩ := (OwnK.rd hs.p1).at_ h1
      obtain ⟨b2, o2, rfl, hy1⟩ := (OwnK.rd hs.p2).at_ h2
      obtain ⟨b3, o3, rfl, hc1⟩ := (OwnK.rd hs.p0).at_ hlt
      have g1 := HG.out k h1
      have q1 := HP1.out k h1
      have q2 := HP2.out k h2
      obtain ⟨x, hx⟩ : ∃ x, gi xs k = x := ⟨_, rfl⟩
      obtain ⟨y, hy⟩ : ∃ y, gi ys k = y := ⟨_, rfl⟩
      obtain ⟨z, hz⟩ : ∃ z, gi C k = z := ⟨_, rfl⟩
      rw [hx, hy, hz] at g1
      rw [hx] at hx1 q1
      rw [hy] at hy1 q2
      rw [hz] at hc1
      clear hx hy hz
      have e3 : decide (4095 < max z (-z)) = false := by rw [g1]; unfold clipI; simp; omega
      have z0 : -4095 ≤ z ∧ z ≤ 4095 := by rw [g1]; unfold clipI; omega
      have j0 : (0 : Int) ≤ (k : Int) := by omega
      have j1 : (k : Int) < (C.length : Int) := by omega
      have j2 : (k : Int) < (xs.length : Int) := by omega
      have j3 : (k : Int) < (ys.length : Int) := by omega
      have e4 : IntKind.i64.wrap (x + y) = x + y := IntWalk.i64_in _ (by omega)
      by_cases hm : max (x + y) (-(x + y)) ≤ 4095
      · have e5 : decide (max (x + y) (-(x + y)) ≤ 4095) = true := by simpa using hm
        have e6 : z = x + y := by rw [g1]; unfold clipI; omega
        have e7 : (z != x + y) = false := by simp [e6]
        clear e6 g1
        go_wp2_with fail
        go_quiet ((go_at_call 26; exact quiet_of (abs_c _ _ (by omega) (by omega))))
        clear e4
        go_wp2
        go_roundw
        case rel => exact ⟨k + 1, hlt, by go_num, (by first | exact hs | exact (hs).alloc _ | exact ((hs).alloc _).alloc _ | exact (((hs).alloc _).alloc _).alloc _ | exact ((((hs).alloc _).alloc _).alloc _).alloc _ | exact (hs).drew | exact ((hs).alloc _).drew | exact (((hs).alloc _).alloc _).drew | exact ((((hs).alloc _).alloc _).alloc _).drew | exact (((((hs).alloc _).alloc _).alloc _).alloc _).drew | exact (hs).drewN _ | exact ((hs).alloc _).drewN _ | exact (((hs).alloc _).alloc _).drewN _ | exact ((((hs).alloc _).alloc _).alloc _).drewN _ | exact (((((hs).alloc _).alloc _).alloc _).alloc _).drewN _)⟩
        case measure => simp [intOf]; omega
      · have e5 : decide (max (x + y) (-(x + y)) ≤ 4095) = false := by simpa using hm
        clear g1
        go_wp2_with fail
        go_quiet ((go_at_call 26; exact quiet_of (abs_c _ _ (by omega) (by omega))))
        clear e4
        go_wp2
        go_roundw
        case rel => exact ⟨k + 1, hlt, by go_num, (by first | exact hs | exact (hs).alloc _ | exact ((hs).alloc _).alloc _ | exact (((hs).alloc _).alloc _).alloc _ | exact ((((hs).alloc _).alloc _).alloc _).alloc _ | exact (hs).drew | exact ((hs).alloc _).drew | exact (((hs).alloc _).alloc _).drew | exact ((((hs).alloc _).alloc _).alloc _).drew | exact (((((hs).alloc _).alloc _).alloc _).alloc _).drew | exact (hs).drewN _ | exact ((hs).alloc _).drewN _ | exact (((hs).alloc _).alloc _).drewN _ | exact ((((hs).alloc _).alloc _).alloc _).drewN _ | exact (((((hs).alloc _).alloc _).alloc _).alloc _).drewN _)⟩
        case measure => simp [intOf]; omega
    · go_wp2_with (at_make; refine wp_makeK rfl rfl .i64 _ 3 8 Try.underlying24 info_int xs.length rfl rfl rfl rfl (by omega) (by unfold maxLen; omega) (Nat.le_refl _) ?_; intro wz hown hg hsz)
      have hs := hs.pushOwn (below_of_grown hg) hown
      clear hown hg hsz
      go_wp2_with fail
      refine (SH.own hs (by repeat' (first | with_reducible exact Below.refl _ _ | with_reducible assumption | with_reducible refine below_drewN ?_ _ | with_reducible refine Below.drew ?_ | with_reducible refine Below.alloc ?_ ?_ _ | with_reducible refine Below.setCell ?_ ?_ _ | go_size)) fun hs => implMixVoices_c _ _ xs _ _ (OwnK.rd hs.p2) (OwnK.rd hs.p0)).mono ?_
      rintro e w21 ⟨v6, rfl, hs⟩
      rw [HZ.out] at hs
      go_wp2_with fail
      refine (SH.quiet hs (by repeat' (first | with_reducible exact Below.refl _ _ | with_reducible assumption | with_reducible refine below_drewN ?_ _ | with_reducible refine Below.drew ?_ | with_reducible refine Below.alloc ?_ ?_ _ | with_reducible refine Below.setCell ?_ ?_ _ | go_size)) fun hs => sameInts_c _ _ _ _ _ (OwnK.rd hs.p0) (OwnK.rd hs.p3)).mono ?_
      rintro e w22 ⟨rfl, hs⟩
      rw [show decide (xs = xs) = true by simp]
      go_wp2
      go_ret
      exact Ret.mk1 rfl (SH.done (by first | exact hs | exact (hs).alloc _ | exact ((hs).alloc _).alloc _ | exact (((hs).alloc _).alloc _).alloc _ | exact ((((hs).alloc _).alloc _).alloc _).alloc _ | exact (hs).drew | exact ((hs).alloc _).drew | exact (((hs).alloc _).alloc _).drew | exact ((((hs).alloc _).alloc _).alloc _).drew | exact (((((hs).alloc _).alloc _).alloc _).alloc _).drew | exact (hs).drewN _ | exact ((hs).alloc _).drewN _ | exact (((hs).alloc _).alloc _).drewN _ | exact ((((hs).alloc _).alloc _).alloc _).drewN _ | exact (((((hs).alloc _).alloc _).alloc _).alloc _).drewN _))

end Go.Proofs.Ytfllfbmdnokmnaa
