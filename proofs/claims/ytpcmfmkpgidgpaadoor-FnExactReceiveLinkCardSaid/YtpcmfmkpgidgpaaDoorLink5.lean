import Derived.Test.YtpcmfmkpgidgpaaDoorProg
import Derived.Test.YtpcmfmkpgidgpaaDoorLink4
import Derived.StillTailTactics
namespace Go.Proofs.YtpcmfmkpgidgpaaDoor
open Go.RowKit

set_option maxRecDepth 100000 in
set_option maxHeartbeats 4000000 in
theorem specDeint_c (va : Value) (xs : List Int) (n : Nat) (w : World) (h : RdI w va xs) (hv : bitsB xs = true) (hn : xs.length = 7 * n) (hn1 : 1 ≤ n) :
    Calls Tryd.prog 54 #[va, .int .i64 7] w (Ret w fun v w' => OwnI w' w.heap.size 3 v (diL xs n)) := by
  obtain ⟨a, ca, rfl, mc, mx⟩ := h.form'
  have hs := SH.start w [rdP .i64 (.slice a xs.length ca) xs] (by simp only [List.forall_mem_cons]; exact ⟨⟨h, rdP_wr⟩, by simp⟩)
  clear h
  have hl := (bitsB_true.1 hv).1
  have HV := Lib.hid hv
  have HN := Lib.hid hn
  have hn200 : n ≤ 200 := by omega
  have HQ : Hid ((xs.length : Int) / 7 = (n : Int)) := Lib.hid (by omega)
  clear hv hn
  go_enter Tryd.func54, Tryd.ntmps54
  go_wp2_with fail
  refine (SH.quiet hs (by repeat' (first | with_reducible exact Below.refl _ _ | with_reducible assumption | with_reducible refine below_drewN ?_ _ | with_reducible refine Below.drew ?_ | with_reducible refine Below.alloc ?_ ?_ _ | with_reducible refine Below.setCell ?_ ?_ _ | go_size)) fun hs => l8Ok_c _ xs n _ hs.p0 HV.out HN.out).mono ?_
  rintro e w1 ⟨rfl, hs⟩
  have hqn := HQ.out
  go_wp2_with (at_make; refine wp_makeK rfl rfl .i64 w1.heap.size 3 8 Tryd.underlying22 info_int xs.length rfl rfl rfl rfl (by omega) (by unfold maxLen; omega) (Nat.le_refl _) ?_; intro w2 hown hg hsz)
  have hs := hs.pushOwn (below_of_grown hg) hown
  clear hown hg hsz hqn
  generalize w1.heap.size = G at *
  go_loopw [7] (fun i wr => ∃ (k : Nat) (zs : List Int), k ≤ xs.length ∧ i = .int .i64 k ∧ Hid (zs.length = xs.length) ∧ Hid (∀ p, p < xs.length → p % n * 7 + p / n < k → gi zs p = gi xs (p % n * 7 + p / n)) ∧ SH none w wr [ownP .i64 3 (.slice (some ⟨G, 0, none⟩) xs.length xs.length) zs, rdP .i64 (.slice a xs.length ca) xs]) (fun i _ => xs.length - (intOf i).toNat)
  case atStart => exact ⟨0, _, Nat.zero_le _, rfl, Lib.hid (by simp), Lib.hid (fun p _ h => absurd h (Nat.not_lt_zero _)), hs⟩
  case round =>
    clear hs
    obtain ⟨k, zs, hk, rfl, HZ, HP, hs⟩ := hrel
    by_cases hlt : k < xs.length
    · obtain ⟨b, off, rfl, hc⟩ := (SH.p1 hs : RdI _ _ _).at_ hlt
      have hq : k % 7 * n + k / 7 < xs.length := by rw [HN.out]; exact (tab_place (HN.out ▸ hlt)).1
      have hm6 : k % 7 * n ≤ 6 * n := Nat.mul_le_mul_right n (by omega)
      have hw1 : IntKind.i64.wrap ((k : Int) % 7 * (n : Int)) = ((k % 7 * n : Nat) : Int) := by
        rw [show ((k : Int) % 7 * (n : Int)) = ((k % 7 * n : Nat) : Int) by simp]
        exact IntWalk.i64_in _ (by omega)
      have hw2 : IntKind.i64.wrap ((k : Int) % 7 * (n : Int) + (k : Int) / 7) = ((k % 7 * n + k / 7 : Nat) : Int) := by
        rw [show ((k : Int) % 7 * (n : Int) + (k : Int) / 7) = ((k % 7 * n + k / 7 : Nat) : Int) by simp]
        exact IntWalk.i64_in _ (by omega)
      have hw3 : wrap64 ((k : Int) % 7 * (n : Int) + (k : Int) / 7) = ((k % 7 * n + k / 7 : Nat) : Int) := by
        rw [show ((k : Int) % 7 * (n : Int) + (k : Int) / 7) = ((k % 7 * n + k / 7 : Nat) : Int) by simp]
        exact IntWalk.wrap64_in _ (by omega)
      have hw4 : (k : Int) % 7 * (n : Int) + (k : Int) / 7 = ((k % 7 * n + k / 7 : Nat) : Int) := by simp
      have hst := di_step HN.out HZ.out hlt HP.out
      obtain ⟨x, hx⟩ : ∃ x, gi xs k = x := ⟨_, rfl⟩
      rw [hx] at hc hst
      clear hx hm6 hw1
      have HST := Lib.hid hst
      clear hst
      generalize k % 7 * n + k / 7 = q at *
      obtain ⟨g2, eg, -, -, hgc, hgf⟩ := OwnK.at_ hs.p0 hq
      cases eg
      have i1 : (q : Int) < (xs.length : Int) := by omega
      have i2 : (k : Int) < (xs.length : Int) := by omega
      go_wp2
      refine wp_region_quiet_tail 15 (by kernel_rfl) (by kernel_rfl) ?_
      simp only [List.take_succ_cons, List.take_zero, List.drop_succ_cons, List.drop_zero]
      repeat go_big_quiet_step (fail)
      refine wpQuiet_nil ?_
      rintro _ ⟨nq, rfl⟩
      have hs := hs.drewN nq
      have hgc2 : (wr.drewN nq).cell? ⟨G, q, none⟩ = some (.int .i64 (gi zs q)) := hgc
      have hgf2 : (wr.drewN nq).frozen? ⟨G, q, none⟩ = false := hgf
      clear hc hgc hgf
      generalize wr.drewN nq = W at *
      go_wp2
      go_roundw
      case rel => exact ⟨k + 1, _, hlt, by go_num, Lib.hid (by rw [List.length_set]; exact HZ.out), HST, hs.setOwn hq x⟩
      case measure => simp [intOf]; omega
    · obtain rfl : k = xs.length := by omega
      go_wp2
      go_ret
      exact Ret.mk1 (by rw [← di_all HN.out HZ.out HP.out]; exact SH.ownRet hs) hs.done
theorem slc_take {ss : List (Int × Int)} {k : Nat} (h : k < ss.length) : (slcL ss).take (k + 1) = (slcL ss).take k ++ [sgn01 (bF ss k)] := by
  rw [ext_take_succ (by rw [slcL_len]; exact h)]
  congr 2
  simp [gi, slcL, bF, h]
set_option maxRecDepth 100000 in
set_option maxHeartbeats 4000000 in
theorem implSlice_c (va : Value) (ss : List (Int × Int)) (w : World) (h : RdM 2 w va ss.length (bC ss)) (hv : sgB ss = true) :
    Calls Tryd.prog 28 #[va, .int .i64 1] w (Ret w fun v w' => OwnI w' w.heap.size 3 v (slcL ss)) := by
  obtain ⟨a, ca, rfl, ml⟩ := h.form
  have hs := SH.start w [rdMP 2 (.slice a ss.length ca) ss.length (bC ss)] (by simp only [List.forall_mem_cons]; exact ⟨⟨⟨h, by decide⟩, rdMP_wr⟩, by simp⟩)
  clear h
  have hl := (sgB_true.1 hv).1
  have HV := Lib.hid hv
  clear hv
  have hfind := findOne
  go_enter Tryd.func28, Tryd.ntmps28
  go_wp2_with fail
  refine (modOne_c _).mono ?_
  rintro e w1 ⟨rfl, rfl⟩
  go_wp2_with fail
  refine (SH.ret hs (by repeat' (first | with_reducible exact Below.refl _ _ | with_reducible assumption | with_reducible refine below_drewN ?_ _ | with_reducible refine Below.drew ?_ | with_reducible refine Below.alloc ?_ ?_ _ | with_reducible refine Below.setCell ?_ ?_ _ | go_size)) fun hs => implSignalValid_c _ ss _ hs.p0.1).mono ?_
  rintro e w2 ⟨v, rfl, rfl, hs⟩
  rw [HV.out]
  go_wp2_with (at_make; refine wp_make0K rfl rfl .i64 w2.heap.size 3 8 Tryd.underlying22 info_int ss.length rfl rfl (by first | rfl | simp) (by omega) (by unfold maxLen; omega) (Nat.le_refl _) ?_; intro w3 hown hg hsz)
  have hs := hs.pushOwn (below_of_grown hg) hown
  clear hown hg hsz
  go_loopw [6, 8, 32] (fun o _ i wr => ∃ k : Nat, k ≤ ss.length ∧ i = .int .i64 k ∧ SH none w1 wr [ownP .i64 3 o ((slcL ss).take k), rdMP 2 (.slice a ss.length ca) ss.length (bC ss)]) (fun _ _ i _ => ss.length - (intOf i).toNat)
  case atStart => exact ⟨0, Nat.zero_le _, rfl, hs⟩
  case round =>
    clear hs
    obtain ⟨k, hk, rfl, hs⟩ := hrel
    have hkl : ((slcL ss).take k).length = k := by rw [List.length_take, slcL_len]; omega
    obtain ⟨ao, co, rfl, -⟩ := (OwnK.rd hs.p0).form
    rw [hkl] at hs ⊢
    have HKL := Lib.hid hkl
    clear hkl
    by_cases hlt : k < ss.length
    · obtain ⟨b, off, rfl, hc⟩ := (SH.p1 hs).1.at_ hlt
      have c0 := hc 0 (by decide)
      have c1 := hc 1 (by decide)
      rw [Nat.add_zero] at c0
      simp only [bC] at c0 c1
      have HT := Lib.hid (slc_take hlt)
      clear hc
      have hs2 := ((hs.alloc (.cells #[.int .i64 (bF ss k), .int .i64 (bL ss k)] 57)))
      go_wp2_with fail
      refine (oneApp_s (bF ss k) (bL ss k) _ _ _ hs2 (by rw [HKL.out]; omega)).mono ?_
      rintro e w5 ⟨v5, rfl, hs⟩
      clear hs2 c0 c1
      go_wp2
      go_roundw
      case rel => exact ⟨k + 1, hlt, by go_num, by rw [HT.out]; exact hs⟩
      case measure => simp [intOf]; omega
    · obtain rfl : k = ss.length := by omega
      rw [List.take_of_length_le (by rw [slcL_len]; exact Nat.le_refl _)] at hs
      go_wp2
      go_ret
      exact Ret.mk1 (SH.ownRet hs) hs.done
theorem l9Order_c (w : World) : Calls Tryd.prog 66 #[.int .i64 1] w (fun e w' => e = .returned (.bool true) ∧ w' = w) := by
  go_enter Tryd.func66, Tryd.ntmps66
  go_wp2
  go_ret
  exact ⟨rfl, rfl⟩
theorem l9Slice_c (x : Int) (w : World) : Calls Tryd.prog 86 #[.int .i64 x, .int .i64 1] w (Ret w fun v w' => OwnI w' w.heap.size 3 v [sgn01 x]) := by
  unfold sgn01
  by_cases h : 0 < x
  · rw [if_pos h]
    go_enter Tryd.func86, Tryd.ntmps86
    go_wp2
    go_ret
    exact Ret.mk1 (SH.ownRet ((SH.start0 w).ownLit .i64 3 [1] (by simp [maxLen]))) ((SH.start0 w).ownLit .i64 3 [1] (by simp [maxLen])).done
  · rw [if_neg h]
    go_enter Tryd.func86, Tryd.ntmps86
    go_wp2
    go_ret
    exact Ret.mk1 (SH.ownRet ((SH.start0 w).ownLit .i64 3 [0] (by simp [maxLen]))) ((SH.start0 w).ownLit .i64 3 [0] (by simp [maxLen])).done
set_option maxRecDepth 100000 in
set_option maxHeartbeats 4000000 in
theorem specSlice_c (va : Value) (ss : List (Int × Int)) (w : World) (h : RdM 2 w va ss.length (bC ss)) (hv : sgB ss = true) :
    Calls Tryd.prog 55 #[va, .int .i64 1] w (Ret w fun v w' => OwnI w' w.heap.size 3 v (slcL ss)) := by
  obtain ⟨a, ca, rfl, ml⟩ := h.form
  have hs := SH.start w [rdMP 2 (.slice a ss.length ca) ss.length (bC ss)] (by simp only [List.forall_mem_cons]; exact ⟨⟨⟨h, by decide⟩, rdMP_wr⟩, by simp⟩)
  clear h
  have hl := (sgB_true.1 hv).1
  have HV := Lib.hid hv
  clear hv
  go_enter Tryd.func55, Tryd.ntmps55
  go_wp2_with fail
  have hs := hs.ownEmpty .i64 3
  refine (SH.quiet hs (by repeat' (first | with_reducible exact Below.refl _ _ | with_reducible assumption | with_reducible refine below_drewN ?_ _ | with_reducible refine Below.drew ?_ | with_reducible refine Below.alloc ?_ ?_ _ | with_reducible refine Below.setCell ?_ ?_ _ | go_size)) fun hs => specSignalValid_c _ ss _ hs.p1.1).mono ?_
  rintro e w2 ⟨rfl, hs⟩
  rw [HV.out]
  go_wp2_with fail
  refine (l9Order_c _).mono ?_
  rintro e w3 ⟨rfl, hw3⟩
  rw [hw3]
  clear hw3
  go_wp2
  generalize w.heap.size = B0 at hs ⊢
  go_loopw [5, 6] (fun o i wr => ∃ k : Nat, k ≤ ss.length ∧ i = .int .i64 k ∧ SH none w wr [ownP .i64 3 o ((slcL ss).take k), rdMP 2 (.slice a ss.length ca) ss.length (bC ss)]) (fun _ i _ => ss.length - (intOf i).toNat)
  case atStart => exact ⟨0, Nat.zero_le _, rfl, hs⟩
  case round =>
    clear hs
    obtain ⟨k, hk, rfl, hs⟩ := hrel
    have hkl : ((slcL ss).take k).length = k := by rw [List.length_take, slcL_len]; omega
    obtain ⟨ao, co, rfl, -⟩ := (OwnK.rd hs.p0).form
    rw [hkl] at hs ⊢
    have HKL := Lib.hid hkl
    clear hkl
    by_cases hlt : k < ss.length
    · obtain ⟨b, off, rfl, hc⟩ := (SH.p1 hs).1.at_ hlt
      have c0 := hc 0 (by decide)
      rw [Nat.add_zero] at c0
      simp only [bC] at c0
      have HT := Lib.hid (slc_take hlt)
      have i2 : (k : Int) < (ss.length : Int) := by omega
      clear hc
      go_wp2_with fail
      refine (SH.own hs (by repeat' (first | with_reducible exact Below.refl _ _ | with_reducible assumption | with_reducible refine below_drewN ?_ _ | with_reducible refine Below.drew ?_ | with_reducible refine Below.alloc ?_ ?_ _ | with_reducible refine Below.setCell ?_ ?_ _ | go_size)) fun hs => l9Slice_c (bF ss k) _).mono ?_
      rintro e w5 ⟨v5, rfl, hs⟩
      have hs := hs.bring1
      go_wp2_with (at_builtin; refine wp_appKX (xs := (slcL ss).take k) (ys := [sgn01 (bF ss k)]) rfl rfl .i64 3 8 Tryd.underlying22 info_int rfl hs rfl (OwnK.rd hs.p1) (by rw [HKL.out]; simp; omega) (by rw [HKL.out]; simp; unfold maxLen; omega) ?_; intro v6 w6 hs)
      go_roundw
      case rel => exact ⟨k + 1, hlt, by go_num, by rw [HT.out]; exact hs.drop1⟩
      case measure => simp [intOf]; omega
    · obtain rfl : k = ss.length := by omega
      rw [List.take_of_length_le (by rw [slcL_len]; exact Nat.le_refl _)] at hs
      go_wp2
      go_ret
      exact Ret.mk1 (SH.ownRet hs) hs.done
end Go.Proofs.YtpcmfmkpgidgpaaDoor
