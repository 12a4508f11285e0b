import Derived.Test.YtjgafkoboolclaaDoorProg
import Derived.Test.YtjgafkoboolclaaDoorLib
import Derived.Test.YtjgafkoboolclaaDoorNum
import Derived.Test.YtjgafkoboolclaaDoorSym
import Derived.Test.YtjgafkoboolclaaDoorInts
import Derived.Test.YtjgafkoboolclaaDoorBlk
import Derived.Test.YtjgafkoboolclaaDoorApp
import Derived.Test.YtjgafkoboolclaaDoorAppZ
import Derived.Test.YtjgafkoboolclaaDoorCrc
import Derived.Test.YtjgafkoboolclaaDoorRead
import Derived.Test.YtjgafkoboolclaaDoorRed
import Derived.Test.YtjgafkoboolclaaDoorRed2
import Derived.Test.YtjgafkoboolclaaDoorStuff
import Derived.Test.YtjgafkoboolclaaDoorFlag
import Derived.Test.YtjgafkoboolclaaDoorFind
import Derived.Lib.SliceRun
namespace Go.Proofs.YtjgafkoboolclaaDoor
open Go.RowKit

/-! Check bits, and frames that are built. -/
/-- the remainder, t zeros later -/
def remZ (xs : List Int) (t : Nat) : Nat := stepsN (remT xs xs.length) (List.replicate t 0)
theorem remZ_succ (xs : List Int) (t : Nat) : remZ xs (t + 1) = stepN (remZ xs t) 0 := by
  unfold remZ; rw [List.replicate_succ', steps_snoc]
theorem remZ_lt {xs : List Int} (h : okB xs) (t : Nat) : remZ xs t < 65536 :=
  stepsN_lt _ _ (remT_lt h _) (fun b hb => by rw [(List.mem_replicate.1 hb).2]; omega)
theorem bN_cat (xs ys : List Int) : bN (xs ++ ys) = bN xs ++ bN ys := by simp [bN]
theorem remT_all (xs : List Int) : remT xs xs.length = stepsN 0 (bN xs) := by
  unfold remT; rw [List.take_of_length_le (by rw [bN_len]; exact Nat.le_refl _)]
theorem remT_zeros (xs : List Int) (t : Nat) : remT (xs ++ List.replicate t 0) (xs ++ List.replicate t 0).length = remZ xs t := by
  rw [remT_all, bN_cat, steps_cat]
  unfold remZ
  rw [remT_all]
  congr 1
  simp [bN]
theorem okB_zeros {xs : List Int} (h : okB xs) (t : Nat) : okB (xs ++ List.replicate t 0) := by
  intro i hi
  by_cases e : i < xs.length
  · rw [gi_append_left e]; exact h i e
  · left
    unfold gi
    rw [List.getD_eq_getElem?_getD, List.getElem?_append_right (by omega), List.getElem?_replicate]
    split <;> rfl
theorem remZ_one {xs : List Int} (h : okB xs) (t : Nat) : (remZ xs t * 2 + 0) % 65536 ^^^ tabN ((remZ xs t * 2 + 0) / 65536) = remZ xs (t + 1) := by
  have hf := feed1 (remZ_lt h t) (b := 0) (by omega)
  rw [Nat.shiftRight_eq_div_pow, Nat.mul_comm] at hf
  rw [remZ_succ]
  exact hf
/-- the first k of the sixteen bits of a number -/
def chkT (R k : Nat) : List Int := (List.range k).map fun i => ((R / 2 ^ (15 - i) % 2 : Nat) : Int)
theorem chkT_succ (R k : Nat) : chkT R (k + 1) = chkT R k ++ [((R / 2 ^ (15 - k) % 2 : Nat) : Int)] := by
  simp [chkT, List.range_succ]
theorem chkT_len (R k : Nat) : (chkT R k).length = k := by simp [chkT]
/-- the check bits -/
def chkL (xs : List Int) : List Int := chkT (remZ xs 16) 16
theorem chkL_len (xs : List Int) : (chkL xs).length = 16 := chkT_len _ _
theorem chkT_set {R k n : Nat} (h : k < n) : (chkT R k ++ List.replicate (n - k) 0).set k ((R / 2 ^ (15 - k) % 2 : Nat) : Int) = chkT R (k + 1) ++ List.replicate (n - (k + 1)) 0 := by
  rw [List.set_append, if_neg (by rw [chkT_len]; omega), chkT_len, Nat.sub_self, show n - k = (n - (k + 1)) + 1 by omega, List.replicate_succ, List.set_cons_zero, chkT_succ, List.append_assoc]
  rfl
theorem okB_of {xs : List Int} (h : bitsB xs = true) : okB xs := (bitsB_true.1 h).2
theorem chkT_bits (R k : Nat) : okB (chkT R k) := by
  intro i hi
  rw [chkT_len] at hi
  have : gi (chkT R k) i = ((R / 2 ^ (15 - i) % 2 : Nat) : Int) := by simp [gi, chkT, hi]
  rw [this]
  omega
/-- a frame -/
def bfV (xs : List Int) : List Int := if bitsB xs && decide (xs.length ≤ 256) then flagL ++ stV (xs ++ chkL xs) ++ flagL else []
theorem bfV_len (xs : List Int) : (bfV xs).length ≤ 1040 := by
  unfold bfV
  split
  · have := stV_len (xs ++ chkL xs)
    simp only [List.length_append, show flagL.length = 8 from rfl]; omega
  · simp
set_option maxRecDepth 100000 in
set_option maxHeartbeats 4000000 in
theorem remainder16_c (va : Value) (xs : List Int) (g : Nat) (C : Array Value) (w : World) (h : RdI w va xs) (hx : okB xs) (hl : xs.length ≤ 1048576) (hb : w.heap[g]? = some (.cells C 78)) (hC : RedC C 256) :
    Calls Tryd.prog 59 #[va, .int .i64 16, .pointer (some ⟨g, 0, none⟩)] w (RetQ w (.int .i64 (remZ xs 16 : Int))) := by
  obtain ⟨a, ca, rfl, mc, mx⟩ := h.form'
  have H := Lib.hid h
  have HB := Lib.hid hb
  have HX := Lib.hid hx
  have hgl := blk_lt hb
  clear h hb hx
  go_enter Tryd.func59, Tryd.ntmps59
  go_wp2
  go_loopw [7, 8] (fun r i wr => ∃ k : Nat, k ≤ xs.length % 8 ∧ i = .int .i64 k ∧ r = .int .i64 (remT xs k : Int) ∧ Hid (SameW w wr)) (fun _ i _ => xs.length - (intOf i).toNat)
  case atStart => exact ⟨0, Nat.zero_le _, rfl, rfl, Lib.hid (SameW.refl _)⟩
  case round =>
    obtain ⟨k, hk, rfl, rfl, HS⟩ := hrel
    have hkl : k ≤ xs.length := by omega
    by_cases hlt : k < xs.length % 8
    · have hkn : k < xs.length := by omega
      obtain ⟨b, off, rfl, hc⟩ := (H.out.below HS.out.below).at_ hkn
      obtain ⟨y, hy⟩ : ∃ y : Nat, gi xs k = (y : Int) ∧ y ≤ 1 := ⟨(gi xs k).toNat, by have := HX.out k hkn; omega, by have := HX.out k hkn; omega⟩
      have HY := Lib.hid hy.1
      have hy1 := hy.2
      rw [hy.1] at hc
      clear hy
      have e8 : (((xs.length : Int) - (k : Int)) % 8 != 0) = true := by rw [bne_iff_ne]; omega
      have HR1 := Lib.hid (remT_one HX.out hkn)
      have hrl := remT_lt HX.out k
      go_wp2_with fail
      refine (feedOne_c g C (remT xs k) y _ ((HS.out.below.block g hgl).trans HB.out) hC hrl (by omega)).mono ?_
      rintro e w2 hr
      obtain ⟨rfl, hs1⟩ := hr.same
      have HS1 := Lib.hid (HS.out.trans hs1)
      clear hr hs1
      have e1 : ((remT xs k * 2 + y) % 65536 ^^^ tabN ((remT xs k * 2 + y) / 65536) : Nat) = remT xs (k + 1) := by
        have := HR1.out
        rwa [HY.out, Int.toNat_natCast] at this
      rw [e1]
      clear e1 e8
      go_wp2
      go_roundw
      case rel => exact ⟨k + 1, by omega, by go_num, rfl, HS1⟩
      case measure => simp [intOf]; omega
    · have e8 : (((xs.length : Int) - (k : Int)) % 8 != 0) = false := by rw [bne_eq_false_iff_eq]; omega
      have hk8 : k = xs.length % 8 := by omega
      have HK8 := Lib.hid hk8
      clear hk8 hlt hk
      go_wp2
      go_loopw [7, 8] (fun r i wr => ∃ k : Nat, k ≤ xs.length ∧ (xs.length - k) % 8 = 0 ∧ i = .int .i64 k ∧ r = .int .i64 (remT xs k : Int) ∧ Hid (SameW w wr)) (fun _ i _ => xs.length - (intOf i).toNat)
      case atStart => exact ⟨k, hkl, by rw [HK8.out]; omega, rfl, rfl, HS⟩
      case round =>
        clear HS HK8 hkl e8
        obtain ⟨k, hkl, hk8, rfl, rfl, HS⟩ := hrel
        by_cases hlt : k < xs.length
        · have hk9 : k + 8 ≤ xs.length := by omega
          obtain ⟨b, off, rfl, -⟩ := (H.out.below HS.out.below).at_ hlt
          have hcap : ¬ ca = k := by omega
          have HR8 := Lib.hid (remT_eight HX.out hk9)
          have hrl := remT_lt HX.out k
          go_wp2_with fail
          go_loopw [9, 39] (fun e i w3 => ∃ j : Nat, j ≤ 8 ∧ i = .int .i64 j ∧ e = .int .i64 (wdT xs k j : Int) ∧ Hid (SameW w w3)) (fun _ i _ => 8 - (intOf i).toNat)
          case atStart => exact ⟨0, by decide, rfl, rfl, HS⟩
          case round =>
            clear HS
            obtain ⟨j, hj, rfl, rfl, HS⟩ := hrel
            by_cases hj8 : j < 8
            · have hkj : k + j < xs.length := by omega
              obtain ⟨b2, o2, e2, hc⟩ := (H.out.below HS.out.below).at_ hkj
              cases e2
              obtain ⟨y, hy⟩ : ∃ y : Nat, gi xs (k + j) = (y : Int) ∧ y ≤ 1 := ⟨(gi xs (k + j)).toNat, by have := HX.out (k + j) hkj; omega, by have := HX.out (k + j) hkj; omega⟩
              have hy1 := hy.2
              have HW := Lib.hid (wdT_succ (xs := xs) (k := k) (j := j) hkj)
              rw [hy.1] at hc HW
              rw [← Nat.add_assoc] at hc
              clear hy
              have hwl : wdT xs k j < 128 := Nat.lt_of_lt_of_le (wdT_lt HX.out k j) (Nat.pow_le_pow_right (n := 2) (by decide) (show j ≤ 7 by omega))
              have ho : bits .or .i64 ((wdT xs k j : Int) * 2) (y : Int) = ((wdT xs k j * 2 + y : Nat) : Int) := or_even 1 (by omega) (by omega)
              go_wp2
              go_roundw
              case rel => exact ⟨j + 1, hj8, by go_num, intv (by rw [HW.out, Int.toNat_natCast]; omega), HS⟩
              case measure => simp [intOf]; omega
            · obtain rfl : j = 8 := by omega
              have hwl : wdT xs k 8 < 2 ^ 8 := wdT_lt HX.out k 8
              go_wp2_with fail
              refine (feed_c g C (remT xs k) (wdT xs k 8) _ ((HS.out.below.block g hgl).trans HB.out) hC hrl hwl).mono ?_
              rintro e w2 hr
              obtain ⟨rfl, hs1⟩ := hr.same
              have HS1 := Lib.hid (HS.out.trans hs1)
              clear hr hs1
              rw [HR8.out]
              go_wp2
              go_roundw
              case rel => exact ⟨k + 8, hk9, by omega, by go_num, rfl, HS1⟩
              case measure => simp [intOf]; omega
        · obtain rfl : k = xs.length := by omega
          go_wp2_with fail
          go_loopw [7, 53] (fun r i w3 => ∃ t : Nat, t ≤ 16 ∧ i = .int .i64 t ∧ r = .int .i64 (remZ xs t : Int) ∧ Hid (SameW w w3)) (fun _ i _ => 16 - (intOf i).toNat)
          case atStart => exact ⟨0, by decide, rfl, rfl, HS⟩
          case round =>
            clear HS
            obtain ⟨t, ht, rfl, rfl, HS⟩ := hrel
            by_cases ht16 : t < 16
            · have HR1 := Lib.hid (remZ_one HX.out t)
              have hrl := remZ_lt HX.out t
              go_wp2_with fail
              refine (feedOne_c g C (remZ xs t) 0 _ ((HS.out.below.block g hgl).trans HB.out) hC hrl (by omega)).mono ?_
              rintro e w2 hr
              obtain ⟨rfl, hs1⟩ := hr.same
              have HS1 := Lib.hid (HS.out.trans hs1)
              clear hr hs1
              rw [HR1.out]
              go_wp2
              go_roundw
              case rel => exact ⟨t + 1, ht16, by go_num, rfl, HS1⟩
              case measure => simp [intOf]; omega
            · obtain rfl : t = 16 := by omega
              go_wp2
              go_ret
              exact RetQ.mkS rfl HS.out
set_option maxRecDepth 100000 in
set_option maxHeartbeats 4000000 in
theorem implCheckBits_c (va : Value) (xs : List Int) (w : World) (h : RdI w va xs) (hv : bitsB xs = true) :
    Calls Tryd.prog 52 #[va, .int .i64 69665] w (Ret w fun v w' => OwnI w' w.heap.size 3 v (chkL xs)) := by
  obtain ⟨a, ca, rfl, mc, mx⟩ := h.form'
  have hs := SH.start w [rdP .i64 (.slice a xs.length ca) xs] (by simp only [List.forall_mem_cons]; exact ⟨⟨h, rdP_wr⟩, by simp⟩)
  clear h
  obtain ⟨hl, hx⟩ := bitsB_true.1 hv
  have HX := Lib.hid (show okB xs from hx)
  clear hx
  go_enter Tryd.func52, Tryd.ntmps52
  go_wp2_with fail
  refine (SH.quiet hs (by repeat' (first | with_reducible exact Below.refl _ _ | with_reducible assumption | with_reducible refine below_drewN ?_ _ | with_reducible refine Below.drew ?_ | with_reducible refine Below.alloc ?_ ?_ _ | with_reducible refine Below.setCell ?_ ?_ _ | go_size)) fun hs => implBitsValid_c _ xs _ hs.p0).mono ?_
  rintro e w1 ⟨rfl, hs⟩
  rw [hv]
  go_wp2_with fail
  refine (SH.quiet hs (by repeat' (first | with_reducible exact Below.refl _ _ | with_reducible assumption | with_reducible refine below_drewN ?_ _ | with_reducible refine Below.drew ?_ | with_reducible refine Below.alloc ?_ ?_ _ | with_reducible refine Below.setCell ?_ ?_ _ | go_size)) fun hs => genValid_c _).mono ?_
  rintro e w2 ⟨rfl, hs⟩
  go_wp2_with fail
  refine (SH.quiet hs (by repeat' (first | with_reducible exact Below.refl _ _ | with_reducible assumption | with_reducible refine below_drewN ?_ _ | with_reducible refine Below.drew ?_ | with_reducible refine Below.alloc ?_ ?_ _ | with_reducible refine Below.setCell ?_ ?_ _ | go_size)) fun hs => degreeOf_c _).mono ?_
  rintro e w3 ⟨rfl, hs⟩
  go_wp2_with fail
  refine (newReducer_c _).mono ?_
  rintro e w4 ⟨g, rfl, C, hC, hj⟩
  have HC := Lib.hid hC
  have hs := hs.joinBlk (by repeat' (first | with_reducible exact Below.refl _ _ | with_reducible assumption | with_reducible refine below_drewN ?_ _ | with_reducible refine Below.drew ?_ | with_reducible refine Below.alloc ?_ ?_ _ | with_reducible refine Below.setCell ?_ ?_ _ | go_size)) hj
  clear hC hj
  go_wp2_with fail
  refine (SH.quiet hs (by repeat' (first | with_reducible exact Below.refl _ _ | with_reducible assumption | with_reducible refine below_drewN ?_ _ | with_reducible refine Below.drew ?_ | with_reducible refine Below.alloc ?_ ?_ _ | with_reducible refine Below.setCell ?_ ?_ _ | go_size)) fun hs => remainder16_c _ xs g C _ hs.p1 HX.out (by omega) hs.p0 HC.out).mono ?_
  rintro e w5 ⟨rfl, hs⟩
  have hRl := remZ_lt HX.out 16
  obtain ⟨R, hR⟩ : ∃ R, remZ xs 16 = R := ⟨_, rfl⟩
  have HF : Hid (chkL xs = chkT R 16) := by unfold Hid chkL; rw [hR]
  rw [hR] at hRl ⊢
  clear hR
  go_wp2_with (at_make; refine wp_makeK rfl rfl .i64 w5.heap.size 3 8 Tryd.underlying22 info_int 16 rfl rfl rfl rfl (by omega) (by unfold maxLen; omega) (Nat.le_refl _) ?_; intro w6 hown hg hsz)
  have hs := (hs.pushOwn (below_of_grown hg) hown).drop1
  clear hown hg hsz
  generalize hG : w5.heap.size = G at *
  go_loopw [28] (fun i wr => ∃ k : Nat, k ≤ 16 ∧ i = .int .i64 k ∧ SH none w wr [ownP .i64 3 (.slice (some ⟨G, 0, none⟩) 16 16) (chkT R k ++ List.replicate (16 - k) 0), rdP .i64 (.slice a xs.length ca) xs]) (fun i _ => 16 - (intOf i).toNat)
  case atStart => exact ⟨0, by decide, rfl, hs⟩
  case round =>
    clear hs
    obtain ⟨k, hk, rfl, hs⟩ := hrel
    by_cases hlt : k < 16
    · obtain ⟨g2, eg, -, hgc, hgf⟩ := OwnK.at_ hs.p0 hlt
      cases eg
      have w1 : IntKind.i64.wrap ((15 : Int) - (k : Int)) = ((15 - k : Nat) : Int) := by rw [show ((15 : Int) - (k : Int)) = ((15 - k : Nat) : Int) by omega]; exact IntWalk.i64_in _ (by omega)
      obtain ⟨p, hp⟩ : ∃ p, 15 - k = p := ⟨_, rfl⟩
      have hp15 : p ≤ 15 := by omega
      have HP := Lib.hid hp
      rw [hp] at w1
      clear hp
      have ha : bits .and .i64 ((R : Int) / 2 ^ p) 1 = ((R / 2 ^ p % 2 : Nat) : Int) := by
        rw [show ((R : Int) / 2 ^ p) = ((R / 2 ^ p : Nat) : Int) by simp, show (1 : Int) = ((1 : Nat) : Int) from rfl, and_nat _ _ (by have := Nat.div_le_self R (2 ^ p); omega) (by decide), Nat.and_one_is_mod]
      go_wp2
      go_roundw
      case rel => exact ⟨k + 1, hlt, by go_num, by have := hs.setOwn hlt (((R / 2 ^ (15 - k) % 2 : Nat) : Int)); rw [chkT_set hlt, HP.out] at this; exact this⟩
      case measure => simp [intOf]; omega
    · obtain rfl : k = 16 := by omega
      go_wp2
      go_ret
      exact Ret.mk1 (by rw [HF.out]; have := SH.ownRet hs; rwa [Nat.sub_self, List.replicate_zero, List.append_nil] at this) hs.done
set_option maxRecDepth 100000 in
set_option maxHeartbeats 4000000 in
theorem implCheckAppend_c (va : Value) (xs : List Int) (w : World) (h : RdI w va xs) (hv : bitsB xs = true) (h256 : xs.length ≤ 256) :
    Calls Tryd.prog 33 #[va, .int .i64 69665] w (Ret w fun v w' => OwnI w' w.heap.size 3 v (xs ++ chkL xs)) := by
  obtain ⟨a, ca, rfl, mc, mx⟩ := h.form'
  have hs := SH.start w [rdP .i64 (.slice a xs.length ca) xs] (by simp only [List.forall_mem_cons]; exact ⟨⟨h, rdP_wr⟩, by simp⟩)
  clear h
  have HV := Lib.hid hv
  clear hv
  have qT : ∀ (w : World) (a : Option Addr) (n c n' c' : Nat), (binOp .eql 22 (.slice a n c) (.slice none n' c')).run Tryd.prog w = .ok (.bool a.isNone) w := fun w a n c n' c' => Lib.run_eql_slice_nil w _ _ a n c n' c' Tryd.underlying22
  go_enter Tryd.func33, Tryd.ntmps33
  go_wp2_with fail
  refine (SH.own hs (by repeat' (first | with_reducible exact Below.refl _ _ | with_reducible assumption | with_reducible refine below_drewN ?_ _ | with_reducible refine Below.drew ?_ | with_reducible refine Below.alloc ?_ ?_ _ | with_reducible refine Below.setCell ?_ ?_ _ | go_size)) fun hs => implCheckBits_c _ xs _ hs.p0 HV.out).mono ?_
  rintro e w1 ⟨v1, rfl, hs⟩
  obtain ⟨X, hX⟩ : ∃ X, chkL xs = X := ⟨_, rfl⟩
  have hXl : X.length = 16 := by rw [← hX]; exact chkL_len xs
  have HX := Lib.hid hX
  rw [hX] at hs
  clear hX
  obtain ⟨aX, cX, rfl, hcx, -⟩ := (OwnK.rd hs.p0).form'
  obtain ⟨bX, oX, rfl, -⟩ := RdK.at_ (OwnK.rd hs.p0) (i := 0) (by omega)
  rw [hXl] at hs ⊢
  go_wp2_with (first | (at_make; refine wp_make0K rfl rfl .i64 w1.heap.size 3 8 Tryd.underlying22 info_int (xs.length + 16) rfl rfl rfl (by omega) (by unfold maxLen; omega) (Nat.le_refl _) ?_; intro w2 hown hg hsz; have hs := hs.pushOwn (below_of_grown hg) hown; clear hown hg hsz) | (at_builtin; refine wp_appKX rfl rfl .i64 3 8 Tryd.underlying22 info_int rfl hs rfl (hs.p2) (by simp; omega) (by simp; unfold maxLen; omega) ?_; intro v4 w4 hs) | (at_builtin; refine wp_appKX rfl rfl .i64 3 8 Tryd.underlying22 info_int rfl hs rfl (OwnK.rd hs.p1) (by simp; omega) (by simp; unfold maxLen; omega) ?_; intro v5 w5 hs))
  go_ret
  exact Ret.mk1 (by rw [HX.out]; exact SH.ownRet hs) hs.done
set_option maxRecDepth 100000 in
set_option maxHeartbeats 4000000 in
theorem implBuildFrame_c (va : Value) (xs : List Int) (w : World) (h : RdI w va xs) (hg : RdI w (.slice (some ⟨0, 0, none⟩) 8 8) flagL) :
    Calls Tryd.prog 10 #[va] w (Ret w fun v w' => OwnI w' w.heap.size 3 v (bfV xs)) := by
  obtain ⟨a, ca, rfl, mc, mx⟩ := h.form'
  have hs := SH.start w [rdP .i64 (.slice a xs.length ca) xs, rdP .i64 (.slice (some ⟨0, 0, none⟩) 8 8) flagL] (by simp only [List.forall_mem_cons]; exact ⟨⟨h, rdP_wr⟩, ⟨hg, rdP_wr⟩, by simp⟩)
  clear h hg
  cases hv : bitsB xs
  · have HF : Hid (bfV xs = []) := by unfold Hid bfV; rw [hv]; rfl
    go_enter Tryd.func10, Tryd.ntmps10
    go_wp2_with fail
    refine (SH.quiet hs (by repeat' (first | with_reducible exact Below.refl _ _ | with_reducible assumption | with_reducible refine below_drewN ?_ _ | with_reducible refine Below.drew ?_ | with_reducible refine Below.alloc ?_ ?_ _ | with_reducible refine Below.setCell ?_ ?_ _ | go_size)) fun hs => implBitsValid_c _ xs _ hs.p0).mono ?_
    rintro e w1 ⟨rfl, hs⟩
    rw [hv]
    go_wp2
    go_ret
    exact Ret.mk1 (by rw [HF.out]; exact OwnK.nil _ _ _ _) hs.done
  have HV := Lib.hid hv
  by_cases h256 : xs.length ≤ 256
  · have HF : Hid (bfV xs = [] ++ flagL ++ stV (xs ++ chkL xs) ++ flagL) := by unfold Hid bfV; rw [hv, decide_eq_true h256]; rfl
    have hL := stV_len (xs ++ chkL xs)
    go_enter Tryd.func10, Tryd.ntmps10
    go_wp2_with fail
    refine (SH.quiet hs (by repeat' (first | with_reducible exact Below.refl _ _ | with_reducible assumption | with_reducible refine below_drewN ?_ _ | with_reducible refine Below.drew ?_ | with_reducible refine Below.alloc ?_ ?_ _ | with_reducible refine Below.setCell ?_ ?_ _ | go_size)) fun hs => implBitsValid_c _ xs _ hs.p0).mono ?_
    rintro e w1 ⟨rfl, hs⟩
    rw [hv]
    clear hv
    have hfl : flagL.length = 8 := rfl
    go_wp2_with (at_builtin; refine wp_appKX (xs := []) (ys := flagL) rfl rfl .i64 3 8 Tryd.underlying22 info_int rfl (hs.ownEmpty .i64 3) rfl ((hs.ownEmpty .i64 3).p2) (by decide) (by decide) ?_; intro v2 w2 hs)
    refine (SH.own hs (by repeat' (first | with_reducible exact Below.refl _ _ | with_reducible assumption | with_reducible refine below_drewN ?_ _ | with_reducible refine Below.drew ?_ | with_reducible refine Below.alloc ?_ ?_ _ | with_reducible refine Below.setCell ?_ ?_ _ | go_size)) fun hs => implCheckAppend_c _ xs _ hs.p1 HV.out h256).mono ?_
    rintro e w3 ⟨v3, rfl, hs⟩
    go_wp2_with fail
    refine (SH.own hs (by repeat' (first | with_reducible exact Below.refl _ _ | with_reducible assumption | with_reducible refine below_drewN ?_ _ | with_reducible refine Below.drew ?_ | with_reducible refine Below.alloc ?_ ?_ _ | with_reducible refine Below.setCell ?_ ?_ _ | go_size)) fun hs => implStuffBits_c _ _ _ (OwnK.rd hs.p0)).mono ?_
    rintro e w4 ⟨v4, rfl, hs⟩
    have hs := hs.drop1.bring1
    obtain ⟨Y, hY⟩ : ∃ Y, stV (xs ++ chkL xs) = Y := ⟨_, rfl⟩
    rw [hY] at hL hs HF
    clear hY
    go_wp2_with (first | (at_builtin; refine wp_appKX (ys := Y) rfl rfl .i64 3 8 Tryd.underlying22 info_int rfl hs rfl (OwnK.rd hs.p1) (by simp [hfl]; omega) (by simp [hfl]; unfold maxLen; omega) ?_; intro v5 w5 hs) | (at_builtin; refine wp_appKX (ys := flagL) rfl rfl .i64 3 8 Tryd.underlying22 info_int rfl hs rfl (hs.p3) (by simp [hfl]; omega) (by simp [hfl]; unfold maxLen; omega) ?_; intro v6 w6 hs))
    go_ret
    exact Ret.mk1 (by rw [HF.out]; exact SH.ownRet hs) hs.done
  · have HF : Hid (bfV xs = []) := by unfold Hid bfV; rw [hv, decide_eq_false h256]; rfl
    have hd : decide ((xs.length : Int) > 256) = true := by rw [decide_eq_true_eq]; omega
    go_enter Tryd.func10, Tryd.ntmps10
    go_wp2_with fail
    refine (SH.quiet hs (by repeat' (first | with_reducible exact Below.refl _ _ | with_reducible assumption | with_reducible refine below_drewN ?_ _ | with_reducible refine Below.drew ?_ | with_reducible refine Below.alloc ?_ ?_ _ | with_reducible refine Below.setCell ?_ ?_ _ | go_size)) fun hs => implBitsValid_c _ xs _ hs.p0).mono ?_
    rintro e w1 ⟨rfl, hs⟩
    rw [hv]
    go_wp2
    go_ret
    exact Ret.mk1 (by rw [HF.out]; exact OwnK.nil _ _ _ _) hs.done
set_option maxRecDepth 100000 in
set_option maxHeartbeats 4000000 in
theorem specCheckBits_c (va : Value) (xs : List Int) (w : World) (h : RdI w va xs) (hv : bitsB xs = true) :
    Calls Tryd.prog 50 #[va, .int .i64 69665] w (Ret w fun v w' => OwnI w' w.heap.size 3 v (chkL xs)) := by
  obtain ⟨a, ca, rfl, mc, mx⟩ := h.form'
  have hs := SH.start w [rdP .i64 (.slice a xs.length ca) xs] (by simp only [List.forall_mem_cons]; exact ⟨⟨h, rdP_wr⟩, by simp⟩)
  clear h
  obtain ⟨hl, hx⟩ := bitsB_true.1 hv
  have HX := Lib.hid (show okB xs from hx)
  clear hx
  go_enter Tryd.func50, Tryd.ntmps50
  go_wp2_with fail
  have hs := hs.ownEmpty .i64 3
  refine (SH.quiet hs (by repeat' (first | with_reducible exact Below.refl _ _ | with_reducible assumption | with_reducible refine below_drewN ?_ _ | with_reducible refine Below.drew ?_ | with_reducible refine Below.alloc ?_ ?_ _ | with_reducible refine Below.setCell ?_ ?_ _ | go_size)) fun hs => specBitsValid_c _ xs _ hs.p1).mono ?_
  rintro e w1 ⟨rfl, hs⟩
  rw [hv]
  go_wp2_with fail
  refine (SH.quiet hs (by repeat' (first | with_reducible exact Below.refl _ _ | with_reducible assumption | with_reducible refine below_drewN ?_ _ | with_reducible refine Below.drew ?_ | with_reducible refine Below.alloc ?_ ?_ _ | with_reducible refine Below.setCell ?_ ?_ _ | go_size)) fun hs => specGen_c _).mono ?_
  rintro e w2 ⟨rfl, hs⟩
  go_wp2_with fail
  refine (SH.quiet hs (by repeat' (first | with_reducible exact Below.refl _ _ | with_reducible assumption | with_reducible refine below_drewN ?_ _ | with_reducible refine Below.drew ?_ | with_reducible refine Below.alloc ?_ ?_ _ | with_reducible refine Below.setCell ?_ ?_ _ | go_size)) fun hs => l2Degree_c _).mono ?_
  rintro e w3 ⟨rfl, hs⟩
  go_wp2_with (first | (at_builtin; refine wp_appKX (xs := []) (ys := xs) rfl rfl .i64 3 8 Tryd.underlying22 info_int rfl (hs.ownEmpty .i64 3) rfl ((hs.ownEmpty .i64 3).p2) (by simp; omega) (by simp; unfold maxLen; omega) ?_; intro v4 w4 hs; rw [List.nil_append] at hs) | (at_builtin; refine wp_appZK (xs := xs) rfl rfl .i64 3 8 Tryd.underlying22 .i64 Tryd.underlying3 info_int rfl hs 16 rfl (by decide) (by omega) (by unfold maxLen; omega) ?_; intro v5 w5 hs))
  refine (SH.quiet hs (by repeat' (first | with_reducible exact Below.refl _ _ | with_reducible assumption | with_reducible refine below_drewN ?_ _ | with_reducible refine Below.drew ?_ | with_reducible refine Below.alloc ?_ ?_ _ | with_reducible refine Below.setCell ?_ ?_ _ | go_size)) fun hs => l2Remainder_c _ _ _ (OwnK.rd hs.p0) (okB_zeros HX.out 16) (by simp; omega)).mono ?_
  rintro e w7 ⟨rfl, hs⟩
  rw [remT_zeros]
  have hs := hs.drop0
  have hRl := remZ_lt HX.out 16
  obtain ⟨R, hR⟩ : ∃ R, remZ xs 16 = R := ⟨_, rfl⟩
  have HF : Hid (chkL xs = chkT R 16) := by unfold Hid chkL; rw [hR]
  rw [hR] at hRl ⊢
  clear hR
  go_wp2
  go_loopw [5, 8] (fun o i wr => ∃ k : Nat, k ≤ 16 ∧ i = .int .i64 ((15 : Int) - (k : Int)) ∧ SH none w wr [ownP .i64 3 o (chkT R k), rdP .i64 (.slice a xs.length ca) xs]) (fun _ i _ => (intOf i + 1).toNat)
  case atStart => exact ⟨0, by decide, rfl, hs⟩
  case round =>
    clear hs
    obtain ⟨k, hk, rfl, hs⟩ := hrel
    have hkl := chkT_len R k
    by_cases hlt : k < 16
    · obtain ⟨p, hp⟩ : ∃ p : Nat, (15 : Int) - (k : Int) = (p : Int) := ⟨15 - k, by omega⟩
      have HP := Lib.hid hp
      have hp15 : p ≤ 15 := by omega
      have hp0 : (0 : Int) ≤ (p : Int) := by omega
      rw [hp]
      clear hp
      have ha : ((R : Int) / 2 ^ p) % 2 = ((R / 2 ^ p % 2 : Nat) : Int) := by simp
      have HT : Hid (chkT R (k + 1) = chkT R k ++ [((R / 2 ^ p % 2 : Nat) : Int)]) := by unfold Hid; rw [chkT_succ, show 15 - k = p by have := HP.out; omega]
      go_wp2_with (at_builtin; refine wp_app1S rfl rfl .i64 3 8 Tryd.underlying22 info_int ((R / 2 ^ p % 2 : Nat) : Int) rfl (hs.alloc _) rfl (by first | exact World.cell?_alloc_at _ _ _ _ rfl | (rw [← ha]; exact World.cell?_alloc_at _ _ _ _ rfl)) (by omega) (by unfold maxLen; omega) ?_; intro v3 w3 hs)
      go_roundw
      case rel => exact ⟨k + 1, hlt, by have := HP.out; exact intv (by omega), by rw [HT.out]; exact hs⟩
      case measure => (simp [intOf]; try omega)
    · obtain rfl : k = 16 := by omega
      go_wp2
      go_ret
      exact Ret.mk1 (by rw [HF.out]; exact SH.ownRet hs) hs.done
set_option maxRecDepth 100000 in
set_option maxHeartbeats 4000000 in
theorem specCheckAppend_c (va : Value) (xs : List Int) (w : World) (h : RdI w va xs) (hv : bitsB xs = true) (h256 : xs.length ≤ 256) :
    Calls Tryd.prog 30 #[va, .int .i64 69665] w (Ret w fun v w' => OwnI w' w.heap.size 3 v (xs ++ chkL xs)) := by
  obtain ⟨a, ca, rfl, mc, mx⟩ := h.form'
  have hs := SH.start w [rdP .i64 (.slice a xs.length ca) xs] (by simp only [List.forall_mem_cons]; exact ⟨⟨h, rdP_wr⟩, by simp⟩)
  clear h
  have HV := Lib.hid hv
  go_enter Tryd.func30, Tryd.ntmps30
  go_wp2_with fail
  refine (SH.quiet hs (by repeat' (first | with_reducible exact Below.refl _ _ | with_reducible assumption | with_reducible refine below_drewN ?_ _ | with_reducible refine Below.drew ?_ | with_reducible refine Below.alloc ?_ ?_ _ | with_reducible refine Below.setCell ?_ ?_ _ | go_size)) fun hs => specBitsValid_c _ xs _ hs.p0).mono ?_
  rintro e w1 ⟨rfl, hs⟩
  rw [hv]
  clear hv
  go_wp2_with fail
  refine (SH.quiet hs (by repeat' (first | with_reducible exact Below.refl _ _ | with_reducible assumption | with_reducible refine below_drewN ?_ _ | with_reducible refine Below.drew ?_ | with_reducible refine Below.alloc ?_ ?_ _ | with_reducible refine Below.setCell ?_ ?_ _ | go_size)) fun hs => specGen_c _).mono ?_
  rintro e w2 ⟨rfl, hs⟩
  go_wp2_with fail
  refine (SH.quiet hs (by repeat' (first | with_reducible exact Below.refl _ _ | with_reducible assumption | with_reducible refine below_drewN ?_ _ | with_reducible refine Below.drew ?_ | with_reducible refine Below.alloc ?_ ?_ _ | with_reducible refine Below.setCell ?_ ?_ _ | go_size)) fun hs => l2Degree_c _).mono ?_
  rintro e w3 ⟨rfl, hs⟩
  go_wp2_with (at_builtin; refine wp_appKX (xs := []) (ys := xs) rfl rfl .i64 3 8 Tryd.underlying22 info_int rfl (hs.ownEmpty .i64 3) rfl ((hs.ownEmpty .i64 3).p1) (by simp; omega) (by simp; unfold maxLen; omega) ?_; intro v4 w4 hs; rw [List.nil_append] at hs)
  refine (SH.own hs (by repeat' (first | with_reducible exact Below.refl _ _ | with_reducible assumption | with_reducible refine below_drewN ?_ _ | with_reducible refine Below.drew ?_ | with_reducible refine Below.alloc ?_ ?_ _ | with_reducible refine Below.setCell ?_ ?_ _ | go_size)) fun hs => specCheckBits_c _ xs _ hs.p1 HV.out).mono ?_
  rintro e w5 ⟨v5, rfl, hs⟩
  have hcl := chkL_len xs
  obtain ⟨X, hX⟩ : ∃ X, chkL xs = X := ⟨_, rfl⟩
  have HX := Lib.hid hX
  rw [hX] at hs hcl
  clear hX
  have hs := hs.bring1
  go_wp2_with (at_builtin; refine wp_appKX (ys := X) rfl rfl .i64 3 8 Tryd.underlying22 info_int rfl hs rfl (OwnK.rd hs.p1) (by omega) (by unfold maxLen; omega) ?_; intro v6 w6 hs)
  go_ret
  exact Ret.mk1 (by rw [HX.out]; exact SH.ownRet hs) hs.done
set_option maxRecDepth 100000 in
set_option maxHeartbeats 4000000 in
theorem specBuildFrame_c (va : Value) (xs : List Int) (w : World) (h : RdI w va xs) :
    Calls Tryd.prog 8 #[va] w (Ret w fun v w' => OwnI w' w.heap.size 3 v (bfV xs)) := by
  obtain ⟨a, ca, rfl, mc, mx⟩ := h.form'
  have hs := SH.start w [rdP .i64 (.slice a xs.length ca) xs] (by simp only [List.forall_mem_cons]; exact ⟨⟨h, rdP_wr⟩, by simp⟩)
  clear h
  cases hv : bitsB xs
  · have HF : Hid (bfV xs = []) := by unfold Hid bfV; rw [hv]; rfl
    go_enter Tryd.func8, Tryd.ntmps8
    go_wp2_with fail
    refine (SH.quiet hs (by repeat' (first | with_reducible exact Below.refl _ _ | with_reducible assumption | with_reducible refine below_drewN ?_ _ | with_reducible refine Below.drew ?_ | with_reducible refine Below.alloc ?_ ?_ _ | with_reducible refine Below.setCell ?_ ?_ _ | go_size)) fun hs => specBitsValid_c _ xs _ hs.p0).mono ?_
    rintro e w1 ⟨rfl, hs⟩
    rw [hv]
    have hs := hs.ownEmpty .i64 3
    go_wp2
    go_ret
    exact Ret.mk1 (by rw [HF.out]; exact SH.ownRet hs) hs.done
  have HV := Lib.hid hv
  by_cases h256 : xs.length ≤ 256
  · have HF : Hid (bfV xs = flagL ++ stV (xs ++ chkL xs) ++ flagL) := by unfold Hid bfV; rw [hv, decide_eq_true h256]; rfl
    have hL := stV_len (xs ++ chkL xs)
    go_enter Tryd.func8, Tryd.ntmps8
    go_wp2_with fail
    refine (SH.quiet hs (by repeat' (first | with_reducible exact Below.refl _ _ | with_reducible assumption | with_reducible refine below_drewN ?_ _ | with_reducible refine Below.drew ?_ | with_reducible refine Below.alloc ?_ ?_ _ | with_reducible refine Below.setCell ?_ ?_ _ | go_size)) fun hs => specBitsValid_c _ xs _ hs.p0).mono ?_
    rintro e w1 ⟨rfl, hs⟩
    rw [hv]
    clear hv
    have hfl : flagL.length = 8 := rfl
    go_wp2_with fail
    refine (SH.own hs (by repeat' (first | with_reducible exact Below.refl _ _ | with_reducible assumption | with_reducible refine below_drewN ?_ _ | with_reducible refine Below.drew ?_ | with_reducible refine Below.alloc ?_ ?_ _ | with_reducible refine Below.setCell ?_ ?_ _ | go_size)) fun hs => l20Flag_c _).mono ?_
    rintro e w2 ⟨v2, rfl, hs⟩
    go_wp2_with fail
    refine (SH.own hs (by repeat' (first | with_reducible exact Below.refl _ _ | with_reducible assumption | with_reducible refine below_drewN ?_ _ | with_reducible refine Below.drew ?_ | with_reducible refine Below.alloc ?_ ?_ _ | with_reducible refine Below.setCell ?_ ?_ _ | go_size)) fun hs => specCheckAppend_c _ xs _ hs.p1 HV.out h256).mono ?_
    rintro e w3 ⟨v3, rfl, hs⟩
    go_wp2_with fail
    refine (SH.own hs (by repeat' (first | with_reducible exact Below.refl _ _ | with_reducible assumption | with_reducible refine below_drewN ?_ _ | with_reducible refine Below.drew ?_ | with_reducible refine Below.alloc ?_ ?_ _ | with_reducible refine Below.setCell ?_ ?_ _ | go_size)) fun hs => specStuffBits_c _ _ _ (OwnK.rd hs.p0)).mono ?_
    rintro e w4 ⟨v4, rfl, hs⟩
    have hs := hs.drop1.bring1
    obtain ⟨Y, hY⟩ : ∃ Y, stV (xs ++ chkL xs) = Y := ⟨_, rfl⟩
    rw [hY] at hL hs HF
    clear hY
    go_wp2_with (at_builtin; refine wp_appKX (ys := Y) rfl rfl .i64 3 8 Tryd.underlying22 info_int rfl hs rfl (OwnK.rd hs.p1) (by omega) (by unfold maxLen; omega) ?_; intro v5 w5 hs)
    refine (SH.own hs (by repeat' (first | with_reducible exact Below.refl _ _ | with_reducible assumption | with_reducible refine below_drewN ?_ _ | with_reducible refine Below.drew ?_ | with_reducible refine Below.alloc ?_ ?_ _ | with_reducible refine Below.setCell ?_ ?_ _ | go_size)) fun hs => l20Flag_c _).mono ?_
    rintro e w6 ⟨v6, rfl, hs⟩
    have hs := hs.bring1
    go_wp2_with (at_builtin; refine wp_appKX (ys := flagL) rfl rfl .i64 3 8 Tryd.underlying22 info_int rfl hs rfl (OwnK.rd hs.p1) (by simp only [List.length_append, hfl]; omega) (by simp only [List.length_append, hfl]; unfold maxLen; omega) ?_; intro v7 w7 hs)
    go_ret
    exact Ret.mk1 (by rw [HF.out]; exact SH.ownRet hs) hs.done
  · have HF : Hid (bfV xs = []) := by unfold Hid bfV; rw [hv, decide_eq_false h256]; rfl
    have hd : decide ((xs.length : Int) > 256) = true := by rw [decide_eq_true_eq]; omega
    go_enter Tryd.func8, Tryd.ntmps8
    go_wp2_with fail
    refine (SH.quiet hs (by repeat' (first | with_reducible exact Below.refl _ _ | with_reducible assumption | with_reducible refine below_drewN ?_ _ | with_reducible refine Below.drew ?_ | with_reducible refine Below.alloc ?_ ?_ _ | with_reducible refine Below.setCell ?_ ?_ _ | go_size)) fun hs => specBitsValid_c _ xs _ hs.p0).mono ?_
    rintro e w1 ⟨rfl, hs⟩
    rw [hv]
    have hs := hs.ownEmpty .i64 3
    go_wp2
    go_ret
    exact Ret.mk1 (by rw [HF.out]; exact SH.ownRet hs) hs.done
end Go.Proofs.YtjgafkoboolclaaDoor
