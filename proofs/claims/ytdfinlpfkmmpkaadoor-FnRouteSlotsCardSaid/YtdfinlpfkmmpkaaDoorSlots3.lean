import Derived.Test.YtdfinlpfkmmpkaaDoorProg
import Derived.Test.YtdfinlpfkmmpkaaDoorSlots2
namespace Go.Proofs.YtdfinlpfkmmpkaaDoor
open Go.RowKit

theorem not_u64 (a : Nat) (ha : a < 1024) : bits .xor .u64 IntKind.u64.max (a : Int) = ((18446744073709551615 - a : Nat) : Int) := by
  have h1 : (BitVec.ofInt 64 (a : Int)).toNat = a := by
    rw [BitVec.ofInt_natCast, BitVec.toNat_ofNat]; exact Nat.mod_eq_of_lt (by omega)
  show IntKind.u64.wrap ((BitVec.ofInt 64 IntKind.u64.max ^^^ BitVec.ofInt 64 (a : Int)).toNat : Int) = _
  have h2 : BitVec.ofInt 64 IntKind.u64.max = BitVec.allOnes 64 := by decide
  rw [h2, BitVec.allOnes_xor, BitVec.toNat_not, h1, IntKind.wrap_u64]
  omega
set_option maxRecDepth 100000 in
set_option maxHeartbeats 4000000 in
theorem used_c (R : Nat) (va : Value) (S : List Int) (w : World) (h : RdI w va S) (hR : R < 1024) (hS : ∀ j, j < S.length → 0 ≤ gi S j ∧ gi S j ≤ 9) (hl : S.length ≤ 10) :
    Calls Tryd.prog 23 #[.int .u64 R, va] w (RetQ w (.int .u64 (usdN R S S.length : Nat))) := by
  obtain ⟨a, ca, rfl, ml⟩ := h.form
  have H := Lib.hid h
  have HS := Lib.hid hS
  have HU : Hid (∀ k, k ≤ S.length → usdN R S k < 1024) := Lib.hid fun k hk => usdN_lt (m := 10) fun j hj => by have := HS.out j (by omega); omega
  clear h hS ml
  go_enter Tryd.func23, Tryd.ntmps23
  go_wp2
  go_loopw [5, 6, 7, 10] (fun u _ _ i wr => ∃ k : Nat, k ≤ S.length ∧ i = .int .i64 k ∧ u = .int .u64 (usdN R S k : Nat) ∧ Hid (SameW w wr)) (fun _ _ _ i _ => S.length - (intOf i).toNat)
  case atStart => exact ⟨0, Nat.zero_le _, rfl, rfl, Lib.hid (SameW.refl _)⟩
  case round =>
    obtain ⟨k, hk, rfl, rfl, HW⟩ := hrel
    by_cases hlt : k < S.length
    · obtain ⟨b, off, rfl, hc⟩ := (H.out.below HW.out.below).at_ hlt
      obtain ⟨y0, y1⟩ := HS.out k hlt
      have HN : Hid (usdN R S (k + 1) = if R.testBit k then usdN R S k ||| 2 ^ (gi S k).toNat else usdN R S k) := Lib.hid rfl
      have hu := HU.out k hk
      obtain ⟨s, hs⟩ : ∃ s : Nat, gi S k = (s : Int) := ⟨(gi S k).toNat, by omega⟩
      rw [hs] at hc HN y1
      rw [Int.toNat_natCast] at HN
      clear hs y0
      generalize usdN R S k = U at *
      have hdm : (R : Int) / 2 ^ k = ((R / 2 ^ k : Nat) : Int) := by simp
      have han := and_u64 (R / 2 ^ k) (Nat.lt_of_le_of_lt (Nat.div_le_self _ _) hR)
      rw [← hdm] at han
      have htb : R.testBit k = decide (R / 2 ^ k % 2 = 1) := Nat.testBit_eq_decide_div_mod_eq
      clear hdm
      cases hT : R.testBit k
      · rw [hT] at htb HN
        have h0 : R / 2 ^ k % 2 = 0 := by have := of_decide_eq_false htb.symm; omega
        rw [h0] at han
        have han2 : bits .and .u64 ((R : Int) / 2 ^ k) 1 = 0 := han
        clear han hT htb h0
        go_wp2
        go_roundw
        case rel => exact ⟨k + 1, hlt, by go_num, by rw [HN.out]; rfl, HW⟩
        case measure => simp [intOf]; omega
      · rw [hT] at htb HN
        have h1 : R / 2 ^ k % 2 = 1 := of_decide_eq_true htb.symm
        rw [h1] at han
        have han2 : bits .and .u64 ((R : Int) / 2 ^ k) 1 = 1 := han
        have hz : ((2 : Int) ^ s) = ((2 ^ s : Nat) : Int) := by simp
        have hp2 := pow_lt10 (show s < 10 by omega)
        obtain ⟨Z, hZ⟩ : ∃ Z : Nat, 2 ^ s = Z := ⟨_, rfl⟩
        rw [hZ] at hz hp2 HN
        have hor := or_u64 _ _ hu hp2
        have hpw : IntKind.u64.wrap ((2 : Int) ^ s) = (Z : Int) := by rw [hz, IntKind.wrap_u64]; omega
        clear hZ han hT htb h1
        go_wp2
        go_roundw
        case rel => exact ⟨k + 1, hlt, by go_num, by rw [HN.out]; rfl, HW⟩
        case measure => simp [intOf]; omega
    · obtain rfl : k = S.length := by omega
      go_wp2
      go_ret
      exact RetQ.mkS rfl HW.out
def dbL : List Int := [0, 1, 56, 2, 57, 49, 28, 3, 61, 58, 42, 50, 38, 29, 17, 4, 62, 47, 59, 36, 45, 43, 51, 22, 53, 39, 33, 30, 24, 18, 12, 5, 63, 55, 48, 27, 60, 41, 37, 16, 46, 35, 44, 21, 52, 32, 23, 11, 54, 26, 40, 15, 34, 20, 31, 10, 25, 14, 19, 9, 13, 8, 7, 6]
theorem dbL_gi : ∀ j, j < 64 → gi dbL j = ((Lib.deBruijn64tab.getD j 0 : Nat) : Int) := by decide +kernel
set_option maxRecDepth 100000 in
set_option maxHeartbeats 4000000 in
theorem greedy_c (va : Value) (vs : Nat → Value) (T : Nat → Nat → Bool) (n : Nat) (w : World) (h : RdT w va vs T n) (hn : n ≤ 10) (hsy : ∀ i j, i < n → j < n → T i j = T j i) (hdg : ∀ i, i < n → T i i = false)
    (hg : RdK .u8 w (.slice (some ⟨1, 0, none⟩) 64 64) dbL) :
    Calls Tryd.prog 9 #[va] w (Ret w fun v w' => OwnI w' w.heap.size 3 v (grdS T n n)) := by
  obtain ⟨a, ca, rfl, ml⟩ := h.rows.form
  have hs := SH.start w [rdTP (.slice a n ca) vs T n, rdP .u8 (.slice (some ⟨1, 0, none⟩) 64 64) dbL] (by simp only [List.forall_mem_cons]; exact ⟨⟨h, rdTP_wr⟩, ⟨hg, rdP_wr⟩, by simp⟩)
  have HS := Lib.hid hsy
  have HD := Lib.hid hdg
  clear h hg ml hsy hdg
  go_enter Tryd.func9, Tryd.ntmps9
  go_wp2_with fail
  refine (SH.quiet hs (by repeat' (first | with_reducible exact Below.refl _ _ | with_reducible assumption | with_reducible refine below_drewN ?_ _ | with_reducible refine Below.drew ?_ | with_reducible refine Below.alloc ?_ ?_ _ | with_reducible refine Below.setCell ?_ ?_ _ | go_size)) fun hs => conf_c _ vs T n _ hs.p0 hn HS.out HD.out).mono ?_
  rintro e w1 ⟨rfl, hs⟩
  go_wp2_with fail
  refine (SH.own hs (by repeat' (first | with_reducible exact Below.refl _ _ | with_reducible assumption | with_reducible refine below_drewN ?_ _ | with_reducible refine Below.drew ?_ | with_reducible refine Below.alloc ?_ ?_ _ | with_reducible refine Below.setCell ?_ ?_ _ | go_size)) fun hs => sets_c _ vs T n _ hs.p0 hn).mono ?_
  rintro e w2 ⟨v2, rfl, hs⟩
  obtain ⟨a2, c2, rfl, -⟩ := (OwnK.rd hs.p0).form
  rw [mskL_len] at hs ⊢
  go_wp2_with (at_make; refine wp_make0K rfl rfl .i64 w2.heap.size 3 8 Tryd.underlying26 info_int n rfl rfl rfl (by omega) (by unfold maxLen; omega) (Nat.le_refl _) ?_; intro w3 hown hg hsz)
  have hs := hs.pushOwn (below_of_grown hg) hown
  clear hown hg hsz
  go_loopw [4, 5, 16] (fun o _ i wr => ∃ k : Nat, k ≤ n ∧ i = .int .i64 k ∧ SH none w wr [ownP .i64 3 o (grdS T n k), ownP .u64 50 (.slice a2 n c2) (mskL T n n 0), rdTP (.slice a n ca) vs T n, rdP .u8 (.slice (some ⟨1, 0, none⟩) 64 64) dbL]) (fun _ _ i _ => n - (intOf i).toNat)
  case atStart => exact ⟨0, Nat.zero_le _, rfl, hs⟩
  case round =>
    clear hs
    obtain ⟨k, hk, rfl, hs⟩ := hrel
    have hkl := grdS_len T n k
    obtain ⟨ao, co, rfl, -⟩ := (OwnK.rd hs.p0).form
    rw [hkl] at hs ⊢
    have HKL := Lib.hid hkl
    clear hkl
    by_cases hlt : k < n
    · obtain ⟨b, off, rfl, hc⟩ := (OwnK.rd hs.p1).at_ hlt
      rw [gi_mskL hlt, if_pos hlt] at hc
      have HM : Hid (mskN (T k) n < 1024) := Lib.hid (mskN_lt10 (T k) hn)
      have HB : Hid (∀ j, j < (grdS T n k).length → 0 ≤ gi (grdS T n k) j ∧ gi (grdS T n k) j ≤ 9) := Lib.hid fun j hj => by
        rw [HKL.out] at hj
        have := grdS_bd T n k (by omega) j hj; omega
      have i1 : (k : Int) < (n : Int) := by omega
      have hus := grdS_use T n k (by omega)
      have HST : Hid (grdS T n (k + 1) = grdS T n k ++ [(tzN (usdN (mskN (T k) n) (grdS T n k) k) : Int)]) := Lib.hid rfl
      go_wp2_with fail
      refine (SH.quiet hs (by repeat' (first | with_reducible exact Below.refl _ _ | with_reducible assumption | with_reducible refine below_drewN ?_ _ | with_reducible refine Below.drew ?_ | with_reducible refine Below.alloc ?_ ?_ _ | with_reducible refine Below.setCell ?_ ?_ _ | go_size)) fun hs => used_c (mskN (T k) n) _ (grdS T n k) _ (OwnK.rd hs.p0) HM.out HB.out (by rw [HKL.out]; omega)).mono ?_
      rintro e w4 ⟨rfl, hs⟩
      rw [HKL.out]
      generalize usdN (mskN (T k) n) (grdS T n k) k = U at *
      clear hc
      go_wp2_with fail
      rw [not_u64 U hus]
      refine (tz_c (18446744073709551615 - U) (by omega) _ (fun j hj => ?_)).mono ?_
      · obtain ⟨b3, o3, e3, h3⟩ := RdK.at_ (show RdK .u8 _ _ dbL from (hs.p3)) hj
        cases e3
        rw [Nat.zero_add, dbL_gi j hj] at h3
        exact h3
      rintro e w5 ⟨rfl, hw5⟩
      rw [hw5]
      clear hw5
      rw [show Lib.ctz 64 (18446744073709551615 - U) = tzN U from rfl]
      go_wp2_with (at_builtin; refine wp_app1S rfl rfl .i64 3 8 Tryd.underlying26 info_int (tzN U : Int) rfl (hs.alloc _) rfl (World.cell?_alloc_at _ _ _ _ rfl) (by rw [HKL.out]; omega) (by rw [HKL.out]; unfold maxLen; omega) ?_; intro v9 w9 hs)
      go_roundw
      case rel => exact ⟨k + 1, hlt, by go_num, by rw [HST.out]; exact hs⟩
      case measure => simp [intOf]; omega
    · obtain rfl : k = n := by omega
      go_wp2
      go_ret
      exact Ret.mk1 (SH.ownRet hs) hs.done
set_option maxRecDepth 100000 in
set_option maxHeartbeats 4000000 in
theorem slotsValid_c (va vb : Value) (vs : Nat → Value) (T : Nat → Nat → Bool) (n : Nat) (S : List Int) (w : World) (h : RdT w va vs T n) (hS : RdI w vb S) (hn : n ≤ 10) (hsy : ∀ i j, i < n → j < n → T i j = T j i) (hdg : ∀ i, i < n → T i i = false)
    (hl : S.length = n) (hb : ∀ i, i < n → 0 ≤ gi S i ∧ gi S i ≤ 9) (hne : ∀ i j, i < n → j < n → T i j = true → gi S j ≠ gi S i) :
    Calls Tryd.prog 10 #[va, vb] w (RetQ w (.bool true)) := by
  obtain ⟨a, ca, rfl, ml⟩ := h.rows.form
  obtain ⟨b, cb, rfl, -⟩ := hS.form
  have H := Lib.hid h
  have HS := Lib.hid hS
  have HB := Lib.hid hb
  have HNE := Lib.hid hne
  have HL := Lib.hid hl
  have HC : Hid (∀ w', SameW w w' → Calls Tryd.prog 20 #[.slice a n ca] w' (RetQ w' (.bool true))) := Lib.hid fun w' hw' => conf_c _ vs T n w' (h.below hw'.below) hn hsy hdg
  rw [hl] at HS ⊢
  clear h hS hb hne hl hsy hdg ml
  have e2 : ((n : Int) != (n : Int)) = false := bne_self_eq_false _
  go_enter Tryd.func10, Tryd.ntmps10
  go_wp2_with fail
  refine (HC.out _ (SameW.refl _)).mono ?_
  rintro e w1 ⟨rfl, hw1⟩
  have HW1 : Hid (SameW w w1) := Lib.hid hw1
  clear hw1
  go_wp2
  go_loopw [5, 6, 21] (fun _ _ i wr => ∃ k : Nat, k ≤ n ∧ i = .int .i64 k ∧ Hid (SameW w wr)) (fun _ _ i _ => n - (intOf i).toNat)
  case atStart => exact ⟨0, Nat.zero_le _, rfl, HW1⟩
  case round =>
    obtain ⟨k, hk, rfl, HW⟩ := hrel
    by_cases hlt : k < n
    · obtain ⟨ba, oa, rfl, hc0, b2, o2, c2, hv, -⟩ := (H.out.below HW.out.below).cells hlt
      rw [hv] at hc0
      have HV := Lib.hid hv
      obtain ⟨bb, ob, rfl, hsk⟩ := (HS.out.below HW.out.below).at_ hlt
      obtain ⟨y0, y1⟩ := HB.out k hlt
      obtain ⟨y, hy⟩ : ∃ y, gi S k = y := ⟨_, rfl⟩
      have HY := Lib.hid hy
      rw [hy] at hsk y0 y1
      have i1 : (k : Int) < (n : Int) := by omega
      have g1 : decide (y < 0) = false := decide_eq_false (by omega)
      have g2 : decide (y ≥ 10) = false := decide_eq_false (by omega)
      clear hv hy
      go_wp2
      go_loopw [7, 8, 37] (fun _ _ i wr => ∃ p : Nat, p ≤ n ∧ i = .int .i64 p ∧ Hid (SameW w wr)) (fun _ _ i _ => n - (intOf i).toNat)
      case atStart => exact ⟨0, Nat.zero_le _, rfl, HW⟩
      case round =>
        clear HW hc0 hsk
        obtain ⟨p, hp, rfl, HW⟩ := hrel
        by_cases hpl : p < n
        · obtain ⟨b', off', e, -, b3, o3, c3, hv, hcr⟩ := (H.out.below HW.out.below).cells hlt
          cases e
          rw [HV.out] at hv
          cases hv
          have hx := hcr p hpl
          obtain ⟨b4, o4, e, hsp⟩ := (HS.out.below HW.out.below).at_ hpl
          cases e
          have hneq := HNE.out k p hlt hpl
          rw [HY.out] at hneq
          have i2 : (p : Int) < (n : Int) := by omega
          clear hcr
          cases hT : T k p
          · rw [hT] at hx
            clear hT hneq
            go_wp2
            go_roundw
            case rel => exact ⟨p + 1, hpl, by go_num, HW⟩
            case measure => simp [intOf]; omega
          · have he : (gi S p == y) = false := by rw [beq_eq_false_iff_ne]; exact hneq hT
            rw [hT] at hx
            clear hT hneq
            go_wp2
            go_roundw
            case rel => exact ⟨p + 1, hpl, by go_num, HW⟩
            case measure => simp [intOf]; omega
        · obtain rfl : p = n := by omega
          go_wp2
          go_roundw
          case rel => exact ⟨k + 1, hlt, by go_num, HW⟩
          case measure => simp [intOf]; omega
    · go_wp2
      go_ret
      exact RetQ.mkS rfl HW.out
end Go.Proofs.YtdfinlpfkmmpkaaDoor
