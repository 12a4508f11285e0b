import Derived.Test.YtoilofcpijgaiaaProg
import Derived.Test.YtoilofcpijgaiaaLib
import Derived.Test.YtoilofcpijgaiaaNum
import Derived.Test.YtoilofcpijgaiaaInts
import Derived.Test.YtoilofcpijgaiaaHand
import Derived.Test.YtoilofcpijgaiaaRead
namespace Go.Proofs.Ytoilofcpijgaiaa
open Go.RowKit

theorem DrawCountHandovers_c (va : Value) (bs : List Int) (w : World) (h : RdB w va bs) (hb : ∀ n ∈ bs, (Lit.int .u8 n).wf = true) :
    Calls Try.prog 14 #[va] w (Ret w fun v w' => ∃ xs, OwnI w' w.heap.size 3 v xs ∧ xs.length ≤ 13) := by
  have H := Lib.hid h
  have HB := Lib.hid hb
  clear h hb
  go_enter Try.func14, Try.ntmps14
  go_wp2_with fail
  refine (open_c _ bs _ H.out HB.out).mono ?_
  rintro e w1 ⟨g, rfl, hg, hr, hb1⟩
  have HR := Lib.hid hr
  have HB1 := Lib.hid hb1
  have hgl := hr.lt
  clear hr hb1
  go_wp2_with fail
  refine (pick_c g 0 14 _ (HR.out.belowB (B := g + 1) (Nat.lt_succ_self g) (Below.alloc (Below.refl _ _) hgl _)) (by decide) (by decide)).mono ?_
  rintro e w2 ⟨n0, rfl, n0_0, n0_a, -, hr2, hg2⟩
  have n0_1 := n0_a (by decide)
  have HR2 := Lib.hid hr2
  have HO2 : Hid (OwnI w2 (g + 1) 3 (.slice (some ⟨w1.heap.size, 0, none⟩) 0 0) []) := (OwnK.empty .i64 w1 (g + 1) 3 hgl).grown hg2 (fun b e h => by simp only [Value.ownBlock, Option.some.injEq] at e h; omega)
  have HB2 : Hid (Below w.heap.size w w2) := (HB1.out.alloc HB1.out.size _).grown hg2 (by have := HB1.out.size; simp; omega) (fun k e => by simp only [Option.some.injEq] at e; omega)
  clear hr2 hg2 n0_a
  go_wp2
  go_loopw [4, 5] (fun o i wr => ∃ (q : Int) (xs : List Int), 0 ≤ q ∧ q ≤ 13 ∧ i = .int .i64 q ∧ OwnI wr (g + 1) 3 o xs ∧ (xs.length : Int) + q ≤ 13 ∧ Rdr wr g (1 + xs.length) ∧ Below w.heap.size w wr) (fun _ i _ => (intOf i).toNat)
  case atStart => exact ⟨n0, [], n0_0, by omega, rfl, HO2.out, by simp; omega, HR2.out, HB2.out⟩
  case round =>
    obtain ⟨q, xs, q0, q1, rfl, hown, hlen, hr, hb⟩ := hrel
    have HOwn := Lib.hid hown
    have HRd := Lib.hid hr
    have HBel := Lib.hid hb
    have hgr := hr.lt
    clear hown hr hb
    by_cases hq : 0 < q
    · go_wp2_with fail
      refine (pick_c g _ 3 _ HRd.out (by omega) (by decide)).mono ?_
      rintro e w3 ⟨v3, rfl, v3_0, -, -, hr3, hg3⟩
      have HR3 := Lib.hid hr3
      have hgr3 := hr3.lt
      have HO3 : Hid (OwnI w3 (g + 1) 3 u4 xs) := HOwn.out.grown hg3 (fun b e h => by simp only [Option.some.injEq] at h; have := (HOwn.out.base b e).1; omega)
      have HB3 : Hid (Below w.heap.size w w3) := HBel.out.grown hg3 HBel.out.size (fun k e => by simp only [Option.some.injEq] at e; omega)
      clear hr3 hg3
      go_wp2_with (at_builtin; refine wp_app1K rfl rfl .i64 (g + 1) 3 8 Try.underlying23 info_int u4 xs v3 rfl (HO3.out.alloc _) rfl (World.cell?_alloc_at _ _ _ _ rfl) (by omega) (by unfold maxLen; omega) (by simp; omega) ?_; intro v' w4 hown4 hg4)
      have HOwn4 := Lib.hid hown4
      have HB4 := Lib.hid (below_app HB3.out HB3.out.size hg4 (fun b e => by have := (HO3.out.base b e).1; omega))
      have HR4 := Lib.hid (HR3.out.belowB (B := g + 1) (Nat.lt_succ_self g) (below_app (Below.refl _ _) hgr3 hg4 (fun b e => (HO3.out.base b e).1)))
      clear hown4 hg4
      go_wp2
      go_roundw
      case rel => exact ⟨q - 1, xs ++ [v3], by omega, by omega, by go_num, HOwn4.out, by simp; omega, HR4.out.mono (by simp; omega), HB4.out⟩
      case measure => simp [intOf]; omega
    · go_wp2
      go_ret
      exact Ret.mk1 ⟨xs, HOwn.out.mono (by omega), by omega⟩ HBel.out

theorem gi_reverse {xs : List Int} {i : Nat} (h : i < xs.length) : gi xs.reverse i = gi xs (xs.length - 1 - i) := by
  simp [gi, List.getElem?_reverse h]

/-- the changes of a list, counted from behind -/
theorem chTo_split (xs : List Int) : ∀ k j, chTo xs (k + j) = chTo xs k + chTo (xs.drop k) j
  | k, 0 => by simp [chTo]
  | k, j + 1 => by
    have ih := chTo_split xs k j
    have e1 : gi (xs.drop k) (j + 1) = gi xs (k + (j + 1)) := by simp [gi]
    have e2 : gi (xs.drop k) j = gi xs (k + j) := by simp [gi]
    rw [← Nat.add_assoc]
    simp only [chTo]
    rw [ih, e1, e2]
    simp only [Nat.add_assoc]

theorem chTo_rev (xs : List Int) : ∀ k, k + 1 ≤ xs.length → chTo xs.reverse k + chTo xs (xs.length - 1 - k) = chTo xs (xs.length - 1)
  | 0, h => by simp [chTo]
  | k + 1, h => by
    have ih := chTo_rev xs k (by omega)
    have e1 : gi xs.reverse (k + 1) = gi xs (xs.length - 1 - (k + 1)) := gi_reverse (by omega)
    have e2 : gi xs.reverse k = gi xs (xs.length - 1 - k) := gi_reverse (by omega)
    have e3 : xs.length - 1 - k = (xs.length - 1 - (k + 1)) + 1 := by omega
    rw [e3] at ih e2
    simp only [chTo] at ih ⊢
    rw [e1, e2, ← ih]
    have : (gi xs (xs.length - 1 - (k + 1)) != gi xs (xs.length - 1 - (k + 1) + 1)) = (gi xs (xs.length - 1 - (k + 1) + 1) != gi xs (xs.length - 1 - (k + 1))) := by
      rw [bne_comm]
    rw [this]
    omega
theorem chTo_reverse (xs : List Int) : chTo xs.reverse (xs.reverse.length - 1) = chTo xs (xs.length - 1) := by
  rw [List.length_reverse]
  rcases Nat.eq_zero_or_pos xs.length with h | h
  · rw [h]; simp [chTo]
  · have := chTo_rev xs (xs.length - 1) (by omega)
    rw [Nat.sub_self] at this
    simpa [chTo] using this
theorem chTo_zero (n : Nat) : ∀ k, chTo (List.replicate n 0) k = 0
  | 0 => rfl
  | k + 1 => by
    have h : ∀ i, gi (List.replicate n 0) i = 0 := by
      intro i; by_cases hi : i < n <;> simp [gi, hi]
    simp only [chTo, chTo_zero n k, h]; simp

set_option maxHeartbeats 2000000 in
theorem fnCountHandovers_c (va : Value) (bs : List Int) (w : World) (h : RdB w va bs) (hb : ∀ n ∈ bs, (Lit.int .u8 n).wf = true) :
    Calls Try.prog 3 #[va] w (Ret w fun v _ => v = .bool true) := by
  obtain ⟨a, ca, rfl, ml⟩ := h.form
  have HA := Lib.hid h
  have HBs := Lib.hid hb
  clear h hb
  by_cases hl : bs.length ≤ 1048576
  case neg =>
    go_enter Try.func3, Try.ntmps3
    go_wp2
    go_ret
    exact Ret.mk1 rfl (Below.refl _ _)
  go_enter Try.func3, Try.ntmps3
  go_wp2_with fail
  refine (DrawCountHandovers_c _ bs _ HA.out HBs.out).mono ?_
  rintro e w1 ⟨v1, rfl, ⟨xs, ho, hlen⟩, hb1⟩
  obtain ⟨a1, c1, rfl, -⟩ := ho.rd.form
  have HO1 := Lib.hid ho
  have HB1 := Lib.hid hb1
  clear ho hb1
  obtain ⟨N, hN⟩ : ∃ N, chTo xs (xs.length - 1) = N := ⟨_, rfl⟩
  have hNle : N ≤ xs.length - 1 := by rw [← hN]; exact chTo_le _ _
  have HN := Lib.hid hN
  clear hN
  go_wp2_with fail
  refine (implCountHandovers_c _ xs _ HO1.out.rd).mono ?_
  rintro e w2 hr
  obtain ⟨rfl, hs⟩ := hr.same
  have HO2 := Lib.hid (HO1.out.below hs.below)
  have HB2 := Lib.hid (HB1.out.trans (hs.below.mono HB1.out.size))
  clear hr hs HO1 HB1
  rw [HN.out]
  go_wp2_with fail
  refine (specCountHandovers_c _ xs _ HO2.out.rd).mono ?_
  rintro e w3 hr
  obtain ⟨rfl, hs⟩ := hr.same
  have HO3 := Lib.hid (HO2.out.below hs.below)
  have HB3 := Lib.hid (HB2.out.trans (hs.below.mono HB2.out.size))
  clear hr hs HO2 HB2
  rw [HN.out]
  have hcmp : ((N : Int) != (N : Int)) = false := bne_self_eq_false _
  go_wp2
  go_loopw [5, 6] (fun o i wr => ∃ r : Nat, r ≤ xs.length ∧ i = .int .i64 ((r : Int) - 1) ∧ OwnI wr w3.heap.size 3 o (xs.reverse.take (xs.length - r)) ∧ Below w3.heap.size w3 wr) (fun _ i _ => (intOf i + 1).toNat)
  case atStart => exact ⟨xs.length, Nat.le_refl _, rfl, by rw [Nat.sub_self]; exact OwnK.empty _ _ _ _ (Nat.le_refl _), (by repeat' (first | with_reducible exact Below.refl _ _ | with_reducible assumption | with_reducible refine below_drewN ?_ _ | with_reducible refine Below.drew ?_ | with_reducible refine Below.alloc ?_ ?_ _ | with_reducible refine Below.setCell ?_ ?_ _ | go_size))⟩
  case round =>
    obtain ⟨r, hr, rfl, hown, hbel⟩ := hrel
    have HOwn := Lib.hid hown
    have HBel := Lib.hid hbel
    clear hown hbel
    by_cases hr0 : 0 < r
    · have hlt : r - 1 < xs.length := by omega
      obtain ⟨b, off, rfl, hc⟩ := (HO3.out.below HBel.out).rd.at_ hlt
      have hlenT : (xs.reverse.take (xs.length - r)).length = xs.length - r := by rw [List.length_take, List.length_reverse]; omega
      have HLT := Lib.hid hlenT
      clear hlenT
      have i1 : (0 : Int) ≤ (r : Int) - 1 := by omega
      have i2 : (1 : Int) ≤ (r : Int) := by omega
      go_wp2_with (at_builtin; refine wp_app1K rfl rfl .i64 w3.heap.size 3 8 Try.underlying23 info_int u5 _ (gi xs (r - 1)) rfl (HOwn.out.alloc _) rfl (World.cell?_alloc_at _ _ _ _ rfl) (by rw [HLT.out]; omega) (by rw [HLT.out]; unfold maxLen; omega) (by have := HBel.out.size; simp; omega) ?_; intro v' w4 hown4 hg4)
      have HOwn4 := Lib.hid hown4
      have HB4 := Lib.hid (below_app HBel.out HBel.out.size hg4 (fun b e => (HOwn.out.base b e).1))
      clear hown4 hg4
      go_wp2
      go_roundw
      case rel =>
        refine ⟨r - 1, by omega, intv (by omega), ?_, HB4.out⟩
        have e1 : xs.length - (r - 1) = (xs.length - r) + 1 := by omega
        have e2 : xs.length - 1 - (xs.length - r) = r - 1 := by omega
        rw [e1, ext_take_succ (by simp; omega), gi_reverse (by omega), e2]
        exact HOwn4.out
      case measure => simp [intOf]; omega
    · obtain rfl : r = 0 := by omega
      have HT : Hid (OwnI wr w3.heap.size 3 u5 xs.reverse) := by
        have := HOwn.out
        rwa [Nat.sub_zero, List.take_of_length_le (by simp)] at this
      clear HOwn
      have HBw := Lib.hid (HB3.out.trans (HBel.out.mono HB3.out.size))
      have HO4 := Lib.hid (HO3.out.below HBel.out)
      clear HBel HO3 HB3
      have hNi : ((N : Int) == (N : Int)) = true := beq_self_eq_true _
      go_wp2_with fail
      refine (implCountHandovers_c _ xs.reverse _ HT.out.rd).mono ?_
      rintro e w5 hr5
      obtain ⟨rfl, hs⟩ := hr5.same
      have HO5 := Lib.hid (HO4.out.below hs.below)
      have HB5 := Lib.hid (HBw.out.trans (hs.below.mono HBw.out.size))
      clear hr5 hs HO4 HBw HT
      rw [chTo_reverse, HN.out]
      by_cases hz : N = 0
      all_goals
        first | (have hz1 : ((N : Int) == 0) = true := by simp [hz]) | (have hz1 : ((N : Int) == 0) = false := by simp [hz])
        have hNlt : N ≠ 0 → N < xs.length := by omega
        first | (have hN2 : N < xs.length := hNlt hz; clear hNlt) | clear hNlt
        clear hz
        go_wp2_with (at_make; refine wp_makeK_g rfl rfl .i64 w5.heap.size 3 8 Try.underlying23 info_int xs.length rfl rfl rfl rfl (by omega) (by unfold maxLen; omega) (Nat.le_refl _) ?_; intro w6 hown6 hg6 hsz6)
        have HO6 := Lib.hid hown6
        have HB6 := Lib.hid (HB5.out.grown hg6 HB5.out.size (fun k e => by cases e))
        clear hown6 hg6 HO5 HB5
        refine (implCountHandovers_c _ (List.replicate xs.length 0) _ HO6.out.rd).mono ?_
        rintro e w7 hr7
        obtain ⟨rfl, hs⟩ := hr7.same
        have HB7 := Lib.hid (HB6.out.trans (hs.below.mono HB6.out.size))
        clear hr7 hs HB6 HO6
        rw [chTo_zero]
        go_wp2_with fail
        refine (alive_c _).mono ?_
        rintro e w8 ⟨v8, rfl, rfl, hb8⟩
        have HB8 := Lib.hid (HB7.out.trans (hb8.mono HB7.out.size))
        clear hb8 HB7
        go_wp2
        go_ret
        exact Ret.mk1 rfl HB8.out

end Go.Proofs.Ytoilofcpijgaiaa
