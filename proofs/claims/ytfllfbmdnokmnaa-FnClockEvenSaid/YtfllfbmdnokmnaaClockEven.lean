import Derived.Test.YtfllfbmdnokmnaaProg
import Derived.Test.YtfllfbmdnokmnaaLib
import Derived.Test.YtfllfbmdnokmnaaNum
import Derived.Test.YtfllfbmdnokmnaaInts
import Derived.Test.YtfllfbmdnokmnaaClock
import Derived.Test.YtfllfbmdnokmnaaRead
import Derived.Test.YtfllfbmdnokmnaaDrawClock
namespace Go.Proofs.Ytfllfbmdnokmnaa
open Go.RowKit

set_option maxHeartbeats 4000000 in
theorem fnClockEven_c (va : Value) (bs : List Int) (vb : Value) (ms : List Int) (w : World) (h : RdB w va bs) (hb : ∀ n ∈ bs, (Lit.int .u8 n).wf = true) (h' : RdB w vb ms) (_ : ∀ n ∈ ms, (Lit.int .u8 n).wf = true) :
    Calls Try.prog 12 #[va, vb] w (Ret w fun v _ => v = .bool true) := by
  obtain ⟨a, ca, rfl, ml⟩ := h.form
  obtain ⟨a', ca', rfl, ml'⟩ := h'.form
  have HA := Lib.hid h
  have HBs := Lib.hid hb
  clear h hb h'
  by_cases hl : bs.length ≤ 1048576
  case neg =>
    go_enter Try.func12, Try.ntmps12
    go_wp2
    go_ret
    exact Ret.mk1 rfl (Below.refl _ _)
  by_cases hl' : ms.length ≤ 1048576
  case neg =>
    go_enter Try.func12, Try.ntmps12
    go_wp2
    go_ret
    exact Ret.mk1 rfl (Below.refl _ _)
  obtain ⟨y, hy⟩ : ∃ y : Int, (ms.length : Int) % 20 = y := ⟨_, rfl⟩
  have y0 : 0 ≤ y := by omega
  have y1 : y < 20 := by omega
  go_enter Try.func12, Try.ntmps12
  go_wp2_with fail
  refine (DrawClockOffset_c _ bs _ HA.out HBs.out).mono ?_
  rintro e w1 ⟨v1, rfl, ⟨s, h, a2, b, rfl⟩, hb⟩
  have HB_1 := Lib.hid hb
  clear hb
  cases hx : exB s h a2 b
  · unfold ex
    go_wp2_with fail
    refine (implExchangeValid_c s h a2 b _).mono ?_
    rintro e w2 ⟨v2, rfl, rfl, hb⟩
    have hb0 := hb
    clear hb
    have hb := below_via (w := w1) (by repeat' (first | with_reducible exact Below.refl _ _ | with_reducible assumption | with_reducible refine below_drewN ?_ _ | with_reducible refine Below.drew ?_ | with_reducible refine Below.alloc ?_ ?_ _ | with_reducible refine Below.setCell ?_ ?_ _ | go_size)) hb0
    have HKx_2 : Hid (w2.heap[w1.heap.size]? = some (.cells #[.int .i64 s, .int .i64 h, .int .i64 a2, .int .i64 b] 44 (0, 0))) := by unfold Hid; rw [hb0.block _ (by simp; try omega)]; first | exact blk_at (by simp) | exact blk_old (blk_at (by simp)) | exact blk_old (blk_old (blk_at (by simp))) | exact blk_old (blk_old (blk_old (blk_at (by simp))))
    clear hb0
    have HB_2 := Lib.hid (HB_1.out.trans (hb.mono HB_1.out.size))
    clear hb HB_1
    rw [hx]
    have hlx : w1.heap.size < w2.heap.size := blk_lt HKx_2.out
    have hmx : w1.heap.size < w2.heap.size + 1 := by omega
    have hnx : w1.heap.size < w2.heap.size + 1 + 1 := by omega
    have cx0 : w2.cell? ⟨w1.heap.size, 0, none⟩ = some (.int .i64 s) := blk_cell HKx_2.out 0
    have cx1 : w2.cell? ⟨w1.heap.size, 1, none⟩ = some (.int .i64 h) := blk_cell HKx_2.out 1
    have cx2 : w2.cell? ⟨w1.heap.size, 2, none⟩ = some (.int .i64 a2) := blk_cell HKx_2.out 2
    have cx3 : w2.cell? ⟨w1.heap.size, 3, none⟩ = some (.int .i64 b) := blk_cell HKx_2.out 3
    go_wp2_with fail
    refine (alive_c _).mono ?_
    rintro e w3 ⟨v3, rfl, rfl, hb⟩
    have HKx_3 := Lib.hid (blk_keep HKx_2.out hb)
    have HB_3 := Lib.hid (HB_2.out.trans (hb.mono HB_2.out.size))
    clear hb HKx_2 HB_2 hlx hmx hnx cx0 cx1 cx2 cx3
    go_wp2
    go_ret
    exact Ret.mk1 rfl HB_3.out
  · obtain ⟨⟨a1, a3⟩, ⟨b1, b2⟩, ⟨c1, c2⟩, ⟨d1, d2⟩, f1⟩ := exB_true.1 hx
    unfold ex
    go_wp2_with fail
    refine (implExchangeValid_c s h a2 b _).mono ?_
    rintro e w2 ⟨v2, rfl, rfl, hb⟩
    have hb0 := hb
    clear hb
    have hb := below_via (w := w1) (by repeat' (first | with_reducible exact Below.refl _ _ | with_reducible assumption | with_reducible refine below_drewN ?_ _ | with_reducible refine Below.drew ?_ | with_reducible refine Below.alloc ?_ ?_ _ | with_reducible refine Below.setCell ?_ ?_ _ | go_size)) hb0
    have HKx_2 : Hid (w2.heap[w1.heap.size]? = some (.cells #[.int .i64 s, .int .i64 h, .int .i64 a2, .int .i64 b] 44 (0, 0))) := by unfold Hid; rw [hb0.block _ (by simp; try omega)]; first | exact blk_at (by simp) | exact blk_old (blk_at (by simp)) | exact blk_old (blk_old (blk_at (by simp))) | exact blk_old (blk_old (blk_old (blk_at (by simp))))
    clear hb0
    have HB_2 := Lib.hid (HB_1.out.trans (hb.mono HB_1.out.size))
    clear hb HB_1
    rw [hx]
    have hlx : w1.heap.size < w2.heap.size := blk_lt HKx_2.out
    have hmx : w1.heap.size < w2.heap.size + 1 := by omega
    have hnx : w1.heap.size < w2.heap.size + 1 + 1 := by omega
    have cx0 : w2.cell? ⟨w1.heap.size, 0, none⟩ = some (.int .i64 s) := blk_cell HKx_2.out 0
    have cx1 : w2.cell? ⟨w1.heap.size, 1, none⟩ = some (.int .i64 h) := blk_cell HKx_2.out 1
    have cx2 : w2.cell? ⟨w1.heap.size, 2, none⟩ = some (.int .i64 a2) := blk_cell HKx_2.out 2
    have cx3 : w2.cell? ⟨w1.heap.size, 3, none⟩ = some (.int .i64 b) := blk_cell HKx_2.out 3
    go_wp2_with fail
    refine (abs_c (h - s) _ (by omega) (by omega)).mono ?_
    rintro e w3 hr
    obtain ⟨rfl, hs⟩ := hr.same
    have hb := hs.below
    clear hr hs
    have HKx_3 := Lib.hid (blk_keep HKx_2.out hb)
    have HB_3 := Lib.hid (HB_2.out.trans (hb.mono HB_2.out.size))
    clear hb HKx_2 HB_2 hlx hmx hnx cx0 cx1 cx2 cx3
    have hlx : w1.heap.size < w3.heap.size := blk_lt HKx_3.out
    have hmx : w1.heap.size < w3.heap.size + 1 := by omega
    have hnx : w1.heap.size < w3.heap.size + 1 + 1 := by omega
    have cx0 : w3.cell? ⟨w1.heap.size, 0, none⟩ = some (.int .i64 s) := blk_cell HKx_3.out 0
    have cx1 : w3.cell? ⟨w1.heap.size, 1, none⟩ = some (.int .i64 h) := blk_cell HKx_3.out 1
    have cx2 : w3.cell? ⟨w1.heap.size, 2, none⟩ = some (.int .i64 a2) := blk_cell HKx_3.out 2
    have cx3 : w3.cell? ⟨w1.heap.size, 3, none⟩ = some (.int .i64 b) := blk_cell HKx_3.out 3
    by_cases q1 : 1000 < max (h - s) (-(h - s))
    · go_wp2
      go_ret
      exact Ret.mk1 rfl HB_3.out
    · go_wp2_with fail
      refine (abs_c (s) _ (by omega) (by omega)).mono ?_
      rintro e w4 hr
      obtain ⟨rfl, hs⟩ := hr.same
      have hb := hs.below
      clear hr hs
      have HKx_4 := Lib.hid (blk_keep HKx_3.out hb)
      have HB_4 := Lib.hid (HB_3.out.trans (hb.mono HB_3.out.size))
      clear hb HKx_3 HB_3 hlx hmx hnx cx0 cx1 cx2 cx3
      have hlx : w1.heap.size < w4.heap.size := blk_lt HKx_4.out
      have hmx : w1.heap.size < w4.heap.size + 1 := by omega
      have hnx : w1.heap.size < w4.heap.size + 1 + 1 := by omega
      have cx0 : w4.cell? ⟨w1.heap.size, 0, none⟩ = some (.int .i64 s) := blk_cell HKx_4.out 0
      have cx1 : w4.cell? ⟨w1.heap.size, 1, none⟩ = some (.int .i64 h) := blk_cell HKx_4.out 1
      have cx2 : w4.cell? ⟨w1.heap.size, 2, none⟩ = some (.int .i64 a2) := blk_cell HKx_4.out 2
      have cx3 : w4.cell? ⟨w1.heap.size, 3, none⟩ = some (.int .i64 b) := blk_cell HKx_4.out 3
      by_cases q2 : 1000 < max s (-s)
      · go_wp2
        go_ret
        exact Ret.mk1 rfl HB_4.out
      · go_wp2_with fail
        refine (abs_c (a2) _ (by omega) (by omega)).mono ?_
        rintro e w5 hr
        obtain ⟨rfl, hs⟩ := hr.same
        have hb := hs.below
        clear hr hs
        have HKx_5 := Lib.hid (blk_keep HKx_4.out hb)
        have HB_5 := Lib.hid (HB_4.out.trans (hb.mono HB_4.out.size))
        clear hb HKx_4 HB_4 hlx hmx hnx cx0 cx1 cx2 cx3
        have hlx : w1.heap.size < w5.heap.size := blk_lt HKx_5.out
        have hmx : w1.heap.size < w5.heap.size + 1 := by omega
        have hnx : w1.heap.size < w5.heap.size + 1 + 1 := by omega
        have cx0 : w5.cell? ⟨w1.heap.size, 0, none⟩ = some (.int .i64 s) := blk_cell HKx_5.out 0
        have cx1 : w5.cell? ⟨w1.heap.size, 1, none⟩ = some (.int .i64 h) := blk_cell HKx_5.out 1
        have cx2 : w5.cell? ⟨w1.heap.size, 2, none⟩ = some (.int .i64 a2) := blk_cell HKx_5.out 2
        have cx3 : w5.cell? ⟨w1.heap.size, 3, none⟩ = some (.int .i64 b) := blk_cell HKx_5.out 3
        by_cases q3 : 3000 < max a2 (-a2)
        · go_wp2
          go_ret
          exact Ret.mk1 rfl HB_5.out
        · obtain ⟨r1, r2⟩ : -1000 ≤ h - s ∧ h - s ≤ 1000 := by omega
          obtain ⟨r3, r4⟩ : -1000 ≤ s ∧ s ≤ 1000 := by omega
          obtain ⟨r5, r6⟩ : -3000 ≤ a2 ∧ a2 ≤ 3000 := by omega
          cases hz : exB s (s + y + (h - s)) (a2 + y) (a2 + y - (h - s) + y)
          · go_wp2_with fail
            refine (implClockOffset_c s (s + y + (h - s)) (a2 + y) (a2 + y - (h - s) + y) _).mono ?_
            rintro e w6 ⟨v6, rfl, hv, hb⟩
            rw [coV_false hz] at hv
            subst hv
            have hb0 := hb
            clear hb
            have hb := below_via (w := w5) (by repeat' (first | with_reducible exact Below.refl _ _ | with_reducible assumption | with_reducible refine below_drewN ?_ _ | with_reducible refine Below.drew ?_ | with_reducible refine Below.alloc ?_ ?_ _ | with_reducible refine Below.setCell ?_ ?_ _ | go_size)) hb0
            have HKy_6 : Hid (w6.heap[w5.heap.size]? = some (.cells #[.int .i64 s, .int .i64 (s + y + (h - s)), .int .i64 (a2 + y), .int .i64 (a2 + y - (h - s) + y)] 44 (0, 0))) := by unfold Hid; rw [hb0.block _ (by simp; try omega)]; first | exact blk_at (by simp) | exact blk_old (blk_at (by simp)) | exact blk_old (blk_old (blk_at (by simp))) | exact blk_old (blk_old (blk_old (blk_at (by simp))))
            clear hb0
            have HKx_6 := Lib.hid (blk_keep HKx_5.out hb)
            have HB_6 := Lib.hid (HB_5.out.trans (hb.mono HB_5.out.size))
            clear hb HKx_5 HB_5 hlx hmx hnx cx0 cx1 cx2 cx3
            have hlx : w1.heap.size < w6.heap.size := blk_lt HKx_6.out
            have hmx : w1.heap.size < w6.heap.size + 1 := by omega
            have hnx : w1.heap.size < w6.heap.size + 1 + 1 := by omega
            have cx0 : w6.cell? ⟨w1.heap.size, 0, none⟩ = some (.int .i64 s) := blk_cell HKx_6.out 0
            have cx1 : w6.cell? ⟨w1.heap.size, 1, none⟩ = some (.int .i64 h) := blk_cell HKx_6.out 1
            have cx2 : w6.cell? ⟨w1.heap.size, 2, none⟩ = some (.int .i64 a2) := blk_cell HKx_6.out 2
            have cx3 : w6.cell? ⟨w1.heap.size, 3, none⟩ = some (.int .i64 b) := blk_cell HKx_6.out 3
            have hly : w5.heap.size < w6.heap.size := blk_lt HKy_6.out
            have hmy : w5.heap.size < w6.heap.size + 1 := by omega
            have hny : w5.heap.size < w6.heap.size + 1 + 1 := by omega
            have cy0 : w6.cell? ⟨w5.heap.size, 0, none⟩ = some (.int .i64 s) := blk_cell HKy_6.out 0
            have cy1 : w6.cell? ⟨w5.heap.size, 1, none⟩ = some (.int .i64 (s + y + (h - s))) := blk_cell HKy_6.out 1
            have cy2 : w6.cell? ⟨w5.heap.size, 2, none⟩ = some (.int .i64 (a2 + y)) := blk_cell HKy_6.out 2
            have cy3 : w6.cell? ⟨w5.heap.size, 3, none⟩ = some (.int .i64 (a2 + y - (h - s) + y)) := blk_cell HKy_6.out 3
            go_wp2_with fail
            refine (specClockOffset_c s (s + y + (h - s)) (a2 + y) (a2 + y - (h - s) + y) _).mono ?_
            rintro e w7 ⟨v7, rfl, hv, hb⟩
            rw [coV_false hz] at hv
            subst hv
            have HKx_7 := Lib.hid (blk_keep HKx_6.out hb)
            have HKy_7 := Lib.hid (blk_keep HKy_6.out hb)
            have HB_7 := Lib.hid (HB_6.out.trans (hb.mono HB_6.out.size))
            clear hb HKx_6 HKy_6 HB_6 hlx hmx hnx cx0 cx1 cx2 cx3 hly hmy hny cy0 cy1 cy2 cy3
            have hlx : w1.heap.size < w7.heap.size := blk_lt HKx_7.out
            have hmx : w1.heap.size < w7.heap.size + 1 := by omega
            have hnx : w1.heap.size < w7.heap.size + 1 + 1 := by omega
            have cx0 : w7.cell? ⟨w1.heap.size, 0, none⟩ = some (.int .i64 s) := blk_cell HKx_7.out 0
            have cx1 : w7.cell? ⟨w1.heap.size, 1, none⟩ = some (.int .i64 h) := blk_cell HKx_7.out 1
            have cx2 : w7.cell? ⟨w1.heap.size, 2, none⟩ = some (.int .i64 a2) := blk_cell HKx_7.out 2
            have cx3 : w7.cell? ⟨w1.heap.size, 3, none⟩ = some (.int .i64 b) := blk_cell HKx_7.out 3
            have hly : w5.heap.size < w7.heap.size := blk_lt HKy_7.out
            have hmy : w5.heap.size < w7.heap.size + 1 := by omega
            have hny : w5.heap.size < w7.heap.size + 1 + 1 := by omega
            have cy0 : w7.cell? ⟨w5.heap.size, 0, none⟩ = some (.int .i64 s) := blk_cell HKy_7.out 0
            have cy1 : w7.cell? ⟨w5.heap.size, 1, none⟩ = some (.int .i64 (s + y + (h - s))) := blk_cell HKy_7.out 1
            have cy2 : w7.cell? ⟨w5.heap.size, 2, none⟩ = some (.int .i64 (a2 + y)) := blk_cell HKy_7.out 2
            have cy3 : w7.cell? ⟨w5.heap.size, 3, none⟩ = some (.int .i64 (a2 + y - (h - s) + y)) := blk_cell HKy_7.out 3
            go_wp2_with fail
            refine (implExchangeValid_c s (s + y + (h - s)) (a2 + y) (a2 + y - (h - s) + y) _).mono ?_
            rintro e w8 ⟨v8, rfl, rfl, hb⟩
            have HKx_8 := Lib.hid (blk_keep HKx_7.out hb)
            have HKy_8 := Lib.hid (blk_keep HKy_7.out hb)
            have HB_8 := Lib.hid (HB_7.out.trans (hb.mono HB_7.out.size))
            clear hb HKx_7 HKy_7 HB_7 hlx hmx hnx cx0 cx1 cx2 cx3 hly hmy hny cy0 cy1 cy2 cy3
            rw [hz]
            have hlx : w1.heap.size < w8.heap.size := blk_lt HKx_8.out
            have hmx : w1.heap.size < w8.heap.size + 1 := by omega
            have hnx : w1.heap.size < w8.heap.size + 1 + 1 := by omega
            have cx0 : w8.cell? ⟨w1.heap.size, 0, none⟩ = some (.int .i64 s) := blk_cell HKx_8.out 0
            have cx1 : w8.cell? ⟨w1.heap.size, 1, none⟩ = some (.int .i64 h) := blk_cell HKx_8.out 1
            have cx2 : w8.cell? ⟨w1.heap.size, 2, none⟩ = some (.int .i64 a2) := blk_cell HKx_8.out 2
            have cx3 : w8.cell? ⟨w1.heap.size, 3, none⟩ = some (.int .i64 b) := blk_cell HKx_8.out 3
            have hly : w5.heap.size < w8.heap.size := blk_lt HKy_8.out
            have hmy : w5.heap.size < w8.heap.size + 1 := by omega
            have hny : w5.heap.size < w8.heap.size + 1 + 1 := by omega
            have cy0 : w8.cell? ⟨w5.heap.size, 0, none⟩ = some (.int .i64 s) := blk_cell HKy_8.out 0
            have cy1 : w8.cell? ⟨w5.heap.size, 1, none⟩ = some (.int .i64 (s + y + (h - s))) := blk_cell HKy_8.out 1
            have cy2 : w8.cell? ⟨w5.heap.size, 2, none⟩ = some (.int .i64 (a2 + y)) := blk_cell HKy_8.out 2
            have cy3 : w8.cell? ⟨w5.heap.size, 3, none⟩ = some (.int .i64 (a2 + y - (h - s) + y)) := blk_cell HKy_8.out 3
            go_wp2
            go_ret
            exact Ret.mk1 rfl HB_8.out
          · go_wp2_with fail
            refine (implClockOffset_c s (s + y + (h - s)) (a2 + y) (a2 + y - (h - s) + y) _).mono ?_
            rintro e w6 ⟨v6, rfl, hv, hb⟩
            rw [coV_true hz] at hv
            subst hv
            have hb0 := hb
            clear hb
            have hb := below_via (w := w5) (by repeat' (first | with_reducible exact Below.refl _ _ | with_reducible assumption | with_reducible refine below_drewN ?_ _ | with_reducible refine Below.drew ?_ | with_reducible refine Below.alloc ?_ ?_ _ | with_reducible refine Below.setCell ?_ ?_ _ | go_size)) hb0
            have HKy_6 : Hid (w6.heap[w5.heap.size]? = some (.cells #[.int .i64 s, .int .i64 (s + y + (h - s)), .int .i64 (a2 + y), .int .i64 (a2 + y - (h - s) + y)] 44 (0, 0))) := by unfold Hid; rw [hb0.block _ (by simp; try omega)]; first | exact blk_at (by simp) | exact blk_old (blk_at (by simp)) | exact blk_old (blk_old (blk_at (by simp))) | exact blk_old (blk_old (blk_old (blk_at (by simp))))
            clear hb0
            have HKx_6 := Lib.hid (blk_keep HKx_5.out hb)
            have HB_6 := Lib.hid (HB_5.out.trans (hb.mono HB_5.out.size))
            clear hb HKx_5 HB_5 hlx hmx hnx cx0 cx1 cx2 cx3
            have hlx : w1.heap.size < w6.heap.size := blk_lt HKx_6.out
            have hmx : w1.heap.size < w6.heap.size + 1 := by omega
            have hnx : w1.heap.size < w6.heap.size + 1 + 1 := by omega
            have cx0 : w6.cell? ⟨w1.heap.size, 0, none⟩ = some (.int .i64 s) := blk_cell HKx_6.out 0
            have cx1 : w6.cell? ⟨w1.heap.size, 1, none⟩ = some (.int .i64 h) := blk_cell HKx_6.out 1
            have cx2 : w6.cell? ⟨w1.heap.size, 2, none⟩ = some (.int .i64 a2) := blk_cell HKx_6.out 2
            have cx3 : w6.cell? ⟨w1.heap.size, 3, none⟩ = some (.int .i64 b) := blk_cell HKx_6.out 3
            have hly : w5.heap.size < w6.heap.size := blk_lt HKy_6.out
            have hmy : w5.heap.size < w6.heap.size + 1 := by omega
            have hny : w5.heap.size < w6.heap.size + 1 + 1 := by omega
            have cy0 : w6.cell? ⟨w5.heap.size, 0, none⟩ = some (.int .i64 s) := blk_cell HKy_6.out 0
            have cy1 : w6.cell? ⟨w5.heap.size, 1, none⟩ = some (.int .i64 (s + y + (h - s))) := blk_cell HKy_6.out 1
            have cy2 : w6.cell? ⟨w5.heap.size, 2, none⟩ = some (.int .i64 (a2 + y)) := blk_cell HKy_6.out 2
            have cy3 : w6.cell? ⟨w5.heap.size, 3, none⟩ = some (.int .i64 (a2 + y - (h - s) + y)) := blk_cell HKy_6.out 3
            go_wp2_with fail
            refine (specClockOffset_c s (s + y + (h - s)) (a2 + y) (a2 + y - (h - s) + y) _).mono ?_
            rintro e w7 ⟨v7, rfl, hv, hb⟩
            rw [coV_true hz] at hv
            subst hv
            have HKx_7 := Lib.hid (blk_keep HKx_6.out hb)
            have HKy_7 := Lib.hid (blk_keep HKy_6.out hb)
            have HB_7 := Lib.hid (HB_6.out.trans (hb.mono HB_6.out.size))
            clear hb HKx_6 HKy_6 HB_6 hlx hmx hnx cx0 cx1 cx2 cx3 hly hmy hny cy0 cy1 cy2 cy3
            have hlx : w1.heap.size < w7.heap.size := blk_lt HKx_7.out
            have hmx : w1.heap.size < w7.heap.size + 1 := by omega
            have hnx : w1.heap.size < w7.heap.size + 1 + 1 := by omega
            have cx0 : w7.cell? ⟨w1.heap.size, 0, none⟩ = some (.int .i64 s) := blk_cell HKx_7.out 0
            have cx1 : w7.cell? ⟨w1.heap.size, 1, none⟩ = some (.int .i64 h) := blk_cell HKx_7.out 1
            have cx2 : w7.cell? ⟨w1.heap.size, 2, none⟩ = some (.int .i64 a2) := blk_cell HKx_7.out 2
            have cx3 : w7.cell? ⟨w1.heap.size, 3, none⟩ = some (.int .i64 b) := blk_cell HKx_7.out 3
            have hly : w5.heap.size < w7.heap.size := blk_lt HKy_7.out
            have hmy : w5.heap.size < w7.heap.size + 1 := by omega
            have hny : w5.heap.size < w7.heap.size + 1 + 1 := by omega
            have cy0 : w7.cell? ⟨w5.heap.size, 0, none⟩ = some (.int .i64 s) := blk_cell HKy_7.out 0
            have cy1 : w7.cell? ⟨w5.heap.size, 1, none⟩ = some (.int .i64 (s + y + (h - s))) := blk_cell HKy_7.out 1
            have cy2 : w7.cell? ⟨w5.heap.size, 2, none⟩ = some (.int .i64 (a2 + y)) := blk_cell HKy_7.out 2
            have cy3 : w7.cell? ⟨w5.heap.size, 3, none⟩ = some (.int .i64 (a2 + y - (h - s) + y)) := blk_cell HKy_7.out 3
            have m1 : ((s + y + (h - s) - s + (a2 + y) - (a2 + y - (h - s) + y)) == (s + y + (h - s) - s + (a2 + y) - (a2 + y - (h - s) + y))) = true := beq_self_eq_true _
            have m2 : ((a2 + y - (h - s) + y - s - (a2 + y - (s + y + (h - s)))) == (a2 + y - (h - s) + y - s - (a2 + y - (s + y + (h - s))))) = true := beq_self_eq_true _
            have m3 : ((s + y + (h - s) - s + (a2 + y) - (a2 + y - (h - s) + y)) == 2 * (h - s)) = true := by simp; omega
            have m4 : ((a2 + y - (h - s) + y - s - (a2 + y - (s + y + (h - s)))) == 2 * y) = true := by simp; omega
            go_wp2_with fail
            refine (implExchangeValid_c s (s + y + (h - s)) (a2 + y) (a2 + y - (h - s) + y) _).mono ?_
            rintro e w8 ⟨v8, rfl, rfl, hb⟩
            have HKx_8 := Lib.hid (blk_keep HKx_7.out hb)
            have HKy_8 := Lib.hid (blk_keep HKy_7.out hb)
            have HB_8 := Lib.hid (HB_7.out.trans (hb.mono HB_7.out.size))
            clear hb HKx_7 HKy_7 HB_7 hlx hmx hnx cx0 cx1 cx2 cx3 hly hmy hny cy0 cy1 cy2 cy3
            rw [hz]
            have hlx : w1.heap.size < w8.heap.size := blk_lt HKx_8.out
            have hmx : w1.heap.size < w8.heap.size + 1 := by omega
            have hnx : w1.heap.size < w8.heap.size + 1 + 1 := by omega
            have cx0 : w8.cell? ⟨w1.heap.size, 0, none⟩ = some (.int .i64 s) := blk_cell HKx_8.out 0
            have cx1 : w8.cell? ⟨w1.heap.size, 1, none⟩ = some (.int .i64 h) := blk_cell HKx_8.out 1
            have cx2 : w8.cell? ⟨w1.heap.size, 2, none⟩ = some (.int .i64 a2) := blk_cell HKx_8.out 2
            have cx3 : w8.cell? ⟨w1.heap.size, 3, none⟩ = some (.int .i64 b) := blk_cell HKx_8.out 3
            have hly : w5.heap.size < w8.heap.size := blk_lt HKy_8.out
            have hmy : w5.heap.size < w8.heap.size + 1 := by omega
            have hny : w5.heap.size < w8.heap.size + 1 + 1 := by omega
            have cy0 : w8.cell? ⟨w5.heap.size, 0, none⟩ = some (.int .i64 s) := blk_cell HKy_8.out 0
            have cy1 : w8.cell? ⟨w5.heap.size, 1, none⟩ = some (.int .i64 (s + y + (h - s))) := blk_cell HKy_8.out 1
            have cy2 : w8.cell? ⟨w5.heap.size, 2, none⟩ = some (.int .i64 (a2 + y)) := blk_cell HKy_8.out 2
            have cy3 : w8.cell? ⟨w5.heap.size, 3, none⟩ = some (.int .i64 (a2 + y - (h - s) + y)) := blk_cell HKy_8.out 3
            go_wp2
            go_ret
            exact Ret.mk1 rfl HB_8.out

end Go.Proofs.Ytfllfbmdnokmnaa
