import Derived.Test.YtfllfbmdnokmnaaProg
import Derived.Test.YtfllfbmdnokmnaaLib
import Derived.Test.YtfllfbmdnokmnaaNum
import Derived.Test.YtfllfbmdnokmnaaInts
import Derived.Test.YtfllfbmdnokmnaaClock
import Derived.Test.YtfllfbmdnokmnaaRead
import Derived.Test.YtfllfbmdnokmnaaDrawClock
namespace Go.Proofs.Ytfllfbmdnokmnaa
open Go.RowKit

set_option maxHeartbeats 4000000 in
theorem fnExchangeValid_c (va : Value) (bs : List Int) (w : World) (h : RdB w va bs) (hb : ∀ n ∈ bs, (Lit.int .u8 n).wf = true) :
    Calls Try.prog 10 #[va] w (Ret w fun v _ => v = .bool true) := by
  obtain ⟨a, ca, rfl, ml⟩ := h.form
  have HA := Lib.hid h
  have HBs := Lib.hid hb
  clear h hb
  by_cases hl : bs.length ≤ 1048576
  case neg =>
    go_enter Try.func10, Try.ntmps10
    go_wp2
    go_ret
    exact Ret.mk1 rfl (Below.refl _ _)
  go_enter Try.func10, Try.ntmps10
  go_wp2_with fail
  refine (DrawExchangeValid_c _ bs _ HA.out HBs.out).mono ?_
  rintro e w1 ⟨v1, rfl, ⟨s, h, a2, b, rfl⟩, hb⟩
  have HB_1 := Lib.hid hb
  clear hb
  unfold ex
  go_wp2_with fail
  refine (implExchangeValid_c s h a2 b _).mono ?_
  rintro e w2 ⟨v2, rfl, rfl, hb⟩
  have hb0 := hb
  clear hb
  have hb := below_via (w := w1) (by repeat' (first | with_reducible exact Below.refl _ _ | with_reducible assumption | with_reducible refine below_drewN ?_ _ | with_reducible refine Below.drew ?_ | with_reducible refine Below.alloc ?_ ?_ _ | with_reducible refine Below.setCell ?_ ?_ _ | go_size)) hb0
  have HKx_2 : Hid (w2.heap[w1.heap.size]? = some (.cells #[.int .i64 s, .int .i64 h, .int .i64 a2, .int .i64 b] 44 (0, 0))) := by unfold Hid; rw [hb0.block _ (by simp; try omega)]; first | exact blk_at (by simp) | exact blk_old (blk_at (by simp)) | exact blk_old (blk_old (blk_at (by simp))) | exact blk_old (blk_old (blk_old (blk_at (by simp))))
  clear hb0
  have HB_2 := Lib.hid (HB_1.out.trans (hb.mono HB_1.out.size))
  clear hb HB_1
  have hlx : w1.heap.size < w2.heap.size := blk_lt HKx_2.out
  have hmx : w1.heap.size < w2.heap.size + 1 := by omega
  have hnx : w1.heap.size < w2.heap.size + 1 + 1 := by omega
  have cx0 : w2.cell? ⟨w1.heap.size, 0, none⟩ = some (.int .i64 s) := blk_cell HKx_2.out 0
  have cx1 : w2.cell? ⟨w1.heap.size, 1, none⟩ = some (.int .i64 h) := blk_cell HKx_2.out 1
  have cx2 : w2.cell? ⟨w1.heap.size, 2, none⟩ = some (.int .i64 a2) := blk_cell HKx_2.out 2
  have cx3 : w2.cell? ⟨w1.heap.size, 3, none⟩ = some (.int .i64 b) := blk_cell HKx_2.out 3
  go_wp2_with fail
  refine (specExchangeValid_c s h a2 b _).mono ?_
  rintro e w3 ⟨v3, rfl, rfl, hb⟩
  have HKx_3 := Lib.hid (blk_keep HKx_2.out hb)
  have HB_3 := Lib.hid (HB_2.out.trans (hb.mono HB_2.out.size))
  clear hb HKx_2 HB_2 hlx hmx hnx cx0 cx1 cx2 cx3
  have e1 : (exB s h a2 b != exB s h a2 b) = false := bne_self_eq_false _
  cases hx : exB s h a2 b
  · have hlx : w1.heap.size < w3.heap.size := blk_lt HKx_3.out
    have hmx : w1.heap.size < w3.heap.size + 1 := by omega
    have hnx : w1.heap.size < w3.heap.size + 1 + 1 := by omega
    have cx0 : w3.cell? ⟨w1.heap.size, 0, none⟩ = some (.int .i64 s) := blk_cell HKx_3.out 0
    have cx1 : w3.cell? ⟨w1.heap.size, 1, none⟩ = some (.int .i64 h) := blk_cell HKx_3.out 1
    have cx2 : w3.cell? ⟨w1.heap.size, 2, none⟩ = some (.int .i64 a2) := blk_cell HKx_3.out 2
    have cx3 : w3.cell? ⟨w1.heap.size, 3, none⟩ = some (.int .i64 b) := blk_cell HKx_3.out 3
    go_wp2_with fail
    refine (alive_c _).mono ?_
    rintro e w4 ⟨v4, rfl, rfl, hb⟩
    have HKx_4 := Lib.hid (blk_keep HKx_3.out hb)
    have HB_4 := Lib.hid (HB_3.out.trans (hb.mono HB_3.out.size))
    clear hb HKx_3 HB_3 hlx hmx hnx cx0 cx1 cx2 cx3
    go_wp2
    go_ret
    exact Ret.mk1 rfl HB_4.out
  · obtain ⟨⟨a1, a3⟩, ⟨b1, b2⟩, ⟨c1, c2⟩, ⟨d1, d2⟩, f1⟩ := exB_true.1 hx
    have x1 : exB s h (h - 1) b = false := by simp [exB, inB]; omega
    have x2 : exB s h a2 (s + a2 - h - 1) = false := by simp [exB, inB]; omega
    have hlx : w1.heap.size < w3.heap.size := blk_lt HKx_3.out
    have hmx : w1.heap.size < w3.heap.size + 1 := by omega
    have hnx : w1.heap.size < w3.heap.size + 1 + 1 := by omega
    have cx0 : w3.cell? ⟨w1.heap.size, 0, none⟩ = some (.int .i64 s) := blk_cell HKx_3.out 0
    have cx1 : w3.cell? ⟨w1.heap.size, 1, none⟩ = some (.int .i64 h) := blk_cell HKx_3.out 1
    have cx2 : w3.cell? ⟨w1.heap.size, 2, none⟩ = some (.int .i64 a2) := blk_cell HKx_3.out 2
    have cx3 : w3.cell? ⟨w1.heap.size, 3, none⟩ = some (.int .i64 b) := blk_cell HKx_3.out 3
    go_wp2_with fail
    refine (implExchangeValid_c s h (h - 1) b _).mono ?_
    rintro e w4 ⟨v4, rfl, rfl, hb⟩
    have hb0 := hb
    clear hb
    have hb := below_via (w := w3) (by repeat' (first | with_reducible exact Below.refl _ _ | with_reducible assumption | with_reducible refine below_drewN ?_ _ | with_reducible refine Below.drew ?_ | with_reducible refine Below.alloc ?_ ?_ _ | with_reducible refine Below.setCell ?_ ?_ _ | go_size)) hb0
    have HKa_4 : Hid (w4.heap[w3.heap.size]? = some (.cells #[.int .i64 s, .int .i64 h, .int .i64 (h - 1), .int .i64 b] 44 (0, 0))) := by unfold Hid; rw [hb0.block _ (by simp; try omega)]; first | exact blk_at (by simp) | exact blk_old (blk_at (by simp)) | exact blk_old (blk_old (blk_at (by simp))) | exact blk_old (blk_old (blk_old (blk_at (by simp))))
    have HKb_4 : Hid (w4.heap[w3.heap.size + 1]? = some (.cells #[.int .i64 s, .int .i64 h, .int .i64 a2, .int .i64 (s + a2 - h - 1)] 44 (0, 0))) := by unfold Hid; rw [hb0.block _ (by simp; try omega)]; first | exact blk_at (by simp) | exact blk_old (blk_at (by simp)) | exact blk_old (blk_old (blk_at (by simp))) | exact blk_old (blk_old (blk_old (blk_at (by simp))))
    have HKc_4 : Hid (w4.heap[w3.heap.size + 1 + 1]? = some (.cells #[.int .i64 s, .int .i64 (h + 7), .int .i64 (a2 + 7), .int .i64 b] 44 (0, 0))) := by unfold Hid; rw [hb0.block _ (by simp; try omega)]; first | exact blk_at (by simp) | exact blk_old (blk_at (by simp)) | exact blk_old (blk_old (blk_at (by simp))) | exact blk_old (blk_old (blk_old (blk_at (by simp))))
    clear hb0
    have HKx_4 := Lib.hid (blk_keep HKx_3.out hb)
    have HB_4 := Lib.hid (HB_3.out.trans (hb.mono HB_3.out.size))
    clear hb HKx_3 HB_3 hlx hmx hnx cx0 cx1 cx2 cx3
    rw [x1]
    have hla : w3.heap.size < w4.heap.size := blk_lt HKa_4.out
    have hma : w3.heap.size < w4.heap.size + 1 := by omega
    have hna : w3.heap.size < w4.heap.size + 1 + 1 := by omega
    have ca0 : w4.cell? ⟨w3.heap.size, 0, none⟩ = some (.int .i64 s) := blk_cell HKa_4.out 0
    have ca1 : w4.cell? ⟨w3.heap.size, 1, none⟩ = some (.int .i64 h) := blk_cell HKa_4.out 1
    have ca2 : w4.cell? ⟨w3.heap.size, 2, none⟩ = some (.int .i64 (h - 1)) := blk_cell HKa_4.out 2
    have ca3 : w4.cell? ⟨w3.heap.size, 3, none⟩ = some (.int .i64 b) := blk_cell HKa_4.out 3
    have hlb : w3.heap.size + 1 < w4.heap.size := blk_lt HKb_4.out
    have hmb : w3.heap.size + 1 < w4.heap.size + 1 := by omega
    have hnb : w3.heap.size + 1 < w4.heap.size + 1 + 1 := by omega
    have cb0 : w4.cell? ⟨w3.heap.size + 1, 0, none⟩ = some (.int .i64 s) := blk_cell HKb_4.out 0
    have cb1 : w4.cell? ⟨w3.heap.size + 1, 1, none⟩ = some (.int .i64 h) := blk_cell HKb_4.out 1
    have cb2 : w4.cell? ⟨w3.heap.size + 1, 2, none⟩ = some (.int .i64 a2) := blk_cell HKb_4.out 2
    have cb3 : w4.cell? ⟨w3.heap.size + 1, 3, none⟩ = some (.int .i64 (s + a2 - h - 1)) := blk_cell HKb_4.out 3
    have hlc : w3.heap.size + 1 + 1 < w4.heap.size := blk_lt HKc_4.out
    have hmc : w3.heap.size + 1 + 1 < w4.heap.size + 1 := by omega
    have hnc : w3.heap.size + 1 + 1 < w4.heap.size + 1 + 1 := by omega
    have cc0 : w4.cell? ⟨w3.heap.size + 1 + 1, 0, none⟩ = some (.int .i64 s) := blk_cell HKc_4.out 0
    have cc1 : w4.cell? ⟨w3.heap.size + 1 + 1, 1, none⟩ = some (.int .i64 (h + 7)) := blk_cell HKc_4.out 1
    have cc2 : w4.cell? ⟨w3.heap.size + 1 + 1, 2, none⟩ = some (.int .i64 (a2 + 7)) := blk_cell HKc_4.out 2
    have cc3 : w4.cell? ⟨w3.heap.size + 1 + 1, 3, none⟩ = some (.int .i64 b) := blk_cell HKc_4.out 3
    go_wp2_with fail
    refine (implExchangeValid_c s h a2 (s + a2 - h - 1) _).mono ?_
    rintro e w5 ⟨v5, rfl, rfl, hb⟩
    have HKx_5 := Lib.hid (blk_keep HKx_4.out hb)
    have HKa_5 := Lib.hid (blk_keep HKa_4.out hb)
    have HKb_5 := Lib.hid (blk_keep HKb_4.out hb)
    have HKc_5 := Lib.hid (blk_keep HKc_4.out hb)
    have HB_5 := Lib.hid (HB_4.out.trans (hb.mono HB_4.out.size))
    clear hb HKx_4 HKa_4 HKb_4 HKc_4 HB_4 hla hma hna ca0 ca1 ca2 ca3 hlb hmb hnb cb0 cb1 cb2 cb3 hlc hmc hnc cc0 cc1 cc2 cc3
    rw [x2]
    have hlc : w3.heap.size + 1 + 1 < w5.heap.size := blk_lt HKc_5.out
    have hmc : w3.heap.size + 1 + 1 < w5.heap.size + 1 := by omega
    have hnc : w3.heap.size + 1 + 1 < w5.heap.size + 1 + 1 := by omega
    have cc0 : w5.cell? ⟨w3.heap.size + 1 + 1, 0, none⟩ = some (.int .i64 s) := blk_cell HKc_5.out 0
    have cc1 : w5.cell? ⟨w3.heap.size + 1 + 1, 1, none⟩ = some (.int .i64 (h + 7)) := blk_cell HKc_5.out 1
    have cc2 : w5.cell? ⟨w3.heap.size + 1 + 1, 2, none⟩ = some (.int .i64 (a2 + 7)) := blk_cell HKc_5.out 2
    have cc3 : w5.cell? ⟨w3.heap.size + 1 + 1, 3, none⟩ = some (.int .i64 b) := blk_cell HKc_5.out 3
    by_cases hc : 1000000 < a2 + 7
    · go_wp2
      go_ret
      exact Ret.mk1 rfl HB_5.out
    · have x3 : exB s (h + 7) (a2 + 7) b = true := exB_true.2 (by omega)
      go_wp2_with fail
      refine (implExchangeValid_c s (h + 7) (a2 + 7) b _).mono ?_
      rintro e w6 ⟨v6, rfl, rfl, hb⟩
      have HKx_6 := Lib.hid (blk_keep HKx_5.out hb)
      have HKa_6 := Lib.hid (blk_keep HKa_5.out hb)
      have HKb_6 := Lib.hid (blk_keep HKb_5.out hb)
      have HKc_6 := Lib.hid (blk_keep HKc_5.out hb)
      have HB_6 := Lib.hid (HB_5.out.trans (hb.mono HB_5.out.size))
      clear hb HKx_5 HKa_5 HKb_5 HKc_5 HB_5 hlc hmc hnc cc0 cc1 cc2 cc3
      rw [x3]
      go_wp2
      go_ret
      exact Ret.mk1 rfl HB_6.out

set_option maxHeartbeats 4000000 in
theorem fnClockOffset_c (va : Value) (bs : List Int) (w : World) (h : RdB w va bs) (hb : ∀ n ∈ bs, (Lit.int .u8 n).wf = true) :
    Calls Try.prog 11 #[va] w (Ret w fun v _ => v = .bool true) := by
  obtain ⟨a, ca, rfl, ml⟩ := h.form
  have HA := Lib.hid h
  have HBs := Lib.hid hb
  clear h hb
  by_cases hl : bs.length ≤ 1048576
  case neg =>
    go_enter Try.func11, Try.ntmps11
    go_wp2
    go_ret
    exact Ret.mk1 rfl (Below.refl _ _)
  go_enter Try.func11, Try.ntmps11
  go_wp2_with fail
  refine (DrawClockOffset_c _ bs _ HA.out HBs.out).mono ?_
  rintro e w1 ⟨v1, rfl, ⟨s, h, a2, b, rfl⟩, hb⟩
  have HB_1 := Lib.hid hb
  clear hb
  cases hx : exB s h a2 b
  · unfold ex
    go_wp2_with fail
    refine (implClockOffset_c s h a2 b _).mono ?_
    rintro e w2 ⟨v2, rfl, hv, hb⟩
    rw [coV_false hx] at hv
    subst hv
    have hb0 := hb
    clear hb
    have hb := below_via (w := w1) (by repeat' (first | with_reducible exact Below.refl _ _ | with_reducible assumption | with_reducible refine below_drewN ?_ _ | with_reducible refine Below.drew ?_ | with_reducible refine Below.alloc ?_ ?_ _ | with_reducible refine Below.setCell ?_ ?_ _ | go_size)) hb0
    have HKx_2 : Hid (w2.heap[w1.heap.size]? = some (.cells #[.int .i64 s, .int .i64 h, .int .i64 a2, .int .i64 b] 44 (0, 0))) := by unfold Hid; rw [hb0.block _ (by simp; try omega)]; first | exact blk_at (by simp) | exact blk_old (blk_at (by simp)) | exact blk_old (blk_old (blk_at (by simp))) | exact blk_old (blk_old (blk_old (blk_at (by simp))))
    clear hb0
    have HB_2 := Lib.hid (HB_1.out.trans (hb.mono HB_1.out.size))
    clear hb HB_1
    have hlx : w1.heap.size < w2.heap.size := blk_lt HKx_2.out
    have hmx : w1.heap.size < w2.heap.size + 1 := by omega
    have hnx : w1.heap.size < w2.heap.size + 1 + 1 := by omega
    have cx0 : w2.cell? ⟨w1.heap.size, 0, none⟩ = some (.int .i64 s) := blk_cell HKx_2.out 0
    have cx1 : w2.cell? ⟨w1.heap.size, 1, none⟩ = some (.int .i64 h) := blk_cell HKx_2.out 1
    have cx2 : w2.cell? ⟨w1.heap.size, 2, none⟩ = some (.int .i64 a2) := blk_cell HKx_2.out 2
    have cx3 : w2.cell? ⟨w1.heap.size, 3, none⟩ = some (.int .i64 b) := blk_cell HKx_2.out 3
    go_wp2_with fail
    refine (specClockOffset_c s h a2 b _).mono ?_
    rintro e w3 ⟨v3, rfl, hv, hb⟩
    rw [coV_false hx] at hv
    subst hv
    have HKx_3 := Lib.hid (blk_keep HKx_2.out hb)
    have HB_3 := Lib.hid (HB_2.out.trans (hb.mono HB_2.out.size))
    clear hb HKx_2 HB_2 hlx hmx hnx cx0 cx1 cx2 cx3
    have hlx : w1.heap.size < w3.heap.size := blk_lt HKx_3.out
    have hmx : w1.heap.size < w3.heap.size + 1 := by omega
    have hnx : w1.heap.size < w3.heap.size + 1 + 1 := by omega
    have cx0 : w3.cell? ⟨w1.heap.size, 0, none⟩ = some (.int .i64 s) := blk_cell HKx_3.out 0
    have cx1 : w3.cell? ⟨w1.heap.size, 1, none⟩ = some (.int .i64 h) := blk_cell HKx_3.out 1
    have cx2 : w3.cell? ⟨w1.heap.size, 2, none⟩ = some (.int .i64 a2) := blk_cell HKx_3.out 2
    have cx3 : w3.cell? ⟨w1.heap.size, 3, none⟩ = some (.int .i64 b) := blk_cell HKx_3.out 3
    go_wp2_with fail
    refine (implExchangeValid_c s h a2 b _).mono ?_
    rintro e w4 ⟨v4, rfl, rfl, hb⟩
    have HKx_4 := Lib.hid (blk_keep HKx_3.out hb)
    have HB_4 := Lib.hid (HB_3.out.trans (hb.mono HB_3.out.size))
    clear hb HKx_3 HB_3 hlx hmx hnx cx0 cx1 cx2 cx3
    rw [hx]
    have hlx : w1.heap.size < w4.heap.size := blk_lt HKx_4.out
    have hmx : w1.heap.size < w4.heap.size + 1 := by omega
    have hnx : w1.heap.size < w4.heap.size + 1 + 1 := by omega
    have cx0 : w4.cell? ⟨w1.heap.size, 0, none⟩ = some (.int .i64 s) := blk_cell HKx_4.out 0
    have cx1 : w4.cell? ⟨w1.heap.size, 1, none⟩ = some (.int .i64 h) := blk_cell HKx_4.out 1
    have cx2 : w4.cell? ⟨w1.heap.size, 2, none⟩ = some (.int .i64 a2) := blk_cell HKx_4.out 2
    have cx3 : w4.cell? ⟨w1.heap.size, 3, none⟩ = some (.int .i64 b) := blk_cell HKx_4.out 3
    go_wp2_with fail
    refine (alive_c _).mono ?_
    rintro e w5 ⟨v5, rfl, rfl, hb⟩
    have HKx_5 := Lib.hid (blk_keep HKx_4.out hb)
    have HB_5 := Lib.hid (HB_4.out.trans (hb.mono HB_4.out.size))
    clear hb HKx_4 HB_4 hlx hmx hnx cx0 cx1 cx2 cx3
    go_wp2
    go_ret
    exact Ret.mk1 rfl HB_5.out
  · obtain ⟨⟨a1, a3⟩, ⟨b1, b2⟩, ⟨c1, c2⟩, ⟨d1, d2⟩, f1⟩ := exB_true.1 hx
    unfold ex
    go_wp2_with fail
    refine (implClockOffset_c s h a2 b _).mono ?_
    rintro e w2 ⟨v2, rfl, hv, hb⟩
    rw [coV_true hx] at hv
    subst hv
    have hb0 := hb
    clear hb
    have hb := below_via (w := w1) (by repeat' (first | with_reducible exact Below.refl _ _ | with_reducible assumption | with_reducible refine below_drewN ?_ _ | with_reducible refine Below.drew ?_ | with_reducible refine Below.alloc ?_ ?_ _ | with_reducible refine Below.setCell ?_ ?_ _ | go_size)) hb0
    have HKx_2 : Hid (w2.heap[w1.heap.size]? = some (.cells #[.int .i64 s, .int .i64 h, .int .i64 a2, .int .i64 b] 44 (0, 0))) := by unfold Hid; rw [hb0.block _ (by simp; try omega)]; first | exact blk_at (by simp) | exact blk_old (blk_at (by simp)) | exact blk_old (blk_old (blk_at (by simp))) | exact blk_old (blk_old (blk_old (blk_at (by simp))))
    clear hb0
    have HB_2 := Lib.hid (HB_1.out.trans (hb.mono HB_1.out.size))
    clear hb HB_1
    have hlx : w1.heap.size < w2.heap.size := blk_lt HKx_2.out
    have hmx : w1.heap.size < w2.heap.size + 1 := by omega
    have hnx : w1.heap.size < w2.heap.size + 1 + 1 := by omega
    have cx0 : w2.cell? ⟨w1.heap.size, 0, none⟩ = some (.int .i64 s) := blk_cell HKx_2.out 0
    have cx1 : w2.cell? ⟨w1.heap.size, 1, none⟩ = some (.int .i64 h) := blk_cell HKx_2.out 1
    have cx2 : w2.cell? ⟨w1.heap.size, 2, none⟩ = some (.int .i64 a2) := blk_cell HKx_2.out 2
    have cx3 : w2.cell? ⟨w1.heap.size, 3, none⟩ = some (.int .i64 b) := blk_cell HKx_2.out 3
    go_wp2_with fail
    refine (specClockOffset_c s h a2 b _).mono ?_
    rintro e w3 ⟨v3, rfl, hv, hb⟩
    rw [coV_true hx] at hv
    subst hv
    have HKx_3 := Lib.hid (blk_keep HKx_2.out hb)
    have HB_3 := Lib.hid (HB_2.out.trans (hb.mono HB_2.out.size))
    clear hb HKx_2 HB_2 hlx hmx hnx cx0 cx1 cx2 cx3
    have hlx : w1.heap.size < w3.heap.size := blk_lt HKx_3.out
    have hmx : w1.heap.size < w3.heap.size + 1 := by omega
    have hnx : w1.heap.size < w3.heap.size + 1 + 1 := by omega
    have cx0 : w3.cell? ⟨w1.heap.size, 0, none⟩ = some (.int .i64 s) := blk_cell HKx_3.out 0
    have cx1 : w3.cell? ⟨w1.heap.size, 1, none⟩ = some (.int .i64 h) := blk_cell HKx_3.out 1
    have cx2 : w3.cell? ⟨w1.heap.size, 2, none⟩ = some (.int .i64 a2) := blk_cell HKx_3.out 2
    have cx3 : w3.cell? ⟨w1.heap.size, 3, none⟩ = some (.int .i64 b) := blk_cell HKx_3.out 3
    have n1 : ((h - s + a2 - b) != (h - s + a2 - b)) = false := bne_self_eq_false _
    have n2 : ((b - s - (a2 - h)) != (b - s - (a2 - h))) = false := bne_self_eq_false _
    go_wp2_with fail
    refine (implExchangeValid_c s h a2 b _).mono ?_
    rintro e w4 ⟨v4, rfl, rfl, hb⟩
    have HKx_4 := Lib.hid (blk_keep HKx_3.out hb)
    have HB_4 := Lib.hid (HB_3.out.trans (hb.mono HB_3.out.size))
    clear hb HKx_3 HB_3 hlx hmx hnx cx0 cx1 cx2 cx3
    rw [hx]
    have hlx : w1.heap.size < w4.heap.size := blk_lt HKx_4.out
    have hmx : w1.heap.size < w4.heap.size + 1 := by omega
    have hnx : w1.heap.size < w4.heap.size + 1 + 1 := by omega
    have cx0 : w4.cell? ⟨w1.heap.size, 0, none⟩ = some (.int .i64 s) := blk_cell HKx_4.out 0
    have cx1 : w4.cell? ⟨w1.heap.size, 1, none⟩ = some (.int .i64 h) := blk_cell HKx_4.out 1
    have cx2 : w4.cell? ⟨w1.heap.size, 2, none⟩ = some (.int .i64 a2) := blk_cell HKx_4.out 2
    have cx3 : w4.cell? ⟨w1.heap.size, 3, none⟩ = some (.int .i64 b) := blk_cell HKx_4.out 3
    go_wp2_with fail
    have n3 : ((h - s + a2 - b) == (h - s + (a2 - b))) = true := by simp; omega
    cases hy : exB s (h + 7) (a2 + 7) b
    · refine (implClockOffset_c s (h + 7) (a2 + 7) b _).mono ?_
      rintro e w5 ⟨v5, rfl, hv, hb⟩
      rw [coV_false hy] at hv
      subst hv
      have hb0 := hb
      clear hb
      have hb := below_via (w := w4) (by repeat' (first | with_reducible exact Below.refl _ _ | with_reducible assumption | with_reducible refine below_drewN ?_ _ | with_reducible refine Below.drew ?_ | with_reducible refine Below.alloc ?_ ?_ _ | with_reducible refine Below.setCell ?_ ?_ _ | go_size)) hb0
      have HKc_5 : Hid (w5.heap[w4.heap.size]? = some (.cells #[.int .i64 s, .int .i64 (h + 7), .int .i64 (a2 + 7), .int .i64 b] 44 (0, 0))) := by unfold Hid; rw [hb0.block _ (by simp; try omega)]; first | exact blk_at (by simp) | exact blk_old (blk_at (by simp)) | exact blk_old (blk_old (blk_at (by simp))) | exact blk_old (blk_old (blk_old (blk_at (by simp))))
      clear hb0
      have HKx_5 := Lib.hid (blk_keep HKx_4.out hb)
      have HB_5 := Lib.hid (HB_4.out.trans (hb.mono HB_4.out.size))
      clear hb HKx_4 HB_4 hlx hmx hnx cx0 cx1 cx2 cx3
      have hlx : w1.heap.size < w5.heap.size := blk_lt HKx_5.out
      have hmx : w1.heap.size < w5.heap.size + 1 := by omega
      have hnx : w1.heap.size < w5.heap.size + 1 + 1 := by omega
      have cx0 : w5.cell? ⟨w1.heap.size, 0, none⟩ = some (.int .i64 s) := blk_cell HKx_5.out 0
      have cx1 : w5.cell? ⟨w1.heap.size, 1, none⟩ = some (.int .i64 h) := blk_cell HKx_5.out 1
      have cx2 : w5.cell? ⟨w1.heap.size, 2, none⟩ = some (.int .i64 a2) := blk_cell HKx_5.out 2
      have cx3 : w5.cell? ⟨w1.heap.size, 3, none⟩ = some (.int .i64 b) := blk_cell HKx_5.out 3
      have hlc : w4.heap.size < w5.heap.size := blk_lt HKc_5.out
      have hmc : w4.heap.size < w5.heap.size + 1 := by omega
      have hnc : w4.heap.size < w5.heap.size + 1 + 1 := by omega
      have cc0 : w5.cell? ⟨w4.heap.size, 0, none⟩ = some (.int .i64 s) := blk_cell HKc_5.out 0
      have cc1 : w5.cell? ⟨w4.heap.size, 1, none⟩ = some (.int .i64 (h + 7)) := blk_cell HKc_5.out 1
      have cc2 : w5.cell? ⟨w4.heap.size, 2, none⟩ = some (.int .i64 (a2 + 7)) := blk_cell HKc_5.out 2
      have cc3 : w5.cell? ⟨w4.heap.size, 3, none⟩ = some (.int .i64 b) := blk_cell HKc_5.out 3
      go_wp2_with fail
      refine (implExchangeValid_c s (h + 7) (a2 + 7) b _).mono ?_
      rintro e w6 ⟨v6, rfl, rfl, hb⟩
      have HKx_6 := Lib.hid (blk_keep HKx_5.out hb)
      have HKc_6 := Lib.hid (blk_keep HKc_5.out hb)
      have HB_6 := Lib.hid (HB_5.out.trans (hb.mono HB_5.out.size))
      clear hb HKx_5 HKc_5 HB_5 hlx hmx hnx cx0 cx1 cx2 cx3 hlc hmc hnc cc0 cc1 cc2 cc3
      rw [hy]
      have hlx : w1.heap.size < w6.heap.size := blk_lt HKx_6.out
      have hmx : w1.heap.size < w6.heap.size + 1 := by omega
      have hnx : w1.heap.size < w6.heap.size + 1 + 1 := by omega
      have cx0 : w6.cell? ⟨w1.heap.size, 0, none⟩ = some (.int .i64 s) := blk_cell HKx_6.out 0
      have cx1 : w6.cell? ⟨w1.heap.size, 1, none⟩ = some (.int .i64 h) := blk_cell HKx_6.out 1
      have cx2 : w6.cell? ⟨w1.heap.size, 2, none⟩ = some (.int .i64 a2) := blk_cell HKx_6.out 2
      have cx3 : w6.cell? ⟨w1.heap.size, 3, none⟩ = some (.int .i64 b) := blk_cell HKx_6.out 3
      have hlc : w4.heap.size < w6.heap.size := blk_lt HKc_6.out
      have hmc : w4.heap.size < w6.heap.size + 1 := by omega
      have hnc : w4.heap.size < w6.heap.size + 1 + 1 := by omega
      have cc0 : w6.cell? ⟨w4.heap.size, 0, none⟩ = some (.int .i64 s) := blk_cell HKc_6.out 0
      have cc1 : w6.cell? ⟨w4.heap.size, 1, none⟩ = some (.int .i64 (h + 7)) := blk_cell HKc_6.out 1
      have cc2 : w6.cell? ⟨w4.heap.size, 2, none⟩ = some (.int .i64 (a2 + 7)) := blk_cell HKc_6.out 2
      have cc3 : w6.cell? ⟨w4.heap.size, 3, none⟩ = some (.int .i64 b) := blk_cell HKc_6.out 3
      go_wp2
      go_ret
      exact Ret.mk1 rfl HB_6.out
    · refine (implClockOffset_c s (h + 7) (a2 + 7) b _).mono ?_
      rintro e w5 ⟨v5, rfl, hv, hb⟩
      rw [coV_true hy] at hv
      subst hv
      have hb0 := hb
      clear hb
      have hb := below_via (w := w4) (by repeat' (first | with_reducible exact Below.refl _ _ | with_reducible assumption | with_reducible refine below_drewN ?_ _ | with_reducible refine Below.drew ?_ | with_reducible refine Below.alloc ?_ ?_ _ | with_reducible refine Below.setCell ?_ ?_ _ | go_size)) hb0
      have HKc_5 : Hid (w5.heap[w4.heap.size]? = some (.cells #[.int .i64 s, .int .i64 (h + 7), .int .i64 (a2 + 7), .int .i64 b] 44 (0, 0))) := by unfold Hid; rw [hb0.block _ (by simp; try omega)]; first | exact blk_at (by simp) | exact blk_old (blk_at (by simp)) | exact blk_old (blk_old (blk_at (by simp))) | exact blk_old (blk_old (blk_old (blk_at (by simp))))
      clear hb0
      have HKx_5 := Lib.hid (blk_keep HKx_4.out hb)
      have HB_5 := Lib.hid (HB_4.out.trans (hb.mono HB_4.out.size))
      clear hb HKx_4 HB_4 hlx hmx hnx cx0 cx1 cx2 cx3
      have hlx : w1.heap.size < w5.heap.size := blk_lt HKx_5.out
      have hmx : w1.heap.size < w5.heap.size + 1 := by omega
      have hnx : w1.heap.size < w5.heap.size + 1 + 1 := by omega
      have cx0 : w5.cell? ⟨w1.heap.size, 0, none⟩ = some (.int .i64 s) := blk_cell HKx_5.out 0
      have cx1 : w5.cell? ⟨w1.heap.size, 1, none⟩ = some (.int .i64 h) := blk_cell HKx_5.out 1
      have cx2 : w5.cell? ⟨w1.heap.size, 2, none⟩ = some (.int .i64 a2) := blk_cell HKx_5.out 2
      have cx3 : w5.cell? ⟨w1.heap.size, 3, none⟩ = some (.int .i64 b) := blk_cell HKx_5.out 3
      have hlc : w4.heap.size < w5.heap.size := blk_lt HKc_5.out
      have hmc : w4.heap.size < w5.heap.size + 1 := by omega
      have hnc : w4.heap.size < w5.heap.size + 1 + 1 := by omega
      have cc0 : w5.cell? ⟨w4.heap.size, 0, none⟩ = some (.int .i64 s) := blk_cell HKc_5.out 0
      have cc1 : w5.cell? ⟨w4.heap.size, 1, none⟩ = some (.int .i64 (h + 7)) := blk_cell HKc_5.out 1
      have cc2 : w5.cell? ⟨w4.heap.size, 2, none⟩ = some (.int .i64 (a2 + 7)) := blk_cell HKc_5.out 2
      have cc3 : w5.cell? ⟨w4.heap.size, 3, none⟩ = some (.int .i64 b) := blk_cell HKc_5.out 3
      have n4 : ((h + 7 - s + (a2 + 7) - b) == (h - s + a2 - b + 14)) = true := by simp; omega
      have n5 : ((b - s - (a2 + 7 - (h + 7))) == (b - s - (a2 - h))) = true := by simp; omega
      go_wp2_with fail
      refine (implExchangeValid_c s (h + 7) (a2 + 7) b _).mono ?_
      rintro e w6 ⟨v6, rfl, rfl, hb⟩
      have HKx_6 := Lib.hid (blk_keep HKx_5.out hb)
      have HKc_6 := Lib.hid (blk_keep HKc_5.out hb)
      have HB_6 := Lib.hid (HB_5.out.trans (hb.mono HB_5.out.size))
      clear hb HKx_5 HKc_5 HB_5 hlx hmx hnx cx0 cx1 cx2 cx3 hlc hmc hnc cc0 cc1 cc2 cc3
      rw [hy]
      have hlx : w1.heap.size < w6.heap.size := blk_lt HKx_6.out
      have hmx : w1.heap.size < w6.heap.size + 1 := by omega
      have hnx : w1.heap.size < w6.heap.size + 1 + 1 := by omega
      have cx0 : w6.cell? ⟨w1.heap.size, 0, none⟩ = some (.int .i64 s) := blk_cell HKx_6.out 0
      have cx1 : w6.cell? ⟨w1.heap.size, 1, none⟩ = some (.int .i64 h) := blk_cell HKx_6.out 1
      have cx2 : w6.cell? ⟨w1.heap.size, 2, none⟩ = some (.int .i64 a2) := blk_cell HKx_6.out 2
      have cx3 : w6.cell? ⟨w1.heap.size, 3, none⟩ = some (.int .i64 b) := blk_cell HKx_6.out 3
      have hlc : w4.heap.size < w6.heap.size := blk_lt HKc_6.out
      have hmc : w4.heap.size < w6.heap.size + 1 := by omega
      have hnc : w4.heap.size < w6.heap.size + 1 + 1 := by omega
      have cc0 : w6.cell? ⟨w4.heap.size, 0, none⟩ = some (.int .i64 s) := blk_cell HKc_6.out 0
      have cc1 : w6.cell? ⟨w4.heap.size, 1, none⟩ = some (.int .i64 (h + 7)) := blk_cell HKc_6.out 1
      have cc2 : w6.cell? ⟨w4.heap.size, 2, none⟩ = some (.int .i64 (a2 + 7)) := blk_cell HKc_6.out 2
      have cc3 : w6.cell? ⟨w4.heap.size, 3, none⟩ = some (.int .i64 b) := blk_cell HKc_6.out 3
      go_wp2
      go_ret
      exact Ret.mk1 rfl HB_6.out

end Go.Proofs.Ytfllfbmdnokmnaa
