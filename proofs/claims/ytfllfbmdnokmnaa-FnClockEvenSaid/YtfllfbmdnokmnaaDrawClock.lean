import Derived.Test.YtfllfbmdnokmnaaProg
import Derived.Test.YtfllfbmdnokmnaaLib
import Derived.Test.YtfllfbmdnokmnaaNum
import Derived.Test.YtfllfbmdnokmnaaClock
import Derived.Test.YtfllfbmdnokmnaaRead
namespace Go.Proofs.Ytfllfbmdnokmnaa
open Go.RowKit

/-- An exchange that is drawn. -/
def ExR (w : World) (g m : Nat) (e : Ending) (w' : World) : Prop :=
  ∃ s h a b : Int, e = .returned (ex s h a b) ∧ Rdr w' g m ∧ w.grownBy w' (some g)

set_option maxHeartbeats 4000000 in
theorem l20Exchange_c (g m : Nat) (n : Int) (w : World) (h : Rdr w g m) (hm : m ≤ 1000000) (hn : n ≤ 1000000) :
    Calls Try.prog 62 #[.pointer (some ⟨g, 0, none⟩), .int .i64 n] w (ExR w g (m + 10)) := by
  have hgl := h.lt
  have HR0 := Lib.hid h
  clear h
  go_enter Try.func62, Try.ntmps62
  go_wp2_with fail
  refine (pick_c g _ 200 _ (HR0.out.belowB hgl (by repeat' (first | with_reducible exact Below.refl _ _ | with_reducible assumption | with_reducible refine below_drewN ?_ _ | with_reducible refine Below.drew ?_ | with_reducible refine Below.alloc ?_ ?_ _ | with_reducible refine Below.setCell ?_ ?_ _ | go_size))) (by omega) (by decide)).mono ?_
  rintro e w1 ⟨t, rfl, t_0, t_a, t_b, hr, hg⟩
  have t_1 := t_a (by decide)
  clear t_a t_b
  have HR1 := Lib.hid hr
  have HG1 := Lib.hid (grown_stepB (World.grownBy.refl w (some g)) (W := _) (by repeat' (first | with_reducible exact Below.refl _ _ | with_reducible assumption | with_reducible refine below_drewN ?_ _ | with_reducible refine Below.drew ?_ | with_reducible refine Below.alloc ?_ ?_ _ | with_reducible refine Below.setCell ?_ ?_ _ | go_size)) hg)
  have HKr_1 : Hid (w1.heap[w.heap.size]? = some (.cells #[.int .i64 0, .int .i64 0, .int .i64 0, .int .i64 0] 44 (0, 0))) := by
    unfold Hid; rw [hg.block _ (by simp; try omega) (by simp; try omega)]; first | exact blk_new | exact blk_old blk_new | exact blk_old (blk_old blk_new)
  clear hr hg HR0
  have hz1 := HG1.out.size
  go_wp2_with fail
  refine (pick_c g _ 61 _ (HR1.out.belowB hgl (by repeat' (first | with_reducible exact Below.refl _ _ | with_reducible assumption | with_reducible refine below_drewN ?_ _ | with_reducible refine Below.drew ?_ | with_reducible refine Below.alloc ?_ ?_ _ | with_reducible refine Below.setCell ?_ ?_ _ | go_size))) (by omega) (by decide)).mono ?_
  rintro e w2 ⟨o, rfl, o_0, o_a, o_b, hr, hg⟩
  have o_1 := o_a (by decide)
  clear o_a o_b
  have HR2 := Lib.hid hr
  have HG2 := Lib.hid (grown_stepB HG1.out (W := _) (by repeat' (first | with_reducible exact Below.refl _ _ | with_reducible assumption | with_reducible refine below_drewN ?_ _ | with_reducible refine Below.drew ?_ | with_reducible refine Below.alloc ?_ ?_ _ | with_reducible refine Below.setCell ?_ ?_ _ | go_size)) hg)
  have HKr_2 := Lib.hid (blk_step (W := _) HKr_1.out (by omega) (by repeat' (first | with_reducible exact Below.refl _ _ | with_reducible assumption | with_reducible refine below_drewN ?_ _ | with_reducible refine Below.drew ?_ | with_reducible refine Below.alloc ?_ ?_ _ | with_reducible refine Below.setCell ?_ ?_ _ | go_size)) hg)
  clear hr hg HR1 HG1 HKr_1
  have hz2 := HG2.out.size
  go_wp2_with fail
  refine (pick_c g _ 20 _ (HR2.out.belowB hgl (by repeat' (first | with_reducible exact Below.refl _ _ | with_reducible assumption | with_reducible refine below_drewN ?_ _ | with_reducible refine Below.drew ?_ | with_reducible refine Below.alloc ?_ ?_ _ | with_reducible refine Below.setCell ?_ ?_ _ | go_size))) (by omega) (by decide)).mono ?_
  rintro e w3 ⟨a, rfl, a_0, a_a, a_b, hr, hg⟩
  have a_1 := a_a (by decide)
  clear a_a a_b
  have HR3 := Lib.hid hr
  have HG3 := Lib.hid (grown_stepB HG2.out (W := _) (by repeat' (first | with_reducible exact Below.refl _ _ | with_reducible assumption | with_reducible refine below_drewN ?_ _ | with_reducible refine Below.drew ?_ | with_reducible refine Below.alloc ?_ ?_ _ | with_reducible refine Below.setCell ?_ ?_ _ | go_size)) hg)
  have HKr_3 := Lib.hid (blk_step (W := _) HKr_2.out (by omega) (by repeat' (first | with_reducible exact Below.refl _ _ | with_reducible assumption | with_reducible refine below_drewN ?_ _ | with_reducible refine Below.drew ?_ | with_reducible refine Below.alloc ?_ ?_ _ | with_reducible refine Below.setCell ?_ ?_ _ | go_size)) hg)
  clear hr hg HR2 HG2 HKr_2
  have hz3 := HG3.out.size
  go_wp2_with fail
  refine (pick_c g _ 9 _ (HR3.out.belowB hgl (by repeat' (first | with_reducible exact Below.refl _ _ | with_reducible assumption | with_reducible refine below_drewN ?_ _ | with_reducible refine Below.drew ?_ | with_reducible refine Below.alloc ?_ ?_ _ | with_reducible refine Below.setCell ?_ ?_ _ | go_size))) (by omega) (by decide)).mono ?_
  rintro e w4 ⟨q, rfl, q_0, q_a, q_b, hr, hg⟩
  have q_1 := q_a (by decide)
  clear q_a q_b
  have HR4 := Lib.hid hr
  have HG4 := Lib.hid (grown_stepB HG3.out (W := _) (by repeat' (first | with_reducible exact Below.refl _ _ | with_reducible assumption | with_reducible refine below_drewN ?_ _ | with_reducible refine Below.drew ?_ | with_reducible refine Below.alloc ?_ ?_ _ | with_reducible refine Below.setCell ?_ ?_ _ | go_size)) hg)
  have HKr_4 := Lib.hid (blk_step (W := _) HKr_3.out (by omega) (by repeat' (first | with_reducible exact Below.refl _ _ | with_reducible assumption | with_reducible refine below_drewN ?_ _ | with_reducible refine Below.drew ?_ | with_reducible refine Below.alloc ?_ ?_ _ | with_reducible refine Below.setCell ?_ ?_ _ | go_size)) hg)
  clear hr hg HR3 HG3 HKr_3
  have hz4 := HG4.out.size
  go_wp2_with fail
  refine (pick_c g _ 20 _ (HR4.out.belowB hgl (by repeat' (first | with_reducible exact Below.refl _ _ | with_reducible assumption | with_reducible refine below_drewN ?_ _ | with_reducible refine Below.drew ?_ | with_reducible refine Below.alloc ?_ ?_ _ | with_reducible refine Below.setCell ?_ ?_ _ | go_size))) (by omega) (by decide)).mono ?_
  rintro e w5 ⟨b, rfl, b_0, b_a, b_b, hr, hg⟩
  have b_1 := b_a (by decide)
  clear b_a b_b
  have HR5 := Lib.hid hr
  have HG5 := Lib.hid (grown_stepB HG4.out (W := _) (by repeat' (first | with_reducible exact Below.refl _ _ | with_reducible assumption | with_reducible refine below_drewN ?_ _ | with_reducible refine Below.drew ?_ | with_reducible refine Below.alloc ?_ ?_ _ | with_reducible refine Below.setCell ?_ ?_ _ | go_size)) hg)
  have HKr_5 := Lib.hid (blk_step (W := _) HKr_4.out (by omega) (by repeat' (first | with_reducible exact Below.refl _ _ | with_reducible assumption | with_reducible refine below_drewN ?_ _ | with_reducible refine Below.drew ?_ | with_reducible refine Below.alloc ?_ ?_ _ | with_reducible refine Below.setCell ?_ ?_ _ | go_size)) hg)
  clear hr hg HR4 HG4 HKr_4
  have hz5 := HG5.out.size
  have hs5 := blk_lt HKr_5.out
  go_wp2_with fail
  refine (odd_c g _ n _ (HR5.out.belowB hgl (by repeat' (first | with_reducible exact Below.refl _ _ | with_reducible assumption | with_reducible refine below_drewN ?_ _ | with_reducible refine Below.drew ?_ | with_reducible refine Below.alloc ?_ ?_ _ | with_reducible refine Below.setCell ?_ ?_ _ | go_size))) (by omega) (by omega)).mono ?_
  rintro e w6 ⟨od, rfl, hr, hg⟩
  have HR6 := Lib.hid hr
  have HG6 := Lib.hid (grown_stepB HG5.out (W := _) (by repeat' (first | with_reducible exact Below.refl _ _ | with_reducible assumption | with_reducible refine below_drewN ?_ _ | with_reducible refine Below.drew ?_ | with_reducible refine Below.alloc ?_ ?_ _ | with_reducible refine Below.setCell ?_ ?_ _ | go_size)) hg)
  have HKr_6 := Lib.hid (blk_step (W := _) HKr_5.out (by omega) (by repeat' (first | with_reducible exact Below.refl _ _ | with_reducible assumption | with_reducible refine below_drewN ?_ _ | with_reducible refine Below.drew ?_ | with_reducible refine Below.alloc ?_ ?_ _ | with_reducible refine Below.setCell ?_ ?_ _ | go_size)) hg)
  have HKx_6 : Hid (w6.heap[w5.heap.size]? = some (.cells #[.int .i64 (t - 100), .int .i64 (t - 100 + a + (o - 30)), .int .i64 (t - 100 + a + (o - 30) + q), .int .i64 (t - 100 + a + q + b)] 44 (0, 0))) := by
    unfold Hid; rw [hg.block _ (by simp; try omega) (by simp; try omega)]; first | exact blk_new | exact blk_old blk_new | exact blk_old (blk_old blk_new)
  clear hr hg HR5 HG5 HKr_5
  have hz6 := HG6.out.size
  obtain ⟨x0, x1, x2, x3, HX⟩ : ∃ x0 x1 x2 x3 : Int, Hid (w6.heap[w5.heap.size]? = some (.cells #[.int .i64 x0, .int .i64 x1, .int .i64 x2, .int .i64 x3] 44 (0, 0))) := ⟨_, _, _, _, HKx_6⟩
  clear HKx_6 t_0 t_1 o_0 o_1 a_0 a_1 b_0 b_1
  have hlt5 : w.heap.size < w5.heap.size := hs5
  have hne5 : ¬ w5.heap.size = w.heap.size := by omega
  have hne5b : ¬ w.heap.size = w5.heap.size := by omega
  cases od
  · have xc0 : w6.cell? ⟨w5.heap.size, 0, none⟩ = some (.int .i64 x0) := blk_cell HX.out 0
    have xf0 : w6.frozen? ⟨w5.heap.size, 0, none⟩ = false := blk_frozen HX.out 0
    have xc1 : w6.cell? ⟨w5.heap.size, 1, none⟩ = some (.int .i64 x1) := blk_cell HX.out 1
    have xf1 : w6.frozen? ⟨w5.heap.size, 1, none⟩ = false := blk_frozen HX.out 1
    have xc2 : w6.cell? ⟨w5.heap.size, 2, none⟩ = some (.int .i64 x2) := blk_cell HX.out 2
    have xf2 : w6.frozen? ⟨w5.heap.size, 2, none⟩ = false := blk_frozen HX.out 2
    have xc3 : w6.cell? ⟨w5.heap.size, 3, none⟩ = some (.int .i64 x3) := blk_cell HX.out 3
    have xf3 : w6.frozen? ⟨w5.heap.size, 3, none⟩ = false := blk_frozen HX.out 3
    have rc0 : w6.cell? ⟨w.heap.size, 0, none⟩ = some (.int .i64 0) := blk_cell HKr_6.out 0
    have rf0 : w6.frozen? ⟨w.heap.size, 0, none⟩ = false := blk_frozen HKr_6.out 0
    have rc1 : w6.cell? ⟨w.heap.size, 1, none⟩ = some (.int .i64 0) := blk_cell HKr_6.out 1
    have rf1 : w6.frozen? ⟨w.heap.size, 1, none⟩ = false := blk_frozen HKr_6.out 1
    have rc2 : w6.cell? ⟨w.heap.size, 2, none⟩ = some (.int .i64 0) := blk_cell HKr_6.out 2
    have rf2 : w6.frozen? ⟨w.heap.size, 2, none⟩ = false := blk_frozen HKr_6.out 2
    have rc3 : w6.cell? ⟨w.heap.size, 3, none⟩ = some (.int .i64 0) := blk_cell HKr_6.out 3
    have rf3 : w6.frozen? ⟨w.heap.size, 3, none⟩ = false := blk_frozen HKr_6.out 3
    go_wp2
    try simp only [Exit.inBlock, Exit.then]
    refine bodyPost_ret (by simp [results, Try.results62, go_sem, rc0, rc1, rc2, rc3]; try rfl) rfl ?_
    exact ⟨_, _, _, _, rfl, (HR6.out.belowB hgl (by repeat' (first | with_reducible exact Below.refl _ _ | with_reducible assumption | with_reducible refine below_drewN ?_ _ | with_reducible refine Below.drew ?_ | with_reducible refine Below.alloc ?_ ?_ _ | with_reducible refine Below.setCell ?_ ?_ _ | go_size))).mono (by omega), grown_below HG6.out (by repeat' (first | with_reducible exact Below.refl _ _ | with_reducible assumption | with_reducible refine below_drewN ?_ _ | with_reducible refine Below.drew ?_ | with_reducible refine Below.alloc ?_ ?_ _ | with_reducible refine Below.setCell ?_ ?_ _ | go_size))⟩
  · go_wp2_with fail
    refine (pick_c g _ 3 _ (HR6.out.belowB hgl (by repeat' (first | with_reducible exact Below.refl _ _ | with_reducible assumption | with_reducible refine below_drewN ?_ _ | with_reducible refine Below.drew ?_ | with_reducible refine Below.alloc ?_ ?_ _ | with_reducible refine Below.setCell ?_ ?_ _ | go_size))) (by omega) (by decide)).mono ?_
    rintro e w7 ⟨c, rfl, c_0, c_a, c_b, hr, hg⟩
    have c_1 := c_a (by decide)
    clear c_a c_b
    have HR7 := Lib.hid hr
    have HG7 := Lib.hid (grown_stepB HG6.out (W := _) (by repeat' (first | with_reducible exact Below.refl _ _ | with_reducible assumption | with_reducible refine below_drewN ?_ _ | with_reducible refine Below.drew ?_ | with_reducible refine Below.alloc ?_ ?_ _ | with_reducible refine Below.setCell ?_ ?_ _ | go_size)) hg)
    have HKr_7 := Lib.hid (blk_step (W := _) HKr_6.out (by omega) (by repeat' (first | with_reducible exact Below.refl _ _ | with_reducible assumption | with_reducible refine below_drewN ?_ _ | with_reducible refine Below.drew ?_ | with_reducible refine Below.alloc ?_ ?_ _ | with_reducible refine Below.setCell ?_ ?_ _ | go_size)) hg)
    have HKx_7 := Lib.hid (blk_step (W := _) HX.out (by have := hz5; omega) (by repeat' (first | with_reducible exact Below.refl _ _ | with_reducible assumption | with_reducible refine below_drewN ?_ _ | with_reducible refine Below.drew ?_ | with_reducible refine Below.alloc ?_ ?_ _ | with_reducible refine Below.setCell ?_ ?_ _ | go_size)) hg)
    clear hr hg HR6 HG6 HKr_6 HX
    have hz7 := HG7.out.size
    obtain rfl | rfl | rfl : c = 0 ∨ c = 1 ∨ c = 2 := by omega
    · go_wp2_with fail
      refine (pick_c g _ 2 _ (HR7.out.belowB hgl (by repeat' (first | with_reducible exact Below.refl _ _ | with_reducible assumption | with_reducible refine below_drewN ?_ _ | with_reducible refine Below.drew ?_ | with_reducible refine Below.alloc ?_ ?_ _ | with_reducible refine Below.setCell ?_ ?_ _ | go_size))) (by omega) (by decide)).mono ?_
      rintro e w8 ⟨c2, rfl, c2_0, c2_a, c2_b, hr, hg⟩
      have c2_1 := c2_a (by decide)
      clear c2_a c2_b
      have HR8 := Lib.hid hr
      have HG8 := Lib.hid (grown_stepB HG7.out (W := _) (by repeat' (first | with_reducible exact Below.refl _ _ | with_reducible assumption | with_reducible refine below_drewN ?_ _ | with_reducible refine Below.drew ?_ | with_reducible refine Below.alloc ?_ ?_ _ | with_reducible refine Below.setCell ?_ ?_ _ | go_size)) hg)
      have HKr_8 := Lib.hid (blk_step (W := _) HKr_7.out (by omega) (by repeat' (first | with_reducible exact Below.refl _ _ | with_reducible assumption | with_reducible refine below_drewN ?_ _ | with_reducible refine Below.drew ?_ | with_reducible refine Below.alloc ?_ ?_ _ | with_reducible refine Below.setCell ?_ ?_ _ | go_size)) hg)
      have HKx_8 := Lib.hid (blk_step (W := _) HKx_7.out (by have := hz5; omega) (by repeat' (first | with_reducible exact Below.refl _ _ | with_reducible assumption | with_reducible refine below_drewN ?_ _ | with_reducible refine Below.drew ?_ | with_reducible refine Below.alloc ?_ ?_ _ | with_reducible refine Below.setCell ?_ ?_ _ | go_size)) hg)
      have HKy_8 : Hid (w8.heap[w7.heap.size]? = some (.cells #[.int .i64 1000001, .int .i64 (-1000001)] 3 (0, 0))) := by
        unfold Hid; rw [hg.block _ (by simp; try omega) (by simp; try omega)]; first | exact blk_new | exact blk_old blk_new | exact blk_old (blk_old blk_new)
      clear hr hg HR7 HG7 HKr_7 HKx_7
      have hz8 := HG8.out.size
      obtain rfl | rfl : c2 = 0 ∨ c2 = 1 := by omega
      all_goals
        have xc0 : w8.cell? ⟨w5.heap.size, 0, none⟩ = some (.int .i64 x0) := blk_cell HKx_8.out 0
        have xf0 : w8.frozen? ⟨w5.heap.size, 0, none⟩ = false := blk_frozen HKx_8.out 0
        have xc1 : w8.cell? ⟨w5.heap.size, 1, none⟩ = some (.int .i64 x1) := blk_cell HKx_8.out 1
        have xf1 : w8.frozen? ⟨w5.heap.size, 1, none⟩ = false := blk_frozen HKx_8.out 1
        have xc2 : w8.cell? ⟨w5.heap.size, 2, none⟩ = some (.int .i64 x2) := blk_cell HKx_8.out 2
        have xf2 : w8.frozen? ⟨w5.heap.size, 2, none⟩ = false := blk_frozen HKx_8.out 2
        have xc3 : w8.cell? ⟨w5.heap.size, 3, none⟩ = some (.int .i64 x3) := blk_cell HKx_8.out 3
        have xf3 : w8.frozen? ⟨w5.heap.size, 3, none⟩ = false := blk_frozen HKx_8.out 3
        have rc0 : w8.cell? ⟨w.heap.size, 0, none⟩ = some (.int .i64 0) := blk_cell HKr_8.out 0
        have rf0 : w8.frozen? ⟨w.heap.size, 0, none⟩ = false := blk_frozen HKr_8.out 0
        have rc1 : w8.cell? ⟨w.heap.size, 1, none⟩ = some (.int .i64 0) := blk_cell HKr_8.out 1
        have rf1 : w8.frozen? ⟨w.heap.size, 1, none⟩ = false := blk_frozen HKr_8.out 1
        have rc2 : w8.cell? ⟨w.heap.size, 2, none⟩ = some (.int .i64 0) := blk_cell HKr_8.out 2
        have rf2 : w8.frozen? ⟨w.heap.size, 2, none⟩ = false := blk_frozen HKr_8.out 2
        have rc3 : w8.cell? ⟨w.heap.size, 3, none⟩ = some (.int .i64 0) := blk_cell HKr_8.out 3
        have rf3 : w8.frozen? ⟨w.heap.size, 3, none⟩ = false := blk_frozen HKr_8.out 3
        have yc0 : w8.cell? ⟨w7.heap.size, 0, none⟩ = some (.int .i64 1000001) := blk_cell HKy_8.out 0
        have yf0 : w8.frozen? ⟨w7.heap.size, 0, none⟩ = false := blk_frozen HKy_8.out 0
        have yc1 : w8.cell? ⟨w7.heap.size, 1, none⟩ = some (.int .i64 (-1000001)) := blk_cell HKy_8.out 1
        have yf1 : w8.frozen? ⟨w7.heap.size, 1, none⟩ = false := blk_frozen HKy_8.out 1
        go_wp2
        try simp only [Exit.inBlock, Exit.then]
        refine bodyPost_ret (by simp [results, Try.results62, go_sem, rc0, rc1, rc2, rc3]; try rfl) rfl ?_
        exact ⟨_, _, _, _, rfl, (HR8.out.belowB hgl (by repeat' (first | with_reducible exact Below.refl _ _ | with_reducible assumption | with_reducible refine below_drewN ?_ _ | with_reducible refine Below.drew ?_ | with_reducible refine Below.alloc ?_ ?_ _ | with_reducible refine Below.setCell ?_ ?_ _ | go_size))).mono (by omega), grown_below HG8.out (by repeat' (first | with_reducible exact Below.refl _ _ | with_reducible assumption | with_reducible refine below_drewN ?_ _ | with_reducible refine Below.drew ?_ | with_reducible refine Below.alloc ?_ ?_ _ | with_reducible refine Below.setCell ?_ ?_ _ | go_size))⟩
    · have xc0 : w7.cell? ⟨w5.heap.size, 0, none⟩ = some (.int .i64 x0) := blk_cell HKx_7.out 0
      have xf0 : w7.frozen? ⟨w5.heap.size, 0, none⟩ = false := blk_frozen HKx_7.out 0
      have xc1 : w7.cell? ⟨w5.heap.size, 1, none⟩ = some (.int .i64 x1) := blk_cell HKx_7.out 1
      have xf1 : w7.frozen? ⟨w5.heap.size, 1, none⟩ = false := blk_frozen HKx_7.out 1
      have xc2 : w7.cell? ⟨w5.heap.size, 2, none⟩ = some (.int .i64 x2) := blk_cell HKx_7.out 2
      have xf2 : w7.frozen? ⟨w5.heap.size, 2, none⟩ = false := blk_frozen HKx_7.out 2
      have xc3 : w7.cell? ⟨w5.heap.size, 3, none⟩ = some (.int .i64 x3) := blk_cell HKx_7.out 3
      have xf3 : w7.frozen? ⟨w5.heap.size, 3, none⟩ = false := blk_frozen HKx_7.out 3
      have rc0 : w7.cell? ⟨w.heap.size, 0, none⟩ = some (.int .i64 0) := blk_cell HKr_7.out 0
      have rf0 : w7.frozen? ⟨w.heap.size, 0, none⟩ = false := blk_frozen HKr_7.out 0
      have rc1 : w7.cell? ⟨w.heap.size, 1, none⟩ = some (.int .i64 0) := blk_cell HKr_7.out 1
      have rf1 : w7.frozen? ⟨w.heap.size, 1, none⟩ = false := blk_frozen HKr_7.out 1
      have rc2 : w7.cell? ⟨w.heap.size, 2, none⟩ = some (.int .i64 0) := blk_cell HKr_7.out 2
      have rf2 : w7.frozen? ⟨w.heap.size, 2, none⟩ = false := blk_frozen HKr_7.out 2
      have rc3 : w7.cell? ⟨w.heap.size, 3, none⟩ = some (.int .i64 0) := blk_cell HKr_7.out 3
      have rf3 : w7.frozen? ⟨w.heap.size, 3, none⟩ = false := blk_frozen HKr_7.out 3
      go_wp2
      try simp only [Exit.inBlock, Exit.then]
      refine bodyPost_ret (by simp [results, Try.results62, go_sem, rc0, rc1, rc2, rc3]; try rfl) rfl ?_
      exact ⟨_, _, _, _, rfl, (HR7.out.belowB hgl (by repeat' (first | with_reducible exact Below.refl _ _ | with_reducible assumption | with_reducible refine below_drewN ?_ _ | with_reducible refine Below.drew ?_ | with_reducible refine Below.alloc ?_ ?_ _ | with_reducible refine Below.setCell ?_ ?_ _ | go_size))).mono (by omega), grown_below HG7.out (by repeat' (first | with_reducible exact Below.refl _ _ | with_reducible assumption | with_reducible refine below_drewN ?_ _ | with_reducible refine Below.drew ?_ | with_reducible refine Below.alloc ?_ ?_ _ | with_reducible refine Below.setCell ?_ ?_ _ | go_size))⟩
    · have xc0 : w7.cell? ⟨w5.heap.size, 0, none⟩ = some (.int .i64 x0) := blk_cell HKx_7.out 0
      have xf0 : w7.frozen? ⟨w5.heap.size, 0, none⟩ = false := blk_frozen HKx_7.out 0
      have xc1 : w7.cell? ⟨w5.heap.size, 1, none⟩ = some (.int .i64 x1) := blk_cell HKx_7.out 1
      have xf1 : w7.frozen? ⟨w5.heap.size, 1, none⟩ = false := blk_frozen HKx_7.out 1
      have xc2 : w7.cell? ⟨w5.heap.size, 2, none⟩ = some (.int .i64 x2) := blk_cell HKx_7.out 2
      have xf2 : w7.frozen? ⟨w5.heap.size, 2, none⟩ = false := blk_frozen HKx_7.out 2
      have xc3 : w7.cell? ⟨w5.heap.size, 3, none⟩ = some (.int .i64 x3) := blk_cell HKx_7.out 3
      have xf3 : w7.frozen? ⟨w5.heap.size, 3, none⟩ = false := blk_frozen HKx_7.out 3
      have rc0 : w7.cell? ⟨w.heap.size, 0, none⟩ = some (.int .i64 0) := blk_cell HKr_7.out 0
      have rf0 : w7.frozen? ⟨w.heap.size, 0, none⟩ = false := blk_frozen HKr_7.out 0
      have rc1 : w7.cell? ⟨w.heap.size, 1, none⟩ = some (.int .i64 0) := blk_cell HKr_7.out 1
      have rf1 : w7.frozen? ⟨w.heap.size, 1, none⟩ = false := blk_frozen HKr_7.out 1
      have rc2 : w7.cell? ⟨w.heap.size, 2, none⟩ = some (.int .i64 0) := blk_cell HKr_7.out 2
      have rf2 : w7.frozen? ⟨w.heap.size, 2, none⟩ = false := blk_frozen HKr_7.out 2
      have rc3 : w7.cell? ⟨w.heap.size, 3, none⟩ = some (.int .i64 0) := blk_cell HKr_7.out 3
      have rf3 : w7.frozen? ⟨w.heap.size, 3, none⟩ = false := blk_frozen HKr_7.out 3
      go_wp2
      try simp only [Exit.inBlock, Exit.then]
      refine bodyPost_ret (by simp [results, Try.results62, go_sem, rc0, rc1, rc2, rc3]; try rfl) rfl ?_
      exact ⟨_, _, _, _, rfl, (HR7.out.belowB hgl (by repeat' (first | with_reducible exact Below.refl _ _ | with_reducible assumption | with_reducible refine below_drewN ?_ _ | with_reducible refine Below.drew ?_ | with_reducible refine Below.alloc ?_ ?_ _ | with_reducible refine Below.setCell ?_ ?_ _ | go_size))).mono (by omega), grown_below HG7.out (by repeat' (first | with_reducible exact Below.refl _ _ | with_reducible assumption | with_reducible refine below_drewN ?_ _ | with_reducible refine Below.drew ?_ | with_reducible refine Below.alloc ?_ ?_ _ | with_reducible refine Below.setCell ?_ ?_ _ | go_size))⟩

theorem DrawExchangeValid_c (va : Value) (bs : List Int) (w : World) (h : RdB w va bs) (hb : ∀ n ∈ bs, (Lit.int .u8 n).wf = true) :
    Calls Try.prog 36 #[va] w (Ret w fun v _ => ∃ s h a b : Int, v = ex s h a b) := by
  have H := Lib.hid h
  have HB := Lib.hid hb
  clear h hb
  go_enter Try.func36, Try.ntmps36
  go_wp2_with fail
  refine (open_c _ bs _ (H.out.below (by repeat' (first | with_reducible exact Below.refl _ _ | with_reducible assumption | with_reducible refine below_drewN ?_ _ | with_reducible refine Below.drew ?_ | with_reducible refine Below.alloc ?_ ?_ _ | with_reducible refine Below.setCell ?_ ?_ _ | go_size))) HB.out).mono ?_
  rintro e w1 ⟨g, rfl, hg, hr, hb1⟩
  have HR := Lib.hid hr
  have hg1 : w.heap.size < g := by simp at hg; omega
  have HK : Hid (w1.heap[w.heap.size]? = some (.cells #[.int .i64 0, .int .i64 0, .int .i64 0, .int .i64 0] 44 (0, 0))) := by
    unfold Hid; rw [hb1.block _ (by simp)]; exact blk_new
  have HB1 := Lib.hid (below_of_alloc hb1)
  clear hr hb1 hg
  go_wp2_with fail
  refine (l20Exchange_c g 0 2 _ HR.out (by decide) (by decide)).mono ?_
  rintro e w2 ⟨s, h, a, b, rfl, hr2, hg2⟩
  have HK2 : Hid (w2.heap[w.heap.size]? = some (.cells #[.int .i64 0, .int .i64 0, .int .i64 0, .int .i64 0] 44 (0, 0))) := by
    unfold Hid; rw [hg2.block _ (blk_lt HK.out) (by simp; omega)]; exact HK.out
  have HB2 := Lib.hid (HB1.out.grown hg2 HB1.out.size (fun k e => by simp only [Option.some.injEq] at e; omega))
  clear hr2 hg2 HK HB1
  have rc0 : w2.cell? ⟨w.heap.size, 0, none⟩ = some (.int .i64 0) := blk_cell HK2.out 0
  have rf0 : w2.frozen? ⟨w.heap.size, 0, none⟩ = false := blk_frozen HK2.out 0
  have rc1 : w2.cell? ⟨w.heap.size, 1, none⟩ = some (.int .i64 0) := blk_cell HK2.out 1
  have rf1 : w2.frozen? ⟨w.heap.size, 1, none⟩ = false := blk_frozen HK2.out 1
  have rc2 : w2.cell? ⟨w.heap.size, 2, none⟩ = some (.int .i64 0) := blk_cell HK2.out 2
  have rf2 : w2.frozen? ⟨w.heap.size, 2, none⟩ = false := blk_frozen HK2.out 2
  have rc3 : w2.cell? ⟨w.heap.size, 3, none⟩ = some (.int .i64 0) := blk_cell HK2.out 3
  have rf3 : w2.frozen? ⟨w.heap.size, 3, none⟩ = false := blk_frozen HK2.out 3
  unfold ex
  go_wp2
  try simp only [Exit.inBlock, Exit.then]
  refine bodyPost_ret (by simp [results, Try.results36, go_sem, rc0, rc1, rc2, rc3]; try rfl) rfl ?_
  have hb := HB2.out
  exact Ret.mk1 ⟨_, _, _, _, rfl⟩ (by repeat' (first | with_reducible exact Below.refl _ _ | with_reducible assumption | with_reducible refine below_drewN ?_ _ | with_reducible refine Below.drew ?_ | with_reducible refine Below.alloc ?_ ?_ _ | with_reducible refine Below.setCell ?_ ?_ _ | go_size))

theorem DrawClockOffset_c (va : Value) (bs : List Int) (w : World) (h : RdB w va bs) (hb : ∀ n ∈ bs, (Lit.int .u8 n).wf = true) :
    Calls Try.prog 39 #[va] w (Ret w fun v _ => ∃ s h a b : Int, v = ex s h a b) := by
  have H := Lib.hid h
  have HB := Lib.hid hb
  clear h hb
  go_enter Try.func39, Try.ntmps39
  go_wp2_with fail
  refine (open_c _ bs _ (H.out.below (by repeat' (first | with_reducible exact Below.refl _ _ | with_reducible assumption | with_reducible refine below_drewN ?_ _ | with_reducible refine Below.drew ?_ | with_reducible refine Below.alloc ?_ ?_ _ | with_reducible refine Below.setCell ?_ ?_ _ | go_size))) HB.out).mono ?_
  rintro e w1 ⟨g, rfl, hg, hr, hb1⟩
  have HR := Lib.hid hr
  have hg1 : w.heap.size < g := by simp at hg; omega
  have HK : Hid (w1.heap[w.heap.size]? = some (.cells #[.int .i64 0, .int .i64 0, .int .i64 0, .int .i64 0] 44 (0, 0))) := by
    unfold Hid; rw [hb1.block _ (by simp)]; exact blk_new
  have HB1 := Lib.hid (below_of_alloc hb1)
  clear hr hb1 hg
  go_wp2_with fail
  refine (l20Exchange_c g 0 6 _ HR.out (by decide) (by decide)).mono ?_
  rintro e w2 ⟨s, h, a, b, rfl, hr2, hg2⟩
  have HK2 : Hid (w2.heap[w.heap.size]? = some (.cells #[.int .i64 0, .int .i64 0, .int .i64 0, .int .i64 0] 44 (0, 0))) := by
    unfold Hid; rw [hg2.block _ (blk_lt HK.out) (by simp; omega)]; exact HK.out
  have HB2 := Lib.hid (HB1.out.grown hg2 HB1.out.size (fun k e => by simp only [Option.some.injEq] at e; omega))
  clear hr2 hg2 HK HB1
  have rc0 : w2.cell? ⟨w.heap.size, 0, none⟩ = some (.int .i64 0) := blk_cell HK2.out 0
  have rf0 : w2.frozen? ⟨w.heap.size, 0, none⟩ = false := blk_frozen HK2.out 0
  have rc1 : w2.cell? ⟨w.heap.size, 1, none⟩ = some (.int .i64 0) := blk_cell HK2.out 1
  have rf1 : w2.frozen? ⟨w.heap.size, 1, none⟩ = false := blk_frozen HK2.out 1
  have rc2 : w2.cell? ⟨w.heap.size, 2, none⟩ = some (.int .i64 0) := blk_cell HK2.out 2
  have rf2 : w2.frozen? ⟨w.heap.size, 2, none⟩ = false := blk_frozen HK2.out 2
  have rc3 : w2.cell? ⟨w.heap.size, 3, none⟩ = some (.int .i64 0) := blk_cell HK2.out 3
  have rf3 : w2.frozen? ⟨w.heap.size, 3, none⟩ = false := blk_frozen HK2.out 3
  unfold ex
  go_wp2
  try simp only [Exit.inBlock, Exit.then]
  refine bodyPost_ret (by simp [results, Try.results39, go_sem, rc0, rc1, rc2, rc3]; try rfl) rfl ?_
  have hb := HB2.out
  exact Ret.mk1 ⟨_, _, _, _, rfl⟩ (by repeat' (first | with_reducible exact Below.refl _ _ | with_reducible assumption | with_reducible refine below_drewN ?_ _ | with_reducible refine Below.drew ?_ | with_reducible refine Below.alloc ?_ ?_ _ | with_reducible refine Below.setCell ?_ ?_ _ | go_size))

end Go.Proofs.Ytfllfbmdnokmnaa
