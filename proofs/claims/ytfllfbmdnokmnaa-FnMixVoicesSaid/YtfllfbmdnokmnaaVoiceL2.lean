import Derived.Test.YtfllfbmdnokmnaaProg
import Derived.Test.YtfllfbmdnokmnaaSym
import Derived.Test.YtfllfbmdnokmnaaDraw
import Derived.Test.YtfllfbmdnokmnaaInts
import Derived.Test.YtfllfbmdnokmnaaVoice
import Derived.Test.YtfllfbmdnokmnaaComp
import Derived.Test.YtfllfbmdnokmnaaMix
namespace Go.Proofs.Ytfllfbmdnokmnaa
open Go.RowKit

set_option maxRecDepth 100000 in
set_option maxHeartbeats 1000000 in
theorem l20Voice_s (g m : Nat) (n : Int) (w : World) {row : Option Nat} {w0 : World} {I : List Part} {sv : Value} {bs : List Int} (h : SH row w0 w (rdrP g m sv bs :: I)) (hm : m ≤ 1000000) (hn : n ≤ 1000000) :
    Calls Try.prog 53 #[.pointer (some ⟨g, 0, none⟩), .int .i64 n] w (fun e w' => ∃ v : Int, e = .returned (.int .i64 v) ∧ -5000 ≤ v ∧ v ≤ 5000 ∧ SH row w0 w' (rdrP g (m + 24) sv bs :: I)) := by
  have hs := h
  clear h
  go_enter Try.func53, Try.ntmps53
  go_wp2_with fail
  refine (odd_s g m n _ (by first | exact ⟨hs, by omega⟩ | exact ⟨(hs).allocP1 _ _, by omega⟩ | exact ⟨((hs).allocP1 _ _).allocP1 _ _, by omega⟩ | exact ⟨(((hs).allocP1 _ _).allocP1 _ _).allocP1 _ _, by omega⟩ | exact ⟨((((hs).allocP1 _ _).allocP1 _ _).allocP1 _ _).allocP1 _ _, by omega⟩ | exact ⟨(hs).drew, by omega⟩ | exact ⟨((hs).allocP1 _ _).drew, by omega⟩ | exact ⟨(((hs).allocP1 _ _).allocP1 _ _).drew, by omega⟩ | exact ⟨((((hs).allocP1 _ _).allocP1 _ _).allocP1 _ _).drew, by omega⟩ | exact ⟨(((((hs).allocP1 _ _).allocP1 _ _).allocP1 _ _).allocP1 _ _).drew, by omega⟩ | exact ⟨(hs).drewN _, by omega⟩ | exact ⟨((hs).allocP1 _ _).drewN _, by omega⟩ | exact ⟨(((hs).allocP1 _ _).allocP1 _ _).drewN _, by omega⟩ | exact ⟨((((hs).allocP1 _ _).allocP1 _ _).allocP1 _ _).drewN _, by omega⟩ | exact ⟨(((((hs).allocP1 _ _).allocP1 _ _).allocP1 _ _).allocP1 _ _).drewN _, by omega⟩) (by omega)).mono ?_
  rintro e w1 ⟨od, rfl, -, hs⟩
  cases od
  · go_wp2_with fail
    refine wp_region_draw [(0, .pointer (some ⟨g, 0, none⟩)), (1, .int .i64 n), (5, .pointer (some ⟨g, 0, none⟩)), (6, .int .i64 n), (7, .bool false)]
      [.any, .any, .any, .any, .int (-4095) 4095, .any, .any, .any, .any, .any, .any, .any, .any, .val (.pointer (some ⟨g, 0, none⟩)), .int 0 80, .int (-40) 40, .val (.pointer (some ⟨g, 0, none⟩)), .int 0 255, .int 0 8160, .int (-4090) 4070, .val (.pointer (some ⟨g, 0, none⟩)), .int 0 6, .int 5 11, .int 1 2048, .val (.pointer (some ⟨g, 0, none⟩)), .int 0 2, .int (-1) 2048, .lit 5 (-4095) 4095, .lit 8 0 4, .val (.pointer (some ⟨g, 0, none⟩)), .int 0 7, .adr 0 4, .int 0 4, .adr (-4095) 4095, .int (-4095) 4095]
      [[0], [13], [14], [0], [16], [17], [18], [0], [20], [21], [22], [0], [24], [23, 25], [15, 19, 26], [], [0], [29], [28, 30], [31], [27, 32], [33], [34]]
      23 (by kernel_rfl) (by kernel_rfl) (by kernel_rfl) (by kernel_rfl) (by simp only [List.forall_mem_cons]; exact ⟨rfl, rfl, rfl, rfl, rfl,  fun _ h => by cases h⟩) (by first | exact ⟨hs, by omega⟩ | exact ⟨(hs).alloc _, by omega⟩ | exact ⟨((hs).alloc _).alloc _, by omega⟩ | exact ⟨(((hs).alloc _).alloc _).alloc _, by omega⟩ | exact ⟨((((hs).alloc _).alloc _).alloc _).alloc _, by omega⟩ | exact ⟨(hs).drew, by omega⟩ | exact ⟨((hs).alloc _).drew, by omega⟩ | exact ⟨(((hs).alloc _).alloc _).drew, by omega⟩ | exact ⟨((((hs).alloc _).alloc _).alloc _).drew, by omega⟩ | exact ⟨(((((hs).alloc _).alloc _).alloc _).alloc _).drew, by omega⟩ | exact ⟨(hs).drewN _, by omega⟩ | exact ⟨((hs).alloc _).drewN _, by omega⟩ | exact ⟨(((hs).alloc _).alloc _).drewN _, by omega⟩ | exact ⟨((((hs).alloc _).alloc _).alloc _).drewN _, by omega⟩ | exact ⟨(((((hs).alloc _).alloc _).alloc _).alloc _).drewN _, by omega⟩) ?_ ?_
    · exact ⟨ok_move 13 rfl (.inl rfl) (opOK_tmp rfl rfl),
        ok_pick 81 81 14 rfl rfl (opOK_tmp rfl rfl) opOK_int (by decide) rfl,
        ok_sub 0 80 40 40 (-40) 40 15 rfl rfl (opOK_tmp rfl rfl) opOK_int rfl (by decide),
        ok_move 16 rfl (.inl rfl) (opOK_tmp rfl rfl),
        ok_pick 256 256 17 rfl rfl (opOK_tmp rfl rfl) opOK_int (by decide) rfl,
        ok_mulc 0 255 32 0 8160 18 rfl rfl (opOK_tmp rfl rfl) rfl (by decide) (by decide),
        ok_sub 0 8160 4090 4090 (-4090) 4070 19 rfl rfl (opOK_tmp rfl rfl) opOK_int rfl (by decide),
        ok_move 20 rfl (.inl rfl) (opOK_tmp rfl rfl),
        ok_pick 7 7 21 rfl rfl (opOK_tmp rfl rfl) opOK_int (by decide) rfl,
        ok_add 5 5 0 6 5 11 22 rfl rfl opOK_int (opOK_tmp rfl rfl) rfl (by decide),
        ok_shl 11 2048 23 rfl rfl (opOK_wide (lo := 5) (hi := 11) (opOK_tmp rfl rfl) (by decide) (by decide)) rfl (by decide) (by decide),
        ok_move 24 rfl (.inl rfl) (opOK_tmp rfl rfl),
        ok_pick 3 3 25 rfl rfl (opOK_tmp rfl rfl) opOK_int (by decide) rfl,
        ok_sub 1 2048 0 2 (-1) 2048 26 rfl rfl (opOK_tmp rfl rfl) (opOK_tmp rfl rfl) rfl (by decide),
        ok_build 5 (-4095) 4095 [.tmp 15, .tmp 19, .const (.int .i64 4095), .const (.int .i64 (-4095)), .tmp 26] 27 rfl rfl rfl rfl (by decide) (by simp only [List.forall_mem_cons]; exact ⟨(opOK_wide (lo := (-40)) (hi := 40) (opOK_tmp rfl rfl) (by decide) (by decide)), (opOK_wide (lo := (-4090)) (hi := 4070) (opOK_tmp rfl rfl) (by decide) (by decide)), (opOK_wide (lo := 4095) (hi := 4095) opOK_int (by decide) (by decide)), (opOK_wide (lo := (-4095)) (hi := (-4095)) opOK_int (by decide) (by decide)), (opOK_wide (lo := (-1)) (hi := 2048) (opOK_tmp rfl rfl) (by decide) (by decide)), fun _ h => by cases h⟩) rfl,
        ok_build 8 0 4 [.const (.int .i64 0), .const (.int .i64 0), .const (.int .i64 1), .const (.int .i64 1), .const (.int .i64 2), .const (.int .i64 3), .const (.int .i64 4), .const (.int .i64 4)] 28 rfl rfl rfl rfl (by decide) (by simp only [List.forall_mem_cons]; exact ⟨(opOK_wide (lo := 0) (hi := 0) opOK_int (by decide) (by decide)), (opOK_wide (lo := 0) (hi := 0) opOK_int (by decide) (by decide)), (opOK_wide (lo := 1) (hi := 1) opOK_int (by decide) (by decide)), (opOK_wide (lo := 1) (hi := 1) opOK_int (by decide) (by decide)), (opOK_wide (lo := 2) (hi := 2) opOK_int (by decide) (by decide)), (opOK_wide (lo := 3) (hi := 3) opOK_int (by decide) (by decide)), (opOK_wide (lo := 4) (hi := 4) opOK_int (by decide) (by decide)), (opOK_wide (lo := 4) (hi := 4) opOK_int (by decide) (by decide)), fun _ h => by cases h⟩) rfl,
        ok_move 29 rfl (.inl rfl) (opOK_tmp rfl rfl),
        ok_pick 8 8 30 rfl rfl (opOK_tmp rfl rfl) opOK_int (by decide) rfl,
        ok_index 8 0 4 0 7 31 rfl rfl (opOK_tmp rfl rfl) (opOK_tmp rfl rfl) rfl (by decide),
        ok_load 0 4 32 rfl rfl (opOK_tmp rfl rfl) rfl,
        ok_index 5 (-4095) 4095 0 4 33 rfl rfl (opOK_tmp rfl rfl) (opOK_tmp rfl rfl) rfl (by decide),
        ok_load (-4095) 4095 34 rfl rfl (opOK_tmp rfl rfl) rfl,
        ok_move 4 rfl (.inr rfl) (opOK_tmp rfl rfl), trivial⟩
    rintro tm wq ⟨L, hv⟩ hold hsz hs
    have hx0 : tm.getD 0 undef = .pointer (some ⟨g, 0, none⟩) := hold 0 (by kernel_rfl)
    have hx1 : tm.getD 1 undef = .int .i64 n := hold 1 (by kernel_rfl)
    have hx2 : tm.getD 2 undef = undef := hold 2 (by kernel_rfl)
    have hx3 : tm.getD 3 undef = undef := hold 3 (by kernel_rfl)
    obtain ⟨x4, hx4, x4_0, x4_1⟩ : ∃ n, tm.getD 4 undef = .int .i64 n ∧ (-4095) ≤ n ∧ n ≤ 4095 := hv 4 (show 4 < 35 by decide) (by kernel_rfl)
    have hx5 : tm.getD 5 undef = .pointer (some ⟨g, 0, none⟩) := hold 5 (by kernel_rfl)
    have hx6 : tm.getD 6 undef = .int .i64 n := hold 6 (by kernel_rfl)
    have hx7 : tm.getD 7 undef = .bool false := hold 7 (by kernel_rfl)
    have hx8 : tm.getD 8 undef = undef := hold 8 (by kernel_rfl)
    have hx9 : tm.getD 9 undef = undef := hold 9 (by kernel_rfl)
    have hx10 : tm.getD 10 undef = undef := hold 10 (by kernel_rfl)
    have hx11 : tm.getD 11 undef = undef := hold 11 (by kernel_rfl)
    have hx12 : tm.getD 12 undef = undef := hold 12 (by kernel_rfl)
    have hx13 : tm.getD 13 undef = .pointer (some ⟨g, 0, none⟩) := hv 13 (show 13 < 35 by decide) (by kernel_rfl)
    obtain ⟨x14, hx14⟩ : ∃ x, tm.getD 14 undef = x := ⟨_, rfl⟩
    obtain ⟨x15, hx15⟩ : ∃ x, tm.getD 15 undef = x := ⟨_, rfl⟩
    have hx16 : tm.getD 16 undef = .pointer (some ⟨g, 0, none⟩) := hv 16 (show 16 < 35 by decide) (by kernel_rfl)
    obtain ⟨x17, hx17⟩ : ∃ x, tm.getD 17 undef = x := ⟨_, rfl⟩
    obtain ⟨x18, hx18⟩ : ∃ x, tm.getD 18 undef = x := ⟨_, rfl⟩
    obtain ⟨x19, hx19⟩ : ∃ x, tm.getD 19 undef = x := ⟨_, rfl⟩
    have hx20 : tm.getD 20 undef = .pointer (some ⟨g, 0, none⟩) := hv 20 (show 20 < 35 by decide) (by kernel_rfl)
    obtain ⟨x21, hx21⟩ : ∃ x, tm.getD 21 undef = x := ⟨_, rfl⟩
    obtain ⟨x22, hx22⟩ : ∃ x, tm.getD 22 undef = x := ⟨_, rfl⟩
    obtain ⟨x23, hx23⟩ : ∃ x, tm.getD 23 undef = x := ⟨_, rfl⟩
    have hx24 : tm.getD 24 undef = .pointer (some ⟨g, 0, none⟩) := hv 24 (show 24 < 35 by decide) (by kernel_rfl)
    obtain ⟨x25, hx25⟩ : ∃ x, tm.getD 25 undef = x := ⟨_, rfl⟩
    obtain ⟨x26, hx26⟩ : ∃ x, tm.getD 26 undef = x := ⟨_, rfl⟩
    obtain ⟨x27, hx27⟩ : ∃ x, tm.getD 27 undef = x := ⟨_, rfl⟩
    obtain ⟨x28, hx28⟩ : ∃ x, tm.getD 28 undef = x := ⟨_, rfl⟩
    have hx29 : tm.getD 29 undef = .pointer (some ⟨g, 0, none⟩) := hv 29 (show 29 < 35 by decide) (by kernel_rfl)
    obtain ⟨x30, hx30⟩ : ∃ x, tm.getD 30 undef = x := ⟨_, rfl⟩
    obtain ⟨x31, hx31⟩ : ∃ x, tm.getD 31 undef = x := ⟨_, rfl⟩
    obtain ⟨x32, hx32⟩ : ∃ x, tm.getD 32 undef = x := ⟨_, rfl⟩
    obtain ⟨x33, hx33⟩ : ∃ x, tm.getD 33 undef = x := ⟨_, rfl⟩
    obtain ⟨x34, hx34⟩ : ∃ x, tm.getD 34 undef = x := ⟨_, rfl⟩
    have htm : tm = (.pointer (some ⟨g, 0, none⟩) :: .int .i64 n :: undef :: undef :: .int .i64 x4 :: .pointer (some ⟨g, 0, none⟩) :: .int .i64 n :: .bool false :: undef :: undef :: undef :: undef :: undef :: .pointer (some ⟨g, 0, none⟩) :: x14 :: x15 :: .pointer (some ⟨g, 0, none⟩) :: x17 :: x18 :: x19 :: .pointer (some ⟨g, 0, none⟩) :: x21 :: x22 :: x23 :: .pointer (some ⟨g, 0, none⟩) :: x25 :: x26 :: x27 :: x28 :: .pointer (some ⟨g, 0, none⟩) :: x30 :: x31 :: x32 :: x33 :: x34 :: []).toArray := by
      refine (arr_eq tm hsz).trans ?_
      show (tm.getD 0 undef :: tm.getD 1 undef :: tm.getD 2 undef :: tm.getD 3 undef :: tm.getD 4 undef :: tm.getD 5 undef :: tm.getD 6 undef :: tm.getD 7 undef :: tm.getD 8 undef :: tm.getD 9 undef :: tm.getD 10 undef :: tm.getD 11 undef :: tm.getD 12 undef :: tm.getD 13 undef :: tm.getD 14 undef :: tm.getD 15 undef :: tm.getD 16 undef :: tm.getD 17 undef :: tm.getD 18 undef :: tm.getD 19 undef :: tm.getD 20 undef :: tm.getD 21 undef :: tm.getD 22 undef :: tm.getD 23 undef :: tm.getD 24 undef :: tm.getD 25 undef :: tm.getD 26 undef :: tm.getD 27 undef :: tm.getD 28 undef :: tm.getD 29 undef :: tm.getD 30 undef :: tm.getD 31 undef :: tm.getD 32 undef :: tm.getD 33 undef :: tm.getD 34 undef :: []).toArray = _
      rw [hx0, hx1, hx2, hx3, hx4, hx5, hx6, hx7, hx8, hx9, hx10, hx11, hx12, hx13, hx14, hx15, hx16, hx17, hx18, hx19, hx20, hx21, hx22, hx23, hx24, hx25, hx26, hx27, hx28, hx29, hx30, hx31, hx32, hx33, hx34]
    subst htm
    dsimp only
    clear hv hold hsz hx0 hx1 hx2 hx3 hx4 hx5 hx6 hx7 hx8 hx9 hx10 hx11 hx12 hx13 hx14 hx15 hx16 hx17 hx18 hx19 hx20 hx21 hx22 hx23 hx24 hx25 hx26 hx27 hx28 hx29 hx30 hx31 hx32 hx33 hx34

    go_wp2
    go_ret
    exact ⟨x4, rfl, by omega, by omega, hs⟩
  · go_wp2_with fail
    refine (pick_s g _ 2 _ (by first | exact ⟨hs, by omega⟩ | exact ⟨(hs).allocP1 _ _, by omega⟩ | exact ⟨((hs).allocP1 _ _).allocP1 _ _, by omega⟩ | exact ⟨(((hs).allocP1 _ _).allocP1 _ _).allocP1 _ _, by omega⟩ | exact ⟨((((hs).allocP1 _ _).allocP1 _ _).allocP1 _ _).allocP1 _ _, by omega⟩ | exact ⟨(hs).drew, by omega⟩ | exact ⟨((hs).allocP1 _ _).drew, by omega⟩ | exact ⟨(((hs).allocP1 _ _).allocP1 _ _).drew, by omega⟩ | exact ⟨((((hs).allocP1 _ _).allocP1 _ _).allocP1 _ _).drew, by omega⟩ | exact ⟨(((((hs).allocP1 _ _).allocP1 _ _).allocP1 _ _).allocP1 _ _).drew, by omega⟩ | exact ⟨(hs).drewN _, by omega⟩ | exact ⟨((hs).allocP1 _ _).drewN _, by omega⟩ | exact ⟨(((hs).allocP1 _ _).allocP1 _ _).drewN _, by omega⟩ | exact ⟨((((hs).allocP1 _ _).allocP1 _ _).allocP1 _ _).drewN _, by omega⟩ | exact ⟨(((((hs).allocP1 _ _).allocP1 _ _).allocP1 _ _).allocP1 _ _).drewN _, by omega⟩) (by decide)).mono ?_
    rintro e w2 ⟨v, rfl, v0, v1, -, hs⟩
    have v2 := v1 (by decide)
    clear v1
    have hb : w2.heap[w1.heap.size]? = _ := hs.p1
    have hc0 := blk_cell hb 0
    have hc1 := blk_cell hb 1
    clear hb
    obtain rfl | rfl : v = 0 ∨ v = 1 := by omega
    · go_wp2
      go_ret
      exact ⟨_, rfl, by decide, by decide, rdrP_mono hs.drop1 (by omega)⟩
    · go_wp2
      go_ret
      exact ⟨_, rfl, by decide, by decide, rdrP_mono hs.drop1 (by omega)⟩

theorem DrawCompressVoice_s (va : Value) (cs : List Int) (w : World) {row : Option Nat} {w0 : World} {I : List Part} (hs : SH row w0 w (rdP .u8 va cs :: I)) (hb : ∀ n ∈ cs, (Lit.int .u8 n).wf = true) :
    Calls Try.prog 30 #[va] w (fun e w' => ∃ v : Int, e = .returned (.int .i64 v) ∧ -5000 ≤ v ∧ v ≤ 5000 ∧ SH row w0 w' (rdP .u8 va cs :: I)) := by
  have HB := Lib.hid hb
  clear hb
  go_enter Try.func30, Try.ntmps30
  go_wp2_with fail
  refine (open_s va cs _ (by first | exact hs | exact (hs).allocP1 _ _ | exact ((hs).allocP1 _ _).allocP1 _ _ | exact (((hs).allocP1 _ _).allocP1 _ _).allocP1 _ _ | exact ((((hs).allocP1 _ _).allocP1 _ _).allocP1 _ _).allocP1 _ _ | exact (hs).drew | exact ((hs).allocP1 _ _).drew | exact (((hs).allocP1 _ _).allocP1 _ _).drew | exact ((((hs).allocP1 _ _).allocP1 _ _).allocP1 _ _).drew | exact (((((hs).allocP1 _ _).allocP1 _ _).allocP1 _ _).allocP1 _ _).drew | exact (hs).drewN _ | exact ((hs).allocP1 _ _).drewN _ | exact (((hs).allocP1 _ _).allocP1 _ _).drewN _ | exact ((((hs).allocP1 _ _).allocP1 _ _).allocP1 _ _).drewN _ | exact (((((hs).allocP1 _ _).allocP1 _ _).allocP1 _ _).allocP1 _ _).drewN _) HB.out).mono ?_
  rintro e w1 ⟨g, sv, bs, rfl, hs⟩
  go_wp2_with fail
  refine (l20Voice_s g 0 9 _ (by first | exact hs | exact (hs).allocP1 _ _ | exact ((hs).allocP1 _ _).allocP1 _ _ | exact (((hs).allocP1 _ _).allocP1 _ _).allocP1 _ _ | exact ((((hs).allocP1 _ _).allocP1 _ _).allocP1 _ _).allocP1 _ _ | exact (hs).drew | exact ((hs).allocP1 _ _).drew | exact (((hs).allocP1 _ _).allocP1 _ _).drew | exact ((((hs).allocP1 _ _).allocP1 _ _).allocP1 _ _).drew | exact (((((hs).allocP1 _ _).allocP1 _ _).allocP1 _ _).allocP1 _ _).drew | exact (hs).drewN _ | exact ((hs).allocP1 _ _).drewN _ | exact (((hs).allocP1 _ _).allocP1 _ _).drewN _ | exact ((((hs).allocP1 _ _).allocP1 _ _).allocP1 _ _).drewN _ | exact (((((hs).allocP1 _ _).allocP1 _ _).allocP1 _ _).allocP1 _ _).drewN _) (by decide) (by decide)).mono ?_
  rintro e w2 ⟨v, rfl, v0, v1, hs⟩
  go_wp2
  go_ret
  exact ⟨v, rfl, v0, v1, hs.drop0⟩

/-- the law of CompressVoice -/
def cvB (n : Int) : Bool := decide (0 ≤ compV n ∧ compV n ≤ 255 ∧ max (expV (compV n) - n) (-(expV (compV n) - n)) ≤ max n (-n) / 16 + 1 ∧ 0 ≤ expV (compV n) * n ∧ compV n % 128 ≤ compV (min 4095 (max n (-n) + 1)) ∧ max (expV (compV n)) (-expV (compV n)) ≤ max n (-n) ∧ -4095 ≤ expV (compV n) ∧ expV (compV n) ≤ 4095)
theorem cvB_pos : ∀ a b : Fin 64, cvB ((64 * a.val + b.val : Nat) : Int) = true := by decide +kernel
theorem cvB_neg : ∀ a b : Fin 64, cvB (-((64 * a.val + b.val : Nat) : Int)) = true := by decide +kernel
theorem cv_law (n : Int) (h0 : -4095 ≤ n) (h1 : n ≤ 4095) : cvB n = true := by
  rcases Int.le_total 0 n with h | h
  · have := cvB_pos ⟨n.toNat / 64, by omega⟩ ⟨n.toNat % 64, by omega⟩
    rwa [show ((64 * (n.toNat / 64) + n.toNat % 64 : Nat) : Int) = n by omega] at this
  · have := cvB_neg ⟨(-n).toNat / 64, by omega⟩ ⟨(-n).toNat % 64, by omega⟩
    rwa [show -((64 * ((-n).toNat / 64) + (-n).toNat % 64 : Nat) : Int) = n by omega] at this
/-- codes and samples are in order -/
theorem cAbs_step64 : ∀ a b : Fin 64, 64 * a.val + b.val < 4095 → compV ((64 * a.val + b.val : Nat) : Int) ≤ compV (((64 * a.val + b.val : Nat) : Int) + 1) ∧ 0 ≤ compV ((64 * a.val + b.val : Nat) : Int) ∧ compV (((64 * a.val + b.val : Nat) : Int) + 1) ≤ 127 := by decide +kernel
theorem cAbs_step (m : Int) (h0 : 0 ≤ m) (h1 : m < 4095) : compV m ≤ compV (m + 1) ∧ 0 ≤ compV m ∧ compV (m + 1) ≤ 127 := by
  have := cAbs_step64 ⟨m.toNat / 64, by omega⟩ ⟨m.toNat % 64, by omega⟩ (by show 64 * (m.toNat / 64) + m.toNat % 64 < 4095; omega)
  rwa [show ((64 * (m.toNat / 64) + m.toNat % 64 : Nat) : Int) = m by omega] at this
theorem expV_step : ∀ c : Fin 127, expV (c.val : Int) ≤ expV ((c.val : Int) + 1) := by decide +kernel
theorem compV_mono : ∀ (k : Nat) (a : Int), 0 ≤ a → a + k ≤ 4095 → compV a ≤ compV (a + k)
  | 0, a, _, _ => by simp
  | k + 1, a, h0, h1 => by
    have ih := compV_mono k a h0 (by omega)
    have := cAbs_step (a + k) (by omega) (by omega)
    have e : a + ((k + 1 : Nat) : Int) = a + k + 1 := by omega
    rw [e]; omega
theorem compV_le {a b : Int} (h0 : 0 ≤ a) (h : a ≤ b) (h1 : b ≤ 4095) : compV a ≤ compV b := by
  have := compV_mono (b - a).toNat a h0 (by omega)
  rwa [show a + ((b - a).toNat : Int) = b by omega] at this
theorem compV_rng {a : Int} (h0 : 0 ≤ a) (h1 : a ≤ 4095) : 0 ≤ compV a ∧ compV a ≤ 127 := by
  have h2 : 0 ≤ compV 0 := (cAbs_step 0 (by decide) (by decide)).2.1
  have h3 : compV 4095 ≤ 127 := (cAbs_step 4094 (by decide) (by decide)).2.2
  have h4 := compV_le (Int.le_refl 0) h0 h1
  have h5 := compV_le h0 h1 (Int.le_refl 4095)
  omega
theorem expV_mono : ∀ (k : Nat) (a : Int), 0 ≤ a → a + k ≤ 127 → expV a ≤ expV (a + k)
  | 0, a, _, _ => by simp
  | k + 1, a, h0, h1 => by
    have ih := expV_mono k a h0 (by omega)
    have := expV_step ⟨(a + k).toNat, by omega⟩
    simp only [Int.toNat_of_nonneg (show 0 ≤ a + (k : Int) by omega)] at this
    have e : a + ((k + 1 : Nat) : Int) = a + k + 1 := by omega
    rw [e]; omega
theorem expV_le {a b : Int} (h0 : 0 ≤ a) (h : a ≤ b) (h1 : b ≤ 127) : expV a ≤ expV b := by
  have := expV_mono (b - a).toNat a h0 (by omega)
  rwa [show a + ((b - a).toNat : Int) = b by omega] at this

theorem mul_bd {x n : Int} (h0 : -4095 ≤ x) (h1 : x ≤ 4095) (h2 : -4095 ≤ n) (h3 : n ≤ 4095) : -(4095 * 4095) ≤ x * n ∧ x * n ≤ 4095 * 4095 := by
  have e1 := Int.mul_nonneg (show 0 ≤ 4095 - x by omega) (show 0 ≤ 4095 + n by omega)
  have e2 := Int.mul_nonneg (show 0 ≤ 4095 + x by omega) (show 0 ≤ 4095 - n by omega)
  have e3 := Int.mul_nonneg (show 0 ≤ 4095 - x by omega) (show 0 ≤ 4095 - n by omega)
  have e4 := Int.mul_nonneg (show 0 ≤ 4095 + x by omega) (show 0 ≤ 4095 + n by omega)
  simp only [Int.sub_mul, Int.mul_sub, Int.add_mul, Int.mul_add] at e1 e2 e3 e4
  omega

set_option maxRecDepth 100000 in
set_option maxHeartbeats 4000000 in
theorem fnCompressVoice_c (vc : Value) (c : List Int) (w : World) (hc : RdB w vc c) (bc : ∀ n ∈ c, (Lit.int .u8 n).wf = true) :
    Calls Try.prog 7 #[vc] w (Ret w fun v _ => v = .bool true) := by
  have hs := SH.add (p := rdP .u8 vc c) (SH.start0 w) (by simp) hc rdP_wr
  obtain ⟨ac, cc, rfl, -⟩ := hc.form
  have Bc := Lib.hid bc
  clear hc bc
  by_cases lc : c.length ≤ 1048576
  case neg =>
    go_enter Try.func7, Try.ntmps7
    go_wp2
    go_ret
    exact Ret.mk1 rfl (Below.refl _ _)
  go_enter Try.func7, Try.ntmps7
  go_wp2_with fail
  refine (DrawCompressVoice_s _ c _ (by first | exact hs | exact (hs).allocP1 _ _ | exact ((hs).allocP1 _ _).allocP1 _ _ | exact (((hs).allocP1 _ _).allocP1 _ _).allocP1 _ _ | exact ((((hs).allocP1 _ _).allocP1 _ _).allocP1 _ _).allocP1 _ _ | exact (hs).drew | exact ((hs).allocP1 _ _).drew | exact (((hs).allocP1 _ _).allocP1 _ _).drew | exact ((((hs).allocP1 _ _).allocP1 _ _).allocP1 _ _).drew | exact (((((hs).allocP1 _ _).allocP1 _ _).allocP1 _ _).allocP1 _ _).drew | exact (hs).drewN _ | exact ((hs).allocP1 _ _).drewN _ | exact (((hs).allocP1 _ _).allocP1 _ _).drewN _ | exact ((((hs).allocP1 _ _).allocP1 _ _).allocP1 _ _).drewN _ | exact (((((hs).allocP1 _ _).allocP1 _ _).allocP1 _ _).allocP1 _ _).drewN _) Bc.out).mono ?_
  rintro e w1 ⟨n, rfl, n0, n1, hs⟩
  go_wp2_with fail
  refine (SH.quiet hs (by repeat' (first | with_reducible exact Below.refl _ _ | with_reducible assumption | with_reducible refine below_drewN ?_ _ | with_reducible refine Below.drew ?_ | with_reducible refine Below.alloc ?_ ?_ _ | with_reducible refine Below.setCell ?_ ?_ _ | go_size)) fun hs => implCompressVoice_c n _).mono ?_
  rintro e w2 ⟨rfl, hs⟩
  have e1 : (compV n != compV n) = false := bne_self_eq_false _
  go_wp2_with fail
  refine (SH.quiet hs (by repeat' (first | with_reducible exact Below.refl _ _ | with_reducible assumption | with_reducible refine below_drewN ?_ _ | with_reducible refine Below.drew ?_ | with_reducible refine Below.alloc ?_ ?_ _ | with_reducible refine Below.setCell ?_ ?_ _ | go_size)) fun hs => specCompressVoice_c n _ (by omega) (by omega)).mono ?_
  rintro e w3 ⟨rfl, hs⟩
  go_wp2_with fail
  refine (SH.quiet hs (by repeat' (first | with_reducible exact Below.refl _ _ | with_reducible assumption | with_reducible refine below_drewN ?_ _ | with_reducible refine Below.drew ?_ | with_reducible refine Below.alloc ?_ ?_ _ | with_reducible refine Below.setCell ?_ ?_ _ | go_size)) fun hs => abs_c n _ (by omega) (by omega)).mono ?_
  rintro e w4 ⟨rfl, hs⟩
  by_cases hn : 4095 < max n (-n)
  · have ho : compV n = -1 := compV_out (by omega)
    go_wp2_with fail
    refine (SH.ret hs (by repeat' (first | with_reducible exact Below.refl _ _ | with_reducible assumption | with_reducible refine below_drewN ?_ _ | with_reducible refine Below.drew ?_ | with_reducible refine Below.alloc ?_ ?_ _ | with_reducible refine Below.setCell ?_ ?_ _ | go_size)) fun hs => alive_c _).mono ?_
    rintro e w5 ⟨v, rfl, rfl, hs⟩
    go_wp2
    go_ret
    exact Ret.mk1 rfl (SH.done (by first | exact hs | exact (hs).alloc _ | exact ((hs).alloc _).alloc _ | exact (((hs).alloc _).alloc _).alloc _ | exact ((((hs).alloc _).alloc _).alloc _).alloc _ | exact (hs).drew | exact ((hs).alloc _).drew | exact (((hs).alloc _).alloc _).drew | exact ((((hs).alloc _).alloc _).alloc _).drew | exact (((((hs).alloc _).alloc _).alloc _).alloc _).drew | exact (hs).drewN _ | exact ((hs).alloc _).drewN _ | exact (((hs).alloc _).alloc _).drewN _ | exact ((((hs).alloc _).alloc _).alloc _).drewN _ | exact (((((hs).alloc _).alloc _).alloc _).alloc _).drewN _))
  have hl := cv_law n (by omega) (by omega)
  unfold cvB at hl
  rw [decide_eq_true_eq] at hl
  obtain ⟨l1, l2, l3, l4, l5, l6, l7, l8⟩ := hl
  obtain ⟨c, hc⟩ : ∃ c, compV n = c := ⟨_, rfl⟩
  obtain ⟨x, hx⟩ : ∃ x, expV c = x := ⟨_, rfl⟩
  obtain ⟨y, hy⟩ : ∃ y, compV (min 4095 (max n (-n) + 1)) = y := ⟨_, rfl⟩
  have hx' := hx
  rw [← hc] at hx'
  rw [hx'] at l3 l4 l6 l7 l8
  rw [hy] at l5
  rw [hc] at l1 l2 l5
  have HC := Lib.hid hc
  have HX := Lib.hid hx
  have HY := Lib.hid hy
  clear hc hx hy hx' e1
  have hxn : -(4095 * 4095) ≤ x * n ∧ x * n ≤ 4095 * 4095 := mul_bd (by omega) (by omega) (by omega) (by omega)
  rw [HC.out]
  go_wp2_with fail
  refine (SH.quiet hs (by repeat' (first | with_reducible exact Below.refl _ _ | with_reducible assumption | with_reducible refine below_drewN ?_ _ | with_reducible refine Below.drew ?_ | with_reducible refine Below.alloc ?_ ?_ _ | with_reducible refine Below.setCell ?_ ?_ _ | go_size)) fun hs => implExpandVoice_c c _).mono ?_
  rintro e w5 ⟨rfl, hs⟩
  rw [HX.out]
  go_wp2_with fail
  refine (SH.quiet hs (by repeat' (first | with_reducible exact Below.refl _ _ | with_reducible assumption | with_reducible refine below_drewN ?_ _ | with_reducible refine Below.drew ?_ | with_reducible refine Below.alloc ?_ ?_ _ | with_reducible refine Below.setCell ?_ ?_ _ | go_size)) fun hs => abs_c n _ (by omega) (by omega)).mono ?_
  rintro e w6 ⟨rfl, hs⟩
  go_wp2_with fail
  refine (SH.quiet hs (by repeat' (first | with_reducible exact Below.refl _ _ | with_reducible assumption | with_reducible refine below_drewN ?_ _ | with_reducible refine Below.drew ?_ | with_reducible refine Below.alloc ?_ ?_ _ | with_reducible refine Below.setCell ?_ ?_ _ | go_size)) fun hs => implCompressVoice_c (min 4095 (max n (-n) + 1)) _).mono ?_
  rintro e w7 ⟨rfl, hs⟩
  rw [HY.out]
  go_wp2_with fail
  refine (SH.quiet hs (by repeat' (first | with_reducible exact Below.refl _ _ | with_reducible assumption | with_reducible refine below_drewN ?_ _ | with_reducible refine Below.drew ?_ | with_reducible refine Below.alloc ?_ ?_ _ | with_reducible refine Below.setCell ?_ ?_ _ | go_size)) fun hs => abs_c (x - n) _ (by omega) (by omega)).mono ?_
  rintro e w8 ⟨rfl, hs⟩
  go_wp2_with fail
  refine (SH.quiet hs (by repeat' (first | with_reducible exact Below.refl _ _ | with_reducible assumption | with_reducible refine below_drewN ?_ _ | with_reducible refine Below.drew ?_ | with_reducible refine Below.alloc ?_ ?_ _ | with_reducible refine Below.setCell ?_ ?_ _ | go_size)) fun hs => abs_c n _ (by omega) (by omega)).mono ?_
  rintro e w9 ⟨rfl, hs⟩
  go_wp2_with fail
  refine (SH.quiet hs (by repeat' (first | with_reducible exact Below.refl _ _ | with_reducible assumption | with_reducible refine below_drewN ?_ _ | with_reducible refine Below.drew ?_ | with_reducible refine Below.alloc ?_ ?_ _ | with_reducible refine Below.setCell ?_ ?_ _ | go_size)) fun hs => abs_c x _ (by omega) (by omega)).mono ?_
  rintro e w10 ⟨rfl, hs⟩
  go_wp2_with fail
  refine (SH.quiet hs (by repeat' (first | with_reducible exact Below.refl _ _ | with_reducible assumption | with_reducible refine below_drewN ?_ _ | with_reducible refine Below.drew ?_ | with_reducible refine Below.alloc ?_ ?_ _ | with_reducible refine Below.setCell ?_ ?_ _ | go_size)) fun hs => abs_c n _ (by omega) (by omega)).mono ?_
  rintro e w11 ⟨rfl, hs⟩
  go_wp2
  go_ret
  exact Ret.mk1 rfl (SH.done (by first | exact hs | exact (hs).alloc _ | exact ((hs).alloc _).alloc _ | exact (((hs).alloc _).alloc _).alloc _ | exact ((((hs).alloc _).alloc _).alloc _).alloc _ | exact (hs).drew | exact ((hs).alloc _).drew | exact (((hs).alloc _).alloc _).drew | exact ((((hs).alloc _).alloc _).alloc _).drew | exact (((((hs).alloc _).alloc _).alloc _).alloc _).drew | exact (hs).drewN _ | exact ((hs).alloc _).drewN _ | exact (((hs).alloc _).alloc _).drewN _ | exact ((((hs).alloc _).alloc _).alloc _).drewN _ | exact (((((hs).alloc _).alloc _).alloc _).alloc _).drewN _))
set_option maxRecDepth 100000 in
set_option maxHeartbeats 4000000 in
theorem fnVoiceOrder_c (vc : Value) (c : List Int) (vd : Value) (d : List Int) (w : World) (hc : RdB w vc c) (bc : ∀ n ∈ c, (Lit.int .u8 n).wf = true) (hd : RdB w vd d) (bd : ∀ n ∈ d, (Lit.int .u8 n).wf = true) :
    Calls Try.prog 8 #[vc, vd] w (Ret w fun v _ => v = .bool true) := by
  have hs := SH.add (p := rdP .u8 vc c) (SH.add (p := rdP .u8 vd d) (SH.start0 w) (by simp) hd rdP_wr) (by intro q hq; simp only [List.mem_cons, List.not_mem_nil, or_false] at hq; subst hq; exact rdP_wr) hc rdP_wr
  obtain ⟨ac, cc, rfl, -⟩ := hc.form
  obtain ⟨ad, cd, rfl, -⟩ := hd.form
  have Bc := Lib.hid bc
  have Bd := Lib.hid bd
  clear hc bc hd bd
  by_cases lc : c.length ≤ 1048576
  case neg =>
    go_enter Try.func8, Try.ntmps8
    go_wp2
    go_ret
    exact Ret.mk1 rfl (Below.refl _ _)
  by_cases ld : d.length ≤ 1048576
  case neg =>
    go_enter Try.func8, Try.ntmps8
    go_wp2
    go_ret
    exact Ret.mk1 rfl (Below.refl _ _)
  go_enter Try.func8, Try.ntmps8
  go_wp2_with fail
  refine (DrawCompressVoice_s _ c _ (by first | exact hs | exact (hs).allocP1 _ _ | exact ((hs).allocP1 _ _).allocP1 _ _ | exact (((hs).allocP1 _ _).allocP1 _ _).allocP1 _ _ | exact ((((hs).allocP1 _ _).allocP1 _ _).allocP1 _ _).allocP1 _ _ | exact (hs).drew | exact ((hs).allocP1 _ _).drew | exact (((hs).allocP1 _ _).allocP1 _ _).drew | exact ((((hs).allocP1 _ _).allocP1 _ _).allocP1 _ _).drew | exact (((((hs).allocP1 _ _).allocP1 _ _).allocP1 _ _).allocP1 _ _).drew | exact (hs).drewN _ | exact ((hs).allocP1 _ _).drewN _ | exact (((hs).allocP1 _ _).allocP1 _ _).drewN _ | exact ((((hs).allocP1 _ _).allocP1 _ _).allocP1 _ _).drewN _ | exact (((((hs).allocP1 _ _).allocP1 _ _).allocP1 _ _).allocP1 _ _).drewN _) Bc.out).mono ?_
  rintro e w1 ⟨n, rfl, n0, n1, hs⟩
  go_wp2_with fail
  refine (SH.quiet hs (by repeat' (first | with_reducible exact Below.refl _ _ | with_reducible assumption | with_reducible refine below_drewN ?_ _ | with_reducible refine Below.drew ?_ | with_reducible refine Below.alloc ?_ ?_ _ | with_reducible refine Below.setCell ?_ ?_ _ | go_size)) fun hs => abs_c n _ (by omega) (by omega)).mono ?_
  rintro e w2 ⟨rfl, hs⟩
  have hs := hs.bring1
  go_wp2_with fail
  refine (DrawCompressVoice_s _ d _ (by first | exact hs | exact (hs).allocP1 _ _ | exact ((hs).allocP1 _ _).allocP1 _ _ | exact (((hs).allocP1 _ _).allocP1 _ _).allocP1 _ _ | exact ((((hs).allocP1 _ _).allocP1 _ _).allocP1 _ _).allocP1 _ _ | exact (hs).drew | exact ((hs).allocP1 _ _).drew | exact (((hs).allocP1 _ _).allocP1 _ _).drew | exact ((((hs).allocP1 _ _).allocP1 _ _).allocP1 _ _).drew | exact (((((hs).allocP1 _ _).allocP1 _ _).allocP1 _ _).allocP1 _ _).drew | exact (hs).drewN _ | exact ((hs).allocP1 _ _).drewN _ | exact (((hs).allocP1 _ _).allocP1 _ _).drewN _ | exact ((((hs).allocP1 _ _).allocP1 _ _).allocP1 _ _).drewN _ | exact (((((hs).allocP1 _ _).allocP1 _ _).allocP1 _ _).allocP1 _ _).drewN _) Bd.out).mono ?_
  rintro e w3 ⟨m, rfl, m0, m1, hs⟩
  go_wp2_with fail
  refine (SH.quiet hs (by repeat' (first | with_reducible exact Below.refl _ _ | with_reducible assumption | with_reducible refine below_drewN ?_ _ | with_reducible refine Below.drew ?_ | with_reducible refine Below.alloc ?_ ?_ _ | with_reducible refine Below.setCell ?_ ?_ _ | go_size)) fun hs => abs_c m _ (by omega) (by omega)).mono ?_
  rintro e w4 ⟨rfl, hs⟩
  obtain ⟨a, ha⟩ : ∃ a, max n (-n) = a := ⟨_, rfl⟩
  obtain ⟨b, hb⟩ : ∃ b, max m (-m) = b := ⟨_, rfl⟩
  have a0 : 0 ≤ a := by omega
  have b0 : 0 ≤ b := by omega
  have a5 : a ≤ 5000 := by omega
  have b5 : b ≤ 5000 := by omega
  rw [ha, hb]
  clear ha hb n0 n1 m0 m1
  go_wp2_with fail
  refine (SH.quiet hs (by repeat' (first | with_reducible exact Below.refl _ _ | with_reducible assumption | with_reducible refine below_drewN ?_ _ | with_reducible refine Below.drew ?_ | with_reducible refine Below.alloc ?_ ?_ _ | with_reducible refine Below.setCell ?_ ?_ _ | go_size)) fun hs => implCompressVoice_c a _).mono ?_
  rintro e w5 ⟨rfl, hs⟩
  go_wp2_with fail
  refine (SH.quiet hs (by repeat' (first | with_reducible exact Below.refl _ _ | with_reducible assumption | with_reducible refine below_drewN ?_ _ | with_reducible refine Below.drew ?_ | with_reducible refine Below.alloc ?_ ?_ _ | with_reducible refine Below.setCell ?_ ?_ _ | go_size)) fun hs => implCompressVoice_c b _).mono ?_
  rintro e w6 ⟨rfl, hs⟩
  have e1 : (compV a != compV a) = false := bne_self_eq_false _
  go_wp2_with fail
  refine (SH.quiet hs (by repeat' (first | with_reducible exact Below.refl _ _ | with_reducible assumption | with_reducible refine below_drewN ?_ _ | with_reducible refine Below.drew ?_ | with_reducible refine Below.alloc ?_ ?_ _ | with_reducible refine Below.setCell ?_ ?_ _ | go_size)) fun hs => specCompressVoice_c a _ (by omega) (by omega)).mono ?_
  rintro e w7 ⟨rfl, hs⟩
  by_cases xa : 4095 < a
  · have ho : compV a = -1 := compV_out (by omega)
    go_wp2_with fail
    refine (SH.ret hs (by repeat' (first | with_reducible exact Below.refl _ _ | with_reducible assumption | with_reducible refine below_drewN ?_ _ | with_reducible refine Below.drew ?_ | with_reducible refine Below.alloc ?_ ?_ _ | with_reducible refine Below.setCell ?_ ?_ _ | go_size)) fun hs => alive_c _).mono ?_
    rintro e w8 ⟨v, rfl, rfl, hs⟩
    go_wp2
    go_ret
    exact Ret.mk1 rfl (SH.done (by first | exact hs | exact (hs).alloc _ | exact ((hs).alloc _).alloc _ | exact (((hs).alloc _).alloc _).alloc _ | exact ((((hs).alloc _).alloc _).alloc _).alloc _ | exact (hs).drew | exact ((hs).alloc _).drew | exact (((hs).alloc _).alloc _).drew | exact ((((hs).alloc _).alloc _).alloc _).drew | exact (((((hs).alloc _).alloc _).alloc _).alloc _).drew | exact (hs).drewN _ | exact ((hs).alloc _).drewN _ | exact (((hs).alloc _).alloc _).drewN _ | exact ((((hs).alloc _).alloc _).alloc _).drewN _ | exact (((((hs).alloc _).alloc _).alloc _).alloc _).drewN _))
  obtain ⟨ca0, ca1⟩ := compV_rng (a := a) (by omega) (by omega)
  by_cases xb : 4095 < b
  · have ho : compV b = -1 := compV_out (by omega)
    go_wp2_with fail
    refine (SH.ret hs (by repeat' (first | with_reducible exact Below.refl _ _ | with_reducible assumption | with_reducible refine below_drewN ?_ _ | with_reducible refine Below.drew ?_ | with_reducible refine Below.alloc ?_ ?_ _ | with_reducible refine Below.setCell ?_ ?_ _ | go_size)) fun hs => alive_c _).mono ?_
    rintro e w8 ⟨v, rfl, rfl, hs⟩
    go_wp2
    go_ret
    exact Ret.mk1 rfl (SH.done (by first | exact hs | exact (hs).alloc _ | exact ((hs).alloc _).alloc _ | exact (((hs).alloc _).alloc _).alloc _ | exact ((((hs).alloc _).alloc _).alloc _).alloc _ | exact (hs).drew | exact ((hs).alloc _).drew | exact (((hs).alloc _).alloc _).drew | exact ((((hs).alloc _).alloc _).alloc _).drew | exact (((((hs).alloc _).alloc _).alloc _).alloc _).drew | exact (hs).drewN _ | exact ((hs).alloc _).drewN _ | exact (((hs).alloc _).alloc _).drewN _ | exact ((((hs).alloc _).alloc _).alloc _).drewN _ | exact (((((hs).alloc _).alloc _).alloc _).alloc _).drewN _))
  obtain ⟨cb0, cb1⟩ := compV_rng (a := b) (by omega) (by omega)
  have m1 : a ≤ b → compV a ≤ compV b := fun h => compV_le a0 h (by omega)
  have m2 : b ≤ a → compV b ≤ compV a := fun h => compV_le b0 h (by omega)
  have m3 : compV a ≤ compV b → expV (compV a) ≤ expV (compV b) := fun h => expV_le ca0 h cb1
  obtain ⟨ca, hca⟩ : ∃ x, compV a = x := ⟨_, rfl⟩
  obtain ⟨cb, hcb⟩ : ∃ x, compV b = x := ⟨_, rfl⟩
  rw [hca] at ca0 ca1 m1 m2 m3
  rw [hcb] at cb0 cb1 m1 m2 m3
  rw [hca, hcb]
  clear hca hcb e1
  obtain ⟨ea, hea⟩ : ∃ x, expV ca = x := ⟨_, rfl⟩
  obtain ⟨eb, heb⟩ : ∃ x, expV cb = x := ⟨_, rfl⟩
  rw [hea, heb] at m3
  have HA := Lib.hid hea
  have HB := Lib.hid heb
  clear hea heb
  have M3 := Lib.hid m3
  clear m3
  rcases Int.lt_trichotomy a b with o | o | o
  · have o1 : ca ≤ cb := m1 (by omega)
    clear m1 m2
    have o2 := M3.out (by omega)
    go_wp2_with fail
    refine (SH.quiet hs (by repeat' (first | with_reducible exact Below.refl _ _ | with_reducible assumption | with_reducible refine below_drewN ?_ _ | with_reducible refine Below.drew ?_ | with_reducible refine Below.alloc ?_ ?_ _ | with_reducible refine Below.setCell ?_ ?_ _ | go_size)) fun hs => implExpandVoice_c ca _).mono ?_
    rintro e w8 ⟨rfl, hs⟩
    rw [HA.out]
    go_wp2_with fail
    refine (SH.quiet hs (by repeat' (first | with_reducible exact Below.refl _ _ | with_reducible assumption | with_reducible refine below_drewN ?_ _ | with_reducible refine Below.drew ?_ | with_reducible refine Below.alloc ?_ ?_ _ | with_reducible refine Below.setCell ?_ ?_ _ | go_size)) fun hs => implExpandVoice_c cb _).mono ?_
    rintro e w9 ⟨rfl, hs⟩
    rw [HB.out]
    go_wp2
    go_ret
    exact Ret.mk1 rfl (SH.done (by first | exact hs | exact (hs).alloc _ | exact ((hs).alloc _).alloc _ | exact (((hs).alloc _).alloc _).alloc _ | exact ((((hs).alloc _).alloc _).alloc _).alloc _ | exact (hs).drew | exact ((hs).alloc _).drew | exact (((hs).alloc _).alloc _).drew | exact ((((hs).alloc _).alloc _).alloc _).drew | exact (((((hs).alloc _).alloc _).alloc _).alloc _).drew | exact (hs).drewN _ | exact ((hs).alloc _).drewN _ | exact (((hs).alloc _).alloc _).drewN _ | exact ((((hs).alloc _).alloc _).alloc _).drewN _ | exact (((((hs).alloc _).alloc _).alloc _).alloc _).drewN _))
  · have o1 : ca = cb := by have := m1 (by omega); have := m2 (by omega); omega
    subst o1
    clear m1 m2
    have o2 := M3.out (by omega)
    go_wp2_with fail
    refine (SH.quiet hs (by repeat' (first | with_reducible exact Below.refl _ _ | with_reducible assumption | with_reducible refine below_drewN ?_ _ | with_reducible refine Below.drew ?_ | with_reducible refine Below.alloc ?_ ?_ _ | with_reducible refine Below.setCell ?_ ?_ _ | go_size)) fun hs => implExpandVoice_c ca _).mono ?_
    rintro e w8 ⟨rfl, hs⟩
    rw [HA.out]
    go_wp2_with fail
    refine (SH.quiet hs (by repeat' (first | with_reducible exact Below.refl _ _ | with_reducible assumption | with_reducible refine below_drewN ?_ _ | with_reducible refine Below.drew ?_ | with_reducible refine Below.alloc ?_ ?_ _ | with_reducible refine Below.setCell ?_ ?_ _ | go_size)) fun hs => implExpandVoice_c ca _).mono ?_
    rintro e w9 ⟨rfl, hs⟩
    rw [HB.out]
    go_wp2
    go_ret
    exact Ret.mk1 rfl (SH.done (by first | exact hs | exact (hs).alloc _ | exact ((hs).alloc _).alloc _ | exact (((hs).alloc _).alloc _).alloc _ | exact ((((hs).alloc _).alloc _).alloc _).alloc _ | exact (hs).drew | exact ((hs).alloc _).drew | exact (((hs).alloc _).alloc _).drew | exact ((((hs).alloc _).alloc _).alloc _).drew | exact (((((hs).alloc _).alloc _).alloc _).alloc _).drew | exact (hs).drewN _ | exact ((hs).alloc _).drewN _ | exact (((hs).alloc _).alloc _).drewN _ | exact ((((hs).alloc _).alloc _).alloc _).drewN _ | exact (((((hs).alloc _).alloc _).alloc _).alloc _).drewN _))
  · have o1 : cb ≤ ca := m2 (by omega)
    clear m1 m2
    rcases Int.lt_or_le cb ca with o2 | o2
    · go_wp2
      go_ret
      exact Ret.mk1 rfl (SH.done (by first | exact hs | exact (hs).alloc _ | exact ((hs).alloc _).alloc _ | exact (((hs).alloc _).alloc _).alloc _ | exact ((((hs).alloc _).alloc _).alloc _).alloc _ | exact (hs).drew | exact ((hs).alloc _).drew | exact (((hs).alloc _).alloc _).drew | exact ((((hs).alloc _).alloc _).alloc _).drew | exact (((((hs).alloc _).alloc _).alloc _).alloc _).drew | exact (hs).drewN _ | exact ((hs).alloc _).drewN _ | exact (((hs).alloc _).alloc _).drewN _ | exact ((((hs).alloc _).alloc _).alloc _).drewN _ | exact (((((hs).alloc _).alloc _).alloc _).alloc _).drewN _))
    · have o3 := M3.out o2
      go_wp2_with fail
      refine (SH.quiet hs (by repeat' (first | with_reducible exact Below.refl _ _ | with_reducible assumption | with_reducible refine below_drewN ?_ _ | with_reducible refine Below.drew ?_ | with_reducible refine Below.alloc ?_ ?_ _ | with_reducible refine Below.setCell ?_ ?_ _ | go_size)) fun hs => implExpandVoice_c ca _).mono ?_
      rintro e w8 ⟨rfl, hs⟩
      rw [HA.out]
      go_wp2_with fail
      refine (SH.quiet hs (by repeat' (first | with_reducible exact Below.refl _ _ | with_reducible assumption | with_reducible refine below_drewN ?_ _ | with_reducible refine Below.drew ?_ | with_reducible refine Below.alloc ?_ ?_ _ | with_reducible refine Below.setCell ?_ ?_ _ | go_size)) fun hs => implExpandVoice_c cb _).mono ?_
      rintro e w9 ⟨rfl, hs⟩
      rw [HB.out]
      go_wp2
      go_ret
      exact Ret.mk1 rfl (SH.done (by first | exact hs | exact (hs).alloc _ | exact ((hs).alloc _).alloc _ | exact (((hs).alloc _).alloc _).alloc _ | exact ((((hs).alloc _).alloc _).alloc _).alloc _ | exact (hs).drew | exact ((hs).alloc _).drew | exact (((hs).alloc _).alloc _).drew | exact ((((hs).alloc _).alloc _).alloc _).drew | exact (((((hs).alloc _).alloc _).alloc _).alloc _).drew | exact (hs).drewN _ | exact ((hs).alloc _).drewN _ | exact (((hs).alloc _).alloc _).drewN _ | exact ((((hs).alloc _).alloc _).alloc _).drewN _ | exact (((((hs).alloc _).alloc _).alloc _).alloc _).drewN _))

end Go.Proofs.Ytfllfbmdnokmnaa
