import Derived.Test.YtfllfbmdnokmnaaProg
import Derived.Test.YtfllfbmdnokmnaaSym
import Derived.Test.YtfllfbmdnokmnaaDraw
import Derived.Test.YtfllfbmdnokmnaaInts
import Derived.Test.YtfllfbmdnokmnaaSteer
import Derived.Deep.Cut
namespace Go.Proofs.Ytfllfbmdnokmnaa
open Go.RowKit

set_option maxRecDepth 100000 in
set_option maxHeartbeats 1000000 in
theorem DrawSteerClock_s (va : Value) (cs : List Int) (w : World) {row : Option Nat} {w0 : World} {I : List Part} (hs : SH row w0 w (rdP .u8 va cs :: I)) (hb : ∀ n ∈ cs, (Lit.int .u8 n).wf = true) :
    Calls Try.prog 42 #[va] w (fun e w' => ∃ o sh l : Int, e = .returned (.tuple #[.int .i64 o, .int .i64 sh, .int .i64 l]) ∧ (-1000001 ≤ o ∧ o ≤ 1000001) ∧ (-10 ≤ sh ∧ sh ≤ 20) ∧ (-10 ≤ l ∧ l ≤ 1000001) ∧ SH row w0 w' (rdP .u8 va cs :: I)) := by
  have HB := Lib.hid hb
  clear hb
  go_enter Try.func42, Try.ntmps42
  go_wp2_with fail
  refine (open_s va cs _ (by first | exact hs | exact (hs).allocP1 _ _ | exact ((hs).allocP1 _ _).allocP1 _ _ | exact (((hs).allocP1 _ _).allocP1 _ _).allocP1 _ _ | exact ((((hs).allocP1 _ _).allocP1 _ _).allocP1 _ _).allocP1 _ _ | exact (hs).drew | exact ((hs).allocP1 _ _).drew | exact (((hs).allocP1 _ _).allocP1 _ _).drew | exact ((((hs).allocP1 _ _).allocP1 _ _).allocP1 _ _).drew | exact (((((hs).allocP1 _ _).allocP1 _ _).allocP1 _ _).allocP1 _ _).drew | exact (hs).drewN _ | exact ((hs).allocP1 _ _).drewN _ | exact (((hs).allocP1 _ _).allocP1 _ _).drewN _ | exact ((((hs).allocP1 _ _).allocP1 _ _).allocP1 _ _).drewN _ | exact (((((hs).allocP1 _ _).allocP1 _ _).allocP1 _ _).allocP1 _ _).drewN _) HB.out).mono ?_
  rintro e w1 ⟨g, sv, bs, rfl, hs⟩
  go_upto_region 2 with (fail)
  refine wp_region_text [(0, va), (2, .int .i64 0), (3, .int .i64 0), (4, .int .i64 0), (5, .pointer (some ⟨g, 0, none⟩)), (7, va), (8, .pointer (some ⟨g, 0, none⟩))]
    [.any, .any, .any, .any, .any, .any, .int (-1000000) 1000001, .any, .any, .val (.pointer (some ⟨g, 0, none⟩)), .int 0 60, .int (-30) 30, .val (.pointer (some ⟨g, 0, none⟩)), .int 0 255, .int 0 25500, .int (-12800) 12700, .lit 5 (-1000000) 1000001, .lit 8 0 4, .val (.pointer (some ⟨g, 0, none⟩)), .int 0 7, .adr 0 4, .int 0 4, .adr (-1000000) 1000001, .int (-1000000) 1000001, .any, .any, .any, .any, .any, .any, .any, .any, .any, .any, .any, .any, .any, .any, .any, .any, .any, .any]
    [[5], [9], [10], [5], [12], [13], [14], [11, 15], [], [5], [18], [17, 19], [20], [16, 21], [22], [23]]
    16 (by kernel_rfl) (by kernel_rfl) (by kernel_rfl) (by simp only [List.forall_mem_cons]; exact ⟨rfl, rfl, rfl, rfl, rfl, rfl, rfl,  fun _ h => by cases h⟩) ⟨hs, by decide⟩ ?_ ?_
  · exact ⟨ok_move 9 rfl (.inl rfl) (opOK_tmp rfl rfl),
      ok_pick 61 61 10 rfl rfl (opOK_tmp rfl rfl) opOK_int (by decide) rfl,
      ok_sub 0 60 30 30 (-30) 30 11 rfl rfl (opOK_tmp rfl rfl) opOK_int rfl (by decide),
      ok_move 12 rfl (.inl rfl) (opOK_tmp rfl rfl),
      ok_pick 256 256 13 rfl rfl (opOK_tmp rfl rfl) opOK_int (by decide) rfl,
      ok_mulc 0 255 100 0 25500 14 rfl rfl (opOK_tmp rfl rfl) rfl (by decide) (by decide),
      ok_sub 0 25500 12800 12800 (-12800) 12700 15 rfl rfl (opOK_tmp rfl rfl) opOK_int rfl (by decide),
      ok_build 5 (-1000000) 1000001 [.tmp 11, .tmp 15, .const (.int .i64 0), .const (.int .i64 1000001), .const (.int .i64 (-1000000))] 16 rfl rfl rfl rfl (by decide) (by simp only [List.forall_mem_cons]; exact ⟨(opOK_wide (lo := (-30)) (hi := 30) (opOK_tmp rfl rfl) (by decide) (by decide)), (opOK_wide (lo := (-12800)) (hi := 12700) (opOK_tmp rfl rfl) (by decide) (by decide)), (opOK_wide (lo := 0) (hi := 0) opOK_int (by decide) (by decide)), (opOK_wide (lo := 1000001) (hi := 1000001) opOK_int (by decide) (by decide)), (opOK_wide (lo := (-1000000)) (hi := (-1000000)) opOK_int (by decide) (by decide)), fun _ h => by cases h⟩) rfl,
      ok_build 8 0 4 [.const (.int .i64 0), .const (.int .i64 0), .const (.int .i64 0), .const (.int .i64 1), .const (.int .i64 1), .const (.int .i64 2), .const (.int .i64 3), .const (.int .i64 4)] 17 rfl rfl rfl rfl (by decide) (by simp only [List.forall_mem_cons]; exact ⟨(opOK_wide (lo := 0) (hi := 0) opOK_int (by decide) (by decide)), (opOK_wide (lo := 0) (hi := 0) opOK_int (by decide) (by decide)), (opOK_wide (lo := 0) (hi := 0) opOK_int (by decide) (by decide)), (opOK_wide (lo := 1) (hi := 1) opOK_int (by decide) (by decide)), (opOK_wide (lo := 1) (hi := 1) opOK_int (by decide) (by decide)), (opOK_wide (lo := 2) (hi := 2) opOK_int (by decide) (by decide)), (opOK_wide (lo := 3) (hi := 3) opOK_int (by decide) (by decide)), (opOK_wide (lo := 4) (hi := 4) opOK_int (by decide) (by decide)), fun _ h => by cases h⟩) rfl,
      ok_move 18 rfl (.inl rfl) (opOK_tmp rfl rfl),
      ok_pick 8 8 19 rfl rfl (opOK_tmp rfl rfl) opOK_int (by decide) rfl,
      ok_index 8 0 4 0 7 20 rfl rfl (opOK_tmp rfl rfl) (opOK_tmp rfl rfl) rfl (by decide),
      ok_load 0 4 21 rfl rfl (opOK_tmp rfl rfl) rfl,
      ok_index 5 (-1000000) 1000001 0 4 22 rfl rfl (opOK_tmp rfl rfl) (opOK_tmp rfl rfl) rfl (by decide),
      ok_load (-1000000) 1000001 23 rfl rfl (opOK_tmp rfl rfl) rfl,
      ok_move 6 rfl (.inr rfl) (opOK_tmp rfl rfl), trivial⟩
  rintro tm wq ⟨L, hv⟩ hold hsz hs
  have hx0 : tm.getD 0 undef = va := hold 0 (by kernel_rfl)
  have hx1 : tm.getD 1 undef = undef := hold 1 (by kernel_rfl)
  have hx2 : tm.getD 2 undef = .int .i64 0 := hold 2 (by kernel_rfl)
  have hx3 : tm.getD 3 undef = .int .i64 0 := hold 3 (by kernel_rfl)
  have hx4 : tm.getD 4 undef = .int .i64 0 := hold 4 (by kernel_rfl)
  have hx5 : tm.getD 5 undef = .pointer (some ⟨g, 0, none⟩) := hold 5 (by kernel_rfl)
  obtain ⟨x6, hx6, x6_0, x6_1⟩ : ∃ n, tm.getD 6 undef = .int .i64 n ∧ (-1000000) ≤ n ∧ n ≤ 1000001 := hv 6 (show 6 < 42 by decide) (by kernel_rfl)
  have hx7 : tm.getD 7 undef = va := hold 7 (by kernel_rfl)
  have hx8 : tm.getD 8 undef = .pointer (some ⟨g, 0, none⟩) := hold 8 (by kernel_rfl)
  have hx9 : tm.getD 9 undef = .pointer (some ⟨g, 0, none⟩) := hv 9 (show 9 < 42 by decide) (by kernel_rfl)
  obtain ⟨x10, hx10⟩ : ∃ x, tm.getD 10 undef = x := ⟨_, rfl⟩
  obtain ⟨x11, hx11⟩ : ∃ x, tm.getD 11 undef = x := ⟨_, rfl⟩
  have hx12 : tm.getD 12 undef = .pointer (some ⟨g, 0, none⟩) := hv 12 (show 12 < 42 by decide) (by kernel_rfl)
  obtain ⟨x13, hx13⟩ : ∃ x, tm.getD 13 undef = x := ⟨_, rfl⟩
  obtain ⟨x14, hx14⟩ : ∃ x, tm.getD 14 undef = x := ⟨_, rfl⟩
  obtain ⟨x15, hx15⟩ : ∃ x, tm.getD 15 undef = x := ⟨_, rfl⟩
  obtain ⟨x16, hx16⟩ : ∃ x, tm.getD 16 undef = x := ⟨_, rfl⟩
  obtain ⟨x17, hx17⟩ : ∃ x, tm.getD 17 undef = x := ⟨_, rfl⟩
  have hx18 : tm.getD 18 undef = .pointer (some ⟨g, 0, none⟩) := hv 18 (show 18 < 42 by decide) (by kernel_rfl)
  obtain ⟨x19, hx19⟩ : ∃ x, tm.getD 19 undef = x := ⟨_, rfl⟩
  obtain ⟨x20, hx20⟩ : ∃ x, tm.getD 20 undef = x := ⟨_, rfl⟩
  obtain ⟨x21, hx21⟩ : ∃ x, tm.getD 21 undef = x := ⟨_, rfl⟩
  obtain ⟨x22, hx22⟩ : ∃ x, tm.getD 22 undef = x := ⟨_, rfl⟩
  obtain ⟨x23, hx23⟩ : ∃ x, tm.getD 23 undef = x := ⟨_, rfl⟩
  have hx24 : tm.getD 24 undef = undef := hold 24 (by kernel_rfl)
  have hx25 : tm.getD 25 undef = undef := hold 25 (by kernel_rfl)
  have hx26 : tm.getD 26 undef = undef := hold 26 (by kernel_rfl)
  have hx27 : tm.getD 27 undef = undef := hold 27 (by kernel_rfl)
  have hx28 : tm.getD 28 undef = undef := hold 28 (by kernel_rfl)
  have hx29 : tm.getD 29 undef = undef := hold 29 (by kernel_rfl)
  have hx30 : tm.getD 30 undef = undef := hold 30 (by kernel_rfl)
  have hx31 : tm.getD 31 undef = undef := hold 31 (by kernel_rfl)
  have hx32 : tm.getD 32 undef = undef := hold 32 (by kernel_rfl)
  have hx33 : tm.getD 33 undef = undef := hold 33 (by kernel_rfl)
  have hx34 : tm.getD 34 undef = undef := hold 34 (by kernel_rfl)
  have hx35 : tm.getD 35 undef = undef := hold 35 (by kernel_rfl)
  have hx36 : tm.getD 36 undef = undef := hold 36 (by kernel_rfl)
  have hx37 : tm.getD 37 undef = undef := hold 37 (by kernel_rfl)
  have hx38 : tm.getD 38 undef = undef := hold 38 (by kernel_rfl)
  have hx39 : tm.getD 39 undef = undef := hold 39 (by kernel_rfl)
  have hx40 : tm.getD 40 undef = undef := hold 40 (by kernel_rfl)
  have hx41 : tm.getD 41 undef = undef := hold 41 (by kernel_rfl)
  have htm : tm = (va :: undef :: .int .i64 0 :: .int .i64 0 :: .int .i64 0 :: .pointer (some ⟨g, 0, none⟩) :: .int .i64 x6 :: va :: .pointer (some ⟨g, 0, none⟩) :: .pointer (some ⟨g, 0, none⟩) :: x10 :: x11 :: .pointer (some ⟨g, 0, none⟩) :: x13 :: x14 :: x15 :: x16 :: x17 :: .pointer (some ⟨g, 0, none⟩) :: x19 :: x20 :: x21 :: x22 :: x23 :: undef :: undef :: undef :: undef :: undef :: undef :: undef :: undef :: undef :: undef :: undef :: undef :: undef :: undef :: undef :: undef :: undef :: undef :: []).toArray := by
    refine (arr_eq tm hsz).trans ?_
    show (tm.getD 0 undef :: tm.getD 1 undef :: tm.getD 2 undef :: tm.getD 3 undef :: tm.getD 4 undef :: tm.getD 5 undef :: tm.getD 6 undef :: tm.getD 7 undef :: tm.getD 8 undef :: tm.getD 9 undef :: tm.getD 10 undef :: tm.getD 11 undef :: tm.getD 12 undef :: tm.getD 13 undef :: tm.getD 14 undef :: tm.getD 15 undef :: tm.getD 16 undef :: tm.getD 17 undef :: tm.getD 18 undef :: tm.getD 19 undef :: tm.getD 20 undef :: tm.getD 21 undef :: tm.getD 22 undef :: tm.getD 23 undef :: tm.getD 24 undef :: tm.getD 25 undef :: tm.getD 26 undef :: tm.getD 27 undef :: tm.getD 28 undef :: tm.getD 29 undef :: tm.getD 30 undef :: tm.getD 31 undef :: tm.getD 32 undef :: tm.getD 33 undef :: tm.getD 34 undef :: tm.getD 35 undef :: tm.getD 36 undef :: tm.getD 37 undef :: tm.getD 38 undef :: tm.getD 39 undef :: tm.getD 40 undef :: tm.getD 41 undef :: []).toArray = _
    rw [hx0, hx1, hx2, hx3, hx4, hx5, hx6, hx7, hx8, hx9, hx10, hx11, hx12, hx13, hx14, hx15, hx16, hx17, hx18, hx19, hx20, hx21, hx22, hx23, hx24, hx25, hx26, hx27, hx28, hx29, hx30, hx31, hx32, hx33, hx34, hx35, hx36, hx37, hx38, hx39, hx40, hx41]
  subst htm
  dsimp only
  clear hv hold hsz hx0 hx1 hx2 hx3 hx4 hx5 hx6 hx7 hx8 hx9 hx10 hx11 hx12 hx13 hx14 hx15 hx16 hx17 hx18 hx19 hx20 hx21 hx22 hx23 hx24 hx25 hx26 hx27 hx28 hx29 hx30 hx31 hx32 hx33 hx34 hx35 hx36 hx37 hx38 hx39 hx40 hx41
  go_wp2_with fail
  refine wp_region_draw [(0, va), (5, .pointer (some ⟨g, 0, none⟩)), (7, va), (8, .pointer (some ⟨g, 0, none⟩)), (9, .pointer (some ⟨g, 0, none⟩)), (10, x10), (11, x11), (12, .pointer (some ⟨g, 0, none⟩)), (13, x13), (14, x14), (15, x15), (16, x16), (17, x17), (18, .pointer (some ⟨g, 0, none⟩)), (19, x19), (20, x20), (21, x21), (22, x22), (23, x23), (6, .int .i64 x6)]
    [.any, .any, .val (.int .i64 x6), .int (-1) 12, .int 0 1000001, .any, .any, .any, .any, .any, .any, .any, .any, .any, .any, .any, .any, .any, .any, .any, .any, .any, .any, .any, .val (.int .i64 x6), .val (.pointer (some ⟨g, 0, none⟩)), .int 0 12, .val (.pointer (some ⟨g, 0, none⟩)), .int 0 8, .int 0 1, .int (-1) 12, .val (.pointer (some ⟨g, 0, none⟩)), .int 0 59, .int 1 60, .lit 4 0 1000001, .lit 7 0 3, .val (.pointer (some ⟨g, 0, none⟩)), .int 0 6, .adr 0 3, .int 0 3, .adr 0 1000001, .int 0 1000001]
    [[6], [5], [25], [5], [27], [28], [26, 29], [5], [31], [32], [33], [], [5], [36], [35, 37], [38], [34, 39], [40], [24], [30], [41]]
    21 (by kernel_rfl) (by kernel_rfl) (by kernel_rfl) (by kernel_rfl) (by simp only [List.forall_mem_cons]; exact ⟨rfl, rfl, rfl, rfl, rfl, rfl, rfl, rfl, rfl, rfl, rfl, rfl, rfl, rfl, rfl, rfl, rfl, rfl, rfl, rfl,  fun _ h => by cases h⟩) ⟨hs, by decide⟩ ?_ ?_
  · exact ⟨ok_move 24 rfl (.inl rfl) (opOK_tmp rfl rfl),
      ok_move 25 rfl (.inl rfl) (opOK_tmp rfl rfl),
      ok_pick 13 13 26 rfl rfl (opOK_tmp rfl rfl) opOK_int (by decide) rfl,
      ok_move 27 rfl (.inl rfl) (opOK_tmp rfl rfl),
      ok_pick 9 9 28 rfl rfl (opOK_tmp rfl rfl) opOK_int (by decide) rfl,
      ok_quoc 8 8 1 29 rfl rfl (opOK_tmp rfl rfl) rfl (by decide) (by decide),
      ok_sub 0 12 0 1 (-1) 12 30 rfl rfl (opOK_tmp rfl rfl) (opOK_tmp rfl rfl) rfl (by decide),
      ok_move 31 rfl (.inl rfl) (opOK_tmp rfl rfl),
      ok_pick 60 60 32 rfl rfl (opOK_tmp rfl rfl) opOK_int (by decide) rfl,
      ok_add 1 1 0 59 1 60 33 rfl rfl opOK_int (opOK_tmp rfl rfl) rfl (by decide),
      ok_build 4 0 1000001 [.tmp 33, .const (.int .i64 0), .const (.int .i64 1000000), .const (.int .i64 1000001)] 34 rfl rfl rfl rfl (by decide) (by simp only [List.forall_mem_cons]; exact ⟨(opOK_wide (lo := 1) (hi := 60) (opOK_tmp rfl rfl) (by decide) (by decide)), (opOK_wide (lo := 0) (hi := 0) opOK_int (by decide) (by decide)), (opOK_wide (lo := 1000000) (hi := 1000000) opOK_int (by decide) (by decide)), (opOK_wide (lo := 1000001) (hi := 1000001) opOK_int (by decide) (by decide)), fun _ h => by cases h⟩) rfl,
      ok_build 7 0 3 [.const (.int .i64 0), .const (.int .i64 0), .const (.int .i64 0), .const (.int .i64 0), .const (.int .i64 1), .const (.int .i64 2), .const (.int .i64 3)] 35 rfl rfl rfl rfl (by decide) (by simp only [List.forall_mem_cons]; exact ⟨(opOK_wide (lo := 0) (hi := 0) opOK_int (by decide) (by decide)), (opOK_wide (lo := 0) (hi := 0) opOK_int (by decide) (by decide)), (opOK_wide (lo := 0) (hi := 0) opOK_int (by decide) (by decide)), (opOK_wide (lo := 0) (hi := 0) opOK_int (by decide) (by decide)), (opOK_wide (lo := 1) (hi := 1) opOK_int (by decide) (by decide)), (opOK_wide (lo := 2) (hi := 2) opOK_int (by decide) (by decide)), (opOK_wide (lo := 3) (hi := 3) opOK_int (by decide) (by decide)), fun _ h => by cases h⟩) rfl,
      ok_move 36 rfl (.inl rfl) (opOK_tmp rfl rfl),
      ok_pick 7 7 37 rfl rfl (opOK_tmp rfl rfl) opOK_int (by decide) rfl,
      ok_index 7 0 3 0 6 38 rfl rfl (opOK_tmp rfl rfl) (opOK_tmp rfl rfl) rfl (by decide),
      ok_load 0 3 39 rfl rfl (opOK_tmp rfl rfl) rfl,
      ok_index 4 0 1000001 0 3 40 rfl rfl (opOK_tmp rfl rfl) (opOK_tmp rfl rfl) rfl (by decide),
      ok_load 0 1000001 41 rfl rfl (opOK_tmp rfl rfl) rfl,
      ok_move 2 rfl (.inr rfl) (opOK_tmp rfl rfl),
      ok_move 3 rfl (.inr rfl) (opOK_tmp rfl rfl),
      ok_move 4 rfl (.inr rfl) (opOK_tmp rfl rfl), trivial⟩
  rintro tm wq ⟨L, hv⟩ hold hsz hs
  have hx0 : tm.getD 0 undef = va := hold 0 (by kernel_rfl)
  have hx1 : tm.getD 1 undef = undef := hold 1 (by kernel_rfl)
  have hx2 : tm.getD 2 undef = .int .i64 x6 := hv 2 (show 2 < 42 by decide) (by kernel_rfl)
  obtain ⟨x3, hx3, x3_0, x3_1⟩ : ∃ n, tm.getD 3 undef = .int .i64 n ∧ (-1) ≤ n ∧ n ≤ 12 := hv 3 (show 3 < 42 by decide) (by kernel_rfl)
  obtain ⟨x4, hx4, x4_0, x4_1⟩ : ∃ n, tm.getD 4 undef = .int .i64 n ∧ 0 ≤ n ∧ n ≤ 1000001 := hv 4 (show 4 < 42 by decide) (by kernel_rfl)
  have hx5 : tm.getD 5 undef = .pointer (some ⟨g, 0, none⟩) := hold 5 (by kernel_rfl)
  have hx6 : tm.getD 6 undef = .int .i64 x6 := hold 6 (by kernel_rfl)
  have hx7 : tm.getD 7 undef = va := hold 7 (by kernel_rfl)
  have hx8 : tm.getD 8 undef = .pointer (some ⟨g, 0, none⟩) := hold 8 (by kernel_rfl)
  have hx9 : tm.getD 9 undef = .pointer (some ⟨g, 0, none⟩) := hold 9 (by kernel_rfl)
  have hx10 : tm.getD 10 undef = x10 := hold 10 (by kernel_rfl)
  have hx11 : tm.getD 11 undef = x11 := hold 11 (by kernel_rfl)
  have hx12 : tm.getD 12 undef = .pointer (some ⟨g, 0, none⟩) := hold 12 (by kernel_rfl)
  have hx13 : tm.getD 13 undef = x13 := hold 13 (by kernel_rfl)
  have hx14 : tm.getD 14 undef = x14 := hold 14 (by kernel_rfl)
  have hx15 : tm.getD 15 undef = x15 := hold 15 (by kernel_rfl)
  have hx16 : tm.getD 16 undef = x16 := hold 16 (by kernel_rfl)
  have hx17 : tm.getD 17 undef = x17 := hold 17 (by kernel_rfl)
  have hx18 : tm.getD 18 undef = .pointer (some ⟨g, 0, none⟩) := hold 18 (by kernel_rfl)
  have hx19 : tm.getD 19 undef = x19 := hold 19 (by kernel_rfl)
  have hx20 : tm.getD 20 undef = x20 := hold 20 (by kernel_rfl)
  have hx21 : tm.getD 21 undef = x21 := hold 21 (by kernel_rfl)
  have hx22 : tm.getD 22 undef = x22 := hold 22 (by kernel_rfl)
  have hx23 : tm.getD 23 undef = x23 := hold 23 (by kernel_rfl)
  have hx24 : tm.getD 24 undef = .int .i64 x6 := hv 24 (show 24 < 42 by decide) (by kernel_rfl)
  have hx25 : tm.getD 25 undef = .pointer (some ⟨g, 0, none⟩) := hv 25 (show 25 < 42 by decide) (by kernel_rfl)
  obtain ⟨x26, hx26⟩ : ∃ x, tm.getD 26 undef = x := ⟨_, rfl⟩
  have hx27 : tm.getD 27 undef = .pointer (some ⟨g, 0, none⟩) := hv 27 (show 27 < 42 by decide) (by kernel_rfl)
  obtain ⟨x28, hx28⟩ : ∃ x, tm.getD 28 undef = x := ⟨_, rfl⟩
  obtain ⟨x29, hx29⟩ : ∃ x, tm.getD 29 undef = x := ⟨_, rfl⟩
  obtain ⟨x30, hx30⟩ : ∃ x, tm.getD 30 undef = x := ⟨_, rfl⟩
  have hx31 : tm.getD 31 undef = .pointer (some ⟨g, 0, none⟩) := hv 31 (show 31 < 42 by decide) (by kernel_rfl)
  obtain ⟨x32, hx32⟩ : ∃ x, tm.getD 32 undef = x := ⟨_, rfl⟩
  obtain ⟨x33, hx33⟩ : ∃ x, tm.getD 33 undef = x := ⟨_, rfl⟩
  obtain ⟨x34, hx34⟩ : ∃ x, tm.getD 34 undef = x := ⟨_, rfl⟩
  obtain ⟨x35, hx35⟩ : ∃ x, tm.getD 35 undef = x := ⟨_, rfl⟩
  have hx36 : tm.getD 36 undef = .pointer (some ⟨g, 0, none⟩) := hv 36 (show 36 < 42 by decide) (by kernel_rfl)
  obtain ⟨x37, hx37⟩ : ∃ x, tm.getD 37 undef = x := ⟨_, rfl⟩
  obtain ⟨x38, hx38⟩ : ∃ x, tm.getD 38 undef = x := ⟨_, rfl⟩
  obtain ⟨x39, hx39⟩ : ∃ x, tm.getD 39 undef = x := ⟨_, rfl⟩
  obtain ⟨x40, hx40⟩ : ∃ x, tm.getD 40 undef = x := ⟨_, rfl⟩
  obtain ⟨x41, hx41⟩ : ∃ x, tm.getD 41 undef = x := ⟨_, rfl⟩
  have htm : tm = (va :: undef :: .int .i64 x6 :: .int .i64 x3 :: .int .i64 x4 :: .pointer (some ⟨g, 0, none⟩) :: .int .i64 x6 :: va :: .pointer (some ⟨g, 0, none⟩) :: .pointer (some ⟨g, 0, none⟩) :: x10 :: x11 :: .pointer (some ⟨g, 0, none⟩) :: x13 :: x14 :: x15 :: x16 :: x17 :: .pointer (some ⟨g, 0, none⟩) :: x19 :: x20 :: x21 :: x22 :: x23 :: .int .i64 x6 :: .pointer (some ⟨g, 0, none⟩) :: x26 :: .pointer (some ⟨g, 0, none⟩) :: x28 :: x29 :: x30 :: .pointer (some ⟨g, 0, none⟩) :: x32 :: x33 :: x34 :: x35 :: .pointer (some ⟨g, 0, none⟩) :: x37 :: x38 :: x39 :: x40 :: x41 :: []).toArray := by
    refine (arr_eq tm hsz).trans ?_
    show (tm.getD 0 undef :: tm.getD 1 undef :: tm.getD 2 undef :: tm.getD 3 undef :: tm.getD 4 undef :: tm.getD 5 undef :: tm.getD 6 undef :: tm.getD 7 undef :: tm.getD 8 undef :: tm.getD 9 undef :: tm.getD 10 undef :: tm.getD 11 undef :: tm.getD 12 undef :: tm.getD 13 undef :: tm.getD 14 undef :: tm.getD 15 undef :: tm.getD 16 undef :: tm.getD 17 undef :: tm.getD 18 undef :: tm.getD 19 undef :: tm.getD 20 undef :: tm.getD 21 undef :: tm.getD 22 undef :: tm.getD 23 undef :: tm.getD 24 undef :: tm.getD 25 undef :: tm.getD 26 undef :: tm.getD 27 undef :: tm.getD 28 undef :: tm.getD 29 undef :: tm.getD 30 undef :: tm.getD 31 undef :: tm.getD 32 undef :: tm.getD 33 undef :: tm.getD 34 undef :: tm.getD 35 undef :: tm.getD 36 undef :: tm.getD 37 undef :: tm.getD 38 undef :: tm.getD 39 undef :: tm.getD 40 undef :: tm.getD 41 undef :: []).toArray = _
    rw [hx0, hx1, hx2, hx3, hx4, hx5, hx6, hx7, hx8, hx9, hx10, hx11, hx12, hx13, hx14, hx15, hx16, hx17, hx18, hx19, hx20, hx21, hx22, hx23, hx24, hx25, hx26, hx27, hx28, hx29, hx30, hx31, hx32, hx33, hx34, hx35, hx36, hx37, hx38, hx39, hx40, hx41]
  subst htm
  dsimp only
  clear hv hold hsz hx0 hx1 hx2 hx3 hx4 hx5 hx6 hx7 hx8 hx9 hx10 hx11 hx12 hx13 hx14 hx15 hx16 hx17 hx18 hx19 hx20 hx21 hx22 hx23 hx24 hx25 hx26 hx27 hx28 hx29 hx30 hx31 hx32 hx33 hx34 hx35 hx36 hx37 hx38 hx39 hx40 hx41
  go_wp2
  go_ret3
  exact ⟨x6, x3, x4, rfl, ⟨by omega, by omega⟩, ⟨by omega, by omega⟩, ⟨by omega, by omega⟩, hs.drop0⟩

end Go.Proofs.Ytfllfbmdnokmnaa
