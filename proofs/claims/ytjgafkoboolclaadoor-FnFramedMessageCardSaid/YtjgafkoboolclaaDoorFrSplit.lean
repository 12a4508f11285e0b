import Derived.Test.YtjgafkoboolclaaDoorProg
import Derived.Test.YtjgafkoboolclaaDoorLib
import Derived.Test.YtjgafkoboolclaaDoorMem
import Derived.Test.YtjgafkoboolclaaDoorSym
import Derived.Test.YtjgafkoboolclaaDoorDraw
import Derived.Test.YtjgafkoboolclaaDoorInts
import Derived.Test.YtjgafkoboolclaaDoorBytes
import Derived.Test.YtjgafkoboolclaaDoorApp
import Derived.Test.YtjgafkoboolclaaDoorBlk
import Derived.Test.YtjgafkoboolclaaDoorFrag
import Derived.Test.YtjgafkoboolclaaDoorSplit
import Derived.Test.YtjgafkoboolclaaDoorIdx
import Derived.Test.YtjgafkoboolclaaDoorJoin
import Derived.Test.YtjgafkoboolclaaDoorMiss
import Derived.Test.YtjgafkoboolclaaDoorSplitEx
import Derived.Test.YtjgafkoboolclaaDoorJoinEx
import Derived.Test.YtjgafkoboolclaaDoorDrawFrag
import Derived.Test.YtjgafkoboolclaaDoorJoinLaw
namespace Go.Proofs.YtjgafkoboolclaaDoor
open Go.RowKit

theorem wf_bytes {xs : List Int} (h : ∀ n ∈ xs, 0 ≤ n ∧ n ≤ 255) : ∀ n ∈ xs, (Lit.int .u8 n).wf = true := fun n hn => by
  have := h n hn
  simp only [Lit.wf, IntKind.min, IntKind.max, IntKind.signed, IntKind.bits, Bool.and_eq_true, decide_eq_true_eq]
  simp
  omega
theorem wf_zeros (k : Nat) : ∀ n ∈ List.replicate k (0 : Int), (Lit.int .u8 n).wf = true := fun n hn => by
  rw [(List.mem_replicate.1 hn).2]; decide

set_option maxRecDepth 100000 in
set_option maxHeartbeats 4000000 in
theorem drawSplit_s (va : Value) (cs : List Int) (w : World) {row : Option Nat} {w0 : World} {I : List Part} (hs : SH row w0 w (rdP .u8 va cs :: I)) (hb : ∀ n ∈ cs, (Lit.int .u8 n).wf = true) :
    Calls Tryd.prog 21 #[va] w (fun e w' => ∃ (v : Value) (m s : Int) (d : List Int), e = .returned (.tuple #[v, .int .i64 m, .int .i64 s]) ∧ d.length ≤ 600 ∧ (∀ n ∈ d, (Lit.int .u8 n).wf = true) ∧ (-20 ≤ m ∧ m ≤ 20) ∧ (0 ≤ s ∧ s ≤ 101) ∧ SH row w0 w' (ownP .u8 5 v d :: rdP .u8 va cs :: I)) := by
  have HB := Lib.hid hb
  clear hb
  go_enter Tryd.func21, Tryd.ntmps21
  go_wp2_with fail
  refine (open_s va cs _ (by first | exact hs | exact (hs).allocP1 _ _ | exact ((hs).allocP1 _ _).allocP1 _ _ | exact (((hs).allocP1 _ _).allocP1 _ _).allocP1 _ _ | exact ((((hs).allocP1 _ _).allocP1 _ _).allocP1 _ _).allocP1 _ _ | exact (hs).drew | exact ((hs).allocP1 _ _).drew | exact (((hs).allocP1 _ _).allocP1 _ _).drew | exact ((((hs).allocP1 _ _).allocP1 _ _).allocP1 _ _).drew | exact (((((hs).allocP1 _ _).allocP1 _ _).allocP1 _ _).allocP1 _ _).drew | exact (hs).drewN _ | exact ((hs).allocP1 _ _).drewN _ | exact (((hs).allocP1 _ _).allocP1 _ _).drewN _ | exact ((((hs).allocP1 _ _).allocP1 _ _).allocP1 _ _).drewN _ | exact (((((hs).allocP1 _ _).allocP1 _ _).allocP1 _ _).allocP1 _ _).drewN _) HB.out).mono ?_
  rintro e w1 ⟨g, sv, bs, rfl, hs⟩
  go_wp2_with fail
  refine (l20Bytes_s g _ 30 _ (by first | exact hs | exact (hs).allocP1 _ _ | exact ((hs).allocP1 _ _).allocP1 _ _ | exact (((hs).allocP1 _ _).allocP1 _ _).allocP1 _ _ | exact ((((hs).allocP1 _ _).allocP1 _ _).allocP1 _ _).allocP1 _ _ | exact (hs).drew | exact ((hs).allocP1 _ _).drew | exact (((hs).allocP1 _ _).allocP1 _ _).drew | exact ((((hs).allocP1 _ _).allocP1 _ _).allocP1 _ _).drew | exact (((((hs).allocP1 _ _).allocP1 _ _).allocP1 _ _).allocP1 _ _).drew | exact (hs).drewN _ | exact ((hs).allocP1 _ _).drewN _ | exact (((hs).allocP1 _ _).allocP1 _ _).drewN _ | exact ((((hs).allocP1 _ _).allocP1 _ _).allocP1 _ _).drewN _ | exact (((((hs).allocP1 _ _).allocP1 _ _).allocP1 _ _).allocP1 _ _).drewN _) (by omega) (by decide)).mono ?_
  rintro e w2 ⟨v1, rfl, xs, hxl, hxw, hs⟩
  have hs := hs.bring1
  go_wp2_with fail
  refine (odd_s g _ 12 _ (by first | exact ⟨hs, by omega⟩ | exact ⟨(hs).allocP1 _ _, by omega⟩ | exact ⟨((hs).allocP1 _ _).allocP1 _ _, by omega⟩ | exact ⟨(((hs).allocP1 _ _).allocP1 _ _).allocP1 _ _, by omega⟩ | exact ⟨((((hs).allocP1 _ _).allocP1 _ _).allocP1 _ _).allocP1 _ _, by omega⟩ | exact ⟨(hs).drew, by omega⟩ | exact ⟨((hs).allocP1 _ _).drew, by omega⟩ | exact ⟨(((hs).allocP1 _ _).allocP1 _ _).drew, by omega⟩ | exact ⟨((((hs).allocP1 _ _).allocP1 _ _).allocP1 _ _).drew, by omega⟩ | exact ⟨(((((hs).allocP1 _ _).allocP1 _ _).allocP1 _ _).allocP1 _ _).drew, by omega⟩ | exact ⟨(hs).drewN _, by omega⟩ | exact ⟨((hs).allocP1 _ _).drewN _, by omega⟩ | exact ⟨(((hs).allocP1 _ _).allocP1 _ _).drewN _, by omega⟩ | exact ⟨((((hs).allocP1 _ _).allocP1 _ _).allocP1 _ _).drewN _, by omega⟩ | exact ⟨(((((hs).allocP1 _ _).allocP1 _ _).allocP1 _ _).allocP1 _ _).drewN _, by omega⟩) (by decide)).mono ?_
  rintro e w3 ⟨o12, rfl, -, hs⟩
  cases o12
  · go_wp2_with fail
    refine wp_region_draw [(0, va), (5, .pointer (some ⟨g, 0, none⟩)), (6, v1), (7, va), (8, .pointer (some ⟨g, 0, none⟩)), (9, .pointer (some ⟨g, 0, none⟩)), (10, v1), (11, .pointer (some ⟨g, 0, none⟩)), (12, .bool false)]
      [.any, .any, .val (v1), .int (-5) 4, .int 0 101, .any, .any, .any, .any, .any, .any, .any, .any, .any, .any, .any, .any, .val (v1), .val (.pointer (some ⟨g, 0, none⟩)), .int 0 4, .val (.pointer (some ⟨g, 0, none⟩)), .int 0 8, .int 0 1, .int 0 5, .int (-5) 4, .val (.pointer (some ⟨g, 0, none⟩)), .int 0 11, .int 1 12, .lit 4 0 101, .lit 7 0 3, .val (.pointer (some ⟨g, 0, none⟩)), .int 0 6, .adr 0 3, .int 0 3, .adr 0 101, .int 0 101]
      [[6], [5], [18], [5], [20], [21], [22], [19, 23], [5], [25], [26], [27], [], [5], [30], [29, 31], [32], [28, 33], [34], [17], [24], [35]]
      22 (by kernel_rfl) (by kernel_rfl) (by kernel_rfl) (by kernel_rfl) (by simp only [List.forall_mem_cons]; exact ⟨rfl, rfl, rfl, rfl, rfl, rfl, rfl, rfl, rfl,  fun _ h => by cases h⟩) ⟨hs, by omega⟩ ?_ ?_
    · exact ⟨ok_move 17 rfl (.inl rfl) (opOK_tmp rfl rfl),
        ok_move 18 rfl (.inl rfl) (opOK_tmp rfl rfl),
        ok_pick 5 5 19 rfl rfl (opOK_tmp rfl rfl) opOK_int (by decide) rfl,
        ok_move 20 rfl (.inl rfl) (opOK_tmp rfl rfl),
        ok_pick 9 9 21 rfl rfl (opOK_tmp rfl rfl) opOK_int (by decide) rfl,
        ok_quoc 8 8 1 22 rfl rfl (opOK_tmp rfl rfl) rfl (by decide) (by decide),
        ok_mulc 0 1 5 0 5 23 rfl rfl (opOK_tmp rfl rfl) rfl (by decide) (by decide),
        ok_sub 0 4 0 5 (-5) 4 24 rfl rfl (opOK_tmp rfl rfl) (opOK_tmp rfl rfl) rfl (by decide),
        ok_move 25 rfl (.inl rfl) (opOK_tmp rfl rfl),
        ok_pick 12 12 26 rfl rfl (opOK_tmp rfl rfl) opOK_int (by decide) rfl,
        ok_add 1 1 0 11 1 12 27 rfl rfl opOK_int (opOK_tmp rfl rfl) rfl (by decide),
        ok_build 4 0 101 [.tmp 27, .const (.int .i64 0), .const (.int .i64 101), .const (.int .i64 100)] 28 rfl rfl rfl rfl (by decide) (by simp only [List.forall_mem_cons]; exact ⟨(opOK_wide (lo := 1) (hi := 12) (opOK_tmp rfl rfl) (by decide) (by decide)), (opOK_wide (lo := 0) (hi := 0) opOK_int (by decide) (by decide)), (opOK_wide (lo := 101) (hi := 101) opOK_int (by decide) (by decide)), (opOK_wide (lo := 100) (hi := 100) opOK_int (by decide) (by decide)), fun _ h => by cases h⟩) rfl,
        ok_build 7 0 3 [.const (.int .i64 0), .const (.int .i64 0), .const (.int .i64 0), .const (.int .i64 0), .const (.int .i64 1), .const (.int .i64 2), .const (.int .i64 3)] 29 rfl rfl rfl rfl (by decide) (by simp only [List.forall_mem_cons]; exact ⟨(opOK_wide (lo := 0) (hi := 0) opOK_int (by decide) (by decide)), (opOK_wide (lo := 0) (hi := 0) opOK_int (by decide) (by decide)), (opOK_wide (lo := 0) (hi := 0) opOK_int (by decide) (by decide)), (opOK_wide (lo := 0) (hi := 0) opOK_int (by decide) (by decide)), (opOK_wide (lo := 1) (hi := 1) opOK_int (by decide) (by decide)), (opOK_wide (lo := 2) (hi := 2) opOK_int (by decide) (by decide)), (opOK_wide (lo := 3) (hi := 3) opOK_int (by decide) (by decide)), fun _ h => by cases h⟩) rfl,
        ok_move 30 rfl (.inl rfl) (opOK_tmp rfl rfl),
        ok_pick 7 7 31 rfl rfl (opOK_tmp rfl rfl) opOK_int (by decide) rfl,
        ok_index 7 0 3 0 6 32 rfl rfl (opOK_tmp rfl rfl) (opOK_tmp rfl rfl) rfl (by decide),
        ok_load 0 3 33 rfl rfl (opOK_tmp rfl rfl) rfl,
        ok_index 4 0 101 0 3 34 rfl rfl (opOK_tmp rfl rfl) (opOK_tmp rfl rfl) rfl (by decide),
        ok_load 0 101 35 rfl rfl (opOK_tmp rfl rfl) rfl,
        ok_move 2 rfl (.inr rfl) (opOK_tmp rfl rfl),
        ok_move 3 rfl (.inr rfl) (opOK_tmp rfl rfl),
        ok_move 4 rfl (.inr rfl) (opOK_tmp rfl rfl), trivial⟩
    rintro tm wq ⟨L, hv⟩ hold hsz hs
    have hx0 : tm.getD 0 undef = va := hold 0 (by kernel_rfl)
    have hx1 : tm.getD 1 undef = undef := hold 1 (by kernel_rfl)
    have hx2 : tm.getD 2 undef = v1 := hv 2 (show 2 < 36 by decide) (by kernel_rfl)
    obtain ⟨x3, hx3, x3_0, x3_1⟩ : ∃ n, tm.getD 3 undef = .int .i64 n ∧ (-5) ≤ n ∧ n ≤ 4 := hv 3 (show 3 < 36 by decide) (by kernel_rfl)
    obtain ⟨x4, hx4, x4_0, x4_1⟩ : ∃ n, tm.getD 4 undef = .int .i64 n ∧ 0 ≤ n ∧ n ≤ 101 := hv 4 (show 4 < 36 by decide) (by kernel_rfl)
    have hx5 : tm.getD 5 undef = .pointer (some ⟨g, 0, none⟩) := hold 5 (by kernel_rfl)
    have hx6 : tm.getD 6 undef = v1 := hold 6 (by kernel_rfl)
    have hx7 : tm.getD 7 undef = va := hold 7 (by kernel_rfl)
    have hx8 : tm.getD 8 undef = .pointer (some ⟨g, 0, none⟩) := hold 8 (by kernel_rfl)
    have hx9 : tm.getD 9 undef = .pointer (some ⟨g, 0, none⟩) := hold 9 (by kernel_rfl)
    have hx10 : tm.getD 10 undef = v1 := hold 10 (by kernel_rfl)
    have hx11 : tm.getD 11 undef = .pointer (some ⟨g, 0, none⟩) := hold 11 (by kernel_rfl)
    have hx12 : tm.getD 12 undef = .bool false := hold 12 (by kernel_rfl)
    have hx13 : tm.getD 13 undef = undef := hold 13 (by kernel_rfl)
    have hx14 : tm.getD 14 undef = undef := hold 14 (by kernel_rfl)
    have hx15 : tm.getD 15 undef = undef := hold 15 (by kernel_rfl)
    have hx16 : tm.getD 16 undef = undef := hold 16 (by kernel_rfl)
    have hx17 : tm.getD 17 undef = v1 := hv 17 (show 17 < 36 by decide) (by kernel_rfl)
    have hx18 : tm.getD 18 undef = .pointer (some ⟨g, 0, none⟩) := hv 18 (show 18 < 36 by decide) (by kernel_rfl)
    obtain ⟨x19, hx19⟩ : ∃ x, tm.getD 19 undef = x := ⟨_, rfl⟩
    have hx20 : tm.getD 20 undef = .pointer (some ⟨g, 0, none⟩) := hv 20 (show 20 < 36 by decide) (by kernel_rfl)
    obtain ⟨x21, hx21⟩ : ∃ x, tm.getD 21 undef = x := ⟨_, rfl⟩
    obtain ⟨x22, hx22⟩ : ∃ x, tm.getD 22 undef = x := ⟨_, rfl⟩
    obtain ⟨x23, hx23⟩ : ∃ x, tm.getD 23 undef = x := ⟨_, rfl⟩
    obtain ⟨x24, hx24⟩ : ∃ x, tm.getD 24 undef = x := ⟨_, rfl⟩
    have hx25 : tm.getD 25 undef = .pointer (some ⟨g, 0, none⟩) := hv 25 (show 25 < 36 by decide) (by kernel_rfl)
    obtain ⟨x26, hx26⟩ : ∃ x, tm.getD 26 undef = x := ⟨_, rfl⟩
    obtain ⟨x27, hx27⟩ : ∃ x, tm.getD 27 undef = x := ⟨_, rfl⟩
    obtain ⟨x28, hx28⟩ : ∃ x, tm.getD 28 undef = x := ⟨_, rfl⟩
    obtain ⟨x29, hx29⟩ : ∃ x, tm.getD 29 undef = x := ⟨_, rfl⟩
    have hx30 : tm.getD 30 undef = .pointer (some ⟨g, 0, none⟩) := hv 30 (show 30 < 36 by decide) (by kernel_rfl)
    obtain ⟨x31, hx31⟩ : ∃ x, tm.getD 31 undef = x := ⟨_, rfl⟩
    obtain ⟨x32, hx32⟩ : ∃ x, tm.getD 32 undef = x := ⟨_, rfl⟩
    obtain ⟨x33, hx33⟩ : ∃ x, tm.getD 33 undef = x := ⟨_, rfl⟩
    obtain ⟨x34, hx34⟩ : ∃ x, tm.getD 34 undef = x := ⟨_, rfl⟩
    obtain ⟨x35, hx35⟩ : ∃ x, tm.getD 35 undef = x := ⟨_, rfl⟩
    have htm : tm = (va :: undef :: v1 :: .int .i64 x3 :: .int .i64 x4 :: .pointer (some ⟨g, 0, none⟩) :: v1 :: va :: .pointer (some ⟨g, 0, none⟩) :: .pointer (some ⟨g, 0, none⟩) :: v1 :: .pointer (some ⟨g, 0, none⟩) :: .bool false :: undef :: undef :: undef :: undef :: v1 :: .pointer (some ⟨g, 0, none⟩) :: x19 :: .pointer (some ⟨g, 0, none⟩) :: x21 :: x22 :: x23 :: x24 :: .pointer (some ⟨g, 0, none⟩) :: x26 :: x27 :: x28 :: x29 :: .pointer (some ⟨g, 0, none⟩) :: x31 :: x32 :: x33 :: x34 :: x35 :: []).toArray := by
      refine (arr_eq tm hsz).trans ?_
      show (tm.getD 0 undef :: tm.getD 1 undef :: tm.getD 2 undef :: tm.getD 3 undef :: tm.getD 4 undef :: tm.getD 5 undef :: tm.getD 6 undef :: tm.getD 7 undef :: tm.getD 8 undef :: tm.getD 9 undef :: tm.getD 10 undef :: tm.getD 11 undef :: tm.getD 12 undef :: tm.getD 13 undef :: tm.getD 14 undef :: tm.getD 15 undef :: tm.getD 16 undef :: tm.getD 17 undef :: tm.getD 18 undef :: tm.getD 19 undef :: tm.getD 20 undef :: tm.getD 21 undef :: tm.getD 22 undef :: tm.getD 23 undef :: tm.getD 24 undef :: tm.getD 25 undef :: tm.getD 26 undef :: tm.getD 27 undef :: tm.getD 28 undef :: tm.getD 29 undef :: tm.getD 30 undef :: tm.getD 31 undef :: tm.getD 32 undef :: tm.getD 33 undef :: tm.getD 34 undef :: tm.getD 35 undef :: []).toArray = _
      rw [hx0, hx1, hx2, hx3, hx4, hx5, hx6, hx7, hx8, hx9, hx10, hx11, hx12, hx13, hx14, hx15, hx16, hx17, hx18, hx19, hx20, hx21, hx22, hx23, hx24, hx25, hx26, hx27, hx28, hx29, hx30, hx31, hx32, hx33, hx34, hx35]
    subst htm
    dsimp only
    clear hv hold hsz hx0 hx1 hx2 hx3 hx4 hx5 hx6 hx7 hx8 hx9 hx10 hx11 hx12 hx13 hx14 hx15 hx16 hx17 hx18 hx19 hx20 hx21 hx22 hx23 hx24 hx25 hx26 hx27 hx28 hx29 hx30 hx31 hx32 hx33 hx34 hx35
    go_wp2
    go_ret3
    exact ⟨_, x3, x4, xs, rfl, by omega, wf_bytes hxw, ⟨by omega, by omega⟩, ⟨by omega, by omega⟩, hs.drop0⟩
  · go_wp2_with fail
    refine (pick_s g _ 2 _ (by first | exact ⟨hs, by omega⟩ | exact ⟨(hs).allocP1 _ _, by omega⟩ | exact ⟨((hs).allocP1 _ _).allocP1 _ _, by omega⟩ | exact ⟨(((hs).allocP1 _ _).allocP1 _ _).allocP1 _ _, by omega⟩ | exact ⟨((((hs).allocP1 _ _).allocP1 _ _).allocP1 _ _).allocP1 _ _, by omega⟩ | exact ⟨(hs).drew, by omega⟩ | exact ⟨((hs).allocP1 _ _).drew, by omega⟩ | exact ⟨(((hs).allocP1 _ _).allocP1 _ _).drew, by omega⟩ | exact ⟨((((hs).allocP1 _ _).allocP1 _ _).allocP1 _ _).drew, by omega⟩ | exact ⟨(((((hs).allocP1 _ _).allocP1 _ _).allocP1 _ _).allocP1 _ _).drew, by omega⟩ | exact ⟨(hs).drewN _, by omega⟩ | exact ⟨((hs).allocP1 _ _).drewN _, by omega⟩ | exact ⟨(((hs).allocP1 _ _).allocP1 _ _).drewN _, by omega⟩ | exact ⟨((((hs).allocP1 _ _).allocP1 _ _).allocP1 _ _).drewN _, by omega⟩ | exact ⟨(((((hs).allocP1 _ _).allocP1 _ _).allocP1 _ _).allocP1 _ _).drewN _, by omega⟩) (by decide)).mono ?_
    rintro e w4 ⟨z, rfl, z_0, z_a, -, hs⟩
    have z_1 := z_a (by decide)
    clear z_a
    obtain ⟨Lz, hL, hL2⟩ : ∃ Lz : Nat, 500 + z = (Lz : Int) ∧ Lz ≤ 501 := ⟨(500 + z).toNat, by omega, by omega⟩
    go_wp2_with (at_make; refine wp_makeK rfl rfl .u8 _ 5 1 Tryd.underlying27 info_byte Lz rfl rfl (by first | exact hL | rfl) (by first | exact hL | rfl) (by omega) (by unfold maxLen; omega) (Nat.le_refl _) ?_; intro wz hown hg hsz)
    have hs := (hs.drop1.pushOwn (below_of_grown hg) hown).bring1
    clear hown hg hsz
    generalize hvz : Value.slice _ Lz Lz = vz at *
    go_wp2_with fail
    refine wp_region_draw [(0, va), (5, .pointer (some ⟨g, 0, none⟩)), (6, vz), (7, va), (8, .pointer (some ⟨g, 0, none⟩)), (9, .pointer (some ⟨g, 0, none⟩)), (10, v1), (11, .pointer (some ⟨g, 0, none⟩)), (12, .bool true), (13, .pointer (some ⟨g, 0, none⟩)), (14, .int .i64 z), (15, .int .i64 (Lz : Int)), (16, vz)]
      [.any, .any, .val (vz), .int (-5) 4, .int 0 101, .any, .any, .any, .any, .any, .any, .any, .any, .any, .any, .any, .any, .val (vz), .val (.pointer (some ⟨g, 0, none⟩)), .int 0 4, .val (.pointer (some ⟨g, 0, none⟩)), .int 0 8, .int 0 1, .int 0 5, .int (-5) 4, .val (.pointer (some ⟨g, 0, none⟩)), .int 0 11, .int 1 12, .lit 4 0 101, .lit 7 0 3, .val (.pointer (some ⟨g, 0, none⟩)), .int 0 6, .adr 0 3, .int 0 3, .adr 0 101, .int 0 101]
      [[6], [5], [18], [5], [20], [21], [22], [19, 23], [5], [25], [26], [27], [], [5], [30], [29, 31], [32], [28, 33], [34], [17], [24], [35]]
      22 (by kernel_rfl) (by kernel_rfl) (by kernel_rfl) (by kernel_rfl) (by simp only [List.forall_mem_cons]; exact ⟨rfl, rfl, rfl, rfl, rfl, rfl, rfl, rfl, rfl, rfl, rfl, rfl, rfl,  fun _ h => by cases h⟩) ⟨hs, by omega⟩ ?_ ?_
    · exact ⟨ok_move 17 rfl (.inl rfl) (opOK_tmp rfl rfl),
        ok_move 18 rfl (.inl rfl) (opOK_tmp rfl rfl),
        ok_pick 5 5 19 rfl rfl (opOK_tmp rfl rfl) opOK_int (by decide) rfl,
        ok_move 20 rfl (.inl rfl) (opOK_tmp rfl rfl),
        ok_pick 9 9 21 rfl rfl (opOK_tmp rfl rfl) opOK_int (by decide) rfl,
        ok_quoc 8 8 1 22 rfl rfl (opOK_tmp rfl rfl) rfl (by decide) (by decide),
        ok_mulc 0 1 5 0 5 23 rfl rfl (opOK_tmp rfl rfl) rfl (by decide) (by decide),
        ok_sub 0 4 0 5 (-5) 4 24 rfl rfl (opOK_tmp rfl rfl) (opOK_tmp rfl rfl) rfl (by decide),
        ok_move 25 rfl (.inl rfl) (opOK_tmp rfl rfl),
        ok_pick 12 12 26 rfl rfl (opOK_tmp rfl rfl) opOK_int (by decide) rfl,
        ok_add 1 1 0 11 1 12 27 rfl rfl opOK_int (opOK_tmp rfl rfl) rfl (by decide),
        ok_build 4 0 101 [.tmp 27, .const (.int .i64 0), .const (.int .i64 101), .const (.int .i64 100)] 28 rfl rfl rfl rfl (by decide) (by simp only [List.forall_mem_cons]; exact ⟨(opOK_wide (lo := 1) (hi := 12) (opOK_tmp rfl rfl) (by decide) (by decide)), (opOK_wide (lo := 0) (hi := 0) opOK_int (by decide) (by decide)), (opOK_wide (lo := 101) (hi := 101) opOK_int (by decide) (by decide)), (opOK_wide (lo := 100) (hi := 100) opOK_int (by decide) (by decide)), fun _ h => by cases h⟩) rfl,
        ok_build 7 0 3 [.const (.int .i64 0), .const (.int .i64 0), .const (.int .i64 0), .const (.int .i64 0), .const (.int .i64 1), .const (.int .i64 2), .const (.int .i64 3)] 29 rfl rfl rfl rfl (by decide) (by simp only [List.forall_mem_cons]; exact ⟨(opOK_wide (lo := 0) (hi := 0) opOK_int (by decide) (by decide)), (opOK_wide (lo := 0) (hi := 0) opOK_int (by decide) (by decide)), (opOK_wide (lo := 0) (hi := 0) opOK_int (by decide) (by decide)), (opOK_wide (lo := 0) (hi := 0) opOK_int (by decide) (by decide)), (opOK_wide (lo := 1) (hi := 1) opOK_int (by decide) (by decide)), (opOK_wide (lo := 2) (hi := 2) opOK_int (by decide) (by decide)), (opOK_wide (lo := 3) (hi := 3) opOK_int (by decide) (by decide)), fun _ h => by cases h⟩) rfl,
        ok_move 30 rfl (.inl rfl) (opOK_tmp rfl rfl),
        ok_pick 7 7 31 rfl rfl (opOK_tmp rfl rfl) opOK_int (by decide) rfl,
        ok_index 7 0 3 0 6 32 rfl rfl (opOK_tmp rfl rfl) (opOK_tmp rfl rfl) rfl (by decide),
        ok_load 0 3 33 rfl rfl (opOK_tmp rfl rfl) rfl,
        ok_index 4 0 101 0 3 34 rfl rfl (opOK_tmp rfl rfl) (opOK_tmp rfl rfl) rfl (by decide),
        ok_load 0 101 35 rfl rfl (opOK_tmp rfl rfl) rfl,
        ok_move 2 rfl (.inr rfl) (opOK_tmp rfl rfl),
        ok_move 3 rfl (.inr rfl) (opOK_tmp rfl rfl),
        ok_move 4 rfl (.inr rfl) (opOK_tmp rfl rfl), trivial⟩
    rintro tm wq ⟨L, hv⟩ hold hsz hs
    have hx0 : tm.getD 0 undef = va := hold 0 (by kernel_rfl)
    have hx1 : tm.getD 1 undef = undef := hold 1 (by kernel_rfl)
    have hx2 : tm.getD 2 undef = vz := hv 2 (show 2 < 36 by decide) (by kernel_rfl)
    obtain ⟨x3, hx3, x3_0, x3_1⟩ : ∃ n, tm.getD 3 undef = .int .i64 n ∧ (-5) ≤ n ∧ n ≤ 4 := hv 3 (show 3 < 36 by decide) (by kernel_rfl)
    obtain ⟨x4, hx4, x4_0, x4_1⟩ : ∃ n, tm.getD 4 undef = .int .i64 n ∧ 0 ≤ n ∧ n ≤ 101 := hv 4 (show 4 < 36 by decide) (by kernel_rfl)
    have hx5 : tm.getD 5 undef = .pointer (some ⟨g, 0, none⟩) := hold 5 (by kernel_rfl)
    have hx6 : tm.getD 6 undef = vz := hold 6 (by kernel_rfl)
    have hx7 : tm.getD 7 undef = va := hold 7 (by kernel_rfl)
    have hx8 : tm.getD 8 undef = .pointer (some ⟨g, 0, none⟩) := hold 8 (by kernel_rfl)
    have hx9 : tm.getD 9 undef = .pointer (some ⟨g, 0, none⟩) := hold 9 (by kernel_rfl)
    have hx10 : tm.getD 10 undef = v1 := hold 10 (by kernel_rfl)
    have hx11 : tm.getD 11 undef = .pointer (some ⟨g, 0, none⟩) := hold 11 (by kernel_rfl)
    have hx12 : tm.getD 12 undef = .bool true := hold 12 (by kernel_rfl)
    have hx13 : tm.getD 13 undef = .pointer (some ⟨g, 0, none⟩) := hold 13 (by kernel_rfl)
    have hx14 : tm.getD 14 undef = .int .i64 z := hold 14 (by kernel_rfl)
    have hx15 : tm.getD 15 undef = .int .i64 (Lz : Int) := hold 15 (by kernel_rfl)
    have hx16 : tm.getD 16 undef = vz := hold 16 (by kernel_rfl)
    have hx17 : tm.getD 17 undef = vz := hv 17 (show 17 < 36 by decide) (by kernel_rfl)
    have hx18 : tm.getD 18 undef = .pointer (some ⟨g, 0, none⟩) := hv 18 (show 18 < 36 by decide) (by kernel_rfl)
    obtain ⟨x19, hx19⟩ : ∃ x, tm.getD 19 undef = x := ⟨_, rfl⟩
    have hx20 : tm.getD 20 undef = .pointer (some ⟨g, 0, none⟩) := hv 20 (show 20 < 36 by decide) (by kernel_rfl)
    obtain ⟨x21, hx21⟩ : ∃ x, tm.getD 21 undef = x := ⟨_, rfl⟩
    obtain ⟨x22, hx22⟩ : ∃ x, tm.getD 22 undef = x := ⟨_, rfl⟩
    obtain ⟨x23, hx23⟩ : ∃ x, tm.getD 23 undef = x := ⟨_, rfl⟩
    obtain ⟨x24, hx24⟩ : ∃ x, tm.getD 24 undef = x := ⟨_, rfl⟩
    have hx25 : tm.getD 25 undef = .pointer (some ⟨g, 0, none⟩) := hv 25 (show 25 < 36 by decide) (by kernel_rfl)
    obtain ⟨x26, hx26⟩ : ∃ x, tm.getD 26 undef = x := ⟨_, rfl⟩
    obtain ⟨x27, hx27⟩ : ∃ x, tm.getD 27 undef = x := ⟨_, rfl⟩
    obtain ⟨x28, hx28⟩ : ∃ x, tm.getD 28 undef = x := ⟨_, rfl⟩
    obtain ⟨x29, hx29⟩ : ∃ x, tm.getD 29 undef = x := ⟨_, rfl⟩
    have hx30 : tm.getD 30 undef = .pointer (some ⟨g, 0, none⟩) := hv 30 (show 30 < 36 by decide) (by kernel_rfl)
    obtain ⟨x31, hx31⟩ : ∃ x, tm.getD 31 undef = x := ⟨_, rfl⟩
    obtain ⟨x32, hx32⟩ : ∃ x, tm.getD 32 undef = x := ⟨_, rfl⟩
    obtain ⟨x33, hx33⟩ : ∃ x, tm.getD 33 undef = x := ⟨_, rfl⟩
    obtain ⟨x34, hx34⟩ : ∃ x, tm.getD 34 undef = x := ⟨_, rfl⟩
    obtain ⟨x35, hx35⟩ : ∃ x, tm.getD 35 undef = x := ⟨_, rfl⟩
    have htm : tm = (va :: undef :: vz :: .int .i64 x3 :: .int .i64 x4 :: .pointer (some ⟨g, 0, none⟩) :: vz :: va :: .pointer (some ⟨g, 0, none⟩) :: .pointer (some ⟨g, 0, none⟩) :: v1 :: .pointer (some ⟨g, 0, none⟩) :: .bool true :: .pointer (some ⟨g, 0, none⟩) :: .int .i64 z :: .int .i64 (Lz : Int) :: vz :: vz :: .pointer (some ⟨g, 0, none⟩) :: x19 :: .pointer (some ⟨g, 0, none⟩) :: x21 :: x22 :: x23 :: x24 :: .pointer (some ⟨g, 0, none⟩) :: x26 :: x27 :: x28 :: x29 :: .pointer (some ⟨g, 0, none⟩) :: x31 :: x32 :: x33 :: x34 :: x35 :: []).toArray := by
      refine (arr_eq tm hsz).trans ?_
      show (tm.getD 0 undef :: tm.getD 1 undef :: tm.getD 2 undef :: tm.getD 3 undef :: tm.getD 4 undef :: tm.getD 5 undef :: tm.getD 6 undef :: tm.getD 7 undef :: tm.getD 8 undef :: tm.getD 9 undef :: tm.getD 10 undef :: tm.getD 11 undef :: tm.getD 12 undef :: tm.getD 13 undef :: tm.getD 14 undef :: tm.getD 15 undef :: tm.getD 16 undef :: tm.getD 17 undef :: tm.getD 18 undef :: tm.getD 19 undef :: tm.getD 20 undef :: tm.getD 21 undef :: tm.getD 22 undef :: tm.getD 23 undef :: tm.getD 24 undef :: tm.getD 25 undef :: tm.getD 26 undef :: tm.getD 27 undef :: tm.getD 28 undef :: tm.getD 29 undef :: tm.getD 30 undef :: tm.getD 31 undef :: tm.getD 32 undef :: tm.getD 33 undef :: tm.getD 34 undef :: tm.getD 35 undef :: []).toArray = _
      rw [hx0, hx1, hx2, hx3, hx4, hx5, hx6, hx7, hx8, hx9, hx10, hx11, hx12, hx13, hx14, hx15, hx16, hx17, hx18, hx19, hx20, hx21, hx22, hx23, hx24, hx25, hx26, hx27, hx28, hx29, hx30, hx31, hx32, hx33, hx34, hx35]
    subst htm
    dsimp only
    clear hv hold hsz hx0 hx1 hx2 hx3 hx4 hx5 hx6 hx7 hx8 hx9 hx10 hx11 hx12 hx13 hx14 hx15 hx16 hx17 hx18 hx19 hx20 hx21 hx22 hx23 hx24 hx25 hx26 hx27 hx28 hx29 hx30 hx31 hx32 hx33 hx34 hx35
    go_wp2
    go_ret3
    exact ⟨_, x3, x4, _, rfl, by simp; omega, wf_zeros _, ⟨by omega, by omega⟩, ⟨by omega, by omega⟩, hs.drop0⟩

/-! The plain law. -/
theorem parts_p {d : List Int} {m : Int} {z n k : Nat} (h : k < n) : (fr (partsF d m z n) k).m = m ∧ (fr (partsF d m z n) k).p = (k : Int) := by rw [fr_parts h]; exact ⟨rfl, rfl⟩
theorem part_l {d : List Int} {m : Int} {z k : Nat} (hz : 1 ≤ z) (h : k < numF d z) : (partF d m z k).l = ((k : Int) == (numF d z : Int) - 1) := by
  have h1 := numF_lt (d := d) (k := k + 1) hz
  rw [Bool.eq_iff_iff]
  simp only [partF, decide_eq_true_eq, beq_iff_eq]
  omega
theorem part_d {d : List Int} {m : Int} {z k : Nat} (hz : 1 ≤ z) (h : k < numF d z) : 1 ≤ (partF d m z k).d.length ∧ (partF d m z k).d.length ≤ z ∧ (k + 1 < numF d z → (partF d m z k).d.length = z) := by
  have h1 := (numF_lt (d := d) (k := k) hz).1 h
  have h2 := numF_lt (d := d) (k := k + 1) hz
  simp only [partF, List.length_take, List.length_drop]
  rw [Nat.add_mul, Nat.one_mul] at h2 ⊢
  refine ⟨by omega, by omega, fun h3 => ?_⟩
  have := h2.1 h3
  omega
theorem look_parts {d : List Int} {m : Int} {z n k : Nat} (h : k < n) : look (partsF d m z n) m (k : Int) n = some k := by
  cases hl : look (partsF d m z n) m (k : Int) n with
  | none => exact absurd (parts_p h) (look_none hl k h)
  | some i =>
    obtain ⟨h1, h2, h3⟩ := look_some hl
    rw [(parts_p h1).2] at h3
    congr 1; omega
theorem join_from {d : List Int} {m : Int} {z : Nat} (hz : 1 ≤ z) (hn : numF d z ≤ 50) : ∀ t k, k + t = numF d z → 0 < t → joinK (partsF d m z (numF d z)) m (50 - k) k (d.take (k * z)) = (d, true)
  | 0, _, _, h => absurd h (Nat.lt_irrefl _)
  | t + 1, k, he, _ => by
    have hk : k < numF d z := by omega
    rw [show 50 - k = (50 - (k + 1)) + 1 by omega]
    unfold joinK
    rw [length_parts, look_parts hk]
    simp only [fr_parts hk]
    have hlt := (numF_lt (d := d) (k := k) hz).1 hk
    have h2 := numF_lt (d := d) (k := k + 1) hz
    by_cases h3 : k + 1 < numF d z
    · have h4 := h2.1 h3
      have hl : ¬ (partF d m z k).l = true := by simp only [partF, decide_eq_true_eq]; omega
      rw [if_neg hl]
      have hd : d.take (k * z) ++ (partF d m z k).d = d.take ((k + 1) * z) := by
        simp only [partF]
        rw [show min ((k + 1) * z) d.length - k * z = z by rw [Nat.add_mul, Nat.one_mul] at h4 ⊢; omega, Nat.add_mul, Nat.one_mul, List.take_add]
      rw [hd]
      exact join_from hz hn t (k + 1) (by omega) (by omega)
    · have hl : (partF d m z k).l = true := by
        simp only [partF, decide_eq_true_eq]
        rcases Nat.lt_or_ge ((k + 1) * z) d.length with h | h
        · exact absurd (h2.2 h) h3
        · exact h
      rw [if_pos hl]
      simp only [partF, decide_eq_true_eq] at hl
      have hd : d.take (k * z) ++ (partF d m z k).d = d := by
        simp only [partF]
        have e : (d.drop (k * z)).take (d.length - k * z) = d.drop (k * z) := List.take_of_length_le (by rw [List.length_drop]; exact Nat.le_refl _)
        rw [Nat.min_eq_right hl, e, List.take_append_drop]
      rw [hd]
theorem find_rev {P : Frag → Bool} {l : List Frag} (h : ∀ a ∈ l, ∀ b ∈ l, P a = true → P b = true → a = b) : l.reverse.find? P = l.find? P := by
  cases h1 : l.find? P with
  | none =>
    rw [List.find?_eq_none] at h1 ⊢
    intro x hx
    exact h1 x (List.mem_reverse.1 hx)
  | some x =>
    have hx := List.mem_of_find?_eq_some h1
    have hp := List.find?_some h1
    cases h2 : l.reverse.find? P with
    | none =>
      rw [List.find?_eq_none] at h2
      exact absurd hp (h2 x (List.mem_reverse.2 hx))
    | some y =>
      have hy := List.mem_reverse.1 (List.mem_of_find?_eq_some h2)
      rw [h y hy x hx (List.find?_some h2) hp]
theorem join_rev {d : List Int} {m : Int} {z n : Nat} : joinF (partsF d m z n).reverse m = joinF (partsF d m z n) m :=
  joinF_same fun p => find_rev fun a ha b hb h1 h2 => by
    obtain ⟨i, hi, rfl⟩ := List.getElem_of_mem ha
    obtain ⟨j, hj, rfl⟩ := List.getElem_of_mem hb
    rw [length_parts] at hi hj
    simp only [partsF, List.getElem_map, List.getElem_range, isP, partF, decide_eq_true_eq] at h1 h2 ⊢
    obtain rfl : i = j := by omega
    rfl
theorem miss_parts {d : List Int} {m : Int} {z n : Nat} : missF (partsF d m z n) m = [] := by
  have hk : ∀ k, k < n → hasP (partsF d m z n) m k = true := fun k hk => hasP_of (i := k) (by rw [length_parts]; exact hk) (parts_p hk).1 (parts_p hk).2
  have hm : ∀ N, N ≤ n → missK (partsF d m z n) m N = [] := by
    intro N
    induction N with
    | zero => intro _; rfl
    | succ N ih => intro h; unfold missK; rw [if_pos (hk N (by omega))]; exact ih (by omega)
  unfold missF
  refine hm _ ?_
  rcases lastT_of (fs := partsF d m z n) (m := m) (n := 50) with h | ⟨k, h1, h2, h3⟩
  · omega
  · obtain ⟨i, hi, -, h5⟩ := hasP_ex h3
    rw [length_parts] at hi
    rw [(parts_p hi).2] at h5
    omega
structure SplitFacts (d : List Int) (m s : Int) (fs : List Frag) : Prop where
  n50 : fs.length ≤ 50
  each : ∀ k, k < fs.length → (fr fs k).m = m ∧ (fr fs k).p = (k : Int) ∧ (fr fs k).l = ((k : Int) == (fs.length : Int) - 1) ∧ 1 ≤ (fr fs k).d.length ∧ ((fr fs k).d.length : Int) ≤ s ∧ (k + 1 < fs.length → ((fr fs k).d.length : Int) = s)
  joinS : 0 < fs.length → joinF fs m = (d, true)
  back : 0 < fs.length → joinF fs.reverse m = (d, true)
  miss : missF fs m = []
theorem split_facts (d : List Int) (m s : Int) : SplitFacts d m s (splitF d m s) := by
  by_cases h : splitOk d m s
  · obtain ⟨h1, h2, h3, h4, h5, h6⟩ := id h
    obtain ⟨z, rfl⟩ : ∃ z : Nat, s = (z : Int) := ⟨s.toNat, by omega⟩
    have e : splitF d m z = partsF d m z (numF d z) := by unfold splitF; rw [if_pos h, Int.toNat_natCast]
    rw [e]
    have hz : 1 ≤ z := by omega
    have hn : numF d z ≤ 50 := by
      rcases Nat.lt_or_ge 50 (numF d z) with h | h
      · have := (numF_lt (d := d) (k := 50) hz).1 h
        omega
      · exact h
    have hj : 0 < numF d z → joinF (partsF d m z (numF d z)) m = (d, true) := fun hp => by
      have := join_from (m := m) hz hn (numF d z) 0 (by omega) hp
      simpa [joinF] using this
    refine ⟨by rw [length_parts]; exact hn, fun k hk => ?_, fun hp => ?_, fun hp => ?_, miss_parts⟩
    · rw [length_parts] at hk ⊢
      obtain ⟨g1, g2, g3⟩ := part_d (m := m) hz hk
      rw [fr_parts hk]
      exact ⟨rfl, rfl, part_l hz hk, g1, by omega, fun h => by have := g3 h; omega⟩
    · rw [length_parts] at hp; exact hj hp
    · rw [length_parts] at hp; rw [join_rev]; exact hj hp
  · rw [splitNo h]
    exact ⟨by simp, fun k hk => absurd hk (Nat.not_lt_zero _), fun h => absurd h (Nat.lt_irrefl _), fun h => absurd h (Nat.lt_irrefl _), by
      have : ∀ N, lastT [] m N = 0 := by
        intro N
        induction N with
        | zero => rfl
        | succ N ih => unfold lastT; rw [if_neg (by simp [hasP, lookB, look])]; exact ih
      unfold missF; rw [this]; rfl⟩
theorem SH.litF {row : Option Nat} {w0 w : World} {I : List Part} (h : SH row w0 w I) (t : TypeId) (f : Frag) (v : Value) : SH row w0 (w.alloc (.cells #[.int .i64 f.m, .int .i64 f.p, .bool f.l, v] t)) (ownMP 4 t (.slice (some ⟨w.heap.size, 0, none⟩) 1 1) 1 (fun _ => rowF f v) :: I) :=
  h.pushOwnM ((Below.refl _ _).alloc (Nat.le_refl _) _) (by
    have := World.ownsRow_lit (base := w.heap.size) (e := t) (size := 4) w #[.int .i64 f.m, .int .i64 f.p, .bool f.l, v] 1 (Nat.le_refl _) (by simp [maxLen]) (by simp)
    exact this)
theorem cons_congr {f : Frag} {v : Value} {os : List Frag} {ws : Nat → Value} (i j : Nat) : catC 1 (fun _ => rowF f v) (frC os ws) i j = frC (f :: os) (catV (fun _ => v) ws 1) i j := by
  have h := frC_cat (fs := [f]) (gs := os) (vs := fun _ => v) (ws := ws) i j
  simp only [List.length_singleton] at h
  rw [show f :: os = [f] ++ os from rfl, ← h]
  unfold catC
  by_cases hi : i < 1
  · rw [if_pos hi, if_pos hi]
    obtain rfl : i = 0 := by omega
    rfl
  · rw [if_neg hi, if_neg hi]
theorem frag_eq {f : Frag} {m p : Int} {l : Bool} (h0 : f.m = m) (h1 : f.p = p) (h2 : f.l = l) : (⟨m, p, l, f.d⟩ : Frag) = f := by subst h0 h1 h2; rfl
theorem take_rev {fs : List Frag} {k : Nat} (h : k < fs.length) : (fs.take (k + 1)).reverse = fr fs k :: (fs.take k).reverse := by
  rw [List.take_add_one, fr_get h, List.reverse_append]; rfl
end Go.Proofs.YtjgafkoboolclaaDoor
