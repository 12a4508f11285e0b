import Derived.Test.YtoilofcpijgaiaaProg
import Derived.Test.YtoilofcpijgaiaaSym
import Derived.Test.YtoilofcpijgaiaaDraw
import Derived.Test.YtoilofcpijgaiaaInts
import Derived.Test.YtoilofcpijgaiaaPair
import Derived.Test.YtoilofcpijgaiaaBand
import Derived.Test.YtoilofcpijgaiaaDrawBand
import Derived.Test.YtoilofcpijgaiaaFreeLaw
namespace Go.Proofs.Ytoilofcpijgaiaa
open Go.RowKit

set_option maxRecDepth 100000 in
set_option maxHeartbeats 4000000 in
theorem DrawFreeBands_s (va : Value) (cs : List Int) (w : World) {row : Option Nat} {w0 : World} {I : List Part} (hs : SH row w0 w (rdP .u8 va cs :: I)) (hb : ∀ n ∈ cs, (Lit.int .u8 n).wf = true) :
    Calls Try.prog 41 #[va] w (fun e w' => ∃ (v : Value) (xs : List Int) (th wd : Int), e = .returned (.tuple #[v, .int .i64 th, .int .i64 wd]) ∧ (0 ≤ th ∧ th ≤ 10) ∧ (0 ≤ wd ∧ wd ≤ 65) ∧ xs.length ≤ 65 ∧ SH row w0 w' (ownP .i64 3 v xs :: rdP .u8 va cs :: I)) := by
  have HB := Lib.hid hb
  clear hb
  go_enter Try.func41, Try.ntmps41
  go_wp2_with fail
  refine (open_s va cs _ (by first | exact hs | exact (hs).allocP1 _ _ | exact ((hs).allocP1 _ _).allocP1 _ _ | exact (((hs).allocP1 _ _).allocP1 _ _).allocP1 _ _ | exact ((((hs).allocP1 _ _).allocP1 _ _).allocP1 _ _).allocP1 _ _ | exact (hs).drew | exact ((hs).allocP1 _ _).drew | exact (((hs).allocP1 _ _).allocP1 _ _).drew | exact ((((hs).allocP1 _ _).allocP1 _ _).allocP1 _ _).drew | exact (((((hs).allocP1 _ _).allocP1 _ _).allocP1 _ _).allocP1 _ _).drew | exact (hs).drewN _ | exact ((hs).allocP1 _ _).drewN _ | exact (((hs).allocP1 _ _).allocP1 _ _).drewN _ | exact ((((hs).allocP1 _ _).allocP1 _ _).allocP1 _ _).drewN _ | exact (((((hs).allocP1 _ _).allocP1 _ _).allocP1 _ _).allocP1 _ _).drewN _) HB.out).mono ?_
  rintro e w1 ⟨g, sv, bs, rfl, hs⟩
  go_wp2_with fail
  refine (pick_s g _ 30 _ ⟨(hs.ownEmpty .i64 3).bring1, by omega⟩ (by decide)).mono ?_
  rintro e w2 ⟨c0, rfl, c0_0, c0_a, -, hs⟩
  have c0_1 := c0_a (by decide)
  clear c0_a
  go_wp2_with fail
  go_loopw [6, 7] (fun o i wr => ∃ (q : Int) (xs : List Int), 0 ≤ q ∧ i = .int .i64 q ∧ (xs.length : Int) + q ≤ 29 ∧ SH row w0 wr (rdrP g (1 + xs.length) sv bs :: ownP .i64 3 o xs :: rdP .u8 va cs :: I)) (fun _ i _ => (intOf i).toNat)
  case atStart => exact ⟨c0, [], c0_0, rfl, by simp; omega, rdrP_mono hs (by decide)⟩
  case round =>
    obtain ⟨q, xs, q0, rfl, hlen, hs⟩ := hrel
    obtain ⟨ao, co, rfl, -⟩ := (OwnK.rd hs.p1).form
    by_cases hq : 0 < q
    · go_wp2_with fail
      refine (pick_s g _ 10 _ (by first | exact ⟨hs, by omega⟩ | exact ⟨(hs).allocP1 _ _, by omega⟩ | exact ⟨((hs).allocP1 _ _).allocP1 _ _, by omega⟩ | exact ⟨(((hs).allocP1 _ _).allocP1 _ _).allocP1 _ _, by omega⟩ | exact ⟨((((hs).allocP1 _ _).allocP1 _ _).allocP1 _ _).allocP1 _ _, by omega⟩ | exact ⟨(hs).drew, by omega⟩ | exact ⟨((hs).allocP1 _ _).drew, by omega⟩ | exact ⟨(((hs).allocP1 _ _).allocP1 _ _).drew, by omega⟩ | exact ⟨((((hs).allocP1 _ _).allocP1 _ _).allocP1 _ _).drew, by omega⟩ | exact ⟨(((((hs).allocP1 _ _).allocP1 _ _).allocP1 _ _).allocP1 _ _).drew, by omega⟩ | exact ⟨(hs).drewN _, by omega⟩ | exact ⟨((hs).allocP1 _ _).drewN _, by omega⟩ | exact ⟨(((hs).allocP1 _ _).allocP1 _ _).drewN _, by omega⟩ | exact ⟨((((hs).allocP1 _ _).allocP1 _ _).allocP1 _ _).drewN _, by omega⟩ | exact ⟨(((((hs).allocP1 _ _).allocP1 _ _).allocP1 _ _).allocP1 _ _).drewN _, by omega⟩) (by decide)).mono ?_
      rintro e w3 ⟨x, rfl, x_0, x_a, -, hs⟩
      have x_1 := x_a (by decide)
      clear x_a
      go_wp2_with (at_builtin; refine wp_app1S rfl rfl .i64 3 8 Try.underlying23 info_int x rfl (hs.bring1.alloc _) rfl (World.cell?_alloc_at _ _ _ _ rfl) (by omega) (by unfold maxLen; omega) ?_; intro v9 w9 hs)
      go_wp2
      go_roundw
      case rel => exact ⟨q - 1, _, by omega, by go_num, by simp; omega, rdrP_mono hs.bring1 (by simp; omega)⟩
      case measure => simp [intOf]; omega
    go_wp2_with fail
    refine (odd_s g _ 14 _ (by first | exact ⟨hs, by omega⟩ | exact ⟨(hs).allocP1 _ _, by omega⟩ | exact ⟨((hs).allocP1 _ _).allocP1 _ _, by omega⟩ | exact ⟨(((hs).allocP1 _ _).allocP1 _ _).allocP1 _ _, by omega⟩ | exact ⟨((((hs).allocP1 _ _).allocP1 _ _).allocP1 _ _).allocP1 _ _, by omega⟩ | exact ⟨(hs).drew, by omega⟩ | exact ⟨((hs).allocP1 _ _).drew, by omega⟩ | exact ⟨(((hs).allocP1 _ _).allocP1 _ _).drew, by omega⟩ | exact ⟨((((hs).allocP1 _ _).allocP1 _ _).allocP1 _ _).drew, by omega⟩ | exact ⟨(((((hs).allocP1 _ _).allocP1 _ _).allocP1 _ _).allocP1 _ _).drew, by omega⟩ | exact ⟨(hs).drewN _, by omega⟩ | exact ⟨((hs).allocP1 _ _).drewN _, by omega⟩ | exact ⟨(((hs).allocP1 _ _).allocP1 _ _).drewN _, by omega⟩ | exact ⟨((((hs).allocP1 _ _).allocP1 _ _).allocP1 _ _).drewN _, by omega⟩ | exact ⟨(((((hs).allocP1 _ _).allocP1 _ _).allocP1 _ _).allocP1 _ _).drewN _, by omega⟩) (by omega)).mono ?_
    rintro e w3 ⟨od, rfl, -, hs⟩
    cases od
    · go_wp2
      refine wp_region_draw [(0, va), (5, Value.pointer (some { block := g, off := 0 })), (6, Value.slice ao xs.length co), (7, Value.int IntKind.i64 q), (8, va), (9, Value.pointer (some { block := g, off := 0 })), (10, Value.slice (some { block := w1.heap.size, off := 0 }) 0 0), (11, Value.pointer (some { block := g, off := 0 })), (12, Value.int IntKind.i64 c0), (13, Value.int IntKind.i64 q), (14, Value.bool false), (15, u15), (16, u16), (17, u17), (18, u18), (19, u19), (20, u20), (21, u21), (22, Value.pointer (some { block := g, off := 0 })), (23, Value.bool false)]
        [.any, .any, .val (Value.slice ao xs.length co), .int 0 10, .int 0 65, .any, .any, .any, .any, .any, .any, .any, .any, .any, .any, .any, .any, .any, .any, .any, .any, .any, .any, .any, .any, .any, .any, .any, .val (Value.slice ao xs.length co), .val (Value.pointer (some { block := g, off := 0 })), .int 0 10, .val (Value.pointer (some { block := g, off := 0 })), .int 0 3, .int 1 4, .lit 4 0 65, .lit 7 0 3, .val (Value.pointer (some { block := g, off := 0 })), .int 0 6, .adr 0 3, .int 0 3, .adr 0 65, .int 0 65]
        [[6], [5], [29], [5], [31], [32], [33], [], [5], [36], [35, 37], [38], [34, 39], [40], [28], [30], [41]]
        17 (by kernel_rfl) (by kernel_rfl) (by kernel_rfl) (by kernel_rfl) (by simp only [List.forall_mem_cons]; exact ⟨rfl, rfl, rfl, rfl, rfl, rfl, rfl, rfl, rfl, rfl, rfl, rfl, rfl, rfl, rfl, rfl, rfl, rfl, rfl, rfl,  fun _ h => by cases h⟩) ⟨hs, by omega⟩ ?_ ?_
      · exact ⟨ok_move 28 rfl (.inl rfl) (opOK_tmp rfl rfl),
          ok_move 29 rfl (.inl rfl) (opOK_tmp rfl rfl),
          ok_pick 11 11 30 rfl rfl (opOK_tmp rfl rfl) opOK_int (by decide) rfl,
          ok_move 31 rfl (.inl rfl) (opOK_tmp rfl rfl),
          ok_pick 4 4 32 rfl rfl (opOK_tmp rfl rfl) opOK_int (by decide) rfl,
          ok_add 1 1 0 3 1 4 33 rfl rfl opOK_int (opOK_tmp rfl rfl) rfl (by decide),
          ok_build 4 0 65 [.tmp 33, .const (.int .i64 0), .const (.int .i64 65), .const (.int .i64 64)] 34 rfl rfl rfl rfl (by decide) (by simp only [List.forall_mem_cons]; exact ⟨(opOK_wide (lo := 1) (hi := 4) (opOK_tmp rfl rfl) (by decide) (by decide)), (opOK_wide (lo := 0) (hi := 0) opOK_int (by decide) (by decide)), (opOK_wide (lo := 65) (hi := 65) opOK_int (by decide) (by decide)), (opOK_wide (lo := 64) (hi := 64) opOK_int (by decide) (by decide)), fun _ h => by cases h⟩) rfl,
          ok_build 7 0 3 [.const (.int .i64 0), .const (.int .i64 0), .const (.int .i64 0), .const (.int .i64 0), .const (.int .i64 1), .const (.int .i64 2), .const (.int .i64 3)] 35 rfl rfl rfl rfl (by decide) (by simp only [List.forall_mem_cons]; exact ⟨(opOK_wide (lo := 0) (hi := 0) opOK_int (by decide) (by decide)), (opOK_wide (lo := 0) (hi := 0) opOK_int (by decide) (by decide)), (opOK_wide (lo := 0) (hi := 0) opOK_int (by decide) (by decide)), (opOK_wide (lo := 0) (hi := 0) opOK_int (by decide) (by decide)), (opOK_wide (lo := 1) (hi := 1) opOK_int (by decide) (by decide)), (opOK_wide (lo := 2) (hi := 2) opOK_int (by decide) (by decide)), (opOK_wide (lo := 3) (hi := 3) opOK_int (by decide) (by decide)), fun _ h => by cases h⟩) rfl,
          ok_move 36 rfl (.inl rfl) (opOK_tmp rfl rfl),
          ok_pick 7 7 37 rfl rfl (opOK_tmp rfl rfl) opOK_int (by decide) rfl,
          ok_index 7 0 3 0 6 38 rfl rfl (opOK_tmp rfl rfl) (opOK_tmp rfl rfl) rfl (by decide),
          ok_load 0 3 39 rfl rfl (opOK_tmp rfl rfl) rfl,
          ok_index 4 0 65 0 3 40 rfl rfl (opOK_tmp rfl rfl) (opOK_tmp rfl rfl) rfl (by decide),
          ok_load 0 65 41 rfl rfl (opOK_tmp rfl rfl) rfl,
          ok_move 2 rfl (.inr rfl) (opOK_tmp rfl rfl),
          ok_move 3 rfl (.inr rfl) (opOK_tmp rfl rfl),
          ok_move 4 rfl (.inr rfl) (opOK_tmp rfl rfl), trivial⟩
      rintro tm wq ⟨L, hv⟩ hold hsz hs
      have hx0 : tm.getD 0 undef = va := hold 0 (by kernel_rfl)
      have hx1 : tm.getD 1 undef = undef := hold 1 (by kernel_rfl)
      have hx2 : tm.getD 2 undef = Value.slice ao xs.length co := hv 2 (show 2 < 42 by decide) (by kernel_rfl)
      obtain ⟨x3, hx3, x3_0, x3_1⟩ : ∃ n, tm.getD 3 undef = .int .i64 n ∧ 0 ≤ n ∧ n ≤ 10 := hv 3 (show 3 < 42 by decide) (by kernel_rfl)
      obtain ⟨x4, hx4, x4_0, x4_1⟩ : ∃ n, tm.getD 4 undef = .int .i64 n ∧ 0 ≤ n ∧ n ≤ 65 := hv 4 (show 4 < 42 by decide) (by kernel_rfl)
      have hx5 : tm.getD 5 undef = Value.pointer (some { block := g, off := 0 }) := hold 5 (by kernel_rfl)
      have hx6 : tm.getD 6 undef = Value.slice ao xs.length co := hold 6 (by kernel_rfl)
      have hx7 : tm.getD 7 undef = Value.int IntKind.i64 q := hold 7 (by kernel_rfl)
      have hx8 : tm.getD 8 undef = va := hold 8 (by kernel_rfl)
      have hx9 : tm.getD 9 undef = Value.pointer (some { block := g, off := 0 }) := hold 9 (by kernel_rfl)
      have hx10 : tm.getD 10 undef = Value.slice (some { block := w1.heap.size, off := 0 }) 0 0 := hold 10 (by kernel_rfl)
      have hx11 : tm.getD 11 undef = Value.pointer (some { block := g, off := 0 }) := hold 11 (by kernel_rfl)
      have hx12 : tm.getD 12 undef = Value.int IntKind.i64 c0 := hold 12 (by kernel_rfl)
      have hx13 : tm.getD 13 undef = Value.int IntKind.i64 q := hold 13 (by kernel_rfl)
      have hx14 : tm.getD 14 undef = Value.bool false := hold 14 (by kernel_rfl)
      have hx15 : tm.getD 15 undef = u15 := hold 15 (by kernel_rfl)
      have hx16 : tm.getD 16 undef = u16 := hold 16 (by kernel_rfl)
      have hx17 : tm.getD 17 undef = u17 := hold 17 (by kernel_rfl)
      have hx18 : tm.getD 18 undef = u18 := hold 18 (by kernel_rfl)
      have hx19 : tm.getD 19 undef = u19 := hold 19 (by kernel_rfl)
      have hx20 : tm.getD 20 undef = u20 := hold 20 (by kernel_rfl)
      have hx21 : tm.getD 21 undef = u21 := hold 21 (by kernel_rfl)
      have hx22 : tm.getD 22 undef = Value.pointer (some { block := g, off := 0 }) := hold 22 (by kernel_rfl)
      have hx23 : tm.getD 23 undef = Value.bool false := hold 23 (by kernel_rfl)
      have hx24 : tm.getD 24 undef = undef := hold 24 (by kernel_rfl)
      have hx25 : tm.getD 25 undef = undef := hold 25 (by kernel_rfl)
      have hx26 : tm.getD 26 undef = undef := hold 26 (by kernel_rfl)
      have hx27 : tm.getD 27 undef = undef := hold 27 (by kernel_rfl)
      have hx28 : tm.getD 28 undef = Value.slice ao xs.length co := hv 28 (show 28 < 42 by decide) (by kernel_rfl)
      have hx29 : tm.getD 29 undef = Value.pointer (some { block := g, off := 0 }) := hv 29 (show 29 < 42 by decide) (by kernel_rfl)
      obtain ⟨x30, hx30⟩ : ∃ x, tm.getD 30 undef = x := ⟨_, rfl⟩
      have hx31 : tm.getD 31 undef = Value.pointer (some { block := g, off := 0 }) := hv 31 (show 31 < 42 by decide) (by kernel_rfl)
      obtain ⟨x32, hx32⟩ : ∃ x, tm.getD 32 undef = x := ⟨_, rfl⟩
      obtain ⟨x33, hx33⟩ : ∃ x, tm.getD 33 undef = x := ⟨_, rfl⟩
      obtain ⟨x34, hx34⟩ : ∃ x, tm.getD 34 undef = x := ⟨_, rfl⟩
      obtain ⟨x35, hx35⟩ : ∃ x, tm.getD 35 undef = x := ⟨_, rfl⟩
      have hx36 : tm.getD 36 undef = Value.pointer (some { block := g, off := 0 }) := hv 36 (show 36 < 42 by decide) (by kernel_rfl)
      obtain ⟨x37, hx37⟩ : ∃ x, tm.getD 37 undef = x := ⟨_, rfl⟩
      obtain ⟨x38, hx38⟩ : ∃ x, tm.getD 38 undef = x := ⟨_, rfl⟩
      obtain ⟨x39, hx39⟩ : ∃ x, tm.getD 39 undef = x := ⟨_, rfl⟩
      obtain ⟨x40, hx40⟩ : ∃ x, tm.getD 40 undef = x := ⟨_, rfl⟩
      obtain ⟨x41, hx41⟩ : ∃ x, tm.getD 41 undef = x := ⟨_, rfl⟩
      have htm : tm = (va :: undef :: Value.slice ao xs.length co :: .int .i64 x3 :: .int .i64 x4 :: Value.pointer (some { block := g, off := 0 }) :: Value.slice ao xs.length co :: Value.int IntKind.i64 q :: va :: Value.pointer (some { block := g, off := 0 }) :: Value.slice (some { block := w1.heap.size, off := 0 }) 0 0 :: Value.pointer (some { block := g, off := 0 }) :: Value.int IntKind.i64 c0 :: Value.int IntKind.i64 q :: Value.bool false :: u15 :: u16 :: u17 :: u18 :: u19 :: u20 :: u21 :: Value.pointer (some { block := g, off := 0 }) :: Value.bool false :: undef :: undef :: undef :: undef :: Value.slice ao xs.length co :: Value.pointer (some { block := g, off := 0 }) :: x30 :: Value.pointer (some { block := g, off := 0 }) :: x32 :: x33 :: x34 :: x35 :: Value.pointer (some { block := g, off := 0 }) :: x37 :: x38 :: x39 :: x40 :: x41 :: []).toArray := by
        refine (arr_eq tm hsz).trans ?_
        show (tm.getD 0 undef :: tm.getD 1 undef :: tm.getD 2 undef :: tm.getD 3 undef :: tm.getD 4 undef :: tm.getD 5 undef :: tm.getD 6 undef :: tm.getD 7 undef :: tm.getD 8 undef :: tm.getD 9 undef :: tm.getD 10 undef :: tm.getD 11 undef :: tm.getD 12 undef :: tm.getD 13 undef :: tm.getD 14 undef :: tm.getD 15 undef :: tm.getD 16 undef :: tm.getD 17 undef :: tm.getD 18 undef :: tm.getD 19 undef :: tm.getD 20 undef :: tm.getD 21 undef :: tm.getD 22 undef :: tm.getD 23 undef :: tm.getD 24 undef :: tm.getD 25 undef :: tm.getD 26 undef :: tm.getD 27 undef :: tm.getD 28 undef :: tm.getD 29 undef :: tm.getD 30 undef :: tm.getD 31 undef :: tm.getD 32 undef :: tm.getD 33 undef :: tm.getD 34 undef :: tm.getD 35 undef :: tm.getD 36 undef :: tm.getD 37 undef :: tm.getD 38 undef :: tm.getD 39 undef :: tm.getD 40 undef :: tm.getD 41 undef :: []).toArray = _
        rw [hx0, hx1, hx2, hx3, hx4, hx5, hx6, hx7, hx8, hx9, hx10, hx11, hx12, hx13, hx14, hx15, hx16, hx17, hx18, hx19, hx20, hx21, hx22, hx23, hx24, hx25, hx26, hx27, hx28, hx29, hx30, hx31, hx32, hx33, hx34, hx35, hx36, hx37, hx38, hx39, hx40, hx41]
      subst htm
      dsimp only
      clear hv hold hsz hx0 hx1 hx2 hx3 hx4 hx5 hx6 hx7 hx8 hx9 hx10 hx11 hx12 hx13 hx14 hx15 hx16 hx17 hx18 hx19 hx20 hx21 hx22 hx23 hx24 hx25 hx26 hx27 hx28 hx29 hx30 hx31 hx32 hx33 hx34 hx35 hx36 hx37 hx38 hx39 hx40 hx41
      go_wp2
      go_ret3
      exact ⟨_, xs, x3, x4, rfl, ⟨by omega, by omega⟩, ⟨by omega, by omega⟩, by omega, hs.drop0⟩
    · go_wp2_with fail
      refine (pick_s g _ 2 _ (by first | exact ⟨hs, by omega⟩ | exact ⟨(hs).allocP1 _ _, by omega⟩ | exact ⟨((hs).allocP1 _ _).allocP1 _ _, by omega⟩ | exact ⟨(((hs).allocP1 _ _).allocP1 _ _).allocP1 _ _, by omega⟩ | exact ⟨((((hs).allocP1 _ _).allocP1 _ _).allocP1 _ _).allocP1 _ _, by omega⟩ | exact ⟨(hs).drew, by omega⟩ | exact ⟨((hs).allocP1 _ _).drew, by omega⟩ | exact ⟨(((hs).allocP1 _ _).allocP1 _ _).drew, by omega⟩ | exact ⟨((((hs).allocP1 _ _).allocP1 _ _).allocP1 _ _).drew, by omega⟩ | exact ⟨(((((hs).allocP1 _ _).allocP1 _ _).allocP1 _ _).allocP1 _ _).drew, by omega⟩ | exact ⟨(hs).drewN _, by omega⟩ | exact ⟨((hs).allocP1 _ _).drewN _, by omega⟩ | exact ⟨(((hs).allocP1 _ _).allocP1 _ _).drewN _, by omega⟩ | exact ⟨((((hs).allocP1 _ _).allocP1 _ _).allocP1 _ _).drewN _, by omega⟩ | exact ⟨(((((hs).allocP1 _ _).allocP1 _ _).allocP1 _ _).allocP1 _ _).drewN _, by omega⟩) (by decide)).mono ?_
      rintro e w4 ⟨z, rfl, z_0, z_a, -, hs⟩
      have z_1 := z_a (by decide)
      clear z_a
      have hs := hs.drop1
      obtain ⟨zz, rfl⟩ : ∃ q : Nat, z = (q : Int) := ⟨z.toNat, by omega⟩
      have hz2 : zz ≤ 1 := by omega
      clear z_0 z_1
      go_wp2_with (at_make; refine wp_makeK rfl rfl .i64 _ 3 8 Try.underlying23 info_int (64 + zz) rfl rfl (by first | rfl | (push_cast; rfl)) (by first | rfl | (push_cast; rfl)) (by omega) (by unfold maxLen; omega) (Nat.le_refl _) ?_; intro wz hown hg hsz)
      have hs := (hs.pushOwn (below_of_grown hg) hown).bring1
      clear hown hg hsz
      refine wp_region_draw [(0, va), (5, Value.pointer (some { block := g, off := 0 })), (6, Value.slice (some { block := w4.heap.size, off := 0 }) (64 + zz) (64 + zz)), (7, Value.int IntKind.i64 q), (8, va), (9, Value.pointer (some { block := g, off := 0 })), (10, Value.slice (some { block := w1.heap.size, off := 0 }) 0 0), (11, Value.pointer (some { block := g, off := 0 })), (12, Value.int IntKind.i64 c0), (13, Value.int IntKind.i64 q), (14, Value.bool false), (15, u15), (16, u16), (17, u17), (18, u18), (19, u19), (20, u20), (21, u21), (22, Value.pointer (some { block := g, off := 0 })), (23, Value.bool true), (24, Value.pointer (some { block := g, off := 0 })), (25, Value.int IntKind.i64 ↑zz), (26, Value.int IntKind.i64 (64 + ↑zz)), (27, Value.slice (some { block := w4.heap.size, off := 0 }) (64 + zz) (64 + zz))]
        [.any, .any, .val (Value.slice (some { block := w4.heap.size, off := 0 }) (64 + zz) (64 + zz)), .int 0 10, .int 0 65, .any, .any, .any, .any, .any, .any, .any, .any, .any, .any, .any, .any, .any, .any, .any, .any, .any, .any, .any, .any, .any, .any, .any, .val (Value.slice (some { block := w4.heap.size, off := 0 }) (64 + zz) (64 + zz)), .val (Value.pointer (some { block := g, off := 0 })), .int 0 10, .val (Value.pointer (some { block := g, off := 0 })), .int 0 3, .int 1 4, .lit 4 0 65, .lit 7 0 3, .val (Value.pointer (some { block := g, off := 0 })), .int 0 6, .adr 0 3, .int 0 3, .adr 0 65, .int 0 65]
        [[6], [5], [29], [5], [31], [32], [33], [], [5], [36], [35, 37], [38], [34, 39], [40], [28], [30], [41]]
        17 (by kernel_rfl) (by kernel_rfl) (by kernel_rfl) (by kernel_rfl) (by simp only [List.forall_mem_cons]; exact ⟨rfl, rfl, rfl, rfl, rfl, rfl, rfl, rfl, rfl, rfl, rfl, rfl, rfl, rfl, rfl, rfl, rfl, rfl, rfl, rfl, rfl, rfl, rfl, rfl,  fun _ h => by cases h⟩) ⟨hs, by omega⟩ ?_ ?_
      · exact ⟨ok_move 28 rfl (.inl rfl) (opOK_tmp rfl rfl),
          ok_move 29 rfl (.inl rfl) (opOK_tmp rfl rfl),
          ok_pick 11 11 30 rfl rfl (opOK_tmp rfl rfl) opOK_int (by decide) rfl,
          ok_move 31 rfl (.inl rfl) (opOK_tmp rfl rfl),
          ok_pick 4 4 32 rfl rfl (opOK_tmp rfl rfl) opOK_int (by decide) rfl,
          ok_add 1 1 0 3 1 4 33 rfl rfl opOK_int (opOK_tmp rfl rfl) rfl (by decide),
          ok_build 4 0 65 [.tmp 33, .const (.int .i64 0), .const (.int .i64 65), .const (.int .i64 64)] 34 rfl rfl rfl rfl (by decide) (by simp only [List.forall_mem_cons]; exact ⟨(opOK_wide (lo := 1) (hi := 4) (opOK_tmp rfl rfl) (by decide) (by decide)), (opOK_wide (lo := 0) (hi := 0) opOK_int (by decide) (by decide)), (opOK_wide (lo := 65) (hi := 65) opOK_int (by decide) (by decide)), (opOK_wide (lo := 64) (hi := 64) opOK_int (by decide) (by decide)), fun _ h => by cases h⟩) rfl,
          ok_build 7 0 3 [.const (.int .i64 0), .const (.int .i64 0), .const (.int .i64 0), .const (.int .i64 0), .const (.int .i64 1), .const (.int .i64 2), .const (.int .i64 3)] 35 rfl rfl rfl rfl (by decide) (by simp only [List.forall_mem_cons]; exact ⟨(opOK_wide (lo := 0) (hi := 0) opOK_int (by decide) (by decide)), (opOK_wide (lo := 0) (hi := 0) opOK_int (by decide) (by decide)), (opOK_wide (lo := 0) (hi := 0) opOK_int (by decide) (by decide)), (opOK_wide (lo := 0) (hi := 0) opOK_int (by decide) (by decide)), (opOK_wide (lo := 1) (hi := 1) opOK_int (by decide) (by decide)), (opOK_wide (lo := 2) (hi := 2) opOK_int (by decide) (by decide)), (opOK_wide (lo := 3) (hi := 3) opOK_int (by decide) (by decide)), fun _ h => by cases h⟩) rfl,
          ok_move 36 rfl (.inl rfl) (opOK_tmp rfl rfl),
          ok_pick 7 7 37 rfl rfl (opOK_tmp rfl rfl) opOK_int (by decide) rfl,
          ok_index 7 0 3 0 6 38 rfl rfl (opOK_tmp rfl rfl) (opOK_tmp rfl rfl) rfl (by decide),
          ok_load 0 3 39 rfl rfl (opOK_tmp rfl rfl) rfl,
          ok_index 4 0 65 0 3 40 rfl rfl (opOK_tmp rfl rfl) (opOK_tmp rfl rfl) rfl (by decide),
          ok_load 0 65 41 rfl rfl (opOK_tmp rfl rfl) rfl,
          ok_move 2 rfl (.inr rfl) (opOK_tmp rfl rfl),
          ok_move 3 rfl (.inr rfl) (opOK_tmp rfl rfl),
          ok_move 4 rfl (.inr rfl) (opOK_tmp rfl rfl), trivial⟩
      rintro tm wq ⟨L, hv⟩ hold hsz hs
      have hx0 : tm.getD 0 undef = va := hold 0 (by kernel_rfl)
      have hx1 : tm.getD 1 undef = undef := hold 1 (by kernel_rfl)
      have hx2 : tm.getD 2 undef = Value.slice (some { block := w4.heap.size, off := 0 }) (64 + zz) (64 + zz) := hv 2 (show 2 < 42 by decide) (by kernel_rfl)
      obtain ⟨x3, hx3, x3_0, x3_1⟩ : ∃ n, tm.getD 3 undef = .int .i64 n ∧ 0 ≤ n ∧ n ≤ 10 := hv 3 (show 3 < 42 by decide) (by kernel_rfl)
      obtain ⟨x4, hx4, x4_0, x4_1⟩ : ∃ n, tm.getD 4 undef = .int .i64 n ∧ 0 ≤ n ∧ n ≤ 65 := hv 4 (show 4 < 42 by decide) (by kernel_rfl)
      have hx5 : tm.getD 5 undef = Value.pointer (some { block := g, off := 0 }) := hold 5 (by kernel_rfl)
      have hx6 : tm.getD 6 undef = Value.slice (some { block := w4.heap.size, off := 0 }) (64 + zz) (64 + zz) := hold 6 (by kernel_rfl)
      have hx7 : tm.getD 7 undef = Value.int IntKind.i64 q := hold 7 (by kernel_rfl)
      have hx8 : tm.getD 8 undef = va := hold 8 (by kernel_rfl)
      have hx9 : tm.getD 9 undef = Value.pointer (some { block := g, off := 0 }) := hold 9 (by kernel_rfl)
      have hx10 : tm.getD 10 undef = Value.slice (some { block := w1.heap.size, off := 0 }) 0 0 := hold 10 (by kernel_rfl)
      have hx11 : tm.getD 11 undef = Value.pointer (some { block := g, off := 0 }) := hold 11 (by kernel_rfl)
      have hx12 : tm.getD 12 undef = Value.int IntKind.i64 c0 := hold 12 (by kernel_rfl)
      have hx13 : tm.getD 13 undef = Value.int IntKind.i64 q := hold 13 (by kernel_rfl)
      have hx14 : tm.getD 14 undef = Value.bool false := hold 14 (by kernel_rfl)
      have hx15 : tm.getD 15 undef = u15 := hold 15 (by kernel_rfl)
      have hx16 : tm.getD 16 undef = u16 := hold 16 (by kernel_rfl)
      have hx17 : tm.getD 17 undef = u17 := hold 17 (by kernel_rfl)
      have hx18 : tm.getD 18 undef = u18 := hold 18 (by kernel_rfl)
      have hx19 : tm.getD 19 undef = u19 := hold 19 (by kernel_rfl)
      have hx20 : tm.getD 20 undef = u20 := hold 20 (by kernel_rfl)
      have hx21 : tm.getD 21 undef = u21 := hold 21 (by kernel_rfl)
      have hx22 : tm.getD 22 undef = Value.pointer (some { block := g, off := 0 }) := hold 22 (by kernel_rfl)
      have hx23 : tm.getD 23 undef = Value.bool true := hold 23 (by kernel_rfl)
      have hx24 : tm.getD 24 undef = Value.pointer (some { block := g, off := 0 }) := hold 24 (by kernel_rfl)
      have hx25 : tm.getD 25 undef = Value.int IntKind.i64 ↑zz := hold 25 (by kernel_rfl)
      have hx26 : tm.getD 26 undef = Value.int IntKind.i64 (64 + ↑zz) := hold 26 (by kernel_rfl)
      have hx27 : tm.getD 27 undef = Value.slice (some { block := w4.heap.size, off := 0 }) (64 + zz) (64 + zz) := hold 27 (by kernel_rfl)
      have hx28 : tm.getD 28 undef = Value.slice (some { block := w4.heap.size, off := 0 }) (64 + zz) (64 + zz) := hv 28 (show 28 < 42 by decide) (by kernel_rfl)
      have hx29 : tm.getD 29 undef = Value.pointer (some { block := g, off := 0 }) := hv 29 (show 29 < 42 by decide) (by kernel_rfl)
      obtain ⟨x30, hx30⟩ : ∃ x, tm.getD 30 undef = x := ⟨_, rfl⟩
      have hx31 : tm.getD 31 undef = Value.pointer (some { block := g, off := 0 }) := hv 31 (show 31 < 42 by decide) (by kernel_rfl)
      obtain ⟨x32, hx32⟩ : ∃ x, tm.getD 32 undef = x := ⟨_, rfl⟩
      obtain ⟨x33, hx33⟩ : ∃ x, tm.getD 33 undef = x := ⟨_, rfl⟩
      obtain ⟨x34, hx34⟩ : ∃ x, tm.getD 34 undef = x := ⟨_, rfl⟩
      obtain ⟨x35, hx35⟩ : ∃ x, tm.getD 35 undef = x := ⟨_, rfl⟩
      have hx36 : tm.getD 36 undef = Value.pointer (some { block := g, off := 0 }) := hv 36 (show 36 < 42 by decide) (by kernel_rfl)
      obtain ⟨x37, hx37⟩ : ∃ x, tm.getD 37 undef = x := ⟨_, rfl⟩
      obtain ⟨x38, hx38⟩ : ∃ x, tm.getD 38 undef = x := ⟨_, rfl⟩
      obtain ⟨x39, hx39⟩ : ∃ x, tm.getD 39 undef = x := ⟨_, rfl⟩
      obtain ⟨x40, hx40⟩ : ∃ x, tm.getD 40 undef = x := ⟨_, rfl⟩
      obtain ⟨x41, hx41⟩ : ∃ x, tm.getD 41 undef = x := ⟨_, rfl⟩
      have htm : tm = (va :: undef :: Value.slice (some { block := w4.heap.size, off := 0 }) (64 + zz) (64 + zz) :: .int .i64 x3 :: .int .i64 x4 :: Value.pointer (some { block := g, off := 0 }) :: Value.slice (some { block := w4.heap.size, off := 0 }) (64 + zz) (64 + zz) :: Value.int IntKind.i64 q :: va :: Value.pointer (some { block := g, off := 0 }) :: Value.slice (some { block := w1.heap.size, off := 0 }) 0 0 :: Value.pointer (some { block := g, off := 0 }) :: Value.int IntKind.i64 c0 :: Value.int IntKind.i64 q :: Value.bool false :: u15 :: u16 :: u17 :: u18 :: u19 :: u20 :: u21 :: Value.pointer (some { block := g, off := 0 }) :: Value.bool true :: Value.pointer (some { block := g, off := 0 }) :: Value.int IntKind.i64 ↑zz :: Value.int IntKind.i64 (64 + ↑zz) :: Value.slice (some { block := w4.heap.size, off := 0 }) (64 + zz) (64 + zz) :: Value.slice (some { block := w4.heap.size, off := 0 }) (64 + zz) (64 + zz) :: Value.pointer (some { block := g, off := 0 }) :: x30 :: Value.pointer (some { block := g, off := 0 }) :: x32 :: x33 :: x34 :: x35 :: Value.pointer (some { block := g, off := 0 }) :: x37 :: x38 :: x39 :: x40 :: x41 :: []).toArray := by
        refine (arr_eq tm hsz).trans ?_
        show (tm.getD 0 undef :: tm.getD 1 undef :: tm.getD 2 undef :: tm.getD 3 undef :: tm.getD 4 undef :: tm.getD 5 undef :: tm.getD 6 undef :: tm.getD 7 undef :: tm.getD 8 undef :: tm.getD 9 undef :: tm.getD 10 undef :: tm.getD 11 undef :: tm.getD 12 undef :: tm.getD 13 undef :: tm.getD 14 undef :: tm.getD 15 undef :: tm.getD 16 undef :: tm.getD 17 undef :: tm.getD 18 undef :: tm.getD 19 undef :: tm.getD 20 undef :: tm.getD 21 undef :: tm.getD 22 undef :: tm.getD 23 undef :: tm.getD 24 undef :: tm.getD 25 undef :: tm.getD 26 undef :: tm.getD 27 undef :: tm.getD 28 undef :: tm.getD 29 undef :: tm.getD 30 undef :: tm.getD 31 undef :: tm.getD 32 undef :: tm.getD 33 undef :: tm.getD 34 undef :: tm.getD 35 undef :: tm.getD 36 undef :: tm.getD 37 undef :: tm.getD 38 undef :: tm.getD 39 undef :: tm.getD 40 undef :: tm.getD 41 undef :: []).toArray = _
        rw [hx0, hx1, hx2, hx3, hx4, hx5, hx6, hx7, hx8, hx9, hx10, hx11, hx12, hx13, hx14, hx15, hx16, hx17, hx18, hx19, hx20, hx21, hx22, hx23, hx24, hx25, hx26, hx27, hx28, hx29, hx30, hx31, hx32, hx33, hx34, hx35, hx36, hx37, hx38, hx39, hx40, hx41]
      subst htm
      dsimp only
      clear hv hold hsz hx0 hx1 hx2 hx3 hx4 hx5 hx6 hx7 hx8 hx9 hx10 hx11 hx12 hx13 hx14 hx15 hx16 hx17 hx18 hx19 hx20 hx21 hx22 hx23 hx24 hx25 hx26 hx27 hx28 hx29 hx30 hx31 hx32 hx33 hx34 hx35 hx36 hx37 hx38 hx39 hx40 hx41
      go_wp2
      go_ret3
      exact ⟨_, _, x3, x4, rfl, ⟨by omega, by omega⟩, ⟨by omega, by omega⟩, by simp; omega, hs.drop0⟩

theorem cell_alloc_l {W : World} {a : Addr} {v : Value} (o : Obj) (h : W.cell? a = some v) : (W.alloc o).cell? a = some v := (((Below.refl W.heap.size W).alloc (Nat.le_refl _) o).cell (cell_lt h)).trans h
/-! The law. -/
theorem frF_range {xs : List Int} {th : Int} : ∀ k, (∀ j, frF xs th k ≤ j → j < k → qt xs th j = true) ∧ (0 < frF xs th k → qt xs th (frF xs th k - 1) = false)
  | 0 => ⟨fun j _ h => absurd h (Nat.not_lt_zero _), fun h => absurd h (Nat.lt_irrefl _)⟩
  | k + 1 => by
    have ih := frF_range (xs := xs) (th := th) k
    cases hq : qt xs th k
    · have e : frF xs th (k + 1) = k + 1 := by simp [frF, hq]
      rw [e]
      exact ⟨fun j h1 h2 => by omega, fun _ => hq⟩
    · have e : frF xs th (k + 1) = frF xs th k := by simp [frF, hq]
      rw [e]
      refine ⟨fun j h1 h2 => ?_, ih.2⟩
      rcases Nat.lt_succ_iff_lt_or_eq.1 h2 with h | rfl
      · exact ih.1 j h1 h
      · exact hq
theorem qt_iff {xs : List Int} {th : Int} {k : Nat} : qt xs th k = true ↔ k < xs.length ∧ gi xs k < th := by simp [qt]
theorem qt_not {xs : List Int} {th : Int} {k : Nat} (h : qt xs th k = false) (hk : k < xs.length) : th ≤ gi xs k := by
  rcases Int.lt_or_le (gi xs k) th with h1 | h1
  · rw [qt_true hk h1] at h; cases h
  · exact h1
/-- a free range: quiet, and as long as it can be -/
def RgOK (xs : List Int) (th : Int) (p : Int × Int) : Prop := ∃ f l : Nat, p = ((f : Int), (l : Int)) ∧ f ≤ l ∧ l < xs.length ∧ (∀ j, f ≤ j → j ≤ l → gi xs j < th) ∧ (0 < f → th ≤ gi xs (f - 1)) ∧ (l + 1 < xs.length → th ≤ gi xs (l + 1))
theorem rgs_ok {xs : List Int} {th : Int} : ∀ k, k ≤ xs.length + 1 → ∀ p ∈ rgs xs th k, RgOK xs th p
  | 0, _, p, h => by simp [rgs] at h
  | k + 1, hk, p, h => by
    simp only [rgs] at h
    split at h
    · next hq =>
      rcases List.mem_append.1 h with h | h
      · exact rgs_ok k (by omega) p h
      · simp only [List.mem_singleton] at h
        subst h
        obtain ⟨r1, r2⟩ := frF_range (xs := xs) (th := th) k
        have hl := (qt_iff.1 (r1 (k - 1) (by omega) (by omega))).1
        refine ⟨frF xs th k, k - 1, ?_, by omega, by omega, fun j h1 h2 => (qt_iff.1 (r1 j h1 (by omega))).2, fun h => qt_not (r2 h) (by omega), fun h => ?_⟩
        · rw [show ((k - 1 : Nat) : Int) = (k : Int) - 1 by omega]
        · have e : k - 1 + 1 = k := by omega
          rw [e] at h ⊢
          exact qt_not hq.1 h
    · exact rgs_ok k (by omega) p h
theorem rgs_pw {xs : List Int} {th : Int} : ∀ k, (rgs xs th k).Pairwise (fun p q => p.2 < q.1) ∧ ∀ p ∈ rgs xs th k, p.2 < (frF xs th k : Int)
  | 0 => by simp [rgs]
  | k + 1 => by
    obtain ⟨h1, h2⟩ := rgs_pw (xs := xs) (th := th) k
    cases hq : qt xs th k
    · have e : frF xs th (k + 1) = k + 1 := by simp [frF, hq]
      by_cases hk : frF xs th k < k
      · rw [(rgs_loud hq hk).1, e]
        refine ⟨List.pairwise_append.2 ⟨h1, List.pairwise_singleton _ _, fun p hp q hq2 => ?_⟩, fun p hp => ?_⟩
        · simp only [List.mem_singleton] at hq2
          subst hq2
          exact h2 p hp
        · rcases List.mem_append.1 hp with hp | hp
          · have := h2 p hp; omega
          · simp only [List.mem_singleton] at hp
            subst hp
            dsimp only; omega
      · have hf := frF_le xs th k
        rw [(rgs_none hq (by omega)).1, e]
        exact ⟨h1, fun p hp => by have := h2 p hp; omega⟩
    · rw [(rgs_quiet hq).1, (rgs_quiet hq).2]
      exact ⟨h1, h2⟩
theorem rgs_few (xs : List Int) (th : Int) : ∀ k, 2 * (rgs xs th k).length ≤ frF xs th k
  | 0 => by simp [rgs]
  | k + 1 => by
    have ih := rgs_few xs th k
    have hf := frF_le xs th k
    cases hq : qt xs th k
    · have e : frF xs th (k + 1) = k + 1 := by simp [frF, hq]
      by_cases hk : frF xs th k < k
      · rw [(rgs_loud hq hk).1, e, List.length_append, List.length_singleton]; omega
      · rw [(rgs_none hq (by omega)).1, e]; omega
    · rw [(rgs_quiet hq).1, (rgs_quiet hq).2]; exact ih
theorem frV_mem {xs : List Int} {th wd : Int} {p : Int × Int} (h : p ∈ frV xs th wd) : RgOK xs th p ∧ wd ≤ p.2 - p.1 + 1 ∧ xs.length ≤ 64 := by
  unfold frV at h
  split at h
  · next hc =>
    simp only [Bool.and_eq_true, decide_eq_true_eq] at hc
    obtain ⟨h1, h2⟩ := List.mem_filter.1 h
    exact ⟨rgs_ok _ (Nat.le_refl _) p h1, of_decide_eq_true h2, hc.1⟩
  · cases h
theorem frV_at {xs : List Int} {th wd : Int} {O : List (Int × Int)} (hO : frV xs th wd = O) {k : Nat} (hk : k < O.length) : RgOK xs th (bF O k, bL O k) ∧ wd ≤ bL O k - bF O k + 1 ∧ xs.length ≤ 64 := by
  have e : (bF O k, bL O k) = O[k] := by simp [bF, bL, hk]
  have := frV_mem (xs := xs) (th := th) (wd := wd) (p := O[k]) (by rw [hO]; exact List.getElem_mem hk)
  rw [← e] at this
  exact this
theorem frV_pw (xs : List Int) (th wd : Int) : (frV xs th wd).Pairwise (fun p q => p.2 < q.1) ∧ (frV xs th wd).length ≤ 64 := by
  unfold frV
  split
  · next hc =>
    simp only [Bool.and_eq_true, decide_eq_true_eq] at hc
    refine ⟨(rgs_pw _).1.sublist List.filter_sublist, ?_⟩
    have h1 := List.length_filter_le (wideB wd) (rgs xs th (xs.length + 1))
    have h2 := rgs_few xs th (xs.length + 1)
    have h3 := frF_le xs th (xs.length + 1)
    omega
  · exact ⟨List.Pairwise.nil, by simp⟩
theorem frV_bv (xs : List Int) (th wd : Int) : bvB (frV xs th wd) = true := by
  obtain ⟨h1, h2⟩ := frV_pw xs th wd
  refine bvB_true.2 ⟨h2, fun i hi => ?_⟩
  obtain ⟨⟨f, l, e, a1, a2, -⟩, -, a3⟩ := frV_at (xs := xs) (th := th) (wd := wd) rfl hi
  simp only [Prod.mk.injEq] at e
  have h3 : i = 0 ∨ bL (frV xs th wd) (i - 1) < bF (frV xs th wd) i := by
    rcases Nat.eq_zero_or_pos i with h | h
    · exact .inl h
    · right
      have := List.pairwise_iff_getElem.1 h1 (i - 1) i (by omega) hi (by omega)
      have e1 : bL (frV xs th wd) (i - 1) = ((frV xs th wd)[i - 1]'(by omega)).2 := by simp [bL, show i - 1 < (frV xs th wd).length by omega]
      have e2 : bF (frV xs th wd) i = ((frV xs th wd)[i]).1 := by simp [bF, hi]
      rw [e1, e2]; exact this
  simp only [bvAt, Bool.and_eq_true, decide_eq_true_eq, Bool.or_eq_true, beq_iff_eq]
  exact ⟨⟨by omega, by omega, by omega⟩, h3⟩
theorem frV_mono {xs : List Int} {th wd : Int} (h1 : 1 ≤ wd) (h2 : wd ≤ 63) : (frV xs th (wd + 1)).length ≤ (frV xs th wd).length := by
  have e1 : inB wd 1 64 = true := inB_true.2 (by omega)
  have e2 : inB (wd + 1) 1 64 = true := inB_true.2 (by omega)
  unfold frV
  rw [e1, e2]
  split
  · rw [← List.countP_eq_length_filter, ← List.countP_eq_length_filter]
    exact List.countP_mono_left fun p _ hp => by
      have := of_decide_eq_true hp
      exact decide_eq_true (by omega)
  · exact Nat.le_refl _

set_option maxRecDepth 100000 in
set_option maxHeartbeats 4000000 in
theorem fnFreeBands_c (vc : Value) (c : List Int) (w : World) (hc : RdB w vc c) (bc : ∀ n ∈ c, (Lit.int .u8 n).wf = true) :
    Calls Try.prog 10 #[vc] w (Ret w fun v _ => v = .bool true) := by
  have hs := SH.add (p := rdP .u8 vc c) (SH.start0 w) (by simp) hc rdP_wr
  obtain ⟨ac, cc, rfl, -⟩ := hc.form
  have Bc := Lib.hid bc
  clear hc bc
  by_cases lc : c.length ≤ 1048576
  case neg =>
    go_enter Try.func10, Try.ntmps10
    go_wp2
    go_ret
    exact Ret.mk1 rfl (Below.refl _ _)
  go_enter Try.func10, Try.ntmps10
  go_wp2_with fail
  refine (DrawFreeBands_s _ c _ (by first | exact hs | exact (hs).allocP1 _ _ | exact ((hs).allocP1 _ _).allocP1 _ _ | exact (((hs).allocP1 _ _).allocP1 _ _).allocP1 _ _ | exact ((((hs).allocP1 _ _).allocP1 _ _).allocP1 _ _).allocP1 _ _ | exact (hs).drew | exact ((hs).allocP1 _ _).drew | exact (((hs).allocP1 _ _).allocP1 _ _).drew | exact ((((hs).allocP1 _ _).allocP1 _ _).allocP1 _ _).drew | exact (((((hs).allocP1 _ _).allocP1 _ _).allocP1 _ _).allocP1 _ _).drew | exact (hs).drewN _ | exact ((hs).allocP1 _ _).drewN _ | exact (((hs).allocP1 _ _).allocP1 _ _).drewN _ | exact ((((hs).allocP1 _ _).allocP1 _ _).allocP1 _ _).drewN _ | exact (((((hs).allocP1 _ _).allocP1 _ _).allocP1 _ _).allocP1 _ _).drewN _) Bc.out).mono ?_
  rintro e w1 ⟨v1, xs, th, wd, rfl, ht, hw, hxl, hs⟩
  obtain ⟨a1, c1, rfl, -⟩ := (OwnK.rd hs.p0).form
  go_wp2_with fail
  refine (SH.ownM hs (by repeat' (first | with_reducible exact Below.refl _ _ | with_reducible assumption | with_reducible refine below_drewN ?_ _ | with_reducible refine Below.drew ?_ | with_reducible refine Below.alloc ?_ ?_ _ | with_reducible refine Below.setCell ?_ ?_ _ | go_size)) fun hs => implFreeBands_c _ xs th wd _ (OwnK.rd hs.p0)).mono ?_
  rintro e w2 ⟨v2, rfl, hs⟩
  go_wp2_with fail
  refine (SH.ownM hs (by repeat' (first | with_reducible exact Below.refl _ _ | with_reducible assumption | with_reducible refine below_drewN ?_ _ | with_reducible refine Below.drew ?_ | with_reducible refine Below.alloc ?_ ?_ _ | with_reducible refine Below.setCell ?_ ?_ _ | go_size)) fun hs => specFreeBands_c _ xs th wd _ (OwnK.rd hs.p1)).mono ?_
  rintro e w3 ⟨v3, rfl, hs⟩
  go_wp2_with fail
  refine (SH.quiet hs (by repeat' (first | with_reducible exact Below.refl _ _ | with_reducible assumption | with_reducible refine below_drewN ?_ _ | with_reducible refine Below.drew ?_ | with_reducible refine Below.alloc ?_ ?_ _ | with_reducible refine Below.setCell ?_ ?_ _ | go_size)) fun hs => sameBands_c _ _ (frV xs th wd) _ (OwnM.rd hs.p1) (OwnM.rd hs.p0)).mono ?_
  rintro e w4 ⟨rfl, hs⟩
  have hs := hs.drop0
  obtain ⟨a2, c2, rfl, -⟩ := (OwnM.rd hs.p0).form
  obtain ⟨O, hO⟩ : ∃ O, frV xs th wd = O := ⟨_, rfl⟩
  have HO := Lib.hid hO
  have hbv := frV_bv xs th wd
  rw [hO] at hs hbv ⊢
  have HBV := Lib.hid hbv
  have hOl : O.length ≤ 64 := by rw [← hO]; exact (frV_pw xs th wd).2
  clear hO hbv
  go_wp2
  go_loopw [7, 8, 9] (fun i _ _ wr => ∃ k : Nat, k ≤ O.length ∧ i = .int .i64 k ∧ SH none w wr [ownMP 2 47 (.slice a2 O.length c2) O.length (bC O), ownP .i64 3 (.slice a1 xs.length c1) xs, rdP .u8 (.slice ac c.length cc) c]) (fun i _ _ _ => O.length - (intOf i).toNat)
  case atStart => exact ⟨0, Nat.zero_le _, rfl, hs⟩
  case round =>
    obtain ⟨k, hk, rfl, hs⟩ := hrel
    by_cases hlt : k < O.length
    · obtain ⟨⟨f, l, he, hfl, hll, hin, hlo, hhi⟩, hwide, hx64⟩ := frV_at HO.out hlt
      simp only [Prod.mk.injEq] at he
      obtain ⟨hx, hy⟩ := he
      rw [hx, hy] at hwide
      obtain ⟨bo, oo, rfl, hoc⟩ := (OwnM.rd hs.p0).at_ hlt
      have ho0 : wr.cell? ⟨bo, oo + k * 2, none⟩ = some (.int .i64 f) := by rw [← hx]; exact hoc 0 (by decide)
      have ho1 : wr.cell? ⟨bo, oo + k * 2 + 1, none⟩ = some (.int .i64 l) := by rw [← hy]; exact hoc 1 (by decide)
      clear hoc hx hy
      obtain ⟨bx, ox, rfl, hxc⟩ := (OwnK.rd hs.p1).at_ (i := f) (by omega)
      clear hxc
      have HIN := Lib.hid hin
      clear hin
      have HXS := Lib.hid (fun i (hi : i < xs.length) => (show wr.cell? ⟨bx, ox + i, none⟩ = some (.int .i64 (gi xs i)) by obtain ⟨b, o, e, h⟩ := (OwnK.rd hs.p1).at_ hi; cases e; exact h))
      have e0 : decide ((l : Int) - (f : Int) + 1 < wd) = false := by have : ¬ (l : Int) - (f : Int) + 1 < wd := (by omega); simpa using this
      rcases Nat.eq_zero_or_pos f with hf | hf
      · subst hf
        rcases Nat.lt_or_ge (l + 1) xs.length with hl | hl
        · have hh := hhi hl
          have hc1 := HXS.out (l + 1) hl
          have e9 : ((l : Int) + 1).toNat = l + 1 := by omega
          have hs := hs.allocP #[.int .i64 (0), .int .i64 l] 47
          have hc1 := cell_alloc_l (.cells #[.int .i64 (0), .int .i64 l] 47) hc1
          clear hlo hhi HXS
          go_wp2
          generalize hB : wr.heap.size = B at *
          go_loopw [9] (fun i wr => ∃ j : Nat, 0 ≤ j ∧ j ≤ l + 1 ∧ i = .int .i64 j ∧ SH none w wr [blkP B #[.int .i64 0, .int .i64 l] 47, ownMP 2 47 (.slice (some ⟨bo, oo, none⟩) O.length c2) O.length (bC O), ownP .i64 3 (.slice (some ⟨bx, ox, none⟩) xs.length c1) xs, rdP .u8 (.slice ac c.length cc) c]) (fun i _ => l + 1 - (intOf i).toNat)
          case atStart => exact ⟨0, Nat.le_refl _, by omega, by go_num, hs⟩
          case round =>
            obtain ⟨j, hj0, hj1, rfl, hs⟩ := hrel
            have hb := (show wr.heap[B]? = _ from hs.p0)
            have b0 := blk_cell hb 0
            have b1 := blk_cell hb 1
            clear hb
            by_cases hjl : j ≤ l
            · obtain ⟨b3, o3, he3, hxc⟩ := (OwnK.rd hs.p2).at_ (i := j) (by omega)
              simp only [Option.some.injEq, Addr.mk.injEq, and_true] at he3
              obtain ⟨rfl, rfl⟩ := he3
              have hq := HIN.out j hj0 hjl
              go_wp2
              go_roundw
              case rel => exact ⟨j + 1, by omega, by omega, by go_num, hs⟩
              case measure => simp [intOf]; omega
            · have hs := hs.drop0
              go_wp2
              go_roundw
              case rel => exact ⟨k + 1, hlt, by go_num, hs⟩
              case measure => simp [intOf]; omega
        · have hs := hs.allocP #[.int .i64 (0), .int .i64 l] 47
          clear hlo hhi HXS
          go_wp2
          generalize hB : wr.heap.size = B at *
          go_loopw [9] (fun i wr => ∃ j : Nat, 0 ≤ j ∧ j ≤ l + 1 ∧ i = .int .i64 j ∧ SH none w wr [blkP B #[.int .i64 0, .int .i64 l] 47, ownMP 2 47 (.slice (some ⟨bo, oo, none⟩) O.length c2) O.length (bC O), ownP .i64 3 (.slice (some ⟨bx, ox, none⟩) xs.length c1) xs, rdP .u8 (.slice ac c.length cc) c]) (fun i _ => l + 1 - (intOf i).toNat)
          case atStart => exact ⟨0, Nat.le_refl _, by omega, by go_num, hs⟩
          case round =>
            obtain ⟨j, hj0, hj1, rfl, hs⟩ := hrel
            have hb := (show wr.heap[B]? = _ from hs.p0)
            have b0 := blk_cell hb 0
            have b1 := blk_cell hb 1
            clear hb
            by_cases hjl : j ≤ l
            · obtain ⟨b3, o3, he3, hxc⟩ := (OwnK.rd hs.p2).at_ (i := j) (by omega)
              simp only [Option.some.injEq, Addr.mk.injEq, and_true] at he3
              obtain ⟨rfl, rfl⟩ := he3
              have hq := HIN.out j hj0 hjl
              go_wp2
              go_roundw
              case rel => exact ⟨j + 1, by omega, by omega, by go_num, hs⟩
              case measure => simp [intOf]; omega
            · have hs := hs.drop0
              go_wp2
              go_roundw
              case rel => exact ⟨k + 1, hlt, by go_num, hs⟩
              case measure => simp [intOf]; omega
      · have hg := hlo hf
        obtain ⟨g, rfl⟩ : ∃ g, f = g + 1 := ⟨f - 1, by omega⟩
        rw [Nat.add_sub_cancel] at hg
        have hc0 := HXS.out g (by omega)
        rcases Nat.lt_or_ge (l + 1) xs.length with hl | hl
        · have hh := hhi hl
          have hc1 := HXS.out (l + 1) hl
          have e9 : ((l : Int) + 1).toNat = l + 1 := by omega
          have hs := hs.allocP #[.int .i64 ((g : Int) + 1), .int .i64 l] 47
          have hc1 := cell_alloc_l (.cells #[.int .i64 ((g : Int) + 1), .int .i64 l] 47) hc1
          have hc0 := cell_alloc_l (.cells #[.int .i64 ((g : Int) + 1), .int .i64 l] 47) hc0
          clear hlo hhi HXS
          go_wp2
          generalize hB : wr.heap.size = B at *
          go_loopw [9] (fun i wr => ∃ j : Nat, (g + 1) ≤ j ∧ j ≤ l + 1 ∧ i = .int .i64 j ∧ SH none w wr [blkP B #[.int .i64 ((g : Int) + 1), .int .i64 l] 47, ownMP 2 47 (.slice (some ⟨bo, oo, none⟩) O.length c2) O.length (bC O), ownP .i64 3 (.slice (some ⟨bx, ox, none⟩) xs.length c1) xs, rdP .u8 (.slice ac c.length cc) c]) (fun i _ => l + 1 - (intOf i).toNat)
          case atStart => exact ⟨(g + 1), Nat.le_refl _, by omega, by go_num, hs⟩
          case round =>
            obtain ⟨j, hj0, hj1, rfl, hs⟩ := hrel
            have hb := (show wr.heap[B]? = _ from hs.p0)
            have b0 := blk_cell hb 0
            have b1 := blk_cell hb 1
            clear hb
            by_cases hjl : j ≤ l
            · obtain ⟨b3, o3, he3, hxc⟩ := (OwnK.rd hs.p2).at_ (i := j) (by omega)
              simp only [Option.some.injEq, Addr.mk.injEq, and_true] at he3
              obtain ⟨rfl, rfl⟩ := he3
              have hq := HIN.out j hj0 hjl
              go_wp2
              go_roundw
              case rel => exact ⟨j + 1, by omega, by omega, by go_num, hs⟩
              case measure => simp [intOf]; omega
            · have hs := hs.drop0
              go_wp2
              go_roundw
              case rel => exact ⟨k + 1, hlt, by go_num, hs⟩
              case measure => simp [intOf]; omega
        · have hs := hs.allocP #[.int .i64 ((g : Int) + 1), .int .i64 l] 47
          have hc0 := cell_alloc_l (.cells #[.int .i64 ((g : Int) + 1), .int .i64 l] 47) hc0
          clear hlo hhi HXS
          go_wp2
          generalize hB : wr.heap.size = B at *
          go_loopw [9] (fun i wr => ∃ j : Nat, (g + 1) ≤ j ∧ j ≤ l + 1 ∧ i = .int .i64 j ∧ SH none w wr [blkP B #[.int .i64 ((g : Int) + 1), .int .i64 l] 47, ownMP 2 47 (.slice (some ⟨bo, oo, none⟩) O.length c2) O.length (bC O), ownP .i64 3 (.slice (some ⟨bx, ox, none⟩) xs.length c1) xs, rdP .u8 (.slice ac c.length cc) c]) (fun i _ => l + 1 - (intOf i).toNat)
          case atStart => exact ⟨(g + 1), Nat.le_refl _, by omega, by go_num, hs⟩
          case round =>
            obtain ⟨j, hj0, hj1, rfl, hs⟩ := hrel
            have hb := (show wr.heap[B]? = _ from hs.p0)
            have b0 := blk_cell hb 0
            have b1 := blk_cell hb 1
            clear hb
            by_cases hjl : j ≤ l
            · obtain ⟨b3, o3, he3, hxc⟩ := (OwnK.rd hs.p2).at_ (i := j) (by omega)
              simp only [Option.some.injEq, Addr.mk.injEq, and_true] at he3
              obtain ⟨rfl, rfl⟩ := he3
              have hq := HIN.out j hj0 hjl
              go_wp2
              go_roundw
              case rel => exact ⟨j + 1, by omega, by omega, by go_num, hs⟩
              case measure => simp [intOf]; omega
            · have hs := hs.drop0
              go_wp2
              go_roundw
              case rel => exact ⟨k + 1, hlt, by go_num, hs⟩
              case measure => simp [intOf]; omega
    obtain rfl : k = O.length := by omega
    clear hlt hk
    go_wp2_with fail
    refine (SH.ret hs (by repeat' (first | with_reducible exact Below.refl _ _ | with_reducible assumption | with_reducible refine below_drewN ?_ _ | with_reducible refine Below.drew ?_ | with_reducible refine Below.alloc ?_ ?_ _ | with_reducible refine Below.setCell ?_ ?_ _ | go_size)) fun hs => implBandsValid_c _ O _ (OwnM.rd hs.p0)).mono ?_
    rintro e w11 ⟨v, rfl, rfl, hs⟩
    rw [HBV.out]
    rcases Int.lt_or_le wd 1 with hw1 | hw1
    · go_wp2_with fail
      refine (SH.ret hs (by repeat' (first | with_reducible exact Below.refl _ _ | with_reducible assumption | with_reducible refine below_drewN ?_ _ | with_reducible refine Below.drew ?_ | with_reducible refine Below.alloc ?_ ?_ _ | with_reducible refine Below.setCell ?_ ?_ _ | go_size)) fun hs => alive_c _).mono ?_
      rintro e w12 ⟨v, rfl, rfl, hs⟩
      go_wp2
      go_ret
      exact Ret.mk1 rfl (SH.done (by first | exact hs | exact (hs).alloc _ | exact ((hs).alloc _).alloc _ | exact (((hs).alloc _).alloc _).alloc _ | exact ((((hs).alloc _).alloc _).alloc _).alloc _ | exact (hs).drew | exact ((hs).alloc _).drew | exact (((hs).alloc _).alloc _).drew | exact ((((hs).alloc _).alloc _).alloc _).drew | exact (((((hs).alloc _).alloc _).alloc _).alloc _).drew | exact (hs).drewN _ | exact ((hs).alloc _).drewN _ | exact (((hs).alloc _).alloc _).drewN _ | exact ((((hs).alloc _).alloc _).alloc _).drewN _ | exact (((((hs).alloc _).alloc _).alloc _).alloc _).drewN _))
    rcases Int.lt_or_le 63 wd with hw2 | hw2
    · go_wp2_with fail
      refine (SH.ret hs (by repeat' (first | with_reducible exact Below.refl _ _ | with_reducible assumption | with_reducible refine below_drewN ?_ _ | with_reducible refine Below.drew ?_ | with_reducible refine Below.alloc ?_ ?_ _ | with_reducible refine Below.setCell ?_ ?_ _ | go_size)) fun hs => alive_c _).mono ?_
      rintro e w12 ⟨v, rfl, rfl, hs⟩
      go_wp2
      go_ret
      exact Ret.mk1 rfl (SH.done (by first | exact hs | exact (hs).alloc _ | exact ((hs).alloc _).alloc _ | exact (((hs).alloc _).alloc _).alloc _ | exact ((((hs).alloc _).alloc _).alloc _).alloc _ | exact (hs).drew | exact ((hs).alloc _).drew | exact (((hs).alloc _).alloc _).drew | exact ((((hs).alloc _).alloc _).alloc _).drew | exact (((((hs).alloc _).alloc _).alloc _).alloc _).drew | exact (hs).drewN _ | exact ((hs).alloc _).drewN _ | exact (((hs).alloc _).alloc _).drewN _ | exact ((((hs).alloc _).alloc _).alloc _).drewN _ | exact (((((hs).alloc _).alloc _).alloc _).alloc _).drewN _))
    have hm := frV_mono (xs := xs) (th := th) hw1 hw2
    rw [HO.out] at hm
    have HM := Lib.hid hm
    clear hm
    go_wp2_with fail
    refine (SH.ownM hs (by repeat' (first | with_reducible exact Below.refl _ _ | with_reducible assumption | with_reducible refine below_drewN ?_ _ | with_reducible refine Below.drew ?_ | with_reducible refine Below.alloc ?_ ?_ _ | with_reducible refine Below.setCell ?_ ?_ _ | go_size)) fun hs => implFreeBands_c _ xs th (wd + 1) _ (OwnK.rd hs.p1)).mono ?_
    rintro e w12 ⟨v9, rfl, hs⟩
    obtain ⟨a9, c9, rfl, -⟩ := (OwnM.rd hs.p0).form
    have hm : ((frV xs th (wd + 1)).length : Int) ≤ (O.length : Int) := by have := HM.out; omega
    go_wp2_with fail
    refine (SH.ret hs (by repeat' (first | with_reducible exact Below.refl _ _ | with_reducible assumption | with_reducible refine below_drewN ?_ _ | with_reducible refine Below.drew ?_ | with_reducible refine Below.alloc ?_ ?_ _ | with_reducible refine Below.setCell ?_ ?_ _ | go_size)) fun hs => alive_c _).mono ?_
    rintro e w13 ⟨v, rfl, rfl, hs⟩
    go_wp2
    go_ret
    exact Ret.mk1 rfl (SH.done (by first | exact hs | exact (hs).alloc _ | exact ((hs).alloc _).alloc _ | exact (((hs).alloc _).alloc _).alloc _ | exact ((((hs).alloc _).alloc _).alloc _).alloc _ | exact (hs).drew | exact ((hs).alloc _).drew | exact (((hs).alloc _).alloc _).drew | exact ((((hs).alloc _).alloc _).alloc _).drew | exact (((((hs).alloc _).alloc _).alloc _).alloc _).drew | exact (hs).drewN _ | exact ((hs).alloc _).drewN _ | exact (((hs).alloc _).alloc _).drewN _ | exact ((((hs).alloc _).alloc _).alloc _).drewN _ | exact (((((hs).alloc _).alloc _).alloc _).alloc _).drewN _))

end Go.Proofs.Ytoilofcpijgaiaa
