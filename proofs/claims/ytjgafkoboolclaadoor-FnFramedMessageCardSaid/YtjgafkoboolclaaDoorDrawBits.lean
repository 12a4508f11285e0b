import Derived.Test.YtjgafkoboolclaaDoorProg
import Derived.Test.YtjgafkoboolclaaDoorSym
import Derived.Test.YtjgafkoboolclaaDoorDraw
import Derived.Test.YtjgafkoboolclaaDoorInts
import Derived.Test.YtjgafkoboolclaaDoorBlk
import Derived.Test.YtjgafkoboolclaaDoorStuff
namespace Go.Proofs.YtjgafkoboolclaaDoor
open Go.RowKit

set_option maxHeartbeats 4000000 in
theorem l20Bits_s (g m most : Nat) (n : Int) (w : World) {row : Option Nat} {w0 : World} {I : List Part} {sv : Value} {bs : List Int} (hs : SH row w0 w (rdrP g m sv bs :: I)) (hm : m ≤ 1000000000) (hmost : most ≤ 1000) (hn : n ≤ 1000000) :
    Calls Tryd.prog 37 #[.pointer (some ⟨g, 0, none⟩), .int .i64 most, .int .i64 n] w (fun e w' => ∃ v xs, e = .returned v ∧ xs.length ≤ most + 1 ∧ SH row w0 w' (ownP .i64 3 v xs :: rdrP g (m + 2 * most + 10) sv bs :: I)) := by
  go_enter Tryd.func37, Tryd.ntmps37
  go_wp2_with fail
  refine (pick_s g _ 4 _ ⟨(hs.ownEmpty .i64 _).bring1, by omega⟩ (by decide)).mono ?_
  rintro e w1 ⟨s0, rfl, s0_0, s0_a, -, hs⟩
  have s0_1 := s0_a (by decide)
  clear s0_a
  go_wp2_with fail
  refine (pick_s g _ 2 _ (by first | exact ⟨hs, by omega⟩ | exact ⟨(hs).allocP1 _ _, by omega⟩ | exact ⟨((hs).allocP1 _ _).allocP1 _ _, by omega⟩ | exact ⟨(((hs).allocP1 _ _).allocP1 _ _).allocP1 _ _, by omega⟩ | exact ⟨((((hs).allocP1 _ _).allocP1 _ _).allocP1 _ _).allocP1 _ _, by omega⟩ | exact ⟨(hs).drew, by omega⟩ | exact ⟨((hs).allocP1 _ _).drew, by omega⟩ | exact ⟨(((hs).allocP1 _ _).allocP1 _ _).drew, by omega⟩ | exact ⟨((((hs).allocP1 _ _).allocP1 _ _).allocP1 _ _).drew, by omega⟩ | exact ⟨(((((hs).allocP1 _ _).allocP1 _ _).allocP1 _ _).allocP1 _ _).drew, by omega⟩ | exact ⟨(hs).drewN _, by omega⟩ | exact ⟨((hs).allocP1 _ _).drewN _, by omega⟩ | exact ⟨(((hs).allocP1 _ _).allocP1 _ _).drewN _, by omega⟩ | exact ⟨((((hs).allocP1 _ _).allocP1 _ _).allocP1 _ _).drewN _, by omega⟩ | exact ⟨(((((hs).allocP1 _ _).allocP1 _ _).allocP1 _ _).allocP1 _ _).drewN _, by omega⟩) (by decide)).mono ?_
  rintro e w2 ⟨n0, rfl, n0_0, n0_a, -, hs⟩
  have n0_1 := n0_a (by decide)
  clear n0_a
  go_wp2_with fail
  refine (pick_s g _ ((most : Int) + 1) _ (by first | exact ⟨hs, by omega⟩ | exact ⟨(hs).allocP1 _ _, by omega⟩ | exact ⟨((hs).allocP1 _ _).allocP1 _ _, by omega⟩ | exact ⟨(((hs).allocP1 _ _).allocP1 _ _).allocP1 _ _, by omega⟩ | exact ⟨((((hs).allocP1 _ _).allocP1 _ _).allocP1 _ _).allocP1 _ _, by omega⟩ | exact ⟨(hs).drew, by omega⟩ | exact ⟨((hs).allocP1 _ _).drew, by omega⟩ | exact ⟨(((hs).allocP1 _ _).allocP1 _ _).drew, by omega⟩ | exact ⟨((((hs).allocP1 _ _).allocP1 _ _).allocP1 _ _).drew, by omega⟩ | exact ⟨(((((hs).allocP1 _ _).allocP1 _ _).allocP1 _ _).allocP1 _ _).drew, by omega⟩ | exact ⟨(hs).drewN _, by omega⟩ | exact ⟨((hs).allocP1 _ _).drewN _, by omega⟩ | exact ⟨(((hs).allocP1 _ _).allocP1 _ _).drewN _, by omega⟩ | exact ⟨((((hs).allocP1 _ _).allocP1 _ _).allocP1 _ _).drewN _, by omega⟩ | exact ⟨(((((hs).allocP1 _ _).allocP1 _ _).allocP1 _ _).allocP1 _ _).drewN _, by omega⟩) (by omega)).mono ?_
  rintro e w3 ⟨c0, rfl, c0_0, c0_a, -, hs⟩
  have c0_1 := c0_a (by omega)
  clear c0_a
  go_wp2_with fail
  go_loopw [7, 9, 10] (fun o nw i wr => ∃ (q y : Int) (xs : List Int), 0 ≤ q ∧ i = .int .i64 q ∧ nw = .int .i64 y ∧ (xs.length : Int) + q ≤ most ∧ SH row w0 wr (rdrP g (m + 3 + 2 * xs.length) sv bs :: ownP .i64 3 o xs :: I)) (fun _ _ i _ => (intOf i).toNat)
  case atStart => exact ⟨c0, n0, [], c0_0, rfl, rfl, by simp; omega, hs⟩
  case round =>
    obtain ⟨q, y, xs, q0, rfl, rfl, hlen, hs⟩ := hrel
    obtain ⟨ao, co, rfl, -⟩ := (OwnK.rd hs.p1).form
    by_cases hq : 0 < q
    · go_wp2_with fail
      refine (pick_s g _ (1 + s0) _ (by first | exact ⟨hs, by omega⟩ | exact ⟨(hs).allocP1 _ _, by omega⟩ | exact ⟨((hs).allocP1 _ _).allocP1 _ _, by omega⟩ | exact ⟨(((hs).allocP1 _ _).allocP1 _ _).allocP1 _ _, by omega⟩ | exact ⟨((((hs).allocP1 _ _).allocP1 _ _).allocP1 _ _).allocP1 _ _, by omega⟩ | exact ⟨(hs).drew, by omega⟩ | exact ⟨((hs).allocP1 _ _).drew, by omega⟩ | exact ⟨(((hs).allocP1 _ _).allocP1 _ _).drew, by omega⟩ | exact ⟨((((hs).allocP1 _ _).allocP1 _ _).allocP1 _ _).drew, by omega⟩ | exact ⟨(((((hs).allocP1 _ _).allocP1 _ _).allocP1 _ _).allocP1 _ _).drew, by omega⟩ | exact ⟨(hs).drewN _, by omega⟩ | exact ⟨((hs).allocP1 _ _).drewN _, by omega⟩ | exact ⟨(((hs).allocP1 _ _).allocP1 _ _).drewN _, by omega⟩ | exact ⟨((((hs).allocP1 _ _).allocP1 _ _).allocP1 _ _).drewN _, by omega⟩ | exact ⟨(((((hs).allocP1 _ _).allocP1 _ _).allocP1 _ _).allocP1 _ _).drewN _, by omega⟩) (by omega)).mono ?_
      rintro e w4 ⟨p, rfl, p_0, p_a, -, hs⟩
      have p_1 := p_a (by omega)
      clear p_a
      by_cases hp : p = 0
      · subst hp
        go_wp2_with fail
        refine (pick_s g _ 2 _ (by first | exact ⟨hs, by omega⟩ | exact ⟨(hs).allocP1 _ _, by omega⟩ | exact ⟨((hs).allocP1 _ _).allocP1 _ _, by omega⟩ | exact ⟨(((hs).allocP1 _ _).allocP1 _ _).allocP1 _ _, by omega⟩ | exact ⟨((((hs).allocP1 _ _).allocP1 _ _).allocP1 _ _).allocP1 _ _, by omega⟩ | exact ⟨(hs).drew, by omega⟩ | exact ⟨((hs).allocP1 _ _).drew, by omega⟩ | exact ⟨(((hs).allocP1 _ _).allocP1 _ _).drew, by omega⟩ | exact ⟨((((hs).allocP1 _ _).allocP1 _ _).allocP1 _ _).drew, by omega⟩ | exact ⟨(((((hs).allocP1 _ _).allocP1 _ _).allocP1 _ _).allocP1 _ _).drew, by omega⟩ | exact ⟨(hs).drewN _, by omega⟩ | exact ⟨((hs).allocP1 _ _).drewN _, by omega⟩ | exact ⟨(((hs).allocP1 _ _).allocP1 _ _).drewN _, by omega⟩ | exact ⟨((((hs).allocP1 _ _).allocP1 _ _).allocP1 _ _).drewN _, by omega⟩ | exact ⟨(((((hs).allocP1 _ _).allocP1 _ _).allocP1 _ _).allocP1 _ _).drewN _, by omega⟩) (by decide)).mono ?_
        rintro e w5 ⟨y2, rfl, y2_0, y2_a, -, hs⟩
        have y2_1 := y2_a (by decide)
        clear y2_a
        go_wp2_with (at_builtin; refine wp_app1S rfl rfl .i64 3 8 Tryd.underlying22 info_int y2 rfl (hs.bring1.alloc _) rfl (World.cell?_alloc_at _ _ _ _ rfl) (by omega) (by unfold maxLen; omega) ?_; intro v9 w9 hs)
        go_wp2
        go_roundw
        case rel => exact ⟨q - 1, y2, xs ++ [y2], by omega, by go_num, rfl, by simp; omega, rdrP_mono hs.bring1 (by simp; omega)⟩
        case measure => simp [intOf]; omega
      · have hp2 : (p == 0) = false := by simpa using hp
        clear hp
        go_wp2_with (at_builtin; refine wp_app1S rfl rfl .i64 3 8 Tryd.underlying22 info_int y rfl (hs.bring1.alloc _) rfl (World.cell?_alloc_at _ _ _ _ rfl) (by omega) (by unfold maxLen; omega) ?_; intro v9 w9 hs)
        go_wp2
        go_roundw
        case rel => exact ⟨q - 1, y, xs ++ [y], by omega, by go_num, rfl, by simp; omega, rdrP_mono hs.bring1 (by simp; omega)⟩
        case measure => simp [intOf]; omega
    · go_wp2_with fail
      refine (odd_s g _ n _ (by first | exact ⟨hs, by omega⟩ | exact ⟨(hs).allocP1 _ _, by omega⟩ | exact ⟨((hs).allocP1 _ _).allocP1 _ _, by omega⟩ | exact ⟨(((hs).allocP1 _ _).allocP1 _ _).allocP1 _ _, by omega⟩ | exact ⟨((((hs).allocP1 _ _).allocP1 _ _).allocP1 _ _).allocP1 _ _, by omega⟩ | exact ⟨(hs).drew, by omega⟩ | exact ⟨((hs).allocP1 _ _).drew, by omega⟩ | exact ⟨(((hs).allocP1 _ _).allocP1 _ _).drew, by omega⟩ | exact ⟨((((hs).allocP1 _ _).allocP1 _ _).allocP1 _ _).drew, by omega⟩ | exact ⟨(((((hs).allocP1 _ _).allocP1 _ _).allocP1 _ _).allocP1 _ _).drew, by omega⟩ | exact ⟨(hs).drewN _, by omega⟩ | exact ⟨((hs).allocP1 _ _).drewN _, by omega⟩ | exact ⟨(((hs).allocP1 _ _).allocP1 _ _).drewN _, by omega⟩ | exact ⟨((((hs).allocP1 _ _).allocP1 _ _).allocP1 _ _).drewN _, by omega⟩ | exact ⟨(((((hs).allocP1 _ _).allocP1 _ _).allocP1 _ _).allocP1 _ _).drewN _, by omega⟩) (by omega)).mono ?_
      rintro e w4 ⟨od, rfl, -, hs⟩
      cases od
      · go_wp2
        go_ret
        exact ⟨_, xs, rfl, by omega, (rdrP_mono hs (by omega)).bring1⟩
      · go_wp2_with fail
        refine (pick_s g _ 2 _ ⟨hs.allocP1 _ _, by omega⟩ (by decide)).mono ?_
        rintro e w5 ⟨z, rfl, z_0, z_a, -, hs⟩
        have z_1 := z_a (by decide)
        clear z_a
        have hb := hs.p1
        have hc0 := blk_cell hb 0
        have hc1 := blk_cell hb 1
        clear hb
        have hs := hs.drop1
        obtain ⟨y2, hy⟩ : ∃ y2 : Int, w5.cell? ⟨w4.heap.size, z.toNat, none⟩ = some (.int .i64 y2) := by
          obtain rfl | rfl : z = 0 ∨ z = 1 := by omega
          · exact ⟨_, hc0⟩
          · exact ⟨_, hc1⟩
        clear hc0 hc1
        go_wp2_with (at_builtin; refine wp_app1S rfl rfl .i64 3 8 Tryd.underlying22 info_int y2 rfl (hs.bring1.alloc _) rfl (World.cell?_alloc_at _ _ _ _ rfl) (by omega) (by unfold maxLen; omega) ?_; intro v9 w9 hs)
        go_wp2
        go_ret
        exact ⟨_, xs ++ [y2], rfl, by simp; omega, (rdrP_mono hs.bring1 (by omega)).bring1⟩


set_option maxHeartbeats 4000000 in
theorem DrawBuildFrame_s (va : Value) (cs : List Int) (w : World) {row : Option Nat} {w0 : World} {I : List Part} (hs : SH row w0 w (rdP .u8 va cs :: I)) (hb : ∀ n ∈ cs, (Lit.int .u8 n).wf = true) :
    Calls Tryd.prog 14 #[va] w (fun e w' => ∃ v xs, e = .returned v ∧ xs.length ≤ 1024 ∧ SH row w0 w' (ownP .i64 3 v xs :: rdP .u8 va cs :: I)) := by
  have HB := Lib.hid hb
  clear hb
  go_enter Tryd.func14, Tryd.ntmps14
  go_wp2_with fail
  refine (open_s va cs _ (by first | exact hs | exact (hs).allocP1 _ _ | exact ((hs).allocP1 _ _).allocP1 _ _ | exact (((hs).allocP1 _ _).allocP1 _ _).allocP1 _ _ | exact ((((hs).allocP1 _ _).allocP1 _ _).allocP1 _ _).allocP1 _ _ | exact (hs).drew | exact ((hs).allocP1 _ _).drew | exact (((hs).allocP1 _ _).allocP1 _ _).drew | exact ((((hs).allocP1 _ _).allocP1 _ _).allocP1 _ _).drew | exact (((((hs).allocP1 _ _).allocP1 _ _).allocP1 _ _).allocP1 _ _).drew | exact (hs).drewN _ | exact ((hs).allocP1 _ _).drewN _ | exact (((hs).allocP1 _ _).allocP1 _ _).drewN _ | exact ((((hs).allocP1 _ _).allocP1 _ _).allocP1 _ _).drewN _ | exact (((((hs).allocP1 _ _).allocP1 _ _).allocP1 _ _).allocP1 _ _).drewN _) HB.out).mono ?_
  rintro e w1 ⟨g, sv, bs, rfl, hs⟩
  go_wp2_with fail
  refine (odd_s g _ 14 _ (by first | exact ⟨hs, by omega⟩ | exact ⟨(hs).allocP1 _ _, by omega⟩ | exact ⟨((hs).allocP1 _ _).allocP1 _ _, by omega⟩ | exact ⟨(((hs).allocP1 _ _).allocP1 _ _).allocP1 _ _, by omega⟩ | exact ⟨((((hs).allocP1 _ _).allocP1 _ _).allocP1 _ _).allocP1 _ _, by omega⟩ | exact ⟨(hs).drew, by omega⟩ | exact ⟨((hs).allocP1 _ _).drew, by omega⟩ | exact ⟨(((hs).allocP1 _ _).allocP1 _ _).drew, by omega⟩ | exact ⟨((((hs).allocP1 _ _).allocP1 _ _).allocP1 _ _).drew, by omega⟩ | exact ⟨(((((hs).allocP1 _ _).allocP1 _ _).allocP1 _ _).allocP1 _ _).drew, by omega⟩ | exact ⟨(hs).drewN _, by omega⟩ | exact ⟨((hs).allocP1 _ _).drewN _, by omega⟩ | exact ⟨(((hs).allocP1 _ _).allocP1 _ _).drewN _, by omega⟩ | exact ⟨((((hs).allocP1 _ _).allocP1 _ _).allocP1 _ _).drewN _, by omega⟩ | exact ⟨(((((hs).allocP1 _ _).allocP1 _ _).allocP1 _ _).allocP1 _ _).drewN _, by omega⟩) (by decide)).mono ?_
  rintro e w2 ⟨od, rfl, -, hs⟩
  cases od
  · go_wp2_with fail
    refine (l20Bits_s g _ 24 9 _ (by first | exact hs | exact (hs).allocP1 _ _ | exact ((hs).allocP1 _ _).allocP1 _ _ | exact (((hs).allocP1 _ _).allocP1 _ _).allocP1 _ _ | exact ((((hs).allocP1 _ _).allocP1 _ _).allocP1 _ _).allocP1 _ _ | exact (hs).drew | exact ((hs).allocP1 _ _).drew | exact (((hs).allocP1 _ _).allocP1 _ _).drew | exact ((((hs).allocP1 _ _).allocP1 _ _).allocP1 _ _).drew | exact (((((hs).allocP1 _ _).allocP1 _ _).allocP1 _ _).allocP1 _ _).drew | exact (hs).drewN _ | exact ((hs).allocP1 _ _).drewN _ | exact (((hs).allocP1 _ _).allocP1 _ _).drewN _ | exact ((((hs).allocP1 _ _).allocP1 _ _).allocP1 _ _).drewN _ | exact (((((hs).allocP1 _ _).allocP1 _ _).allocP1 _ _).allocP1 _ _).drewN _) (by omega) (by decide) (by decide)).mono ?_
    rintro e w3 ⟨v, xs, rfl, hl, hs⟩
    go_wp2
    go_ret
    exact ⟨_, xs, rfl, by omega, hs.drop1⟩
  · go_wp2_with fail
    refine (pick_s g _ 2 _ (by first | exact ⟨hs, by omega⟩ | exact ⟨(hs).allocP1 _ _, by omega⟩ | exact ⟨((hs).allocP1 _ _).allocP1 _ _, by omega⟩ | exact ⟨(((hs).allocP1 _ _).allocP1 _ _).allocP1 _ _, by omega⟩ | exact ⟨((((hs).allocP1 _ _).allocP1 _ _).allocP1 _ _).allocP1 _ _, by omega⟩ | exact ⟨(hs).drew, by omega⟩ | exact ⟨((hs).allocP1 _ _).drew, by omega⟩ | exact ⟨(((hs).allocP1 _ _).allocP1 _ _).drew, by omega⟩ | exact ⟨((((hs).allocP1 _ _).allocP1 _ _).allocP1 _ _).drew, by omega⟩ | exact ⟨(((((hs).allocP1 _ _).allocP1 _ _).allocP1 _ _).allocP1 _ _).drew, by omega⟩ | exact ⟨(hs).drewN _, by omega⟩ | exact ⟨((hs).allocP1 _ _).drewN _, by omega⟩ | exact ⟨(((hs).allocP1 _ _).allocP1 _ _).drewN _, by omega⟩ | exact ⟨((((hs).allocP1 _ _).allocP1 _ _).allocP1 _ _).drewN _, by omega⟩ | exact ⟨(((((hs).allocP1 _ _).allocP1 _ _).allocP1 _ _).allocP1 _ _).drewN _, by omega⟩) (by decide)).mono ?_
    rintro e w3 ⟨z, rfl, z_0, z_a, -, hs⟩
    have z_1 := z_a (by decide)
    clear z_a
    obtain ⟨L, hL, hL2⟩ : ∃ L : Nat, 256 + z = (L : Int) ∧ L ≤ 513 := ⟨(256 + z).toNat, by omega, by omega⟩
    go_wp2_with (at_make; refine wp_makeK rfl rfl .i64 _ 3 8 Tryd.underlying22 info_int L rfl rfl (by first | exact hL | rfl) (by first | exact hL | rfl) (by omega) (by unfold maxLen; omega) (Nat.le_refl _) ?_; intro wz hown hg hsz)
    have hs := hs.drop0.pushOwn (below_of_grown hg) hown
    clear hown hg hsz
    go_wp2
    go_ret
    exact ⟨_, _, rfl, by simp; omega, hs⟩


end Go.Proofs.YtjgafkoboolclaaDoor
