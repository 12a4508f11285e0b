import Derived.Test.YtjgafkoboolclaaDoorProg
import Derived.Test.YtjgafkoboolclaaDoorSym
import Derived.Test.YtjgafkoboolclaaDoorDraw
import Derived.Test.YtjgafkoboolclaaDoorInts
import Derived.Test.YtjgafkoboolclaaDoorBlk
import Derived.Test.YtjgafkoboolclaaDoorApp
import Derived.Test.YtjgafkoboolclaaDoorStuff
import Derived.Test.YtjgafkoboolclaaDoorFlag
import Derived.Test.YtjgafkoboolclaaDoorFind2
import Derived.Test.YtjgafkoboolclaaDoorBuild
import Derived.Test.YtjgafkoboolclaaDoorDrawBits
import Derived.Test.YtjgafkoboolclaaDoorFramePl
import Derived.Test.YtjgafkoboolclaaDoorFrameLaw
namespace Go.Proofs.YtjgafkoboolclaaDoor
open Go.RowKit

theorem okB_one {x : Int} (h : x = 0 ∨ x = 1) : okB [x] := fun i hi => by
  have : i = 0 := by simpa using hi
  subst this; exact h
set_option maxHeartbeats 4000000 in
/-- bits, all of them 0 or 1 -/
theorem l20Bits_b (g m most : Nat) (w : World) {row : Option Nat} {w0 : World} {I : List Part} {sv : Value} {bs : List Int} (hs : SH row w0 w (rdrP g m sv bs :: I)) (hm : m ≤ 1000000000) (hmost : most ≤ 1000) :
    Calls Tryd.prog 37 #[.pointer (some ⟨g, 0, none⟩), .int .i64 most, .int .i64 0] w (fun e w' => ∃ v xs, e = .returned v ∧ xs.length ≤ most + 1 ∧ okB xs ∧ SH row w0 w' (ownP .i64 3 v xs :: rdrP g (m + 2 * most + 10) sv bs :: I)) := by
  go_enter Tryd.func37, Tryd.ntmps37
  go_wp2_with fail
  refine (pick_s g _ 4 _ ⟨(hs.ownEmpty .i64 _).bring1, by omega⟩ (by decide)).mono ?_
  rintro e w1 ⟨s0, rfl, s0_0, s0_a, -, hs⟩
  have s0_1 := s0_a (by decide)
  clear s0_a
  go_wp2_with fail
  refine (pick_s g _ 2 _ (by first | exact ⟨hs, by omega⟩ | exact ⟨(hs).allocP1 _ _, by omega⟩ | exact ⟨((hs).allocP1 _ _).allocP1 _ _, by omega⟩ | exact ⟨(((hs).allocP1 _ _).allocP1 _ _).allocP1 _ _, by omega⟩ | exact ⟨((((hs).allocP1 _ _).allocP1 _ _).allocP1 _ _).allocP1 _ _, by omega⟩ | exact ⟨(hs).drew, by omega⟩ | exact ⟨((hs).allocP1 _ _).drew, by omega⟩ | exact ⟨(((hs).allocP1 _ _).allocP1 _ _).drew, by omega⟩ | exact ⟨((((hs).allocP1 _ _).allocP1 _ _).allocP1 _ _).drew, by omega⟩ | exact ⟨(((((hs).allocP1 _ _).allocP1 _ _).allocP1 _ _).allocP1 _ _).drew, by omega⟩ | exact ⟨(hs).drewN _, by omega⟩ | exact ⟨((hs).allocP1 _ _).drewN _, by omega⟩ | exact ⟨(((hs).allocP1 _ _).allocP1 _ _).drewN _, by omega⟩ | exact ⟨((((hs).allocP1 _ _).allocP1 _ _).allocP1 _ _).drewN _, by omega⟩ | exact ⟨(((((hs).allocP1 _ _).allocP1 _ _).allocP1 _ _).allocP1 _ _).drewN _, by omega⟩) (by decide)).mono ?_
  rintro e w2 ⟨n0, rfl, n0_0, n0_a, -, hs⟩
  have n0_1 := n0_a (by decide)
  clear n0_a
  go_wp2_with fail
  refine (pick_s g _ ((most : Int) + 1) _ (by first | exact ⟨hs, by omega⟩ | exact ⟨(hs).allocP1 _ _, by omega⟩ | exact ⟨((hs).allocP1 _ _).allocP1 _ _, by omega⟩ | exact ⟨(((hs).allocP1 _ _).allocP1 _ _).allocP1 _ _, by omega⟩ | exact ⟨((((hs).allocP1 _ _).allocP1 _ _).allocP1 _ _).allocP1 _ _, by omega⟩ | exact ⟨(hs).drew, by omega⟩ | exact ⟨((hs).allocP1 _ _).drew, by omega⟩ | exact ⟨(((hs).allocP1 _ _).allocP1 _ _).drew, by omega⟩ | exact ⟨((((hs).allocP1 _ _).allocP1 _ _).allocP1 _ _).drew, by omega⟩ | exact ⟨(((((hs).allocP1 _ _).allocP1 _ _).allocP1 _ _).allocP1 _ _).drew, by omega⟩ | exact ⟨(hs).drewN _, by omega⟩ | exact ⟨((hs).allocP1 _ _).drewN _, by omega⟩ | exact ⟨(((hs).allocP1 _ _).allocP1 _ _).drewN _, by omega⟩ | exact ⟨((((hs).allocP1 _ _).allocP1 _ _).allocP1 _ _).drewN _, by omega⟩ | exact ⟨(((((hs).allocP1 _ _).allocP1 _ _).allocP1 _ _).allocP1 _ _).drewN _, by omega⟩) (by omega)).mono ?_
  rintro e w3 ⟨c0, rfl, c0_0, c0_a, -, hs⟩
  have c0_1 := c0_a (by omega)
  clear c0_a
  go_wp2_with fail
  go_loopw [7, 9, 10] (fun o nw i wr => ∃ (q y : Int) (xs : List Int), 0 ≤ q ∧ i = .int .i64 q ∧ nw = .int .i64 y ∧ (0 ≤ y ∧ y < 2) ∧ (xs.length : Int) + q ≤ most ∧ Hid (okB xs) ∧ SH row w0 wr (rdrP g (m + 3 + 2 * xs.length) sv bs :: ownP .i64 3 o xs :: I)) (fun _ _ i _ => (intOf i).toNat)
  case atStart => exact ⟨c0, n0, [], c0_0, rfl, rfl, ⟨n0_0, n0_1⟩, by simp; omega, Lib.hid (fun i hi => absurd hi (Nat.not_lt_zero _)), hs⟩
  case round =>
    obtain ⟨q, y, xs, q0, rfl, rfl, hy, hlen, HO, hs⟩ := hrel
    obtain ⟨ao, co, rfl, -⟩ := (OwnK.rd hs.p1).form
    by_cases hq : 0 < q
    · go_wp2_with fail
      refine (pick_s g _ (1 + s0) _ (by first | exact ⟨hs, by omega⟩ | exact ⟨(hs).allocP1 _ _, by omega⟩ | exact ⟨((hs).allocP1 _ _).allocP1 _ _, by omega⟩ | exact ⟨(((hs).allocP1 _ _).allocP1 _ _).allocP1 _ _, by omega⟩ | exact ⟨((((hs).allocP1 _ _).allocP1 _ _).allocP1 _ _).allocP1 _ _, by omega⟩ | exact ⟨(hs).drew, by omega⟩ | exact ⟨((hs).allocP1 _ _).drew, by omega⟩ | exact ⟨(((hs).allocP1 _ _).allocP1 _ _).drew, by omega⟩ | exact ⟨((((hs).allocP1 _ _).allocP1 _ _).allocP1 _ _).drew, by omega⟩ | exact ⟨(((((hs).allocP1 _ _).allocP1 _ _).allocP1 _ _).allocP1 _ _).drew, by omega⟩ | exact ⟨(hs).drewN _, by omega⟩ | exact ⟨((hs).allocP1 _ _).drewN _, by omega⟩ | exact ⟨(((hs).allocP1 _ _).allocP1 _ _).drewN _, by omega⟩ | exact ⟨((((hs).allocP1 _ _).allocP1 _ _).allocP1 _ _).drewN _, by omega⟩ | exact ⟨(((((hs).allocP1 _ _).allocP1 _ _).allocP1 _ _).allocP1 _ _).drewN _, by omega⟩) (by omega)).mono ?_
      rintro e w4 ⟨p, rfl, p_0, p_a, -, hs⟩
      have p_1 := p_a (by omega)
      clear p_a
      by_cases hp : p = 0
      · subst hp
        go_wp2_with fail
        refine (pick_s g _ 2 _ (by first | exact ⟨hs, by omega⟩ | exact ⟨(hs).allocP1 _ _, by omega⟩ | exact ⟨((hs).allocP1 _ _).allocP1 _ _, by omega⟩ | exact ⟨(((hs).allocP1 _ _).allocP1 _ _).allocP1 _ _, by omega⟩ | exact ⟨((((hs).allocP1 _ _).allocP1 _ _).allocP1 _ _).allocP1 _ _, by omega⟩ | exact ⟨(hs).drew, by omega⟩ | exact ⟨((hs).allocP1 _ _).drew, by omega⟩ | exact ⟨(((hs).allocP1 _ _).allocP1 _ _).drew, by omega⟩ | exact ⟨((((hs).allocP1 _ _).allocP1 _ _).allocP1 _ _).drew, by omega⟩ | exact ⟨(((((hs).allocP1 _ _).allocP1 _ _).allocP1 _ _).allocP1 _ _).drew, by omega⟩ | exact ⟨(hs).drewN _, by omega⟩ | exact ⟨((hs).allocP1 _ _).drewN _, by omega⟩ | exact ⟨(((hs).allocP1 _ _).allocP1 _ _).drewN _, by omega⟩ | exact ⟨((((hs).allocP1 _ _).allocP1 _ _).allocP1 _ _).drewN _, by omega⟩ | exact ⟨(((((hs).allocP1 _ _).allocP1 _ _).allocP1 _ _).allocP1 _ _).drewN _, by omega⟩) (by decide)).mono ?_
        rintro e w5 ⟨y2, rfl, y2_0, y2_a, -, hs⟩
        have y2_1 := y2_a (by decide)
        clear y2_a
        go_wp2_with (at_builtin; refine wp_app1S rfl rfl .i64 3 8 Tryd.underlying22 info_int y2 rfl (hs.bring1.alloc _) rfl (World.cell?_alloc_at _ _ _ _ rfl) (by omega) (by unfold maxLen; omega) ?_; intro v9 w9 hs)
        go_wp2
        go_roundw
        case rel => exact ⟨q - 1, y2, xs ++ [y2], by omega, by go_num, rfl, ⟨y2_0, y2_1⟩, by simp; omega, Lib.hid (okB_cat HO.out (okB_one (by omega))), rdrP_mono hs.bring1 (by simp; omega)⟩
        case measure => simp [intOf]; omega
      · have hp2 : (p == 0) = false := by simpa using hp
        clear hp
        go_wp2_with (at_builtin; refine wp_app1S rfl rfl .i64 3 8 Tryd.underlying22 info_int y rfl (hs.bring1.alloc _) rfl (World.cell?_alloc_at _ _ _ _ rfl) (by omega) (by unfold maxLen; omega) ?_; intro v9 w9 hs)
        go_wp2
        go_roundw
        case rel => exact ⟨q - 1, y, xs ++ [y], by omega, by go_num, rfl, hy, by simp; omega, Lib.hid (okB_cat HO.out (okB_one (by omega))), rdrP_mono hs.bring1 (by simp; omega)⟩
        case measure => simp [intOf]; omega
    · go_wp2_with fail
      refine (odd_s g _ 0 _ (by first | exact ⟨hs, by omega⟩ | exact ⟨(hs).allocP1 _ _, by omega⟩ | exact ⟨((hs).allocP1 _ _).allocP1 _ _, by omega⟩ | exact ⟨(((hs).allocP1 _ _).allocP1 _ _).allocP1 _ _, by omega⟩ | exact ⟨((((hs).allocP1 _ _).allocP1 _ _).allocP1 _ _).allocP1 _ _, by omega⟩ | exact ⟨(hs).drew, by omega⟩ | exact ⟨((hs).allocP1 _ _).drew, by omega⟩ | exact ⟨(((hs).allocP1 _ _).allocP1 _ _).drew, by omega⟩ | exact ⟨((((hs).allocP1 _ _).allocP1 _ _).allocP1 _ _).drew, by omega⟩ | exact ⟨(((((hs).allocP1 _ _).allocP1 _ _).allocP1 _ _).allocP1 _ _).drew, by omega⟩ | exact ⟨(hs).drewN _, by omega⟩ | exact ⟨((hs).allocP1 _ _).drewN _, by omega⟩ | exact ⟨(((hs).allocP1 _ _).allocP1 _ _).drewN _, by omega⟩ | exact ⟨((((hs).allocP1 _ _).allocP1 _ _).allocP1 _ _).drewN _, by omega⟩ | exact ⟨(((((hs).allocP1 _ _).allocP1 _ _).allocP1 _ _).allocP1 _ _).drewN _, by omega⟩) (by omega)).mono ?_
      rintro e w4 ⟨od, rfl, hod, hs⟩
      obtain rfl := hod (by decide)
      go_wp2
      go_ret
      exact ⟨_, xs, rfl, by omega, HO.out, (rdrP_mono hs (by omega)).bring1⟩
theorem bfV_long {ys : List Int} (h : okB ys) (hl : ys.length ≤ 256) : 32 ≤ (bfV ys).length ∧ (bfV ys).length ≤ 342 ∧ okB (bfV ys) := by
  have hb : bitsB ys = true := bitsB_true.2 ⟨by omega, h⟩
  obtain ⟨S, -, e, h16, -⟩ := body_facts hb hl
  refine ⟨?_, bfV_len2 ys, bfV_ok hb hl⟩
  rw [e]; simp only [List.length_append, show flagL.length = 8 from rfl]; omega
set_option maxRecDepth 100000 in
set_option maxHeartbeats 8000000 in
theorem DrawFindFrames_s (va : Value) (cs : List Int) (w : World) {row : Option Nat} {w0 : World} {I : List Part} (hs : SH row w0 w (rdP .u8 va cs :: I)) (hb : ∀ n ∈ cs, (Lit.int .u8 n).wf = true) :
    Calls Tryd.prog 18 #[va] w (fun e w' => ∃ v xs, e = .returned v ∧ xs.length ≤ 2048 ∧ SH row w0 w' (ownP .i64 3 v xs :: rdP .u8 va cs :: I)) := by
  have HB := Lib.hid hb
  clear hb
  go_enter Tryd.func18, Tryd.ntmps18
  go_wp2_with fail
  refine (open_s va cs _ (by first | exact hs | exact (hs).allocP1 _ _ | exact ((hs).allocP1 _ _).allocP1 _ _ | exact (((hs).allocP1 _ _).allocP1 _ _).allocP1 _ _ | exact ((((hs).allocP1 _ _).allocP1 _ _).allocP1 _ _).allocP1 _ _ | exact (hs).drew | exact ((hs).allocP1 _ _).drew | exact (((hs).allocP1 _ _).allocP1 _ _).drew | exact ((((hs).allocP1 _ _).allocP1 _ _).allocP1 _ _).drew | exact (((((hs).allocP1 _ _).allocP1 _ _).allocP1 _ _).allocP1 _ _).drew | exact (hs).drewN _ | exact ((hs).allocP1 _ _).drewN _ | exact (((hs).allocP1 _ _).allocP1 _ _).drewN _ | exact ((((hs).allocP1 _ _).allocP1 _ _).allocP1 _ _).drewN _ | exact (((((hs).allocP1 _ _).allocP1 _ _).allocP1 _ _).allocP1 _ _).drewN _) HB.out).mono ?_
  rintro e w1 ⟨g, sv, bs, rfl, hs⟩
  go_wp2_with fail
  refine (l20Bits_s g _ 9 0 _ (by first | exact hs | exact (hs).allocP1 _ _ | exact ((hs).allocP1 _ _).allocP1 _ _ | exact (((hs).allocP1 _ _).allocP1 _ _).allocP1 _ _ | exact ((((hs).allocP1 _ _).allocP1 _ _).allocP1 _ _).allocP1 _ _ | exact (hs).drew | exact ((hs).allocP1 _ _).drew | exact (((hs).allocP1 _ _).allocP1 _ _).drew | exact ((((hs).allocP1 _ _).allocP1 _ _).allocP1 _ _).drew | exact (((((hs).allocP1 _ _).allocP1 _ _).allocP1 _ _).allocP1 _ _).drew | exact (hs).drewN _ | exact ((hs).allocP1 _ _).drewN _ | exact (((hs).allocP1 _ _).allocP1 _ _).drewN _ | exact ((((hs).allocP1 _ _).allocP1 _ _).allocP1 _ _).drewN _ | exact (((((hs).allocP1 _ _).allocP1 _ _).allocP1 _ _).allocP1 _ _).drewN _) (by omega) (by decide) (by decide)).mono ?_
  rintro e w2 ⟨v2, xs2, rfl, hl2, hs⟩
  go_wp2_with fail
  refine (pick_s g _ 4 _ ⟨hs.bring1, by omega⟩ (by decide)).mono ?_
  rintro e w3 ⟨k0, rfl, k0_0, k0_a, -, hs⟩
  have k0_1 := k0_a (by decide)
  clear k0_a
  go_wp2_with fail
  go_loopw [4, 5] (fun o i wr => ∃ (q : Int) (M : Nat) (xs : List Int), 0 ≤ q ∧ q ≤ 3 ∧ i = .int .i64 q ∧ (M : Int) + 100 * q ≤ 1000 ∧ (xs.length : Int) + 400 * q ≤ 1300 ∧ SH row w0 wr (rdrP g M sv bs :: ownP .i64 3 o xs :: rdP .u8 va cs :: I)) (fun _ i _ => (intOf i).toNat)
  case atStart => exact ⟨k0, _, xs2, k0_0, by omega, rfl, by omega, by omega, hs⟩
  case round =>
    clear hs hl2
    obtain ⟨q, M, xs, q0, q3, rfl, hM, hlen, hs⟩ := hrel
    obtain ⟨ao, co, rfl, -⟩ := (OwnK.rd hs.p1).form
    by_cases hq : 0 < q
    · go_wp2_with fail
      refine (l20Bits_b g M 12 _ (by first | exact hs | exact (hs).allocP1 _ _ | exact ((hs).allocP1 _ _).allocP1 _ _ | exact (((hs).allocP1 _ _).allocP1 _ _).allocP1 _ _ | exact ((((hs).allocP1 _ _).allocP1 _ _).allocP1 _ _).allocP1 _ _ | exact (hs).drew | exact ((hs).allocP1 _ _).drew | exact (((hs).allocP1 _ _).allocP1 _ _).drew | exact ((((hs).allocP1 _ _).allocP1 _ _).allocP1 _ _).drew | exact (((((hs).allocP1 _ _).allocP1 _ _).allocP1 _ _).allocP1 _ _).drew | exact (hs).drewN _ | exact ((hs).allocP1 _ _).drewN _ | exact (((hs).allocP1 _ _).allocP1 _ _).drewN _ | exact ((((hs).allocP1 _ _).allocP1 _ _).allocP1 _ _).drewN _ | exact (((((hs).allocP1 _ _).allocP1 _ _).allocP1 _ _).allocP1 _ _).drewN _) (by omega) (by decide)).mono ?_
      rintro e w4 ⟨v4, ys, rfl, hly, hok, hs⟩
      go_wp2_with fail
      refine (SH.own hs (by repeat' (first | with_reducible exact Below.refl _ _ | with_reducible assumption | with_reducible refine below_drewN ?_ _ | with_reducible refine Below.drew ?_ | with_reducible refine Below.alloc ?_ ?_ _ | with_reducible refine Below.setCell ?_ ?_ _ | go_size)) fun hs => specBuildFrame_c _ ys _ (OwnK.rd hs.p0)).mono ?_
      rintro e w5 ⟨v5, rfl, hs⟩
      obtain ⟨hf1, hf2, hf3⟩ := bfV_long hok (by omega)
      have HOK := Lib.hid hf3
      have hs := hs.drop1.bring1
      obtain ⟨F, hF⟩ : ∃ F, bfV ys = F := ⟨_, rfl⟩
      rw [hF] at hs hf1 hf2 HOK
      clear hF hok hly hf3
      obtain ⟨aF, cF, rfl, hcF, -⟩ := (OwnK.rd hs.p1).form'
      go_wp2_with fail
      refine (odd_s g _ 4 _ (by first | exact ⟨hs, by omega⟩ | exact ⟨(hs).allocP1 _ _, by omega⟩ | exact ⟨((hs).allocP1 _ _).allocP1 _ _, by omega⟩ | exact ⟨(((hs).allocP1 _ _).allocP1 _ _).allocP1 _ _, by omega⟩ | exact ⟨((((hs).allocP1 _ _).allocP1 _ _).allocP1 _ _).allocP1 _ _, by omega⟩ | exact ⟨(hs).drew, by omega⟩ | exact ⟨((hs).allocP1 _ _).drew, by omega⟩ | exact ⟨(((hs).allocP1 _ _).allocP1 _ _).drew, by omega⟩ | exact ⟨((((hs).allocP1 _ _).allocP1 _ _).allocP1 _ _).drew, by omega⟩ | exact ⟨(((((hs).allocP1 _ _).allocP1 _ _).allocP1 _ _).allocP1 _ _).drew, by omega⟩ | exact ⟨(hs).drewN _, by omega⟩ | exact ⟨((hs).allocP1 _ _).drewN _, by omega⟩ | exact ⟨(((hs).allocP1 _ _).allocP1 _ _).drewN _, by omega⟩ | exact ⟨((((hs).allocP1 _ _).allocP1 _ _).allocP1 _ _).drewN _, by omega⟩ | exact ⟨(((((hs).allocP1 _ _).allocP1 _ _).allocP1 _ _).allocP1 _ _).drewN _, by omega⟩) (by decide)).mono ?_
      rintro e w6 ⟨od, rfl, -, hs⟩
      cases od
      · go_wp2_with fail
        refine (odd_s g _ 4 _ (by first | exact ⟨hs, by omega⟩ | exact ⟨(hs).allocP1 _ _, by omega⟩ | exact ⟨((hs).allocP1 _ _).allocP1 _ _, by omega⟩ | exact ⟨(((hs).allocP1 _ _).allocP1 _ _).allocP1 _ _, by omega⟩ | exact ⟨((((hs).allocP1 _ _).allocP1 _ _).allocP1 _ _).allocP1 _ _, by omega⟩ | exact ⟨(hs).drew, by omega⟩ | exact ⟨((hs).allocP1 _ _).drew, by omega⟩ | exact ⟨(((hs).allocP1 _ _).allocP1 _ _).drew, by omega⟩ | exact ⟨((((hs).allocP1 _ _).allocP1 _ _).allocP1 _ _).drew, by omega⟩ | exact ⟨(((((hs).allocP1 _ _).allocP1 _ _).allocP1 _ _).allocP1 _ _).drew, by omega⟩ | exact ⟨(hs).drewN _, by omega⟩ | exact ⟨((hs).allocP1 _ _).drewN _, by omega⟩ | exact ⟨(((hs).allocP1 _ _).allocP1 _ _).drewN _, by omega⟩ | exact ⟨((((hs).allocP1 _ _).allocP1 _ _).allocP1 _ _).drewN _, by omega⟩ | exact ⟨(((((hs).allocP1 _ _).allocP1 _ _).allocP1 _ _).allocP1 _ _).drewN _, by omega⟩) (by decide)).mono ?_
        rintro e w8 ⟨od2, rfl, -, hs⟩
        cases od2
        · go_wp2_with (at_builtin; refine wp_appKX (xs := xs) (ys := F) rfl rfl .i64 3 8 Tryd.underlying22 info_int rfl hs.bring2 rfl (OwnK.rd hs.p1) (by omega) (by unfold maxLen; omega) ?_; intro v9 w9 hs)
          refine (l20Bits_s g _ 5 0 _ (hs.drop2.bring1) (by omega) (by decide) (by decide)).mono ?_
          rintro e w10 ⟨v10, zs, rfl, hlz, hs⟩
          go_wp2_with (at_builtin; refine wp_appKX (xs := xs ++ F) (ys := zs) rfl rfl .i64 3 8 Tryd.underlying22 info_int rfl hs.bring2 rfl (OwnK.rd hs.p0) (by rw [List.length_append]; omega) (by rw [List.length_append]; unfold maxLen; omega) ?_; intro v11 w11 hs)
          go_roundw
          case rel => exact ⟨q - 1, _, xs ++ F ++ zs, by omega, by omega, by go_num, by omega, by simp only [List.length_append]; omega, hs.drop1.bring1⟩
          case measure => simp [intOf]; omega
        · obtain ⟨gF, e8, -⟩ := OwnK.at_ hs.p1 (i := 0) (by omega)
          cases e8
          have hsub := RdK.subR (OwnK.rd hs.p1) (i := 8) (m := F.length - 8) (by omega)
          obtain ⟨T, hT⟩ : ∃ T, (F.drop 8).take (F.length - 8) = T := ⟨_, rfl⟩
          have hTl : T.length = F.length - 8 := by rw [← hT, List.length_take, List.length_drop]; omega
          rw [hT] at hsub
          have HSB := Lib.hid hsub
          clear hT hsub
          go_wp2_with (at_builtin; refine wp_appKX (xs := xs) (ys := T) rfl rfl .i64 3 8 Tryd.underlying22 info_int rfl hs.bring2 rfl HSB.out (by omega) (by unfold maxLen; omega) ?_; intro v9 w9 hs)
          refine (l20Bits_s g _ 5 0 _ (hs.drop2.bring1) (by omega) (by decide) (by decide)).mono ?_
          rintro e w10 ⟨v10, zs, rfl, hlz, hs⟩
          go_wp2_with (at_builtin; refine wp_appKX (xs := xs ++ T) (ys := zs) rfl rfl .i64 3 8 Tryd.underlying22 info_int rfl hs.bring2 rfl (OwnK.rd hs.p0) (by rw [List.length_append]; omega) (by rw [List.length_append]; unfold maxLen; omega) ?_; intro v11 w11 hs)
          go_roundw
          case rel => exact ⟨q - 1, _, xs ++ T ++ zs, by omega, by omega, by go_num, by omega, by simp only [List.length_append]; omega, hs.drop1.bring1⟩
          case measure => simp [intOf]; omega
      · go_wp2_with fail
        refine (pick_s g _ (F.length : Int) _ (by first | exact ⟨hs, by omega⟩ | exact ⟨(hs).allocP1 _ _, by omega⟩ | exact ⟨((hs).allocP1 _ _).allocP1 _ _, by omega⟩ | exact ⟨(((hs).allocP1 _ _).allocP1 _ _).allocP1 _ _, by omega⟩ | exact ⟨((((hs).allocP1 _ _).allocP1 _ _).allocP1 _ _).allocP1 _ _, by omega⟩ | exact ⟨(hs).drew, by omega⟩ | exact ⟨((hs).allocP1 _ _).drew, by omega⟩ | exact ⟨(((hs).allocP1 _ _).allocP1 _ _).drew, by omega⟩ | exact ⟨((((hs).allocP1 _ _).allocP1 _ _).allocP1 _ _).drew, by omega⟩ | exact ⟨(((((hs).allocP1 _ _).allocP1 _ _).allocP1 _ _).allocP1 _ _).drew, by omega⟩ | exact ⟨(hs).drewN _, by omega⟩ | exact ⟨((hs).allocP1 _ _).drewN _, by omega⟩ | exact ⟨(((hs).allocP1 _ _).allocP1 _ _).drewN _, by omega⟩ | exact ⟨((((hs).allocP1 _ _).allocP1 _ _).allocP1 _ _).drewN _, by omega⟩ | exact ⟨(((((hs).allocP1 _ _).allocP1 _ _).allocP1 _ _).allocP1 _ _).drewN _, by omega⟩) (by omega)).mono ?_
        rintro e w7 ⟨j, rfl, j_0, j_a, -, hs⟩
        have j_1 := j_a (by omega)
        clear j_a
        obtain ⟨p, rfl⟩ : ∃ p : Nat, j = (p : Int) := ⟨j.toNat, by omega⟩
        have hpl : p < F.length := by omega
        have hbit := HOK.out p hpl
        obtain ⟨g2, e2, -, -, hgc, hgf⟩ := OwnK.at_ hs.p1 hpl
        cases e2
        go_wp2_with fail
        have hs := (hs.bring1.setOwn hpl (1 - gi F p)).bring1
        clear hgc hgf
        obtain ⟨Q, hQ⟩ : ∃ Q, F.set p (1 - gi F p) = Q := ⟨_, rfl⟩
        have hQl : F.length = Q.length := by rw [← hQ, List.length_set]
        rw [hQ] at hs
        rw [hQl] at hs hf1 hf2 hcF hpl ⊢
        clear hQ hQl
        refine (odd_s g (M + 2 * 12 + 10 + 1 + 1) 4 _ ⟨hs, by omega⟩ (by decide)).mono ?_
        rintro e w8 ⟨od2, rfl, -, hs⟩
        cases od2
        · go_wp2_with (at_builtin; refine wp_appKX (xs := xs) (ys := Q) rfl rfl .i64 3 8 Tryd.underlying22 info_int rfl hs.bring2 rfl (OwnK.rd hs.p1) (by omega) (by unfold maxLen; omega) ?_; intro v9 w9 hs)
          refine (l20Bits_s g _ 5 0 _ (hs.drop2.bring1) (by omega) (by decide) (by decide)).mono ?_
          rintro e w10 ⟨v10, zs, rfl, hlz, hs⟩
          go_wp2_with (at_builtin; refine wp_appKX (xs := xs ++ Q) (ys := zs) rfl rfl .i64 3 8 Tryd.underlying22 info_int rfl hs.bring2 rfl (OwnK.rd hs.p0) (by rw [List.length_append]; omega) (by rw [List.length_append]; unfold maxLen; omega) ?_; intro v11 w11 hs)
          go_roundw
          case rel => exact ⟨q - 1, _, xs ++ Q ++ zs, by omega, by omega, by go_num, by omega, by simp only [List.length_append]; omega, hs.drop1.bring1⟩
          case measure => simp [intOf]; omega
        · obtain ⟨gF, e8, -⟩ := OwnK.at_ hs.p1 (i := 0) (by omega)
          cases e8
          have hsub := RdK.subR (OwnK.rd hs.p1) (i := 8) (m := Q.length - 8) (by omega)
          obtain ⟨T, hT⟩ : ∃ T, (Q.drop 8).take (Q.length - 8) = T := ⟨_, rfl⟩
          have hTl : T.length = Q.length - 8 := by rw [← hT, List.length_take, List.length_drop]; omega
          rw [hT] at hsub
          have HSB := Lib.hid hsub
          clear hT hsub
          go_wp2_with (at_builtin; refine wp_appKX (xs := xs) (ys := T) rfl rfl .i64 3 8 Tryd.underlying22 info_int rfl hs.bring2 rfl HSB.out (by omega) (by unfold maxLen; omega) ?_; intro v9 w9 hs)
          refine (l20Bits_s g _ 5 0 _ (hs.drop2.bring1) (by omega) (by decide) (by decide)).mono ?_
          rintro e w10 ⟨v10, zs, rfl, hlz, hs⟩
          go_wp2_with (at_builtin; refine wp_appKX (xs := xs ++ T) (ys := zs) rfl rfl .i64 3 8 Tryd.underlying22 info_int rfl hs.bring2 rfl (OwnK.rd hs.p0) (by rw [List.length_append]; omega) (by rw [List.length_append]; unfold maxLen; omega) ?_; intro v11 w11 hs)
          go_roundw
          case rel => exact ⟨q - 1, _, xs ++ T ++ zs, by omega, by omega, by go_num, by omega, by simp only [List.length_append]; omega, hs.drop1.bring1⟩
          case measure => simp [intOf]; omega
    · go_wp2_with fail
      refine (odd_s g _ 14 _ (by first | exact ⟨hs, by omega⟩ | exact ⟨(hs).allocP1 _ _, by omega⟩ | exact ⟨((hs).allocP1 _ _).allocP1 _ _, by omega⟩ | exact ⟨(((hs).allocP1 _ _).allocP1 _ _).allocP1 _ _, by omega⟩ | exact ⟨((((hs).allocP1 _ _).allocP1 _ _).allocP1 _ _).allocP1 _ _, by omega⟩ | exact ⟨(hs).drew, by omega⟩ | exact ⟨((hs).allocP1 _ _).drew, by omega⟩ | exact ⟨(((hs).allocP1 _ _).allocP1 _ _).drew, by omega⟩ | exact ⟨((((hs).allocP1 _ _).allocP1 _ _).allocP1 _ _).drew, by omega⟩ | exact ⟨(((((hs).allocP1 _ _).allocP1 _ _).allocP1 _ _).allocP1 _ _).drew, by omega⟩ | exact ⟨(hs).drewN _, by omega⟩ | exact ⟨((hs).allocP1 _ _).drewN _, by omega⟩ | exact ⟨(((hs).allocP1 _ _).allocP1 _ _).drewN _, by omega⟩ | exact ⟨((((hs).allocP1 _ _).allocP1 _ _).allocP1 _ _).drewN _, by omega⟩ | exact ⟨(((((hs).allocP1 _ _).allocP1 _ _).allocP1 _ _).allocP1 _ _).drewN _, by omega⟩) (by decide)).mono ?_
      rintro e w4 ⟨od, rfl, -, hs⟩
      cases od
      · go_wp2
        go_ret
        exact ⟨_, xs, rfl, by omega, hs.drop0⟩
      · go_wp2_with (at_builtin; refine wp_app1S rfl rfl .i64 3 8 Tryd.underlying22 info_int 2 rfl (hs.bring1.alloc _) rfl (World.cell?_alloc_at _ _ _ _ rfl) (by omega) (by unfold maxLen; omega) ?_; intro v9 w9 hs)
        go_ret
        exact ⟨_, xs ++ [2], rfl, by simp; omega, hs.drop1⟩
end Go.Proofs.YtjgafkoboolclaaDoor
