import Derived.Test.YtdfinlpfkmmpkaaProg
import Derived.Test.YtdfinlpfkmmpkaaSym
import Derived.Test.YtdfinlpfkmmpkaaDraw
import Derived.Test.YtdfinlpfkmmpkaaInts
import Derived.Test.YtdfinlpfkmmpkaaBlk
import Derived.Test.YtdfinlpfkmmpkaaAccI
import Derived.Test.YtdfinlpfkmmpkaaAccLw
import Derived.BigRegion
import Derived.RegionTactic
namespace Go.Proofs.Ytdfinlpfkmmpkaa
open Go.RowKit

set_option maxRecDepth 100000 in
set_option maxHeartbeats 4000000 in
theorem DrawAccessRun_s (va : Value) (cs : List Int) (w : World) {row : Option Nat} {w0 : World} {I : List Part} (hs : SH row w0 w (rdP .u8 va cs :: I)) (hb : ∀ n ∈ cs, (Lit.int .u8 n).wf = true) :
    Calls Try.prog 35 #[va] w (fun e w' => ∃ v xs, e = .returned v ∧ xs.length ≤ 8 ∧ SH row w0 w' (ownP .i64 3 v xs :: rdP .u8 va cs :: I)) := by
  have HB := Lib.hid hb
  clear hb
  go_enter Try.func35, Try.ntmps35
  go_wp2_with fail
  refine (open_s va cs _ (by first | exact hs | exact (hs).allocP1 _ _ | exact ((hs).allocP1 _ _).allocP1 _ _ | exact (((hs).allocP1 _ _).allocP1 _ _).allocP1 _ _ | exact ((((hs).allocP1 _ _).allocP1 _ _).allocP1 _ _).allocP1 _ _ | exact (hs).drew | exact ((hs).allocP1 _ _).drew | exact (((hs).allocP1 _ _).allocP1 _ _).drew | exact ((((hs).allocP1 _ _).allocP1 _ _).allocP1 _ _).drew | exact (((((hs).allocP1 _ _).allocP1 _ _).allocP1 _ _).allocP1 _ _).drew | exact (hs).drewN _ | exact ((hs).allocP1 _ _).drewN _ | exact (((hs).allocP1 _ _).allocP1 _ _).drewN _ | exact ((((hs).allocP1 _ _).allocP1 _ _).allocP1 _ _).drewN _ | exact (((((hs).allocP1 _ _).allocP1 _ _).allocP1 _ _).allocP1 _ _).drewN _) HB.out).mono ?_
  rintro e w1 ⟨g, sv, bs, rfl, hs⟩
  go_wp2_with fail
  refine (pick_s g _ 9 _ ⟨(hs.ownEmpty .i64 3).bring1, by omega⟩ (by decide)).mono ?_
  rintro e w2 ⟨q0, rfl, q0_0, q0_a, -, hs⟩
  have q0_1 := q0_a (by decide)
  clear q0_a
  go_wp2_with fail
  go_loopw [4, 5] (fun o i wr => ∃ (q : Int) (xs : List Int), 0 ≤ q ∧ i = .int .i64 q ∧ (xs.length : Int) + q ≤ 8 ∧ SH row w0 wr (rdrP g (1 + 2 * xs.length) sv bs :: ownP .i64 3 o xs :: rdP .u8 va cs :: I)) (fun _ i _ => (intOf i).toNat)
  case atStart => exact ⟨q0, [], q0_0, rfl, by simp; omega, rdrP_mono hs (by simp)⟩
  case round =>
    clear hs
    obtain ⟨q, xs, q1, rfl, hlen, hs⟩ := hrel
    obtain ⟨ao, co, rfl, -⟩ := (OwnK.rd hs.p1).form
    by_cases hq : 0 < q
    · go_wp2_with fail
      refine (pick_s g _ 256 _ (by first | exact ⟨hs, by omega⟩ | exact ⟨(hs).allocP1 _ _, by omega⟩ | exact ⟨((hs).allocP1 _ _).allocP1 _ _, by omega⟩ | exact ⟨(((hs).allocP1 _ _).allocP1 _ _).allocP1 _ _, by omega⟩ | exact ⟨((((hs).allocP1 _ _).allocP1 _ _).allocP1 _ _).allocP1 _ _, by omega⟩ | exact ⟨(hs).drew, by omega⟩ | exact ⟨((hs).allocP1 _ _).drew, by omega⟩ | exact ⟨(((hs).allocP1 _ _).allocP1 _ _).drew, by omega⟩ | exact ⟨((((hs).allocP1 _ _).allocP1 _ _).allocP1 _ _).drew, by omega⟩ | exact ⟨(((((hs).allocP1 _ _).allocP1 _ _).allocP1 _ _).allocP1 _ _).drew, by omega⟩ | exact ⟨(hs).drewN _, by omega⟩ | exact ⟨((hs).allocP1 _ _).drewN _, by omega⟩ | exact ⟨(((hs).allocP1 _ _).allocP1 _ _).drewN _, by omega⟩ | exact ⟨((((hs).allocP1 _ _).allocP1 _ _).allocP1 _ _).drewN _, by omega⟩ | exact ⟨(((((hs).allocP1 _ _).allocP1 _ _).allocP1 _ _).allocP1 _ _).drewN _, by omega⟩) (by decide)).mono ?_
      rintro e w3 ⟨x, rfl, x_0, x_a, -, hs⟩
      have x_1 := x_a (by decide)
      clear x_a
      go_wp2_with fail
      refine (pick_s g _ 8 _ (by first | exact ⟨hs, by omega⟩ | exact ⟨(hs).allocP1 _ _, by omega⟩ | exact ⟨((hs).allocP1 _ _).allocP1 _ _, by omega⟩ | exact ⟨(((hs).allocP1 _ _).allocP1 _ _).allocP1 _ _, by omega⟩ | exact ⟨((((hs).allocP1 _ _).allocP1 _ _).allocP1 _ _).allocP1 _ _, by omega⟩ | exact ⟨(hs).drew, by omega⟩ | exact ⟨((hs).allocP1 _ _).drew, by omega⟩ | exact ⟨(((hs).allocP1 _ _).allocP1 _ _).drew, by omega⟩ | exact ⟨((((hs).allocP1 _ _).allocP1 _ _).allocP1 _ _).drew, by omega⟩ | exact ⟨(((((hs).allocP1 _ _).allocP1 _ _).allocP1 _ _).allocP1 _ _).drew, by omega⟩ | exact ⟨(hs).drewN _, by omega⟩ | exact ⟨((hs).allocP1 _ _).drewN _, by omega⟩ | exact ⟨(((hs).allocP1 _ _).allocP1 _ _).drewN _, by omega⟩ | exact ⟨((((hs).allocP1 _ _).allocP1 _ _).allocP1 _ _).drewN _, by omega⟩ | exact ⟨(((((hs).allocP1 _ _).allocP1 _ _).allocP1 _ _).allocP1 _ _).drewN _, by omega⟩) (by decide)).mono ?_
      rintro e w4 ⟨y, rfl, y_0, y_a, -, hs⟩
      have y_1 := y_a (by decide)
      clear y_a
      go_wp2_with (at_builtin; refine wp_app1S rfl rfl .i64 3 8 Try.underlying28 info_int (x * 8 + y) rfl (hs.bring1.alloc _) rfl (World.cell?_alloc_at _ _ _ _ rfl) (by omega) (by unfold maxLen; omega) ?_; intro v9 w9 hs)
      have hs := hs.bring1
      go_roundw
      case rel => exact ⟨q - 1, _, by omega, by go_num, by simp; omega, rdrP_mono hs (by simp; omega)⟩
      case measure => simp [intOf]; omega
    · have hl8 : xs.length ≤ 8 := by omega
      by_cases h1 : 1 < xs.length
      · go_wp2_with fail
        refine (odd_s g _ 5 _ (by first | exact ⟨hs, by omega⟩ | exact ⟨(hs).allocP1 _ _, by omega⟩ | exact ⟨((hs).allocP1 _ _).allocP1 _ _, by omega⟩ | exact ⟨(((hs).allocP1 _ _).allocP1 _ _).allocP1 _ _, by omega⟩ | exact ⟨((((hs).allocP1 _ _).allocP1 _ _).allocP1 _ _).allocP1 _ _, by omega⟩ | exact ⟨(hs).drew, by omega⟩ | exact ⟨((hs).allocP1 _ _).drew, by omega⟩ | exact ⟨(((hs).allocP1 _ _).allocP1 _ _).drew, by omega⟩ | exact ⟨((((hs).allocP1 _ _).allocP1 _ _).allocP1 _ _).drew, by omega⟩ | exact ⟨(((((hs).allocP1 _ _).allocP1 _ _).allocP1 _ _).allocP1 _ _).drew, by omega⟩ | exact ⟨(hs).drewN _, by omega⟩ | exact ⟨((hs).allocP1 _ _).drewN _, by omega⟩ | exact ⟨(((hs).allocP1 _ _).allocP1 _ _).drewN _, by omega⟩ | exact ⟨((((hs).allocP1 _ _).allocP1 _ _).allocP1 _ _).drewN _, by omega⟩ | exact ⟨(((((hs).allocP1 _ _).allocP1 _ _).allocP1 _ _).allocP1 _ _).drewN _, by omega⟩) (by decide)).mono ?_
        rintro e w3 ⟨od, rfl, -, hs⟩
        obtain ⟨go, rfl, -, -, hg0, -⟩ := OwnK.at_ hs.p1 (i := 0) (by omega)
        cases od
        · clear hg0
          go_wp2_with fail
          refine (odd_s g _ 12 _ (by first | exact ⟨hs, by omega⟩ | exact ⟨(hs).allocP1 _ _, by omega⟩ | exact ⟨((hs).allocP1 _ _).allocP1 _ _, by omega⟩ | exact ⟨(((hs).allocP1 _ _).allocP1 _ _).allocP1 _ _, by omega⟩ | exact ⟨((((hs).allocP1 _ _).allocP1 _ _).allocP1 _ _).allocP1 _ _, by omega⟩ | exact ⟨(hs).drew, by omega⟩ | exact ⟨((hs).allocP1 _ _).drew, by omega⟩ | exact ⟨(((hs).allocP1 _ _).allocP1 _ _).drew, by omega⟩ | exact ⟨((((hs).allocP1 _ _).allocP1 _ _).allocP1 _ _).drew, by omega⟩ | exact ⟨(((((hs).allocP1 _ _).allocP1 _ _).allocP1 _ _).allocP1 _ _).drew, by omega⟩ | exact ⟨(hs).drewN _, by omega⟩ | exact ⟨((hs).allocP1 _ _).drewN _, by omega⟩ | exact ⟨(((hs).allocP1 _ _).allocP1 _ _).drewN _, by omega⟩ | exact ⟨((((hs).allocP1 _ _).allocP1 _ _).allocP1 _ _).drewN _, by omega⟩ | exact ⟨(((((hs).allocP1 _ _).allocP1 _ _).allocP1 _ _).allocP1 _ _).drewN _, by omega⟩) (by decide)).mono ?_
          rintro e w4 ⟨od2, rfl, -, hs⟩
          cases od2
          · go_wp2
            go_ret
            exact ⟨_, _, rfl, by first | exact hl8 | (rw [List.length_set]; exact hl8), hs.drop0⟩
          · go_wp2_with fail
            refine (pick_s g _ 2 _ (by first | exact ⟨hs, by omega⟩ | exact ⟨(hs).allocP1 _ _, by omega⟩ | exact ⟨((hs).allocP1 _ _).allocP1 _ _, by omega⟩ | exact ⟨(((hs).allocP1 _ _).allocP1 _ _).allocP1 _ _, by omega⟩ | exact ⟨((((hs).allocP1 _ _).allocP1 _ _).allocP1 _ _).allocP1 _ _, by omega⟩ | exact ⟨(hs).drew, by omega⟩ | exact ⟨((hs).allocP1 _ _).drew, by omega⟩ | exact ⟨(((hs).allocP1 _ _).allocP1 _ _).drew, by omega⟩ | exact ⟨((((hs).allocP1 _ _).allocP1 _ _).allocP1 _ _).drew, by omega⟩ | exact ⟨(((((hs).allocP1 _ _).allocP1 _ _).allocP1 _ _).allocP1 _ _).drew, by omega⟩ | exact ⟨(hs).drewN _, by omega⟩ | exact ⟨((hs).allocP1 _ _).drewN _, by omega⟩ | exact ⟨(((hs).allocP1 _ _).allocP1 _ _).drewN _, by omega⟩ | exact ⟨((((hs).allocP1 _ _).allocP1 _ _).allocP1 _ _).drewN _, by omega⟩ | exact ⟨(((((hs).allocP1 _ _).allocP1 _ _).allocP1 _ _).allocP1 _ _).drewN _, by omega⟩) (by decide)).mono ?_
            rintro e w5 ⟨y, rfl, y_0, y_a, -, hs⟩
            have y_1 := y_a (by decide)
            clear y_a
            have hb := hs.p1
            have hc0 := blk_cell hb 0
            have hc1 := blk_cell hb 1
            clear hb
            obtain ⟨g5, hge, -, hgl, hgc, hgf⟩ := OwnK.at_ hs.p2 (i := 0) (by omega)
            cases hge
            have hne : ¬ go = w4.heap.size := fun e => (hs.apart12 go).1 e rfl
            have hne' : ¬ w4.heap.size = go := fun e => hne e.symm
            obtain rfl | rfl : y = 0 ∨ y = 1 := by omega
            all_goals
              go_wp2
              go_ret
              refine ⟨_, _, rfl, ?_, (((hs.bring2.drop2).setOwn (i := 0) (by omega) _).drop1)⟩
              all_goals simp only [List.length_set]; exact hl8
        · obtain ⟨g2, hge, -, -, hg1, hf1⟩ := OwnK.at_ hs.p1 h1
          cases hge
          have hs2 := (hs.bring1.setOwn h1 (gi xs 0)).bring1
          have hs := hs2
          clear hs2
          go_wp2_with fail
          refine (odd_s g _ 12 _ ⟨hs, by omega⟩ (by decide)).mono ?_
          rintro e w5 ⟨od2, rfl, -, hs⟩
          cases od2
          · go_wp2
            go_ret
            exact ⟨_, _, rfl, by rw [List.length_set]; exact hl8, hs.drop0⟩
          · go_wp2_with fail
            refine (pick_s g _ 2 _ (by first | exact ⟨hs, by omega⟩ | exact ⟨(hs).allocP1 _ _, by omega⟩ | exact ⟨((hs).allocP1 _ _).allocP1 _ _, by omega⟩ | exact ⟨(((hs).allocP1 _ _).allocP1 _ _).allocP1 _ _, by omega⟩ | exact ⟨((((hs).allocP1 _ _).allocP1 _ _).allocP1 _ _).allocP1 _ _, by omega⟩ | exact ⟨(hs).drew, by omega⟩ | exact ⟨((hs).allocP1 _ _).drew, by omega⟩ | exact ⟨(((hs).allocP1 _ _).allocP1 _ _).drew, by omega⟩ | exact ⟨((((hs).allocP1 _ _).allocP1 _ _).allocP1 _ _).drew, by omega⟩ | exact ⟨(((((hs).allocP1 _ _).allocP1 _ _).allocP1 _ _).allocP1 _ _).drew, by omega⟩ | exact ⟨(hs).drewN _, by omega⟩ | exact ⟨((hs).allocP1 _ _).drewN _, by omega⟩ | exact ⟨(((hs).allocP1 _ _).allocP1 _ _).drewN _, by omega⟩ | exact ⟨((((hs).allocP1 _ _).allocP1 _ _).allocP1 _ _).drewN _, by omega⟩ | exact ⟨(((((hs).allocP1 _ _).allocP1 _ _).allocP1 _ _).allocP1 _ _).drewN _, by omega⟩) (by decide)).mono ?_
            rintro e w6 ⟨y, rfl, y_0, y_a, -, hs⟩
            have y_1 := y_a (by decide)
            clear y_a
            have hb := hs.p1
            have hc0 := blk_cell hb 0
            have hc1 := blk_cell hb 1
            clear hb
            obtain ⟨g5, hge, -, hgl, hgc, hgf⟩ := OwnK.at_ hs.p2 (i := 0) (by omega)
            cases hge
            have hne : ¬ go = w5.heap.size := fun e => (hs.apart12 go).1 e rfl
            have hne' : ¬ w5.heap.size = go := fun e => hne e.symm
            obtain rfl | rfl : y = 0 ∨ y = 1 := by omega
            all_goals
              go_wp2
              go_ret
              refine ⟨_, _, rfl, ?_, (((hs.bring2.drop2).setOwn (i := 0) (by omega) _).drop1)⟩
              all_goals simp only [List.length_set]; exact hl8
      · by_cases h0 : 0 < xs.length
        · obtain ⟨go, rfl, -, -, -, -⟩ := OwnK.at_ hs.p1 h0
          go_wp2_with fail
          refine (odd_s g _ 12 _ (by first | exact ⟨hs, by omega⟩ | exact ⟨(hs).allocP1 _ _, by omega⟩ | exact ⟨((hs).allocP1 _ _).allocP1 _ _, by omega⟩ | exact ⟨(((hs).allocP1 _ _).allocP1 _ _).allocP1 _ _, by omega⟩ | exact ⟨((((hs).allocP1 _ _).allocP1 _ _).allocP1 _ _).allocP1 _ _, by omega⟩ | exact ⟨(hs).drew, by omega⟩ | exact ⟨((hs).allocP1 _ _).drew, by omega⟩ | exact ⟨(((hs).allocP1 _ _).allocP1 _ _).drew, by omega⟩ | exact ⟨((((hs).allocP1 _ _).allocP1 _ _).allocP1 _ _).drew, by omega⟩ | exact ⟨(((((hs).allocP1 _ _).allocP1 _ _).allocP1 _ _).allocP1 _ _).drew, by omega⟩ | exact ⟨(hs).drewN _, by omega⟩ | exact ⟨((hs).allocP1 _ _).drewN _, by omega⟩ | exact ⟨(((hs).allocP1 _ _).allocP1 _ _).drewN _, by omega⟩ | exact ⟨((((hs).allocP1 _ _).allocP1 _ _).allocP1 _ _).drewN _, by omega⟩ | exact ⟨(((((hs).allocP1 _ _).allocP1 _ _).allocP1 _ _).allocP1 _ _).drewN _, by omega⟩) (by decide)).mono ?_
          rintro e w3 ⟨od2, rfl, -, hs⟩
          cases od2
          · go_wp2
            go_ret
            exact ⟨_, _, rfl, by first | exact hl8 | (rw [List.length_set]; exact hl8), hs.drop0⟩
          · go_wp2_with fail
            refine (pick_s g _ 2 _ (by first | exact ⟨hs, by omega⟩ | exact ⟨(hs).allocP1 _ _, by omega⟩ | exact ⟨((hs).allocP1 _ _).allocP1 _ _, by omega⟩ | exact ⟨(((hs).allocP1 _ _).allocP1 _ _).allocP1 _ _, by omega⟩ | exact ⟨((((hs).allocP1 _ _).allocP1 _ _).allocP1 _ _).allocP1 _ _, by omega⟩ | exact ⟨(hs).drew, by omega⟩ | exact ⟨((hs).allocP1 _ _).drew, by omega⟩ | exact ⟨(((hs).allocP1 _ _).allocP1 _ _).drew, by omega⟩ | exact ⟨((((hs).allocP1 _ _).allocP1 _ _).allocP1 _ _).drew, by omega⟩ | exact ⟨(((((hs).allocP1 _ _).allocP1 _ _).allocP1 _ _).allocP1 _ _).drew, by omega⟩ | exact ⟨(hs).drewN _, by omega⟩ | exact ⟨((hs).allocP1 _ _).drewN _, by omega⟩ | exact ⟨(((hs).allocP1 _ _).allocP1 _ _).drewN _, by omega⟩ | exact ⟨((((hs).allocP1 _ _).allocP1 _ _).allocP1 _ _).drewN _, by omega⟩ | exact ⟨(((((hs).allocP1 _ _).allocP1 _ _).allocP1 _ _).allocP1 _ _).drewN _, by omega⟩) (by decide)).mono ?_
            rintro e w4 ⟨y, rfl, y_0, y_a, -, hs⟩
            have y_1 := y_a (by decide)
            clear y_a
            have hb := hs.p1
            have hc0 := blk_cell hb 0
            have hc1 := blk_cell hb 1
            clear hb
            obtain ⟨g5, hge, -, hgl, hgc, hgf⟩ := OwnK.at_ hs.p2 (i := 0) (by omega)
            cases hge
            have hne : ¬ go = w3.heap.size := fun e => (hs.apart12 go).1 e rfl
            have hne' : ¬ w3.heap.size = go := fun e => hne e.symm
            obtain rfl | rfl : y = 0 ∨ y = 1 := by omega
            all_goals
              go_wp2
              go_ret
              refine ⟨_, _, rfl, ?_, (((hs.bring2.drop2).setOwn (i := 0) (by omega) _).drop1)⟩
              all_goals simp only [List.length_set]; exact hl8
        · go_wp2
          go_ret
          first | exact ⟨_, _, rfl, hl8, hs.drop0⟩ | exact ⟨_, rfl, _, hl8, hs.drop0⟩ | exact ⟨_, ⟨hl8, rfl⟩, hs.drop0⟩ | exact ⟨_, hl8, ⟨_, rfl, hs.drop0⟩⟩
end Go.Proofs.Ytdfinlpfkmmpkaa
