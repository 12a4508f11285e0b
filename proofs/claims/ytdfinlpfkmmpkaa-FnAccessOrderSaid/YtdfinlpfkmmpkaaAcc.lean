import Derived.Test.YtdfinlpfkmmpkaaProg
import Derived.Test.YtdfinlpfkmmpkaaNum
import Derived.Test.YtdfinlpfkmmpkaaHeapS2
import Derived.Test.YtdfinlpfkmmpkaaAccPl
import Derived.Test.YtdfinlpfkmmpkaaInts
import Derived.BigRegion
import Derived.RegionTactic
import Derived.StillTailTactics
namespace Go.Proofs.Ytdfinlpfkmmpkaa
open Go.RowKit

theorem seedValid_x (s : Int) (w : World) : Calls Try.prog 53 #[.int .i64 s] w (fun e w' => e = .returned (.bool (inB s 0 2047)) ∧ w' = w) := by
  by_cases h0 : 0 ≤ s
  · by_cases h1 : s ≤ 2047
    · have HT := Lib.hid (inB_true.2 (And.intro h0 h1))
      go_enter Try.func53, Try.ntmps53
      go_wp2
      go_ret
      exact ⟨by rw [HT.out]; rfl, rfl⟩
    · have HT := Lib.hid (inB_false.2 (show ¬ (0 ≤ s ∧ s ≤ 2047) by omega))
      go_enter Try.func53, Try.ntmps53
      go_wp2
      go_ret
      exact ⟨by rw [HT.out]; rfl, rfl⟩
  · have HT := Lib.hid (inB_false.2 (show ¬ (0 ≤ s ∧ s ≤ 2047) by omega))
    go_enter Try.func53, Try.ntmps53
    go_wp2
    go_ret
    exact ⟨by rw [HT.out]; rfl, rfl⟩
theorem implNextSeed_x (s : Int) (w : World) (h0 : 0 ≤ s) (h1 : s ≤ 2047) : Calls Try.prog 61 #[.int .i64 s] w (fun e w' => e = .returned (.int .i64 (nxS s)) ∧ w' = w) := by
  have HT := Lib.hid (inB_true.2 (And.intro h0 h1))
  go_enter Try.func61, Try.ntmps61
  go_wp2_with fail
  refine (seedValid_x s _).mono ?_
  rintro e w' ⟨rfl, rfl⟩
  rw [HT.out]
  go_wp2
  go_ret
  exact ⟨rfl, rfl⟩
theorem specNextSeed_x (s : Int) (w : World) (h0 : 0 ≤ s) (h1 : s ≤ 2047) : Calls Try.prog 55 #[.int .i64 s] w (fun e w' => e = .returned (.int .i64 (nxS s)) ∧ w' = w) := by
  have HT := Lib.hid (inB_true.2 (And.intro h0 h1))
  go_enter Try.func55, Try.ntmps55
  go_wp2_with fail
  refine (l1In_x s 0 2047 _).mono ?_
  rintro e w' ⟨rfl, rfl⟩
  rw [HT.out]
  go_wp2
  go_ret
  exact ⟨rfl, rfl⟩
theorem bk6 {s a : Int} {m : Nat} (h : min a 6 = (m : Int)) : bkS s a = s / 8 % 2 ^ m := by unfold bkS; rw [h]; rfl
theorem implBackoff_x (s a : Int) (w : World) (h0 : 0 ≤ s) (h1 : s ≤ 2047) (a0 : 1 ≤ a) (a1 : a ≤ 100) : Calls Try.prog 62 #[.int .i64 s, .int .i64 a] w (fun e w' => e = .returned (.int .i64 (bkS s a)) ∧ w' = w) := by
  have HT := Lib.hid (inB_true.2 (And.intro h0 h1))
  rcases (show a = 1 ∨ a = 2 ∨ a = 3 ∨ a = 4 ∨ a = 5 ∨ a = 6 ∨ 7 ≤ a by omega) with rfl | rfl | rfl | rfl | rfl | rfl | ha
  · have HB := Lib.hid (bk6 (s := s) (a := 1) (m := 1) (by decide))
    go_enter Try.func62, Try.ntmps62
    go_wp2_with fail
    refine (seedValid_x s _).mono ?_
    rintro e w' ⟨rfl, rfl⟩
    rw [HT.out]
    go_wp2
    go_ret
    exact ⟨by rw [HB.out]; rfl, rfl⟩
  · have HB := Lib.hid (bk6 (s := s) (a := 2) (m := 2) (by decide))
    go_enter Try.func62, Try.ntmps62
    go_wp2_with fail
    refine (seedValid_x s _).mono ?_
    rintro e w' ⟨rfl, rfl⟩
    rw [HT.out]
    go_wp2
    go_ret
    exact ⟨by rw [HB.out]; rfl, rfl⟩
  · have HB := Lib.hid (bk6 (s := s) (a := 3) (m := 3) (by decide))
    go_enter Try.func62, Try.ntmps62
    go_wp2_with fail
    refine (seedValid_x s _).mono ?_
    rintro e w' ⟨rfl, rfl⟩
    rw [HT.out]
    go_wp2
    go_ret
    exact ⟨by rw [HB.out]; rfl, rfl⟩
  · have HB := Lib.hid (bk6 (s := s) (a := 4) (m := 4) (by decide))
    go_enter Try.func62, Try.ntmps62
    go_wp2_with fail
    refine (seedValid_x s _).mono ?_
    rintro e w' ⟨rfl, rfl⟩
    rw [HT.out]
    go_wp2
    go_ret
    exact ⟨by rw [HB.out]; rfl, rfl⟩
  · have HB := Lib.hid (bk6 (s := s) (a := 5) (m := 5) (by decide))
    go_enter Try.func62, Try.ntmps62
    go_wp2_with fail
    refine (seedValid_x s _).mono ?_
    rintro e w' ⟨rfl, rfl⟩
    rw [HT.out]
    go_wp2
    go_ret
    exact ⟨by rw [HB.out]; rfl, rfl⟩
  · have HB := Lib.hid (bk6 (s := s) (a := 6) (m := 6) (by decide))
    go_enter Try.func62, Try.ntmps62
    go_wp2_with fail
    refine (seedValid_x s _).mono ?_
    rintro e w' ⟨rfl, rfl⟩
    rw [HT.out]
    go_wp2
    go_ret
    exact ⟨by rw [HB.out]; rfl, rfl⟩
  · have HB := Lib.hid (bk6 (s := s) (a := a) (m := 6) (by omega))
    go_enter Try.func62, Try.ntmps62
    go_wp2_with fail
    refine (seedValid_x s _).mono ?_
    rintro e w' ⟨rfl, rfl⟩
    rw [HT.out]
    go_wp2
    go_ret
    exact ⟨by rw [HB.out]; rfl, rfl⟩
theorem specBackoff_x (s a : Int) (w : World) (h0 : 0 ≤ s) (h1 : s ≤ 2047) (a0 : 1 ≤ a) (a1 : a ≤ 100) : Calls Try.prog 56 #[.int .i64 s, .int .i64 a] w (fun e w' => e = .returned (.int .i64 (bkS s a)) ∧ w' = w) := by
  have HT := Lib.hid (inB_true.2 (And.intro h0 h1))
  have HA := Lib.hid (inB_true.2 (And.intro a0 a1))
  rcases (show a = 1 ∨ a = 2 ∨ a = 3 ∨ a = 4 ∨ a = 5 ∨ a = 6 ∨ 7 ≤ a by omega) with rfl | rfl | rfl | rfl | rfl | rfl | ha
  · have HB := Lib.hid (bk6 (s := s) (a := 1) (m := 1) (by decide))
    go_enter Try.func56, Try.ntmps56
    go_wp2_with fail
    refine (l1In_x s 0 2047 _).mono ?_
    rintro e w' ⟨rfl, rfl⟩
    rw [HT.out]
    go_wp2_with fail
    refine (l1In_x 1 1 100 _).mono ?_
    rintro e w' ⟨rfl, rfl⟩
    rw [HA.out]
    go_wp2
    go_ret
    exact ⟨by rw [HB.out]; rfl, rfl⟩
  · have HB := Lib.hid (bk6 (s := s) (a := 2) (m := 2) (by decide))
    go_enter Try.func56, Try.ntmps56
    go_wp2_with fail
    refine (l1In_x s 0 2047 _).mono ?_
    rintro e w' ⟨rfl, rfl⟩
    rw [HT.out]
    go_wp2_with fail
    refine (l1In_x 2 1 100 _).mono ?_
    rintro e w' ⟨rfl, rfl⟩
    rw [HA.out]
    go_wp2
    go_ret
    exact ⟨by rw [HB.out]; rfl, rfl⟩
  · have HB := Lib.hid (bk6 (s := s) (a := 3) (m := 3) (by decide))
    go_enter Try.func56, Try.ntmps56
    go_wp2_with fail
    refine (l1In_x s 0 2047 _).mono ?_
    rintro e w' ⟨rfl, rfl⟩
    rw [HT.out]
    go_wp2_with fail
    refine (l1In_x 3 1 100 _).mono ?_
    rintro e w' ⟨rfl, rfl⟩
    rw [HA.out]
    go_wp2
    go_ret
    exact ⟨by rw [HB.out]; rfl, rfl⟩
  · have HB := Lib.hid (bk6 (s := s) (a := 4) (m := 4) (by decide))
    go_enter Try.func56, Try.ntmps56
    go_wp2_with fail
    refine (l1In_x s 0 2047 _).mono ?_
    rintro e w' ⟨rfl, rfl⟩
    rw [HT.out]
    go_wp2_with fail
    refine (l1In_x 4 1 100 _).mono ?_
    rintro e w' ⟨rfl, rfl⟩
    rw [HA.out]
    go_wp2
    go_ret
    exact ⟨by rw [HB.out]; rfl, rfl⟩
  · have HB := Lib.hid (bk6 (s := s) (a := 5) (m := 5) (by decide))
    go_enter Try.func56, Try.ntmps56
    go_wp2_with fail
    refine (l1In_x s 0 2047 _).mono ?_
    rintro e w' ⟨rfl, rfl⟩
    rw [HT.out]
    go_wp2_with fail
    refine (l1In_x 5 1 100 _).mono ?_
    rintro e w' ⟨rfl, rfl⟩
    rw [HA.out]
    go_wp2
    go_ret
    exact ⟨by rw [HB.out]; rfl, rfl⟩
  · have HB := Lib.hid (bk6 (s := s) (a := 6) (m := 6) (by decide))
    go_enter Try.func56, Try.ntmps56
    go_wp2_with fail
    refine (l1In_x s 0 2047 _).mono ?_
    rintro e w' ⟨rfl, rfl⟩
    rw [HT.out]
    go_wp2_with fail
    refine (l1In_x 6 1 100 _).mono ?_
    rintro e w' ⟨rfl, rfl⟩
    rw [HA.out]
    go_wp2
    go_ret
    exact ⟨by rw [HB.out]; rfl, rfl⟩
  · have HB := Lib.hid (bk6 (s := s) (a := a) (m := 6) (by omega))
    go_enter Try.func56, Try.ntmps56
    go_wp2_with fail
    refine (l1In_x s 0 2047 _).mono ?_
    rintro e w' ⟨rfl, rfl⟩
    rw [HT.out]
    go_wp2_with fail
    refine (l1In_x a 1 100 _).mono ?_
    rintro e w' ⟨rfl, rfl⟩
    rw [HA.out]
    go_wp2
    go_ret
    exact ⟨by rw [HB.out]; rfl, rfl⟩
theorem blk4 {w : World} {B : Nat} {x0 x1 x2 x3 : Value} {t : TypeId} (h : w.heap[B]? = some (.cells #[x0, x1, x2, x3] t (0, 0))) : w.cell? ⟨B, 0, none⟩ = some x0 ∧ w.cell? ⟨B, 1, none⟩ = some x1 ∧ w.cell? ⟨B, 2, none⟩ = some x2 ∧ w.cell? ⟨B, 3, none⟩ = some x3 ∧ ∀ q, w.frozen? ⟨B, q, none⟩ = false := by
  refine ⟨?_, ?_, ?_, ?_, fun q => ?_⟩ <;> simp [World.cell?, World.frozen?, h]
def celS (x : Sn) : Array Value := #[.int .i64 x.1, .int .i64 x.2.1, .int .i64 x.2.2.1, .int .i64 x.2.2.2]
set_option maxHeartbeats 4000000 in
theorem fail_s (G : Nat) (x : Sn) (w : World) {row : Option Nat} {w0 : World} {I : List Part} (hs : SH row w0 w (blkP G (celS x) 64 :: I)) (h0 : 0 ≤ x.2.2.1) (h1 : x.2.2.1 ≤ 2047) (f0 : 0 ≤ x.2.2.2) (f1 : x.2.2.2 ≤ 1000) (w0' : 0 ≤ x.1) (w1 : x.1 ≤ 1000) :
    Calls Try.prog 54 #[.pointer (some ⟨G, 0, none⟩)] w (fun e w' => e = .returned (.tuple #[]) ∧ SH row w0 w' (blkP G (celS (frS x.1 x)) 64 :: I)) := by
  obtain ⟨xw, xk, xs, xf⟩ := x
  dsimp only at h0 h1 f0 f1 w0' w1
  obtain ⟨c0, c1, c2, c3, fz⟩ := blk4 hs.p0
  dsimp only at c0 c1 c2 c3
  have fz0 := fz 0
  have fz2 := fz 2
  have fz3 := fz 3
  have hbk := bkS_bd (s := nxS xs) (a := min (xf + 1) 100) nxS_bd.1 (by omega)
  obtain ⟨hn0, hn1⟩ := nxS_bd (s := xs)
  go_enter Try.func54, Try.ntmps54
  go_wp2_with fail
  refine (implNextSeed_x xs _ h0 h1).mono ?_
  rintro e w' ⟨rfl, rfl⟩
  have hs1 := hs.setBlk 3 (.int .i64 (xf + 1))
  obtain ⟨d0, d1, d2, d3, gz⟩ := blk4 (w := w.setCell ⟨G, 3, none⟩ (.int .i64 (xf + 1))) hs1.p0
  have gz2 := gz 2
  go_wp2
  have hs2 := hs1.setBlk 2 (.int .i64 (nxS xs))
  clear c0 c1 c2 c3 d0 d1 d2 d3 fz gz fz0 fz2 fz3 gz2 hs hs1
  generalize (w.setCell ⟨G, 3, none⟩ (.int .i64 (xf + 1))).setCell ⟨G, 2, none⟩ (.int .i64 (nxS xs)) = W at *
  obtain ⟨d0, d1, d2, d3, gz⟩ := blk4 (w := W) hs2.p0
  have gz0 := gz 0
  dsimp only at d0 d1
  clear gz d1
  by_cases hf : xf + 1 ≤ 100
  · have HM : Hid (min (xf + 1) 100 = xf + 1) := Lib.hid (by omega)
    rw [HM.out] at hbk
    obtain ⟨hbk0, hbk1⟩ := hbk
    have hnl : ¬ (100 < xf + 1) := by omega
    refine wp_region_still_tail 18 (by kernel_rfl) (by kernel_rfl) ?_
    simp only [List.take_succ_cons, List.take_zero, List.drop_succ_cons, List.drop_zero]
    repeat still_step
    still_call (implBackoff_x (nxS xs) (xf + 1) _ hn0 hn1 (by omega) hf)
    repeat still_step
    refine wpStill_nil ?_
    change wpList _ _ _ _ _ W.drew
    go_wp2
    go_end0
    all_goals
      have hs3 := (hs2.setBlk 0 (.int .i64 (xw + (1 + bkS (nxS xs) (xf + 1))))).drew
      refine ⟨rfl, ?_⟩
      unfold frS
      dsimp only
      rw [HM.out]
      exact hs3
  · have HM : Hid (min (xf + 1) 100 = 100) := Lib.hid (by omega)
    rw [HM.out] at hbk
    obtain ⟨hbk0, hbk1⟩ := hbk
    have hnl : 100 < xf + 1 := by omega
    refine wp_region_still_tail 18 (by kernel_rfl) (by kernel_rfl) ?_
    simp only [List.take_succ_cons, List.take_zero, List.drop_succ_cons, List.drop_zero]
    repeat still_step
    still_call (implBackoff_x (nxS xs) 100 _ hn0 hn1 (by omega) (by omega))
    repeat still_step
    refine wpStill_nil ?_
    change wpList _ _ _ _ _ W.drew
    go_wp2
    go_end0
    all_goals
      have hs3 := (hs2.setBlk 0 (.int .i64 (xw + (1 + bkS (nxS xs) 100)))).drew
      refine ⟨rfl, ?_⟩
      unfold frS
      dsimp only
      rw [HM.out]
      exact hs3
end Go.Proofs.Ytdfinlpfkmmpkaa
