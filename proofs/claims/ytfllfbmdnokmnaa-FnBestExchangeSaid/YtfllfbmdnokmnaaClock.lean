import Derived.Test.YtfllfbmdnokmnaaProg
import Derived.Test.YtfllfbmdnokmnaaLib
import Derived.Test.YtfllfbmdnokmnaaNum
namespace Go.Proofs.Ytfllfbmdnokmnaa
open Go.RowKit

/-- a struct of four ints -/
def ex (s h a b : Int) : Value := .agg #[.int .i64 s, .int .i64 h, .int .i64 a, .int .i64 b]

/-- a valid exchange -/
def exB (s h a b : Int) : Bool := inB s (-1000000) 1000000 && inB h (-1000000) 1000000 && inB a h 1000000 && inB b (-1000000) 1000000 && decide (a - h ≤ b - s)

theorem exB_true {s h a b : Int} : exB s h a b = true ↔ (-1000000 ≤ s ∧ s ≤ 1000000) ∧ (-1000000 ≤ h ∧ h ≤ 1000000) ∧ (h ≤ a ∧ a ≤ 1000000) ∧ (-1000000 ≤ b ∧ b ≤ 1000000) ∧ a - h ≤ b - s := by
  simp [exB, inB_true, and_assoc]

theorem delayOf_c (s h a b : Int) (w : World) (h1 : -2000000 ≤ b - s) (h2 : b - s ≤ 2000000) (h3 : -2000000 ≤ a - h) (h4 : a - h ≤ 2000000) :
    Calls Try.prog 60 #[ex s h a b] w (Ret w fun v _ => v = .int .i64 (b - s - (a - h))) := by
  unfold ex
  go_enter Try.func60, Try.ntmps60
  go_wp2
  go_ret
  exact Ret.mk1 rfl (by go_grown)

theorem toExchange_c (s h a b : Int) (w : World) :
    Calls Try.prog 56 #[ex s h a b] w (Ret w fun v _ => v = ex s h a b) := by
  unfold ex
  go_enter Try.func56, Try.ntmps56
  go_wp2
  go_returns
  exact Ret.mk1 rfl (by go_grown)

theorem specExchangeValid_c (s h a b : Int) (w : World) :
    Calls Try.prog 38 #[ex s h a b] w (Ret w fun v _ => v = .bool (exB s h a b)) := by
  unfold ex
  cases h1 : inB s (-1000000) 1000000
  · go_enter Try.func38, Try.ntmps38
    go_wp2_with (go_at_call 46; refine (l1In_c _ _ _ _).mono ?_; rintro e w' ⟨rfl, n, rfl⟩)
    go_ret
    exact Ret.mk1 (boolv (by simp [exB, h1])) (by repeat' (first | with_reducible exact Below.refl _ _ | with_reducible assumption | with_reducible refine below_drewN ?_ _ | with_reducible refine Below.drew ?_ | with_reducible refine Below.alloc ?_ ?_ _ | with_reducible refine Below.setCell ?_ ?_ _ | go_size))
  cases h2 : inB h (-1000000) 1000000
  · go_enter Try.func38, Try.ntmps38
    go_wp2_with (go_at_call 46; refine (l1In_c _ _ _ _).mono ?_; rintro e w' ⟨rfl, n, rfl⟩)
    go_ret
    exact Ret.mk1 (boolv (by simp [exB, h2])) (by repeat' (first | with_reducible exact Below.refl _ _ | with_reducible assumption | with_reducible refine below_drewN ?_ _ | with_reducible refine Below.drew ?_ | with_reducible refine Below.alloc ?_ ?_ _ | with_reducible refine Below.setCell ?_ ?_ _ | go_size))
  cases h3 : inB a h 1000000
  · go_enter Try.func38, Try.ntmps38
    go_wp2_with (go_at_call 46; refine (l1In_c _ _ _ _).mono ?_; rintro e w' ⟨rfl, n, rfl⟩)
    go_ret
    exact Ret.mk1 (boolv (by simp [exB, h3])) (by repeat' (first | with_reducible exact Below.refl _ _ | with_reducible assumption | with_reducible refine below_drewN ?_ _ | with_reducible refine Below.drew ?_ | with_reducible refine Below.alloc ?_ ?_ _ | with_reducible refine Below.setCell ?_ ?_ _ | go_size))
  cases h4 : inB b (-1000000) 1000000
  · go_enter Try.func38, Try.ntmps38
    go_wp2_with (go_at_call 46; refine (l1In_c _ _ _ _).mono ?_; rintro e w' ⟨rfl, n, rfl⟩)
    go_ret
    exact Ret.mk1 (boolv (by simp [exB, h4])) (by repeat' (first | with_reducible exact Below.refl _ _ | with_reducible assumption | with_reducible refine below_drewN ?_ _ | with_reducible refine Below.drew ?_ | with_reducible refine Below.alloc ?_ ?_ _ | with_reducible refine Below.setCell ?_ ?_ _ | go_size))
  obtain ⟨a1, a2⟩ := inB_true.1 h1
  obtain ⟨b1, b2⟩ := inB_true.1 h2
  obtain ⟨c1, c2⟩ := inB_true.1 h3
  obtain ⟨d1, d2⟩ := inB_true.1 h4
  go_enter Try.func38, Try.ntmps38
  go_wp2_with (go_at_call 46; refine (l1In_c _ _ _ _).mono ?_; rintro e w' ⟨rfl, n, rfl⟩)
  go_ret
  exact Ret.mk1 (boolv (by simp [exB, h1, h2, h3, h4])) (by repeat' (first | with_reducible exact Below.refl _ _ | with_reducible assumption | with_reducible refine below_drewN ?_ _ | with_reducible refine Below.drew ?_ | with_reducible refine Below.alloc ?_ ?_ _ | with_reducible refine Below.setCell ?_ ?_ _ | go_size))

set_option maxHeartbeats 4000000 in
theorem implExchangeValid_c (s h a b : Int) (w : World) :
    Calls Try.prog 37 #[ex s h a b] w (Ret w fun v _ => v = .bool (exB s h a b)) := by
  unfold ex
  have i0 : ∀ w, (Instr.index 70 (.agg #[.int .i64 s, .int .i64 h, .int .i64 a, .int .i64 b]) (.int .i64 0)).run Try.prog w = .ok (.int .i64 s) w := fun _ => by kernel_rfl
  have i1 : ∀ w, (Instr.index 70 (.agg #[.int .i64 s, .int .i64 h, .int .i64 a, .int .i64 b]) (.int .i64 1)).run Try.prog w = .ok (.int .i64 h) w := fun _ => by kernel_rfl
  have i2 : ∀ w, (Instr.index 70 (.agg #[.int .i64 s, .int .i64 h, .int .i64 a, .int .i64 b]) (.int .i64 2)).run Try.prog w = .ok (.int .i64 a) w := fun _ => by kernel_rfl
  have i3 : ∀ w, (Instr.index 70 (.agg #[.int .i64 s, .int .i64 h, .int .i64 a, .int .i64 b]) (.int .i64 3)).run Try.prog w = .ok (.int .i64 b) w := fun _ => by kernel_rfl
  rcases Int.lt_or_le s (-1000000) with ls | ls
  · go_enter Try.func37, Try.ntmps37
    go_wp2
    go_rounds 5
    go_ret
    exact Ret.mk1 (boolv (by simp [exB, inB]; omega)) (by repeat' (first | with_reducible exact Below.refl _ _ | with_reducible assumption | with_reducible refine below_drewN ?_ _ | with_reducible refine Below.drew ?_ | with_reducible refine Below.alloc ?_ ?_ _ | with_reducible refine Below.setCell ?_ ?_ _ | go_size))
  rcases Int.lt_or_le 1000000 s with us | us
  · go_enter Try.func37, Try.ntmps37
    go_wp2
    go_rounds 5
    go_ret
    exact Ret.mk1 (boolv (by simp [exB, inB]; omega)) (by repeat' (first | with_reducible exact Below.refl _ _ | with_reducible assumption | with_reducible refine below_drewN ?_ _ | with_reducible refine Below.drew ?_ | with_reducible refine Below.alloc ?_ ?_ _ | with_reducible refine Below.setCell ?_ ?_ _ | go_size))
  rcases Int.lt_or_le h (-1000000) with lh | lh
  · go_enter Try.func37, Try.ntmps37
    go_wp2
    go_rounds 5
    go_ret
    exact Ret.mk1 (boolv (by simp [exB, inB]; omega)) (by repeat' (first | with_reducible exact Below.refl _ _ | with_reducible assumption | with_reducible refine below_drewN ?_ _ | with_reducible refine Below.drew ?_ | with_reducible refine Below.alloc ?_ ?_ _ | with_reducible refine Below.setCell ?_ ?_ _ | go_size))
  rcases Int.lt_or_le 1000000 h with uh | uh
  · go_enter Try.func37, Try.ntmps37
    go_wp2
    go_rounds 5
    go_ret
    exact Ret.mk1 (boolv (by simp [exB, inB]; omega)) (by repeat' (first | with_reducible exact Below.refl _ _ | with_reducible assumption | with_reducible refine below_drewN ?_ _ | with_reducible refine Below.drew ?_ | with_reducible refine Below.alloc ?_ ?_ _ | with_reducible refine Below.setCell ?_ ?_ _ | go_size))
  rcases Int.lt_or_le a (-1000000) with la | la
  · go_enter Try.func37, Try.ntmps37
    go_wp2
    go_rounds 5
    go_ret
    exact Ret.mk1 (boolv (by simp [exB, inB]; omega)) (by repeat' (first | with_reducible exact Below.refl _ _ | with_reducible assumption | with_reducible refine below_drewN ?_ _ | with_reducible refine Below.drew ?_ | with_reducible refine Below.alloc ?_ ?_ _ | with_reducible refine Below.setCell ?_ ?_ _ | go_size))
  rcases Int.lt_or_le 1000000 a with ua | ua
  · go_enter Try.func37, Try.ntmps37
    go_wp2
    go_rounds 5
    go_ret
    exact Ret.mk1 (boolv (by simp [exB, inB]; omega)) (by repeat' (first | with_reducible exact Below.refl _ _ | with_reducible assumption | with_reducible refine below_drewN ?_ _ | with_reducible refine Below.drew ?_ | with_reducible refine Below.alloc ?_ ?_ _ | with_reducible refine Below.setCell ?_ ?_ _ | go_size))
  rcases Int.lt_or_le b (-1000000) with lb | lb
  · go_enter Try.func37, Try.ntmps37
    go_wp2
    go_rounds 5
    go_ret
    exact Ret.mk1 (boolv (by simp [exB, inB]; omega)) (by repeat' (first | with_reducible exact Below.refl _ _ | with_reducible assumption | with_reducible refine below_drewN ?_ _ | with_reducible refine Below.drew ?_ | with_reducible refine Below.alloc ?_ ?_ _ | with_reducible refine Below.setCell ?_ ?_ _ | go_size))
  rcases Int.lt_or_le 1000000 b with ub | ub
  · go_enter Try.func37, Try.ntmps37
    go_wp2
    go_rounds 5
    go_ret
    exact Ret.mk1 (boolv (by simp [exB, inB]; omega)) (by repeat' (first | with_reducible exact Below.refl _ _ | with_reducible assumption | with_reducible refine below_drewN ?_ _ | with_reducible refine Below.drew ?_ | with_reducible refine Below.alloc ?_ ?_ _ | with_reducible refine Below.setCell ?_ ?_ _ | go_size))
  rcases Int.lt_or_le a h with ah | ah
  · go_enter Try.func37, Try.ntmps37
    go_wp2
    go_rounds 5
    go_ret
    exact Ret.mk1 (boolv (by simp [exB, inB]; omega)) (by repeat' (first | with_reducible exact Below.refl _ _ | with_reducible assumption | with_reducible refine below_drewN ?_ _ | with_reducible refine Below.drew ?_ | with_reducible refine Below.alloc ?_ ?_ _ | with_reducible refine Below.setCell ?_ ?_ _ | go_size))
  rcases Int.lt_or_le (b - s) (a - h) with bs | bs
  · go_enter Try.func37, Try.ntmps37
    go_wp2
    go_rounds 5
    go_ret
    exact Ret.mk1 (boolv (by simp [exB, inB]; omega)) (by repeat' (first | with_reducible exact Below.refl _ _ | with_reducible assumption | with_reducible refine below_drewN ?_ _ | with_reducible refine Below.drew ?_ | with_reducible refine Below.alloc ?_ ?_ _ | with_reducible refine Below.setCell ?_ ?_ _ | go_size))
  · go_enter Try.func37, Try.ntmps37
    go_wp2
    go_rounds 5
    go_ret
    exact Ret.mk1 (boolv (by simp [exB, inB]; omega)) (by repeat' (first | with_reducible exact Below.refl _ _ | with_reducible assumption | with_reducible refine below_drewN ?_ _ | with_reducible refine Below.drew ?_ | with_reducible refine Below.alloc ?_ ?_ _ | with_reducible refine Below.setCell ?_ ?_ _ | go_size))

/-- what ClockOffset returns -/
def coV (s h a b : Int) : Value := if exB s h a b then .tuple #[.int .i64 (h - s + a - b), .int .i64 (b - s - (a - h))] else .tuple #[.int .i64 0, .int .i64 0]
theorem coV_false {s h a b : Int} (hx : exB s h a b = false) : coV s h a b = .tuple #[.int .i64 0, .int .i64 0] := by simp [coV, hx]
theorem coV_true {s h a b : Int} (hx : exB s h a b = true) : coV s h a b = .tuple #[.int .i64 (h - s + a - b), .int .i64 (b - s - (a - h))] := by simp [coV, hx]

theorem specClockOffset_c (s h a b : Int) (w : World) :
    Calls Try.prog 41 #[ex s h a b] w (Ret w fun v _ => v = coV s h a b) := by
  unfold ex
  cases hx : exB s h a b
  · rw [coV_false hx]
    go_enter Try.func41, Try.ntmps41
    go_wp2_with fail
    refine (specExchangeValid_c s h a b _).mono ?_
    rintro e w1 ⟨v, rfl, rfl, hb⟩
    have HB := Lib.hid (below_of_alloc hb)
    clear hb
    go_wp2
    go_ret2
    exact Ret.mk1 rfl HB.out
  · rw [coV_true hx]
    obtain ⟨⟨a1, a2⟩, ⟨b1, b2⟩, ⟨c1, c2⟩, ⟨d1, d2⟩, e1⟩ := exB_true.1 hx
    go_enter Try.func41, Try.ntmps41
    go_wp2_with fail
    refine (specExchangeValid_c s h a b _).mono ?_
    rintro e w1 ⟨v, rfl, rfl, hb⟩
    have HB := Lib.hid (below_of_alloc hb)
    obtain ⟨hc0, hc1, hc2, hc3⟩ := alloc4 hb
    clear hb
    go_wp2
    go_quiet (fail)
    go_wp2
    go_ret2
    exact Ret.mk1 rfl (below_drewN HB.out _)

theorem implClockOffset_c (s h a b : Int) (w : World) :
    Calls Try.prog 40 #[ex s h a b] w (Ret w fun v _ => v = coV s h a b) := by
  cases hx : exB s h a b
  · rw [coV_false hx]
    unfold ex
    go_enter Try.func40, Try.ntmps40
    go_wp2_with fail
    refine (implExchangeValid_c s h a b _).mono ?_
    rintro e w1 ⟨v, rfl, rfl, hb⟩
    have HB := Lib.hid (below_of_alloc hb)
    clear hb
    go_wp2
    go_ret2
    exact Ret.mk1 rfl HB.out
  · rw [coV_true hx]
    obtain ⟨⟨a1, a2⟩, ⟨b1, b2⟩, ⟨c1, c2⟩, ⟨d1, d2⟩, e1⟩ := exB_true.1 hx
    unfold ex
    go_enter Try.func40, Try.ntmps40
    go_wp2_with fail
    refine (implExchangeValid_c s h a b _).mono ?_
    rintro e w1 ⟨v, rfl, rfl, hb⟩
    have HB := Lib.hid (below_of_alloc hb)
    obtain ⟨hc0, hc1, hc2, hc3⟩ := alloc4 hb
    clear hb
    go_wp2
    go_region_held3 (fun wr => wr.cell? ⟨w.heap.size, 0, none⟩ = some (.int .i64 s) ∧ wr.cell? ⟨w.heap.size, 1, none⟩ = some (.int .i64 h) ∧ wr.cell? ⟨w.heap.size, 2, none⟩ = some (.int .i64 a) ∧ wr.cell? ⟨w.heap.size, 3, none⟩ = some (.int .i64 b)) (first | exact ⟨hc0, hc1, hc2, hc3⟩ | exact kept4 hb2 ⟨hc0, hc1, hc2, hc3⟩) (first | (go_at_call 60; refine (delayOf_c _ _ _ _ _ (by omega) (by omega) (by omega) (by omega)).mono ?_; rintro e w2 ⟨v, rfl, rfl, hb2⟩))
    go_wp2
    go_ret2
    refine Ret.mk1 (tup2 (intv ?_) (intv rfl)) (HB.out.trans ((below_undrew hb2).mono HB.out.size))
    rw [IntWalk.i64_in (h - s) (by omega), IntWalk.i64_in (a - b) (by omega), IntWalk.i64_in _ (by omega)]
    omega




end Go.Proofs.Ytfllfbmdnokmnaa
