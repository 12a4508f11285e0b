import Derived.Test.YtfllfbmdnokmnaaProg
import Derived.Test.YtfllfbmdnokmnaaLib
import Derived.Test.YtfllfbmdnokmnaaNum
namespace Go.Proofs.Ytfllfbmdnokmnaa
open Go.RowKit

/-- 1 << sh -/
def pw (sh : Int) : Int := (2 : Int) ^ sh.toNat

theorem sh_cases {sh : Int} (h0 : 0 ≤ sh) (h1 : sh ≤ 10) : sh = 0 ∨ sh = 1 ∨ sh = 2 ∨ sh = 3 ∨ sh = 4 ∨ sh = 5 ∨ sh = 6 ∨ sh = 7 ∨ sh = 8 ∨ sh = 9 ∨ sh = 10 := by omega

theorem pw_bd {sh : Int} (h0 : 0 ≤ sh) (h1 : sh ≤ 10) : 1 ≤ pw sh ∧ pw sh ≤ 1024 := by
  rcases sh_cases h0 h1 with h | h | h | h | h | h | h | h | h | h | h <;> subst h <;> decide

theorem pw_wrap {sh : Int} (h0 : 0 ≤ sh) (h1 : sh ≤ 10) : wrap64 (2 ^ sh.toNat) = pw sh := by
  have := pw_bd h0 h1
  show wrap64 (pw sh) = pw sh
  exact IntWalk.wrap64_in _ (by omega)

/-- o divided by 1 << sh, towards 0 -/
def tq (o sh : Int) : Int := o.tdiv (pw sh)
theorem tdiv_neg {o k : Int} (h : o ≤ 0) : o.tdiv k = -((-o) / k) := by
  rw [← Int.tdiv_eq_ediv_of_nonneg (by omega), Int.neg_tdiv, Int.neg_neg]
theorem tq_bd {o sh : Int} (h0 : 0 ≤ sh) (h1 : sh ≤ 10) : (0 ≤ o → 0 ≤ tq o sh ∧ tq o sh ≤ o) ∧ (o ≤ 0 → o ≤ tq o sh ∧ tq o sh ≤ 0) := by
  unfold tq
  constructor
  · intro ho
    rw [Int.tdiv_eq_ediv_of_nonneg ho]
    rcases sh_cases h0 h1 with h | h | h | h | h | h | h | h | h | h | h <;> subst h <;> simp only [pw] <;> simp <;> omega
  · intro ho
    rw [tdiv_neg ho]
    rcases sh_cases h0 h1 with h | h | h | h | h | h | h | h | h | h | h <;> subst h <;> simp only [pw] <;> simp <;> omega
theorem tq_wrap {o sh : Int} (h0 : 0 ≤ sh) (h1 : sh ≤ 10) (a1 : -1000000 ≤ o) (a2 : o ≤ 1000000) : wrap64 (o.tdiv (pw sh)) = tq o sh := by
  have := tq_bd (o := o) h0 h1
  show wrap64 (tq o sh) = tq o sh
  exact IntWalk.wrap64_in _ (by omega)

/-- the arguments that are taken -/
def stB (o sh l : Int) : Bool := inB o (-1000000) 1000000 && inB sh 0 10 && inB l 1 1000000
/-- the correction, for arguments that are taken -/
def stP (o sh l : Int) : Int := if clipI (tq o sh) (-l) l = 0 then cmpI o 0 else clipI (tq o sh) (-l) l
def stV (o sh l : Int) : Int := if stB o sh l then stP o sh l else 0
theorem stV_false {o sh l : Int} (h : stB o sh l = false) : stV o sh l = 0 := by simp [stV, h]
theorem stV_true {o sh l : Int} (h : stB o sh l = true) : stV o sh l = stP o sh l := by simp [stV, h]

theorem stP_eq {o sh l q : Int} (h : clipI (tq o sh) (-l) l = q) : stP o sh l = if q = 0 then cmpI o 0 else q := by subst h; rfl

theorem implSteerClock_c (o sh l : Int) (w : World) :
    Calls Try.prog 43 #[.int .i64 o, .int .i64 sh, .int .i64 l] w (RetQ w (.int .i64 (stV o sh l))) := by
  by_cases hv : stB o sh l = true
  · rw [stV_true hv]
    simp only [stB, Bool.and_eq_true, inB_true] at hv
    obtain ⟨⟨⟨a1, a2⟩, b1, b2⟩, c1, c2⟩ := hv
    have hp := pw_wrap b1 b2
    have hq := tq_wrap b1 b2 a1 a2
    obtain ⟨p1, p2⟩ := pw_bd b1 b2
    obtain ⟨q, hQ⟩ : ∃ q, clipI (tq o sh) (-l) l = q := ⟨_, rfl⟩
    have hc : clampI (tq o sh) (-l) l = q := by rw [clamp_eq_clip (by omega)]; exact hQ
    rw [stP_eq hQ]
    have HC := Lib.hid hc
    clear hc hQ
    by_cases hz : q = 0
    · subst hz
      go_enter Try.func43, Try.ntmps43
      go_wp2_with fail
      refine (clamp_c _ _ _ _).mono ?_
      rintro e w1 ⟨rfl, n, rfl⟩
      first | rw [show clampI (o.tdiv (pw sh)) (-l) l = _ from HC.out] | rw [HC.out]
      go_wp2_with fail
      refine (cmp_c _ _ _).mono ?_
      rintro e w1 ⟨rfl, m, rfl⟩
      go_wp2
      go_ret
      exact RetQ.mk1 rfl (by first | exact ⟨_, rfl⟩ | exact ⟨_, drewN_add _ _ _⟩)
    · have hz1 : (q == 0) = false := by simpa using hz
      rw [if_neg hz]
      clear hz
      go_enter Try.func43, Try.ntmps43
      go_wp2_with fail
      refine (clamp_c _ _ _ _).mono ?_
      rintro e w1 ⟨rfl, n, rfl⟩
      first | rw [show clampI (o.tdiv (pw sh)) (-l) l = _ from HC.out] | rw [HC.out]
      go_wp2
      go_ret
      exact RetQ.mk1 rfl (by first | exact ⟨_, rfl⟩ | exact ⟨_, drewN_add _ _ _⟩)
  · have hv : stB o sh l = false := by simpa using hv
    rw [stV_false hv]
    simp only [stB, Bool.and_eq_false_iff, inB_false] at hv
    by_cases a1 : o < -1000000
    · clear hv; go_enter Try.func43, Try.ntmps43; go_wp2; go_ret; exact RetQ.mk0 rfl
    by_cases a2 : 1000000 < o
    · clear hv; go_enter Try.func43, Try.ntmps43; go_wp2; go_ret; exact RetQ.mk0 rfl
    by_cases a3 : sh < 0
    · clear hv; go_enter Try.func43, Try.ntmps43; go_wp2; go_ret; exact RetQ.mk0 rfl
    by_cases a4 : 10 < sh
    · clear hv; go_enter Try.func43, Try.ntmps43; go_wp2; go_ret; exact RetQ.mk0 rfl
    by_cases a5 : l < 1
    · clear hv; go_enter Try.func43, Try.ntmps43; go_wp2; go_ret; exact RetQ.mk0 rfl
    have a6 : 1000000 < l := by omega
    clear hv; go_enter Try.func43, Try.ntmps43; go_wp2; go_ret; exact RetQ.mk0 rfl

theorem specSteerClock_c (o sh l : Int) (w : World) :
    Calls Try.prog 44 #[.int .i64 o, .int .i64 sh, .int .i64 l] w (RetQ w (.int .i64 (stV o sh l))) := by
  cases ho : inB o (-1000000) 1000000
  · rw [stV_false (by simp [stB, ho])]
    go_enter Try.func44, Try.ntmps44
    go_wp2_with (go_at_call 46; refine (l1In_c _ _ _ _).mono ?_; rintro e w' ⟨rfl, n, rfl⟩)
    go_ret; exact RetQ.mk1 rfl (by first | exact ⟨_, rfl⟩ | exact ⟨_, drewN_add _ _ _⟩)
  cases hs : inB sh 0 10
  · rw [stV_false (by simp [stB, hs])]
    go_enter Try.func44, Try.ntmps44
    go_wp2_with (go_at_call 46; refine (l1In_c _ _ _ _).mono ?_; rintro e w' ⟨rfl, n, rfl⟩)
    go_ret; exact RetQ.mk1 rfl (by first | exact ⟨_, rfl⟩ | exact ⟨_, drewN_add _ _ _⟩)
  cases hl : inB l 1 1000000
  · rw [stV_false (by simp [stB, hl])]
    go_enter Try.func44, Try.ntmps44
    go_wp2_with (go_at_call 46; refine (l1In_c _ _ _ _).mono ?_; rintro e w' ⟨rfl, n, rfl⟩)
    go_ret; exact RetQ.mk1 rfl (by first | exact ⟨_, rfl⟩ | exact ⟨_, drewN_add _ _ _⟩)
  rw [stV_true (by simp [stB, ho, hs, hl])]
  obtain ⟨a1, a2⟩ := inB_true.1 ho
  obtain ⟨b1, b2⟩ := inB_true.1 hs
  obtain ⟨c1, c2⟩ := inB_true.1 hl
  have hp := pw_wrap b1 b2
  have hq := tq_wrap b1 b2 a1 a2
  obtain ⟨p1, p2⟩ := pw_bd b1 b2
  obtain ⟨q, hQ⟩ : ∃ q, clipI (tq o sh) (-l) l = q := ⟨_, rfl⟩
  by_cases h0 : o = 0
  · have hb : (o == 0) = true := by simpa using h0
    have hfin : stP o sh l = 0 := by
      subst h0
      have := tq_bd (o := 0) b1 b2
      have h0 : tq 0 sh = 0 := by omega
      rw [stP_eq hQ]; rw [h0] at hQ; subst hQ
      simp [clipI, cmpI]; omega
    have HF := Lib.hid hfin
    clear h0 hfin hQ
    go_enter Try.func44, Try.ntmps44
    go_wp2_with (go_at_call 46; refine (l1In_c _ _ _ _).mono ?_; rintro e w' ⟨rfl, n, rfl⟩)
    go_ret
    exact RetQ.mk1 (intv HF.out.symm) (by first | exact ⟨_, rfl⟩ | exact ⟨_, drewN_add _ _ _⟩)
  · have hb : (o == 0) = false := by simpa using h0
    rw [stP_eq hQ]
    have HC := Lib.hid hQ
    clear hQ
    by_cases hz : q = 0
    · subst hz
      rcases Int.lt_or_gt_of_ne h0 with hg | hg
      all_goals
        have hfin : cmpI o 0 = if 0 < o then 1 else -1 := by unfold cmpI; repeat (first | rw [if_pos (by omega)] | rw [if_neg (by omega)])
        rw [hfin]
        have HG := Lib.hid hg
        clear hfin h0 hg
        go_enter Try.func44, Try.ntmps44
        go_wp2_with (first | (go_at_call 46; refine (l1In_c _ _ _ _).mono ?_; rintro e w' ⟨rfl, n, rfl⟩) | (go_at_call 48; refine (l1Clip_c _ _ _ _).mono ?_; rintro e w' ⟨rfl, n, rfl⟩; (first | rw [show clipI (o.tdiv (pw sh)) (-l) l = _ from HC.out] | rw [HC.out]); have hg := HG.out))
        go_ret
        have hg := HG.out
        exact RetQ.mk1 (intv (by first | rfl | rw [if_pos hg] | rw [if_neg (by omega)])) (by first | exact ⟨_, rfl⟩ | exact ⟨_, drewN_add _ _ _⟩)
    · have hz1 : (q == 0) = false := by simpa using hz
      rw [if_neg hz]
      clear hz h0
      go_enter Try.func44, Try.ntmps44
      go_wp2_with (first | (go_at_call 46; refine (l1In_c _ _ _ _).mono ?_; rintro e w' ⟨rfl, n, rfl⟩) | (go_at_call 48; refine (l1Clip_c _ _ _ _).mono ?_; rintro e w' ⟨rfl, n, rfl⟩; (first | rw [show clipI (o.tdiv (pw sh)) (-l) l = _ from HC.out] | rw [HC.out])))
      go_ret
      exact RetQ.mk1 rfl (by first | exact ⟨_, rfl⟩ | exact ⟨_, drewN_add _ _ _⟩)


end Go.Proofs.Ytfllfbmdnokmnaa
