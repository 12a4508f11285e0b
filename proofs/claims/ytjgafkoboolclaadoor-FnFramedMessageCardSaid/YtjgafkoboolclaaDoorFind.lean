import Derived.Test.YtjgafkoboolclaaDoorProg
import Derived.Test.YtjgafkoboolclaaDoorLib
import Derived.Test.YtjgafkoboolclaaDoorMem
import Derived.Test.YtjgafkoboolclaaDoorNum
import Derived.Test.YtjgafkoboolclaaDoorSym
import Derived.Test.YtjgafkoboolclaaDoorInts
import Derived.Test.YtjgafkoboolclaaDoorApp
import Derived.Test.YtjgafkoboolclaaDoorBlk
import Derived.Test.YtjgafkoboolclaaDoorSS
import Derived.Test.YtjgafkoboolclaaDoorStuff
import Derived.Test.YtjgafkoboolclaaDoorCrc
import Derived.Test.YtjgafkoboolclaaDoorFlag
import Derived.Test.YtjgafkoboolclaaDoorRead
import Derived.Test.YtjgafkoboolclaaDoorRed
import Derived.Test.YtjgafkoboolclaaDoorRed2
namespace Go.Proofs.YtjgafkoboolclaaDoor
open Go.RowKit

theorem flagAt_iff {bs : List Int} {i : Nat} : flagAt bs i = true ↔ ∀ k, k < 8 → i + k < bs.length ∧ gi bs (i + k) = gi flagL k := by
  unfold flagAt
  simp only [Bool.and_eq_true, decide_eq_true_eq]
  constructor
  · rintro ⟨h, h0⟩ k hk
    refine ⟨by omega, ?_⟩
    have : k = 0 ∨ k = 1 ∨ k = 2 ∨ k = 3 ∨ k = 4 ∨ k = 5 ∨ k = 6 ∨ k = 7 := by omega
    obtain ⟨⟨⟨⟨⟨⟨⟨q0, q1⟩, q2⟩, q3⟩, q4⟩, q5⟩, q6⟩, q7⟩ := h0
    rcases this with rfl | rfl | rfl | rfl | rfl | rfl | rfl | rfl
    · exact q0
    · exact q1
    · exact q2
    · exact q3
    · exact q4
    · exact q5
    · exact q6
    · exact q7
  · intro h
    have h7 := h 7 (by decide)
    exact ⟨by omega, ⟨⟨⟨⟨⟨⟨⟨(h 0 (by decide)).2, (h 1 (by decide)).2⟩, (h 2 (by decide)).2⟩, (h 3 (by decide)).2⟩, (h 4 (by decide)).2⟩, (h 5 (by decide)).2⟩, (h 6 (by decide)).2⟩, h7.2⟩⟩
theorem flagAt_no {bs : List Int} {i k : Nat} (hk : k < 8) (h : ¬ (i + k < bs.length ∧ gi bs (i + k) = gi flagL k)) : flagAt bs i = false := by
  cases e : flagAt bs i
  · rfl
  · exact absurd (flagAt_iff.1 e k hk) h
theorem l20Flag_c (w : World) : Calls Tryd.prog 28 #[] w (Ret w fun v w' => OwnI w' w.heap.size 3 v flagL) := by
  have hs := (SH.start0 w).ownLit .i64 3 flagL (by simp [flagL, maxLen])
  go_enter Tryd.func28, Tryd.ntmps28
  go_wp2
  go_ret
  exact Ret.mk1 (SH.ownRet hs) hs.done
set_option maxHeartbeats 1000000 in
theorem l20FlagAt_c (va : Value) (xs : List Int) (p : Nat) (w : World) (h : RdI w va xs) (hl : xs.length ≤ 1048576) (hp : p ≤ 1048576) :
    Calls Tryd.prog 40 #[va, .int .i64 p] w (Ret w fun v _ => v = .bool (flagAt xs p)) := by
  obtain ⟨a, ca, rfl, ml⟩ := h.form
  have hs := SH.start w [rdP .i64 (.slice a xs.length ca) xs] (by simp only [List.forall_mem_cons]; exact ⟨⟨h, rdP_wr⟩, by simp⟩)
  clear h
  go_enter Tryd.func40, Tryd.ntmps40
  go_wp2_with fail
  refine (SH.own hs (by repeat' (first | with_reducible exact Below.refl _ _ | with_reducible assumption | with_reducible refine below_drewN ?_ _ | with_reducible refine Below.drew ?_ | with_reducible refine Below.alloc ?_ ?_ _ | with_reducible refine Below.setCell ?_ ?_ _ | go_size)) fun hs => l20Flag_c _).mono ?_
  rintro e w1 ⟨vf, rfl, hs⟩
  obtain ⟨af, cf, rfl, -⟩ := (OwnK.rd hs.p0).form
  go_wp2
  go_loopw [6] (fun i wr => ∃ k : Nat, k ≤ 8 ∧ i = .int .i64 k ∧ Hid (∀ j, j < k → p + j < xs.length ∧ gi xs (p + j) = gi flagL j) ∧ SH none w wr [ownP .i64 3 (.slice af flagL.length cf) flagL, rdP .i64 (.slice a xs.length ca) xs]) (fun i _ => 8 - (intOf i).toNat)
  case atStart => exact ⟨0, by decide, rfl, Lib.hid (fun j h => absurd h (Nat.not_lt_zero _)), hs⟩
  case round =>
    clear hs
    obtain ⟨k, hk, rfl, HM, hs⟩ := hrel
    by_cases hlt : k < 8
    · obtain ⟨bf, o1, rfl, hcf⟩ := (OwnK.rd hs.p0).at_ (i := k) (by show k < 8; exact hlt)
      obtain ⟨z, hz⟩ : ∃ z, gi flagL k = z := ⟨_, rfl⟩
      have HZ := Lib.hid hz
      rw [hz] at hcf
      clear hz
      have i0 : (0 : Int) ≤ (k : Int) := by omega
      have i1 : (k : Int) < 8 := by omega
      have i5 : (k : Int) < (flagL.length : Int) := by have : flagL.length = 8 := rfl; omega
      have w1 : IntKind.i64.wrap ((p : Int) + (k : Int)) = (p : Int) + (k : Int) := IntWalk.i64_in _ (by omega)
      by_cases hin : p + k < xs.length
      · obtain ⟨b, off, rfl, hc⟩ := (SH.p1 hs : RdK _ _ _ _).at_ hin
        obtain ⟨y, hy⟩ : ∃ y, gi xs (p + k) = y := ⟨_, rfl⟩
        have HY := Lib.hid hy
        rw [hy] at hc
        clear hy
        have e1 : decide ((p : Int) + (k : Int) ≥ (xs.length : Int)) = false := by rw [decide_eq_false_iff_not]; omega
        have i2 : (0 : Int) ≤ (p : Int) + (k : Int) := by omega
        have i3 : (p : Int) + (k : Int) < (xs.length : Int) := by omega
        have i4 : ((p : Int) + (k : Int)).toNat = p + k := by omega
        by_cases hyz : y = z
        · have e2 : (y != z) = false := by rw [hyz]; exact bne_self_eq_false _
          have HM2 : Hid (∀ j, j < k + 1 → p + j < xs.length ∧ gi xs (p + j) = gi flagL j) := Lib.hid fun j hj => by
            rcases Nat.lt_succ_iff_lt_or_eq.1 hj with h | rfl
            · exact HM.out j h
            · exact ⟨hin, by rw [HY.out, HZ.out, hyz]⟩
          clear hyz
          go_wp2
          go_quiet (fail)
          go_wp2
          go_roundw
          case rel => exact ⟨k + 1, hlt, by go_num, HM2, (by first | exact hs | exact (hs).alloc _ | exact ((hs).alloc _).alloc _ | exact (((hs).alloc _).alloc _).alloc _ | exact ((((hs).alloc _).alloc _).alloc _).alloc _ | exact (hs).drew | exact ((hs).alloc _).drew | exact (((hs).alloc _).alloc _).drew | exact ((((hs).alloc _).alloc _).alloc _).drew | exact (((((hs).alloc _).alloc _).alloc _).alloc _).drew | exact (hs).drewN _ | exact ((hs).alloc _).drewN _ | exact (((hs).alloc _).alloc _).drewN _ | exact ((((hs).alloc _).alloc _).alloc _).drewN _ | exact (((((hs).alloc _).alloc _).alloc _).alloc _).drewN _)⟩
          case measure => simp [intOf]; omega
        · have e2 : (y != z) = true := by rw [bne_iff_ne]; exact hyz
          have HF : Hid (flagAt xs p = false) := flagAt_no hlt (fun h => hyz (by rw [← HY.out, ← HZ.out]; exact h.2))
          clear hyz
          go_wp2
          go_quiet (fail)
          go_wp2
          go_ret
          exact Ret.mk1 (boolv HF.out.symm) (SH.done (by first | exact hs | exact (hs).alloc _ | exact ((hs).alloc _).alloc _ | exact (((hs).alloc _).alloc _).alloc _ | exact ((((hs).alloc _).alloc _).alloc _).alloc _ | exact (hs).drew | exact ((hs).alloc _).drew | exact (((hs).alloc _).alloc _).drew | exact ((((hs).alloc _).alloc _).alloc _).drew | exact (((((hs).alloc _).alloc _).alloc _).alloc _).drew | exact (hs).drewN _ | exact ((hs).alloc _).drewN _ | exact (((hs).alloc _).alloc _).drewN _ | exact ((((hs).alloc _).alloc _).alloc _).drewN _ | exact (((((hs).alloc _).alloc _).alloc _).alloc _).drewN _))
      · have e1 : decide ((p : Int) + (k : Int) ≥ (xs.length : Int)) = true := by rw [decide_eq_true_eq]; omega
        have HF : Hid (flagAt xs p = false) := flagAt_no hlt (fun h => hin h.1)
        go_wp2
        go_quiet (fail)
        go_wp2
        go_ret
        exact Ret.mk1 (boolv HF.out.symm) (SH.done (by first | exact hs | exact (hs).alloc _ | exact ((hs).alloc _).alloc _ | exact (((hs).alloc _).alloc _).alloc _ | exact ((((hs).alloc _).alloc _).alloc _).alloc _ | exact (hs).drew | exact ((hs).alloc _).drew | exact (((hs).alloc _).alloc _).drew | exact ((((hs).alloc _).alloc _).alloc _).drew | exact (((((hs).alloc _).alloc _).alloc _).alloc _).drew | exact (hs).drewN _ | exact ((hs).alloc _).drewN _ | exact (((hs).alloc _).alloc _).drewN _ | exact ((((hs).alloc _).alloc _).alloc _).drewN _ | exact (((((hs).alloc _).alloc _).alloc _).alloc _).drewN _))
    · obtain rfl : k = 8 := by omega
      have HF : Hid (flagAt xs p = true) := flagAt_iff.2 HM.out
      go_wp2
      go_ret
      exact Ret.mk1 (boolv HF.out.symm) hs.done
/-- what lies between two flags: whether it is a frame's, and what it carries -/
def fbB (ys : List Int) : Bool := (unR ys).2 && chkB (unR ys).1 && decide ((unR ys).1.length ≤ 272)
def fbL (ys : List Int) : List Int := if fbB ys then (unR ys).1.take ((unR ys).1.length - 16) else []
theorem chkB_len {xs : List Int} (h : chkB xs = true) : 16 ≤ xs.length ∧ xs.length ≤ 1024 := by
  unfold chkB at h
  simp only [Bool.and_eq_true, decide_eq_true_eq] at h
  exact ⟨h.1.2, (bitsB_true.1 h.1.1).1⟩
set_option maxHeartbeats 1000000 in
theorem frameBetween_c (va : Value) (ys : List Int) (w : World) (h : RdI w va ys) (hl : ys.length ≤ 1048576) :
    Calls Tryd.prog 39 #[va] w (Ret w fun v w' => ∃ v', v = .tuple #[v', .bool (fbB ys)] ∧ OwnI w' w.heap.size 3 v' (fbL ys)) := by
  obtain ⟨a, ca, rfl, ml⟩ := h.form
  have hs := SH.start w [rdP .i64 (.slice a ys.length ca) ys] (by simp only [List.forall_mem_cons]; exact ⟨⟨h, rdP_wr⟩, by simp⟩)
  clear h
  obtain ⟨X, b, hX⟩ : ∃ X b, unR ys = (X, b) := ⟨_, _, rfl⟩
  have HX := Lib.hid hX
  clear hX
  go_enter Tryd.func39, Tryd.ntmps39
  go_wp2_with fail
  refine (SH.ownT (xs := (unR ys).1) (b := (unR ys).2) hs (by repeat' (first | with_reducible exact Below.refl _ _ | with_reducible assumption | with_reducible refine below_drewN ?_ _ | with_reducible refine Below.drew ?_ | with_reducible refine Below.alloc ?_ ?_ _ | with_reducible refine Below.setCell ?_ ?_ _ | go_size)) fun hs => implUnstuffBits_c _ ys _ hs.p0 hl).mono ?_
  rintro e w1 ⟨v1, rfl, hs⟩
  rw [HX.out] at hs ⊢
  obtain ⟨aX, cX, rfl, hcx, -⟩ := (OwnK.rd hs.p0).form'
  cases b
  · have HF : Hid (fbB ys = false ∧ fbL ys = []) := by
      have h1 : fbB ys = false := by unfold fbB; rw [HX.out]; rfl
      exact ⟨h1, by unfold fbL; rw [h1]; rfl⟩
    go_wp2
    go_ret2
    exact Ret.mk1 ⟨_, by (rw [HF.out.1]; rfl), by rw [HF.out.2]; exact OwnK.nil _ _ _ _⟩ hs.done
  · go_wp2_with fail
    refine (SH.ret hs (by repeat' (first | with_reducible exact Below.refl _ _ | with_reducible assumption | with_reducible refine below_drewN ?_ _ | with_reducible refine Below.drew ?_ | with_reducible refine Below.alloc ?_ ?_ _ | with_reducible refine Below.setCell ?_ ?_ _ | go_size)) fun hs => implCheckPasses_c _ X _ (OwnK.rd hs.p0)).mono ?_
    rintro e w2 ⟨v2, rfl, rfl, hs⟩
    cases hc : chkB X
    · have HF : Hid (fbB ys = false ∧ fbL ys = []) := by
        have h1 : fbB ys = false := by unfold fbB; rw [HX.out]; simp [hc]
        exact ⟨h1, by unfold fbL; rw [h1]; rfl⟩
      go_wp2
      go_ret2
      exact Ret.mk1 ⟨_, by (rw [HF.out.1]; rfl), by rw [HF.out.2]; exact OwnK.nil _ _ _ _⟩ hs.done
    · obtain ⟨h16, h1024⟩ := chkB_len hc
      obtain ⟨n, hn⟩ : ∃ n, X.length = n + 16 := ⟨X.length - 16, by omega⟩
      have w1 : IntKind.i64.wrap ((X.length : Int) - 16) = (n : Int) := by rw [hn]; rw [show (((n + 16 : Nat) : Int) - 16) = (n : Int) by omega]; exact IntWalk.i64_in _ (by omega)
      have i0 : (0 : Int) ≤ (n : Int) := by omega
      have i1 : (n : Int) ≤ (cX : Int) := by omega
      have i2 : (n : Int) ≤ (X.length : Int) := by omega
      have i3 : n ≤ cX := by omega
      have i4 : n ≤ X.length := by omega
      have i5 : n ≤ 1024 := by omega
      have HN := Lib.hid hn
      clear hn h16
      by_cases hbig : n ≤ 256
      · have HF : Hid (fbB ys = true ∧ fbL ys = X.take n) := by
          have h1 : fbB ys = true := by unfold fbB; rw [HX.out]; simp only [hc, Bool.and_self, Bool.true_and, decide_eq_true_eq]; have := HN.out; omega
          exact ⟨h1, by unfold fbL; rw [h1, HX.out]; simp only [if_true]; rw [show X.length - 16 = n by have := HN.out; omega]⟩
        have hd : decide ((n : Int) > 256) = false := by rw [decide_eq_false_iff_not]; omega
        have HT := Lib.hid (show (X.take n).length = n by rw [List.length_take]; omega)
        go_wp2_with fail
        refine (SH.quiet hs (by repeat' (first | with_reducible exact Below.refl _ _ | with_reducible assumption | with_reducible refine below_drewN ?_ _ | with_reducible refine Below.drew ?_ | with_reducible refine Below.alloc ?_ ?_ _ | with_reducible refine Below.setCell ?_ ?_ _ | go_size)) fun hs => degreeOf_c _).mono ?_
        rintro e w3 ⟨rfl, hs⟩
        go_wp2_with (at_builtin; refine wp_appKX (xs := []) (ys := X.take n) rfl rfl .i64 3 8 Tryd.underlying22 info_int rfl (hs.ownEmpty .i64 3) rfl (RdK.below (RdK.take (OwnK.rd hs.p0) i4) ((Below.refl _ _).alloc (Nat.le_refl _) _)) (by rw [List.length_nil, HT.out]; omega) (by rw [List.length_nil, HT.out]; unfold maxLen; omega) ?_; intro v4 w4 hs)
        go_ret2
        exact Ret.mk1 ⟨_, by (rw [HF.out.1]; rfl), by rw [HF.out.2]; exact SH.ownRet hs⟩ hs.done
      · have HF : Hid (fbB ys = false ∧ fbL ys = []) := by
          have h1 : fbB ys = false := by unfold fbB; rw [HX.out]; simp only [hc, Bool.and_self, Bool.true_and, decide_eq_false_iff_not]; have := HN.out; omega
          exact ⟨h1, by unfold fbL; rw [h1]; rfl⟩
        have hd : decide ((n : Int) > 256) = true := by rw [decide_eq_true_eq]; omega
        go_wp2_with fail
        refine (SH.quiet hs (by repeat' (first | with_reducible exact Below.refl _ _ | with_reducible assumption | with_reducible refine below_drewN ?_ _ | with_reducible refine Below.drew ?_ | with_reducible refine Below.alloc ?_ ?_ _ | with_reducible refine Below.setCell ?_ ?_ _ | go_size)) fun hs => degreeOf_c _).mono ?_
        rintro e w3 ⟨rfl, hs⟩
        go_wp2
        go_ret2
        exact Ret.mk1 ⟨_, by (rw [HF.out.1]; rfl), by rw [HF.out.2]; exact OwnK.nil _ _ _ _⟩ hs.done
end Go.Proofs.YtjgafkoboolclaaDoor
