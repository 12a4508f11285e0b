import Derived.Test.YtpcmfmkpgidgpaaDoorProg
import Derived.Test.YtpcmfmkpgidgpaaDoorLib
import Derived.Test.YtpcmfmkpgidgpaaDoorMem
import Derived.Test.YtpcmfmkpgidgpaaDoorNum
import Derived.Test.YtpcmfmkpgidgpaaDoorSym
import Derived.Test.YtpcmfmkpgidgpaaDoorApp
import Derived.Test.YtpcmfmkpgidgpaaDoorBlk
import Derived.Test.YtpcmfmkpgidgpaaDoorPair
namespace Go.Proofs.YtpcmfmkpgidgpaaDoor
open Go.RowKit

/-! Signals. -/
def sgAt (xs : List (Int × Int)) (i : Nat) : Bool := inB (bF xs i) (-100000) 100000 && inB (bL xs i) (-100000) 100000
def sgB (xs : List (Int × Int)) : Bool := decide (xs.length ≤ 256) && (List.range xs.length).all (sgAt xs)
theorem sgB_true {xs : List (Int × Int)} : sgB xs = true ↔ xs.length ≤ 256 ∧ ∀ i, i < xs.length → sgAt xs i = true := by
  simp [sgB]
theorem sgB_bad {xs : List (Int × Int)} {k : Nat} (hk : k < xs.length) (h : sgAt xs k = false) : sgB xs = false := by
  cases hb : sgB xs
  · rfl
  · have := (sgB_true.1 hb).2 k hk
    rw [h] at this; exact this.symm
theorem sgB_long {xs : List (Int × Int)} (h : 256 < xs.length) : sgB xs = false := by
  cases hb : sgB xs
  · rfl
  · have := (sgB_true.1 hb).1; omega
theorem sgAt_bd {xs : List (Int × Int)} {i : Nat} (h : sgAt xs i = true) : (-100000 ≤ bF xs i ∧ bF xs i ≤ 100000) ∧ (-100000 ≤ bL xs i ∧ bL xs i ≤ 100000) := by
  simp only [sgAt, Bool.and_eq_true, inB_true] at h; exact h
theorem sgAt_F {xs : List (Int × Int)} {i : Nat} (h : inB (bF xs i) (-100000) 100000 = false) : sgAt xs i = false := by simp [sgAt, h]
theorem sgAt_L {xs : List (Int × Int)} {i : Nat} (h : inB (bL xs i) (-100000) 100000 = false) : sgAt xs i = false := by simp [sgAt, h]

theorem levelValid_c (n : Int) (w : World) : Calls Tryd.prog 78 #[.int .i64 n] w (RetQ w (.bool (inB n (-100000) 100000))) := by
  rcases Int.lt_or_le n (-100000) with h | h
  · have e : inB n (-100000) 100000 = false := inB_false.2 (by omega)
    rw [e]
    go_enter Tryd.func78, Tryd.ntmps78
    go_wp2
    go_ret
    exact RetQ.mkS rfl (SameW.refl _)
  rcases Int.lt_or_le 100000 n with h2 | h2
  · have e : inB n (-100000) 100000 = false := inB_false.2 (by omega)
    rw [e]
    go_enter Tryd.func78, Tryd.ntmps78
    go_wp2
    go_ret
    exact RetQ.mkS (boolv (by simp; omega)) (SameW.refl _)
  · have e : inB n (-100000) 100000 = true := inB_true.2 ⟨h, h2⟩
    rw [e]
    go_enter Tryd.func78, Tryd.ntmps78
    go_wp2
    go_ret
    exact RetQ.mkS (boolv (by simp [h2])) (SameW.refl _)

theorem implSignalValid_c (va : Value) (xs : List (Int × Int)) (w : World) (h : RdM 2 w va xs.length (bC xs)) :
    Calls Tryd.prog 47 #[va] w (Ret w fun v _ => v = .bool (sgB xs)) := by
  obtain ⟨a, ca, rfl, ma⟩ := h.form
  have hs := SH.start w [rdMP 2 (.slice a xs.length ca) xs.length (bC xs)] (by simp only [List.forall_mem_cons]; exact ⟨⟨⟨h, by decide⟩, rdMP_wr⟩, by simp⟩)
  clear h
  by_cases hl : 256 < xs.length
  · go_enter Tryd.func47, Tryd.ntmps47
    go_wp2
    go_ret
    exact Ret.mk1 (boolv (sgB_long hl).symm) hs.done
  go_enter Tryd.func47, Tryd.ntmps47
  go_wp2
  go_loopw [4, 10] (fun _ i wr => ∃ k : Nat, k ≤ xs.length ∧ i = .int .i64 k ∧ Hid (∀ i, i < k → sgAt xs i = true) ∧ SH none w wr [rdMP 2 (.slice a xs.length ca) xs.length (bC xs)]) (fun _ i _ => xs.length - (intOf i).toNat)
  case atStart => exact ⟨0, Nat.zero_le _, rfl, Lib.hid (fun i h => absurd h (Nat.not_lt_zero _)), hs⟩
  case round =>
    obtain ⟨k, hk, rfl, HX, hs⟩ := hrel
    by_cases hlt : k < xs.length
    · obtain ⟨b, off, rfl, hc⟩ := hs.p0.1.at_ hlt
      have hc0 : wr.cell? ⟨b, off + k * 2, none⟩ = some (.int .i64 (bF xs k)) := hc 0 (by decide)
      have hc1 : wr.cell? ⟨b, off + k * 2 + 1, none⟩ = some (.int .i64 (bL xs k)) := hc 1 (by decide)
      clear hc
      have hs := hs.allocP #[.int .i64 (bF xs k), .int .i64 (bL xs k)] 57
      go_wp2_with fail
      refine (SH.quiet hs (Below.refl _ _) fun hs => levelValid_c (bF xs k) _).mono ?_
      rintro e w2 ⟨rfl, hs⟩
      clear hc0 hc1
      cases h1 : inB (bF xs k) (-100000) 100000
      · go_wp2
        go_ret
        exact Ret.mk1 (boolv (sgB_bad hlt (sgAt_F h1)).symm) hs.done
      have hb := (show w2.heap[wr.heap.size]? = _ from hs.p0)
      have b0 := blk_cell hb 0
      have b1 := blk_cell hb 1
      clear hb
      go_wp2_with fail
      refine (SH.quiet hs (Below.refl _ _) fun hs => levelValid_c (bL xs k) _).mono ?_
      rintro e w3 ⟨rfl, hs⟩
      clear b0 b1
      cases h2 : inB (bL xs k) (-100000) 100000
      · go_wp2
        go_ret
        exact Ret.mk1 (boolv (sgB_bad hlt (sgAt_L h2)).symm) hs.done
      · have HX2 : Hid (∀ i, i < k + 1 → sgAt xs i = true) := Lib.hid (fun i hi => by
          rcases Nat.lt_succ_iff_lt_or_eq.1 hi with h3 | rfl
          · exact HX.out i h3
          · simp [sgAt, h1, h2])
        go_wp2
        go_roundw
        case rel => exact ⟨k + 1, hlt, by go_num, HX2, hs.drop0⟩
        case measure => simp [intOf]; omega
    · obtain rfl : k = xs.length := by omega
      go_wp2
      go_ret
      exact Ret.mk1 (boolv (sgB_true.2 ⟨by omega, HX.out⟩).symm) hs.done

theorem specSignalValid_c (va : Value) (xs : List (Int × Int)) (w : World) (h : RdM 2 w va xs.length (bC xs)) :
    Calls Tryd.prog 52 #[va] w (RetQ w (.bool (sgB xs))) := by
  obtain ⟨a, ca, rfl, ma⟩ := h.form
  have H := Lib.hid h
  clear h
  go_enter Tryd.func52, Tryd.ntmps52
  go_wp2
  go_loopw [3] (fun i wr => ∃ k : Nat, k ≤ xs.length ∧ i = .int .i64 k ∧ SameW w wr ∧ Hid (∀ i, i < k → sgAt xs i = true)) (fun i _ => xs.length - (intOf i).toNat)
  case atStart => exact ⟨0, Nat.zero_le _, rfl, SameW.refl _, Lib.hid (fun i h => absurd h (Nat.not_lt_zero _))⟩
  case round =>
    obtain ⟨k, hk, rfl, hsame, HX⟩ := hrel
    have HS := Lib.hid hsame
    clear hsame
    by_cases hlt : k < xs.length
    · obtain ⟨b, off, rfl, hc⟩ := (H.out.below (by decide) HS.out.below).at_ hlt
      have hc0 : wr.cell? ⟨b, off + k * 2, none⟩ = some (.int .i64 (bF xs k)) := hc 0 (by decide)
      clear hc
      go_wp2_with fail
      refine (l1In_c (bF xs k) (-100000) 100000 _).mono ?_
      rintro e w1 hr
      obtain ⟨rfl, hs1⟩ := hr.same
      have HS1 := Lib.hid (HS.out.trans hs1)
      clear hs1 hr hc0
      cases h1 : inB (bF xs k) (-100000) 100000
      · go_wp2
        go_ret
        exact RetQ.mkS (boolv (sgB_bad hlt (sgAt_F h1)).symm) HS1.out
      obtain ⟨b', off', he, hc⟩ := (H.out.below (by decide) HS1.out.below).at_ hlt
      simp only [Option.some.injEq, Addr.mk.injEq, and_true] at he
      obtain ⟨rfl, rfl⟩ := he
      have hc1 : w1.cell? ⟨b, off + k * 2 + 1, none⟩ = some (.int .i64 (bL xs k)) := hc 1 (by decide)
      clear hc
      go_wp2_with fail
      refine (l1In_c (bL xs k) (-100000) 100000 _).mono ?_
      rintro e w2 hr
      obtain ⟨rfl, hs1⟩ := hr.same
      have HS2 := Lib.hid (HS1.out.trans hs1)
      clear hs1 hr hc1
      cases h2 : inB (bL xs k) (-100000) 100000
      · go_wp2
        go_ret
        exact RetQ.mkS (boolv (sgB_bad hlt (sgAt_L h2)).symm) HS2.out
      · have HX2 : Hid (∀ i, i < k + 1 → sgAt xs i = true) := Lib.hid (fun i hi => by
          rcases Nat.lt_succ_iff_lt_or_eq.1 hi with h3 | rfl
          · exact HX.out i h3
          · simp [sgAt, h1, h2])
        go_wp2
        go_roundw
        case rel => exact ⟨k + 1, hlt, by go_num, HS2.out, HX2⟩
        case measure => simp [intOf]; omega
    · obtain rfl : k = xs.length := by omega
      have HF : Hid (sgB xs = decide ((xs.length : Int) ≤ 256)) := by
        unfold Hid
        by_cases h : xs.length ≤ 256
        · rw [sgB_true.2 ⟨h, HX.out⟩]; simp; omega
        · rw [sgB_long (by omega)]; simp; omega
      go_wp2
      go_ret
      exact RetQ.mkS (boolv HF.out.symm) HS.out

/-- the samples from a on, n of them, turned over -/
def dsL (xs : List (Int × Int)) (a n : Nat) : List (Int × Int) := (List.range xs.length).map fun i => (if a ≤ i ∧ i < a + n then -bF xs i else bF xs i, bL xs i)
theorem length_dsL (xs : List (Int × Int)) (a n : Nat) : (dsL xs a n).length = xs.length := by simp [dsL]
theorem bF_dsL {xs : List (Int × Int)} {a n i : Nat} (h : i < xs.length) : bF (dsL xs a n) i = if a ≤ i ∧ i < a + n then -bF xs i else bF xs i := by simp [bF, dsL, h]
theorem bL_dsL {xs : List (Int × Int)} {a n i : Nat} (h : i < xs.length) : bL (dsL xs a n) i = bL xs i := by simp [bL, dsL, h]
theorem dsL_zero (xs : List (Int × Int)) (a : Nat) : dsL xs a 0 = xs :=
  band_ext (length_dsL _ _ _) fun i hi => by
    rw [length_dsL] at hi
    rw [bF_dsL hi, bL_dsL hi, if_neg (by omega)]; exact ⟨rfl, rfl⟩
def dsB (xs : List (Int × Int)) (a n : Int) : Bool := sgB xs && inB a 0 xs.length && decide (0 ≤ n) && decide (n ≤ (xs.length : Int) - a)
def dsV (xs : List (Int × Int)) (a n : Int) : List (Int × Int) := if dsB xs a n then dsL xs a.toNat n.toNat else []
theorem dsV_bad {xs : List (Int × Int)} {a n : Int} (h : dsB xs a n = false) : dsV xs a n = [] := by simp [dsV, h]
theorem dsB_sg {xs : List (Int × Int)} {a n : Int} (h : sgB xs = false) : dsB xs a n = false := by simp [dsB, h]
theorem dsB_at {xs : List (Int × Int)} {a n : Int} (h : inB a 0 xs.length = false) : dsB xs a n = false := by simp [dsB, h]
theorem dsB_n0 {xs : List (Int × Int)} {a n : Int} (h : n < 0) : dsB xs a n = false := by
  have : ¬ 0 ≤ n := by omega
  simp [dsB, this]
theorem dsB_n1 {xs : List (Int × Int)} {a n : Int} (h : (xs.length : Int) - a < n) : dsB xs a n = false := by
  have : ¬ n ≤ (xs.length : Int) - a := by omega
  simp [dsB, this]
theorem dsV_ok {xs : List (Int × Int)} {a n : Nat} (h : sgB xs = true) (h2 : a + n ≤ xs.length) : dsV xs a n = dsL xs a n := by
  have h3 : dsB xs a n = true := by
    have h4 : inB (a : Int) 0 xs.length = true := inB_true.2 (by omega)
    have h5 : (n : Int) ≤ (xs.length : Int) - a := by omega
    simp [dsB, h, h4, h5]
  simp [dsV, h3]
theorem dsL_step {xs : List (Int × Int)} {a k : Nat} (h : a + k < xs.length) (i j : Nat) (hi : i < xs.length) (hj : j < 2) :
    updC (bC (dsL xs a k)) (a + k) (fun j' => if j' = 0 then .int .i64 (-bF xs (a + k)) else bC (dsL xs a k) (a + k) j') i j = bC (dsL xs a (k + 1)) i j := by
  unfold updC bC
  rw [bF_dsL hi, bF_dsL hi, bF_dsL h, bL_dsL hi, bL_dsL hi, bL_dsL h]
  by_cases e : i = a + k
  · subst e
    by_cases ej : j = 0
    · subst ej; simp
    · simp [ej]
  · rw [if_neg e]
    by_cases ej : j = 0
    · subst ej
      simp only [if_true]
      by_cases c1 : a ≤ i ∧ i < a + k
      · rw [if_pos c1, if_pos (by omega)]
      · rw [if_neg c1, if_neg (by omega)]
    · simp [ej]

set_option maxRecDepth 100000 in
set_option maxHeartbeats 4000000 in
theorem implDisturbSamples_c (va : Value) (xs : List (Int × Int)) (a n : Int) (w : World) (h : RdM 2 w va xs.length (bC xs)) (ha : (Lit.int .i64 a).wf = true) (hn : (Lit.int .i64 n).wf = true) :
    Calls Tryd.prog 20 #[va, .int .i64 a, .int .i64 n] w (Ret w fun v w' => OwnM 2 w' w.heap.size 57 v (dsV xs a n).length (bC (dsV xs a n))) := by
  obtain ⟨b, cb, rfl, mb⟩ := h.form
  have hs := SH.start w [rdMP 2 (.slice b xs.length cb) xs.length (bC xs)] (by simp only [List.forall_mem_cons]; exact ⟨⟨⟨h, by decide⟩, rdMP_wr⟩, by simp⟩)
  clear h
  have wa := wf_i64 ha
  have wn := wf_i64 hn
  clear ha hn
  go_enter Tryd.func20, Tryd.ntmps20
  go_wp2_with fail
  refine (SH.ret hs (by repeat' (first | with_reducible exact Below.refl _ _ | with_reducible assumption | with_reducible refine below_drewN ?_ _ | with_reducible refine Below.drew ?_ | with_reducible refine Below.alloc ?_ ?_ _ | with_reducible refine Below.setCell ?_ ?_ _ | go_size)) fun hs => implSignalValid_c _ xs _ hs.p0.1).mono ?_
  rintro e w1 ⟨v, rfl, rfl, hs⟩
  cases hsg : sgB xs
  · have HE := Lib.hid (dsV_bad (xs := xs) (a := a) (n := n) (dsB_sg hsg))
    go_wp2_with (go_at_call 65; refine (SH.quiet hs (Below.refl _ _) fun hs => l1In_c _ _ _ _).mono ?_; rintro e w5 ⟨rfl, hs⟩)
    all_goals go_ret
    all_goals first | exact Ret.mk1 (by rw [HE.out]; exact SH.ownRetM (hs.ownEmptyM 2 (by decide) 57 (bC []))) (SH.done (hs.ownEmptyM 2 (by decide) 57 (bC []))) | exact Ret.mk1 (by rw [HE.out]; exact OwnM.nil 2 _ _ _ _) hs.done
  obtain ⟨hxl, hbd⟩ := sgB_true.1 hsg
  have HBD := Lib.hid hbd
  have HSG := Lib.hid hsg
  clear hbd hsg
  by_cases n0 : n < 0
  · have HE := Lib.hid (dsV_bad (xs := xs) (a := a) (n := n) (dsB_n0 n0))
    go_wp2_with (go_at_call 65; refine (SH.quiet hs (Below.refl _ _) fun hs => l1In_c _ _ _ _).mono ?_; rintro e w5 ⟨rfl, hs⟩)
    all_goals go_ret
    all_goals first | exact Ret.mk1 (by rw [HE.out]; exact SH.ownRetM (hs.ownEmptyM 2 (by decide) 57 (bC []))) (SH.done (hs.ownEmptyM 2 (by decide) 57 (bC []))) | exact Ret.mk1 (by rw [HE.out]; exact OwnM.nil 2 _ _ _ _) hs.done
  cases hin : inB a 0 xs.length
  · have hbad := inB_false.1 hin
    rcases Int.lt_or_le a 0 with a0 | a0
    all_goals
      have HE := Lib.hid (dsV_bad (xs := xs) (a := a) (n := n) (dsB_at hin))
      go_wp2_with (go_at_call 65; refine (SH.quiet hs (Below.refl _ _) fun hs => l1In_c _ _ _ _).mono ?_; rintro e w5 ⟨rfl, hs⟩)
      all_goals go_ret
      all_goals first | exact Ret.mk1 (by rw [HE.out]; exact SH.ownRetM (hs.ownEmptyM 2 (by decide) 57 (bC []))) (SH.done (hs.ownEmptyM 2 (by decide) 57 (bC []))) | exact Ret.mk1 (by rw [HE.out]; exact OwnM.nil 2 _ _ _ _) hs.done
  obtain ⟨a0, a1⟩ := inB_true.1 hin
  by_cases n1 : (xs.length : Int) - a < n
  · have HE := Lib.hid (dsV_bad (xs := xs) (a := a) (n := n) (dsB_n1 n1))
    go_wp2_with (go_at_call 65; refine (SH.quiet hs (Below.refl _ _) fun hs => l1In_c _ _ _ _).mono ?_; rintro e w5 ⟨rfl, hs⟩)
    all_goals go_ret
    all_goals first | exact Ret.mk1 (by rw [HE.out]; exact SH.ownRetM (hs.ownEmptyM 2 (by decide) 57 (bC []))) (SH.done (hs.ownEmptyM 2 (by decide) 57 (bC []))) | exact Ret.mk1 (by rw [HE.out]; exact OwnM.nil 2 _ _ _ _) hs.done
  obtain ⟨A, rfl⟩ : ∃ q : Nat, a = (q : Int) := ⟨a.toNat, by omega⟩
  obtain ⟨M, rfl⟩ : ∃ q : Nat, n = (q : Int) := ⟨n.toNat, by omega⟩
  have hAM : A + M ≤ xs.length := by omega
  have HE := Lib.hid (dsV_ok HSG.out hAM)
  clear wa wn
  go_wp2_with (first | (go_at_call 65; refine (SH.quiet hs (Below.refl _ _) fun hs => l1In_c _ _ _ _).mono ?_; rintro e w5 ⟨rfl, hs⟩) | (at_builtin; refine wp_appMX rfl rfl 57 16 2 (.agg #[.int .i64 0, .int .i64 0]) Tryd.underlying23 info_Sample rfl (by decide) rfl (hs.ownEmptyM 2 (by decide) _ (fun _ _ => undef)) rfl (((Below.refl _ _).alloc (Nat.le_refl _) _ |> fun hb => (hs.p0.1 : RdM 2 _ _ _ _).below (by decide) hb)) (fun i j hi hj => by unfold bC; rfl) (by omega) (by unfold maxLen; omega) ?_; intro v7 w7 hs))
  rw [Nat.zero_add] at hs
  have hs := hs.congrM (c' := bC (dsL xs A 0)) (fun i j hi hj => by rw [dsL_zero]; simp [catC])
  obtain ⟨aL, cL, rfl, -⟩ := (OwnM.rd hs.p0).form
  go_loopw [8] (fun i wr => ∃ q : Nat, A ≤ q ∧ q ≤ A + M ∧ i = .int .i64 q ∧ SH none w wr [ownMP 2 57 (.slice aL xs.length cL) xs.length (bC (dsL xs A (q - A))), rdMP 2 (.slice b xs.length cb) xs.length (bC xs)]) (fun i _ => A + M - (intOf i).toNat)
  case atStart => exact ⟨A, Nat.le_refl _, by omega, rfl, by rw [Nat.sub_self]; exact hs⟩
  case round =>
    obtain ⟨q, q0, q1, rfl, hs⟩ := hrel
    by_cases hlt : q < A + M
    · have hql : q < xs.length := by omega
      obtain ⟨g, rfl, -, hgc, hgf⟩ := OwnM.at_ hs.p0 hql
      have hf0 := hgf (q * 2)
      obtain ⟨⟨v0, v1⟩, -⟩ := sgAt_bd (HBD.out q hql)
      obtain ⟨x, hx⟩ : ∃ x, bF xs q = x := ⟨_, rfl⟩
      have hc0 : wr.cell? ⟨g, q * 2, none⟩ = some (.int .i64 x) := by
        have := hgc 0 (by decide)
        unfold bC at this
        rw [if_pos rfl, bF_dsL hql, if_neg (by omega), hx] at this
        exact this
      rw [hx] at v0 v1
      have HX := Lib.hid hx
      clear hgc hgf hx
      go_wp2
      go_roundw
      case rel =>
        refine ⟨q + 1, by omega, by omega, by go_num, ?_⟩
        have hst := hs.setOwnM (j := 0) hql (by decide) (.int .i64 (-x))
        refine hst.congrM fun i j hi hj => ?_
        have := dsL_step (xs := xs) (a := A) (k := q - A) (by omega) i j hi hj
        rw [show A + (q - A) = q by omega, HX.out, show q - A + 1 = q + 1 - A by omega] at this
        exact this
      case measure => simp [intOf]; omega
    · obtain rfl : q = A + M := by omega
      go_wp2
      go_ret
      refine Ret.mk1 ?_ hs.done
      rw [Nat.add_sub_cancel_left] at hs
      rw [HE.out]
      have hr := SH.ownRetM hs
      rw [length_dsL]
      exact hr
set_option maxRecDepth 100000 in
set_option maxHeartbeats 4000000 in
theorem specDisturbSamples_c (va : Value) (xs : List (Int × Int)) (a n : Int) (w : World) (h : RdM 2 w va xs.length (bC xs)) (ha : (Lit.int .i64 a).wf = true) (hn : (Lit.int .i64 n).wf = true) :
    Calls Tryd.prog 88 #[va, .int .i64 a, .int .i64 n] w (Ret w fun v w' => OwnM 2 w' w.heap.size 57 v (dsV xs a n).length (bC (dsV xs a n))) := by
  obtain ⟨b, cb, rfl, mb⟩ := h.form
  have hs := SH.start w [rdMP 2 (.slice b xs.length cb) xs.length (bC xs)] (by simp only [List.forall_mem_cons]; exact ⟨⟨⟨h, by decide⟩, rdMP_wr⟩, by simp⟩)
  clear h
  have wa := wf_i64 ha
  have wn := wf_i64 hn
  clear ha hn
  go_enter Tryd.func88, Tryd.ntmps88
  go_wp2_with fail
  refine (SH.quiet hs (by repeat' (first | with_reducible exact Below.refl _ _ | with_reducible assumption | with_reducible refine below_drewN ?_ _ | with_reducible refine Below.drew ?_ | with_reducible refine Below.alloc ?_ ?_ _ | with_reducible refine Below.setCell ?_ ?_ _ | go_size)) fun hs => specSignalValid_c _ xs _ hs.p0.1).mono ?_
  rintro e w1 ⟨rfl, hs⟩
  cases hsg : sgB xs
  · have HE := Lib.hid (dsV_bad (xs := xs) (a := a) (n := n) (dsB_sg hsg))
    go_wp2_with (go_at_call 65; refine (SH.quiet hs (Below.refl _ _) fun hs => l1In_c _ _ _ _).mono ?_; rintro e w5 ⟨rfl, hs⟩)
    all_goals go_ret
    all_goals first | exact Ret.mk1 (by rw [HE.out]; exact SH.ownRetM (hs.ownEmptyM 2 (by decide) 57 (bC []))) (SH.done (hs.ownEmptyM 2 (by decide) 57 (bC []))) | exact Ret.mk1 (by rw [HE.out]; exact OwnM.nil 2 _ _ _ _) hs.done
  obtain ⟨hxl, hbd⟩ := sgB_true.1 hsg
  have HBD := Lib.hid hbd
  have HSG := Lib.hid hsg
  clear hbd hsg
  by_cases n0 : n < 0
  · have HE := Lib.hid (dsV_bad (xs := xs) (a := a) (n := n) (dsB_n0 n0))
    go_wp2_with (go_at_call 65; refine (SH.quiet hs (Below.refl _ _) fun hs => l1In_c _ _ _ _).mono ?_; rintro e w5 ⟨rfl, hs⟩)
    all_goals go_ret
    all_goals first | exact Ret.mk1 (by rw [HE.out]; exact SH.ownRetM (hs.ownEmptyM 2 (by decide) 57 (bC []))) (SH.done (hs.ownEmptyM 2 (by decide) 57 (bC []))) | exact Ret.mk1 (by rw [HE.out]; exact OwnM.nil 2 _ _ _ _) hs.done
  cases hin : inB a 0 xs.length
  · have hbad := inB_false.1 hin
    rcases Int.lt_or_le a 0 with a0 | a0
    all_goals
      have HE := Lib.hid (dsV_bad (xs := xs) (a := a) (n := n) (dsB_at hin))
      go_wp2_with (go_at_call 65; refine (SH.quiet hs (Below.refl _ _) fun hs => l1In_c _ _ _ _).mono ?_; rintro e w5 ⟨rfl, hs⟩)
      all_goals go_ret
      all_goals first | exact Ret.mk1 (by rw [HE.out]; exact SH.ownRetM (hs.ownEmptyM 2 (by decide) 57 (bC []))) (SH.done (hs.ownEmptyM 2 (by decide) 57 (bC []))) | exact Ret.mk1 (by rw [HE.out]; exact OwnM.nil 2 _ _ _ _) hs.done
  obtain ⟨a0, a1⟩ := inB_true.1 hin
  by_cases n1 : (xs.length : Int) - a < n
  · have HE := Lib.hid (dsV_bad (xs := xs) (a := a) (n := n) (dsB_n1 n1))
    go_wp2_with (go_at_call 65; refine (SH.quiet hs (Below.refl _ _) fun hs => l1In_c _ _ _ _).mono ?_; rintro e w5 ⟨rfl, hs⟩)
    all_goals go_ret
    all_goals first | exact Ret.mk1 (by rw [HE.out]; exact SH.ownRetM (hs.ownEmptyM 2 (by decide) 57 (bC []))) (SH.done (hs.ownEmptyM 2 (by decide) 57 (bC []))) | exact Ret.mk1 (by rw [HE.out]; exact OwnM.nil 2 _ _ _ _) hs.done
  obtain ⟨A, rfl⟩ : ∃ q : Nat, a = (q : Int) := ⟨a.toNat, by omega⟩
  obtain ⟨M, rfl⟩ : ∃ q : Nat, n = (q : Int) := ⟨n.toNat, by omega⟩
  have hAM : A + M ≤ xs.length := by omega
  have HE := Lib.hid (dsV_ok HSG.out hAM)
  clear wa wn
  go_wp2_with (first | (go_at_call 65; refine (SH.quiet hs (Below.refl _ _) fun hs => l1In_c _ _ _ _).mono ?_; rintro e w5 ⟨rfl, hs⟩) | (at_builtin; refine wp_appMX rfl rfl 57 16 2 (.agg #[.int .i64 0, .int .i64 0]) Tryd.underlying23 info_Sample rfl (by decide) rfl (hs.ownEmptyM 2 (by decide) _ (fun _ _ => undef)) rfl (((Below.refl _ _).alloc (Nat.le_refl _) _ |> fun hb => (hs.p0.1 : RdM 2 _ _ _ _).below (by decide) hb)) (fun i j hi hj => by unfold bC; rfl) (by omega) (by unfold maxLen; omega) ?_; intro v7 w7 hs))
  rw [Nat.zero_add] at hs
  have hs := hs.congrM (c' := bC (dsL xs A 0)) (fun i j hi hj => by rw [dsL_zero]; simp [catC])
  obtain ⟨aL, cL, rfl, -⟩ := (OwnM.rd hs.p0).form
  go_loopw [8] (fun i wr => ∃ q : Nat, A ≤ q ∧ q ≤ A + M ∧ i = .int .i64 q ∧ SH none w wr [ownMP 2 57 (.slice aL xs.length cL) xs.length (bC (dsL xs A (q - A))), rdMP 2 (.slice b xs.length cb) xs.length (bC xs)]) (fun i _ => A + M - (intOf i).toNat)
  case atStart => exact ⟨A, Nat.le_refl _, by omega, rfl, by rw [Nat.sub_self]; exact hs⟩
  case round =>
    obtain ⟨q, q0, q1, rfl, hs⟩ := hrel
    by_cases hlt : q < A + M
    · have hql : q < xs.length := by omega
      obtain ⟨g, rfl, -, hgc, hgf⟩ := OwnM.at_ hs.p0 hql
      have hf0 := hgf (q * 2)
      obtain ⟨⟨v0, v1⟩, -⟩ := sgAt_bd (HBD.out q hql)
      obtain ⟨x, hx⟩ : ∃ x, bF xs q = x := ⟨_, rfl⟩
      have hc0 : wr.cell? ⟨g, q * 2, none⟩ = some (.int .i64 x) := by
        have := hgc 0 (by decide)
        unfold bC at this
        rw [if_pos rfl, bF_dsL hql, if_neg (by omega), hx] at this
        exact this
      rw [hx] at v0 v1
      have HX := Lib.hid hx
      clear hgc hgf hx
      go_wp2
      go_roundw
      case rel =>
        refine ⟨q + 1, by omega, by omega, by go_num, ?_⟩
        have hst := hs.setOwnM (j := 0) hql (by decide) (.int .i64 (-x))
        refine hst.congrM fun i j hi hj => ?_
        have := dsL_step (xs := xs) (a := A) (k := q - A) (by omega) i j hi hj
        rw [show A + (q - A) = q by omega, HX.out, show q - A + 1 = q + 1 - A by omega] at this
        exact this
      case measure => simp [intOf]; omega
    · obtain rfl : q = A + M := by omega
      go_wp2
      go_ret
      refine Ret.mk1 ?_ hs.done
      rw [Nat.add_sub_cancel_left] at hs
      rw [HE.out]
      have hr := SH.ownRetM hs
      rw [length_dsL]
      exact hr
end Go.Proofs.YtpcmfmkpgidgpaaDoor
