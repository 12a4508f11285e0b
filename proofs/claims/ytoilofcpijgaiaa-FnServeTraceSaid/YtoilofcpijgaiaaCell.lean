import Derived.Test.YtoilofcpijgaiaaProg
import Derived.Test.YtoilofcpijgaiaaLib
import Derived.Test.YtoilofcpijgaiaaNum
import Derived.Test.YtoilofcpijgaiaaInts
namespace Go.Proofs.Ytoilofcpijgaiaa
open Go.RowKit

/-- valid strengths -/
def strB (xs : List Int) : Bool := decide (1 ≤ xs.length) && decide (xs.length ≤ 8) && xs.all fun x => inB x 0 200
theorem strB_true {xs : List Int} : strB xs = true ↔ 1 ≤ xs.length ∧ xs.length ≤ 8 ∧ ∀ i, i < xs.length → inB (gi xs i) 0 200 = true := by
  unfold strB
  rw [Bool.and_eq_true, Bool.and_eq_true, decide_eq_true_eq, decide_eq_true_eq, List.all_eq_true, and_assoc]
  refine and_congr_right fun _ => and_congr_right fun _ => ?_
  constructor
  · intro h i hi
    exact h _ (by rw [gi_lt hi]; exact List.getElem_mem hi)
  · intro h x hx
    obtain ⟨i, hi, rfl⟩ := List.getElem_of_mem hx
    have := h i hi
    rwa [gi_lt hi] at this
theorem strB_bad {xs : List Int} {i : Nat} (hi : i < xs.length) (h : inB (gi xs i) 0 200 = false) : strB xs = false := by
  cases hb : strB xs
  · rfl
  · have := (strB_true.1 hb).2.2 i hi
    rw [h] at this; exact this.symm
theorem strB_len {xs : List Int} (h : ¬ (1 ≤ xs.length ∧ xs.length ≤ 8)) : strB xs = false := by
  cases hb : strB xs
  · rfl
  · exact absurd ⟨(strB_true.1 hb).1, (strB_true.1 hb).2.1⟩ h

/-- the first strongest cell among the first k -/
def bestTo (xs : List Int) : Nat → Nat
  | 0 => 0
  | k + 1 => if gi xs (bestTo xs k) < gi xs k then k else bestTo xs k
theorem bestTo_lt (xs : List Int) {k : Nat} (hk : 0 < k) : bestTo xs k < k := by
  induction k with
  | zero => omega
  | succ k ih =>
    unfold bestTo; split
    · omega
    · rcases Nat.eq_zero_or_pos k with rfl | h
      · simp [bestTo]
      · have := ih h; omega
theorem bestTo_lt' (xs : List Int) (k : Nat) {n : Nat} (hk : k ≤ n) (hn : 0 < n) : bestTo xs k < n := by
  rcases Nat.eq_zero_or_pos k with rfl | h
  · exact hn
  · exact Nat.lt_of_lt_of_le (bestTo_lt xs h) hk

/-- the cell that serves next -/
def hearV (c : Int) (xs : List Int) (m : Int) : Int :=
  if c < 0 then bestTo xs xs.length else if gi xs c.toNat + m < gi xs (bestTo xs xs.length) then bestTo xs xs.length else c
def scB (c : Int) (xs : List Int) (m : Int) : Bool := strB xs && inB m 0 200 && inB c (-1) ((xs.length : Int) - 1)
def scV (c : Int) (xs : List Int) (m : Int) : Int := if scB c xs m then hearV c xs m else -1

theorem strengthsValid_c (va : Value) (xs : List Int) (w : World) (h : RdI w va xs) :
    Calls Try.prog 53 #[va] w (RetQ w (.bool (strB xs))) := by
  obtain ⟨a, ca, rfl, ml⟩ := h.form
  have H := Lib.hid h
  clear h
  by_cases hl : xs.length < 1
  · have HF : Hid (strB xs = false) := strB_len (by omega)
    go_enter Try.func53, Try.ntmps53
    go_wp2
    go_ret
    exact RetQ.mkS (boolv HF.out.symm) (SameW.refl _)
  by_cases hl2 : 8 < xs.length
  · have HF : Hid (strB xs = false) := strB_len (by omega)
    go_enter Try.func53, Try.ntmps53
    go_wp2
    go_ret
    exact RetQ.mkS (boolv HF.out.symm) (SameW.refl _)
  go_enter Try.func53, Try.ntmps53
  go_wp2
  go_loopw [15] (fun i wr => ∃ k : Nat, k ≤ xs.length ∧ i = .int .i64 k ∧ SameW w wr ∧ ∀ j, j < k → inB (gi xs j) 0 200 = true) (fun i _ => xs.length - (intOf i).toNat)
  case atStart => exact ⟨0, Nat.zero_le _, rfl, SameW.refl _, fun j h => absurd h (Nat.not_lt_zero _)⟩
  case round =>
    obtain ⟨k, hk, rfl, hsame, hall⟩ := hrel
    have HS := Lib.hid hsame
    have HAll := Lib.hid hall
    clear hsame hall
    by_cases hlt : k < xs.length
    · obtain ⟨b, off, rfl, hc⟩ := (H.out.below HS.out.below).at_ hlt
      by_cases hi : 0 ≤ gi xs k ∧ gi xs k ≤ 200
      · obtain ⟨i1, i2⟩ := hi
        have HZ : Hid (inB (gi xs k) 0 200 = true) := inB_true.2 ⟨i1, i2⟩
        go_wp2
        go_roundw
        case rel => exact ⟨k + 1, hlt, by go_num, HS.out, fun j hj => by
          rcases Nat.lt_succ_iff_lt_or_eq.1 hj with h | rfl
          · exact HAll.out j h
          · exact HZ.out⟩
        case measure => simp [intOf]; omega
      · have HF : Hid (strB xs = false) := strB_bad hlt (inB_false.2 hi)
        by_cases h1' : gi xs k < 0
        · clear hi
          go_wp2
          go_ret
          exact RetQ.mkS (boolv HF.out.symm) HS.out
        · have h2' : 200 < gi xs k := by omega
          clear hi
          go_wp2
          go_ret
          exact RetQ.mkS (boolv HF.out.symm) HS.out
    · obtain rfl : k = xs.length := by omega
      have HF : Hid (strB xs = true) := strB_true.2 ⟨by omega, by omega, HAll.out⟩
      go_wp2
      go_ret
      exact RetQ.mkS (boolv HF.out.symm) HS.out

theorem marginValid_c (m : Int) (w : World) : Calls Try.prog 54 #[.int .i64 m] w (RetQ w (.bool (inB m 0 200))) := by
  by_cases h : 0 ≤ m <;> by_cases h2 : m ≤ 200
  all_goals
    go_enter Try.func54, Try.ntmps54
    go_wp2
    go_ret
    exact RetQ.mk0 (by simp [inB]; omega)

/-- a moving station, in block g -/
def Srv (w : World) (g : Nat) (c m : Int) : Prop :=
  w.cell? ⟨g, 0, none⟩ = some (.int .i64 c) ∧ w.cell? ⟨g, 1, none⟩ = some (.int .i64 m) ∧ ∀ q, w.frozen? ⟨g, q, none⟩ = false

theorem srv_set {w : World} {g : Nat} {c m : Int} (h : Srv w g c m) (c' : Int) : Srv (w.setCell ⟨g, 0, none⟩ (.int .i64 c')) g c' m ∧ w.grownBy (w.setCell ⟨g, 0, none⟩ (.int .i64 c')) (some g) := by
  obtain ⟨h0, h1, h2⟩ := h
  refine ⟨⟨?_, ?_, fun q => ?_⟩, ⟨rfl, rfl, rfl, by simp [World.setCell], fun q _ hq => Below.heap_setCell _ _ _ _ (fun e => hq (by rw [e]))⟩⟩
  · go_simp
  · go_simp
  · have := h2 q
    go_simp
theorem Srv.drewN {w : World} {g : Nat} {c m : Int} (h : Srv w g c m) (n : Nat) : Srv (w.drewN n) g c m := h
theorem grown_drewN {w w' : World} {row : Option Nat} (h : w.grownBy w' row) (n : Nat) : w.grownBy (w'.drewN n) row := ⟨h.os, h.tape, h.output, h.size, h.block⟩
theorem srv_set_drewN {w : World} {g : Nat} {c m : Int} (h : Srv w g c m) (c' : Int) (n : Nat) : Srv ((w.setCell ⟨g, 0, none⟩ (.int .i64 c')).drewN n) g c' m ∧ w.grownBy ((w.setCell ⟨g, 0, none⟩ (.int .i64 c')).drewN n) (some g) :=
  ⟨(srv_set h c').1.drewN n, grown_drewN (srv_set h c').2 n⟩

theorem hear_c (g : Nat) (c m : Int) (va : Value) (xs : List Int) (w : World) (hs : Srv w g c m) (h : RdI w va xs) (hstr : strB xs = true) (hc0 : -1 ≤ c) (hc1 : c < xs.length) (hm0 : 0 ≤ m) (hm1 : m ≤ 200) :
    Calls Try.prog 55 #[.pointer (some ⟨g, 0, none⟩), va] w (fun e w' => e = .returned (.tuple #[]) ∧ Srv w' g (hearV c xs m) m ∧ w.grownBy w' (some g)) := by
  obtain ⟨a, ca, rfl, ml⟩ := h.form
  have H := Lib.hid h
  have HSrv := Lib.hid hs
  obtain ⟨s0, s1, s2⟩ := hs
  have sf := s2 0
  obtain ⟨t0, t1, t2⟩ := strB_true.1 hstr
  have HT := Lib.hid t2
  clear h hstr t2 s2
  go_enter Try.func55, Try.ntmps55
  go_wp2
  go_loopw [4, 9] (fun b i wr => ∃ k : Nat, k ≤ xs.length ∧ i = .int .i64 k ∧ b = .int .i64 (bestTo xs k) ∧ SameW w wr) (fun _ i _ => xs.length - (intOf i).toNat)
  case atStart => exact ⟨0, Nat.zero_le _, rfl, rfl, SameW.refl _⟩
  case round =>
    obtain ⟨k, hk, rfl, rfl, hsame⟩ := hrel
    have HS := Lib.hid hsame
    clear hsame
    by_cases hlt : k < xs.length
    · obtain ⟨b, off, rfl, hc⟩ := (H.out.below HS.out.below).at_ hlt
      have hbl := bestTo_lt' xs k hk (by omega)
      obtain ⟨b', off', he, hcb⟩ := (H.out.below HS.out.below).at_ hbl
      simp only [Option.some.injEq, Addr.mk.injEq, and_true] at he
      obtain ⟨rfl, rfl⟩ := he
      by_cases hgt : gi xs (bestTo xs k) < gi xs k
      · have HB : Hid (bestTo xs (k + 1) = k) := by simp [Hid, bestTo, hgt]
        go_wp2
        go_roundw
        case rel => exact ⟨k + 1, hlt, by go_num, by rw [HB.out], HS.out⟩
        case measure => simp [intOf]; omega
      · have HB : Hid (bestTo xs (k + 1) = bestTo xs k) := by simp [Hid, bestTo, hgt]
        go_wp2
        go_roundw
        case rel => exact ⟨k + 1, hlt, by go_num, by rw [HB.out], HS.out⟩
        case measure => simp [intOf]; omega
    · obtain rfl : k = xs.length := by omega
      have hbl := bestTo_lt' xs xs.length (Nat.le_refl _) (by omega)
      obtain ⟨b, off, rfl, hcb⟩ := H.out.at_ hbl
      obtain ⟨n, rfl⟩ := HS.out
      by_cases hneg : c < 0
      · have HV : Hid (hearV c xs m = (bestTo xs xs.length : Int)) := by simp [Hid, hearV, hneg]
        have HSS := Lib.hid (fun k => srv_set_drewN HSrv.out (bestTo xs xs.length : Int) k)
        go_wp2
        go_quiet (fail)
        go_wp2
        go_end0
        rw [HV.out]
        exact ⟨rfl, (HSS.out (n + nq)).1, (HSS.out (n + nq)).2⟩
      · have hcn : c.toNat < xs.length := by omega
        obtain ⟨b', off', he, hcc⟩ := H.out.at_ hcn
        simp only [Option.some.injEq, Addr.mk.injEq, and_true] at he
        obtain ⟨rfl, rfl⟩ := he
        have hneg' : decide (c < 0) = false := by simpa using hneg
        obtain ⟨i0, i1⟩ := inB_true.1 (HT.out _ hcn)
        have hsum : IntKind.i64.wrap (gi xs c.toNat + m) = gi xs c.toNat + m := IntWalk.i64_in _ (by omega)
        have hc2 : 0 ≤ c := by omega
        by_cases hgt : gi xs c.toNat + m < gi xs (bestTo xs xs.length)
        · have HV : Hid (hearV c xs m = (bestTo xs xs.length : Int)) := by simp [Hid, hearV, hneg, hgt]
          have HSS := Lib.hid (fun k => srv_set_drewN HSrv.out (bestTo xs xs.length : Int) k)
          go_wp2
          go_quiet (fail)
          go_wp2
          go_end0
          rw [HV.out]
          exact ⟨rfl, (HSS.out (n + nq)).1, (HSS.out (n + nq)).2⟩
        · have HV : Hid (hearV c xs m = c) := by simp [Hid, hearV, hneg, hgt]
          go_wp2
          go_quiet (fail)
          go_wp2
          go_end0
          rw [HV.out]
          exact ⟨rfl, HSrv.out, grown_drewN (grown_drewN (World.grownBy.refl _ _) _) _⟩

theorem srv_new {w : World} {c m : Int} {t : TypeId} : Srv (w.alloc (.cells #[.int .i64 c, .int .i64 m] t)) w.heap.size c m :=
  ⟨World.cell?_alloc_at _ _ _ _ rfl, World.cell?_alloc_at _ _ _ _ rfl, fun _ => World.frozen?_alloc_at _ _ _ _ rfl⟩

theorem scB_parts {c m : Int} {xs : List Int} (h : scB c xs m = true) : strB xs = true ∧ (0 ≤ m ∧ m ≤ 200) ∧ -1 ≤ c ∧ c < (xs.length : Int) := by
  simp only [scB, Bool.and_eq_true, inB_true] at h
  exact ⟨h.1.1, h.1.2, h.2.1, by omega⟩

theorem implServeCell_c (c : Int) (va : Value) (xs : List Int) (m : Int) (w : World) (h : RdI w va xs) :
    Calls Try.prog 20 #[.int .i64 c, va, .int .i64 m] w (Ret w fun v _ => v = .int .i64 (scV c xs m)) := by
  obtain ⟨a, ca, rfl, ml⟩ := h.form
  have H := Lib.hid h
  clear h
  cases h1 : strB xs
  · have HF : Hid (scV c xs m = -1) := by simp [Hid, scV, scB, h1]
    go_enter Try.func20, Try.ntmps20
    go_wp2_with fail
    refine (strengthsValid_c _ xs _ H.out).mono ?_
    rintro e w1 ⟨rfl, n, rfl⟩
    rw [h1]
    go_wp2
    go_ret
    exact Ret.mk1 (intv HF.out.symm) (by repeat' (first | with_reducible exact Below.refl _ _ | with_reducible assumption | with_reducible refine below_drewN ?_ _ | with_reducible refine Below.drew ?_ | with_reducible refine Below.alloc ?_ ?_ _ | with_reducible refine Below.setCell ?_ ?_ _ | go_size))
  cases h2 : inB m 0 200
  · have HF : Hid (scV c xs m = -1) := by simp [Hid, scV, scB, h2]
    go_enter Try.func20, Try.ntmps20
    go_wp2_with fail
    refine (strengthsValid_c _ xs _ H.out).mono ?_
    rintro e w1 ⟨rfl, n, rfl⟩
    rw [h1]
    go_wp2_with fail
    refine (marginValid_c _ _).mono ?_
    rintro e w1 ⟨rfl, n2, rfl⟩
    rw [h2]
    go_wp2
    go_ret
    exact Ret.mk1 (intv HF.out.symm) (by repeat' (first | with_reducible exact Below.refl _ _ | with_reducible assumption | with_reducible refine below_drewN ?_ _ | with_reducible refine Below.drew ?_ | with_reducible refine Below.alloc ?_ ?_ _ | with_reducible refine Below.setCell ?_ ?_ _ | go_size))
  cases h3 : inB c (-1) ((xs.length : Int) - 1)
  · have HF : Hid (scV c xs m = -1) := by simp [Hid, scV, scB, h3]
    have hn := inB_false.1 h3
    by_cases hc : c < -1
    · clear hn
      go_enter Try.func20, Try.ntmps20
      go_wp2_with fail
      refine (strengthsValid_c _ xs _ H.out).mono ?_
      rintro e w1 ⟨rfl, n, rfl⟩
      rw [h1]
      go_wp2_with fail
      refine (marginValid_c _ _).mono ?_
      rintro e w1 ⟨rfl, n2, rfl⟩
      rw [h2]
      go_wp2
      go_ret
      exact Ret.mk1 (intv HF.out.symm) (by repeat' (first | with_reducible exact Below.refl _ _ | with_reducible assumption | with_reducible refine below_drewN ?_ _ | with_reducible refine Below.drew ?_ | with_reducible refine Below.alloc ?_ ?_ _ | with_reducible refine Below.setCell ?_ ?_ _ | go_size))
    · have hc2 : (xs.length : Int) ≤ c := by omega
      clear hn
      go_enter Try.func20, Try.ntmps20
      go_wp2_with fail
      refine (strengthsValid_c _ xs _ H.out).mono ?_
      rintro e w1 ⟨rfl, n, rfl⟩
      rw [h1]
      go_wp2_with fail
      refine (marginValid_c _ _).mono ?_
      rintro e w1 ⟨rfl, n2, rfl⟩
      rw [h2]
      go_wp2
      go_ret
      exact Ret.mk1 (intv HF.out.symm) (by repeat' (first | with_reducible exact Below.refl _ _ | with_reducible assumption | with_reducible refine below_drewN ?_ _ | with_reducible refine Below.drew ?_ | with_reducible refine Below.alloc ?_ ?_ _ | with_reducible refine Below.setCell ?_ ?_ _ | go_size))
  · have hb : scB c xs m = true := by simp [scB, h1, h2, h3]
    have HF : Hid (scV c xs m = hearV c xs m) := by simp [Hid, scV, hb]
    obtain ⟨-, ⟨m0, m1⟩, c0, c1⟩ := scB_parts hb
    clear hb
    go_enter Try.func20, Try.ntmps20
    go_wp2_with fail
    refine (strengthsValid_c _ xs _ H.out).mono ?_
    rintro e w1 hr1
    obtain ⟨rfl, hs1⟩ := hr1.same
    have HB1 := Lib.hid hs1.below
    clear hr1 hs1
    rw [h1]
    go_wp2_with fail
    refine (marginValid_c _ _).mono ?_
    rintro e w2 hr2
    obtain ⟨rfl, hs2⟩ := hr2.same
    have HB2 := Lib.hid (HB1.out.trans (hs2.below.mono HB1.out.size))
    clear hr2 hs2 HB1
    rw [h2]
    go_wp2_with fail
    refine (hear_c w2.heap.size c m _ xs _ ?_ (H.out.below (HB2.out.alloc HB2.out.size _)) h1 c0 c1 m0 m1).mono ?_
    · exact srv_new (w := w2)
    rintro e w3 ⟨rfl, hs, hg⟩
    obtain ⟨s0, s1, s2⟩ := hs
    have HG : Hid (Below w.heap.size w w3) := Below.grown (HB2.out.alloc HB2.out.size _) hg (by have := HB2.out.size; simp; omega) (fun k e => by simp only [Option.some.injEq] at e; have := HB2.out.size; omega)
    clear hg s2
    go_wp2
    go_ret
    exact Ret.mk1 (intv HF.out.symm) HG.out

theorem l19Ok_c (va : Value) (xs : List Int) (w : World) (h : RdI w va xs) :
    Calls Try.prog 51 #[va] w (RetQ w (.bool (strB xs))) := by
  obtain ⟨a, ca, rfl, ml⟩ := h.form
  have H := Lib.hid h
  clear h
  go_enter Try.func51, Try.ntmps51
  go_wp2
  go_loopw [3] (fun i wr => ∃ k : Nat, k ≤ xs.length ∧ i = .int .i64 k ∧ SameW w wr ∧ ∀ j, j < k → inB (gi xs j) 0 200 = true) (fun i _ => xs.length - (intOf i).toNat)
  case atStart => exact ⟨0, Nat.zero_le _, rfl, SameW.refl _, fun j h => absurd h (Nat.not_lt_zero _)⟩
  case round =>
    obtain ⟨k, hk, rfl, hsame, hall⟩ := hrel
    have HS := Lib.hid hsame
    have HAll := Lib.hid hall
    clear hsame hall
    by_cases hlt : k < xs.length
    · obtain ⟨b, off, rfl, hc⟩ := (H.out.below HS.out.below).at_ hlt
      cases hi : inB (gi xs k) 0 200
      · have HF : Hid (strB xs = false) := strB_bad hlt hi
        go_wp2_with (go_at_call 52; refine (l1In_x _ _ _ _).mono ?_; rintro e w' ⟨rfl, hw⟩; obtain rfl := hw.symm)
        go_ret
        exact RetQ.mkS (boolv HF.out.symm) HS.out
      · go_wp2_with (go_at_call 52; refine (l1In_x _ _ _ _).mono ?_; rintro e w' ⟨rfl, hw⟩; obtain rfl := hw.symm)
        go_roundw
        case rel => exact ⟨k + 1, hlt, by go_num, HS.out, fun j hj => by
          rcases Nat.lt_succ_iff_lt_or_eq.1 hj with h | rfl
          · exact HAll.out j h
          · exact hi⟩
        case measure => simp [intOf]; omega
    · obtain rfl : k = xs.length := by omega
      have HF : Hid (strB xs = inB (xs.length : Int) 1 8) := by
        unfold Hid
        by_cases hh : 1 ≤ xs.length ∧ xs.length ≤ 8
        · rw [strB_true.2 ⟨hh.1, hh.2, HAll.out⟩, inB_true.2 (by omega)]
        · rw [strB_len hh, inB_false.2 (by omega)]
      go_wp2_with (go_at_call 52; refine (l1In_x _ _ _ _).mono ?_; rintro e w' ⟨rfl, hw⟩; obtain rfl := hw.symm)
      go_ret
      exact RetQ.mkS (boolv HF.out.symm) HS.out

theorem specServeCell_c (c : Int) (va : Value) (xs : List Int) (m : Int) (w : World) (h : RdI w va xs) :
    Calls Try.prog 18 #[.int .i64 c, va, .int .i64 m] w (RetQ w (.int .i64 (scV c xs m))) := by
  obtain ⟨a, ca, rfl, ml⟩ := h.form
  have H := Lib.hid h
  clear h
  cases h1 : strB xs
  · have HF : Hid (scV c xs m = -1) := by simp [Hid, scV, scB, h1]
    go_enter Try.func18, Try.ntmps18
    go_wp2_with fail
    refine (l19Ok_c _ xs _ H.out).mono ?_
    rintro e w1 ⟨rfl, n, rfl⟩
    rw [h1]
    go_wp2
    go_ret
    exact RetQ.mk1 (intv HF.out.symm) (by first | exact ⟨_, rfl⟩ | exact ⟨_, drewN_add _ _ _⟩)
  obtain ⟨t0, t1, t2⟩ := strB_true.1 h1
  have HT := Lib.hid t2
  clear t2
  have hsub : wrap64 ((xs.length : Int) - 1) = (xs.length : Int) - 1 := IntWalk.wrap64_in _ (by omega)
  cases h3 : inB c (-1) ((xs.length : Int) - 1)
  · have HF : Hid (scV c xs m = -1) := by simp [Hid, scV, scB, h3]
    go_enter Try.func18, Try.ntmps18
    go_wp2_with fail
    refine (l19Ok_c _ xs _ H.out).mono ?_
    rintro e w1 ⟨rfl, n, rfl⟩
    rw [h1]
    go_wp2_with fail
    refine (l1In_c _ _ _ _).mono ?_
    rintro e w1 ⟨rfl, n2, rfl⟩
    rw [h3]
    go_wp2
    go_ret
    exact RetQ.mk1 (intv HF.out.symm) (by first | exact ⟨_, rfl⟩ | exact ⟨_, drewN_add _ _ _⟩)
  cases h2 : inB m 0 200
  · have HF : Hid (scV c xs m = -1) := by simp [Hid, scV, scB, h2]
    go_enter Try.func18, Try.ntmps18
    go_wp2_with fail
    refine (l19Ok_c _ xs _ H.out).mono ?_
    rintro e w1 ⟨rfl, n, rfl⟩
    rw [h1]
    go_wp2_with fail
    refine (l1In_c _ _ _ _).mono ?_
    rintro e w1 ⟨rfl, n2, rfl⟩
    rw [h3]
    go_wp2_with fail
    refine (l1In_c _ _ _ _).mono ?_
    rintro e w1 ⟨rfl, n3, rfl⟩
    rw [h2]
    go_wp2
    go_ret
    exact RetQ.mk1 (intv HF.out.symm) (by first | exact ⟨_, rfl⟩ | exact ⟨_, drewN_add _ _ _⟩)
  have hb : scB c xs m = true := by simp [scB, h1, h2, h3]
  have HF : Hid (scV c xs m = hearV c xs m) := by simp [Hid, scV, hb]
  obtain ⟨-, ⟨m0, m1⟩, c0, c1⟩ := scB_parts hb
  clear hb
  go_enter Try.func18, Try.ntmps18
  go_wp2_with fail
  refine (l19Ok_c _ xs _ H.out).mono ?_
  rintro e w1 ⟨rfl, n, rfl⟩
  rw [h1]
  go_wp2_with fail
  refine (l1In_c _ _ _ _).mono ?_
  rintro e w1 ⟨rfl, n2, rfl⟩
  rw [h3]
  go_wp2_with fail
  refine (l1In_c _ _ _ _).mono ?_
  rintro e w1 ⟨rfl, n3, rfl⟩
  rw [h2]
  go_wp2
  go_loopw [7, 8] (fun b i wr => ∃ k : Nat, 1 ≤ k ∧ k ≤ xs.length ∧ i = .int .i64 k ∧ b = .int .i64 (bestTo xs k) ∧ SameW w wr) (fun _ i _ => xs.length - (intOf i).toNat)
  case atStart => exact ⟨1, Nat.le_refl _, t0, rfl, by simp [bestTo], (by first | exact ⟨_, rfl⟩ | exact ⟨_, drewN_add _ _ _⟩)⟩
  case round =>
    obtain ⟨k, hk1, hk, rfl, rfl, hsame⟩ := hrel
    have HS := Lib.hid hsame
    clear hsame
    by_cases hlt : k < xs.length
    · obtain ⟨b, off, rfl, hc⟩ := (H.out.below HS.out.below).at_ hlt
      have hbl := bestTo_lt' xs k hk (by omega)
      obtain ⟨b', off', he, hcb⟩ := (H.out.below HS.out.below).at_ hbl
      simp only [Option.some.injEq, Addr.mk.injEq, and_true] at he
      obtain ⟨rfl, rfl⟩ := he
      by_cases hgt : gi xs (bestTo xs k) < gi xs k
      · have HB : Hid (bestTo xs (k + 1) = k) := by simp [Hid, bestTo, hgt]
        go_wp2
        go_quiet (fail)
        go_wp2
        go_roundw
        case rel => exact ⟨k + 1, by omega, hlt, by go_num, by rw [HB.out], HS.out.drewN _⟩
        case measure => simp [intOf]; omega
      · have HB : Hid (bestTo xs (k + 1) = bestTo xs k) := by simp [Hid, bestTo, hgt]
        have hgt' : decide (gi xs (bestTo xs k) < gi xs k) = false := by simpa using hgt
        go_wp2
        go_quiet (fail)
        go_wp2
        go_roundw
        case rel => exact ⟨k + 1, by omega, hlt, by go_num, by rw [HB.out], HS.out.drewN _⟩
        case measure => simp [intOf]; omega
    · obtain rfl : k = xs.length := by omega
      have hbl := bestTo_lt' xs xs.length (Nat.le_refl _) (by omega)
      obtain ⟨b, off, rfl, hcb⟩ := (H.out.below HS.out.below).at_ hbl
      by_cases hneg : c < 0
      · have HV : Hid (hearV c xs m = (bestTo xs xs.length : Int)) := by simp [Hid, hearV, hneg]
        go_wp2
        go_quiet (fail)
        go_wp2
        go_ret
        exact RetQ.mkS (intv (by rw [HF.out, HV.out])) (HS.out.drewN _)
      · have hcn : c.toNat < xs.length := by omega
        obtain ⟨b', off', he, hcc⟩ := (H.out.below HS.out.below).at_ hcn
        simp only [Option.some.injEq, Addr.mk.injEq, and_true] at he
        obtain ⟨rfl, rfl⟩ := he
        have hneg' : decide (c < 0) = false := by simpa using hneg
        obtain ⟨i0, i1⟩ := inB_true.1 (HT.out _ hcn)
        have hsum : IntKind.i64.wrap (gi xs c.toNat + m) = gi xs c.toNat + m := IntWalk.i64_in _ (by omega)
        have hc2 : 0 ≤ c := by omega
        by_cases hgt : gi xs c.toNat + m < gi xs (bestTo xs xs.length)
        · have HV : Hid (hearV c xs m = (bestTo xs xs.length : Int)) := by simp [Hid, hearV, hneg, hgt]
          go_wp2
          go_quiet (fail)
          go_wp2
          go_ret
          exact RetQ.mkS (intv (by rw [HF.out, HV.out])) (HS.out.drewN _)
        · have HV : Hid (hearV c xs m = c) := by simp [Hid, hearV, hneg, hgt]
          go_wp2
          go_quiet (fail)
          go_wp2
          go_ret
          exact RetQ.mkS (intv (by rw [HF.out, HV.out])) (HS.out.drewN _)

theorem fnExactServeCell_c (c : Int) (va : Value) (xs : List Int) (m : Int) (w : World) (_ : (Lit.int .i64 c).wf = true) (h : RdI w va xs) (_ : ∀ n ∈ xs, (Lit.int .i64 n).wf = true) (_ : (Lit.int .i64 m).wf = true) :
    Calls Try.prog 4 #[.int .i64 c, va, .int .i64 m] w (Ret w fun v _ => v = .bool true) := by
  obtain ⟨a, ca, rfl, ml⟩ := h.form
  have HA := Lib.hid h
  clear h
  by_cases hl : xs.length ≤ 1048576
  case neg =>
    go_enter Try.func4, Try.ntmps4
    go_wp2
    go_ret
    exact Ret.mk1 rfl (Below.refl _ _)
  have e1 : (scV c xs m != scV c xs m) = false := bne_self_eq_false _
  have e2 : decide (xs = xs) = true := by simp
  go_enter Try.func4, Try.ntmps4
  go_wp2_with fail
  refine (toIntS_c _ xs _ HA.out (by omega)).mono ?_
  rintro e w1 ⟨v1, rfl, ho, hb⟩
  have HB_1 := Lib.hid hb
  have HOp_1 := Lib.hid (ho.mono (Nat.le_refl _))
  clear hb ho
  go_wp2_with fail
  refine (specServeCell_c c _ xs m _ HOp_1.out.rd).mono ?_
  rintro e w2 hr
  obtain ⟨rfl, hs⟩ := hr.same
  have hb := hs.below
  clear hr hs
  have HOp_2 := Lib.hid (HOp_1.out.below hb)
  have HB_2 := Lib.hid (HB_1.out.trans (hb.mono HB_1.out.size))
  clear hb HOp_1 HB_1
  go_wp2_with fail
  refine (toIntS_c _ xs _ (HA.out.below HB_2.out) (by omega)).mono ?_
  rintro e w3 ⟨v3, rfl, ho, hb⟩
  have HOp_3 := Lib.hid (HOp_2.out.below hb)
  have Dp_x := Lib.hid (fun (g h : Nat) (e1 : (v1).ownBlock = some g) (e2 : (v3).ownBlock = some h) => (show g ≠ h by have := (HOp_2.out.base g e1).2; have := (ho.base h e2).1; omega))
  have HB_3 := Lib.hid (HB_2.out.trans (hb.mono HB_2.out.size))
  have HOx_3 := Lib.hid (ho.mono HB_2.out.size)
  clear hb ho HOp_2 HB_2
  go_wp2_with fail
  refine (implServeCell_c c _ xs m _ HOx_3.out.rd).mono ?_
  rintro e w4 ⟨v4, rfl, rfl, hb⟩
  have HOp_4 := Lib.hid (HOp_3.out.below hb)
  have HOx_4 := Lib.hid (HOx_3.out.below hb)
  have HB_4 := Lib.hid (HB_3.out.trans (hb.mono HB_3.out.size))
  clear hb HOp_3 HOx_3 HB_3
  go_wp2_with fail
  refine (toIntS_c _ xs _ (HA.out.below HB_4.out) (by omega)).mono ?_
  rintro e w5 ⟨v5, rfl, ho, hb⟩
  have HOp_5 := Lib.hid (HOp_4.out.below hb)
  have HOx_5 := Lib.hid (HOx_4.out.below hb)
  have Dp_y := Lib.hid (fun (g h : Nat) (e1 : (v1).ownBlock = some g) (e2 : (v5).ownBlock = some h) => (show g ≠ h by have := (HOp_4.out.base g e1).2; have := (ho.base h e2).1; omega))
  have Dx_y := Lib.hid (fun (g h : Nat) (e1 : (v3).ownBlock = some g) (e2 : (v5).ownBlock = some h) => (show g ≠ h by have := (HOx_4.out.base g e1).2; have := (ho.base h e2).1; omega))
  have HB_5 := Lib.hid (HB_4.out.trans (hb.mono HB_4.out.size))
  have HOy_5 := Lib.hid (ho.mono HB_4.out.size)
  clear hb ho HOp_4 HOx_4 HB_4
  go_wp2_with fail
  refine (eqIntS_c _ _ xs xs _ HOx_5.out.rd HOy_5.out.rd).mono ?_
  rintro e w6 hr
  obtain ⟨rfl, hs⟩ := hr.same
  have hb := hs.below
  clear hr hs
  have HOp_6 := Lib.hid (HOp_5.out.below hb)
  have HOx_6 := Lib.hid (HOx_5.out.below hb)
  have HOy_6 := Lib.hid (HOy_5.out.below hb)
  have HB_6 := Lib.hid (HB_5.out.trans (hb.mono HB_5.out.size))
  clear hb HOp_5 HOx_5 HOy_5 HB_5
  go_wp2
  go_ret
  exact Ret.mk1 rfl HB_6.out

end Go.Proofs.Ytoilofcpijgaiaa
