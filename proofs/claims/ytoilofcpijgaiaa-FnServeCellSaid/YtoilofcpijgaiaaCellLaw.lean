import Derived.Test.YtoilofcpijgaiaaProg
import Derived.Test.YtoilofcpijgaiaaSym
import Derived.Test.YtoilofcpijgaiaaInts
import Derived.Test.YtoilofcpijgaiaaCell
import Derived.Test.YtoilofcpijgaiaaDrawCell
namespace Go.Proofs.Ytoilofcpijgaiaa
open Go.RowKit

/-- the greatest of the first k numbers, and 0 -/
def mxTo (xs : List Int) : Nat → Int
  | 0 => 0
  | k + 1 => max (mxTo xs k) (gi xs k)
theorem mxTo_bd {xs : List Int} (h : ∀ x ∈ xs, -1 ≤ x ∧ x ≤ 201) : ∀ k, k ≤ xs.length → 0 ≤ mxTo xs k ∧ mxTo xs k ≤ 201
  | 0, _ => by simp [mxTo]
  | k + 1, hk => by
    have ih := mxTo_bd h k (by omega)
    have := h (gi xs k) (by rw [gi_lt (by omega)]; exact List.getElem_mem (by omega))
    simp only [mxTo]; omega
theorem best_mx {xs : List Int} (h : ∀ i, i < xs.length → 0 ≤ gi xs i) : ∀ k, k ≤ xs.length → (∀ i, i < k → gi xs i ≤ gi xs (bestTo xs k)) ∧ (1 ≤ k → mxTo xs k = gi xs (bestTo xs k))
  | 0, _ => ⟨fun i h => absurd h (by omega), fun h => absurd h (by omega)⟩
  | k + 1, hk => by
    have ih := best_mx h k (by omega)
    have hk0 := h k (by omega)
    rcases Nat.eq_zero_or_pos k with rfl | hpos
    · have e : bestTo xs 1 = 0 := by simp [bestTo]
      rw [e]
      refine ⟨fun i hi => ?_, fun _ => ?_⟩
      · obtain rfl : i = 0 := by omega
        exact Int.le_refl _
      · simp only [mxTo]; omega
    · have h2 := ih.2 hpos
      have hlast : ∀ i, i < k + 1 → i < k ∨ i = k := fun i hi => by omega
      by_cases hb : gi xs (bestTo xs k) < gi xs k
      · have e : bestTo xs (k + 1) = k := by simp [bestTo, hb]
        rw [e]
        refine ⟨fun i hi => ?_, fun _ => ?_⟩
        · rcases hlast i hi with h3 | rfl
          · have := ih.1 i h3; omega
          · exact Int.le_refl _
        · simp only [mxTo]; omega
      · have e : bestTo xs (k + 1) = bestTo xs k := by simp [bestTo, hb]
        rw [e]
        refine ⟨fun i hi => ?_, fun _ => ?_⟩
        · rcases hlast i hi with h3 | rfl
          · exact ih.1 i h3
          · omega
        · simp only [mxTo]; omega

theorem scV_bad {c m : Int} {xs : List Int} (h : scB c xs m = false) : scV c xs m = -1 := by simp [scV, h]
theorem scV_ok {c m : Int} {xs : List Int} (h : scB c xs m = true) : scV c xs m = hearV c xs m := by simp [scV, h]

set_option maxRecDepth 100000 in
set_option maxHeartbeats 4000000 in
theorem fnServeCell_c (vc : Value) (c : List Int) (w : World) (hc : RdB w vc c) (bc : ∀ n ∈ c, (Lit.int .u8 n).wf = true) :
    Calls Try.prog 5 #[vc] w (Ret w fun v _ => v = .bool true) := by
  have hs := SH.add (p := rdP .u8 vc c) (SH.start0 w) (by simp) hc rdP_wr
  obtain ⟨ac, cc, rfl, -⟩ := hc.form
  have Bc := Lib.hid bc
  clear hc bc
  by_cases lc : c.length ≤ 1048576
  case neg =>
    go_enter Try.func5, Try.ntmps5
    go_wp2
    go_ret
    exact Ret.mk1 rfl (Below.refl _ _)
  go_enter Try.func5, Try.ntmps5
  go_wp2_with fail
  refine (DrawServeCell_s _ c _ (by first | exact hs | exact (hs).allocP1 _ _ | exact ((hs).allocP1 _ _).allocP1 _ _ | exact (((hs).allocP1 _ _).allocP1 _ _).allocP1 _ _ | exact ((((hs).allocP1 _ _).allocP1 _ _).allocP1 _ _).allocP1 _ _ | exact (hs).drew | exact ((hs).allocP1 _ _).drew | exact (((hs).allocP1 _ _).allocP1 _ _).drew | exact ((((hs).allocP1 _ _).allocP1 _ _).allocP1 _ _).drew | exact (((((hs).allocP1 _ _).allocP1 _ _).allocP1 _ _).allocP1 _ _).drew | exact (hs).drewN _ | exact ((hs).allocP1 _ _).drewN _ | exact (((hs).allocP1 _ _).allocP1 _ _).drewN _ | exact ((((hs).allocP1 _ _).allocP1 _ _).allocP1 _ _).drewN _ | exact (((((hs).allocP1 _ _).allocP1 _ _).allocP1 _ _).allocP1 _ _).drewN _) Bc.out).mono ?_
  rintro e w1 ⟨n, v1, xs, m, rfl, ⟨n0, n1⟩, hxl, hx, ⟨m0, m1⟩, hs⟩
  obtain ⟨a1, c1, rfl, -⟩ := hs.p0.rd.form
  have HX := Lib.hid hx
  clear hx
  go_wp2_with fail
  refine (SH.ret hs (by repeat' (first | with_reducible exact Below.refl _ _ | with_reducible assumption | with_reducible refine below_drewN ?_ _ | with_reducible refine Below.drew ?_ | with_reducible refine Below.alloc ?_ ?_ _ | with_reducible refine Below.setCell ?_ ?_ _ | go_size)) fun hs => implServeCell_c n _ xs m _ hs.p0.rd).mono ?_
  rintro e w2 ⟨v, rfl, rfl, hs⟩
  go_wp2_with fail
  refine (SH.quiet hs (by repeat' (first | with_reducible exact Below.refl _ _ | with_reducible assumption | with_reducible refine below_drewN ?_ _ | with_reducible refine Below.drew ?_ | with_reducible refine Below.alloc ?_ ?_ _ | with_reducible refine Below.setCell ?_ ?_ _ | go_size)) fun hs => specServeCell_c n _ xs m _ hs.p0.rd).mono ?_
  rintro e w3 ⟨rfl, hs⟩
  have e1 : (scV n xs m != scV n xs m) = false := bne_self_eq_false _
  cases hb : scB n xs m
  · have ho : scV n xs m = -1 := scV_bad hb
    go_wp2_with fail
    refine (SH.ret hs (by repeat' (first | with_reducible exact Below.refl _ _ | with_reducible assumption | with_reducible refine below_drewN ?_ _ | with_reducible refine Below.drew ?_ | with_reducible refine Below.alloc ?_ ?_ _ | with_reducible refine Below.setCell ?_ ?_ _ | go_size)) fun hs => alive_c _).mono ?_
    rintro e w4 ⟨v, rfl, rfl, hs⟩
    go_wp2
    go_ret
    exact Ret.mk1 rfl (SH.done (by first | exact hs | exact (hs).alloc _ | exact ((hs).alloc _).alloc _ | exact (((hs).alloc _).alloc _).alloc _ | exact ((((hs).alloc _).alloc _).alloc _).alloc _ | exact (hs).drew | exact ((hs).alloc _).drew | exact (((hs).alloc _).alloc _).drew | exact ((((hs).alloc _).alloc _).alloc _).drew | exact (((((hs).alloc _).alloc _).alloc _).alloc _).drew | exact (hs).drewN _ | exact ((hs).alloc _).drewN _ | exact (((hs).alloc _).alloc _).drewN _ | exact ((((hs).alloc _).alloc _).alloc _).drewN _ | exact (((((hs).alloc _).alloc _).alloc _).alloc _).drewN _))
  · obtain ⟨hstr, ⟨m2, m3⟩, n2, n3⟩ := scB_parts hb
    obtain ⟨l0, l1, l2⟩ := strB_true.1 hstr
    have hpos : ∀ i, i < xs.length → 0 ≤ gi xs i := fun i hi => (inB_true.1 (l2 i hi)).1
    have hbl := bestTo_lt xs (k := xs.length) (by omega)
    obtain ⟨x1, x2⟩ := best_mx hpos xs.length (Nat.le_refl _)
    have x2 := x2 (by omega)
    obtain ⟨bb, hbb⟩ : ∃ bb, bestTo xs xs.length = bb := ⟨_, rfl⟩
    rw [hbb] at hbl x1 x2
    have hsv := scV_ok hb
    have hwv : ∀ m', m ≤ m' → m' ≤ 200 → scV n xs m' = hearV n xs m' := fun m' p1 p2 => scV_ok (by unfold scB at hb ⊢; simp only [Bool.and_eq_true] at hb ⊢; exact ⟨⟨hb.1.1, inB_true.2 (by omega)⟩, hb.2⟩)
    unfold hearV at hsv hwv
    rw [hbb] at hsv hwv
    have hvb := inB_true.1 (l2 bb hbl)
    have HX1 := Lib.hid x1
    have HX2 := Lib.hid x2
    have HL2 := Lib.hid l2
    have HBB := Lib.hid hbb
    have HSV := Lib.hid hsv
    have HWV := Lib.hid hwv
    have HST := Lib.hid hstr
    clear x1 x2 l2 hbb hpos hb hsv hwv hstr e1
    obtain ⟨r, hr⟩ : ∃ r, scV n xs m = r := ⟨_, rfl⟩
    have hr0 : 0 ≤ r := by
      rw [← hr, HSV.out]
      by_cases q1 : n < 0
      · rw [if_pos q1]; omega
      · rw [if_neg q1]; split <;> omega
    have HR := Lib.hid hr
    rw [hr]
    clear hr
    go_wp2_with fail
    go_loopw [7, 8] (fun o i wr => ∃ k : Nat, k ≤ xs.length ∧ o = .int .i64 (mxTo xs k) ∧ i = .int .i64 k ∧ SH none w wr [ownP .i64 3 (.slice a1 xs.length c1) xs, rdP .u8 (.slice ac c.length cc) c]) (fun _ i _ => xs.length - (intOf i).toNat)
    case atStart => exact ⟨0, Nat.zero_le _, rfl, rfl, hs⟩
    case round =>
      obtain ⟨k, hk, rfl, rfl, hs⟩ := hrel
      obtain ⟨mx0, mx1⟩ := mxTo_bd HX.out k hk
      by_cases hlt : k < xs.length
      · obtain ⟨bo, off, rfl, hc⟩ := hs.p0.rd.at_ hlt
        go_wp2
        go_roundw
        case rel => exact ⟨k + 1, hlt, intv (by simp only [mxTo]; split <;> omega), by go_num, (by first | exact hs | exact (hs).alloc _ | exact ((hs).alloc _).alloc _ | exact (((hs).alloc _).alloc _).alloc _ | exact ((((hs).alloc _).alloc _).alloc _).alloc _ | exact (hs).drew | exact ((hs).alloc _).drew | exact (((hs).alloc _).alloc _).drew | exact ((((hs).alloc _).alloc _).alloc _).drew | exact (((((hs).alloc _).alloc _).alloc _).alloc _).drew | exact (hs).drewN _ | exact ((hs).alloc _).drewN _ | exact (((hs).alloc _).alloc _).drewN _ | exact ((((hs).alloc _).alloc _).alloc _).drewN _ | exact (((((hs).alloc _).alloc _).alloc _).alloc _).drewN _)⟩
        case measure => simp [intOf]; omega
      · obtain rfl : k = xs.length := by omega
        obtain ⟨M, hM⟩ : ∃ M, mxTo xs xs.length = M := ⟨_, rfl⟩
        have HM := Lib.hid hM
        rw [hM]
        rw [hM] at mx0 mx1
        have hMb : M = gi xs bb := by rw [← hM]; exact HX2.out
        have HMb := Lib.hid hMb
        clear hM hMb
        go_wp2_with fail
        all_goals
          refine (SH.ret hs (by repeat' (first | with_reducible exact Below.refl _ _ | with_reducible assumption | with_reducible refine below_drewN ?_ _ | with_reducible refine Below.drew ?_ | with_reducible refine Below.alloc ?_ ?_ _ | with_reducible refine Below.setCell ?_ ?_ _ | go_size)) fun hs => implServeCell_c n _ xs _ _ hs.p0.rd).mono ?_
          rintro e w4 ⟨v, rfl, rfl, hs⟩
          generalize hwd : scV n xs _ = wd
          obtain ⟨bo, off, rfl, hc⟩ := hs.p0.rd.at_ hbl
          by_cases q1 : n < 0
          · have hrb : r = bb := by have h1 := HR.out; rw [HSV.out, if_pos q1] at h1; exact h1.symm
            subst hrb
            have e1 : ((bb : Int) == n) = false := by simp; omega
            have e1b : ((bb : Int) != n) = true := by simp; omega
            have e2 : (gi xs bb == M) = true := by rw [HMb.out]; simp
            have e3 : decide (n < 0) = true := by simpa using q1
            have i0 : (0 : Int) ≤ (bb : Int) := by omega
            have i1 : (bb : Int) < (xs.length : Int) := by omega
            clear hwd
            go_wp2_with fail
            go_quiet (fail)
            go_wp2
            go_ret
            exact Ret.mk1 rfl (SH.done (by first | exact hs | exact (hs).alloc _ | exact ((hs).alloc _).alloc _ | exact (((hs).alloc _).alloc _).alloc _ | exact ((((hs).alloc _).alloc _).alloc _).alloc _ | exact (hs).drew | exact ((hs).alloc _).drew | exact (((hs).alloc _).alloc _).drew | exact ((((hs).alloc _).alloc _).alloc _).drew | exact (((((hs).alloc _).alloc _).alloc _).alloc _).drew | exact (hs).drewN _ | exact ((hs).alloc _).drewN _ | exact (((hs).alloc _).alloc _).drewN _ | exact ((((hs).alloc _).alloc _).alloc _).drewN _ | exact (((((hs).alloc _).alloc _).alloc _).alloc _).drewN _))
          obtain ⟨cc2, hcc⟩ : ∃ q : Nat, n = (q : Int) := ⟨n.toNat, by omega⟩
          subst hcc
          have hcl : cc2 < xs.length := by omega
          obtain ⟨bo2, off2, he, hc2⟩ := hs.p0.rd.at_ hcl
          simp only [Option.some.injEq, Addr.mk.injEq, and_true] at he
          obtain ⟨rfl, rfl⟩ := he
          have hvc := inB_true.1 (HL2.out cc2 hcl)
          have hbc := HX1.out cc2 hcl
          have e3 : decide ((cc2 : Int) < 0) = false := by simp
          have i0 : (0 : Int) ≤ (bb : Int) := by omega
          have i1 : (bb : Int) < (xs.length : Int) := by omega
          have j0 : (0 : Int) ≤ (cc2 : Int) := by omega
          have j1 : (cc2 : Int) < (xs.length : Int) := by omega
          by_cases q2 : gi xs cc2 + m < gi xs bb
          · have hrb : r = bb := by have h1 := HR.out; rw [HSV.out, if_neg q1, if_pos (by simpa using q2)] at h1; exact h1.symm
            subst hrb
            have hne : (bb : Int) ≠ (cc2 : Int) := by
              intro h
              have h9 : bb = cc2 := by omega
              subst h9
              omega
            have e1 : ((bb : Int) == (cc2 : Int)) = false := by simpa using hne
            have e1b : ((bb : Int) != (cc2 : Int)) = true := by simpa using hne
            have e2 : (gi xs bb == M) = true := by rw [HMb.out]; simp
            have e4 : IntKind.i64.wrap (gi xs cc2 + m) = gi xs cc2 + m := IntWalk.i64_in _ (by omega)
            have e5 : decide (gi xs cc2 + m < gi xs bb) = true := by simpa using q2
            clear hwd hne
            go_wp2_with fail
            go_quiet (fail)
            clear e4
            go_wp2
            go_ret
            exact Ret.mk1 rfl (SH.done (by first | exact hs | exact (hs).alloc _ | exact ((hs).alloc _).alloc _ | exact (((hs).alloc _).alloc _).alloc _ | exact ((((hs).alloc _).alloc _).alloc _).alloc _ | exact (hs).drew | exact ((hs).alloc _).drew | exact (((hs).alloc _).alloc _).drew | exact ((((hs).alloc _).alloc _).alloc _).drew | exact (((((hs).alloc _).alloc _).alloc _).alloc _).drew | exact (hs).drewN _ | exact ((hs).alloc _).drewN _ | exact (((hs).alloc _).alloc _).drewN _ | exact ((((hs).alloc _).alloc _).alloc _).drewN _ | exact (((((hs).alloc _).alloc _).alloc _).alloc _).drewN _))
          · have hrb : r = cc2 := by have h1 := HR.out; rw [HSV.out, if_neg q1, if_neg (by simpa using q2)] at h1; exact h1.symm
            subst hrb
            have hwc : wd = cc2 := by rw [← hwd, HWV.out _ (by omega) (by omega), if_neg q1, if_neg (by simp; omega)]
            subst hwc
            have e1 : ((cc2 : Int) == (cc2 : Int)) = true := by simp
            have e1b : ((cc2 : Int) != (cc2 : Int)) = false := by simp
            clear hwd
            go_wp2_with fail
            go_quiet (fail)
            go_wp2
            go_ret
            exact Ret.mk1 rfl (SH.done (by first | exact hs | exact (hs).alloc _ | exact ((hs).alloc _).alloc _ | exact (((hs).alloc _).alloc _).alloc _ | exact ((((hs).alloc _).alloc _).alloc _).alloc _ | exact (hs).drew | exact ((hs).alloc _).drew | exact (((hs).alloc _).alloc _).drew | exact ((((hs).alloc _).alloc _).alloc _).drew | exact (((((hs).alloc _).alloc _).alloc _).alloc _).drew | exact (hs).drewN _ | exact ((hs).alloc _).drewN _ | exact (((hs).alloc _).alloc _).drewN _ | exact ((((hs).alloc _).alloc _).alloc _).drewN _ | exact (((((hs).alloc _).alloc _).alloc _).alloc _).drewN _))

end Go.Proofs.Ytoilofcpijgaiaa
