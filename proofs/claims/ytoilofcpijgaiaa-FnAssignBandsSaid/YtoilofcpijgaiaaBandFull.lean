import Derived.Test.YtoilofcpijgaiaaProg
import Derived.Test.YtoilofcpijgaiaaSym
import Derived.Test.YtoilofcpijgaiaaInts
import Derived.Test.YtoilofcpijgaiaaPair
import Derived.Test.YtoilofcpijgaiaaBand
import Derived.Test.YtoilofcpijgaiaaBlk
import Derived.Test.YtoilofcpijgaiaaAsg
import Derived.Test.YtoilofcpijgaiaaDrawBand
namespace Go.Proofs.Ytoilofcpijgaiaa
open Go.RowKit

theorem DrawBandsValid_s (va : Value) (cs : List Int) (w : World) {row : Option Nat} {w0 : World} {I : List Part} (hs : SH row w0 w (rdP .u8 va cs :: I)) (hb : ∀ n ∈ cs, (Lit.int .u8 n).wf = true) :
    Calls Try.prog 33 #[va] w (fun e w' => ∃ v xs, e = .returned v ∧ xs.length ≤ 6 ∧ inBd xs (-2) 1000 ∧ SH row w0 w' (bandP v xs :: rdP .u8 va cs :: I)) := by
  have HB := Lib.hid hb
  clear hb
  go_enter Try.func33, Try.ntmps33
  go_wp2_with fail
  refine (open_s va cs _ (by first | exact hs | exact (hs).allocP1 _ _ | exact ((hs).allocP1 _ _).allocP1 _ _ | exact (((hs).allocP1 _ _).allocP1 _ _).allocP1 _ _ | exact ((((hs).allocP1 _ _).allocP1 _ _).allocP1 _ _).allocP1 _ _ | exact (hs).drew | exact ((hs).allocP1 _ _).drew | exact (((hs).allocP1 _ _).allocP1 _ _).drew | exact ((((hs).allocP1 _ _).allocP1 _ _).allocP1 _ _).drew | exact (((((hs).allocP1 _ _).allocP1 _ _).allocP1 _ _).allocP1 _ _).drew | exact (hs).drewN _ | exact ((hs).allocP1 _ _).drewN _ | exact (((hs).allocP1 _ _).allocP1 _ _).drewN _ | exact ((((hs).allocP1 _ _).allocP1 _ _).allocP1 _ _).drewN _ | exact (((((hs).allocP1 _ _).allocP1 _ _).allocP1 _ _).allocP1 _ _).drewN _) HB.out).mono ?_
  rintro e w1 ⟨g, sv, bs, rfl, hs⟩
  go_wp2_with fail
  refine (l20Bands_s g 0 2 _ (by first | exact hs | exact (hs).allocP1 _ _ | exact ((hs).allocP1 _ _).allocP1 _ _ | exact (((hs).allocP1 _ _).allocP1 _ _).allocP1 _ _ | exact ((((hs).allocP1 _ _).allocP1 _ _).allocP1 _ _).allocP1 _ _ | exact (hs).drew | exact ((hs).allocP1 _ _).drew | exact (((hs).allocP1 _ _).allocP1 _ _).drew | exact ((((hs).allocP1 _ _).allocP1 _ _).allocP1 _ _).drew | exact (((((hs).allocP1 _ _).allocP1 _ _).allocP1 _ _).allocP1 _ _).drew | exact (hs).drewN _ | exact ((hs).allocP1 _ _).drewN _ | exact (((hs).allocP1 _ _).allocP1 _ _).drewN _ | exact ((((hs).allocP1 _ _).allocP1 _ _).allocP1 _ _).drewN _ | exact (((((hs).allocP1 _ _).allocP1 _ _).allocP1 _ _).allocP1 _ _).drewN _) (by decide) (by decide)).mono ?_
  rintro e w2 ⟨v, xs, rfl, hl, hx, hs⟩
  have HX := Lib.hid hx
  clear hx
  go_wp2
  go_ret
  exact ⟨_, xs, rfl, hl, HX.out, hs.drop1⟩

/-- how wide a band is -/
def wdAt (fs : List (Int × Int)) (i : Nat) : Int := bL fs i - bF fs i + 1
/-- the widest one of the first k -/
def mostK (fs : List (Int × Int)) : Nat → Int
  | 0 => 0
  | k + 1 => max (mostK fs k) (wdAt fs k)
theorem mostK_ge (fs : List (Int × Int)) : ∀ k i, i < k → wdAt fs i ≤ mostK fs k
  | 0, i, h => by omega
  | k + 1, i, h => by
    simp only [mostK]
    rcases Nat.lt_succ_iff_lt_or_eq.1 h with h1 | rfl
    · have := mostK_ge fs k i h1; omega
    · omega
theorem mostK_bd {fs : List (Int × Int)} (h : bvTo fs fs.length) : ∀ k, k ≤ fs.length → 0 ≤ mostK fs k ∧ mostK fs k ≤ 64
  | 0, _ => by simp [mostK]
  | k + 1, hk => by
    have ih := mostK_bd h k (by omega)
    have := bvTo_bd h (i := k) (by omega)
    simp only [mostK, wdAt]; omega
theorem asg64 {fs : List (Int × Int)} (h : bvB fs = true) : asgV fs [64] = [asgB fs (nx0 fs) 64] := by
  rw [asgV_ok h (by decide)]
  show outK fs [64] 1 = _
  simp [outK, nxK, gi]
theorem asg64_none {fs : List (Int × Int)} (h : bvTo fs fs.length) (hm : mostK fs fs.length ≠ 64) : asgB fs (nx0 fs) 64 = (0, -1) := by
  refine asgB_none (fit_none fun j hj => ?_)
  rw [gi_nx0 hj]
  have h1 := bvTo_bd h hj
  have h2 := mostK_ge fs fs.length j hj
  have h3 := (mostK_bd h fs.length (Nat.le_refl _)).2
  unfold wdAt at h2
  omega
theorem asgOne {f l : Int} (h : bvB [(f, l)] = true) : asgV [(f, l)] [l - f + 1] = [(f, l)] ∧ asgV [(f, l)] [l - f + 1, 1] = [(f, l), (0, -1)] := by
  obtain ⟨h1, h2, h3⟩ : 0 ≤ f ∧ f ≤ l ∧ l ≤ 63 := bvTo_bd (bvB_true.1 h).2 (i := 0) (by simp)
  have e1 : fit [(f, l)] (nx0 [(f, l)]) (l - f + 1) = 0 := fit_eq (by simp) (by simp [nx0, gi, bL]; omega) (fun j hj => absurd hj (Nat.not_lt_zero _))
  have e2 : asgB [(f, l)] (nx0 [(f, l)]) (l - f + 1) = (f, l) := by rw [asgB_fit e1 (by simp)]; simp [nx0, gi]; omega
  have e3 : asgN [(f, l)] (nx0 [(f, l)]) (l - f + 1) = [l + 1] := by rw [asgN_fit e1 (by simp)]; simp [nx0, gi]; omega
  have e4 : asgB [(f, l)] [l + 1] 1 = (0, -1) := asgB_none (fit_none fun j hj => by
    have : j = 0 := by simpa using hj
    subst this; simp [gi, bL]; omega)
  have w1 : wdB [l - f + 1] = true := by
    have : inB (l - f + 1) 1 64 = true := inB_true.2 (by omega)
    simp [wdB, this]
  have w2 : wdB [l - f + 1, 1] = true := by
    have : inB (l - f + 1) 1 64 = true := inB_true.2 (by omega)
    have h1 : inB 1 1 64 = true := rfl
    simp [wdB, this, h1]
  constructor
  · rw [asgV_ok h w1]
    show outK _ _ 1 = _
    simp only [outK, nxK, gi, List.getD_cons_zero, e2, List.nil_append]
  · rw [asgV_ok h w2]
    show outK _ _ 2 = _
    simp only [outK, nxK, gi, List.getD_cons_zero, List.getD_cons_succ, e2, e3, e4, List.nil_append, List.cons_append]

theorem band_cells {row : Option Nat} {w0 w : World} {I : List Part} {ba oa n c k : Nat} {xs : List (Int × Int)} (h : SH row w0 w (bandP (.slice (some ⟨ba, oa, none⟩) n c) xs :: I)) (hk : k < xs.length) :
    w.cell? ⟨ba, oa + k * 2, none⟩ = some (.int .i64 (bF xs k)) ∧ w.cell? ⟨ba, oa + k * 2 + 1, none⟩ = some (.int .i64 (bL xs k)) := by
  obtain ⟨b, o, e, hc⟩ := (OwnM.rd h.p0).at_ hk
  cases e
  exact ⟨hc 0 (by decide), hc 1 (by decide)⟩

set_option maxRecDepth 100000 in
set_option maxHeartbeats 4000000 in
theorem fnBandsFull_c (vc : Value) (c : List Int) (w : World) (hc : RdB w vc c) (bc : ∀ n ∈ c, (Lit.int .u8 n).wf = true) :
    Calls Try.prog 13 #[vc] w (Ret w fun v _ => v = .bool true) := by
  have hs := SH.add (p := rdP .u8 vc c) (SH.start0 w) (by simp) hc rdP_wr
  obtain ⟨ac, cc, rfl, -⟩ := hc.form
  have Bc := Lib.hid bc
  clear hc bc
  by_cases lc : c.length ≤ 1048576
  case neg =>
    go_enter Try.func13, Try.ntmps13
    go_wp2
    go_ret
    exact Ret.mk1 rfl (Below.refl _ _)
  go_enter Try.func13, Try.ntmps13
  go_wp2_with fail
  refine (DrawBandsValid_s _ c _ (by first | exact hs | exact (hs).allocP1 _ _ | exact ((hs).allocP1 _ _).allocP1 _ _ | exact (((hs).allocP1 _ _).allocP1 _ _).allocP1 _ _ | exact ((((hs).allocP1 _ _).allocP1 _ _).allocP1 _ _).allocP1 _ _ | exact (hs).drew | exact ((hs).allocP1 _ _).drew | exact (((hs).allocP1 _ _).allocP1 _ _).drew | exact ((((hs).allocP1 _ _).allocP1 _ _).allocP1 _ _).drew | exact (((((hs).allocP1 _ _).allocP1 _ _).allocP1 _ _).allocP1 _ _).drew | exact (hs).drewN _ | exact ((hs).allocP1 _ _).drewN _ | exact (((hs).allocP1 _ _).allocP1 _ _).drewN _ | exact ((((hs).allocP1 _ _).allocP1 _ _).allocP1 _ _).drewN _ | exact (((((hs).allocP1 _ _).allocP1 _ _).allocP1 _ _).allocP1 _ _).drewN _) Bc.out).mono ?_
  rintro e w1 ⟨v1, fs, rfl, hl, hx, hs⟩
  obtain ⟨a1, c1, rfl, -⟩ := (OwnM.rd hs.p0).form
  clear hx
  go_wp2_with fail
  refine (SH.ret hs (by repeat' (first | with_reducible exact Below.refl _ _ | with_reducible assumption | with_reducible refine below_drewN ?_ _ | with_reducible refine Below.drew ?_ | with_reducible refine Below.alloc ?_ ?_ _ | with_reducible refine Below.setCell ?_ ?_ _ | go_size)) fun hs => implBandsValid_c _ fs _ (OwnM.rd hs.p0)).mono ?_
  rintro e w2 ⟨v, rfl, rfl, hs⟩
  cases hbv : bvB fs
  · go_wp2_with fail
    refine (SH.quiet hs (by repeat' (first | with_reducible exact Below.refl _ _ | with_reducible assumption | with_reducible refine below_drewN ?_ _ | with_reducible refine Below.drew ?_ | with_reducible refine Below.alloc ?_ ?_ _ | with_reducible refine Below.setCell ?_ ?_ _ | go_size)) fun hs => specBandsValid_c _ fs _ (OwnM.rd hs.p0)).mono ?_
    rintro e w3 ⟨rfl, hs⟩
    rw [hbv]
    go_wp2_with fail
    refine (SH.ret hs (by repeat' (first | with_reducible exact Below.refl _ _ | with_reducible assumption | with_reducible refine below_drewN ?_ _ | with_reducible refine Below.drew ?_ | with_reducible refine Below.alloc ?_ ?_ _ | with_reducible refine Below.setCell ?_ ?_ _ | go_size)) fun hs => alive_c _).mono ?_
    rintro e w4 ⟨v, rfl, rfl, hs⟩
    go_wp2
    go_ret
    exact Ret.mk1 rfl (SH.done (by first | exact hs | exact (hs).alloc _ | exact ((hs).alloc _).alloc _ | exact (((hs).alloc _).alloc _).alloc _ | exact ((((hs).alloc _).alloc _).alloc _).alloc _ | exact (hs).drew | exact ((hs).alloc _).drew | exact (((hs).alloc _).alloc _).drew | exact ((((hs).alloc _).alloc _).alloc _).drew | exact (((((hs).alloc _).alloc _).alloc _).alloc _).drew | exact (hs).drewN _ | exact ((hs).alloc _).drewN _ | exact (((hs).alloc _).alloc _).drewN _ | exact ((((hs).alloc _).alloc _).alloc _).drewN _ | exact (((((hs).alloc _).alloc _).alloc _).alloc _).drewN _))
  have HBV := Lib.hid hbv
  have HV := Lib.hid (bvB_true.1 hbv).2
  clear hbv
  go_wp2_with fail
  have hs := hs.ownEmpty .i64 3
  go_loopw [4, 5, 6] (fun o m i wr => ∃ (k : Nat) (xs : List Int), k ≤ fs.length ∧ i = .int .i64 k ∧ m = .int .i64 (mostK fs k) ∧ xs.length = k ∧ Hid (∀ i, i < k → gi xs i = wdAt fs i) ∧ SH none w wr [ownP .i64 3 o xs, bandP (.slice a1 fs.length c1) fs, rdP .u8 (.slice ac c.length cc) c]) (fun _ _ i _ => fs.length - (intOf i).toNat)
  case atStart => exact ⟨0, [], Nat.zero_le _, rfl, rfl, rfl, Lib.hid (fun i h => absurd h (Nat.not_lt_zero _)), hs⟩
  case round =>
    obtain ⟨k, xs, hk, rfl, rfl, hxl, HX, hs⟩ := hrel
    have HXL := Lib.hid hxl
    clear hxl
    obtain ⟨m0, m1⟩ := mostK_bd HV.out k hk
    by_cases hlt : k < fs.length
    · obtain ⟨ba, oa, rfl, hca⟩ := (OwnM.rd hs.p1).at_ hlt
      have hc0 : wr.cell? ⟨ba, oa + k * 2, none⟩ = some (.int .i64 (bF fs k)) := hca 0 (by decide)
      have hc1 : wr.cell? ⟨ba, oa + k * 2 + 1, none⟩ = some (.int .i64 (bL fs k)) := hca 1 (by decide)
      clear hca
      obtain ⟨q1, q2, q3⟩ := bvTo_bd HV.out hlt
      have i0 : (0 : Int) ≤ (k : Int) := by omega
      have i1 : (k : Int) < (fs.length : Int) := by omega
      have s1 : IntKind.i64.wrap (bL fs k - bF fs k) = bL fs k - bF fs k := IntWalk.i64_in _ (by omega)
      have s2 : IntKind.i64.wrap (bL fs k - bF fs k + 1) = bL fs k - bF fs k + 1 := IntWalk.i64_in _ (by omega)
      obtain ⟨ao, co, rfl, -⟩ := (OwnK.rd hs.p0).form
      have hsq := hs
      clear hs
      go_wp2
      go_region_held3 (fun wx => SH none w wx [bandP (.slice (some ⟨ba, oa, none⟩) fs.length c1) fs, rdP .u8 (.slice ac c.length cc) c] ∧ wx.cell? ⟨ba, oa + k * 2, none⟩ = some (.int .i64 (bF fs k)) ∧ wx.cell? ⟨ba, oa + k * 2 + 1, none⟩ = some (.int .i64 (bL fs k))) (first | exact ⟨hsq.drew.drop0, band_cells hsq.drew.drop0 hlt⟩ | exact ⟨(hsq.drew.alloc _).drop0, band_cells (hsq.drew.alloc _).drop0 hlt⟩ | exact ⟨hs2.drop0, band_cells hs2.drop0 hlt⟩) (first | (refine step_app1S rfl rfl .i64 3 8 Try.underlying23 info_int (bL fs k - bF fs k + 1) rfl (hsq.drew.alloc _) rfl (World.cell?_alloc_at _ _ _ _ rfl) (by rw [HXL.out]; omega) (by rw [HXL.out]; unfold maxLen; omega) ?_; intro v2 w2 hs2))
      have hs := hs2
      clear hs2 hc0 hc1 hsq
      obtain ⟨ao2, co2, rfl, -⟩ := (OwnK.rd hs.p0).form
      obtain ⟨bw, ow, rfl, hwc⟩ := (OwnK.rd hs.p0).at_ (i := k) (by simp [HXL.out])
      rw [show gi (xs ++ [bL fs k - bF fs k + 1]) k = bL fs k - bF fs k + 1 by rw [← HXL.out]; exact gi_append_at] at hwc
      have hle : (xs ++ [bL fs k - bF fs k + 1]).length = k + 1 := by simp [HXL.out]
      rw [hle]
      have HLE := Lib.hid hle
      clear hle
      go_wp2
      go_roundw
      case rel =>
        refine ⟨k + 1, _, hlt, by go_num, intv (by simp only [mostK, wdAt]; omega), HLE.out, Lib.hid ?_, by rw [← HLE.out]; exact hs⟩
        intro i hi
        rcases Nat.lt_succ_iff_lt_or_eq.1 hi with h1 | rfl
        · rw [gi_append_left (by rw [HXL.out]; exact h1)]; exact HX.out i h1
        · rw [← HXL.out, gi_append_at, HXL.out]; rfl
      case measure => simp [intOf]; omega
    · obtain rfl : k = fs.length := by omega
      by_cases h1 : fs.length = 1
      · obtain ⟨q, rfl⟩ : ∃ q, fs = [q] := List.length_eq_one_iff.1 h1
        obtain ⟨f, l⟩ := q
        have hxs : xs = [l - f + 1] := gi_ext HXL.out (fun i hi => by
          have hi2 : i < 1 := by rw [HXL.out] at hi; simpa using hi
          obtain rfl : i = 0 := by omega
          exact HX.out 0 (by simp))
        subst hxs
        obtain ⟨g1, g2⟩ := asgOne HBV.out
        have G1 := Lib.hid g1
        have G2 := Lib.hid g2
        clear HX HXL m0 m1 g1 g2 h1 hlt hk
        simp only [List.length_cons, List.length_nil, Nat.zero_add] at *
        go_wp2_with fail
        refine (SH.ownM hs (by repeat' (first | with_reducible exact Below.refl _ _ | with_reducible assumption | with_reducible refine below_drewN ?_ _ | with_reducible refine Below.drew ?_ | with_reducible refine Below.alloc ?_ ?_ _ | with_reducible refine Below.setCell ?_ ?_ _ | go_size)) fun hs => implAssignBands_c _ [(f, l)] _ [l - f + 1] _ (OwnM.rd hs.p1) (OwnK.rd hs.p0)).mono ?_
        rintro e w21 ⟨v5, rfl, hs⟩
        rw [G1.out] at hs
        go_wp2_with fail
        refine (SH.quiet hs (by repeat' (first | with_reducible exact Below.refl _ _ | with_reducible assumption | with_reducible refine below_drewN ?_ _ | with_reducible refine Below.drew ?_ | with_reducible refine Below.alloc ?_ ?_ _ | with_reducible refine Below.setCell ?_ ?_ _ | go_size)) fun hs => sameBands_c _ _ [(f, l)] _ (OwnM.rd hs.p0) (OwnM.rd hs.p2)).mono ?_
        rintro e w22 ⟨rfl, hs⟩
        have hs := hs.drop0
        go_wp2_with (at_builtin; refine wp_unguard rfl ?_; refine wp_app1S rfl rfl .i64 3 8 Try.underlying23 info_int 1 rfl (hs.alloc _) rfl (World.cell?_alloc_at _ _ _ _ rfl) (by show (2 : Nat) * 8 ≤ _; decide) (by show (2 : Nat) ≤ maxLen; decide) ?_; intro v6 w6 hs)
        refine (SH.ownM hs (by repeat' (first | with_reducible exact Below.refl _ _ | with_reducible assumption | with_reducible refine below_drewN ?_ _ | with_reducible refine Below.drew ?_ | with_reducible refine Below.alloc ?_ ?_ _ | with_reducible refine Below.setCell ?_ ?_ _ | go_size)) fun hs => implAssignBands_c _ [(f, l)] _ [l - f + 1, 1] _ (OwnM.rd hs.p1) (OwnK.rd hs.p0)).mono ?_
        rintro e w23 ⟨v5b, rfl, hs⟩
        rw [G2.out] at hs
        go_wp2_with (first | (at_builtin; refine wp_unguard rfl ?_; refine wp_appMX rfl rfl 47 16 2 (.agg #[.int .i64 0, .int .i64 0]) Try.underlying43 info_band rfl (by decide) rfl (hs.ownEmptyM 2 (by decide) _ (fun _ _ => undef)) rfl (((Below.refl _ _).alloc (Nat.le_refl _) _ |> fun hb => RdM.below (OwnM.rd hs.p2) (by decide) hb)) (fun i j hi hj => by unfold bC; rfl) (by show (1 : Nat) * 16 ≤ _; decide) (by show (1 : Nat) ≤ maxLen; decide) ?_; intro v7 w7 hs) | (at_builtin; refine wp_unguard rfl ?_; refine wp_app1MS rfl rfl 47 16 2 (.agg #[.int .i64 0, .int .i64 0]) Try.underlying43 info_band rfl (by decide) (rowB 0 (-1)) rfl (hs.alloc _) rfl (fun j hj => by have : j = 0 ∨ j = 1 := (by omega); rcases this with rfl | rfl <;> exact World.cell?_alloc_at _ _ _ _ rfl) (fun j hj => by unfold rowB; rfl) (by show (2 : Nat) * 16 ≤ _; decide) (by show (2 : Nat) ≤ maxLen; decide) ?_; intro v8 w8 hs))
        have hs := hs.congrM (c' := bC [(f, l), (0, -1)]) (fun i j hi hj => by
              have hi3 : i < 2 := hi
              have hi2 : i = 0 ∨ i = 1 := by omega
              have hj2 : j = 0 ∨ j = 1 := by omega
              rcases hi2 with rfl | rfl <;> rcases hj2 with rfl | rfl <;> rfl)
        refine (SH.quiet hs (by repeat' (first | with_reducible exact Below.refl _ _ | with_reducible assumption | with_reducible refine below_drewN ?_ _ | with_reducible refine Below.drew ?_ | with_reducible refine Below.alloc ?_ ?_ _ | with_reducible refine Below.setCell ?_ ?_ _ | go_size)) fun hs => sameBands_c _ _ [(f, l), (0, -1)] _ (OwnM.rd hs.p1) (OwnM.rd hs.p0)).mono ?_
        rintro e w31 ⟨rfl, hs⟩
        go_wp2
        go_ret
        exact Ret.mk1 rfl (SH.done (by first | exact hs | exact (hs).alloc _ | exact ((hs).alloc _).alloc _ | exact (((hs).alloc _).alloc _).alloc _ | exact ((((hs).alloc _).alloc _).alloc _).alloc _ | exact (hs).drew | exact ((hs).alloc _).drew | exact (((hs).alloc _).alloc _).drew | exact ((((hs).alloc _).alloc _).alloc _).drew | exact (((((hs).alloc _).alloc _).alloc _).alloc _).drew | exact (hs).drewN _ | exact ((hs).alloc _).drewN _ | exact (((hs).alloc _).alloc _).drewN _ | exact ((((hs).alloc _).alloc _).alloc _).drewN _ | exact (((((hs).alloc _).alloc _).alloc _).alloc _).drewN _))
      · have hne1 : ((fs.length : Int) != 1) = true := by simp; omega
        obtain ⟨MX, hMX⟩ : ∃ MX, mostK fs fs.length = MX := ⟨_, rfl⟩
        have HMX := Lib.hid hMX
        rw [hMX]
        rw [hMX] at m0 m1
        clear hMX
        have hs := hs.drop0
        have hsl := hs.ownLit .i64 3 [64] (by decide)
        go_wp2_with fail
        refine (SH.ownM hsl (Below.refl _ _) fun hs => implAssignBands_c _ fs _ [64] _ (OwnM.rd hs.p1) (OwnK.rd hs.p0)).mono ?_
        rintro e w5 ⟨v5, rfl, hs⟩
        rw [asg64 HBV.out] at hs
        obtain ⟨⟨x, y⟩, hxy⟩ : ∃ q, asgB fs (nx0 fs) 64 = q := ⟨_, rfl⟩
        have HXY := Lib.hid hxy
        rw [hxy] at hs
        clear hxy hsl
        have hs : SH none w w5 (bandP v5 [(x, y)] :: _) := hs
        obtain ⟨a5, c5, rfl, -⟩ := (OwnM.rd hs.p0).form
        obtain ⟨g5, o5, rfl, hcc⟩ := (OwnM.rd hs.p0).at_ (i := 0) (by simp)
        have hd0 : w5.cell? ⟨g5, o5 + 0 * 2, none⟩ = some (.int .i64 x) := hcc 0 (by decide)
        have hd1 : w5.cell? ⟨g5, o5 + 0 * 2 + 1, none⟩ = some (.int .i64 y) := hcc 1 (by decide)
        rw [Nat.zero_mul, Nat.add_zero] at hd0 hd1
        clear hcc
        have hs := hs.bring2.bring2
        have hs2 := hs.ownLit .i64 3 [64] (by decide)
        simp only [List.length_cons, List.length_nil, Nat.zero_add] at hs2 ⊢
        clear hs
        by_cases hM : MX = 64
        · have e5 : (MX == 64) = true := by simpa using hM
          go_wp2_with fail
          refine (SH.ownM hs2 (Below.refl _ _) fun hs => specAssignBands_c _ fs _ [64] _ (OwnM.rd hs.p2) (OwnK.rd hs.p0)).mono ?_
          rintro e w6 ⟨v6, rfl, hs⟩
          clear hd0 hd1
          rw [asg64 HBV.out, HXY.out] at hs
          go_wp2_with fail
          refine (SH.quiet hs (by repeat' (first | with_reducible exact Below.refl _ _ | with_reducible assumption | with_reducible refine below_drewN ?_ _ | with_reducible refine Below.drew ?_ | with_reducible refine Below.alloc ?_ ?_ _ | with_reducible refine Below.setCell ?_ ?_ _ | go_size)) fun hs => sameBands_c _ _ [(x, y)] _ (OwnM.rd hs.p4) (OwnM.rd hs.p0)).mono ?_
          rintro e w7 ⟨rfl, hs⟩
          go_wp2
          go_ret
          exact Ret.mk1 rfl (SH.done (by first | exact hs | exact (hs).alloc _ | exact ((hs).alloc _).alloc _ | exact (((hs).alloc _).alloc _).alloc _ | exact ((((hs).alloc _).alloc _).alloc _).alloc _ | exact (hs).drew | exact ((hs).alloc _).drew | exact (((hs).alloc _).alloc _).drew | exact ((((hs).alloc _).alloc _).alloc _).drew | exact (((((hs).alloc _).alloc _).alloc _).alloc _).drew | exact (hs).drewN _ | exact ((hs).alloc _).drewN _ | exact (((hs).alloc _).alloc _).drewN _ | exact ((((hs).alloc _).alloc _).alloc _).drewN _ | exact (((((hs).alloc _).alloc _).alloc _).alloc _).drewN _))
        · have e5 : (MX == 64) = false := by simpa using hM
          have hxy := asg64_none HV.out (by rw [HMX.out]; exact hM)
          rw [HXY.out] at hxy
          simp only [Prod.mk.injEq] at hxy
          obtain ⟨rfl, rfl⟩ := hxy
          go_wp2_with fail
          refine (SH.ownM hs2 (Below.refl _ _) fun hs => specAssignBands_c _ fs _ [64] _ (OwnM.rd hs.p2) (OwnK.rd hs.p0)).mono ?_
          rintro e w6 ⟨v6, rfl, hs⟩
          clear hd0 hd1
          rw [asg64 HBV.out, HXY.out] at hs
          go_wp2_with fail
          refine (SH.quiet hs (by repeat' (first | with_reducible exact Below.refl _ _ | with_reducible assumption | with_reducible refine below_drewN ?_ _ | with_reducible refine Below.drew ?_ | with_reducible refine Below.alloc ?_ ?_ _ | with_reducible refine Below.setCell ?_ ?_ _ | go_size)) fun hs => sameBands_c _ _ [(0, -1)] _ (OwnM.rd hs.p4) (OwnM.rd hs.p0)).mono ?_
          rintro e w7 ⟨rfl, hs⟩
          go_wp2
          go_ret
          exact Ret.mk1 rfl (SH.done (by first | exact hs | exact (hs).alloc _ | exact ((hs).alloc _).alloc _ | exact (((hs).alloc _).alloc _).alloc _ | exact ((((hs).alloc _).alloc _).alloc _).alloc _ | exact (hs).drew | exact ((hs).alloc _).drew | exact (((hs).alloc _).alloc _).drew | exact ((((hs).alloc _).alloc _).alloc _).drew | exact (((((hs).alloc _).alloc _).alloc _).alloc _).drew | exact (hs).drewN _ | exact ((hs).alloc _).drewN _ | exact (((hs).alloc _).alloc _).drewN _ | exact ((((hs).alloc _).alloc _).alloc _).drewN _ | exact (((((hs).alloc _).alloc _).alloc _).alloc _).drewN _))

end Go.Proofs.Ytoilofcpijgaiaa
