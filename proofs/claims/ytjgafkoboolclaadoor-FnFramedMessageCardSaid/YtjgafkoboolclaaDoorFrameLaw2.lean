import Derived.Test.YtjgafkoboolclaaDoorProg
import Derived.Test.YtjgafkoboolclaaDoorSym
import Derived.Test.YtjgafkoboolclaaDoorInts
import Derived.Test.YtjgafkoboolclaaDoorBlk
import Derived.Test.YtjgafkoboolclaaDoorApp
import Derived.Test.YtjgafkoboolclaaDoorSS
import Derived.Test.YtjgafkoboolclaaDoorFlag
import Derived.Test.YtjgafkoboolclaaDoorFind2
import Derived.Test.YtjgafkoboolclaaDoorFindEx
import Derived.Test.YtjgafkoboolclaaDoorBuild
import Derived.Test.YtjgafkoboolclaaDoorFramePl
import Derived.Test.YtjgafkoboolclaaDoorFrameLaw
import Derived.Test.YtjgafkoboolclaaDoorDrawFrames
namespace Go.Proofs.YtjgafkoboolclaaDoor
open Go.RowKit

theorem isBits_c (va : Value) (xs : List Int) (w : World) (h : RdI w va xs) (hv : bitsB xs = true) :
    Calls Tryd.prog 20 #[va] w (RetQ w (.bool true)) := by
  obtain ⟨a, ca, rfl, ml⟩ := h.form
  obtain ⟨hl, hx⟩ := bitsB_true.1 hv
  have H := Lib.hid h
  have HX := Lib.hid hx
  clear h hx hv
  go_enter Tryd.func20, Tryd.ntmps20
  go_wp2
  go_loopw [3] (fun i wr => ∃ k : Nat, k ≤ xs.length ∧ i = .int .i64 k ∧ Hid (SameW w wr)) (fun i _ => xs.length - (intOf i).toNat)
  case atStart => exact ⟨0, Nat.zero_le _, rfl, Lib.hid (SameW.refl _)⟩
  case round =>
    obtain ⟨k, hk, rfl, HS⟩ := hrel
    by_cases hlt : k < xs.length
    · obtain ⟨b, off, rfl, hc⟩ := (H.out.below HS.out.below).at_ hlt
      have hbit := HX.out k hlt
      obtain ⟨y, hy⟩ : ∃ y, gi xs k = y := ⟨_, rfl⟩
      rw [hy] at hc hbit
      clear hy
      rcases hbit with rfl | rfl
      · go_wp2
        go_roundw
        case rel => exact ⟨k + 1, hlt, by go_num, HS⟩
        case measure => simp [intOf]; omega
      · go_wp2
        go_roundw
        case rel => exact ⟨k + 1, hlt, by go_num, HS⟩
        case measure => simp [intOf]; omega
    · have hd : decide ((xs.length : Int) ≤ 1024) = true := by rw [decide_eq_true_eq]; omega
      go_wp2
      go_ret
      exact RetQ.mkS rfl HS.out
theorem flat_len (xss : List (List Int)) : (xss.flatMap bfV).length ≤ 1040 * xss.length := by
  induction xss with
  | nil => simp
  | cons f fs ih =>
    rw [List.flatMap_cons, List.length_append, List.length_cons]
    have := bfV_len f
    omega
theorem flat_succ {xss : List (List Int)} {k : Nat} (h : k < xss.length) : (xss.take (k + 1)).flatMap bfV = (xss.take k).flatMap bfV ++ bfV (gl xss k) := by
  rw [List.take_add_one, List.flatMap_append]
  congr 1
  simp [gl, h]
theorem ff_again {xss : List (List Int)} (hv : ∀ f ∈ xss, bitsB f = true ∧ f.length ≤ 256) (hl : (xss.flatMap bfV).length ≤ 1024) : ffV (xss.flatMap bfV) = xss := by
  have := ff_frames 0 0 hv (by simpa using hl) (bfVs_ok hv)
  simpa using this
set_option maxRecDepth 100000 in
set_option maxHeartbeats 8000000 in
theorem fnFindFrames_c (vc : Value) (c : List Int) (w : World) (hc : RdB w vc c) (bc : ∀ n ∈ c, (Lit.int .u8 n).wf = true) (hg : RdI w (.slice (some ⟨0, 0, none⟩) 8 8) flagL) :
    Calls Tryd.prog 6 #[vc] w (Ret w fun v _ => v = .bool true) := by
  obtain ⟨ac, cc, rfl, -⟩ := hc.form
  have hs := SH.start w [rdP .u8 (.slice ac c.length cc) c, rdP .i64 (.slice (some ⟨0, 0, none⟩) 8 8) flagL] (by simp only [List.forall_mem_cons]; exact ⟨⟨hc, rdP_wr⟩, ⟨hg, rdP_wr⟩, by simp⟩)
  have Bc := Lib.hid bc
  clear hc bc hg
  by_cases lc : c.length ≤ 1048576
  case neg =>
    go_enter Tryd.func6, Tryd.ntmps6
    go_wp2
    go_ret
    exact Ret.mk1 rfl (Below.refl _ _)
  go_enter Tryd.func6, Tryd.ntmps6
  go_wp2_with fail
  refine (DrawFindFrames_s _ c _ (by first | exact hs | exact (hs).allocP1 _ _ | exact ((hs).allocP1 _ _).allocP1 _ _ | exact (((hs).allocP1 _ _).allocP1 _ _).allocP1 _ _ | exact ((((hs).allocP1 _ _).allocP1 _ _).allocP1 _ _).allocP1 _ _ | exact (hs).drew | exact ((hs).allocP1 _ _).drew | exact (((hs).allocP1 _ _).allocP1 _ _).drew | exact ((((hs).allocP1 _ _).allocP1 _ _).allocP1 _ _).drew | exact (((((hs).allocP1 _ _).allocP1 _ _).allocP1 _ _).allocP1 _ _).drew | exact (hs).drewN _ | exact ((hs).allocP1 _ _).drewN _ | exact (((hs).allocP1 _ _).allocP1 _ _).drewN _ | exact ((((hs).allocP1 _ _).allocP1 _ _).allocP1 _ _).drewN _ | exact (((((hs).allocP1 _ _).allocP1 _ _).allocP1 _ _).allocP1 _ _).drewN _) Bc.out).mono ?_
  rintro e w1 ⟨v1, bs, rfl, hl, hs⟩
  obtain ⟨a1, c1, rfl, -⟩ := (OwnK.rd hs.p0).form
  go_wp2_with fail
  refine (SH.rowsC hs (by repeat' (first | with_reducible exact Below.refl _ _ | with_reducible assumption | with_reducible refine below_drewN ?_ _ | with_reducible refine Below.drew ?_ | with_reducible refine Below.alloc ?_ ?_ _ | with_reducible refine Below.setCell ?_ ?_ _ | go_size)) fun hs => implFind_c _ bs _ (OwnK.rd hs.p0)).mono ?_
  rintro e w2 ⟨v2, vs, rfl, hs⟩
  go_wp2_with fail
  refine (SH.rowsC hs (by repeat' (first | with_reducible exact Below.refl _ _ | with_reducible assumption | with_reducible refine below_drewN ?_ _ | with_reducible refine Below.drew ?_ | with_reducible refine Below.alloc ?_ ?_ _ | with_reducible refine Below.setCell ?_ ?_ _ | go_size)) fun hs => specFind_c _ bs _ (OwnK.rd hs.p2)).mono ?_
  rintro e w3 ⟨v3, ws, rfl, hs⟩
  have HV : Hid (∀ f ∈ ffV bs, bitsB f = true ∧ f.length ≤ 256) := Lib.hid fun f hf => ff_valid hf
  have hn := (ffV_bd bs).1
  obtain ⟨R, hR⟩ : ∃ R, ffV bs = R := ⟨_, rfl⟩
  rw [hR] at hs HV hn
  clear hR
  -- want, out, the list, the code, the flag
  obtain ⟨a2, c2, rfl, -⟩ := (OwnM.rd hs.p2).form
  obtain ⟨a3, c3, rfl, -⟩ := (OwnM.rd hs.p0).form
  have e1 : ((R.length : Int) != (R.length : Int)) = false := bne_self_eq_false _
  have hs := hs.drop4.drop4
  go_wp2_with fail
  have hs := hs.ownEmpty .i64 3
  go_loopw [6, 7] (fun o i wr => ∃ (k : Nat) (xs : List Int), k ≤ R.length ∧ i = .int .i64 k ∧ Hid (xs = (R.take k).flatMap bfV) ∧ xs.length ≤ 1040 * k ∧ SH none w wr [ownP .i64 3 o xs, ownMP 1 22 (.slice a3 R.length c3) R.length (oneC ws), innP 3 ws R R.length, ownMP 1 22 (.slice a2 R.length c2) R.length (oneC vs), innP 3 vs R R.length, rdP .i64 (.slice (some ⟨0, 0, none⟩) 8 8) flagL]) (fun _ i _ => R.length - (intOf i).toNat)
  case atStart => exact ⟨0, [], Nat.zero_le _, rfl, Lib.hid rfl, Nat.zero_le _, hs⟩
  case round =>
    clear hs hl
    obtain ⟨k, xs, hk, rfl, HX, hxl, hs⟩ := hrel
    obtain ⟨ao, co, rfl, -⟩ := (OwnK.rd hs.p0).form
    by_cases hlt : k < R.length
    · obtain ⟨hv1, hv2⟩ := HV.out (gl R k) (by
        have : gl R k = R[k] := by simp [gl, hlt]
        rw [this]; exact List.getElem_mem hlt)
      obtain ⟨ba, oa, rfl, hca⟩ := (OwnM.rd hs.p3).at_ hlt
      obtain ⟨bb, ob, rfl, hcb⟩ := (OwnM.rd hs.p1).at_ hlt
      have hc0 : wr.cell? ⟨ba, oa + k, none⟩ = some (vs k) := by simpa [oneC] using hca 0 (by decide)
      have hd0 : wr.cell? ⟨bb, ob + k, none⟩ = some (ws k) := by simpa [oneC] using hcb 0 (by decide)
      clear hca hcb
      have HRA : Hid (RdI wr (vs k) (gl R k)) := Lib.hid (OwnK.rd ((SH.p4 hs).1 k hlt))
      have HRB : Hid (RdI wr (ws k) (gl R k)) := Lib.hid (OwnK.rd ((SH.p2 hs).1 k hlt))
      have HXS := Lib.hid (flat_succ hlt)
      have hbl := bfV_len (gl R k)
      obtain ⟨f, hf⟩ : ∃ f, gl R k = f := ⟨_, rfl⟩
      rw [hf] at hv1 hv2 HRA HRB HXS hbl
      obtain ⟨ra, hra⟩ : ∃ ra, vs k = ra := ⟨_, rfl⟩
      rw [hra] at hc0 HRA
      obtain ⟨ar, cr, rfl, -⟩ := HRA.out.form
      have HE := Lib.hid (And.intro hf hra)
      have HV1 := Lib.hid hv1
      clear hf hra hv1
      have i0 : (0 : Int) ≤ (k : Int) := by omega
      have i1 : (k : Int) < (R.length : Int) := by omega
      have hde : decide (f = f) = true := by simp
      have hd2 : decide ((f.length : Int) > 256) = false := by rw [decide_eq_false_iff_not]; omega
      go_wp2
      go_quiet (first | (go_at_call 15; exact quiet_of (sameInts_c _ _ f f _ (RdK.drewN HRA.out _) (RdK.drewN HRB.out _))) | (go_at_call 20; exact quiet_of (isBits_c _ f _ (RdK.drewN HRA.out _) HV1.out)))
      have hs := hs.drewN nq
      have hc1 : (wr.drewN nq).cell? ⟨ba, oa + k, none⟩ = some (.slice ar f.length cr) := hc0
      clear hd0
      go_wp2_with fail
      refine (SH.own hs (by repeat' (first | with_reducible exact Below.refl _ _ | with_reducible assumption | with_reducible refine below_drewN ?_ _ | with_reducible refine Below.drew ?_ | with_reducible refine Below.alloc ?_ ?_ _ | with_reducible refine Below.setCell ?_ ?_ _ | go_size)) fun hs => implBuildFrame_c _ f _ (by have := OwnK.rd ((SH.p4 hs).1 k hlt); rw [HE.out.1, HE.out.2] at this; exact this) hs.p5).mono ?_
      rintro e w5 ⟨v5, rfl, hs⟩
      clear hc0 hc1
      obtain ⟨Y, hY⟩ : ∃ Y, bfV f = Y := ⟨_, rfl⟩
      rw [hY] at hs HXS hbl
      clear hY
      go_wp2_with (at_builtin; refine wp_appKX (xs := xs) (ys := Y) rfl rfl .i64 3 8 Tryd.underlying22 info_int rfl hs.bring1 rfl (OwnK.rd hs.p0) (by omega) (by unfold maxLen; omega) ?_; intro v6 w6 hs)
      go_roundw
      case rel => exact ⟨k + 1, _, hlt, by go_num, Lib.hid (by rw [HXS.out, HX.out]), by rw [List.length_append]; omega, hs.drop1⟩
      case measure => simp [intOf]; omega
    · obtain rfl : k = R.length := by omega
      have HX2 : Hid (xs = R.flatMap bfV) := Lib.hid (by rw [HX.out, List.take_length])
      by_cases h1024 : xs.length ≤ 1024
      · have HF : Hid (ffV xs = R) := Lib.hid (by rw [HX2.out]; exact ff_again HV.out (by rw [← HX2.out]; exact h1024))
        go_wp2_with fail
        refine (SH.rowsC hs (by repeat' (first | with_reducible exact Below.refl _ _ | with_reducible assumption | with_reducible refine below_drewN ?_ _ | with_reducible refine Below.drew ?_ | with_reducible refine Below.alloc ?_ ?_ _ | with_reducible refine Below.setCell ?_ ?_ _ | go_size)) fun hs => implFind_c _ xs _ (OwnK.rd hs.p0)).mono ?_
        rintro e w4 ⟨v4, us, rfl, hs⟩
        rw [HF.out] at hs
        obtain ⟨a4, c4, rfl, -⟩ := (OwnM.rd hs.p0).form
        have hs := hs.drop2.drop2.drop2
        go_wp2
        go_loopw [9] (fun i wr => ∃ (k : Nat), k ≤ R.length ∧ i = .int .i64 k ∧ SH none w wr [ownMP 1 22 (.slice a4 R.length c4) R.length (oneC us), innP 3 us R R.length, ownMP 1 22 (.slice a2 R.length c2) R.length (oneC vs), innP 3 vs R R.length, rdP .i64 (.slice (some ⟨0, 0, none⟩) 8 8) flagL]) (fun i _ => R.length - (intOf i).toNat)
        case atStart => exact ⟨0, Nat.zero_le _, rfl, hs⟩
        case round =>
          clear hs
          obtain ⟨k, hk, rfl, hs⟩ := hrel
          by_cases hlt : k < R.length
          · obtain ⟨ba, oa, rfl, hca⟩ := (OwnM.rd hs.p0).at_ hlt
            obtain ⟨bb, ob, rfl, hcb⟩ := (OwnM.rd hs.p2).at_ hlt
            have hc0 : wr.cell? ⟨ba, oa + k, none⟩ = some (us k) := by simpa [oneC] using hca 0 (by decide)
            have hd0 : wr.cell? ⟨bb, ob + k, none⟩ = some (vs k) := by simpa [oneC] using hcb 0 (by decide)
            clear hca hcb
            have HRA : Hid (RdI wr (us k) (gl R k)) := Lib.hid (OwnK.rd ((SH.p1 hs).1 k hlt))
            have HRB : Hid (RdI wr (vs k) (gl R k)) := Lib.hid (OwnK.rd ((SH.p3 hs).1 k hlt))
            have i0 : (0 : Int) ≤ (k : Int) := by omega
            have i1 : (k : Int) < (R.length : Int) := by omega
            have hde : decide (gl R k = gl R k) = true := by simp
            go_wp2
            go_quiet ((go_at_call 15; exact quiet_of (sameInts_c _ _ (gl R k) (gl R k) _ (RdK.drewN HRA.out _) (RdK.drewN HRB.out _))))
            go_wp2
            go_roundw
            case rel => exact ⟨k + 1, hlt, by go_num, hs.drewN _⟩
            case measure => simp [intOf]; omega
          · go_wp2_with fail
            refine (SH.ret hs (by repeat' (first | with_reducible exact Below.refl _ _ | with_reducible assumption | with_reducible refine below_drewN ?_ _ | with_reducible refine Below.drew ?_ | with_reducible refine Below.alloc ?_ ?_ _ | with_reducible refine Below.setCell ?_ ?_ _ | go_size)) fun hs => alive_c _).mono ?_
            rintro e w5 ⟨v, rfl, rfl, hs⟩
            go_wp2
            go_ret
            exact Ret.mk1 rfl (SH.done (by first | exact hs | exact (hs).alloc _ | exact ((hs).alloc _).alloc _ | exact (((hs).alloc _).alloc _).alloc _ | exact ((((hs).alloc _).alloc _).alloc _).alloc _ | exact (hs).drew | exact ((hs).alloc _).drew | exact (((hs).alloc _).alloc _).drew | exact ((((hs).alloc _).alloc _).alloc _).drew | exact (((((hs).alloc _).alloc _).alloc _).alloc _).drew | exact (hs).drewN _ | exact ((hs).alloc _).drewN _ | exact (((hs).alloc _).alloc _).drewN _ | exact ((((hs).alloc _).alloc _).alloc _).drewN _ | exact (((((hs).alloc _).alloc _).alloc _).alloc _).drewN _))
      · go_wp2_with fail
        refine (SH.ret hs (by repeat' (first | with_reducible exact Below.refl _ _ | with_reducible assumption | with_reducible refine below_drewN ?_ _ | with_reducible refine Below.drew ?_ | with_reducible refine Below.alloc ?_ ?_ _ | with_reducible refine Below.setCell ?_ ?_ _ | go_size)) fun hs => alive_c _).mono ?_
        rintro e w5 ⟨v, rfl, rfl, hs⟩
        go_wp2
        go_ret
        exact Ret.mk1 rfl (SH.done (by first | exact hs | exact (hs).alloc _ | exact ((hs).alloc _).alloc _ | exact (((hs).alloc _).alloc _).alloc _ | exact ((((hs).alloc _).alloc _).alloc _).alloc _ | exact (hs).drew | exact ((hs).alloc _).drew | exact (((hs).alloc _).alloc _).drew | exact ((((hs).alloc _).alloc _).alloc _).drew | exact (((((hs).alloc _).alloc _).alloc _).alloc _).drew | exact (hs).drewN _ | exact ((hs).alloc _).drewN _ | exact (((hs).alloc _).alloc _).drewN _ | exact ((((hs).alloc _).alloc _).alloc _).drewN _ | exact (((((hs).alloc _).alloc _).alloc _).alloc _).drewN _))
end Go.Proofs.YtjgafkoboolclaaDoor
