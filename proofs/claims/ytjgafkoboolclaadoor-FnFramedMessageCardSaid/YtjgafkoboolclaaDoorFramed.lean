import Derived.Test.YtjgafkoboolclaaDoorProg
import Derived.Test.YtjgafkoboolclaaDoorFrSplit
import Derived.Test.YtjgafkoboolclaaDoorPack
import Derived.Test.YtjgafkoboolclaaDoorFrameLaw2
import Derived.Deep.RegionHeld3
import Derived.Lib.QuietBelow
import Derived.BigQuiet
import Derived.BigRegion
namespace Go.Proofs.YtjgafkoboolclaaDoor
open Go.RowKit

/-! Fragments in frames. -/
theorem bfV_short {f : List Int} (hl : f.length ≤ 40) : (bfV f).length ≤ 100 := by
  unfold bfV
  split
  · have h := stS_bd (f ++ chkL f) (f ++ chkL f).length
    have h2 := h.2
    have h3 : (stV (f ++ chkL f)).length ≤ (stS (f ++ chkL f) (f ++ chkL f).length).1.length := by
      unfold stV; split <;> simp
    rw [List.length_append, chkL_len] at h2
    simp only [List.length_append, show flagL.length = 8 from rfl]
    rw [List.length_append, chkL_len] at h3
    omega
  · simp
theorem flat_short {R : List (List Int)} (h : ∀ f ∈ R, f.length ≤ 40) : (R.flatMap bfV).length ≤ 100 * R.length := by
  induction R with
  | nil => simp
  | cons f fs ih =>
    rw [List.flatMap_cons, List.length_append, List.length_cons]
    have := bfV_short (h f (by simp))
    have := ih fun f hf => h f (by simp [hf])
    omega
def bitsR (fs : List Frag) : List (List Int) := fs.map fun f => bobV f.d
theorem bitsR_len (fs : List Frag) : (bitsR fs).length = fs.length := by simp [bitsR]
theorem gl_bitsR {fs : List Frag} {k : Nat} (h : k < fs.length) : gl (bitsR fs) k = bobV (fr fs k).d := by simp [gl, bitsR, fr, h]
structure Small (fs : List Frag) : Prop where
  n : fs.length ≤ 4
  d : ∀ k, k < fs.length → (fr fs k).m = 3 ∧ (fr fs k).p = (k : Int) ∧ (fr fs k).l = ((k : Int) == (fs.length : Int) - 1) ∧ (fr fs k).d.length ≤ 5
  w : ∀ k, k < fs.length → ∀ n ∈ (fr fs k).d, (Lit.int .u8 n).wf = true
theorem small_of {d : List Int} (hl : d.length ≤ 20) (hw : ∀ n ∈ d, (Lit.int .u8 n).wf = true) : Small (splitF d 3 5) := by
  have hF := split_facts d 3 5
  by_cases h : splitOk d 3 5
  · have e : splitF d 3 5 = partsF d 3 5 (numF d 5) := by unfold splitF; rw [if_pos h]; rfl
    have hn : (splitF d 3 5).length ≤ 4 := by
      rw [e, length_parts]
      unfold numF
      omega
    refine ⟨hn, fun k hk => ?_, fun k hk n hn => ?_⟩
    · obtain ⟨a, b, c, -, f, -⟩ := hF.each k hk
      exact ⟨a, b, c, by omega⟩
    · rw [e] at hk hn
      rw [length_parts] at hk
      rw [fr_parts hk] at hn
      exact hw n (List.mem_of_mem_drop (List.mem_of_mem_take hn))
  · rw [splitNo h]
    exact ⟨by simp, fun k hk => absurd hk (Nat.not_lt_zero _), fun k hk => absurd hk (Nat.not_lt_zero _)⟩
theorem small_R {fs : List Frag} (h : Small fs) : (∀ f ∈ bitsR fs, bitsB f = true ∧ f.length ≤ 256) ∧ ((bitsR fs).flatMap bfV).length ≤ 400 ∧ ffV ((bitsR fs).flatMap bfV) = bitsR fs := by
  have hm : ∀ f ∈ bitsR fs, okB f ∧ f.length ≤ 40 := by
    intro f hf
    obtain ⟨x, hx, rfl⟩ := List.mem_map.1 hf
    obtain ⟨k, hk, rfl⟩ := List.getElem_of_mem hx
    have e : fr fs k = fs[k] := by simp [fr, hk]
    have := (h.d k hk).2.2.2
    rw [e] at this
    exact ⟨bobV_bits _, by rw [bobV_len]; omega⟩
  have h1 : ∀ f ∈ bitsR fs, bitsB f = true ∧ f.length ≤ 256 := fun f hf => by
    obtain ⟨a, b⟩ := hm f hf
    exact ⟨bitsB_true.2 ⟨by omega, a⟩, by omega⟩
  have h2 := flat_short fun f hf => (hm f hf).2
  rw [bitsR_len] at h2
  have := h.n
  exact ⟨h1, by omega, ff_again h1 (by omega)⟩

theorem fr_upd {fs : List Frag} {ws : Nat → Value} {k : Nat} {f : Frag} {v : Value} (hf : fr fs k = f) (i j : Nat) : updC (frC fs ws) k (rowF f v) i j = frC fs (updVF ws k v) i j := by
  unfold updC frC rowF updVF
  by_cases e : i = k
  · subst e
    simp only [hf, if_true]
  · simp only [if_neg e]
set_option maxRecDepth 100000 in
set_option maxHeartbeats 8000000 in
theorem fnFramedMessage_c (vc : Value) (c : List Int) (w : World) (hc : RdB w vc c) (bc : ∀ n ∈ c, (Lit.int .u8 n).wf = true) (hg : RdI w (.slice (some ⟨0, 0, none⟩) 8 8) flagL) :
    Calls Tryd.prog 7 #[vc] w (Ret w fun v _ => v = .bool true) := by
  obtain ⟨ac, cc, rfl, -⟩ := hc.form
  have hs := SH.start w [rdP .u8 (.slice ac c.length cc) c, rdP .i64 (.slice (some ⟨0, 0, none⟩) 8 8) flagL] (by simp only [List.forall_mem_cons]; exact ⟨⟨hc, rdP_wr⟩, ⟨hg, rdP_wr⟩, by simp⟩)
  have Bc := Lib.hid bc
  clear hc bc hg
  by_cases lc : c.length ≤ 1048576
  case neg =>
    go_enter Tryd.func7, Tryd.ntmps7
    go_wp2
    go_ret
    exact Ret.mk1 rfl (Below.refl _ _)
  go_enter Tryd.func7, Tryd.ntmps7
  go_wp2_with fail
  refine (drawSplit_s _ c _ (by first | exact hs | exact (hs).allocP1 _ _ | exact ((hs).allocP1 _ _).allocP1 _ _ | exact (((hs).allocP1 _ _).allocP1 _ _).allocP1 _ _ | exact ((((hs).allocP1 _ _).allocP1 _ _).allocP1 _ _).allocP1 _ _ | exact (hs).drew | exact ((hs).allocP1 _ _).drew | exact (((hs).allocP1 _ _).allocP1 _ _).drew | exact ((((hs).allocP1 _ _).allocP1 _ _).allocP1 _ _).drew | exact (((((hs).allocP1 _ _).allocP1 _ _).allocP1 _ _).allocP1 _ _).drew | exact (hs).drewN _ | exact ((hs).allocP1 _ _).drewN _ | exact (((hs).allocP1 _ _).allocP1 _ _).drewN _ | exact ((((hs).allocP1 _ _).allocP1 _ _).allocP1 _ _).drewN _ | exact (((((hs).allocP1 _ _).allocP1 _ _).allocP1 _ _).allocP1 _ _).drewN _) Bc.out).mono ?_
  rintro e w1 ⟨v0, m, s, D, rfl, hdl, hdw, hm, hsz, hs⟩
  clear hm hsz
  obtain ⟨aD, cD, rfl, hcD, -⟩ := (OwnK.rd hs.p0).form'
  obtain ⟨n, hn⟩ : ∃ n, min D.length 20 = n := ⟨_, rfl⟩
  have hn1 : n ≤ D.length := by omega
  have hn2 : n ≤ 20 := by omega
  have hmin : min (D.length : Int) 20 = (n : Int) := by omega
  have hwD : ∀ x ∈ D.take n, (Lit.int .u8 x).wf = true := fun x hx => hdw x (List.mem_of_mem_take hx)
  have hSm := small_of (d := D.take n) (by rw [List.length_take]; omega) hwD
  have hF := split_facts (D.take n) 3 5
  obtain ⟨fs, hfs⟩ : ∃ fs, splitF (D.take n) 3 5 = fs := ⟨_, rfl⟩
  rw [hfs] at hSm hF
  have HR := Lib.hid (small_R hSm)
  have HSm := Lib.hid hSm
  have HF := Lib.hid hF
  have HFS := Lib.hid hfs
  have hn4 := hSm.n
  have HW : Hid (wfF fs) := Lib.hid fun i hi => by
    obtain ⟨h1, h2, -⟩ := HSm.out.d i hi
    rw [h1, h2]; exact ⟨wfOf (by omega) (by omega), wfOf (by omega) (by omega)⟩
  have HL : Hid (lenF fs) := Lib.hid ⟨by omega, fun i hi => by have := (HSm.out.d i hi).2.2.2; omega⟩
  have HWm : Hid (wfI 3) := Lib.hid (wfOf (by omega) (by omega))
  clear hwD hSm hF hfs hdw
  go_wp2_with fail
  refine (SH.frag hs (by repeat' (first | with_reducible exact Below.refl _ _ | with_reducible assumption | with_reducible refine below_drewN ?_ _ | with_reducible refine Below.drew ?_ | with_reducible refine Below.alloc ?_ ?_ _ | with_reducible refine Below.setCell ?_ ?_ _ | go_size)) fun hs => implSplit_c _ (D.take n) 3 5 _ ((OwnK.rd hs.p0).take hn1)).mono ?_
  rintro e w2 ⟨vL, vs, rfl, hs⟩
  rw [HFS.out] at hs
  have hs := hs.bring1.readInn.bring1
  obtain ⟨aL, cL, rfl, -⟩ := (OwnM.rd hs.p0).form
  go_wp2_with fail
  have hs := hs.ownEmpty .i64 3
  go_loopw [7, 8] (fun o i wr => ∃ (k : Nat) (xs : List Int), k ≤ fs.length ∧ i = .int .i64 k ∧ Hid (xs = ((bitsR fs).take k).flatMap bfV) ∧ xs.length ≤ 1040 * k ∧ SH none w wr [ownP .i64 3 o xs, ownMP 4 39 (.slice aL fs.length cL) fs.length (frC fs vs), rdInn vs fs, ownP .u8 5 (.slice aD D.length cD) D, rdP .u8 (.slice ac c.length cc) c, rdP .i64 (.slice (some ⟨0, 0, none⟩) 8 8) flagL]) (fun _ i _ => fs.length - (intOf i).toNat)
  case atStart => exact ⟨0, [], Nat.zero_le _, rfl, Lib.hid rfl, Nat.zero_le _, hs⟩
  case round =>
    clear hs
    obtain ⟨k, xs, hk, rfl, HX, hxl, hs⟩ := hrel
    obtain ⟨ao, co, rfl, -⟩ := (OwnK.rd hs.p0).form
    by_cases hlt : k < fs.length
    · obtain ⟨bL, oL, rfl, -⟩ := (OwnM.rd hs.p1).at_ hlt
      obtain ⟨av, cv, hvk, -⟩ := (SH.p2 hs : ∀ i, i < fs.length → RdB _ (vs i) (fr fs i).d) k hlt |>.form
      obtain ⟨-, -, -, hj3⟩ := frag_cellsV hvk (OwnM.rd hs.p1) hlt
      have HVK := Lib.hid hvk
      have HDL : Hid ((fr fs k).d.length ≤ 5) := Lib.hid (HSm.out.d k hlt).2.2.2
      have HXS : Hid (((bitsR fs).take (k + 1)).flatMap bfV = ((bitsR fs).take k).flatMap bfV ++ bfV (bobV (fr fs k).d)) := Lib.hid (by rw [flat_succ (by rw [bitsR_len]; exact hlt), gl_bitsR hlt])
      have i0 : (0 : Int) ≤ (k : Int) := by omega
      have i1 : (k : Int) < (fs.length : Int) := by omega
      clear hvk
      go_wp2_with fail
      refine (SH.own hs (by repeat' (first | with_reducible exact Below.refl _ _ | with_reducible assumption | with_reducible refine below_drewN ?_ _ | with_reducible refine Below.drew ?_ | with_reducible refine Below.alloc ?_ ?_ _ | with_reducible refine Below.setCell ?_ ?_ _ | go_size)) fun hs => bitsOfBytes_c _ (fr fs k).d _ (by have := (SH.p2 hs : ∀ i, i < fs.length → RdB _ (vs i) (fr fs i).d) k hlt; rwa [HVK.out] at this) (HSm.out.w k hlt) (by have := HDL.out; omega)).mono ?_
      rintro e w4 ⟨v4, rfl, hs⟩
      clear hj3
      go_wp2_with fail
      refine (SH.own hs (by repeat' (first | with_reducible exact Below.refl _ _ | with_reducible assumption | with_reducible refine below_drewN ?_ _ | with_reducible refine Below.drew ?_ | with_reducible refine Below.alloc ?_ ?_ _ | with_reducible refine Below.setCell ?_ ?_ _ | go_size)) fun hs => implBuildFrame_c _ (bobV (fr fs k).d) _ (OwnK.rd hs.p0) hs.p6).mono ?_
      rintro e w5 ⟨v5, rfl, hs⟩
      have hs := hs.drop1
      have hbl := bfV_len (bobV (fr fs k).d)
      generalize bfV (bobV (fr fs k).d) = Y at *
      go_wp2_with (at_builtin; refine wp_appKX (xs := xs) (ys := Y) rfl rfl .i64 3 8 Tryd.underlying22 info_int rfl hs.bring1 rfl (OwnK.rd hs.p0) (by omega) (by unfold maxLen; omega) ?_; intro v6 w6 hs)
      go_roundw
      case rel => exact ⟨k + 1, _, hlt, by go_num, Lib.hid (by rw [HXS.out, HX.out]), by rw [List.length_append]; omega, hs.drop1⟩
      case measure => simp [intOf]; omega
    · obtain rfl : k = fs.length := by omega
      have HFF : Hid (ffV xs = bitsR fs) := Lib.hid (by rw [HX.out, List.take_of_length_le (by rw [bitsR_len]; exact Nat.le_refl _)]; exact HR.out.2.2)
      go_wp2_with fail
      refine (SH.rowsC hs (by repeat' (first | with_reducible exact Below.refl _ _ | with_reducible assumption | with_reducible refine below_drewN ?_ _ | with_reducible refine Below.drew ?_ | with_reducible refine Below.alloc ?_ ?_ _ | with_reducible refine Below.setCell ?_ ?_ _ | go_size)) fun hs => implFind_c _ xs _ (OwnK.rd hs.p0)).mono ?_
      rintro e w4 ⟨v4, us, rfl, hs⟩
      rw [HFF.out, bitsR_len] at hs
      obtain ⟨a4, c4, rfl, -⟩ := (OwnM.rd hs.p0).form
      have e1 : ((fs.length : Int) != (fs.length : Int)) = false := bne_self_eq_false _
      have hs := hs.drop2
      go_wp2_with fail
      have hs := (hs.ownEmptyM 4 (by decide) 39 (frC fs (fun _ => undef))).inn0F (fun _ => undef) (fun i => (fr fs i).d)
      clear hxl HX HFF
      go_loopw [10, 11, 12, 13] (fun o i _ _ wr => ∃ (k : Nat) (ws : Nat → Value), k ≤ fs.length ∧ i = .int .i64 k ∧ SH none w wr [innB ws (fun i => (fr fs i).d) k, ownMP 4 39 o k (frC fs ws), ownMP 1 22 (.slice a4 fs.length c4) fs.length (oneC us), innP 3 us (bitsR fs) fs.length, ownMP 4 39 (.slice aL fs.length cL) fs.length (frC fs vs), rdInn vs fs, ownP .u8 5 (.slice aD D.length cD) D, rdP .u8 (.slice ac c.length cc) c, rdP .i64 (.slice (some ⟨0, 0, none⟩) 8 8) flagL]) (fun _ i _ _ _ => fs.length - (intOf i).toNat)
      case atStart => exact ⟨0, _, Nat.zero_le _, rfl, hs⟩
      case round =>
        clear hs
        obtain ⟨k, ws, hk, rfl, hs⟩ := hrel
        obtain ⟨ao, co, rfl, -⟩ := (OwnM.rd hs.p1).form
        by_cases hlt : k < fs.length
        · obtain ⟨ba, oa, rfl, hca⟩ := (OwnM.rd hs.p2).at_ hlt
          have hc0 := hca 0 (by decide)
          simp only [oneC, Nat.mul_one, Nat.add_zero] at hc0
          clear hca
          obtain ⟨q1, q2, q3, q4⟩ := HSm.out.d k hlt
          have HBR : Hid (gl (bitsR fs) k = bobV (fr fs k).d) := Lib.hid (gl_bitsR hlt)
          obtain ⟨au, cu, hau, -⟩ := RdK.form (OwnK.rd ((SH.p3 hs).1 k hlt))
          rw [HBR.out, bobV_len] at hau
          rw [hau] at hc0
          have HAU := Lib.hid hau
          have HBV : Hid (bitsB (bobV (fr fs k).d) = true) := Lib.hid (bitsB_true.2 ⟨by rw [bobV_len]; omega, bobV_bits _⟩)
          have HBY : Hid (bytesV (bobV (fr fs k).d) ((bobV (fr fs k).d).length / 8) = (fr fs k).d) := Lib.hid (by rw [bobV_len, Nat.mul_div_cancel_left _ (by decide)]; exact bytes_bob (HSm.out.w k hlt))
          have HFK : Hid (fr fs k = ⟨3, (k : Int), ((k : Int) == (fs.length : Int) - 1), (fr fs k).d⟩) := Lib.hid (frag_eq q1 q2 q3).symm
          have i0 : (0 : Int) ≤ (k : Int) := by omega
          have i1 : (k : Int) < (fs.length : Int) := by omega
          clear hau q1 q2 q3 q4
          go_wp2_with fail
          refine (SH.ownT (k := .u8) (b := true) hs (by repeat' (first | with_reducible exact Below.refl _ _ | with_reducible assumption | with_reducible refine below_drewN ?_ _ | with_reducible refine Below.drew ?_ | with_reducible refine Below.alloc ?_ ?_ _ | with_reducible refine Below.setCell ?_ ?_ _ | go_size)) fun hs => bytesOfBits_c _ (bobV (fr fs k).d) _ (by have := OwnK.rd ((SH.p3 hs).1 k hlt); rw [HBR.out, HAU.out] at this; exact this) HBV.out (by rw [bobV_len]; omega)).mono ?_
          rintro e w5 ⟨v5, rfl, hs⟩
          rw [HBY.out] at hs
          obtain ⟨a5, c5, rfl, -⟩ := (OwnK.rd hs.p0).form
          have hs := hs.pushInnF (n := k) rfl
          clear hc0
          generalize (fr fs k).d = dk at *
          go_wp2_with (at_builtin; refine wp_app1MS rfl rfl 39 48 4 (.agg #[.int .i64 0, .int .i64 0, .bool false, .slice none 0 0]) Tryd.underlying36 info_frag rfl (by decide) (rowF ⟨3, (k : Int), ((k : Int) == (fs.length : Int) - 1), dk⟩ (.slice a5 dk.length c5)) rfl (hs.bring1.alloc _) rfl (fun j hj => by have : j = 0 ∨ j = 1 ∨ j = 2 ∨ j = 3 := (by omega); rcases this with rfl | rfl | rfl | rfl <;> exact World.cell?_alloc_at _ _ _ _ rfl) (fun j hj => one_cell hj) (by omega) (by unfold maxLen; omega) ?_; intro v9 w9 hs)
          have hs := hs.congrM (c' := frC fs (updVF ws k (.slice a5 dk.length c5))) (fun i j _ _ => fr_upd HFK.out i j)
          go_roundw
          case rel => exact ⟨k + 1, _, hlt, by go_num, hs.bring1⟩
          case measure => simp [intOf]; omega
        · obtain rfl : k = fs.length := by omega
          go_wp2_with fail
          refine (SH.ownT (xs := (joinF fs 3).1) (b := (joinF fs 3).2) hs (by repeat' (first | with_reducible exact Below.refl _ _ | with_reducible assumption | with_reducible refine below_drewN ?_ _ | with_reducible refine Below.drew ?_ | with_reducible refine Below.alloc ?_ ?_ _ | with_reducible refine Below.setCell ?_ ?_ _ | go_size)) fun hs => implJoin_c _ ws fs 3 _ (rd_of_innF hs.bring1) HW.out HWm.out HL.out).mono ?_
          rintro e w6 ⟨vX, rfl, hs⟩
          have HJ : Hid (¬ fs.length = 0 → joinF fs 3 = (D.take n, true)) := Lib.hid fun h => HF.out.joinS (by omega)
          obtain ⟨aX, cX, rfl, -⟩ := (OwnK.rd hs.p0).form
          by_cases hz : fs.length = 0
          · have ez : ((fs.length : Int) == 0) = true := by rw [beq_iff_eq]; omega
            generalize (joinF fs 3).2 = jb at *
            generalize (joinF fs 3).1 = jl at *
            have HZ := Lib.hid hz
            clear hz
            go_wp2
            refine wp_region_quiet_below (by kernel_rfl) (by kernel_rfl) ?_
            repeat go_big_quiet_step ((go_at_call 16; exact Calls.regrown_of ((alive_c _).mono fun _ _ h => h.isTrue)))
            refine wpQuiet_nil ?_
            rintro _ ⟨p, rfl⟩
            have hs := hs.below (below_regrown _ p.d p.os)
            generalize Sort.grow (redrawn _ p.d) p.os = W at *
            go_wp2
            go_ret
            exact Ret.mk1 rfl (SH.done (by first | exact hs | exact (hs).alloc _ | exact ((hs).alloc _).alloc _ | exact (((hs).alloc _).alloc _).alloc _ | exact ((((hs).alloc _).alloc _).alloc _).alloc _ | exact (hs).drew | exact ((hs).alloc _).drew | exact (((hs).alloc _).alloc _).drew | exact ((((hs).alloc _).alloc _).alloc _).drew | exact (((((hs).alloc _).alloc _).alloc _).alloc _).drew | exact (hs).drewN _ | exact ((hs).alloc _).drewN _ | exact (((hs).alloc _).alloc _).drewN _ | exact ((((hs).alloc _).alloc _).alloc _).drewN _ | exact (((((hs).alloc _).alloc _).alloc _).alloc _).drewN _))
          · have ez : ((fs.length : Int) == 0) = false := by rw [beq_eq_false_iff_ne]; omega
            have eq1 : ((fs.length : Int) == (fs.length : Int)) = true := beq_self_eq_true _
            have HJ2 := Lib.hid (HJ.out hz)
            rw [HJ2.out] at hs ⊢
            dsimp only at hs ⊢
            have hln : (D.take n).length = n := by rw [List.length_take]; omega
            rw [hln] at hs ⊢
            have HLN := Lib.hid hln
            clear hz hln
            obtain ⟨St, hSt⟩ : ∃ S, strOfNums (D.take n) = S := ⟨_, rfl⟩
            have HSt := Lib.hid hSt
            clear hSt
            have hv1 := conv_rd (OwnK.rd hs.drew.p0)
            have hv2 := conv_rd ((OwnK.rd hs.drew.p7).take hn1)
            rw [HSt.out] at hv1 hv2
            have n0 : (0 : Int) ≤ (n : Int) := by omega
            have n1 : (n : Int) ≤ (D.length : Int) := by omega
            have n2 : (n : Int) ≤ (cD : Int) := by omega
            go_wp2
            go_region_held3 (fun wx => (convert 27 9 (.slice aX n cX)).run Tryd.prog wx = .ok (.string St) wx ∧ (convert 27 9 (.slice aD n cD)).run Tryd.prog wx = .ok (.string St) wx) (first | exact ⟨hv1, hv2⟩ | exact ⟨hu1, hu2⟩ | fail) (first | (go_at_call 26; refine (SH.frag hs.drew (Below.refl _ _) fun hs => specSplit_c _ (D.take n) 3 5 _ ((OwnK.rd hs.p7).take hn1)).mono ?_; rintro e w7 ⟨vW, wsW, rfl, hs7⟩; rw [HFS.out] at hs7; obtain ⟨aW, cW, rfl, -⟩ := (OwnM.rd hs7.p0).form; have hu1 := conv_rd (OwnK.rd hs7.p2); have hu2 := conv_rd ((OwnK.rd hs7.drop0.drop0.p7).take hn1); rw [HSt.out] at hu1 hu2) | fail)
            all_goals go_wp2
            all_goals go_ret
            all_goals exact Ret.mk1 rfl (SH.done hs7)
end Go.Proofs.YtjgafkoboolclaaDoor
