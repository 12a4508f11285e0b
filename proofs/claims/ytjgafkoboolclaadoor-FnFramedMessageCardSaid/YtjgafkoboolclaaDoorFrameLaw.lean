import Derived.Test.YtjgafkoboolclaaDoorProg
import Derived.Test.YtjgafkoboolclaaDoorSym
import Derived.Test.YtjgafkoboolclaaDoorInts
import Derived.Test.YtjgafkoboolclaaDoorBlk
import Derived.Test.YtjgafkoboolclaaDoorApp
import Derived.Test.YtjgafkoboolclaaDoorSS
import Derived.Test.YtjgafkoboolclaaDoorStuff
import Derived.Test.YtjgafkoboolclaaDoorFlag
import Derived.Test.YtjgafkoboolclaaDoorFind2
import Derived.Test.YtjgafkoboolclaaDoorFindEx
import Derived.Test.YtjgafkoboolclaaDoorBuild
import Derived.Test.YtjgafkoboolclaaDoorDrawBits
import Derived.Test.YtjgafkoboolclaaDoorFramePl
namespace Go.Proofs.YtjgafkoboolclaaDoor
open Go.RowKit

theorem bfV_len2 (xs : List Int) : (bfV xs).length ≤ 342 := by
  unfold bfV
  split
  · next h =>
    simp only [Bool.and_eq_true, decide_eq_true_eq] at h
    obtain ⟨hb, hn⟩ := body_ok h.1 h.2
    rw [stV_ok hb (by omega)]
    have := (stS_bd (xs ++ chkL xs) (xs ++ chkL xs).length).2
    simp only [List.length_append, show flagL.length = 8 from rfl] at this ⊢
    simp only [List.length_append] at hn
    omega
  · simp
theorem bfV_some {bs : List Int} (hz : ¬ (bfV bs).length = 0) : bitsB bs = true ∧ bs.length ≤ 256 := by
  unfold bfV at hz
  split at hz
  · next h => simpa using h
  · simp at hz
theorem ff_one {bs : List Int} (h : bitsB bs = true) (hl : bs.length ≤ 256) {n : Nat} (hn : n ≤ 8) : ffV (List.replicate n 0 ++ bfV bs ++ List.replicate n 0) = [bs] := by
  have hv : ∀ f ∈ [bs], bitsB f = true ∧ f.length ≤ 256 := by simp [h, hl]
  have := bfV_len2 bs
  have := ff_frames n n hv (by simp; omega) (bfVs_ok hv)
  simpa using this
theorem ff_two {bs : List Int} (h : bitsB bs = true) (hl : bs.length ≤ 256) : ffV (bfV bs ++ bfV bs) = [bs, bs] := by
  have hv : ∀ f ∈ [bs, bs], bitsB f = true ∧ f.length ≤ 256 := by simp [h, hl]
  have := bfV_len2 bs
  have := ff_frames 0 0 hv (by simp; omega) (bfVs_ok hv)
  simpa using this

set_option maxRecDepth 100000 in
set_option maxHeartbeats 4000000 in
theorem fnBuildFrame_c (vc : Value) (c : List Int) (vm : Value) (m : List Int) (w : World) (hc : RdB w vc c) (bc : ∀ n ∈ c, (Lit.int .u8 n).wf = true) (hm : RdB w vm m) (_ : ∀ n ∈ m, (Lit.int .u8 n).wf = true) (hg : RdI w (.slice (some ⟨0, 0, none⟩) 8 8) flagL) :
    Calls Tryd.prog 4 #[vc, vm] w (Ret w fun v _ => v = .bool true) := by
  obtain ⟨ac, cc, rfl, -⟩ := hc.form
  obtain ⟨am, cm, rfl, -⟩ := hm.form
  have hs := SH.start w [rdP .u8 (.slice ac c.length cc) c, rdP .u8 (.slice am m.length cm) m, rdP .i64 (.slice (some ⟨0, 0, none⟩) 8 8) flagL] (by simp only [List.forall_mem_cons]; exact ⟨⟨hc, rdP_wr⟩, ⟨hm, rdP_wr⟩, ⟨hg, rdP_wr⟩, by simp⟩)
  have Bc := Lib.hid bc
  clear hc bc hm hg
  by_cases lc : c.length ≤ 1048576
  case neg =>
    go_enter Tryd.func4, Tryd.ntmps4
    go_wp2
    go_ret
    exact Ret.mk1 rfl (Below.refl _ _)
  by_cases lm : m.length ≤ 1048576
  case neg =>
    go_enter Tryd.func4, Tryd.ntmps4
    go_wp2
    go_ret
    exact Ret.mk1 rfl (Below.refl _ _)
  go_enter Tryd.func4, Tryd.ntmps4
  go_wp2_with fail
  refine (DrawBuildFrame_s _ c _ (by first | exact hs | exact (hs).allocP1 _ _ | exact ((hs).allocP1 _ _).allocP1 _ _ | exact (((hs).allocP1 _ _).allocP1 _ _).allocP1 _ _ | exact ((((hs).allocP1 _ _).allocP1 _ _).allocP1 _ _).allocP1 _ _ | exact (hs).drew | exact ((hs).allocP1 _ _).drew | exact (((hs).allocP1 _ _).allocP1 _ _).drew | exact ((((hs).allocP1 _ _).allocP1 _ _).allocP1 _ _).drew | exact (((((hs).allocP1 _ _).allocP1 _ _).allocP1 _ _).allocP1 _ _).drew | exact (hs).drewN _ | exact ((hs).allocP1 _ _).drewN _ | exact (((hs).allocP1 _ _).allocP1 _ _).drewN _ | exact ((((hs).allocP1 _ _).allocP1 _ _).allocP1 _ _).drewN _ | exact (((((hs).allocP1 _ _).allocP1 _ _).allocP1 _ _).allocP1 _ _).drewN _) Bc.out).mono ?_
  rintro e w1 ⟨v1, bs, rfl, hl, hs⟩
  obtain ⟨a1, c1, rfl, -⟩ := (OwnK.rd hs.p0).form
  go_wp2_with fail
  refine (SH.own hs (by repeat' (first | with_reducible exact Below.refl _ _ | with_reducible assumption | with_reducible refine below_drewN ?_ _ | with_reducible refine Below.drew ?_ | with_reducible refine Below.alloc ?_ ?_ _ | with_reducible refine Below.setCell ?_ ?_ _ | go_size)) fun hs => implBuildFrame_c _ bs _ (OwnK.rd hs.p0) hs.p3).mono ?_
  rintro e w2 ⟨v2, rfl, hs⟩
  go_wp2_with fail
  refine (SH.own hs (by repeat' (first | with_reducible exact Below.refl _ _ | with_reducible assumption | with_reducible refine below_drewN ?_ _ | with_reducible refine Below.drew ?_ | with_reducible refine Below.alloc ?_ ?_ _ | with_reducible refine Below.setCell ?_ ?_ _ | go_size)) fun hs => specBuildFrame_c _ bs _ (OwnK.rd hs.p1)).mono ?_
  rintro e w3 ⟨v3, rfl, hs⟩
  go_wp2_with fail
  refine (SH.quiet hs (by repeat' (first | with_reducible exact Below.refl _ _ | with_reducible assumption | with_reducible refine below_drewN ?_ _ | with_reducible refine Below.drew ?_ | with_reducible refine Below.alloc ?_ ?_ _ | with_reducible refine Below.setCell ?_ ?_ _ | go_size)) fun hs => sameInts_c _ _ _ _ _ (OwnK.rd hs.p1) (OwnK.rd hs.p0)).mono ?_
  rintro e w4 ⟨rfl, hs⟩
  rw [show decide (bfV bs = bfV bs) = true by simp]
  have hs := hs.drop0
  have hxl := bfV_len2 bs
  by_cases hz : (bfV bs).length = 0
  · obtain ⟨X, hX⟩ : ∃ X, bfV bs = X := ⟨_, rfl⟩
    rw [hX] at hs hz hxl
    obtain rfl : X = [] := List.eq_nil_of_length_eq_zero hz
    clear hX hz hxl
    obtain ⟨a2, c2, rfl, -⟩ := (OwnK.rd hs.p0).form
    go_wp2_with fail
    refine (SH.ret hs (by repeat' (first | with_reducible exact Below.refl _ _ | with_reducible assumption | with_reducible refine below_drewN ?_ _ | with_reducible refine Below.drew ?_ | with_reducible refine Below.alloc ?_ ?_ _ | with_reducible refine Below.setCell ?_ ?_ _ | go_size)) fun hs => alive_c _).mono ?_
    rintro e w5 ⟨v, rfl, rfl, hs⟩
    go_wp2
    go_ret
    exact Ret.mk1 rfl (SH.done (by first | exact hs | exact (hs).alloc _ | exact ((hs).alloc _).alloc _ | exact (((hs).alloc _).alloc _).alloc _ | exact ((((hs).alloc _).alloc _).alloc _).alloc _ | exact (hs).drew | exact ((hs).alloc _).drew | exact (((hs).alloc _).alloc _).drew | exact ((((hs).alloc _).alloc _).alloc _).drew | exact (((((hs).alloc _).alloc _).alloc _).alloc _).drew | exact (hs).drewN _ | exact ((hs).alloc _).drewN _ | exact (((hs).alloc _).alloc _).drewN _ | exact ((((hs).alloc _).alloc _).alloc _).drewN _ | exact (((((hs).alloc _).alloc _).alloc _).alloc _).drewN _))
  obtain ⟨hv, h256⟩ := bfV_some hz
  obtain ⟨Z, hZ⟩ : ∃ Z, m.length % 9 = Z := ⟨_, rfl⟩
  have hZ8 : Z ≤ 8 := by omega
  have hZi : (m.length : Int) % 9 = (Z : Int) := by omega
  have H1 := Lib.hid (ff_one hv h256 hZ8)
  have H2 := Lib.hid (ff_two hv h256)
  clear hv
  obtain ⟨X, hX⟩ : ∃ X, bfV bs = X := ⟨_, rfl⟩
  rw [hX] at hs hz hxl H1 H2
  clear hX hZ
  obtain ⟨a2, c2, rfl, -⟩ := (OwnK.rd hs.p0).form
  have hz2 : ((X.length : Int) == 0) = false := by simp only [beq_eq_false_iff_ne]; omega
  have HZI := Lib.hid hZi
  have hz3 : decide (2 * (X.length : Int) > 1024) = false := by rw [decide_eq_false_iff_not]; omega
  go_wp2_with (first | (at_make; refine wp_makeK rfl rfl .i64 _ 3 8 Tryd.underlying22 info_int Z rfl rfl (by first | exact HZI.out | rfl) (by first | exact HZI.out | rfl) (by omega) (by unfold maxLen; omega) (Nat.le_refl _) ?_; intro wz hown hg hsz; have hs := hs.pushOwn (below_of_grown hg) hown; clear hown hg hsz) | (at_builtin; refine wp_appKX (xs := []) (ys := List.replicate Z 0) rfl rfl .i64 3 8 Tryd.underlying22 info_int rfl (hs.ownEmpty .i64 3) rfl (OwnK.rd (hs.ownEmpty .i64 3).p1) (by simp; omega) (by simp; unfold maxLen; omega) ?_; intro v5 w5 hs; rw [List.nil_append] at hs) | (at_builtin; refine wp_appKX (xs := List.replicate Z 0) (ys := X) rfl rfl .i64 3 8 Tryd.underlying22 info_int rfl hs rfl (OwnK.rd hs.p2) (by simp; omega) (by simp; unfold maxLen; omega) ?_; intro v6 w6 hs) | (at_builtin; refine wp_appKX (xs := List.replicate Z 0 ++ X) (ys := List.replicate Z 0) rfl rfl .i64 3 8 Tryd.underlying22 info_int rfl hs rfl (OwnK.rd hs.p1) (by simp; omega) (by simp; unfold maxLen; omega) ?_; intro v7 w7 hs))
  refine (SH.rowsC hs (by repeat' (first | with_reducible exact Below.refl _ _ | with_reducible assumption | with_reducible refine below_drewN ?_ _ | with_reducible refine Below.drew ?_ | with_reducible refine Below.alloc ?_ ?_ _ | with_reducible refine Below.setCell ?_ ?_ _ | go_size)) fun hs => implFind_c _ _ _ (OwnK.rd hs.p0)).mono ?_
  rintro e w8 ⟨v8, vs8, rfl, hs⟩
  rw [H1.out] at hs
  obtain ⟨a8, c8, rfl, -⟩ := (OwnM.rd hs.p0 : RdM 1 _ v8 1 (oneC vs8)).form
  obtain ⟨b8, o8, rfl, hc8⟩ := (OwnM.rd hs.p0 : RdM 1 _ _ 1 (oneC vs8)).at_ (i := 0) (by decide)
  have hc80 : w8.cell? ⟨b8, o8, none⟩ = some (vs8 0) := by simpa [oneC] using hc8 0 (by decide)
  clear hc8
  go_wp2_with fail
  refine (SH.quiet hs (by repeat' (first | with_reducible exact Below.refl _ _ | with_reducible assumption | with_reducible refine below_drewN ?_ _ | with_reducible refine Below.drew ?_ | with_reducible refine Below.alloc ?_ ?_ _ | with_reducible refine Below.setCell ?_ ?_ _ | go_size)) fun hs => sameInts_c _ _ _ bs _ (show RdI _ (vs8 0) bs from OwnK.rd ((SH.p1 hs).1 0 (by simp))) (OwnK.rd hs.p5)).mono ?_
  rintro e w9 ⟨rfl, hs⟩
  rw [show decide (bs = bs) = true by simp]
  have hs := hs.drop0.drop0.drop0.drop0
  clear hc80
  go_wp2_with (first | (at_builtin; refine wp_appKX (xs := []) (ys := X) rfl rfl .i64 3 8 Tryd.underlying22 info_int rfl (hs.ownEmpty .i64 3) rfl (OwnK.rd (hs.ownEmpty .i64 3).p1) (by simp; omega) (by simp; unfold maxLen; omega) ?_; intro v10 w10 hs; rw [List.nil_append] at hs) | (at_builtin; refine wp_appKX (xs := X) (ys := X) rfl rfl .i64 3 8 Tryd.underlying22 info_int rfl hs rfl (OwnK.rd hs.p1) (by omega) (by unfold maxLen; omega) ?_; intro v11 w11 hs))
  refine (SH.rowsC hs (by repeat' (first | with_reducible exact Below.refl _ _ | with_reducible assumption | with_reducible refine below_drewN ?_ _ | with_reducible refine Below.drew ?_ | with_reducible refine Below.alloc ?_ ?_ _ | with_reducible refine Below.setCell ?_ ?_ _ | go_size)) fun hs => implFind_c _ _ _ (OwnK.rd hs.p0)).mono ?_
  rintro e w12 ⟨v12, vs12, rfl, hs⟩
  rw [H2.out] at hs
  obtain ⟨a12, c12, rfl, -⟩ := (OwnM.rd hs.p0 : RdM 1 _ v12 2 (oneC vs12)).form
  obtain ⟨b12, o12, rfl, hc12⟩ := (OwnM.rd hs.p0 : RdM 1 _ _ 2 (oneC vs12)).at_ (i := 0) (by decide)
  have hc120 : w12.cell? ⟨b12, o12, none⟩ = some (vs12 0) := by simpa [oneC] using hc12 0 (by decide)
  clear hc12
  go_wp2_with fail
  refine (SH.quiet hs (by repeat' (first | with_reducible exact Below.refl _ _ | with_reducible assumption | with_reducible refine below_drewN ?_ _ | with_reducible refine Below.drew ?_ | with_reducible refine Below.alloc ?_ ?_ _ | with_reducible refine Below.setCell ?_ ?_ _ | go_size)) fun hs => sameInts_c _ _ _ bs _ (show RdI _ (vs12 0) bs from OwnK.rd ((SH.p1 hs).1 0 (by simp))) (OwnK.rd hs.p4)).mono ?_
  rintro e w13 ⟨rfl, hs⟩
  rw [show decide (bs = bs) = true by simp]
  obtain ⟨b13, o13, e13, hc13⟩ := (OwnM.rd hs.p0 : RdM 1 _ _ 2 (oneC vs12)).at_ (i := 1) (by decide)
  cases e13
  have hc131 : w13.cell? ⟨b12, o12 + 1, none⟩ = some (vs12 1) := by simpa [oneC] using hc13 0 (by decide)
  clear hc13 hc120
  go_wp2_with fail
  refine (SH.quiet hs (by repeat' (first | with_reducible exact Below.refl _ _ | with_reducible assumption | with_reducible refine below_drewN ?_ _ | with_reducible refine Below.drew ?_ | with_reducible refine Below.alloc ?_ ?_ _ | with_reducible refine Below.setCell ?_ ?_ _ | go_size)) fun hs => sameInts_c _ _ _ bs _ (show RdI _ (vs12 1) bs from OwnK.rd ((SH.p1 hs).1 1 (by simp))) (OwnK.rd hs.p4)).mono ?_
  rintro e w14 ⟨rfl, hs⟩
  rw [show decide (bs = bs) = true by simp]
  go_wp2
  go_ret
  exact Ret.mk1 rfl (SH.done (by first | exact hs | exact (hs).alloc _ | exact ((hs).alloc _).alloc _ | exact (((hs).alloc _).alloc _).alloc _ | exact ((((hs).alloc _).alloc _).alloc _).alloc _ | exact (hs).drew | exact ((hs).alloc _).drew | exact (((hs).alloc _).alloc _).drew | exact ((((hs).alloc _).alloc _).alloc _).drew | exact (((((hs).alloc _).alloc _).alloc _).alloc _).drew | exact (hs).drewN _ | exact ((hs).alloc _).drewN _ | exact (((hs).alloc _).alloc _).drewN _ | exact ((((hs).alloc _).alloc _).alloc _).drewN _ | exact (((((hs).alloc _).alloc _).alloc _).alloc _).drewN _))
set_option maxRecDepth 100000 in
set_option maxHeartbeats 4000000 in
theorem fnFrameDamaged_c (vc : Value) (c : List Int) (vm : Value) (m : List Int) (w : World) (hc : RdB w vc c) (bc : ∀ n ∈ c, (Lit.int .u8 n).wf = true) (hm : RdB w vm m) (_ : ∀ n ∈ m, (Lit.int .u8 n).wf = true) (hg : RdI w (.slice (some ⟨0, 0, none⟩) 8 8) flagL) :
    Calls Tryd.prog 5 #[vc, vm] w (Ret w fun v _ => v = .bool true) := by
  obtain ⟨ac, cc, rfl, -⟩ := hc.form
  obtain ⟨am, cm, rfl, -⟩ := hm.form
  have hs := SH.start w [rdP .u8 (.slice ac c.length cc) c, rdP .u8 (.slice am m.length cm) m, rdP .i64 (.slice (some ⟨0, 0, none⟩) 8 8) flagL] (by simp only [List.forall_mem_cons]; exact ⟨⟨hc, rdP_wr⟩, ⟨hm, rdP_wr⟩, ⟨hg, rdP_wr⟩, by simp⟩)
  have Bc := Lib.hid bc
  clear hc bc hm hg
  by_cases lc : c.length ≤ 1048576
  case neg =>
    go_enter Tryd.func5, Tryd.ntmps5
    go_wp2
    go_ret
    exact Ret.mk1 rfl (Below.refl _ _)
  by_cases lm : m.length ≤ 1048576
  case neg =>
    go_enter Tryd.func5, Tryd.ntmps5
    go_wp2
    go_ret
    exact Ret.mk1 rfl (Below.refl _ _)
  go_enter Tryd.func5, Tryd.ntmps5
  go_wp2_with fail
  refine (DrawBuildFrame_s _ c _ (by first | exact hs | exact (hs).allocP1 _ _ | exact ((hs).allocP1 _ _).allocP1 _ _ | exact (((hs).allocP1 _ _).allocP1 _ _).allocP1 _ _ | exact ((((hs).allocP1 _ _).allocP1 _ _).allocP1 _ _).allocP1 _ _ | exact (hs).drew | exact ((hs).allocP1 _ _).drew | exact (((hs).allocP1 _ _).allocP1 _ _).drew | exact ((((hs).allocP1 _ _).allocP1 _ _).allocP1 _ _).drew | exact (((((hs).allocP1 _ _).allocP1 _ _).allocP1 _ _).allocP1 _ _).drew | exact (hs).drewN _ | exact ((hs).allocP1 _ _).drewN _ | exact (((hs).allocP1 _ _).allocP1 _ _).drewN _ | exact ((((hs).allocP1 _ _).allocP1 _ _).allocP1 _ _).drewN _ | exact (((((hs).allocP1 _ _).allocP1 _ _).allocP1 _ _).allocP1 _ _).drewN _) Bc.out).mono ?_
  rintro e w1 ⟨v1, bs, rfl, hl, hs⟩
  obtain ⟨a1, c1, rfl, -⟩ := (OwnK.rd hs.p0).form
  go_wp2_with fail
  refine (SH.own hs (by repeat' (first | with_reducible exact Below.refl _ _ | with_reducible assumption | with_reducible refine below_drewN ?_ _ | with_reducible refine Below.drew ?_ | with_reducible refine Below.alloc ?_ ?_ _ | with_reducible refine Below.setCell ?_ ?_ _ | go_size)) fun hs => implBuildFrame_c _ bs _ (OwnK.rd hs.p0) hs.p3).mono ?_
  rintro e w2 ⟨v2, rfl, hs⟩
  go_wp2_with fail
  refine (SH.own hs (by repeat' (first | with_reducible exact Below.refl _ _ | with_reducible assumption | with_reducible refine below_drewN ?_ _ | with_reducible refine Below.drew ?_ | with_reducible refine Below.alloc ?_ ?_ _ | with_reducible refine Below.setCell ?_ ?_ _ | go_size)) fun hs => specBuildFrame_c _ bs _ (OwnK.rd hs.p1)).mono ?_
  rintro e w3 ⟨v3, rfl, hs⟩
  go_wp2_with fail
  refine (SH.quiet hs (by repeat' (first | with_reducible exact Below.refl _ _ | with_reducible assumption | with_reducible refine below_drewN ?_ _ | with_reducible refine Below.drew ?_ | with_reducible refine Below.alloc ?_ ?_ _ | with_reducible refine Below.setCell ?_ ?_ _ | go_size)) fun hs => sameInts_c _ _ _ _ _ (OwnK.rd hs.p1) (OwnK.rd hs.p0)).mono ?_
  rintro e w4 ⟨rfl, hs⟩
  rw [show decide (bfV bs = bfV bs) = true by simp]
  have hs := hs.drop0
  have hxl := bfV_len2 bs
  by_cases hz : (bfV bs).length = 0
  · obtain ⟨X, hX⟩ : ∃ X, bfV bs = X := ⟨_, rfl⟩
    rw [hX] at hs hz hxl
    obtain rfl : X = [] := List.eq_nil_of_length_eq_zero hz
    clear hX hz hxl
    obtain ⟨a2, c2, rfl, -⟩ := (OwnK.rd hs.p0).form
    go_wp2_with fail
    refine (SH.ret hs (by repeat' (first | with_reducible exact Below.refl _ _ | with_reducible assumption | with_reducible refine below_drewN ?_ _ | with_reducible refine Below.drew ?_ | with_reducible refine Below.alloc ?_ ?_ _ | with_reducible refine Below.setCell ?_ ?_ _ | go_size)) fun hs => alive_c _).mono ?_
    rintro e w5 ⟨v, rfl, rfl, hs⟩
    go_wp2
    go_ret
    exact Ret.mk1 rfl (SH.done (by first | exact hs | exact (hs).alloc _ | exact ((hs).alloc _).alloc _ | exact (((hs).alloc _).alloc _).alloc _ | exact ((((hs).alloc _).alloc _).alloc _).alloc _ | exact (hs).drew | exact ((hs).alloc _).drew | exact (((hs).alloc _).alloc _).drew | exact ((((hs).alloc _).alloc _).alloc _).drew | exact (((((hs).alloc _).alloc _).alloc _).alloc _).drew | exact (hs).drewN _ | exact ((hs).alloc _).drewN _ | exact (((hs).alloc _).alloc _).drewN _ | exact ((((hs).alloc _).alloc _).alloc _).drewN _ | exact (((((hs).alloc _).alloc _).alloc _).alloc _).drewN _))
  obtain ⟨hv, h256⟩ := bfV_some hz
  have hbl : 32 ≤ (bfV bs).length := by
    obtain ⟨S, -, e, h16, -⟩ := body_facts hv h256
    rw [e]; simp only [List.length_append, show flagL.length = 8 from rfl]; omega
  obtain ⟨q, hq⟩ : ∃ q, m.length % ((bfV bs).length - 16) = q := ⟨_, rfl⟩
  have hq2 : q < (bfV bs).length - 16 := by rw [← hq]; exact Nat.mod_lt _ (by omega)
  have hqi : (m.length : Int) % (((bfV bs).length : Int) - 16) = (q : Int) := by
    rw [show ((bfV bs).length : Int) - 16 = (((bfV bs).length - 16 : Nat) : Int) by omega, ← hq]; rfl
  obtain ⟨p, hp⟩ : ∃ p, 8 + q = p := ⟨_, rfl⟩
  have hpl : p < (bfV bs).length := by omega
  have hbit := bfV_ok hv h256 p hpl
  obtain ⟨y, hy⟩ : ∃ y, gi (bfV bs) p = y := ⟨_, rfl⟩
  rw [hy] at hbit
  have HD := Lib.hid (ff_damaged hv h256 (p := p) (by omega) (by omega) (y := 1 - y) (by rw [hy]; omega))
  clear hv hq
  obtain ⟨X, hX⟩ : ∃ X, bfV bs = X := ⟨_, rfl⟩
  rw [hX] at hs hz hxl HD hbl hq2 hqi hpl hy
  clear hX
  obtain ⟨a2, c2, rfl, -⟩ := (OwnK.rd hs.p0).form
  have hz2 : ((X.length : Int) == 0) = false := by simp only [beq_eq_false_iff_ne]; omega
  have hz3 : (((X.length : Int) - 16) == 0) = false := by simp only [beq_eq_false_iff_ne]; omega
  have hpi : (8 : Int) + (q : Int) = (p : Int) := by omega
  have hp0 : (0 : Int) ≤ (p : Int) := by omega
  have hpx : (p : Int) < (X.length : Int) := by omega
  obtain ⟨g2, rfl, hgb, hgl, hgc, hgf⟩ := OwnK.at_ hs.p0 hpl
  rw [hy] at hgc
  have HY := Lib.hid hy
  clear hy hp
  go_wp2_with fail
  have hs := hs.setOwn hpl (1 - y)
  clear hgc hgf
  obtain ⟨Y, hYY⟩ : ∃ Y, X.set p (1 - y) = Y := ⟨_, rfl⟩
  rw [hYY] at hs HD
  obtain ⟨R, hR⟩ : ∃ R, ffV Y = R := ⟨_, rfl⟩
  rw [hR] at HD
  have HR := Lib.hid hR
  clear hYY hR
  refine (SH.rowsC hs (by repeat' (first | with_reducible exact Below.refl _ _ | with_reducible assumption | with_reducible refine below_drewN ?_ _ | with_reducible refine Below.drew ?_ | with_reducible refine Below.alloc ?_ ?_ _ | with_reducible refine Below.setCell ?_ ?_ _ | go_size)) fun hs => implFind_c _ _ _ (OwnK.rd hs.p0)).mono ?_
  rintro e w8 ⟨v8, vs8, rfl, hs⟩
  rw [HR.out] at hs
  obtain ⟨a8, c8, rfl, -⟩ := (OwnM.rd hs.p0).form
  by_cases hR1 : R.length = 1
  · obtain ⟨r, rfl⟩ := List.length_eq_one_iff.1 hR1
    obtain ⟨b8, o8, rfl, hc8⟩ := (OwnM.rd hs.p0).at_ (i := 0) (by simp)
    have hc80 : w8.cell? ⟨b8, o8, none⟩ = some (vs8 0) := by simpa [oneC] using hc8 0 (by decide)
    have hne : decide (r = bs) = false := decide_eq_false (fun e => HD.out (by rw [e]))
    have HNE := Lib.hid hne
    clear hc8 hR1 hne
    go_wp2_with fail
    refine (SH.quiet hs (by repeat' (first | with_reducible exact Below.refl _ _ | with_reducible assumption | with_reducible refine below_drewN ?_ _ | with_reducible refine Below.drew ?_ | with_reducible refine Below.alloc ?_ ?_ _ | with_reducible refine Below.setCell ?_ ?_ _ | go_size)) fun hs => sameInts_c _ _ r bs _ (show RdI _ (vs8 0) r from OwnK.rd ((SH.p1 hs).1 0 (by simp))) (OwnK.rd hs.p3)).mono ?_
    rintro e w9 ⟨rfl, hs⟩
    rw [HNE.out]
    go_wp2
    go_ret
    exact Ret.mk1 rfl (SH.done (by first | exact hs | exact (hs).alloc _ | exact ((hs).alloc _).alloc _ | exact (((hs).alloc _).alloc _).alloc _ | exact ((((hs).alloc _).alloc _).alloc _).alloc _ | exact (hs).drew | exact ((hs).alloc _).drew | exact (((hs).alloc _).alloc _).drew | exact ((((hs).alloc _).alloc _).alloc _).drew | exact (((((hs).alloc _).alloc _).alloc _).alloc _).drew | exact (hs).drewN _ | exact ((hs).alloc _).drewN _ | exact (((hs).alloc _).alloc _).drewN _ | exact ((((hs).alloc _).alloc _).alloc _).drewN _ | exact (((((hs).alloc _).alloc _).alloc _).alloc _).drewN _))
  · have hn : (((R.length : Int)) != 1) = true := by rw [bne_iff_ne]; omega
    go_wp2
    go_ret
    exact Ret.mk1 rfl (SH.done (by first | exact hs | exact (hs).alloc _ | exact ((hs).alloc _).alloc _ | exact (((hs).alloc _).alloc _).alloc _ | exact ((((hs).alloc _).alloc _).alloc _).alloc _ | exact (hs).drew | exact ((hs).alloc _).drew | exact (((hs).alloc _).alloc _).drew | exact ((((hs).alloc _).alloc _).alloc _).drew | exact (((((hs).alloc _).alloc _).alloc _).alloc _).drew | exact (hs).drewN _ | exact ((hs).alloc _).drewN _ | exact (((hs).alloc _).alloc _).drewN _ | exact ((((hs).alloc _).alloc _).alloc _).drewN _ | exact (((((hs).alloc _).alloc _).alloc _).alloc _).drewN _))
end Go.Proofs.YtjgafkoboolclaaDoor
