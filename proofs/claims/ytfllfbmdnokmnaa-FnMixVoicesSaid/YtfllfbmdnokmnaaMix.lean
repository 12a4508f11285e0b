import Derived.StillTailTactics
import Derived.Test.YtfllfbmdnokmnaaProg
import Derived.Test.YtfllfbmdnokmnaaLib
import Derived.Test.YtfllfbmdnokmnaaNum
import Derived.Test.YtfllfbmdnokmnaaInts
namespace Go.Proofs.Ytfllfbmdnokmnaa
open Go.RowKit

/-- all within -l..l -/
def allIn (xs : List Int) (l : Int) : Bool := xs.all fun x => inB x (-l) l
theorem allIn_true {xs : List Int} {l : Int} : allIn xs l = true ↔ ∀ i, i < xs.length → inB (gi xs i) (-l) l = true := by
  unfold allIn
  rw [List.all_eq_true]
  constructor
  · intro h i hi
    exact h _ (by rw [gi_lt hi]; exact List.getElem_mem hi)
  · intro h x hx
    obtain ⟨i, hi, rfl⟩ := List.getElem_of_mem hx
    have := h i hi
    rwa [gi_lt hi] at this
theorem allIn_bad {xs : List Int} {l : Int} {i : Nat} (hi : i < xs.length) (h : inB (gi xs i) (-l) l = false) : allIn xs l = false := by
  cases hb : allIn xs l
  · rfl
  · have := allIn_true.1 hb i hi
    rw [h] at this; exact this.symm

def withinB (xs : List Int) (m : Nat) (l : Int) : Bool := decide (xs.length ≤ m) && allIn xs l

theorem within_c (va : Value) (xs : List Int) (m : Nat) (l : Int) (w : World) (h : RdI w va xs) (hm : m ≤ 1099511627776) (h0 : 0 ≤ l) (h1 : l ≤ 1099511627776) :
    Calls Try.prog 49 #[va, .int .i64 (m : Int), .int .i64 l] w (RetQ w (.bool (withinB xs m l))) := by
  obtain ⟨a, ca, rfl, ml⟩ := h.form
  have H := Lib.hid h
  clear h
  by_cases hl : m < xs.length
  · have HF : Hid (withinB xs m l = false) := by simp [Hid, withinB]; omega
    go_enter Try.func49, Try.ntmps49
    go_wp2
    go_ret
    exact RetQ.mkS (boolv HF.out.symm) (SameW.refl _)
  go_enter Try.func49, Try.ntmps49
  go_wp2
  go_loopw [15] (fun i wr => ∃ k : Nat, k ≤ xs.length ∧ i = .int .i64 k ∧ SameW w wr ∧ ∀ j, j < k → inB (gi xs j) (-l) l = true) (fun i _ => xs.length - (intOf i).toNat)
  case atStart => exact ⟨0, Nat.zero_le _, rfl, SameW.refl _, fun j h => absurd h (Nat.not_lt_zero _)⟩
  case round =>
    obtain ⟨k, hk, rfl, hsame, hall⟩ := hrel
    have HS := Lib.hid hsame
    have HAll := Lib.hid hall
    clear hsame hall
    by_cases hlt : k < xs.length
    · obtain ⟨b, off, rfl, hc⟩ := (H.out.below HS.out.below).at_ hlt
      by_cases hi : -l ≤ gi xs k ∧ gi xs k ≤ l
      · obtain ⟨i1, i2⟩ := hi
        have HZ : Hid (inB (gi xs k) (-l) l = true) := inB_true.2 ⟨i1, i2⟩
        go_wp2
        go_roundw
        case rel => exact ⟨k + 1, hlt, by go_num, HS.out, fun j hj => by
          rcases Nat.lt_succ_iff_lt_or_eq.1 hj with h | rfl
          · exact HAll.out j h
          · exact HZ.out⟩
        case measure => simp [intOf]; omega
      · have HF : Hid (withinB xs m l = false) := by
          have := allIn_bad hlt (inB_false.2 hi)
          simp [Hid, withinB, this]
        by_cases h1' : gi xs k < -l
        · clear hi
          go_wp2
          go_ret
          exact RetQ.mkS (boolv HF.out.symm) HS.out
        · have h2' : l < gi xs k := by omega
          clear hi
          go_wp2
          go_ret
          exact RetQ.mkS (boolv HF.out.symm) HS.out
    · obtain rfl : k = xs.length := by omega
      have HF : Hid (withinB xs m l = true) := by
        have := allIn_true.2 HAll.out
        simp [Hid, withinB, this]; omega
      go_wp2
      go_ret
      exact RetQ.mkS (boolv HF.out.symm) HS.out

/-- may be mixed -/
def mixB (xs ys : List Int) : Bool := decide (xs.length = ys.length) && decide (xs.length ≤ 256) && allIn xs 4095 && allIn ys 4095
def mixL (xs ys : List Int) : List Int := (List.range xs.length).map fun i => clipI (gi xs i + gi ys i) (-4095) 4095
theorem length_mixL (xs ys : List Int) : (mixL xs ys).length = xs.length := by simp [mixL]
theorem gi_mixL {xs ys : List Int} {i : Nat} (h : i < xs.length) : gi (mixL xs ys) i = clipI (gi xs i + gi ys i) (-4095) 4095 := by simp [gi, mixL, h]
/-- what MixVoices returns -/
def mixV (xs ys : List Int) : List Int := if mixB xs ys then mixL xs ys else []

theorem clamp_x (n lo hi : Int) (w : World) :
    Calls Try.prog 50 #[.int .i64 n, .int .i64 lo, .int .i64 hi] w (fun e w' => e = .returned (.int .i64 (clampI n lo hi)) ∧ w' = w) := by
  go_enter Try.func50, Try.ntmps50
  go_wp2
  all_goals
    go_ret
    exact ⟨congrArg Ending.returned (intv (by unfold clampI; omega)), rfl⟩

theorem implMixVoices_c (va vb : Value) (xs ys : List Int) (w : World) (ha : RdI w va xs) (hb : RdI w vb ys) :
    Calls Try.prog 19 #[va, vb] w (Ret w fun v w' => OwnI w' w.heap.size 3 v (mixV xs ys)) := by
  obtain ⟨a, ca, rfl, ma⟩ := ha.form
  obtain ⟨b, cb, rfl, mb⟩ := hb.form
  have HA := Lib.hid ha
  have HB := Lib.hid hb
  clear ha hb
  by_cases hl : xs.length = ys.length
  case neg =>
    have HF : Hid (mixV xs ys = []) := by simp [Hid, mixV, mixB, hl]
    have hl0 : ((xs.length : Int) != (ys.length : Int)) = true := by simp; omega
    clear hl
    go_enter Try.func19, Try.ntmps19
    go_wp2
    go_ret
    exact Ret.mk1 (by rw [HF.out]; exact OwnK.nil _ _ _ _) (Below.refl _ _)
  have hl0 : ((xs.length : Int) != (ys.length : Int)) = false := by simp [hl]
  have HL := Lib.hid hl
  cases h1 : withinB xs 256 4095
  case false =>
    have HF : Hid (mixV xs ys = []) := by
      simp only [withinB, Bool.and_eq_false_iff, decide_eq_false_iff_not] at h1
      unfold Hid mixV mixB
      rcases h1 with h | h <;> simp [h]
    clear hl
    go_enter Try.func19, Try.ntmps19
    go_wp2_with fail
    refine (within_c _ xs 256 4095 _ HA.out (by decide) (by decide) (by decide)).mono ?_
    rintro e w1 ⟨rfl, n, rfl⟩
    rw [h1]
    go_wp2
    go_ret
    exact Ret.mk1 (by rw [HF.out]; exact OwnK.nil _ _ _ _) (by repeat' (first | with_reducible exact Below.refl _ _ | with_reducible assumption | with_reducible refine below_drewN ?_ _ | with_reducible refine Below.drew ?_ | with_reducible refine Below.alloc ?_ ?_ _ | with_reducible refine Below.setCell ?_ ?_ _ | go_size))
  cases h2 : withinB ys 256 4095
  case false =>
    have HF : Hid (mixV xs ys = []) := by
      simp only [withinB, Bool.and_eq_false_iff, decide_eq_false_iff_not] at h2
      unfold Hid mixV mixB
      rcases h2 with h | h
      · rw [← hl] at h; simp [h]
      · simp [h]
    clear hl
    go_enter Try.func19, Try.ntmps19
    go_wp2_with fail
    refine (within_c _ xs 256 4095 _ HA.out (by decide) (by decide) (by decide)).mono ?_
    rintro e w1 ⟨rfl, n, rfl⟩
    rw [h1]
    go_wp2_with fail
    refine (within_c _ ys 256 4095 _ (HB.out.drewN _) (by decide) (by decide) (by decide)).mono ?_
    rintro e w1 ⟨rfl, m, rfl⟩
    rw [h2]
    go_wp2
    go_ret
    exact Ret.mk1 (by rw [HF.out]; exact OwnK.nil _ _ _ _) (by repeat' (first | with_reducible exact Below.refl _ _ | with_reducible assumption | with_reducible refine below_drewN ?_ _ | with_reducible refine Below.drew ?_ | with_reducible refine Below.alloc ?_ ?_ _ | with_reducible refine Below.setCell ?_ ?_ _ | go_size))
  simp only [withinB, Bool.and_eq_true, decide_eq_true_eq] at h1 h2
  have HF : Hid (mixV xs ys = mixL xs ys) := by simp [Hid, mixV, mixB, h1, h2, hl]
  have HX := Lib.hid (allIn_true.1 h1.2)
  have HY := Lib.hid (allIn_true.1 h2.2)
  obtain ⟨h1a, h1b⟩ := h1
  obtain ⟨h2a, h2b⟩ := h2
  have HW1 : Hid (withinB xs 256 4095 = true) := by simp [Hid, withinB, h1a, h1b]
  have HW2 : Hid (withinB ys 256 4095 = true) := by simp [Hid, withinB, h2a, h2b]
  clear hl h1b h2b
  go_enter Try.func19, Try.ntmps19
  go_wp2_with fail
  refine (within_c _ xs 256 4095 _ HA.out (by decide) (by decide) (by decide)).mono ?_
  rintro e w1 ⟨rfl, n, rfl⟩
  rw [HW1.out]
  go_wp2_with fail
  refine (within_c _ ys 256 4095 _ (HB.out.drewN _) (by decide) (by decide) (by decide)).mono ?_
  rintro e w1 ⟨rfl, m, rfl⟩
  rw [HW2.out]
  go_wp2_with (at_make; refine wp_makeK rfl rfl .i64 w.heap.size 3 8 Try.underlying24 info_int xs.length rfl rfl rfl rfl (by omega) (by unfold maxLen; omega) (by simp) ?_; intro w1 hown hg hsz)
  have HO : Hid (OwnI w1 w.heap.size 3 (.slice (some ⟨w.heap.size, 0, none⟩) xs.length xs.length) (List.replicate xs.length 0)) := hown
  have HB1 : Hid (Below w.heap.size w w1) := below_undrewN ((Below.refl _ _).grown hg (by simp) (fun k h => by cases h))
  clear hown hg hsz
  go_loopw [27] (fun i wr => ∃ k : Nat, ∃ zs : List Int, k ≤ xs.length ∧ i = .int .i64 k ∧ OwnI wr w.heap.size 3 (.slice (some ⟨w.heap.size, 0, none⟩) xs.length xs.length) zs ∧ Below w.heap.size w wr ∧ ∀ j, j < k → gi zs j = gi (mixL xs ys) j) (fun i _ => xs.length - (intOf i).toNat)
  case atStart => exact ⟨0, _, Nat.zero_le _, rfl, HO.out, HB1.out, fun j h => absurd h (Nat.not_lt_zero _)⟩
  case round =>
    obtain ⟨k, zs, hk, rfl, hown, hb, hall⟩ := hrel
    have HOwn := Lib.hid hown
    have HAll := Lib.hid hall
    have HBel := Lib.hid hb
    clear hown hall hb
    by_cases hlt : k < xs.length
    · have hltb : k < ys.length := HL.out ▸ hlt
      obtain ⟨ba, oa, rfl, hca⟩ := (HA.out.below HBel.out).at_ hlt
      obtain ⟨bb, ob, rfl, hcb⟩ := (HB.out.below HBel.out).at_ hltb
      obtain ⟨g, hge, hg1, hg2, hgc, hgf⟩ := HOwn.out.at_ hlt
      simp only [Option.some.injEq, Addr.mk.injEq] at hge
      obtain ⟨rfl, _, _⟩ := hge
      obtain ⟨x0, x1⟩ := inB_true.1 (HX.out k hlt)
      obtain ⟨y0, y1⟩ := inB_true.1 (HY.out k hltb)
      have hsum : IntKind.i64.wrap (gi xs k + gi ys k) = gi xs k + gi ys k := IntWalk.i64_in _ (by omega)
      go_wp2
      refine wp_region_still_tail 13 (by kernel_rfl) (by kernel_rfl) ?_
      simp only [List.take_succ_cons, List.take_zero, List.drop_succ_cons, List.drop_zero]
      repeat still_step
      still_call (clamp_x _ _ _ _)
      repeat still_step
      refine wpStill_nil ?_
      change wpList _ _ _ _ _ wr.drew
      go_wp2
      go_roundw
      case rel =>
        refine ⟨k + 1, _, hlt, by go_num, OwnK.below (HOwn.out.set hlt _) (by exact SameW.below ⟨1, rfl⟩), Below.drew (HBel.out.setCell (Nat.le_refl _) _), ?_⟩
        intro j hj
        rw [gi_set (by rw [← HOwn.out.size]; exact hlt)]
        split
        · next e => subst e; rw [gi_mixL hlt, ← clamp_eq_clip (by decide)]
        · exact HAll.out j (by omega)
      case measure => simp [intOf]; omega
    · go_wp2
      go_ret
      refine Ret.mk1 ?_ HBel.out
      have : zs = mixL xs ys := gi_ext (by rw [length_mixL]; exact (HOwn.out.size).symm) (fun i hi => HAll.out i (by have := HOwn.out.size; omega))
      rw [HF.out, ← this]
      exact HOwn.out

theorem l1Clip_x (n lo hi : Int) (w : World) :
    Calls Try.prog 48 #[.int .i64 n, .int .i64 lo, .int .i64 hi] w (fun e w' => e = .returned (.int .i64 (clipI n lo hi)) ∧ w' = w) := by
  go_enter Try.func48, Try.ntmps48
  go_wp2
  all_goals
    go_ret
    exact ⟨congrArg Ending.returned (intv (by unfold clipI; omega)), rfl⟩

theorem mixB_bad {xs ys : List Int} {k : Nat} (hk : k < xs.length) (hk' : k < ys.length) (h : inB (gi xs k) (-4095) 4095 = false ∨ inB (gi ys k) (-4095) 4095 = false) : mixV xs ys = [] := by
  have : mixB xs ys = false := by
    unfold mixB
    rcases h with h | h
    · rw [allIn_bad hk h]; simp
    · rw [allIn_bad hk' h]; simp
  simp [mixV, this]

theorem specMixVoices_c (va vb : Value) (xs ys : List Int) (w : World) (ha : RdI w va xs) (hb : RdI w vb ys) :
    Calls Try.prog 17 #[va, vb] w (Ret w fun v w' => OwnI w' w.heap.size 3 v (mixV xs ys)) := by
  obtain ⟨a, ca, rfl, ma⟩ := ha.form
  obtain ⟨b, cb, rfl, mb⟩ := hb.form
  have HA := Lib.hid ha
  have HB := Lib.hid hb
  clear ha hb
  by_cases hl : xs.length = ys.length
  case neg =>
    have HF : Hid (mixV xs ys = []) := by simp [Hid, mixV, mixB, hl]
    have hl0 : ((xs.length : Int) != (ys.length : Int)) = true := by simp; omega
    clear hl
    go_enter Try.func17, Try.ntmps17
    go_wp2
    go_ret
    exact Ret.mk1 (by rw [HF.out]; exact OwnK.empty _ _ _ _ (Nat.le_refl _)) (by repeat' (first | with_reducible exact Below.refl _ _ | with_reducible assumption | with_reducible refine below_drewN ?_ _ | with_reducible refine Below.drew ?_ | with_reducible refine Below.alloc ?_ ?_ _ | with_reducible refine Below.setCell ?_ ?_ _ | go_size))
  have hl0 : ((xs.length : Int) != (ys.length : Int)) = false := by simp [hl]
  have HL := Lib.hid hl
  by_cases h256 : 256 < xs.length
  · have HF : Hid (mixV xs ys = []) := by
      have : decide (xs.length ≤ 256) = false := by simp; omega
      simp [Hid, mixV, mixB, this]
    clear hl
    go_enter Try.func17, Try.ntmps17
    go_wp2
    go_ret
    exact Ret.mk1 (by rw [HF.out]; exact OwnK.empty _ _ _ _ (Nat.le_refl _)) (by repeat' (first | with_reducible exact Below.refl _ _ | with_reducible assumption | with_reducible refine below_drewN ?_ _ | with_reducible refine Below.drew ?_ | with_reducible refine Below.alloc ?_ ?_ _ | with_reducible refine Below.setCell ?_ ?_ _ | go_size))
  clear hl
  go_enter Try.func17, Try.ntmps17
  go_wp2
  go_loopw [5, 6] (fun o i wr => ∃ k : Nat, k ≤ xs.length ∧ i = .int .i64 k ∧ OwnI wr w.heap.size 3 o ((mixL xs ys).take k) ∧ Below w.heap.size w wr ∧ ∀ j, j < k → inB (gi xs j) (-4095) 4095 = true ∧ inB (gi ys j) (-4095) 4095 = true) (fun _ i _ => xs.length - (intOf i).toNat)
  case atStart => exact ⟨0, Nat.zero_le _, rfl, OwnK.empty _ _ _ _ (Nat.le_refl _), (by repeat' (first | with_reducible exact Below.refl _ _ | with_reducible assumption | with_reducible refine below_drewN ?_ _ | with_reducible refine Below.drew ?_ | with_reducible refine Below.alloc ?_ ?_ _ | with_reducible refine Below.setCell ?_ ?_ _ | go_size)), fun j h => absurd h (Nat.not_lt_zero _)⟩
  case round =>
    obtain ⟨k, hk, rfl, hown, hb, hall⟩ := hrel
    have HOwn := Lib.hid hown
    have HAll := Lib.hid hall
    have HBel := Lib.hid hb
    clear hown hall hb
    by_cases hlt : k < xs.length
    · have hltb : k < ys.length := HL.out ▸ hlt
      obtain ⟨ba, oa, rfl, hca0⟩ := HA.out.at_ hlt
      obtain ⟨bb, ob, rfl, hcb0⟩ := HB.out.at_ hltb
      have hla := cell_lt hca0
      have hlb := cell_lt hcb0
      have hca := (HBel.out.cell hla).trans hca0
      have hcb := (HBel.out.cell hlb).trans hcb0
      clear hca0 hcb0
      cases hx : inB (gi xs k) (-4095) 4095
      · have HF : Hid (mixV xs ys = []) := mixB_bad hlt hltb (.inl hx)
        go_wp2_with (go_at_call 46; refine (l1In_x _ _ _ _).mono ?_; rintro e w' ⟨rfl, hw⟩; obtain rfl := hw.symm)
        go_ret
        exact Ret.mk1 (by rw [HF.out]; exact OwnK.empty _ _ _ _ HBel.out.size) (Below.alloc HBel.out HBel.out.size _)
      cases hy : inB (gi ys k) (-4095) 4095
      · have HF : Hid (mixV xs ys = []) := mixB_bad hlt hltb (.inr hy)
        go_wp2_with (go_at_call 46; refine (l1In_x _ _ _ _).mono ?_; rintro e w' ⟨rfl, hw⟩; obtain rfl := hw.symm)
        go_ret
        exact Ret.mk1 (by rw [HF.out]; exact OwnK.empty _ _ _ _ HBel.out.size) (Below.alloc HBel.out HBel.out.size _)
      obtain ⟨x0, x1⟩ := inB_true.1 hx
      obtain ⟨y0, y1⟩ := inB_true.1 hy
      have hsum : IntKind.i64.wrap (gi xs k + gi ys k) = gi xs k + gi ys k := IntWalk.i64_in _ (by omega)
      go_wp2_with (go_at_call 46; refine (l1In_x _ _ _ _).mono ?_; rintro e w' ⟨rfl, hw⟩; obtain rfl := hw.symm)
      have hlen : ((mixL xs ys).take k).length = k := by rw [List.length_take, length_mixL]; omega
      have HLen := Lib.hid hlen
      clear hlen
      go_region_held3 (fun wx => wx.cell? ⟨ba, oa + k, none⟩ = some (.int .i64 (gi xs k)) ∧ wx.cell? ⟨bb, ob + k, none⟩ = some (.int .i64 (gi ys k)))
        (first | exact ⟨hca, hcb⟩ | exact ⟨(World.cell?_alloc_lt _ _ _ (cell_lt hca)).trans hca, (World.cell?_alloc_lt _ _ _ (cell_lt hcb)).trans hcb⟩ | exact ⟨app_cell_drew hg1 hca hla HOwn.out.base, app_cell_drew hg1 hcb hlb HOwn.out.base⟩)
        (first | (go_at_call 48; refine (l1Clip_x _ _ _ _).mono ?_; rintro e w' ⟨rfl, hw⟩; obtain rfl := hw.symm) | (refine step_app1K rfl rfl .i64 w.heap.size 3 8 Try.underlying24 info_int u5 _ (clipI (gi xs k + gi ys k) (-4095) 4095) rfl (OwnK.drew (HOwn.out.alloc _)) rfl (World.cell?_alloc_at _ _ _ _ rfl) (by have := HLen.out; omega) (by have := HLen.out; unfold maxLen; omega) (by have := HBel.out.size; simp; omega) ?_; intro v' w1 hown1 hg1))
      have HOwn1 := Lib.hid hown1
      have HBel1 := Lib.hid (below_app_drew HBel.out HBel.out.size hg1 (fun b hb => (HOwn.out.base b hb).1))
      clear hown1 hg1
      go_wp2
      go_roundw
      case rel =>
        refine ⟨k + 1, hlt, by go_num, ?_, HBel1.out, ?_⟩
        · rw [ext_take_succ (by rw [length_mixL]; exact hlt), gi_mixL hlt]; exact HOwn1.out
        · intro j hj
          rcases Nat.lt_succ_iff_lt_or_eq.1 hj with h | rfl
          · exact HAll.out j h
          · exact ⟨hx, hy⟩
      case measure => simp [intOf]; omega
    · obtain rfl : k = xs.length := by omega
      have HF : Hid (mixV xs ys = mixL xs ys) := by
        have h1 : allIn xs 4095 = true := allIn_true.2 fun i hi => (HAll.out i hi).1
        have h2 : allIn ys 4095 = true := allIn_true.2 fun i hi => (HAll.out i (by rw [HL.out]; exact hi)).2
        have h3 : decide (xs.length ≤ 256) = true := by simp; omega
        have h4 : decide (xs.length = ys.length) = true := by simp [HL.out]
        simp [Hid, mixV, mixB, h1, h2, h3, h4]
      go_wp2
      go_ret
      refine Ret.mk1 ?_ HBel.out
      rw [HF.out]
      have := HOwn.out
      rwa [List.take_of_length_le (by rw [length_mixL]; exact Nat.le_refl _)] at this

end Go.Proofs.Ytfllfbmdnokmnaa
