import Derived.Test.YtjgafkoboolclaaDoorProg
import Derived.Test.YtjgafkoboolclaaDoorLib
namespace Go.Proofs.YtjgafkoboolclaaDoor
open Go.RowKit

theorem info_int : (Tryd.prog.info? 3).map (fun i => (i.zero, i.size, i.bytes)) = some (some (.int .i64 0), 1, 8) := by kernel_rfl

/-- toIntS: a copy. -/
theorem toIntS_c (va : Value) (xs : List Int) (w : World) (h : RdI w va xs) (hs : xs.length ≤ 17592186044416) :
    Calls Tryd.prog 9 #[va] w (Ret w fun v w' => OwnI w' w.heap.size 3 v xs) := by
  obtain ⟨a, ca, rfl, ml⟩ := h.form
  have H := Lib.hid h
  clear h
  go_enter Tryd.func9, Tryd.ntmps9
  go_wp2_with (at_make; refine wp_makeK rfl rfl .i64 w.heap.size 3 8 Tryd.underlying22 info_int xs.length rfl rfl rfl rfl (by omega) (by unfold maxLen; omega) (Nat.le_refl _) ?_; intro w1 hown hg hsz)
  have HO := Lib.hid hown
  clear hown
  go_loopw [4] (fun i wr => ∃ k : Nat, ∃ ys : List Int, k ≤ xs.length ∧ i = .int .i64 k ∧ OwnI wr w.heap.size 3 (.slice (some ⟨w.heap.size, 0, none⟩) xs.length xs.length) ys ∧ Below w.heap.size w wr ∧ ∀ j, j < k → gi ys j = gi xs j) (fun i _ => xs.length - (intOf i).toNat)
  case atStart => exact ⟨0, _, Nat.zero_le _, rfl, HO.out, (Below.refl _ _).grown hg (Nat.le_refl _) (fun k h => by cases h), fun j h => absurd h (Nat.not_lt_zero _)⟩
  case round =>
    obtain ⟨k, ys, hk, rfl, hown, hb, hall⟩ := hrel
    have HOwn := Lib.hid hown
    have HAll := Lib.hid hall
    have HB := Lib.hid hb
    clear hown hall hb
    by_cases hlt : k < xs.length
    · obtain ⟨b, off, rfl, hc⟩ := (H.out.below HB.out).at_ hlt
      obtain ⟨g, hge, hg1, hg2, hgc, hgf⟩ := HOwn.out.at_ hlt
      simp only [Option.some.injEq, Addr.mk.injEq] at hge
      obtain ⟨rfl, _, _⟩ := hge
      go_wp2
      go_roundw
      case rel =>
        refine ⟨k + 1, _, hlt, by go_num, HOwn.out.set hlt _, HB.out.setCell (Nat.le_refl _) _, ?_⟩
        intro j hj
        rw [gi_set (by rw [← HOwn.out.size]; exact hlt)]
        split
        · next e => rw [e]
        · exact HAll.out j (by omega)
      case measure => simp [intOf]; omega
    · go_wp2
      go_ret
      refine Ret.mk1 ?_ HB.out
      have : ys = xs := gi_ext (HOwn.out.size).symm (fun i hi => HAll.out i (by have := HOwn.out.size; omega))
      rw [← this]
      simpa [this] using HOwn.out

/-- eqIntS: equal lists. -/
theorem eqIntS_c (va vb : Value) (xs ys : List Int) (w : World) (ha : RdI w va xs) (hb : RdI w vb ys) :
    Calls Tryd.prog 11 #[va, vb] w (RetQ w (.bool (decide (xs = ys)))) := by
  obtain ⟨a, ca, rfl, ma⟩ := ha.form
  obtain ⟨b, cb, rfl, mb⟩ := hb.form
  have HA := Lib.hid ha
  have HB := Lib.hid hb
  clear ha hb
  by_cases hl : xs.length = ys.length
  · have hl0 : ((xs.length : Int) != (ys.length : Int)) = false := by simp [hl]
    have HL := Lib.hid hl
    clear hl
    go_enter Tryd.func11, Tryd.ntmps11
    go_wp2
    go_loopw [5] (fun i wr => ∃ k : Nat, k ≤ xs.length ∧ i = .int .i64 k ∧ (∃ n, wr = w.drewN n) ∧ ∀ j, j < k → gi xs j = gi ys j) (fun i _ => xs.length - (intOf i).toNat)
    case atStart => exact ⟨0, Nat.zero_le _, rfl, ⟨0, rfl⟩, fun j h => absurd h (Nat.not_lt_zero _)⟩
    case round =>
      obtain ⟨k, hk, rfl, ⟨n, rfl⟩, hall⟩ := hrel
      have HAll := Lib.hid hall
      clear hall
      by_cases hlt : k < xs.length
      · obtain ⟨ba, oa, rfl, hca⟩ := HA.out.at_ hlt
        have hltb : k < ys.length := HL.out ▸ hlt
        obtain ⟨bb, ob, rfl, hcb⟩ := HB.out.at_ hltb
        go_wp2
        go_quiet (fail)
        go_wp2
        · go_ret
          refine RetQ.mk1 ?_ ⟨_, drewN_add _ _ _⟩
          have he : (gi xs k != gi ys k) = true := by assumption
          have : xs ≠ ys := by rintro rfl; simp at he
          simp [this]
        · have he : (gi xs k != gi ys k) = false := by assumption
          go_roundw
          case rel =>
            refine ⟨k + 1, hlt, by go_num, ⟨_, rfl⟩, ?_⟩
            intro j hj
            rcases Nat.lt_succ_iff_lt_or_eq.1 hj with h | rfl
            · exact HAll.out j h
            · simpa using he
          case measure => simp [intOf]; omega
      · go_wp2
        go_ret
        refine RetQ.mk1 ?_ ⟨_, rfl⟩
        have : xs = ys := gi_ext HL.out (fun i hi => HAll.out i (by omega))
        simp [this]
  · have hl0 : ((xs.length : Int) != (ys.length : Int)) = true := by simp; omega
    have HN : Hid (xs ≠ ys) := Lib.hid (by rintro rfl; exact hl rfl)
    clear hl
    go_enter Tryd.func11, Tryd.ntmps11
    go_wp2
    go_ret
    exact RetQ.mk0 (by have := HN.out; simp [this])
/-- sameInts: equal lists. -/
theorem sameInts_c (va vb : Value) (xs ys : List Int) (w : World) (ha : RdI w va xs) (hb : RdI w vb ys) :
    Calls Tryd.prog 15 #[va, vb] w (RetQ w (.bool (decide (xs = ys)))) := by
  obtain ⟨a, ca, rfl, ma⟩ := ha.form
  obtain ⟨b, cb, rfl, mb⟩ := hb.form
  have HA := Lib.hid ha
  have HB := Lib.hid hb
  clear ha hb
  by_cases hl : xs.length = ys.length
  · have hl0 : ((xs.length : Int) != (ys.length : Int)) = false := by simp [hl]
    have HL := Lib.hid hl
    clear hl
    go_enter Tryd.func15, Tryd.ntmps15
    go_wp2
    go_loopw [5] (fun i wr => ∃ k : Nat, k ≤ xs.length ∧ i = .int .i64 k ∧ (∃ n, wr = w.drewN n) ∧ ∀ j, j < k → gi xs j = gi ys j) (fun i _ => xs.length - (intOf i).toNat)
    case atStart => exact ⟨0, Nat.zero_le _, rfl, ⟨0, rfl⟩, fun j h => absurd h (Nat.not_lt_zero _)⟩
    case round =>
      obtain ⟨k, hk, rfl, ⟨n, rfl⟩, hall⟩ := hrel
      have HAll := Lib.hid hall
      clear hall
      by_cases hlt : k < xs.length
      · obtain ⟨ba, oa, rfl, hca⟩ := HA.out.at_ hlt
        have hltb : k < ys.length := HL.out ▸ hlt
        obtain ⟨bb, ob, rfl, hcb⟩ := HB.out.at_ hltb
        go_wp2
        go_quiet (fail)
        go_wp2
        · go_ret
          refine RetQ.mk1 ?_ ⟨_, drewN_add _ _ _⟩
          have he : (gi xs k != gi ys k) = true := by assumption
          have : xs ≠ ys := by rintro rfl; simp at he
          simp [this]
        · have he : (gi xs k != gi ys k) = false := by assumption
          go_roundw
          case rel =>
            refine ⟨k + 1, hlt, by go_num, ⟨_, rfl⟩, ?_⟩
            intro j hj
            rcases Nat.lt_succ_iff_lt_or_eq.1 hj with h | rfl
            · exact HAll.out j h
            · simpa using he
          case measure => simp [intOf]; omega
      · go_wp2
        go_ret
        refine RetQ.mk1 ?_ ⟨_, rfl⟩
        have : xs = ys := gi_ext HL.out (fun i hi => HAll.out i (by omega))
        simp [this]
  · have hl0 : ((xs.length : Int) != (ys.length : Int)) = true := by simp; omega
    have HN : Hid (xs ≠ ys) := Lib.hid (by rintro rfl; exact hl rfl)
    clear hl
    go_enter Tryd.func15, Tryd.ntmps15
    go_wp2
    go_ret
    exact RetQ.mk0 (by have := HN.out; simp [this])

/-- numbers from k on -/
def upFrom (k : Int) (n : Nat) : List Int := (List.range n).map fun (i : Nat) => k + (i : Int)
theorem gi_upFrom {k : Int} {n i : Nat} (h : i < n) : gi (upFrom k n) i = k + i := by simp [gi, upFrom, h]
theorem length_upFrom (k : Int) (n : Nat) : (upFrom k n).length = n := by simp [upFrom]

/-- markIntS writes numbers from k on into a list that is its own. -/
theorem markIntS_c (base : Nat) (va : Value) (xs : List Int) (k : Int) (w : World) (h : OwnI w base 3 va xs) (h0 : 0 ≤ k) (h1 : k ≤ 1152921504606846976) (hs : xs.length ≤ 1152921504606846976) :
    Calls Tryd.prog 12 #[va, .int .i64 k] w (fun e w' => e = .returned (.int .i64 (k + (xs.length : Int))) ∧ OwnI w' base 3 va (upFrom k xs.length) ∧ w.grownBy w' va.ownBlock) := by
  obtain ⟨a, ca, rfl, ml⟩ := h.rd.form
  have H := Lib.hid h
  clear h
  go_enter Tryd.func12, Tryd.ntmps12
  go_wp2
  go_loopw [1, 5] (fun kk i wr => ∃ q : Nat, ∃ ys : List Int, q ≤ xs.length ∧ i = .int .i64 q ∧ kk = .int .i64 (k + (q : Int)) ∧ OwnI wr base 3 (.slice a xs.length ca) ys ∧ w.grownBy wr (Value.slice a xs.length ca).ownBlock ∧ ∀ j, j < q → gi ys j = k + (j : Int)) (fun _ i _ => xs.length - (intOf i).toNat)
  case atStart => exact ⟨0, xs, Nat.zero_le _, rfl, by simp, H.out, World.grownBy.refl _ _, fun j h => absurd h (Nat.not_lt_zero _)⟩
  case round =>
    obtain ⟨q, ys, hq, rfl, rfl, hown, hg, hall⟩ := hrel
    have HOwn := Lib.hid hown
    have HAll := Lib.hid hall
    have HG := Lib.hid hg
    clear hown hall hg
    by_cases hlt : q < xs.length
    · obtain ⟨g, rfl, hg0, hg1, hgc, hgf⟩ := HOwn.out.at_ hlt
      go_wp2
      go_roundw
      case rel =>
        refine ⟨q + 1, _, hlt, by go_num, intv (by omega), HOwn.out.set hlt _, ?_, ?_⟩
        · exact ⟨HG.out.os, HG.out.tape, HG.out.output, by have := HG.out.size; simpa [World.setCell] using this, fun b hb hne => by
            rw [Below.heap_setCell _ _ _ _ (fun e => hne (by simp [Value.ownBlock, e]))]
            exact HG.out.block b hb hne⟩
        · intro j hj
          rw [gi_set (by rw [← HOwn.out.size]; exact hlt)]
          split
          · next e => rw [e]
          · exact HAll.out j (by omega)
      case measure => simp [intOf]; omega
    · go_wp2
      go_ret
      have hl := HOwn.out.size
      obtain rfl : q = xs.length := by omega
      refine ⟨rfl, ?_, HG.out⟩
      have : ys = upFrom k xs.length := gi_ext (by rw [length_upFrom]; exact hl.symm) (fun i hi => by rw [HAll.out i (by omega), gi_upFrom (by omega)])
      rw [← this]; exact HOwn.out

/-- heldIntS: does the list hold the numbers from k on? -/
theorem heldIntS_c (va : Value) (n : Nat) (k : Int) (w : World) (h : RdI w va (upFrom k n)) (h0 : 0 ≤ k) (h1 : k ≤ 1152921504606846976) (hs : n ≤ 1152921504606846976) :
    Calls Tryd.prog 13 #[va, .int .i64 k] w (RetQ w (.int .i64 (k + (n : Int)))) := by
  obtain ⟨a, ca, rfl, ml⟩ := h.form
  rw [length_upFrom] at *
  have H := Lib.hid h
  clear h
  go_enter Tryd.func13, Tryd.ntmps13
  go_wp2
  go_loopw [1, 5] (fun kk i wr => ∃ q : Nat, q ≤ n ∧ i = .int .i64 q ∧ kk = .int .i64 (k + (q : Int)) ∧ SameW w wr) (fun _ i _ => n - (intOf i).toNat)
  case atStart => exact ⟨0, Nat.zero_le _, rfl, by simp, SameW.refl _⟩
  case round =>
    obtain ⟨q, hq, rfl, rfl, hsame⟩ := hrel
    have HS := Lib.hid hsame
    clear hsame
    by_cases hlt : q < n
    · obtain ⟨b, off, rfl, hc⟩ := (H.out.below HS.out.below).at_ hlt
      rw [gi_upFrom hlt] at hc
      have hcmp : ((k + (q : Int)) != (k + (q : Int))) = false := bne_self_eq_false _
      go_wp2
      go_roundw
      case rel => exact ⟨q + 1, hlt, by go_num, intv (by omega), HS.out⟩
      case measure => simp [intOf]; omega
    · obtain rfl : q = n := by omega
      go_wp2
      go_ret
      exact RetQ.mkS rfl HS.out

/-- valid bits -/
def bitsB (xs : List Int) : Bool := decide (xs.length ≤ 1024) && xs.all fun x => x == 0 || x == 1
theorem bitsB_true {xs : List Int} : bitsB xs = true ↔ xs.length ≤ 1024 ∧ ∀ i, i < xs.length → gi xs i = 0 ∨ gi xs i = 1 := by
  unfold bitsB
  rw [Bool.and_eq_true, decide_eq_true_eq, List.all_eq_true]
  constructor
  · rintro ⟨h1, h2⟩
    refine ⟨h1, fun i hi => ?_⟩
    have := h2 (gi xs i) (by rw [gi_lt hi]; exact List.getElem_mem hi)
    simpa using this
  · rintro ⟨h1, h2⟩
    refine ⟨h1, fun x hx => ?_⟩
    obtain ⟨i, hi, rfl⟩ := List.getElem_of_mem hx
    have := h2 i hi
    rw [gi_lt hi] at this
    simpa using this
theorem bitsB_bad {xs : List Int} {i : Nat} (hi : i < xs.length) (h : gi xs i ≠ 0) (h' : gi xs i ≠ 1) : bitsB xs = false := by
  cases hb : bitsB xs
  · rfl
  · rcases (bitsB_true.1 hb).2 i hi with e | e <;> contradiction

theorem implBitsValid_c (va : Value) (xs : List Int) (w : World) (h : RdI w va xs) :
    Calls Tryd.prog 31 #[va] w (RetQ w (.bool (bitsB xs))) := by
  obtain ⟨a, ca, rfl, ml⟩ := h.form
  have H := Lib.hid h
  clear h
  by_cases hl : 1024 < xs.length
  · have HF : Hid (bitsB xs = false) := by simp [Hid, bitsB]; omega
    go_enter Tryd.func31, Tryd.ntmps31
    go_wp2
    go_ret
    exact RetQ.mkS (boolv HF.out.symm) (SameW.refl _)
  go_enter Tryd.func31, Tryd.ntmps31
  go_wp2
  go_loopw [10] (fun i wr => ∃ k : Nat, k ≤ xs.length ∧ i = .int .i64 k ∧ SameW w wr ∧ ∀ j, j < k → gi xs j = 0 ∨ gi xs j = 1) (fun i _ => xs.length - (intOf i).toNat)
  case atStart => exact ⟨0, Nat.zero_le _, rfl, SameW.refl _, fun j h => absurd h (Nat.not_lt_zero _)⟩
  case round =>
    obtain ⟨k, hk, rfl, hsame, hall⟩ := hrel
    have HS := Lib.hid hsame
    have HAll := Lib.hid hall
    clear hsame hall
    by_cases hlt : k < xs.length
    · obtain ⟨b, off, rfl, hc⟩ := (H.out.below HS.out.below).at_ hlt
      by_cases h0 : gi xs k = 0
      · have e0 : (gi xs k != 0) = false := by simp [h0]
        have HZ := Lib.hid h0
        clear h0
        go_wp2
        go_roundw
        case rel => exact ⟨k + 1, hlt, by go_num, HS.out, fun j hj => by
          rcases Nat.lt_succ_iff_lt_or_eq.1 hj with h | rfl
          · exact HAll.out j h
          · exact .inl HZ.out⟩
        case measure => simp [intOf]; omega
      have e0 : (gi xs k != 0) = true := by simp [h0]
      by_cases h1 : gi xs k = 1
      · have e1 : (gi xs k != 1) = false := by simp [h1]
        have HZ := Lib.hid h1
        clear h0 h1
        go_wp2
        go_roundw
        case rel => exact ⟨k + 1, hlt, by go_num, HS.out, fun j hj => by
          rcases Nat.lt_succ_iff_lt_or_eq.1 hj with h | rfl
          · exact HAll.out j h
          · exact .inr HZ.out⟩
        case measure => simp [intOf]; omega
      have e1 : (gi xs k != 1) = true := by simp [h1]
      have HF : Hid (bitsB xs = false) := bitsB_bad hlt h0 h1
      clear h0 h1
      go_wp2
      go_ret
      exact RetQ.mkS (boolv HF.out.symm) HS.out
    · obtain rfl : k = xs.length := by omega
      have HF : Hid (bitsB xs = true) := bitsB_true.2 ⟨by omega, HAll.out⟩
      go_wp2
      go_ret
      exact RetQ.mkS (boolv HF.out.symm) HS.out

theorem samePlaces_c (va vb : Value) (xs ys : List Int) (w : World) (ha : RdI w va xs) (hb : RdI w vb ys) :
    Calls Tryd.prog 53 #[va, vb] w (RetQ w (.bool (bitsB xs && bitsB ys && decide (xs.length = ys.length)))) := by
  obtain ⟨a, ca, rfl, ma⟩ := ha.form
  obtain ⟨b, cb, rfl, mb⟩ := hb.form
  have HA := Lib.hid ha
  have HB := Lib.hid hb
  clear ha hb
  cases h1 : bitsB xs
  · go_enter Tryd.func53, Tryd.ntmps53
    go_wp2_with fail
    refine (implBitsValid_c _ xs _ HA.out).mono ?_
    rintro e w1 ⟨rfl, n, rfl⟩
    rw [h1]
    go_wp2
    go_ret
    exact RetQ.mk1 rfl (by first | exact ⟨_, rfl⟩ | exact ⟨_, drewN_add _ _ _⟩)
  cases h2 : bitsB ys
  · go_enter Tryd.func53, Tryd.ntmps53
    go_wp2_with fail
    refine (implBitsValid_c _ xs _ HA.out).mono ?_
    rintro e w1 ⟨rfl, n, rfl⟩
    rw [h1]
    go_wp2_with fail
    refine (implBitsValid_c _ ys _ (HB.out.drewN _)).mono ?_
    rintro e w1 ⟨rfl, m, rfl⟩
    rw [h2]
    go_wp2
    go_ret
    exact RetQ.mk1 rfl (by first | exact ⟨_, rfl⟩ | exact ⟨_, drewN_add _ _ _⟩)
  · have HF : Hid (((xs.length : Int) == (ys.length : Int)) = decide (xs.length = ys.length)) := by
      unfold Hid
      by_cases h : xs.length = ys.length
      · simp [h]
      · have : ((xs.length : Int) == (ys.length : Int)) = false := by simp; omega
        rw [this]; simp [h]
    go_enter Tryd.func53, Tryd.ntmps53
    go_wp2_with fail
    refine (implBitsValid_c _ xs _ HA.out).mono ?_
    rintro e w1 ⟨rfl, n, rfl⟩
    rw [h1]
    go_wp2_with fail
    refine (implBitsValid_c _ ys _ (HB.out.drewN _)).mono ?_
    rintro e w1 ⟨rfl, m, rfl⟩
    rw [h2]
    go_wp2
    go_ret
    exact RetQ.mk1 (boolv HF.out) (by first | exact ⟨_, rfl⟩ | exact ⟨_, drewN_add _ _ _⟩)

theorem hamming10_c (va vb : Value) (w : World) (ha : RdI w va [1]) (hb : RdI w vb [0]) :
    Calls Tryd.prog 38 #[va, vb] w (RetQ w (.int .i64 1)) := by
  obtain ⟨a, ca, rfl, ma⟩ := ha.form
  obtain ⟨b, cb, rfl, mb⟩ := hb.form
  obtain ⟨ba, oa, rfl, hca⟩ := ha.at_ (i := 0) (by decide)
  obtain ⟨bb, ob, rfl, hcb⟩ := hb.at_ (i := 0) (by decide)
  have hca : w.cell? ⟨ba, oa, none⟩ = some (.int .i64 1) := hca
  have hcb : w.cell? ⟨bb, ob, none⟩ = some (.int .i64 0) := hcb
  have HA := Lib.hid ha
  have HB := Lib.hid hb
  clear ha hb
  simp only [List.length_singleton] at *
  go_enter Tryd.func38, Tryd.ntmps38
  go_wp2_with fail
  refine (samePlaces_c _ _ [1] [0] _ HA.out HB.out).mono ?_
  rintro e w1 ⟨rfl, n, rfl⟩
  rw [show (bitsB [1] && bitsB [0] && decide (([1] : List Int).length = ([0] : List Int).length)) = true from by decide]
  go_wp2
  refine wp_loop_rounds 2 ?_
  rw [rounds_succ]
  go_wp2
  go_quiet (fail)
  go_wp2
  rw [rounds_succ]
  go_wp2
  go_ret
  exact RetQ.mk1 (intv (by decide +kernel)) (by first | exact ⟨_, rfl⟩ | exact ⟨_, drewN_add _ _ _⟩)

theorem alive_c (w : World) : Calls Tryd.prog 16 #[] w (Ret w fun v _ => v = .bool true) := by
  go_enter Tryd.func16, Tryd.ntmps16
  go_wp2_with fail
  refine (hamming10_c _ _ _ ?_ ?_).mono ?_
  · refine ⟨_, 1, rfl, by decide, by decide, fun i hi => ⟨w.heap.size, 0, rfl, ?_⟩⟩
    obtain rfl : i = 0 := by simpa using hi
    rw [World.cell?_alloc_past _ _ _ (by simp), World.cell?_alloc_at _ _ _ _ rfl]; rfl
  · refine ⟨_, 1, rfl, by decide, by decide, fun i hi => ⟨w.heap.size + 1, 0, rfl, ?_⟩⟩
    obtain rfl : i = 0 := by simpa using hi
    rw [World.cell?_alloc_at _ _ _ _ (by simp)]; rfl
  rintro e w1 ⟨rfl, n, rfl⟩
  go_wp2
  go_ret
  exact Ret.mk1 rfl (by repeat' (first | with_reducible exact Below.refl _ _ | with_reducible assumption | with_reducible refine below_drewN ?_ _ | with_reducible refine Below.drew ?_ | with_reducible refine Below.alloc ?_ ?_ _ | with_reducible refine Below.setCell ?_ ?_ _ | go_size))


end Go.Proofs.YtjgafkoboolclaaDoor
