import Derived.Test.YtpcmfmkpgidgpaaDoorProg
import Derived.Test.YtpcmfmkpgidgpaaDoorLib
import Derived.Test.YtpcmfmkpgidgpaaDoorMem
import Derived.Test.YtpcmfmkpgidgpaaDoorNum
import Derived.Test.YtpcmfmkpgidgpaaDoorOpen
namespace Go.Proofs.YtpcmfmkpgidgpaaDoor
open Go.RowKit

/-! Lists of structs of two numbers. -/
/-- the first and the last channel of a band, by index -/
def bF (xs : List (Int × Int)) (i : Nat) : Int := (xs.getD i (0, 0)).1
def bL (xs : List (Int × Int)) (i : Nat) : Int := (xs.getD i (0, 0)).2
def bC (xs : List (Int × Int)) (i j : Nat) : Value := .int .i64 (if j = 0 then bF xs i else bL xs i)
abbrev RdBand (w : World) (v : Value) (xs : List (Int × Int)) : Prop := RdM 2 w v xs.length (bC xs)
theorem band_ext {xs ys : List (Int × Int)} (hl : xs.length = ys.length) (h : ∀ i, i < xs.length → bF xs i = bF ys i ∧ bL xs i = bL ys i) : xs = ys := by
  apply List.ext_getElem hl
  intro i h1 h2
  have := h i h1
  simp [bF, bL, h1, h2] at this
  exact Prod.ext this.1 this.2

def eq2B (a b c d : Int) : Bool := a == c && b == d

theorem bandC_of {n : Nat} {c : Nat → Nat → Value} (h : ∀ i, i < n → isInts2 (c i)) : ∃ xs : List (Int × Int), xs.length = n ∧ ∀ i j, i < n → j < 2 → c i j = bC xs i j := by
  have each : ∀ i, i < n → ∃ q : Int × Int, c i 0 = .int .i64 q.1 ∧ c i 1 = .int .i64 q.2 := fun i hi => by
    obtain ⟨a, b, e0, e1, _⟩ := h i hi
    exact ⟨(a, b), e0, e1⟩
  obtain ⟨f, hf⟩ := Go.Deep.choose_lt each
  refine ⟨(List.range n).map f, by simp, fun i j hi hj => ?_⟩
  have : j = 0 ∨ j = 1 := by omega
  rcases this with rfl | rfl
  · rw [(hf i hi).1]; simp [bC, bF, hi]
  · rw [(hf i hi).2]; simp [bC, bL, hi]

/-- the cells of one element -/
def rowB (x y : Int) (j : Nat) : Value := .int .i64 (if j = 0 then x else y)
/-- marked from k on -/
def upC (k : Int) (i j : Nat) : Value := .int .i64 (k + 2 * (i : Int) + (j : Int))
theorem grown_set2 {w w' : World} {g n c i : Nat} {x y : Value} (h : w.grownBy w' (Value.ownBlock (.slice (some ⟨g, 0, none⟩) n c))) : w.grownBy ((w'.setCell ⟨g, i, none⟩ x).setCell ⟨g, i + 1, none⟩ y) (Value.ownBlock (.slice (some ⟨g, 0, none⟩) n c)) := by
  refine ⟨h.os, h.tape, h.output, by simpa [World.setCell] using h.size, fun q hq hne => ?_⟩
  have hqg : q ≠ g := fun e => hne (by rw [e]; rfl)
  rw [Below.heap_setCell _ _ _ _ hqg, Below.heap_setCell _ _ _ _ hqg]
  exact h.block q hq hne

abbrev OwnSample (w : World) (base : Nat) (v : Value) (xs : List (Int × Int)) : Prop := OwnM 2 w base 57 v xs.length (bC xs)
theorem info_Sample : (Tryd.prog.info? 57).map (fun i => (i.zero, i.size, i.bytes)) = some (some (.agg #[.int .i64 0, .int .i64 0]), 2, 16) := by kernel_rfl

theorem toSample_c (a b : Int) (w : World) :
    Calls Tryd.prog 57 #[.agg #[.int .i64 a, .int .i64 b]] w (Ret w fun v _ => v = .agg #[.int .i64 a, .int .i64 b]) := by
  go_enter Tryd.func57, Tryd.ntmps57
  go_wp2
  go_returns
  exact Ret.mk1 rfl (by go_grown)

theorem toSampleS_c (va : Value) (xs : List (Int × Int)) (w : World) (h : RdBand w va xs) (hs : xs.length ≤ 1048576) :
    Calls Tryd.prog 24 #[va] w (Ret w fun v w' => OwnSample w' w.heap.size v xs) := by
  obtain ⟨a, ca, rfl, ml⟩ := h.form
  have H := Lib.hid h
  clear h
  go_enter Tryd.func24, Tryd.ntmps24
  go_wp2_with (at_make; refine wp_makeM rfl rfl w.heap.size 57 16 2 _ Tryd.underlying23 info_Sample rfl xs.length rfl rfl rfl rfl (by omega) (by unfold maxLen; omega) (Nat.le_refl _) ?_; intro w1 hown hg hsz)
  have HO := Lib.hid hown
  clear hown
  go_loopw [4] (fun i wr => ∃ k : Nat, ∃ c : Nat → Nat → Value, k ≤ xs.length ∧ i = .int .i64 k ∧ OwnM 2 wr w.heap.size 57 (.slice (some ⟨w.heap.size, 0, none⟩) xs.length xs.length) xs.length c ∧ Below w.heap.size w wr ∧ ∀ j q, j < k → q < 2 → c j q = bC xs j q) (fun i _ => xs.length - (intOf i).toNat)
  case atStart => exact ⟨0, _, Nat.zero_le _, rfl, HO.out, (Below.refl _ _).grown hg (Nat.le_refl _) (fun k h => by cases h), fun j q h => absurd h (Nat.not_lt_zero _)⟩
  case round =>
    obtain ⟨k, c, hk, rfl, hown, hb, hall⟩ := hrel
    have HOwn := Lib.hid hown
    have HAll := Lib.hid hall
    have HB := Lib.hid hb
    clear hown hall hb
    by_cases hlt : k < xs.length
    · obtain ⟨b, off, rfl, hc⟩ := (H.out.below (by decide) HB.out).at_ hlt
      have hc0 : wr.cell? ⟨b, off + k * 2, none⟩ = some (.int .i64 (bF xs k)) := hc 0 (by decide)
      have hc1 : wr.cell? ⟨b, off + k * 2 + 1, none⟩ = some (.int .i64 (bL xs k)) := hc 1 (by decide)
      clear hc
      go_wp2_with fail
      refine (toSample_c _ _ _).mono ?_
      rintro e w2 ⟨v, rfl, rfl, hb2⟩
      have HB2 := Lib.hid (HB.out.trans (hb2.mono HB.out.size))
      have HOwn2 := Lib.hid (HOwn.out.below hb2)
      clear hb2 hc0 hc1
      obtain ⟨g, hge, hg1, hgc, hgf⟩ := HOwn2.out.at_ hlt
      simp only [Option.some.injEq, Addr.mk.injEq] at hge
      obtain ⟨rfl, _, _⟩ := hge
      have hg0 : w2.cell? ⟨w.heap.size, k * 2, none⟩ = some (c k 0) := hgc 0 (by decide)
      have hg1 : w2.cell? ⟨w.heap.size, k * 2 + 1, none⟩ = some (c k 1) := hgc 1 (by decide)
      have hf0 := hgf (k * 2)
      have hf1 := hgf (k * 2 + 1)
      clear hgc hgf
      go_wp2
      go_roundw
      case rel =>
        refine ⟨k + 1, _, hlt, by go_num, (HOwn2.out.set1 hlt (j := 0) (by decide) _).set1 hlt (j := 1) (by decide) _, (HB2.out.setCell (Nat.le_refl _) _).setCell (Nat.le_refl _) _, ?_⟩
        intro j q hj hq
        simp only [updC]
        by_cases e : j = k
        · subst e
          have : q = 0 ∨ q = 1 := by omega
          rcases this with rfl | rfl <;> simp [bC]
        · rw [if_neg e, if_neg e]; exact HAll.out j q (by omega) hq
      case measure => simp [intOf]; omega
    · go_wp2
      go_ret
      refine Ret.mk1 ?_ HB.out
      exact HOwn.out.congr (fun i j hi hj => HAll.out i j (by omega) hj)

theorem eqSample_c (a b c d : Int) (w : World) :
    Calls Tryd.prog 42 #[.agg #[.int .i64 a, .int .i64 b], .agg #[.int .i64 c, .int .i64 d]] w (Ret w fun v _ => v = .bool (eq2B a b c d)) := by
  by_cases h : a = c
  · by_cases h2 : b = d
    · have e1 : (a != c) = false := by simp [h]
      have e2 : (b != d) = false := by simp [h2]
      have HF : Hid (eq2B a b c d = true) := by subst h; subst h2; simp [Hid, eq2B]
      clear h h2
      go_enter Tryd.func42, Tryd.ntmps42
      go_wp2
      go_ret
      exact Ret.mk1 (boolv HF.out.symm) (by go_grown)
    · have e1 : (a != c) = false := by simp [h]
      have e2 : (b != d) = true := by simp [h2]
      have HF : Hid (eq2B a b c d = false) := by simp [Hid, eq2B, h2]
      clear h h2
      go_enter Tryd.func42, Tryd.ntmps42
      go_wp2
      go_ret
      exact Ret.mk1 (boolv HF.out.symm) (by go_grown)
  · have e1 : (a != c) = true := by simp [h]
    have HF : Hid (eq2B a b c d = false) := by simp [Hid, eq2B, h]
    clear h
    go_enter Tryd.func42, Tryd.ntmps42
    go_wp2
    go_ret
    exact Ret.mk1 (boolv HF.out.symm) (by go_grown)

/-- eqSampleS: equal lists. -/
theorem eqSampleS_c (va vb : Value) (xs ys : List (Int × Int)) (w : World) (ha : RdBand w va xs) (hb : RdBand w vb ys) :
    Calls Tryd.prog 11 #[va, vb] w (Ret w fun v _ => v = .bool (decide (xs = ys))) := by
  obtain ⟨a, ca, rfl, ma⟩ := ha.form
  obtain ⟨b, cb, rfl, mb⟩ := hb.form
  have HA := Lib.hid ha
  have HB := Lib.hid hb
  clear ha hb
  by_cases hl : xs.length = ys.length
  · have hl0 : ((xs.length : Int) != (ys.length : Int)) = false := by simp [hl]
    have HL := Lib.hid hl
    clear hl
    go_enter Tryd.func11, Tryd.ntmps11
    go_wp2
    go_loopw [5] (fun i wr => ∃ k : Nat, k ≤ xs.length ∧ i = .int .i64 k ∧ Below w.heap.size w wr ∧ ∀ j, j < k → bF xs j = bF ys j ∧ bL xs j = bL ys j) (fun i _ => xs.length - (intOf i).toNat)
    case atStart => exact ⟨0, Nat.zero_le _, rfl, Below.refl _ _, fun j h => absurd h (Nat.not_lt_zero _)⟩
    case round =>
      obtain ⟨k, hk, rfl, hbel, hall⟩ := hrel
      have HAll := Lib.hid hall
      have HBel := Lib.hid hbel
      clear hall hbel
      by_cases hlt : k < xs.length
      · obtain ⟨ba, oa, rfl, hca⟩ := (HA.out.below (by decide) HBel.out).at_ hlt
        have hltb : k < ys.length := HL.out ▸ hlt
        obtain ⟨bb, ob, rfl, hcb⟩ := (HB.out.below (by decide) HBel.out).at_ hltb
        have ha0 : wr.cell? ⟨ba, oa + k * 2, none⟩ = some (.int .i64 (bF xs k)) := hca 0 (by decide)
        have ha1 : wr.cell? ⟨ba, oa + k * 2 + 1, none⟩ = some (.int .i64 (bL xs k)) := hca 1 (by decide)
        have hb0 : wr.cell? ⟨bb, ob + k * 2, none⟩ = some (.int .i64 (bF ys k)) := hcb 0 (by decide)
        have hb1 : wr.cell? ⟨bb, ob + k * 2 + 1, none⟩ = some (.int .i64 (bL ys k)) := hcb 1 (by decide)
        clear hca hcb
        go_wp2
        go_region_held3 (fun wx => wx.cell? ⟨ba, oa + k * 2, none⟩ = some (.int .i64 (bF xs k)) ∧ wx.cell? ⟨ba, oa + k * 2 + 1, none⟩ = some (.int .i64 (bL xs k)) ∧ wx.cell? ⟨bb, ob + k * 2, none⟩ = some (.int .i64 (bF ys k)) ∧ wx.cell? ⟨bb, ob + k * 2 + 1, none⟩ = some (.int .i64 (bL ys k))) (first | exact ⟨ha0, ha1, hb0, hb1⟩ | exact ⟨(hb2.cell (cell_lt ha0)).trans ha0, (hb2.cell (cell_lt ha1)).trans ha1, (hb2.cell (cell_lt hb0)).trans hb0, (hb2.cell (cell_lt hb1)).trans hb1⟩) (first | (go_at_call 42; refine (eqSample_c _ _ _ _ _).mono ?_; rintro e w2 ⟨v, rfl, rfl, hb2⟩))
        have HB2 := Lib.hid (HBel.out.trans ((below_undrew hb2).mono HBel.out.size))
        clear hb2
        cases he : eq2B (bF xs k) (bL xs k) (bF ys k) (bL ys k)
        · have HE : Hid (xs ≠ ys) := by
            intro e
            subst e
            simp [eq2B] at he
          go_wp2
          go_ret
          exact Ret.mk1 (by have := HE.out; simp [this]) HB2.out
        · have HE : Hid (bF xs k = bF ys k ∧ bL xs k = bL ys k) := by simpa [Hid, eq2B] using he
          go_wp2
          go_roundw
          case rel =>
            refine ⟨k + 1, hlt, by go_num, HB2.out, ?_⟩
            intro j hj
            rcases Nat.lt_succ_iff_lt_or_eq.1 hj with h | rfl
            · exact HAll.out j h
            · exact HE.out
          case measure => simp [intOf]; omega
      · go_wp2
        go_ret
        refine Ret.mk1 ?_ HBel.out
        have : xs = ys := band_ext HL.out (fun i hi => HAll.out i (by omega))
        simp [this]
  · have hl0 : ((xs.length : Int) != (ys.length : Int)) = true := by simp; omega
    have HN : Hid (xs ≠ ys) := Lib.hid (by rintro rfl; exact hl rfl)
    clear hl
    go_enter Tryd.func11, Tryd.ntmps11
    go_wp2
    go_ret
    exact Ret.mk1 (by have := HN.out; simp [this]) (Below.refl _ _)

/-- equal lists -/
theorem sameSamples_c (va vb : Value) (xs : List (Int × Int)) (w : World) (ha : RdM 2 w va xs.length (bC xs)) (hb : RdM 2 w vb xs.length (bC xs)) :
    Calls Tryd.prog 17 #[va, vb] w (RetQ w (.bool true)) := by
  obtain ⟨a, ca, rfl, ma⟩ := ha.form
  obtain ⟨b, cb, rfl, mb⟩ := hb.form
  have HA := Lib.hid ha
  have HB := Lib.hid hb
  have hl0 : ((xs.length : Int) != (xs.length : Int)) = false := bne_self_eq_false _
  clear ha hb
  go_enter Tryd.func17, Tryd.ntmps17
  go_wp2
  go_loopw [5] (fun i wr => ∃ k : Nat, k ≤ xs.length ∧ i = .int .i64 k ∧ SameW w wr) (fun i _ => xs.length - (intOf i).toNat)
  case atStart => exact ⟨0, Nat.zero_le _, rfl, SameW.refl _⟩
  case round =>
    obtain ⟨k, hk, rfl, hsame⟩ := hrel
    have HS := Lib.hid hsame
    clear hsame
    by_cases hlt : k < xs.length
    · obtain ⟨ba, oa, rfl, hca⟩ := (HA.out.below (by decide) HS.out.below).at_ hlt
      obtain ⟨bb, ob, rfl, hcb⟩ := (HB.out.below (by decide) HS.out.below).at_ hlt
      obtain ⟨x, hx⟩ : ∃ x, bF xs k = x := ⟨_, rfl⟩
      obtain ⟨y, hy⟩ : ∃ y, bL xs k = y := ⟨_, rfl⟩
      have ha0 : wr.cell? ⟨ba, oa + k * 2, none⟩ = some (.int .i64 x) := by rw [← hx]; exact hca 0 (by decide)
      have ha1 : wr.cell? ⟨ba, oa + k * 2 + 1, none⟩ = some (.int .i64 y) := by rw [← hy]; exact hca 1 (by decide)
      have hb0 : wr.cell? ⟨bb, ob + k * 2, none⟩ = some (.int .i64 x) := by rw [← hx]; exact hcb 0 (by decide)
      have hb1 : wr.cell? ⟨bb, ob + k * 2 + 1, none⟩ = some (.int .i64 y) := by rw [← hy]; exact hcb 1 (by decide)
      have e0 : (x == x) = true := beq_self_eq_true _
      have e1 : (y == y) = true := beq_self_eq_true _
      have i0 : (0 : Int) ≤ (k : Int) := by omega
      have i1 : (k : Int) < (xs.length : Int) := by omega
      clear hca hcb hx hy
      go_wp2
      go_quiet (fail)
      go_wp2
      go_roundw
      case rel => exact ⟨k + 1, hlt, by go_num, HS.out.drewN _⟩
      case measure => simp [intOf]; omega
    · go_wp2
      go_ret
      exact RetQ.mkS rfl HS.out

set_option maxRecDepth 100000 in
theorem szSampleS_c (va : Value) (xs : List (Int × Int)) (w : World) (h : RdBand w va xs) :
    Calls Tryd.prog 22 #[va, .int .i64 1048576] w (RetQ w (.int .i64 (if xs.length ≤ 1048576 then 1048576 - (xs.length : Int) else -1))) := by
  obtain ⟨a, ca, rfl, ma⟩ := h.form
  clear h
  by_cases hl : xs.length ≤ 1048576
  · rw [if_pos hl]
    go_enter Tryd.func22, Tryd.ntmps22
    go_wp2
    go_ret
    exact RetQ.mkS rfl (SameW.refl _)
  · rw [if_neg hl]
    go_enter Tryd.func22, Tryd.ntmps22
    go_wp2
    go_ret
    exact RetQ.mkS rfl (SameW.refl _)

set_option maxRecDepth 100000 in
theorem openSamples {H : Type} {enc : TypeId × Value → H} {w : World} {spare : Nat → Bool} {held : Bool} {r : Reach} {bs : Nat} {v : Value} {d : DataW H} {p : List MemPlace}
    (hv : Value.okWide Tryd.prog w r bs 38 v) (h : DataW.Trod enc Tryd.prog w 0 spare held 38 v d p) : ∃ xs, RdBand w v xs := by
  obtain ⟨n, c, hr, hq⟩ := rdM_of_trod (m := 2) Tryd.underlying38 (by kernel_rfl) (by decide) hv h isInts2
    (fun n cs x hx => ints2_of_trod Tryd.underlying67 rfl rfl (by kernel_rfl) (by kernel_rfl) (by kernel_rfl) Tryd.underlying3 Tryd.underlying3 hx)
  obtain ⟨xs, hl, hc⟩ := bandC_of hq
  subst hl
  exact ⟨xs, hr.congr hc⟩


theorem markSampleS_c (base : Nat) (va : Value) (n : Nat) (c : Nat → Nat → Value) (k : Int) (w : World) (h : OwnM 2 w base 57 va n c) (hc : ∀ i j, i < n → j < 2 → ∃ x : Int, c i j = .int .i64 x) (h0 : 0 ≤ k) (h1 : k ≤ 1152921504606846976) (hn : n ≤ 576460752303423488) :
    Calls Tryd.prog 14 #[va, .int .i64 k] w (fun e w' => e = .returned (.int .i64 (k + 2 * (n : Int))) ∧ OwnM 2 w' base 57 va n (upC k) ∧ w.grownBy w' va.ownBlock) := by
  obtain ⟨a, ca, rfl, ml⟩ := h.rd.form
  have H := Lib.hid h
  have HC := Lib.hid hc
  clear h hc
  go_enter Tryd.func14, Tryd.ntmps14
  go_wp2
  go_loopw [1, 5] (fun q i wr => ∃ (j : Nat) (d : Nat → Nat → Value), j ≤ n ∧ i = .int .i64 j ∧ q = .int .i64 (k + 2 * (j : Int)) ∧ OwnM 2 wr base 57 (.slice a n ca) n d ∧ w.grownBy wr (Value.ownBlock (.slice a n ca)) ∧ (∀ i q, i < j → q < 2 → d i q = upC k i q) ∧ ∀ i q, i < n → q < 2 → ∃ x : Int, d i q = .int .i64 x) (fun _ i _ => n - (intOf i).toNat)
  case atStart => exact ⟨0, c, Nat.zero_le _, rfl, by simp, H.out, World.grownBy.refl _ _, fun i q hi => by omega, HC.out⟩
  case round =>
    obtain ⟨j, d, hj, rfl, rfl, hown, hg, hall, hint⟩ := hrel
    have HOwn := Lib.hid hown
    have HAll := Lib.hid hall
    have HInt := Lib.hid hint
    have HG := Lib.hid hg
    clear hown hall hint hg
    by_cases hlt : j < n
    · obtain ⟨g, rfl, hgb, hgc, hgf⟩ := HOwn.out.at_ hlt
      obtain ⟨x0, e0⟩ := HInt.out j 0 hlt (by decide)
      obtain ⟨x1, e1⟩ := HInt.out j 1 hlt (by decide)
      have hg0 : wr.cell? ⟨g, j * 2, none⟩ = some (.int .i64 x0) := by rw [← e0]; exact hgc 0 (by decide)
      have hg1 : wr.cell? ⟨g, j * 2 + 1, none⟩ = some (.int .i64 x1) := by rw [← e1]; exact hgc 1 (by decide)
      have hf0 := hgf (j * 2)
      have hf1 := hgf (j * 2 + 1)
      clear hgc hgf e0 e1
      have hsum1 : IntKind.i64.wrap (k + 2 * (j : Int) + 1) = k + 2 * (j : Int) + 1 := IntWalk.i64_in _ (by omega)
      have hsum2 : IntKind.i64.wrap (k + 2 * (j : Int) + 1 + 1) = k + 2 * (j : Int) + 1 + 1 := IntWalk.i64_in _ (by omega)
      go_wp2
      go_roundw
      case rel =>
        refine ⟨j + 1, _, hlt, by go_num, intv (by omega), (HOwn.out.set1 hlt (j := 0) (by decide) _).set1 hlt (j := 1) (by decide) _, grown_set2 HG.out, ?_, ?_⟩
        · intro i q hi hq
          simp only [updC]
          have : q = 0 ∨ q = 1 := by omega
          by_cases e : i = j
          · subst e
            rcases this with rfl | rfl <;> simp [upC] <;> omega
          · rw [if_neg e, if_neg e]; exact HAll.out i q (by omega) hq
        · intro i q hi hq
          simp only [updC]
          have : q = 0 ∨ q = 1 := by omega
          by_cases e : i = j
          · subst e
            rcases this with rfl | rfl <;> simp
          · rw [if_neg e, if_neg e]; exact HInt.out i q hi hq
      case measure => simp [intOf]; omega
    · obtain rfl : j = n := by omega
      go_wp2
      go_ret
      exact ⟨rfl, HOwn.out.congr fun i q hi hq => HAll.out i q hi hq, HG.out⟩

theorem heldSampleS_c (va : Value) (n : Nat) (k : Int) (w : World) (h : RdM 2 w va n (upC k)) (h0 : 0 ≤ k) (h1 : k ≤ 1152921504606846976) (hn : n ≤ 576460752303423488) :
    Calls Tryd.prog 15 #[va, .int .i64 k] w (RetQ w (.int .i64 (k + 2 * (n : Int)))) := by
  obtain ⟨a, ca, rfl, ml⟩ := h.form
  have H := Lib.hid h
  clear h
  go_enter Tryd.func15, Tryd.ntmps15
  go_wp2
  go_loopw [1, 5] (fun q i wr => ∃ j : Nat, j ≤ n ∧ i = .int .i64 j ∧ q = .int .i64 (k + 2 * (j : Int)) ∧ SameW w wr) (fun _ i _ => n - (intOf i).toNat)
  case atStart => exact ⟨0, Nat.zero_le _, rfl, by simp, SameW.refl _⟩
  case round =>
    obtain ⟨j, hj, rfl, rfl, hsame⟩ := hrel
    have HS := Lib.hid hsame
    clear hsame
    by_cases hlt : j < n
    · obtain ⟨b, off, rfl, hc⟩ := (H.out.below (by decide) HS.out.below).at_ hlt
      have hc0 : wr.cell? ⟨b, off + j * 2, none⟩ = some (.int .i64 (k + 2 * (j : Int))) := (hc 0 (by decide)).trans (by simp [upC])
      have hc1 : wr.cell? ⟨b, off + j * 2 + 1, none⟩ = some (.int .i64 (k + 2 * (j : Int) + 1)) := (hc 1 (by decide)).trans (by simp [upC])
      clear hc
      have hsum1 : IntKind.i64.wrap (k + 2 * (j : Int) + 1) = k + 2 * (j : Int) + 1 := IntWalk.i64_in _ (by omega)
      have hsum2 : IntKind.i64.wrap (k + 2 * (j : Int) + 1 + 1) = k + 2 * (j : Int) + 1 + 1 := IntWalk.i64_in _ (by omega)
      have hb1 : (k + 2 * (j : Int) != k + 2 * (j : Int)) = false := bne_self_eq_false _
      have hb2 : (k + 2 * (j : Int) + 1 != k + 2 * (j : Int) + 1) = false := bne_self_eq_false _
      go_wp2
      go_roundw
      case rel => exact ⟨j + 1, hlt, by go_num, intv (by omega), HS.out⟩
      case measure => simp [intOf]; omega
    · obtain rfl : j = n := by omega
      go_wp2
      go_ret
      exact RetQ.mkS rfl HS.out

end Go.Proofs.YtpcmfmkpgidgpaaDoor
