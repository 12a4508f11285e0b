import Derived.Test.YthgfkfimkaiknaaProg
import Derived.Test.YthgfkfimkaiknaaLib
namespace Go.Proofs.Ythgfkfimkaiknaa
open Go.RowKit

theorem info_int : (Try.prog.info? 3).map (fun i => (i.zero, i.size, i.bytes)) = some (some (.int .i64 0), 1, 8) := by kernel_rfl

/-- toIntS: a copy. -/
theorem toIntS_c (va : Value) (xs : List Int) (w : World) (h : RdI w va xs) (hs : xs.length ≤ 17592186044416) :
    Calls Try.prog 15 #[va] w (Ret w fun v w' => OwnI w' w.heap.size 3 v xs) := by
  obtain ⟨a, ca, rfl, ml⟩ := h.form
  have H := Lib.hid h
  clear h
  go_enter Try.func15, Try.ntmps15
  go_wp2_with (at_make; refine wp_makeK rfl rfl .i64 w.heap.size 3 8 Try.underlying30 info_int xs.length rfl rfl rfl rfl (by omega) (by unfold maxLen; omega) (Nat.le_refl _) ?_; intro w1 hown hg hsz)
  have HO := Lib.hid hown
  clear hown
  go_loopw [4] (fun i wr => ∃ k : Nat, ∃ ys : List Int, k ≤ xs.length ∧ i = .int .i64 k ∧ OwnI wr w.heap.size 3 (.slice (some ⟨w.heap.size, 0, none⟩) xs.length xs.length) ys ∧ Below w.heap.size w wr ∧ ∀ j, j < k → gi ys j = gi xs j) (fun i _ => xs.length - (intOf i).toNat)
  case atStart => exact ⟨0, _, Nat.zero_le _, rfl, HO.out, (Below.refl _ _).grown hg (Nat.le_refl _) (fun k h => by cases h), fun j h => absurd h (Nat.not_lt_zero _)⟩
  case round =>
    obtain ⟨k, ys, hk, rfl, hown, hb, hall⟩ := hrel
    have HOwn := Lib.hid hown
    have HAll := Lib.hid hall
    have HB := Lib.hid hb
    clear hown hall hb
    by_cases hlt : k < xs.length
    · obtain ⟨b, off, rfl, hc⟩ := (H.out.below HB.out).at_ hlt
      obtain ⟨g, hge, hg1, hg2, hgc, hgf⟩ := HOwn.out.at_ hlt
      simp only [Option.some.injEq, Addr.mk.injEq] at hge
      obtain ⟨rfl, _, _⟩ := hge
      go_wp2
      go_roundw
      case rel =>
        refine ⟨k + 1, _, hlt, by go_num, HOwn.out.set hlt _, HB.out.setCell (Nat.le_refl _) _, ?_⟩
        intro j hj
        rw [gi_set (by rw [← HOwn.out.size]; exact hlt)]
        split
        · next e => rw [e]
        · exact HAll.out j (by omega)
      case measure => simp [intOf]; omega
    · go_wp2
      go_ret
      refine Ret.mk1 ?_ HB.out
      have : ys = xs := gi_ext (HOwn.out.size).symm (fun i hi => HAll.out i (by have := HOwn.out.size; omega))
      rw [← this]
      simpa [this] using HOwn.out

/-- eqIntS: equal lists. -/
theorem eqIntS_c (va vb : Value) (xs ys : List Int) (w : World) (ha : RdI w va xs) (hb : RdI w vb ys) :
    Calls Try.prog 17 #[va, vb] w (RetQ w (.bool (decide (xs = ys)))) := by
  obtain ⟨a, ca, rfl, ma⟩ := ha.form
  obtain ⟨b, cb, rfl, mb⟩ := hb.form
  have HA := Lib.hid ha
  have HB := Lib.hid hb
  clear ha hb
  by_cases hl : xs.length = ys.length
  · have hl0 : ((xs.length : Int) != (ys.length : Int)) = false := by simp [hl]
    have HL := Lib.hid hl
    clear hl
    go_enter Try.func17, Try.ntmps17
    go_wp2
    go_loopw [5] (fun i wr => ∃ k : Nat, k ≤ xs.length ∧ i = .int .i64 k ∧ (∃ n, wr = w.drewN n) ∧ ∀ j, j < k → gi xs j = gi ys j) (fun i _ => xs.length - (intOf i).toNat)
    case atStart => exact ⟨0, Nat.zero_le _, rfl, ⟨0, rfl⟩, fun j h => absurd h (Nat.not_lt_zero _)⟩
    case round =>
      obtain ⟨k, hk, rfl, ⟨n, rfl⟩, hall⟩ := hrel
      have HAll := Lib.hid hall
      clear hall
      by_cases hlt : k < xs.length
      · obtain ⟨ba, oa, rfl, hca⟩ := HA.out.at_ hlt
        have hltb : k < ys.length := HL.out ▸ hlt
        obtain ⟨bb, ob, rfl, hcb⟩ := HB.out.at_ hltb
        go_wp2
        go_quiet (fail)
        go_wp2
        · go_ret
          refine RetQ.mk1 ?_ ⟨_, drewN_add _ _ _⟩
          have he : (gi xs k != gi ys k) = true := by assumption
          have : xs ≠ ys := by rintro rfl; simp at he
          simp [this]
        · have he : (gi xs k != gi ys k) = false := by assumption
          go_roundw
          case rel =>
            refine ⟨k + 1, hlt, by go_num, ⟨_, rfl⟩, ?_⟩
            intro j hj
            rcases Nat.lt_succ_iff_lt_or_eq.1 hj with h | rfl
            · exact HAll.out j h
            · simpa using he
          case measure => simp [intOf]; omega
      · go_wp2
        go_ret
        refine RetQ.mk1 ?_ ⟨_, rfl⟩
        have : xs = ys := gi_ext HL.out (fun i hi => HAll.out i (by omega))
        simp [this]
  · have hl0 : ((xs.length : Int) != (ys.length : Int)) = true := by simp; omega
    have HN : Hid (xs ≠ ys) := Lib.hid (by rintro rfl; exact hl rfl)
    clear hl
    go_enter Try.func17, Try.ntmps17
    go_wp2
    go_ret
    exact RetQ.mk0 (by have := HN.out; simp [this])

end Go.Proofs.Ythgfkfimkaiknaa
