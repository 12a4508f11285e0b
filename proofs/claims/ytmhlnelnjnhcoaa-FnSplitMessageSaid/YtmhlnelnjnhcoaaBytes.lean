import Derived.Test.YtmhlnelnjnhcoaaProg
import Derived.Test.YtmhlnelnjnhcoaaLib
import Derived.Test.YtmhlnelnjnhcoaaInts
namespace Go.Proofs.Ytmhlnelnjnhcoaa
open Go.RowKit

theorem info_byte : (Try.prog.info? 5).map (fun i => (i.zero, i.size, i.bytes)) = some (some (.int .u8 0), 1, 1) := by kernel_rfl

/-- toByteS: a copy. -/
theorem toByteS_c (va : Value) (xs : List Int) (w : World) (h : RdB w va xs) (hs : xs.length ≤ 17592186044416) :
    Calls Try.prog 10 #[va] w (Ret w fun v w' => OwnB w' w.heap.size 5 v xs) := by
  obtain ⟨a, ca, rfl, ml⟩ := h.form
  have H := Lib.hid h
  clear h
  go_enter Try.func10, Try.ntmps10
  go_wp2_with (at_make; refine wp_makeK rfl rfl .u8 w.heap.size 5 1 Try.underlying22 info_byte xs.length rfl rfl rfl rfl (by omega) (by unfold maxLen; omega) (Nat.le_refl _) ?_; intro w1 hown hg hsz)
  have HO := Lib.hid hown
  clear hown
  go_loopw [4] (fun i wr => ∃ k : Nat, ∃ ys : List Int, k ≤ xs.length ∧ i = .int .i64 k ∧ OwnB wr w.heap.size 5 (.slice (some ⟨w.heap.size, 0, none⟩) xs.length xs.length) ys ∧ Below w.heap.size w wr ∧ ∀ j, j < k → gi ys j = gi xs j) (fun i _ => xs.length - (intOf i).toNat)
  case atStart => exact ⟨0, _, Nat.zero_le _, rfl, HO.out, (Below.refl _ _).grown hg (Nat.le_refl _) (fun k h => by cases h), fun j h => absurd h (Nat.not_lt_zero _)⟩
  case round =>
    obtain ⟨k, ys, hk, rfl, hown, hb, hall⟩ := hrel
    have HOwn := Lib.hid hown
    have HAll := Lib.hid hall
    have HB := Lib.hid hb
    clear hown hall hb
    by_cases hlt : k < xs.length
    · obtain ⟨b, off, rfl, hc⟩ := (H.out.below HB.out).at_ hlt
      obtain ⟨g, hge, hg1, hg2, hgc, hgf⟩ := HOwn.out.at_ hlt
      simp only [Option.some.injEq, Addr.mk.injEq] at hge
      obtain ⟨rfl, _, _⟩ := hge
      go_wp2
      go_roundw
      case rel =>
        refine ⟨k + 1, _, hlt, by go_num, HOwn.out.set hlt _, HB.out.setCell (Nat.le_refl _) _, ?_⟩
        intro j hj
        rw [gi_set (by rw [← HOwn.out.size]; exact hlt)]
        split
        · next e => rw [e]
        · exact HAll.out j (by omega)
      case measure => simp [intOf]; omega
    · go_wp2
      go_ret
      refine Ret.mk1 ?_ HB.out
      have : ys = xs := gi_ext (HOwn.out.size).symm (fun i hi => HAll.out i (by have := HOwn.out.size; omega))
      rw [← this]
      simpa [this] using HOwn.out

/-- eqByteS: equal lists. -/
theorem eqByteS_c (va vb : Value) (xs ys : List Int) (w : World) (ha : RdB w va xs) (hb : RdB w vb ys) :
    Calls Try.prog 13 #[va, vb] w (RetQ w (.bool (decide (xs = ys)))) := by
  obtain ⟨a, ca, rfl, ma⟩ := ha.form
  obtain ⟨b, cb, rfl, mb⟩ := hb.form
  have HA := Lib.hid ha
  have HB := Lib.hid hb
  clear ha hb
  by_cases hl : xs.length = ys.length
  · have hl0 : ((xs.length : Int) != (ys.length : Int)) = false := by simp [hl]
    have HL := Lib.hid hl
    clear hl
    go_enter Try.func13, Try.ntmps13
    go_wp2
    go_loopw [5] (fun i wr => ∃ k : Nat, k ≤ xs.length ∧ i = .int .i64 k ∧ (∃ n, wr = w.drewN n) ∧ ∀ j, j < k → gi xs j = gi ys j) (fun i _ => xs.length - (intOf i).toNat)
    case atStart => exact ⟨0, Nat.zero_le _, rfl, ⟨0, rfl⟩, fun j h => absurd h (Nat.not_lt_zero _)⟩
    case round =>
      obtain ⟨k, hk, rfl, ⟨n, rfl⟩, hall⟩ := hrel
      have HAll := Lib.hid hall
      clear hall
      by_cases hlt : k < xs.length
      · obtain ⟨ba, oa, rfl, hca⟩ := HA.out.at_ hlt
        have hltb : k < ys.length := HL.out ▸ hlt
        obtain ⟨bb, ob, rfl, hcb⟩ := HB.out.at_ hltb
        go_wp2
        go_quiet (fail)
        go_wp2
        · go_ret
          refine RetQ.mk1 ?_ ⟨_, drewN_add _ _ _⟩
          have he : (gi xs k != gi ys k) = true := by assumption
          have : xs ≠ ys := by rintro rfl; simp at he
          simp [this]
        · have he : (gi xs k != gi ys k) = false := by assumption
          go_roundw
          case rel =>
            refine ⟨k + 1, hlt, by go_num, ⟨_, rfl⟩, ?_⟩
            intro j hj
            rcases Nat.lt_succ_iff_lt_or_eq.1 hj with h | rfl
            · exact HAll.out j h
            · simpa using he
          case measure => simp [intOf]; omega
      · go_wp2
        go_ret
        refine RetQ.mk1 ?_ ⟨_, rfl⟩
        have : xs = ys := gi_ext HL.out (fun i hi => HAll.out i (by omega))
        simp [this]
  · have hl0 : ((xs.length : Int) != (ys.length : Int)) = true := by simp; omega
    have HN : Hid (xs ≠ ys) := Lib.hid (by rintro rfl; exact hl rfl)
    clear hl
    go_enter Try.func13, Try.ntmps13
    go_wp2
    go_ret
    exact RetQ.mk0 (by have := HN.out; simp [this])

/-- numbers from k on -/
def upFromB (k : Int) (n : Nat) : List Int := (List.range n).map fun (i : Nat) => (k + (i : Int)) % 256
theorem gi_upFromB {k : Int} {n i : Nat} (h : i < n) : gi (upFromB k n) i = (k + i) % 256 := by simp [gi, upFromB, h]
theorem length_upFromB (k : Int) (n : Nat) : (upFromB k n).length = n := by simp [upFromB]

/-- markByteS writes numbers from k on into a list that is its own. -/
theorem markByteS_c (base : Nat) (va : Value) (xs : List Int) (k : Int) (w : World) (h : OwnB w base 5 va xs) (h0 : 0 ≤ k) (h1 : k ≤ 1152921504606846976) (hs : xs.length ≤ 1152921504606846976) :
    Calls Try.prog 14 #[va, .int .i64 k] w (fun e w' => e = .returned (.int .i64 (k + (xs.length : Int))) ∧ OwnB w' base 5 va (upFromB k xs.length) ∧ w.grownBy w' va.ownBlock) := by
  obtain ⟨a, ca, rfl, ml⟩ := h.rd.form
  have H := Lib.hid h
  clear h
  go_enter Try.func14, Try.ntmps14
  go_wp2
  go_loopw [1, 5] (fun kk i wr => ∃ q : Nat, ∃ ys : List Int, q ≤ xs.length ∧ i = .int .i64 q ∧ kk = .int .i64 (k + (q : Int)) ∧ OwnB wr base 5 (.slice a xs.length ca) ys ∧ w.grownBy wr (Value.slice a xs.length ca).ownBlock ∧ ∀ j, j < q → gi ys j = (k + (j : Int)) % 256) (fun _ i _ => xs.length - (intOf i).toNat)
  case atStart => exact ⟨0, xs, Nat.zero_le _, rfl, by simp, H.out, World.grownBy.refl _ _, fun j h => absurd h (Nat.not_lt_zero _)⟩
  case round =>
    obtain ⟨q, ys, hq, rfl, rfl, hown, hg, hall⟩ := hrel
    have HOwn := Lib.hid hown
    have HAll := Lib.hid hall
    have HG := Lib.hid hg
    clear hown hall hg
    by_cases hlt : q < xs.length
    · obtain ⟨g, rfl, hg0, hg1, hgc, hgf⟩ := HOwn.out.at_ hlt
      go_wp2
      go_roundw
      case rel =>
        refine ⟨q + 1, _, hlt, by go_num, intv (by omega), HOwn.out.set hlt _, ?_, ?_⟩
        · exact ⟨HG.out.os, HG.out.tape, HG.out.output, by have := HG.out.size; simpa [World.setCell] using this, fun b hb hne => by
            rw [Below.heap_setCell _ _ _ _ (fun e => hne (by simp [Value.ownBlock, e]))]
            exact HG.out.block b hb hne⟩
        · intro j hj
          rw [gi_set (by rw [← HOwn.out.size]; exact hlt)]
          split
          · next e => rw [e]
          · exact HAll.out j (by omega)
      case measure => simp [intOf]; omega
    · go_wp2
      go_ret
      have hl := HOwn.out.size
      obtain rfl : q = xs.length := by omega
      refine ⟨rfl, ?_, HG.out⟩
      have : ys = upFromB k xs.length := gi_ext (by rw [length_upFromB]; exact hl.symm) (fun i hi => by rw [HAll.out i (by omega), gi_upFromB (by omega)])
      rw [← this]; exact HOwn.out

/-- heldByteS: does the list hold the numbers from k on? -/
theorem heldByteS_c (va : Value) (n : Nat) (k : Int) (w : World) (h : RdB w va (upFromB k n)) (h0 : 0 ≤ k) (h1 : k ≤ 1152921504606846976) (hs : n ≤ 1152921504606846976) :
    Calls Try.prog 24 #[va, .int .i64 k] w (RetQ w (.int .i64 (k + (n : Int)))) := by
  obtain ⟨a, ca, rfl, ml⟩ := h.form
  rw [length_upFromB] at *
  have H := Lib.hid h
  clear h
  go_enter Try.func24, Try.ntmps24
  go_wp2
  go_loopw [1, 5] (fun kk i wr => ∃ q : Nat, q ≤ n ∧ i = .int .i64 q ∧ kk = .int .i64 (k + (q : Int)) ∧ SameW w wr) (fun _ i _ => n - (intOf i).toNat)
  case atStart => exact ⟨0, Nat.zero_le _, rfl, by simp, SameW.refl _⟩
  case round =>
    obtain ⟨q, hq, rfl, rfl, hsame⟩ := hrel
    have HS := Lib.hid hsame
    clear hsame
    by_cases hlt : q < n
    · obtain ⟨b, off, rfl, hc⟩ := (H.out.below HS.out.below).at_ hlt
      rw [gi_upFromB hlt] at hc
      have hcmp : ((k + (q : Int)) % 256 != (k + (q : Int)) % 256) = false := bne_self_eq_false _
      go_wp2
      go_roundw
      case rel => exact ⟨q + 1, hlt, by go_num, intv (by omega), HS.out⟩
      case measure => simp [intOf]; omega
    · obtain rfl : q = n := by omega
      go_wp2
      go_ret
      exact RetQ.mkS rfl HS.out


theorem szByteS_c (va : Value) (xs : List Int) (l : Int) (w : World) (h : RdB w va xs) (h0 : 0 ≤ l) (h1 : l ≤ 1048576) :
    Calls Try.prog 45 #[va, .int .i64 l] w (RetQ w (.int .i64 (if (xs.length : Int) ≤ l then l - xs.length else -1))) := by
  obtain ⟨a, ca, rfl, ma⟩ := h.form
  clear h
  by_cases hl : (xs.length : Int) ≤ l
  · rw [if_pos hl]
    go_enter Try.func45, Try.ntmps45
    go_wp2
    go_ret
    exact RetQ.mkS rfl (SameW.refl _)
  · rw [if_neg hl]
    go_enter Try.func45, Try.ntmps45
    go_wp2
    go_ret
    exact RetQ.mkS rfl (SameW.refl _)
end Go.Proofs.Ytmhlnelnjnhcoaa
