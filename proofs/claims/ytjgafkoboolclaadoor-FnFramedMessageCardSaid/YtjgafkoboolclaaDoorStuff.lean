import Derived.Test.YtjgafkoboolclaaDoorProg
import Derived.Test.YtjgafkoboolclaaDoorLib
import Derived.Test.YtjgafkoboolclaaDoorMem
import Derived.Test.YtjgafkoboolclaaDoorNum
import Derived.Test.YtjgafkoboolclaaDoorSym
import Derived.Test.YtjgafkoboolclaaDoorInts
import Derived.Test.YtjgafkoboolclaaDoorBlk
namespace Go.Proofs.YtjgafkoboolclaaDoor
open Go.RowKit

/-! Bits that are stuffed. -/
/-- what k bits come to, and how many 1 stand at the end -/
def stS (bs : List Int) : Nat → List Int × Nat
  | 0 => ([], 0)
  | k + 1 => if gi bs k = 0 then ((stS bs k).1 ++ [gi bs k], 0) else if (stS bs k).2 + 1 < 5 then ((stS bs k).1 ++ [gi bs k], (stS bs k).2 + 1) else ((stS bs k).1 ++ [gi bs k] ++ [0], 0)
theorem stS_0 {bs : List Int} {k : Nat} (h : gi bs k = 0) : stS bs (k + 1) = ((stS bs k).1 ++ [0], 0) := by simp only [stS]; rw [if_pos h, h]
theorem stS_1 {bs : List Int} {k : Nat} (h : gi bs k = 1) (h2 : (stS bs k).2 + 1 < 5) : stS bs (k + 1) = ((stS bs k).1 ++ [1], (stS bs k).2 + 1) := by simp only [stS]; rw [if_neg (by omega), if_pos h2, h]
theorem stS_5 {bs : List Int} {k : Nat} (h : gi bs k = 1) (h2 : ¬ (stS bs k).2 + 1 < 5) : stS bs (k + 1) = ((stS bs k).1 ++ [1] ++ [0], 0) := by simp only [stS]; rw [if_neg (by omega), if_neg h2, h]
theorem stS_bd (bs : List Int) : ∀ k, (stS bs k).2 ≤ 4 ∧ 5 * (stS bs k).1.length + (stS bs k).2 ≤ 6 * k
  | 0 => by simp [stS]
  | k + 1 => by
    have ih := stS_bd bs k
    simp only [stS]
    split
    · simp; omega
    · split
      · simp; omega
      · simp; omega
/-- StuffBits -/
def stV (bs : List Int) : List Int := if bitsB bs && decide (bs.length ≤ 512) then (stS bs bs.length).1 else []
theorem stV_bad {bs : List Int} (h : bitsB bs = false) : stV bs = [] := by simp [stV, h]
theorem stV_long {bs : List Int} (h : 512 < bs.length) : stV bs = [] := by
  have : ¬ bs.length ≤ 512 := by omega
  simp [stV, this]
theorem stV_ok {bs : List Int} (h : bitsB bs = true) (h2 : bs.length ≤ 512) : stV bs = (stS bs bs.length).1 := by simp [stV, h, h2]
theorem stV_len (bs : List Int) : (stV bs).length ≤ 1024 := by
  unfold stV
  split
  · next h =>
    simp only [Bool.and_eq_true, decide_eq_true_eq] at h
    have := (stS_bd bs bs.length).2
    omega
  · simp

/-- UnstuffBits: what k bits come to, and how many 1 stand at the end -/
def unS (bs : List Int) : Nat → Option (List Int × Nat)
  | 0 => some ([], 0)
  | k + 1 => match unS bs k with
    | none => none
    | some (out, o) => if o = 5 then (if gi bs k = 0 then some (out, 0) else none) else if gi bs k = 0 then some (out ++ [0], 0) else if gi bs k = 1 then some (out ++ [1], o + 1) else none
theorem unS_skip {bs : List Int} {k : Nat} {out : List Int} (h : unS bs k = some (out, 5)) (hb : gi bs k = 0) : unS bs (k + 1) = some (out, 0) := by simp [unS, h, hb]
theorem unS_full {bs : List Int} {k : Nat} {out : List Int} (h : unS bs k = some (out, 5)) (hb : gi bs k ≠ 0) : unS bs (k + 1) = none := by simp [unS, h, hb]
theorem unS_0 {bs : List Int} {k o : Nat} {out : List Int} (h : unS bs k = some (out, o)) (ho : o ≠ 5) (hb : gi bs k = 0) : unS bs (k + 1) = some (out ++ [0], 0) := by simp [unS, h, ho, hb]
theorem unS_1 {bs : List Int} {k o : Nat} {out : List Int} (h : unS bs k = some (out, o)) (ho : o ≠ 5) (hb : gi bs k = 1) : unS bs (k + 1) = some (out ++ [1], o + 1) := by simp [unS, h, ho, hb]
theorem unS_bad {bs : List Int} {k o : Nat} {out : List Int} (h : unS bs k = some (out, o)) (hb : gi bs k ≠ 0) (hb1 : gi bs k ≠ 1) : unS bs (k + 1) = none := by
  by_cases ho : o = 5 <;> simp [unS, h, ho, hb, hb1]
theorem unS_none {bs : List Int} {k : Nat} (h : unS bs k = none) : ∀ d, unS bs (k + d) = none
  | 0 => h
  | d + 1 => by rw [← Nat.add_assoc]; simp only [unS, unS_none h d]
theorem unS_bd {bs : List Int} : ∀ {k : Nat} {out : List Int} {o : Nat}, unS bs k = some (out, o) → o ≤ 5 ∧ out.length ≤ k ∧ 5 * k + o ≤ 6 * out.length
  | 0, out, o, h => by simp [unS] at h; obtain ⟨rfl, rfl⟩ := h; simp
  | k + 1, out, o, h => by
    cases hk : unS bs k with
    | none => simp [unS, hk] at h
    | some q =>
      obtain ⟨out', o'⟩ := q
      have ih := unS_bd hk
      simp only [unS, hk] at h
      split at h
      · next e =>
        split at h
        · simp at h; obtain ⟨rfl, rfl⟩ := h; omega
        · cases h
      · split at h
        · simp at h; obtain ⟨rfl, rfl⟩ := h; simp; omega
        · split at h
          · simp at h; obtain ⟨rfl, rfl⟩ := h; simp; omega
          · cases h
/-- UnstuffBits -/
def unR (bs : List Int) : List Int × Bool := match unS bs bs.length with
  | some (out, o) => if o = 5 ∨ 512 < out.length then ([], false) else (out, true)
  | none => ([], false)
theorem unR_none {bs : List Int} {k : Nat} (h : unS bs k = none) (hk : k ≤ bs.length) : unR bs = ([], false) := by
  have := unS_none h (bs.length - k)
  rw [Nat.add_sub_cancel' hk] at this
  simp [unR, this]
theorem unR_bad {bs : List Int} {out : List Int} {o : Nat} (h : unS bs bs.length = some (out, o)) (h2 : o = 5 ∨ 512 < out.length) : unR bs = ([], false) := by simp [unR, h, h2]
theorem unR_ok {bs : List Int} {out : List Int} {o : Nat} (h : unS bs bs.length = some (out, o)) (h2 : o ≠ 5) (h3 : out.length ≤ 512) : unR bs = (out, true) := by
  have : ¬ (o = 5 ∨ 512 < out.length) := by omega
  simp [unR, h, this]
theorem unR_len (bs : List Int) : (unR bs).1.length ≤ 512 := by
  unfold unR
  split
  · split <;> simp; omega
  · simp
theorem unR_bits {bs : List Int} (h : bitsB bs = false) : unR bs = ([], false) := by
  cases hu : unS bs bs.length with
  | none => exact unR_none hu (Nat.le_refl _)
  | some q =>
    obtain ⟨out, o⟩ := q
    have hbd := unS_bd hu
    rcases Nat.lt_or_ge 1024 bs.length with hl | hl
    · exact unR_bad hu (.inr (by omega))
    · exfalso
      have hall : ∀ i, i < bs.length → gi bs i = 0 ∨ gi bs i = 1 := by
        intro i hi
        by_cases h0 : gi bs i = 0
        · exact .inl h0
        by_cases h1 : gi bs i = 1
        · exact .inr h1
        exfalso
        have hn : unS bs (i + 1) = none := by
          cases hk : unS bs i with
          | none => simp only [unS, hk]
          | some q => obtain ⟨a, b⟩ := q; exact unS_bad hk h0 h1
        have := unS_none hn (bs.length - (i + 1))
        rw [Nat.add_sub_cancel' hi] at this
        rw [this] at hu; cases hu
      have : bitsB bs = true := bitsB_true.2 ⟨hl, hall⟩
      rw [h] at this; cases this

theorem specBitsValid_c (va : Value) (xs : List Int) (w : World) (h : RdI w va xs) :
    Calls Tryd.prog 27 #[va] w (RetQ w (.bool (bitsB xs))) := by
  obtain ⟨a, ca, rfl, ml⟩ := h.form
  have H := Lib.hid h
  clear h
  go_enter Tryd.func27, Tryd.ntmps27
  go_wp2
  go_loopw [3] (fun i wr => ∃ k : Nat, k ≤ xs.length ∧ i = .int .i64 k ∧ SameW w wr ∧ Hid (∀ i, i < k → gi xs i = 0 ∨ gi xs i = 1)) (fun i _ => xs.length - (intOf i).toNat)
  case atStart => exact ⟨0, Nat.zero_le _, rfl, SameW.refl _, Lib.hid (fun i h => absurd h (Nat.not_lt_zero _))⟩
  case round =>
    obtain ⟨k, hk, rfl, hsame, HX⟩ := hrel
    have HS := Lib.hid hsame
    clear hsame
    by_cases hlt : k < xs.length
    · obtain ⟨b, off, rfl, hc⟩ := (H.out.below HS.out.below).at_ hlt
      go_wp2_with fail
      refine (l1In_c (gi xs k) 0 1 _).mono ?_
      rintro e w1 hr
      obtain ⟨rfl, hs1⟩ := hr.same
      have HS1 := Lib.hid (HS.out.trans hs1)
      clear hs1 hr hc
      cases hin : inB (gi xs k) 0 1
      · have hbad := inB_false.1 hin
        go_wp2
        go_ret
        exact RetQ.mkS (boolv (bitsB_bad hlt (by omega) (by omega)).symm) HS1.out
      · have hok := inB_true.1 hin
        go_wp2
        go_roundw
        case rel =>
          refine ⟨k + 1, hlt, by go_num, HS1.out, Lib.hid ?_⟩
          intro i hi
          rcases Nat.lt_succ_iff_lt_or_eq.1 hi with h1 | rfl
          · exact HX.out i h1
          · omega
        case measure => simp [intOf]; omega
    · obtain rfl : k = xs.length := by omega
      have HF : Hid (bitsB xs = decide ((xs.length : Int) ≤ 1024)) := by
        unfold Hid
        by_cases h : xs.length ≤ 1024
        · rw [bitsB_true.2 ⟨h, HX.out⟩]; simp; omega
        · have : bitsB xs = false := by
            cases hb : bitsB xs
            · rfl
            · exact absurd (bitsB_true.1 hb).1 h
          rw [this]; simp; omega
      go_wp2
      go_ret
      exact RetQ.mkS (boolv HF.out.symm) HS.out

/-- the counter of the bits 1 -/
theorem full_s (g o : Nat) (b : Int) (w : World) {row : Option Nat} {w0 : World} {I : List Part} (hs : SH row w0 w (blkP g #[.int .i64 o] 66 :: I)) (ho : o ≤ 4) (hb : b = 0 ∨ b = 1) :
    Calls Tryd.prog 51 #[.pointer (some ⟨g, 0, none⟩), .int .i64 b] w (fun e w' => e = .returned (.bool (b == 1 && o == 4)) ∧ SH row w0 w' (blkP g #[.int .i64 (if b = 0 then 0 else if o + 1 < 5 then ((o + 1 : Nat) : Int) else 0)] 66 :: I)) := by
  have hb0 : w.heap[g]? = _ := hs.p0
  have c0 := blk_cell hb0 0
  have f0 := blk_frozen hb0 0
  clear hb0
  rcases hb with rfl | rfl
  · go_enter Tryd.func51, Tryd.ntmps51
    go_wp2
    go_ret
    exact ⟨rfl, hs.setBlk 0 _⟩
  · by_cases h4 : o + 1 < 5
    · have h4' : (o == 4) = false := by simp; omega
      have h4i : (o : Int) + 1 < 5 := by omega
      go_enter Tryd.func51, Tryd.ntmps51
      go_wp2
      go_ret
      refine ⟨by simp [h4'], ?_⟩
      have := hs.setBlk 0 (.int .i64 ((o : Int) + 1))
      simpa [h4] using this
    · obtain rfl : o = 4 := by omega
      go_enter Tryd.func51, Tryd.ntmps51
      go_wp2
      go_ret
      refine ⟨rfl, ?_⟩
      have := (hs.setBlk 0 (.int .i64 5)).setBlk 0 (.int .i64 0)
      simpa using this

set_option maxRecDepth 100000 in
set_option maxHeartbeats 4000000 in
theorem implStuffBits_c (va : Value) (bs : List Int) (w : World) (h : RdI w va bs) :
    Calls Tryd.prog 32 #[va] w (Ret w fun v w' => OwnI w' w.heap.size 3 v (stV bs)) := by
  obtain ⟨a, ca, rfl, ma⟩ := h.form
  have hs := SH.start w [rdP .i64 (.slice a bs.length ca) bs] (by simp only [List.forall_mem_cons]; exact ⟨⟨h, rdP_wr⟩, by simp⟩)
  clear h
  go_enter Tryd.func32, Tryd.ntmps32
  go_wp2_with fail
  refine (SH.quiet hs (Below.refl _ _) fun hs => implBitsValid_c _ bs _ hs.p0).mono ?_
  rintro e w1 ⟨rfl, hs⟩
  cases hbv : bitsB bs
  · go_wp2
    go_ret
    exact Ret.mk1 (by rw [stV_bad hbv]; exact OwnK.nil _ _ _ _) hs.done
  by_cases hl : 512 < bs.length
  · go_wp2
    go_ret
    exact Ret.mk1 (by rw [stV_long hl]; exact OwnK.nil _ _ _ _) hs.done
  have HB := Lib.hid (bitsB_true.1 hbv).2
  have HBV := Lib.hid hbv
  clear hbv
  have hq : (bs.length : Int) + (bs.length : Int) / 5 = ((bs.length + bs.length / 5 : Nat) : Int) := by omega
  have HQ := Lib.hid hq
  clear hq
  go_wp2_with (at_make; refine wp_make0K rfl rfl .i64 w1.heap.size 3 8 Tryd.underlying22 info_int (bs.length + bs.length / 5) rfl rfl HQ.out (by omega) (by unfold maxLen; omega) (Nat.le_refl _) ?_; intro w2 hown hg hsz)
  have hs := (hs.pushOwn (below_of_grown hg) hown).allocP #[.int .i64 0] 66
  clear hown hg hsz HQ
  generalize hG : w2.heap.size = G at *
  go_loopw [3, 6, 24] (fun o _ i wr => ∃ (k : Nat) (out : List Int) (q : Nat), k ≤ bs.length ∧ i = .int .i64 k ∧ Hid (stS bs k = (out, q)) ∧ SH none w wr [blkP G #[.int .i64 q] 66, ownP .i64 3 o out, rdP .i64 (.slice a bs.length ca) bs]) (fun _ _ i _ => bs.length - (intOf i).toNat)
  case atStart => exact ⟨0, [], 0, Nat.zero_le _, rfl, Lib.hid rfl, hs⟩
  case round =>
    obtain ⟨k, out, q, hk, rfl, HS, hs⟩ := hrel
    have hbd := stS_bd bs k
    rw [HS.out] at hbd
    obtain ⟨q4, hlen⟩ := hbd
    simp only at q4 hlen
    by_cases hlt : k < bs.length
    · obtain ⟨b, off, rfl, hc⟩ := hs.p2.at_ hlt
      have hbit := HB.out k hlt
      obtain ⟨x, hx⟩ : ∃ x, gi bs k = x := ⟨_, rfl⟩
      have HX := Lib.hid hx
      rw [hx] at hc hbit
      clear hx
      go_wp2_with (at_builtin; refine wp_app1S rfl rfl .i64 3 8 Tryd.underlying22 info_int x rfl (hs.bring1.alloc _) rfl (World.cell?_alloc_at _ _ _ _ rfl) (by omega) (by unfold maxLen; omega) ?_; intro v3 w3 hs)
      refine (full_s G q x _ hs.bring1 q4 hbit).mono ?_
      rintro e w4 ⟨rfl, hs⟩
      clear hc
      rcases hbit with rfl | rfl
      · have e := stS_0 HX.out
        rw [HS.out] at e
        have HE := Lib.hid e
        clear e
        go_wp2
        go_roundw
        case rel => exact ⟨k + 1, _, 0, hlt, by go_num, HE, hs⟩
        case measure => simp [intOf]; omega
      · by_cases h4 : q + 1 < 5
        · have e := stS_1 HX.out (by rw [HS.out]; exact h4)
          rw [HS.out] at e
          have HE := Lib.hid e
          have h4' : (q == 4) = false := by simp; omega
          rw [if_neg (by decide), if_pos h4] at hs
          clear e
          go_wp2
          go_roundw
          case rel => exact ⟨k + 1, _, q + 1, hlt, by go_num, HE, hs⟩
          case measure => simp [intOf]; omega
        · obtain rfl : q = 4 := by omega
          have e := stS_5 HX.out (by rw [HS.out]; exact h4)
          rw [HS.out] at e
          have HE := Lib.hid e
          rw [if_neg (by decide), if_neg (by decide)] at hs
          clear e h4
          go_wp2_with (at_builtin; refine wp_app1S rfl rfl .i64 3 8 Tryd.underlying22 info_int 0 rfl (hs.bring1.alloc _) rfl (World.cell?_alloc_at _ _ _ _ rfl) (by simp; omega) (by simp; unfold maxLen; omega) ?_; intro v5 w5 hs)
          go_wp2
          go_roundw
          case rel => exact ⟨k + 1, _, 0, hlt, by go_num, HE, hs.bring1⟩
          case measure => simp [intOf]; omega
    · obtain rfl : k = bs.length := by omega
      go_wp2
      go_ret
      exact Ret.mk1 (by rw [stV_ok HBV.out (by omega), HS.out]; exact SH.ownRet hs.drop0) hs.done

set_option maxRecDepth 100000 in
set_option maxHeartbeats 4000000 in
theorem specStuffBits_c (va : Value) (bs : List Int) (w : World) (h : RdI w va bs) :
    Calls Tryd.prog 29 #[va] w (Ret w fun v w' => OwnI w' w.heap.size 3 v (stV bs)) := by
  obtain ⟨a, ca, rfl, ma⟩ := h.form
  have hs := SH.start w [rdP .i64 (.slice a bs.length ca) bs] (by simp only [List.forall_mem_cons]; exact ⟨⟨h, rdP_wr⟩, by simp⟩)
  clear h
  go_enter Tryd.func29, Tryd.ntmps29
  go_wp2_with fail
  have hs := hs.ownEmpty .i64 3
  refine (SH.quiet hs (Below.refl _ _) fun hs => specBitsValid_c _ bs _ hs.p1).mono ?_
  rintro e w1 ⟨rfl, hs⟩
  cases hbv : bitsB bs
  · go_wp2
    go_ret
    exact Ret.mk1 (by rw [stV_bad hbv]; exact SH.ownRet hs) hs.done
  by_cases hl : 512 < bs.length
  · go_wp2
    go_ret
    exact Ret.mk1 (by rw [stV_long hl]; exact SH.ownRet hs) hs.done
  have HB := Lib.hid (bitsB_true.1 hbv).2
  have HBV := Lib.hid hbv
  clear hbv
  go_wp2
  go_loopw [3, 4, 5] (fun o n i wr => ∃ (k : Nat) (out : List Int) (q : Nat), k ≤ bs.length ∧ i = .int .i64 k ∧ n = .int .i64 q ∧ Hid (stS bs k = (out, q)) ∧ SH none w wr [ownP .i64 3 o out, rdP .i64 (.slice a bs.length ca) bs]) (fun _ _ i _ => bs.length - (intOf i).toNat)
  case atStart => exact ⟨0, [], 0, Nat.zero_le _, rfl, rfl, Lib.hid rfl, hs⟩
  case round =>
    obtain ⟨k, out, q, hk, rfl, rfl, HS, hs⟩ := hrel
    have hbd := stS_bd bs k
    rw [HS.out] at hbd
    obtain ⟨q4, hlen⟩ := hbd
    simp only at q4 hlen
    by_cases hlt : k < bs.length
    · obtain ⟨b, off, rfl, hc⟩ := hs.p1.at_ hlt
      have hbit := HB.out k hlt
      obtain ⟨x, hx⟩ : ∃ x, gi bs k = x := ⟨_, rfl⟩
      have HX := Lib.hid hx
      rw [hx] at hc hbit
      clear hx
      rcases hbit with rfl | rfl
      · have e := stS_0 HX.out
        rw [HS.out] at e
        have HE := Lib.hid e
        clear e
        go_wp2_with (at_builtin; refine wp_app1S rfl rfl .i64 3 8 Tryd.underlying22 info_int 0 rfl (hs.alloc _) rfl (World.cell?_alloc_at _ _ _ _ rfl) (by first | omega | (simp; omega)) (by unfold maxLen; first | omega | (simp; omega)) ?_; intro v3 w3 hs; clear hc; obtain ⟨bq, oq, heq, hc⟩ := hs.p1.at_ hlt; simp only [Option.some.injEq, Addr.mk.injEq, and_true] at heq; obtain ⟨rfl, rfl⟩ := heq; rw [HX.out] at hc)
        go_roundw
        case rel => exact ⟨k + 1, _, 0, hlt, by go_num, rfl, HE, hs⟩
        case measure => simp [intOf]; omega
      · by_cases h4 : q + 1 < 5
        · have e := stS_1 HX.out (by rw [HS.out]; exact h4)
          rw [HS.out] at e
          have HE := Lib.hid e
          have h4' : ((q : Int) + 1 == 5) = false := by simp; omega
          clear e
          go_wp2_with (at_builtin; refine wp_app1S rfl rfl .i64 3 8 Tryd.underlying22 info_int 1 rfl (hs.alloc _) rfl (World.cell?_alloc_at _ _ _ _ rfl) (by first | omega | (simp; omega)) (by unfold maxLen; first | omega | (simp; omega)) ?_; intro v3 w3 hs; clear hc; obtain ⟨bq, oq, heq, hc⟩ := hs.p1.at_ hlt; simp only [Option.some.injEq, Addr.mk.injEq, and_true] at heq; obtain ⟨rfl, rfl⟩ := heq; rw [HX.out] at hc)
          go_roundw
          case rel => exact ⟨k + 1, _, q + 1, hlt, by go_num, intv (by omega), HE, hs⟩
          case measure => simp [intOf]; omega
        · obtain rfl : q = 4 := by omega
          have e := stS_5 HX.out (by rw [HS.out]; exact h4)
          rw [HS.out] at e
          have HE := Lib.hid e
          clear e h4
          go_wp2_with (first | (at_builtin; refine wp_app1S rfl rfl .i64 3 8 Tryd.underlying22 info_int 1 rfl (hs.alloc _) rfl (World.cell?_alloc_at _ _ _ _ rfl) (by first | omega | (simp; omega)) (by unfold maxLen; first | omega | (simp; omega)) ?_; intro v3 w3 hs; clear hc; obtain ⟨bq, oq, heq, hc⟩ := hs.p1.at_ hlt; simp only [Option.some.injEq, Addr.mk.injEq, and_true] at heq; obtain ⟨rfl, rfl⟩ := heq; rw [HX.out] at hc) | (at_builtin; refine wp_app1S rfl rfl .i64 3 8 Tryd.underlying22 info_int 0 rfl (hs.alloc _) rfl (World.cell?_alloc_at _ _ _ _ rfl) (by first | omega | (simp; omega)) (by unfold maxLen; first | omega | (simp; omega)) ?_; intro v3 w3 hs; clear hc; obtain ⟨bq, oq, heq, hc⟩ := hs.p1.at_ hlt; simp only [Option.some.injEq, Addr.mk.injEq, and_true] at heq; obtain ⟨rfl, rfl⟩ := heq; rw [HX.out] at hc))
          go_roundw
          case rel => exact ⟨k + 1, _, 0, hlt, by go_num, rfl, HE, hs⟩
          case measure => simp [intOf]; omega
    · obtain rfl : k = bs.length := by omega
      go_wp2
      go_ret
      exact Ret.mk1 (by rw [stV_ok HBV.out (by omega), HS.out]; exact SH.ownRet hs) hs.done

set_option maxRecDepth 100000 in
set_option maxHeartbeats 4000000 in
theorem implUnstuffBits_c (va : Value) (bs : List Int) (w : World) (h : RdI w va bs) (hbig : bs.length ≤ 1048576) :
    Calls Tryd.prog 54 #[va] w (Ret w fun v w' => ∃ v', v = .tuple #[v', .bool (unR bs).2] ∧ OwnI w' w.heap.size 3 v' (unR bs).1) := by
  obtain ⟨a, ca, rfl, ma⟩ := h.form
  have hs := SH.start w [rdP .i64 (.slice a bs.length ca) bs] (by simp only [List.forall_mem_cons]; exact ⟨⟨h, rdP_wr⟩, by simp⟩)
  clear h
  go_enter Tryd.func54, Tryd.ntmps54
  go_wp2_with (at_make; refine wp_make0K rfl rfl .i64 w.heap.size 3 8 Tryd.underlying22 info_int bs.length rfl rfl rfl (by omega) (by unfold maxLen; omega) (Nat.le_refl _) ?_; intro w2 hown hg hsz)
  have hs := (hs.pushOwn (below_of_grown hg) hown).allocP #[.int .i64 0] 66
  clear hown hg hsz
  generalize hG : w2.heap.size = G at *
  go_loopw [4, 5, 8, 14] (fun o due _ i wr => ∃ (k : Nat) (out : List Int) (q : Nat), k ≤ bs.length ∧ i = .int .i64 k ∧ due = .bool (q == 5) ∧ Hid (unS bs k = some (out, q)) ∧ SH none w wr [blkP G #[.int .i64 (if q = 5 then 0 else (q : Int))] 66, ownP .i64 3 o out, rdP .i64 (.slice a bs.length ca) bs]) (fun _ _ _ i _ => bs.length - (intOf i).toNat)
  case atStart => exact ⟨0, [], 0, Nat.zero_le _, rfl, rfl, Lib.hid rfl, hs⟩
  case round =>
    obtain ⟨k, out, q, hk, rfl, rfl, HS, hs⟩ := hrel
    obtain ⟨q5, hlen, hlen2⟩ := unS_bd HS.out
    by_cases hlt : k < bs.length
    · obtain ⟨b, off, rfl, hc⟩ := hs.p2.at_ hlt
      obtain ⟨x, hx⟩ : ∃ x, gi bs k = x := ⟨_, rfl⟩
      have HX := Lib.hid hx
      rw [hx] at hc
      clear hx
      by_cases hxb : x = 0 ∨ x = 1
      case neg =>
        have e := unR_none (unS_bad HS.out (by rw [HX.out]; omega) (by rw [HX.out]; omega)) hlt
        have HE := Lib.hid e
        have n0 : (x != 0) = true := by simp; omega
        have n1 : (x != 1) = true := by simp; omega
        clear e hxb
        go_wp2
        go_ret2
        exact Ret.mk1 ⟨_, by (rw [HE.out]; try rfl), by rw [HE.out]; exact OwnK.nil _ _ _ _⟩ (SH.done (by first | exact hs | exact (hs).alloc _ | exact ((hs).alloc _).alloc _ | exact (((hs).alloc _).alloc _).alloc _ | exact ((((hs).alloc _).alloc _).alloc _).alloc _ | exact (hs).drew | exact ((hs).alloc _).drew | exact (((hs).alloc _).alloc _).drew | exact ((((hs).alloc _).alloc _).alloc _).drew | exact (((((hs).alloc _).alloc _).alloc _).alloc _).drew | exact (hs).drewN _ | exact ((hs).alloc _).drewN _ | exact (((hs).alloc _).alloc _).drewN _ | exact ((((hs).alloc _).alloc _).alloc _).drewN _ | exact (((((hs).alloc _).alloc _).alloc _).alloc _).drewN _))
      by_cases h5 : q = 5
      · subst h5
        rcases hxb with rfl | rfl
        · have HE := Lib.hid (unS_skip HS.out HX.out)
          go_wp2
          go_roundw
          case rel => exact ⟨k + 1, out, 0, hlt, by go_num, rfl, HE, (by first | exact hs | exact (hs).alloc _ | exact ((hs).alloc _).alloc _ | exact (((hs).alloc _).alloc _).alloc _ | exact ((((hs).alloc _).alloc _).alloc _).alloc _ | exact (hs).drew | exact ((hs).alloc _).drew | exact (((hs).alloc _).alloc _).drew | exact ((((hs).alloc _).alloc _).alloc _).drew | exact (((((hs).alloc _).alloc _).alloc _).alloc _).drew | exact (hs).drewN _ | exact ((hs).alloc _).drewN _ | exact (((hs).alloc _).alloc _).drewN _ | exact ((((hs).alloc _).alloc _).alloc _).drewN _ | exact (((((hs).alloc _).alloc _).alloc _).alloc _).drewN _)⟩
          case measure => simp [intOf]; omega
        · have HE := Lib.hid (unR_none (unS_full HS.out (by rw [HX.out]; decide)) hlt)
          go_wp2
          go_ret2
          exact Ret.mk1 ⟨_, by (rw [HE.out]; try rfl), by rw [HE.out]; exact OwnK.nil _ _ _ _⟩ (SH.done (by first | exact hs | exact (hs).alloc _ | exact ((hs).alloc _).alloc _ | exact (((hs).alloc _).alloc _).alloc _ | exact ((((hs).alloc _).alloc _).alloc _).alloc _ | exact (hs).drew | exact ((hs).alloc _).drew | exact (((hs).alloc _).alloc _).drew | exact ((((hs).alloc _).alloc _).alloc _).drew | exact (((((hs).alloc _).alloc _).alloc _).alloc _).drew | exact (hs).drewN _ | exact ((hs).alloc _).drewN _ | exact (((hs).alloc _).alloc _).drewN _ | exact ((((hs).alloc _).alloc _).alloc _).drewN _ | exact (((((hs).alloc _).alloc _).alloc _).alloc _).drewN _))
      · have h5' : (q == 5) = false := by simpa using h5
        rw [if_neg h5] at hs
        rw [h5']
        have q4 : q ≤ 4 := by omega
        clear h5'
        rcases hxb with rfl | rfl
        · have HE := Lib.hid (unS_0 HS.out h5 HX.out)
          go_wp2_with (at_builtin; refine wp_app1S rfl rfl .i64 3 8 Tryd.underlying22 info_int 0 rfl (hs.bring1.alloc _) rfl (World.cell?_alloc_at _ _ _ _ rfl) (by omega) (by unfold maxLen; omega) ?_; intro v3 w3 hs)
          refine (full_s G q 0 _ hs.bring1 q4 (.inl rfl)).mono ?_
          rintro e w4 ⟨rfl, hs⟩
          go_wp2
          go_roundw
          case rel => exact ⟨k + 1, _, 0, hlt, by go_num, rfl, HE, hs⟩
          case measure => simp [intOf]; omega
        · have HE := Lib.hid (unS_1 HS.out h5 HX.out)
          go_wp2_with (at_builtin; refine wp_app1S rfl rfl .i64 3 8 Tryd.underlying22 info_int 1 rfl (hs.bring1.alloc _) rfl (World.cell?_alloc_at _ _ _ _ rfl) (by omega) (by unfold maxLen; omega) ?_; intro v3 w3 hs)
          refine (full_s G q 1 _ hs.bring1 q4 (.inr rfl)).mono ?_
          rintro e w4 ⟨rfl, hs⟩
          rw [if_neg (by decide)] at hs
          have HD : Hid ((q == 4) = (q + 1 == 5)) := by
            unfold Hid
            by_cases e4 : q = 4
            · subst e4; rfl
            · have e1 : (q == 4) = false := by simpa using e4
              have e2 : (q + 1 == 5) = false := by simp; omega
              rw [e1, e2]
          have HS2 : SH none w w4 [blkP G #[.int .i64 (if q + 1 = 5 then 0 else ((q + 1 : Nat) : Int))] 66, ownP .i64 3 v3 (out ++ [1]), rdP .i64 (.slice (some ⟨b, off, none⟩) bs.length ca) bs] := by
            by_cases e4 : q = 4
            · subst e4; exact hs
            · rw [if_pos (by omega)] at hs
              rw [if_neg (by omega)]; exact hs
          clear hs
          go_wp2
          go_roundw
          case rel => exact ⟨k + 1, _, q + 1, hlt, by go_num, boolv HD.out, HE, HS2⟩
          case measure => simp [intOf]; omega
    · obtain rfl : k = bs.length := by omega
      obtain ⟨ao, co, rfl, -⟩ := (OwnK.rd hs.p1).form
      by_cases h5 : q = 5
      · subst h5
        have HE := Lib.hid (unR_bad HS.out (.inl rfl))
        go_wp2
        go_ret2
        exact Ret.mk1 ⟨_, by (rw [HE.out]; try rfl), by rw [HE.out]; exact OwnK.nil _ _ _ _⟩ hs.done
      · have h5' : (q == 5) = false := by simpa using h5
        rw [h5']
        by_cases h512 : 512 < out.length
        · have HE := Lib.hid (unR_bad HS.out (.inr h512))
          go_wp2
          go_ret2
          exact Ret.mk1 ⟨_, by (rw [HE.out]; try rfl), by rw [HE.out]; exact OwnK.nil _ _ _ _⟩ hs.done
        · have HE := Lib.hid (unR_ok HS.out h5 (by omega))
          go_wp2
          go_ret2
          exact Ret.mk1 ⟨_, by (rw [HE.out]; try rfl), by rw [HE.out]; exact SH.ownRet hs.drop0⟩ hs.done

set_option maxRecDepth 100000 in
set_option maxHeartbeats 4000000 in
theorem specUnstuffBits_c (va : Value) (bs : List Int) (w : World) (h : RdI w va bs) :
    Calls Tryd.prog 41 #[va] w (Ret w fun v w' => ∃ v', v = .tuple #[v', .bool (unR bs).2] ∧ OwnI w' w.heap.size 3 v' (unR bs).1) := by
  obtain ⟨a, ca, rfl, ma⟩ := h.form
  have hs := SH.start w [rdP .i64 (.slice a bs.length ca) bs] (by simp only [List.forall_mem_cons]; exact ⟨⟨h, rdP_wr⟩, by simp⟩)
  clear h
  go_enter Tryd.func41, Tryd.ntmps41
  go_wp2_with fail
  have hs := hs.ownEmpty .i64 3
  refine (SH.quiet hs (Below.refl _ _) fun hs => specBitsValid_c _ bs _ hs.p1).mono ?_
  rintro e w1 ⟨rfl, hs⟩
  cases hbv : bitsB bs
  · have HE := Lib.hid (unR_bits hbv)
    go_wp2
    go_ret2
    exact Ret.mk1 ⟨_, by (rw [HE.out]; try rfl), by rw [HE.out]; exact SH.ownRet hs⟩ hs.done
  have HB := Lib.hid (bitsB_true.1 hbv).2
  have hl := (bitsB_true.1 hbv).1
  clear hbv
  go_wp2
  go_loopw [4, 5, 6] (fun o n i wr => ∃ (k : Nat) (out : List Int) (q : Nat), k ≤ bs.length ∧ i = .int .i64 k ∧ n = .int .i64 q ∧ Hid (unS bs k = some (out, q)) ∧ SH none w wr [ownP .i64 3 o out, rdP .i64 (.slice a bs.length ca) bs]) (fun _ _ i _ => bs.length - (intOf i).toNat)
  case atStart => exact ⟨0, [], 0, Nat.zero_le _, rfl, rfl, Lib.hid rfl, hs⟩
  case round =>
    obtain ⟨k, out, q, hk, rfl, rfl, HS, hs⟩ := hrel
    obtain ⟨q5, hlen, hlen2⟩ := unS_bd HS.out
    by_cases hlt : k < bs.length
    · obtain ⟨b, off, rfl, hc⟩ := hs.p1.at_ hlt
      have hbit := HB.out k hlt
      obtain ⟨x, hx⟩ : ∃ x, gi bs k = x := ⟨_, rfl⟩
      have HX := Lib.hid hx
      rw [hx] at hc hbit
      clear hx
      by_cases h5 : q = 5
      · subst h5
        rcases hbit with rfl | rfl
        · have HE := Lib.hid (unS_skip HS.out HX.out)
          go_wp2
          go_roundw
          case rel => exact ⟨k + 1, out, 0, hlt, by go_num, rfl, HE, (by first | exact hs | exact (hs).alloc _ | exact ((hs).alloc _).alloc _ | exact (((hs).alloc _).alloc _).alloc _ | exact ((((hs).alloc _).alloc _).alloc _).alloc _ | exact (hs).drew | exact ((hs).alloc _).drew | exact (((hs).alloc _).alloc _).drew | exact ((((hs).alloc _).alloc _).alloc _).drew | exact (((((hs).alloc _).alloc _).alloc _).alloc _).drew | exact (hs).drewN _ | exact ((hs).alloc _).drewN _ | exact (((hs).alloc _).alloc _).drewN _ | exact ((((hs).alloc _).alloc _).alloc _).drewN _ | exact (((((hs).alloc _).alloc _).alloc _).alloc _).drewN _)⟩
          case measure => simp [intOf]; omega
        · have HE := Lib.hid (unR_none (unS_full HS.out (by rw [HX.out]; decide)) hlt)
          have hs := hs.drop0.ownEmpty .i64 3
          go_wp2
          go_ret2
          exact Ret.mk1 ⟨_, by (rw [HE.out]; try rfl), by rw [HE.out]; exact SH.ownRet hs⟩ hs.done
      · have h5' : ((q : Int) == 5) = false := by simp; omega
        rcases hbit with rfl | rfl
        · have HE := Lib.hid (unS_0 HS.out h5 HX.out)
          go_wp2_with (at_builtin; refine wp_app1S rfl rfl .i64 3 8 Tryd.underlying22 info_int 0 rfl (hs.alloc _) rfl (World.cell?_alloc_at _ _ _ _ rfl) (by first | omega | (simp; omega)) (by unfold maxLen; first | omega | (simp; omega)) ?_; intro v3 w3 hs; clear hc; obtain ⟨bq, oq, heq, hc⟩ := hs.p1.at_ hlt; simp only [Option.some.injEq, Addr.mk.injEq, and_true] at heq; obtain ⟨rfl, rfl⟩ := heq; rw [HX.out] at hc)
          go_roundw
          case rel => exact ⟨k + 1, _, 0, hlt, by go_num, rfl, HE, hs⟩
          case measure => simp [intOf]; omega
        · have HE := Lib.hid (unS_1 HS.out h5 HX.out)
          go_wp2_with (at_builtin; refine wp_app1S rfl rfl .i64 3 8 Tryd.underlying22 info_int 1 rfl (hs.alloc _) rfl (World.cell?_alloc_at _ _ _ _ rfl) (by first | omega | (simp; omega)) (by unfold maxLen; first | omega | (simp; omega)) ?_; intro v3 w3 hs; clear hc; obtain ⟨bq, oq, heq, hc⟩ := hs.p1.at_ hlt; simp only [Option.some.injEq, Addr.mk.injEq, and_true] at heq; obtain ⟨rfl, rfl⟩ := heq; rw [HX.out] at hc)
          go_roundw
          case rel => exact ⟨k + 1, _, q + 1, hlt, by go_num, intv (by omega), HE, hs⟩
          case measure => simp [intOf]; omega
    · obtain rfl : k = bs.length := by omega
      obtain ⟨ao, co, rfl, -⟩ := (OwnK.rd hs.p0).form
      by_cases h5 : q = 5
      · subst h5
        have HE := Lib.hid (unR_bad HS.out (.inl rfl))
        have hs := hs.drop0.ownEmpty .i64 3
        go_wp2
        go_ret2
        exact Ret.mk1 ⟨_, by (rw [HE.out]; try rfl), by rw [HE.out]; exact SH.ownRet hs⟩ hs.done
      · have h5' : ((q : Int) == 5) = false := by simp; omega
        by_cases h512 : 512 < out.length
        · have HE := Lib.hid (unR_bad HS.out (.inr h512))
          have hs := hs.drop0.ownEmpty .i64 3
          go_wp2
          go_ret2
          exact Ret.mk1 ⟨_, by (rw [HE.out]; try rfl), by rw [HE.out]; exact SH.ownRet hs⟩ hs.done
        · have HE := Lib.hid (unR_ok HS.out h5 (by omega))
          go_wp2
          go_ret2
          exact Ret.mk1 ⟨_, by (rw [HE.out]; try rfl), by rw [HE.out]; exact SH.ownRet hs⟩ hs.done

end Go.Proofs.YtjgafkoboolclaaDoor
