import Derived.Test.YtfllfbmdnokmnaaProg
import Derived.Test.YtfllfbmdnokmnaaLib
import Derived.Test.YtfllfbmdnokmnaaNum
import Derived.Test.YtfllfbmdnokmnaaMem
import Derived.Test.YtfllfbmdnokmnaaOpen
import Derived.Test.YtfllfbmdnokmnaaSym
import Derived.Test.YtfllfbmdnokmnaaClock
namespace Go.Proofs.Ytfllfbmdnokmnaa
open Go.RowKit

/-! Lists of structs of numbers: number j of element i is 'f i j'. -/
def eC (f : Nat → Nat → Int) (i j : Nat) : Value := .int .i64 (f i j)
theorem info_ex : (Try.prog.info? 44).map (fun i => (i.zero, i.size, i.bytes)) = some (some (.agg #[.int .i64 0, .int .i64 0, .int .i64 0, .int .i64 0]), 4, 32) := by kernel_rfl

def exAt (f : Nat → Nat → Int) (i : Nat) : Bool := exB (f i 0) (f i 1) (f i 2) (f i 3)
/-- how long the messages of an exchange were under way -/
def dlAt (f : Nat → Nat → Int) (i : Nat) : Int := f i 3 - f i 0 - (f i 2 - f i 1)
theorem dlAt_bd {f : Nat → Nat → Int} {i : Nat} (h : exAt f i = true) : (-2000000 ≤ f i 3 - f i 0 ∧ f i 3 - f i 0 ≤ 2000000) ∧ (-2000000 ≤ f i 2 - f i 1 ∧ f i 2 - f i 1 ≤ 2000000) := by
  have := exB_true.1 h; omega

/-- the best one of the first k, as an index; -1 -/
def bestE (f : Nat → Nat → Int) : Nat → Int
  | 0 => -1
  | k + 1 => if bestE f k < 0 ∨ dlAt f k < dlAt f (bestE f k).toNat then k else bestE f k
theorem bestE_bd (f : Nat → Nat → Int) : ∀ k, -1 ≤ bestE f k ∧ bestE f k < k ∧ (0 < k → 0 ≤ bestE f k)
  | 0 => by simp [bestE]
  | k + 1 => by
    have ih := bestE_bd f k
    simp only [bestE]
    split <;> omega
/-- BestExchange -/
def bxV (n : Nat) (f : Nat → Nat → Int) : Int := if n ≤ 100 ∧ (List.range n).all (exAt f) = true then bestE f n else -1
theorem bxV_big {n : Nat} {f : Nat → Nat → Int} (h : 100 < n) : bxV n f = -1 := by unfold bxV; rw [if_neg (by omega)]
theorem bxV_bad {n i : Nat} {f : Nat → Nat → Int} (hi : i < n) (h : exAt f i = false) : bxV n f = -1 := by
  unfold bxV; rw [if_neg]
  rintro ⟨_, h2⟩
  have := List.all_eq_true.1 h2 i (List.mem_range.2 hi)
  rw [h] at this; cases this
theorem bxV_ok {n : Nat} {f : Nat → Nat → Int} (hn : n ≤ 100) (h : ∀ i, i < n → exAt f i = true) : bxV n f = bestE f n := by
  unfold bxV; rw [if_pos ⟨hn, List.all_eq_true.2 fun i hi => h i (List.mem_range.1 hi)⟩]

theorem kept8 {w w' : World} {a b : Nat} {o p : Nat} {x0 x1 x2 x3 y0 y1 y2 y3 : Value} (hb : Below w.heap.size w w')
    (h : w.cell? ⟨a, o, none⟩ = some x0 ∧ w.cell? ⟨a, o + 1, none⟩ = some x1 ∧ w.cell? ⟨a, o + 2, none⟩ = some x2 ∧ w.cell? ⟨a, o + 3, none⟩ = some x3 ∧
      w.cell? ⟨b, p, none⟩ = some y0 ∧ w.cell? ⟨b, p + 1, none⟩ = some y1 ∧ w.cell? ⟨b, p + 2, none⟩ = some y2 ∧ w.cell? ⟨b, p + 3, none⟩ = some y3) :
    w'.cell? ⟨a, o, none⟩ = some x0 ∧ w'.cell? ⟨a, o + 1, none⟩ = some x1 ∧ w'.cell? ⟨a, o + 2, none⟩ = some x2 ∧ w'.cell? ⟨a, o + 3, none⟩ = some x3 ∧
      w'.cell? ⟨b, p, none⟩ = some y0 ∧ w'.cell? ⟨b, p + 1, none⟩ = some y1 ∧ w'.cell? ⟨b, p + 2, none⟩ = some y2 ∧ w'.cell? ⟨b, p + 3, none⟩ = some y3 := by
  obtain ⟨h0, h1, h2, h3, h4, h5, h6, h7⟩ := h
  exact ⟨(hb.cell (cell_lt h0)).trans h0, (hb.cell (cell_lt h1)).trans h1, (hb.cell (cell_lt h2)).trans h2, (hb.cell (cell_lt h3)).trans h3, (hb.cell (cell_lt h4)).trans h4, (hb.cell (cell_lt h5)).trans h5, (hb.cell (cell_lt h6)).trans h6, (hb.cell (cell_lt h7)).trans h7⟩

theorem toExchangeS_c (va : Value) (n : Nat) (f : Nat → Nat → Int) (w : World) (h : RdM 4 w va n (eC f)) (hn : n ≤ 1048576) :
    Calls Try.prog 33 #[va] w (Ret w fun v w' => OwnM 4 w' w.heap.size 44 v n (eC f)) := by
  obtain ⟨a, ca, rfl, ml⟩ := h.form
  have hs := SH.start w [rdMP 4 (.slice a n ca) n (eC f)] (by simp only [List.forall_mem_cons]; exact ⟨⟨⟨h, by decide⟩, rdMP_wr⟩, by simp⟩)
  clear h
  go_enter Try.func33, Try.ntmps33
  go_wp2_with (at_make; refine wp_makeM rfl rfl w.heap.size 44 32 4 _ Try.underlying39 info_ex rfl n rfl rfl rfl rfl (by omega) (by unfold maxLen; omega) (Nat.le_refl _) ?_; intro w1 hown hg hsz)
  have hs := hs.pushOwnM (below_of_grown hg) hown
  clear hown hg hsz
  go_loopw [4] (fun i wr => ∃ (k : Nat) (c : Nat → Nat → Value), k ≤ n ∧ i = .int .i64 k ∧ Hid (∀ j q, j < k → q < 4 → c j q = eC f j q) ∧ SH none w wr [ownMP 4 44 (.slice (some ⟨w.heap.size, 0, none⟩) n n) n c, rdMP 4 (.slice a n ca) n (eC f)]) (fun i _ => n - (intOf i).toNat)
  case atStart => exact ⟨0, _, Nat.zero_le _, rfl, Lib.hid (fun j q h => absurd h (Nat.not_lt_zero _)), hs⟩
  case round =>
    obtain ⟨k, c, hk, rfl, HAll, hs⟩ := hrel
    by_cases hlt : k < n
    · obtain ⟨b, off, rfl, hc⟩ := hs.p1.1.at_ hlt
      have hc0 : wr.cell? ⟨b, off + k * 4, none⟩ = some (.int .i64 (f k 0)) := hc 0 (by decide)
      have hc1 : wr.cell? ⟨b, off + k * 4 + 1, none⟩ = some (.int .i64 (f k 1)) := hc 1 (by decide)
      have hc2 : wr.cell? ⟨b, off + k * 4 + 2, none⟩ = some (.int .i64 (f k 2)) := hc 2 (by decide)
      have hc3 : wr.cell? ⟨b, off + k * 4 + 3, none⟩ = some (.int .i64 (f k 3)) := hc 3 (by decide)
      clear hc
      go_wp2_with fail
      refine (SH.ret hs (by repeat' (first | with_reducible exact Below.refl _ _ | with_reducible assumption | with_reducible refine below_drewN ?_ _ | with_reducible refine Below.drew ?_ | with_reducible refine Below.alloc ?_ ?_ _ | with_reducible refine Below.setCell ?_ ?_ _ | go_size)) fun hs => toExchange_c (f k 0) (f k 1) (f k 2) (f k 3) _).mono ?_
      rintro e w2 ⟨v, rfl, rfl, hs⟩
      clear hc0 hc1 hc2 hc3
      obtain ⟨g, hge, -, hgc, hgf⟩ := OwnM.at_ hs.p0 hlt
      simp only [Option.some.injEq, Addr.mk.injEq] at hge
      obtain ⟨rfl, _, _⟩ := hge
      have hg0 : w2.cell? ⟨w.heap.size, k * 4, none⟩ = some (c k 0) := hgc 0 (by decide)
      have hg1 : w2.cell? ⟨w.heap.size, k * 4 + 1, none⟩ = some (c k 1) := hgc 1 (by decide)
      have hg2 : w2.cell? ⟨w.heap.size, k * 4 + 2, none⟩ = some (c k 2) := hgc 2 (by decide)
      have hg3 : w2.cell? ⟨w.heap.size, k * 4 + 3, none⟩ = some (c k 3) := hgc 3 (by decide)
      have hf0 := hgf (k * 4)
      have hf1 := hgf (k * 4 + 1)
      have hf2 := hgf (k * 4 + 2)
      have hf3 := hgf (k * 4 + 3)
      clear hgc hgf
      unfold ex
      go_wp2
      go_roundw
      case rel =>
        refine ⟨k + 1, _, hlt, by go_num, Lib.hid ?_, (((hs.setOwnM hlt (j := 0) (by decide) _).setOwnM hlt (j := 1) (by decide) _).setOwnM hlt (j := 2) (by decide) _).setOwnM hlt (j := 3) (by decide) _⟩
        intro j q hj hq
        by_cases e : j = k
        · subst e
          have : q = 0 ∨ q = 1 ∨ q = 2 ∨ q = 3 := by omega
          rcases this with rfl | rfl | rfl | rfl <;> simp [updC, eC]
        · simp only [updC, if_neg e]; exact HAll.out j q (by omega) hq
      case measure => simp [intOf]; omega
    · obtain rfl : k = n := by omega
      go_wp2
      go_ret
      exact Ret.mk1 (OwnM.congr (SH.ownRetM hs) (fun i j hi hj => HAll.out i j hi hj)) hs.done

theorem eqExchange_c (s h a b : Int) (w : World) :
    Calls Try.prog 61 #[ex s h a b, ex s h a b] w (Ret w fun v _ => v = .bool true) := by
  have e0 : (s != s) = false := bne_self_eq_false _
  have e1 : (h != h) = false := bne_self_eq_false _
  have e2 : (a != a) = false := bne_self_eq_false _
  have e3 : (b != b) = false := bne_self_eq_false _
  unfold ex
  go_enter Try.func61, Try.ntmps61
  go_wp2
  go_ret
  exact Ret.mk1 rfl (by go_grown)

theorem eqExchangeS_c (va vb : Value) (n : Nat) (f : Nat → Nat → Int) (w : World) (ha : RdM 4 w va n (eC f)) (hb : RdM 4 w vb n (eC f)) :
    Calls Try.prog 35 #[va, vb] w (Ret w fun v _ => v = .bool true) := by
  obtain ⟨a, ca, rfl, ma⟩ := ha.form
  obtain ⟨b, cb, rfl, mb⟩ := hb.form
  have hs := SH.start w [rdMP 4 (.slice a n ca) n (eC f), rdMP 4 (.slice b n cb) n (eC f)] (by simp only [List.forall_mem_cons]; exact ⟨⟨⟨ha, by decide⟩, rdMP_wr⟩, ⟨⟨hb, by decide⟩, rdMP_wr⟩, by simp⟩)
  clear ha hb
  have hl0 : ((n : Int) != (n : Int)) = false := bne_self_eq_false _
  go_enter Try.func35, Try.ntmps35
  go_wp2
  go_loopw [5] (fun i wr => ∃ k : Nat, k ≤ n ∧ i = .int .i64 k ∧ SH none w wr [rdMP 4 (.slice a n ca) n (eC f), rdMP 4 (.slice b n cb) n (eC f)]) (fun i _ => n - (intOf i).toNat)
  case atStart => exact ⟨0, Nat.zero_le _, rfl, hs⟩
  case round =>
    obtain ⟨k, hk, rfl, hs⟩ := hrel
    by_cases hlt : k < n
    · obtain ⟨ba, oa, rfl, hca⟩ := hs.p0.1.at_ hlt
      obtain ⟨bb, ob, rfl, hcb⟩ := hs.p1.1.at_ hlt
      have hS : wr.cell? ⟨ba, oa + k * 4, none⟩ = some (.int .i64 (f k 0)) ∧ wr.cell? ⟨ba, oa + k * 4 + 1, none⟩ = some (.int .i64 (f k 1)) ∧ wr.cell? ⟨ba, oa + k * 4 + 2, none⟩ = some (.int .i64 (f k 2)) ∧ wr.cell? ⟨ba, oa + k * 4 + 3, none⟩ = some (.int .i64 (f k 3)) ∧ wr.cell? ⟨bb, ob + k * 4, none⟩ = some (.int .i64 (f k 0)) ∧ wr.cell? ⟨bb, ob + k * 4 + 1, none⟩ = some (.int .i64 (f k 1)) ∧ wr.cell? ⟨bb, ob + k * 4 + 2, none⟩ = some (.int .i64 (f k 2)) ∧ wr.cell? ⟨bb, ob + k * 4 + 3, none⟩ = some (.int .i64 (f k 3)) := ⟨hca 0 (by decide), hca 1 (by decide), hca 2 (by decide), hca 3 (by decide), hcb 0 (by decide), hcb 1 (by decide), hcb 2 (by decide), hcb 3 (by decide)⟩
      have HS := Lib.hid hS
      obtain ⟨hc0, hc1, hc2, hc3, hc4, hc5, hc6, hc7⟩ := hS
      clear hca hcb
      go_wp2
      go_region_held3 (fun wx => wx.cell? ⟨ba, oa + k * 4, none⟩ = some (.int .i64 (f k 0)) ∧ wx.cell? ⟨ba, oa + k * 4 + 1, none⟩ = some (.int .i64 (f k 1)) ∧ wx.cell? ⟨ba, oa + k * 4 + 2, none⟩ = some (.int .i64 (f k 2)) ∧ wx.cell? ⟨ba, oa + k * 4 + 3, none⟩ = some (.int .i64 (f k 3)) ∧ wx.cell? ⟨bb, ob + k * 4, none⟩ = some (.int .i64 (f k 0)) ∧ wx.cell? ⟨bb, ob + k * 4 + 1, none⟩ = some (.int .i64 (f k 1)) ∧ wx.cell? ⟨bb, ob + k * 4 + 2, none⟩ = some (.int .i64 (f k 2)) ∧ wx.cell? ⟨bb, ob + k * 4 + 3, none⟩ = some (.int .i64 (f k 3))) (first | exact HS.out | exact kept8 hb2 HS.out) (first | (go_at_call 61; refine (eqExchange_c _ _ _ _ _).mono ?_; rintro e w2 ⟨v, rfl, rfl, hb2⟩))
      have hs := hs.below (below_undrew hb2)
      clear hb2
      go_wp2
      go_roundw
      case rel => exact ⟨k + 1, hlt, by go_num, hs⟩
      case measure => simp [intOf]; omega
    · go_wp2
      go_ret
      exact Ret.mk1 rfl hs.done

theorem szExchangeS_c (va : Value) (n : Nat) (f : Nat → Nat → Int) (w : World) (h : RdM 4 w va n (eC f)) :
    Calls Try.prog 31 #[va, .int .i64 1048576] w (RetQ w (.int .i64 (if n ≤ 1048576 then 1048576 - (n : Int) else -1))) := by
  obtain ⟨a, ca, rfl, ma⟩ := h.form
  clear h
  by_cases hl : n ≤ 1048576
  · rw [if_pos hl]
    go_enter Try.func31, Try.ntmps31
    go_wp2
    go_ret
    exact RetQ.mkS rfl (SameW.refl _)
  · rw [if_neg hl]
    go_enter Try.func31, Try.ntmps31
    go_wp2
    go_ret
    exact RetQ.mkS rfl (SameW.refl _)

theorem bestCmp_c (s h a b s' h' a' b' : Int) (w : World) (h1 : -2000000 ≤ b - s ∧ b - s ≤ 2000000) (h2 : -2000000 ≤ a - h ∧ a - h ≤ 2000000) (h3 : -2000000 ≤ b' - s' ∧ b' - s' ≤ 2000000) (h4 : -2000000 ≤ a' - h' ∧ a' - h' ≤ 2000000) :
    Calls Try.prog 58 #[ex s h a b, ex s' h' a' b'] w (Ret w fun v _ => v = .int .i64 (cmpI (b - s - (a - h)) (b' - s' - (a' - h')))) := by
  unfold ex
  go_enter Try.func58, Try.ntmps58
  go_wp2
  obtain ⟨W, hW, hS⟩ : ∃ W, (w.alloc (.cells #[.int .i64 s, .int .i64 h, .int .i64 a, .int .i64 b] 44)).alloc (.cells #[.int .i64 s', .int .i64 h', .int .i64 a', .int .i64 b'] 44) = W ∧ Below w.heap.size w W ∧ W.cell? ⟨w.heap.size, 0, none⟩ = some (.int .i64 s) ∧ W.cell? ⟨w.heap.size, 1, none⟩ = some (.int .i64 h) ∧ W.cell? ⟨w.heap.size, 2, none⟩ = some (.int .i64 a) ∧ W.cell? ⟨w.heap.size, 3, none⟩ = some (.int .i64 b) ∧ W.cell? ⟨w.heap.size + 1, 0, none⟩ = some (.int .i64 s') ∧ W.cell? ⟨w.heap.size + 1, 1, none⟩ = some (.int .i64 h') ∧ W.cell? ⟨w.heap.size + 1, 2, none⟩ = some (.int .i64 a') ∧ W.cell? ⟨w.heap.size + 1, 3, none⟩ = some (.int .i64 b') :=
    ⟨_, rfl, by go_grown, by go_simp, by go_simp, by go_simp, by go_simp, by go_simp, by go_simp, by go_simp, by go_simp⟩
  rw [hW]
  have HS := Lib.hid hS
  obtain ⟨hb, hc0, hc1, hc2, hc3, hd0, hd1, hd2, hd3⟩ := hS
  clear hW
  go_region_held3 (fun wr => Below w.heap.size w wr ∧ wr.cell? ⟨w.heap.size, 0, none⟩ = some (.int .i64 s) ∧ wr.cell? ⟨w.heap.size, 1, none⟩ = some (.int .i64 h) ∧ wr.cell? ⟨w.heap.size, 2, none⟩ = some (.int .i64 a) ∧ wr.cell? ⟨w.heap.size, 3, none⟩ = some (.int .i64 b) ∧ wr.cell? ⟨w.heap.size + 1, 0, none⟩ = some (.int .i64 s') ∧ wr.cell? ⟨w.heap.size + 1, 1, none⟩ = some (.int .i64 h') ∧ wr.cell? ⟨w.heap.size + 1, 2, none⟩ = some (.int .i64 a') ∧ wr.cell? ⟨w.heap.size + 1, 3, none⟩ = some (.int .i64 b')) (first | exact ⟨HS.out.1.drew, HS.out.2⟩ | (rename_i HX; exact ⟨HX.1.trans (hb2.mono HX.1.size), kept8 (o := 0) (p := 0) hb2 HX.2⟩) | (rename_i HX _; exact ⟨HX.1.trans (hb2.mono HX.1.size), kept8 (o := 0) (p := 0) hb2 HX.2⟩) | (rename_i HX _ _; exact ⟨HX.1.trans (hb2.mono HX.1.size), kept8 (o := 0) (p := 0) hb2 HX.2⟩)) (first | (go_at_call 60; refine (delayOf_c _ _ _ _ _ (by omega) (by omega) (by omega) (by omega)).mono ?_; rintro e w2 ⟨v, rfl, rfl, hb2⟩) | (go_at_call 59; refine (cmp_c _ _ _).mono ?_; rintro e w2 hr2; obtain ⟨rfl, hs2⟩ := hr2.same; have hb2 := hs2.below))
  go_wp2
  go_ret
  refine Ret.mk1 rfl ?_
  rename_i HX
  exact HX.1

theorem firstLeast_c (va : Value) (n : Nat) (f : Nat → Nat → Int) (w : World) (h : RdM 4 w va n (eC f)) (hv : ∀ i, i < n → exAt f i = true) (hn : n ≤ 100) :
    Calls Try.prog 57 #[va, .func (.func 58) #[] #[]] w (Ret w fun v _ => v = .int .i64 (bestE f n)) := by
  obtain ⟨a, ca, rfl, ma⟩ := h.form
  have hs := SH.start w [rdMP 4 (.slice a n ca) n (eC f)] (by simp only [List.forall_mem_cons]; exact ⟨⟨⟨h, by decide⟩, rdMP_wr⟩, by simp⟩)
  have HV := Lib.hid hv
  clear h hv
  go_enter Try.func57, Try.ntmps57
  go_wp2
  go_loopw [5, 10] (fun bt i wr => ∃ k : Nat, k ≤ n ∧ i = .int .i64 k ∧ bt = .int .i64 (bestE f k) ∧ SH none w wr [rdMP 4 (.slice a n ca) n (eC f)]) (fun _ i _ => n - (intOf i).toNat)
  case atStart => exact ⟨0, Nat.zero_le _, rfl, rfl, hs⟩
  case round =>
    obtain ⟨k, hk, rfl, rfl, hs⟩ := hrel
    obtain ⟨b0, b1, b2⟩ := bestE_bd f k
    by_cases hlt : k < n
    · obtain ⟨ba, oa, rfl, hca⟩ := hs.p0.1.at_ hlt
      have hc0 : wr.cell? ⟨ba, oa + k * 4, none⟩ = some (.int .i64 (f k 0)) := hca 0 (by decide)
      have hc1 : wr.cell? ⟨ba, oa + k * 4 + 1, none⟩ = some (.int .i64 (f k 1)) := hca 1 (by decide)
      have hc2 : wr.cell? ⟨ba, oa + k * 4 + 2, none⟩ = some (.int .i64 (f k 2)) := hca 2 (by decide)
      have hc3 : wr.cell? ⟨ba, oa + k * 4 + 3, none⟩ = some (.int .i64 (f k 3)) := hca 3 (by decide)
      clear hca
      go_wp2
      obtain ⟨W, hW, hS⟩ : ∃ W, wr.alloc (.cells #[.int .i64 (f k 0), .int .i64 (f k 1), .int .i64 (f k 2), .int .i64 (f k 3)] 44) = W ∧ Below wr.heap.size wr W ∧ W.cell? ⟨wr.heap.size, 0, none⟩ = some (.int .i64 (f k 0)) ∧ W.cell? ⟨wr.heap.size, 1, none⟩ = some (.int .i64 (f k 1)) ∧ W.cell? ⟨wr.heap.size, 2, none⟩ = some (.int .i64 (f k 2)) ∧ W.cell? ⟨wr.heap.size, 3, none⟩ = some (.int .i64 (f k 3)) :=
        ⟨_, rfl, by go_grown, by go_simp, by go_simp, by go_simp, by go_simp⟩
      rw [hW]
      clear hW hc0 hc1 hc2 hc3
      obtain ⟨hb, hc0, hc1, hc2, hc3⟩ := hS
      have hs := hs.below hb
      rcases Nat.eq_zero_or_pos k with hz | hz
      · have e1 : bestE f k = -1 := by subst hz; rfl
        have e2 : bestE f (k + 1) = k := by simp only [bestE]; rw [if_pos (by omega)]
        rw [e1]
        go_quiet (fail)
        go_wp2
        go_roundw
        case rel => exact ⟨k + 1, hlt, by go_num, by rw [e2], (by first | exact hs | exact (hs).alloc _ | exact ((hs).alloc _).alloc _ | exact (((hs).alloc _).alloc _).alloc _ | exact ((((hs).alloc _).alloc _).alloc _).alloc _ | exact (hs).drew | exact ((hs).alloc _).drew | exact (((hs).alloc _).alloc _).drew | exact ((((hs).alloc _).alloc _).alloc _).drew | exact (((((hs).alloc _).alloc _).alloc _).alloc _).drew | exact (hs).drewN _ | exact ((hs).alloc _).drewN _ | exact (((hs).alloc _).alloc _).drewN _ | exact ((((hs).alloc _).alloc _).alloc _).drewN _ | exact (((((hs).alloc _).alloc _).alloc _).alloc _).drewN _)⟩
        case measure => simp [intOf]; omega
      · obtain ⟨j, hj⟩ : ∃ j : Nat, bestE f k = j := ⟨(bestE f k).toNat, by omega⟩
        have hjk : j < k := by omega
        have e2 : bestE f (k + 1) = if dlAt f k < dlAt f j then (k : Int) else j := by
          simp only [bestE, hj, Int.toNat_natCast]
          by_cases h : dlAt f k < dlAt f j
          · rw [if_pos (.inr h), if_pos h]
          · rw [if_neg (by omega), if_neg h]
        rw [hj]
        obtain ⟨p1, p2⟩ := dlAt_bd (HV.out k hlt)
        obtain ⟨p3, p4⟩ := dlAt_bd (HV.out j (by omega))
        obtain ⟨bb, ob, he, hcb⟩ := hs.p0.1.at_ (show j < n by omega)
        simp only [Option.some.injEq, Addr.mk.injEq, and_true] at he
        obtain ⟨rfl, rfl⟩ := he
        have hd0 : W.cell? ⟨ba, oa + j * 4, none⟩ = some (.int .i64 (f j 0)) := hcb 0 (by decide)
        have hd1 : W.cell? ⟨ba, oa + j * 4 + 1, none⟩ = some (.int .i64 (f j 1)) := hcb 1 (by decide)
        have hd2 : W.cell? ⟨ba, oa + j * 4 + 2, none⟩ = some (.int .i64 (f j 2)) := hcb 2 (by decide)
        have hd3 : W.cell? ⟨ba, oa + j * 4 + 3, none⟩ = some (.int .i64 (f j 3)) := hcb 3 (by decide)
        clear hcb
        have HE := Lib.hid e2
        have e0 : decide ((j : Int) < 0) = false := by simp
        have i0 : (0 : Int) ≤ (j : Int) := by omega
        have i1 : (j : Int) < (n : Int) := by omega
        clear e2 hj b0 b1 b2
        have HS : Hid (W.cell? ⟨wr.heap.size, 0, none⟩ = some (.int .i64 (f k 0)) ∧ W.cell? ⟨wr.heap.size, 1, none⟩ = some (.int .i64 (f k 1)) ∧ W.cell? ⟨wr.heap.size, 2, none⟩ = some (.int .i64 (f k 2)) ∧ W.cell? ⟨wr.heap.size, 3, none⟩ = some (.int .i64 (f k 3)) ∧ W.cell? ⟨ba, oa + j * 4, none⟩ = some (.int .i64 (f j 0)) ∧ W.cell? ⟨ba, oa + j * 4 + 1, none⟩ = some (.int .i64 (f j 1)) ∧ W.cell? ⟨ba, oa + j * 4 + 2, none⟩ = some (.int .i64 (f j 2)) ∧ W.cell? ⟨ba, oa + j * 4 + 3, none⟩ = some (.int .i64 (f j 3))) := Lib.hid ⟨hc0, hc1, hc2, hc3, hd0, hd1, hd2, hd3⟩
        have hbW : Below W.heap.size W W := Below.refl _ _
        go_region_held3 (fun wx => Below W.heap.size W wx ∧ wx.cell? ⟨wr.heap.size, 0, none⟩ = some (.int .i64 (f k 0)) ∧ wx.cell? ⟨wr.heap.size, 1, none⟩ = some (.int .i64 (f k 1)) ∧ wx.cell? ⟨wr.heap.size, 2, none⟩ = some (.int .i64 (f k 2)) ∧ wx.cell? ⟨wr.heap.size, 3, none⟩ = some (.int .i64 (f k 3)) ∧ wx.cell? ⟨ba, oa + j * 4, none⟩ = some (.int .i64 (f j 0)) ∧ wx.cell? ⟨ba, oa + j * 4 + 1, none⟩ = some (.int .i64 (f j 1)) ∧ wx.cell? ⟨ba, oa + j * 4 + 2, none⟩ = some (.int .i64 (f j 2)) ∧ wx.cell? ⟨ba, oa + j * 4 + 3, none⟩ = some (.int .i64 (f j 3))) (first | exact ⟨hbW.drew, HS.out⟩ | exact ⟨below_undrew hb2, kept8 (o := 0) hb2 HS.out⟩) (first | (go_at_call 58; refine (bestCmp_c _ _ _ _ _ _ _ _ _ p1 p2 p3 p4).mono ?_; rintro e w2 ⟨v, rfl, rfl, hb2⟩))
        have hs := hs.below (below_undrew hb2)
        clear hb2 HS hbW hc0 hc1 hc2 hc3 hd0 hd1 hd2 hd3 hb
        by_cases hd : dlAt f k < dlAt f j
        · have e3 : cmpI (f k 3 - f k 0 - (f k 2 - f k 1)) (f j 3 - f j 0 - (f j 2 - f j 1)) < 0 := by
            have : f k 3 - f k 0 - (f k 2 - f k 1) < f j 3 - f j 0 - (f j 2 - f j 1) := hd
            simp [cmpI, this]
          have e4 : bestE f (k + 1) = k := by rw [HE.out, if_pos hd]
          obtain ⟨x, hx⟩ : ∃ x, cmpI (f k 3 - f k 0 - (f k 2 - f k 1)) (f j 3 - f j 0 - (f j 2 - f j 1)) = x := ⟨_, rfl⟩
          rw [hx] at e3 ⊢
          clear hx
          go_wp2
          go_roundw
          case rel => exact ⟨k + 1, hlt, by go_num, by rw [e4], (by first | exact hs | exact (hs).alloc _ | exact ((hs).alloc _).alloc _ | exact (((hs).alloc _).alloc _).alloc _ | exact ((((hs).alloc _).alloc _).alloc _).alloc _ | exact (hs).drew | exact ((hs).alloc _).drew | exact (((hs).alloc _).alloc _).drew | exact ((((hs).alloc _).alloc _).alloc _).drew | exact (((((hs).alloc _).alloc _).alloc _).alloc _).drew | exact (hs).drewN _ | exact ((hs).alloc _).drewN _ | exact (((hs).alloc _).alloc _).drewN _ | exact ((((hs).alloc _).alloc _).alloc _).drewN _ | exact (((((hs).alloc _).alloc _).alloc _).alloc _).drewN _)⟩
          case measure => simp [intOf]; omega
        · have e3 : 0 ≤ cmpI (f k 3 - f k 0 - (f k 2 - f k 1)) (f j 3 - f j 0 - (f j 2 - f j 1)) := by
            have h1 : ¬ f k 3 - f k 0 - (f k 2 - f k 1) < f j 3 - f j 0 - (f j 2 - f j 1) := hd
            simp only [cmpI, h1, if_false]
            split <;> simp
          have e4 : bestE f (k + 1) = j := by rw [HE.out, if_neg hd]
          obtain ⟨x, hx⟩ : ∃ x, cmpI (f k 3 - f k 0 - (f k 2 - f k 1)) (f j 3 - f j 0 - (f j 2 - f j 1)) = x := ⟨_, rfl⟩
          rw [hx] at e3 ⊢
          clear hx
          go_wp2
          go_roundw
          case rel => exact ⟨k + 1, hlt, by go_num, by rw [e4], (by first | exact hs | exact (hs).alloc _ | exact ((hs).alloc _).alloc _ | exact (((hs).alloc _).alloc _).alloc _ | exact ((((hs).alloc _).alloc _).alloc _).alloc _ | exact (hs).drew | exact ((hs).alloc _).drew | exact (((hs).alloc _).alloc _).drew | exact ((((hs).alloc _).alloc _).alloc _).drew | exact (((((hs).alloc _).alloc _).alloc _).alloc _).drew | exact (hs).drewN _ | exact ((hs).alloc _).drewN _ | exact (((hs).alloc _).alloc _).drewN _ | exact ((((hs).alloc _).alloc _).alloc _).drewN _ | exact (((((hs).alloc _).alloc _).alloc _).alloc _).drewN _)⟩
          case measure => simp [intOf]; omega
    · obtain rfl : k = n := by omega
      go_wp2
      go_ret
      exact Ret.mk1 rfl hs.done

theorem implBestExchange_c (va : Value) (n : Nat) (f : Nat → Nat → Int) (w : World) (h : RdM 4 w va n (eC f)) :
    Calls Try.prog 34 #[va] w (Ret w fun v _ => v = .int .i64 (bxV n f)) := by
  obtain ⟨a, ca, rfl, ma⟩ := h.form
  have hs := SH.start w [rdMP 4 (.slice a n ca) n (eC f)] (by simp only [List.forall_mem_cons]; exact ⟨⟨⟨h, by decide⟩, rdMP_wr⟩, by simp⟩)
  clear h
  by_cases hl : 100 < n
  · rw [bxV_big hl]
    go_enter Try.func34, Try.ntmps34
    go_wp2
    go_ret
    exact Ret.mk1 rfl hs.done
  go_enter Try.func34, Try.ntmps34
  go_wp2
  go_loopw [10] (fun i wr => ∃ k : Nat, k ≤ n ∧ i = .int .i64 k ∧ Hid (∀ i, i < k → exAt f i = true) ∧ SH none w wr [rdMP 4 (.slice a n ca) n (eC f)]) (fun i _ => n - (intOf i).toNat)
  case atStart => exact ⟨0, Nat.zero_le _, rfl, Lib.hid (fun i h => absurd h (Nat.not_lt_zero _)), hs⟩
  case round =>
    obtain ⟨k, hk, rfl, HV, hs⟩ := hrel
    by_cases hlt : k < n
    · obtain ⟨ba, oa, rfl, hca⟩ := hs.p0.1.at_ hlt
      have hc0 : wr.cell? ⟨ba, oa + k * 4, none⟩ = some (.int .i64 (f k 0)) := hca 0 (by decide)
      have hc1 : wr.cell? ⟨ba, oa + k * 4 + 1, none⟩ = some (.int .i64 (f k 1)) := hca 1 (by decide)
      have hc2 : wr.cell? ⟨ba, oa + k * 4 + 2, none⟩ = some (.int .i64 (f k 2)) := hca 2 (by decide)
      have hc3 : wr.cell? ⟨ba, oa + k * 4 + 3, none⟩ = some (.int .i64 (f k 3)) := hca 3 (by decide)
      clear hca
      go_wp2_with fail
      refine (SH.ret hs (by repeat' (first | with_reducible exact Below.refl _ _ | with_reducible assumption | with_reducible refine below_drewN ?_ _ | with_reducible refine Below.drew ?_ | with_reducible refine Below.alloc ?_ ?_ _ | with_reducible refine Below.setCell ?_ ?_ _ | go_size)) fun hs => implExchangeValid_c (f k 0) (f k 1) (f k 2) (f k 3) _).mono ?_
      rintro e w2 ⟨v, rfl, rfl, hs⟩
      clear hc0 hc1 hc2 hc3
      cases hx : exB (f k 0) (f k 1) (f k 2) (f k 3)
      · have hx' : exAt f k = false := hx
        go_wp2
        go_ret
        exact Ret.mk1 (intv (bxV_bad hlt hx').symm) (SH.done (by first | exact hs | exact (hs).alloc _ | exact ((hs).alloc _).alloc _ | exact (((hs).alloc _).alloc _).alloc _ | exact ((((hs).alloc _).alloc _).alloc _).alloc _ | exact (hs).drew | exact ((hs).alloc _).drew | exact (((hs).alloc _).alloc _).drew | exact ((((hs).alloc _).alloc _).alloc _).drew | exact (((((hs).alloc _).alloc _).alloc _).alloc _).drew | exact (hs).drewN _ | exact ((hs).alloc _).drewN _ | exact (((hs).alloc _).alloc _).drewN _ | exact ((((hs).alloc _).alloc _).alloc _).drewN _ | exact (((((hs).alloc _).alloc _).alloc _).alloc _).drewN _))
      · have HV2 : Hid (∀ i, i < k + 1 → exAt f i = true) := Lib.hid (fun i hi => by
          rcases Nat.lt_succ_iff_lt_or_eq.1 hi with h1 | rfl
          · exact HV.out i h1
          · exact hx)
        go_wp2
        go_roundw
        case rel => exact ⟨k + 1, hlt, by go_num, HV2, (by first | exact hs | exact (hs).alloc _ | exact ((hs).alloc _).alloc _ | exact (((hs).alloc _).alloc _).alloc _ | exact ((((hs).alloc _).alloc _).alloc _).alloc _ | exact (hs).drew | exact ((hs).alloc _).drew | exact (((hs).alloc _).alloc _).drew | exact ((((hs).alloc _).alloc _).alloc _).drew | exact (((((hs).alloc _).alloc _).alloc _).alloc _).drew | exact (hs).drewN _ | exact ((hs).alloc _).drewN _ | exact (((hs).alloc _).alloc _).drewN _ | exact ((((hs).alloc _).alloc _).alloc _).drewN _ | exact (((((hs).alloc _).alloc _).alloc _).alloc _).drewN _)⟩
        case measure => simp [intOf]; omega
    · obtain rfl : k = n := by omega
      go_wp2_with fail
      refine (SH.ret hs (by repeat' (first | with_reducible exact Below.refl _ _ | with_reducible assumption | with_reducible refine below_drewN ?_ _ | with_reducible refine Below.drew ?_ | with_reducible refine Below.alloc ?_ ?_ _ | with_reducible refine Below.setCell ?_ ?_ _ | go_size)) fun hs => firstLeast_c _ k f _ hs.p0.1 HV.out (by omega)).mono ?_
      rintro e w2 ⟨v, rfl, rfl, hs⟩
      go_wp2
      go_ret
      exact Ret.mk1 (intv (bxV_ok (by omega) HV.out).symm) (SH.done (by first | exact hs | exact (hs).alloc _ | exact ((hs).alloc _).alloc _ | exact (((hs).alloc _).alloc _).alloc _ | exact ((((hs).alloc _).alloc _).alloc _).alloc _ | exact (hs).drew | exact ((hs).alloc _).drew | exact (((hs).alloc _).alloc _).drew | exact ((((hs).alloc _).alloc _).alloc _).drew | exact (((((hs).alloc _).alloc _).alloc _).alloc _).drew | exact (hs).drewN _ | exact ((hs).alloc _).drewN _ | exact (((hs).alloc _).alloc _).drewN _ | exact ((((hs).alloc _).alloc _).alloc _).drewN _ | exact (((((hs).alloc _).alloc _).alloc _).alloc _).drewN _))

theorem specBestExchange_c (va : Value) (n : Nat) (f : Nat → Nat → Int) (w : World) (h : RdM 4 w va n (eC f)) :
    Calls Try.prog 32 #[va] w (Ret w fun v _ => v = .int .i64 (bxV n f)) := by
  obtain ⟨a, ca, rfl, ma⟩ := h.form
  have hs := SH.start w [rdMP 4 (.slice a n ca) n (eC f)] (by simp only [List.forall_mem_cons]; exact ⟨⟨⟨h, by decide⟩, rdMP_wr⟩, by simp⟩)
  clear h
  by_cases hl : 100 < n
  · rw [bxV_big hl]
    go_enter Try.func32, Try.ntmps32
    go_wp2
    go_ret
    exact Ret.mk1 rfl hs.done
  go_enter Try.func32, Try.ntmps32
  go_wp2
  go_loopw [3, 4, 5, 6, 7, 8] (fun bt i _ _ _ _ wr => ∃ k : Nat, k ≤ n ∧ i = .int .i64 k ∧ bt = .int .i64 (bestE f k) ∧ Hid (∀ i, i < k → exAt f i = true) ∧ SH none w wr [rdMP 4 (.slice a n ca) n (eC f)]) (fun _ i _ _ _ _ _ => n - (intOf i).toNat)
  case atStart => exact ⟨0, Nat.zero_le _, rfl, rfl, Lib.hid (fun i h => absurd h (Nat.not_lt_zero _)), hs⟩
  case round =>
    obtain ⟨k, hk, rfl, rfl, HV, hs⟩ := hrel
    obtain ⟨b0, b1, b2⟩ := bestE_bd f k
    by_cases hlt : k < n
    · obtain ⟨ba, oa, rfl, hca⟩ := hs.p0.1.at_ hlt
      have hc0 : wr.cell? ⟨ba, oa + k * 4, none⟩ = some (.int .i64 (f k 0)) := hca 0 (by decide)
      have hc1 : wr.cell? ⟨ba, oa + k * 4 + 1, none⟩ = some (.int .i64 (f k 1)) := hca 1 (by decide)
      have hc2 : wr.cell? ⟨ba, oa + k * 4 + 2, none⟩ = some (.int .i64 (f k 2)) := hca 2 (by decide)
      have hc3 : wr.cell? ⟨ba, oa + k * 4 + 3, none⟩ = some (.int .i64 (f k 3)) := hca 3 (by decide)
      clear hca
      go_wp2_with fail
      refine (SH.ret hs (by repeat' (first | with_reducible exact Below.refl _ _ | with_reducible assumption | with_reducible refine below_drewN ?_ _ | with_reducible refine Below.drew ?_ | with_reducible refine Below.alloc ?_ ?_ _ | with_reducible refine Below.setCell ?_ ?_ _ | go_size)) fun hs => specExchangeValid_c (f k 0) (f k 1) (f k 2) (f k 3) _).mono ?_
      rintro e w2 ⟨v, rfl, rfl, hs⟩
      clear hc0 hc1 hc2 hc3
      cases hx : exB (f k 0) (f k 1) (f k 2) (f k 3)
      · have hx' : exAt f k = false := hx
        go_wp2
        go_ret
        exact Ret.mk1 (intv (bxV_bad hlt hx').symm) (SH.done (by first | exact hs | exact (hs).alloc _ | exact ((hs).alloc _).alloc _ | exact (((hs).alloc _).alloc _).alloc _ | exact ((((hs).alloc _).alloc _).alloc _).alloc _ | exact (hs).drew | exact ((hs).alloc _).drew | exact (((hs).alloc _).alloc _).drew | exact ((((hs).alloc _).alloc _).alloc _).drew | exact (((((hs).alloc _).alloc _).alloc _).alloc _).drew | exact (hs).drewN _ | exact ((hs).alloc _).drewN _ | exact (((hs).alloc _).alloc _).drewN _ | exact ((((hs).alloc _).alloc _).alloc _).drewN _ | exact (((((hs).alloc _).alloc _).alloc _).alloc _).drewN _))
      · have HV2 : Hid (∀ i, i < k + 1 → exAt f i = true) := Lib.hid (fun i hi => by
          rcases Nat.lt_succ_iff_lt_or_eq.1 hi with h1 | rfl
          · exact HV.out i h1
          · exact hx)
        have hcv := coV_true hx
        obtain ⟨p1, p2⟩ := dlAt_bd (HV2.out k (by omega))
        obtain ⟨bb, ob, he, hca⟩ := hs.p0.1.at_ hlt
        simp only [Option.some.injEq, Addr.mk.injEq, and_true] at he
        obtain ⟨rfl, rfl⟩ := he
        have hc0 : w2.cell? ⟨ba, oa + k * 4, none⟩ = some (.int .i64 (f k 0)) := hca 0 (by decide)
        have hc1 : w2.cell? ⟨ba, oa + k * 4 + 1, none⟩ = some (.int .i64 (f k 1)) := hca 1 (by decide)
        have hc2 : w2.cell? ⟨ba, oa + k * 4 + 2, none⟩ = some (.int .i64 (f k 2)) := hca 2 (by decide)
        have hc3 : w2.cell? ⟨ba, oa + k * 4 + 3, none⟩ = some (.int .i64 (f k 3)) := hca 3 (by decide)
        clear hca
        go_wp2_with fail
        refine (SH.ret hs (by repeat' (first | with_reducible exact Below.refl _ _ | with_reducible assumption | with_reducible refine below_drewN ?_ _ | with_reducible refine Below.drew ?_ | with_reducible refine Below.alloc ?_ ?_ _ | with_reducible refine Below.setCell ?_ ?_ _ | go_size)) fun hs => specClockOffset_c (f k 0) (f k 1) (f k 2) (f k 3) _).mono ?_
        rintro e w3 ⟨v, rfl, rfl, hs⟩
        rw [hcv]
        clear hc0 hc1 hc2 hc3 hcv hx
        rcases Nat.eq_zero_or_pos k with hz | hz
        · have e1 : bestE f k = -1 := by subst hz; rfl
          have e2 : bestE f (k + 1) = k := by simp only [bestE]; rw [if_pos (by omega)]
          rw [e1]
          go_wp2
          go_roundw
          case rel => exact ⟨k + 1, hlt, by go_num, intv (by omega), HV2, (by first | exact hs | exact (hs).alloc _ | exact ((hs).alloc _).alloc _ | exact (((hs).alloc _).alloc _).alloc _ | exact ((((hs).alloc _).alloc _).alloc _).alloc _ | exact (hs).drew | exact ((hs).alloc _).drew | exact (((hs).alloc _).alloc _).drew | exact ((((hs).alloc _).alloc _).alloc _).drew | exact (((((hs).alloc _).alloc _).alloc _).alloc _).drew | exact (hs).drewN _ | exact ((hs).alloc _).drewN _ | exact (((hs).alloc _).alloc _).drewN _ | exact ((((hs).alloc _).alloc _).alloc _).drewN _ | exact (((((hs).alloc _).alloc _).alloc _).alloc _).drewN _)⟩
          case measure => simp [intOf]; omega
        · obtain ⟨j, hj⟩ : ∃ j : Nat, bestE f k = j := ⟨(bestE f k).toNat, by omega⟩
          have hjk : j < k := by omega
          have e2 : bestE f (k + 1) = if dlAt f k < dlAt f j then (k : Int) else j := by
            simp only [bestE, hj, Int.toNat_natCast]
            by_cases h : dlAt f k < dlAt f j
            · rw [if_pos (.inr h), if_pos h]
            · rw [if_neg (by omega), if_neg h]
          rw [hj]
          have HE := Lib.hid e2
          have hxj : exB (f j 0) (f j 1) (f j 2) (f j 3) = true := HV.out j hjk
          have hcv := coV_true hxj
          obtain ⟨p3, p4⟩ := dlAt_bd (HV.out j hjk)
          clear e2 hj b0 b1 b2 hxj
          obtain ⟨bb, ob, he, hca⟩ := hs.p0.1.at_ (show j < n by omega)
          simp only [Option.some.injEq, Addr.mk.injEq, and_true] at he
          obtain ⟨rfl, rfl⟩ := he
          have hc0 : w3.cell? ⟨ba, oa + j * 4, none⟩ = some (.int .i64 (f j 0)) := hca 0 (by decide)
          have hc1 : w3.cell? ⟨ba, oa + j * 4 + 1, none⟩ = some (.int .i64 (f j 1)) := hca 1 (by decide)
          have hc2 : w3.cell? ⟨ba, oa + j * 4 + 2, none⟩ = some (.int .i64 (f j 2)) := hca 2 (by decide)
          have hc3 : w3.cell? ⟨ba, oa + j * 4 + 3, none⟩ = some (.int .i64 (f j 3)) := hca 3 (by decide)
          clear hca
          go_wp2_with fail
          refine (SH.ret hs (by repeat' (first | with_reducible exact Below.refl _ _ | with_reducible assumption | with_reducible refine below_drewN ?_ _ | with_reducible refine Below.drew ?_ | with_reducible refine Below.alloc ?_ ?_ _ | with_reducible refine Below.setCell ?_ ?_ _ | go_size)) fun hs => specClockOffset_c (f j 0) (f j 1) (f j 2) (f j 3) _).mono ?_
          rintro e w4 ⟨v, rfl, rfl, hs⟩
          rw [hcv]
          clear hc0 hc1 hc2 hc3 hcv
          by_cases hd : dlAt f k < dlAt f j
          · have e3 : f k 3 - f k 0 - (f k 2 - f k 1) < f j 3 - f j 0 - (f j 2 - f j 1) := hd
            have e4 : bestE f (k + 1) = k := by rw [HE.out, if_pos hd]
            go_wp2
            go_roundw
            case rel => exact ⟨k + 1, hlt, by go_num, by rw [e4], HV2, (by first | exact hs | exact (hs).alloc _ | exact ((hs).alloc _).alloc _ | exact (((hs).alloc _).alloc _).alloc _ | exact ((((hs).alloc _).alloc _).alloc _).alloc _ | exact (hs).drew | exact ((hs).alloc _).drew | exact (((hs).alloc _).alloc _).drew | exact ((((hs).alloc _).alloc _).alloc _).drew | exact (((((hs).alloc _).alloc _).alloc _).alloc _).drew | exact (hs).drewN _ | exact ((hs).alloc _).drewN _ | exact (((hs).alloc _).alloc _).drewN _ | exact ((((hs).alloc _).alloc _).alloc _).drewN _ | exact (((((hs).alloc _).alloc _).alloc _).alloc _).drewN _)⟩
            case measure => simp [intOf]; omega
          · have e3 : f j 3 - f j 0 - (f j 2 - f j 1) ≤ f k 3 - f k 0 - (f k 2 - f k 1) := Int.not_lt.1 hd
            have e4 : bestE f (k + 1) = j := by rw [HE.out, if_neg hd]
            go_wp2
            go_roundw
            case rel => exact ⟨k + 1, hlt, by go_num, by rw [e4], HV2, (by first | exact hs | exact (hs).alloc _ | exact ((hs).alloc _).alloc _ | exact (((hs).alloc _).alloc _).alloc _ | exact ((((hs).alloc _).alloc _).alloc _).alloc _ | exact (hs).drew | exact ((hs).alloc _).drew | exact (((hs).alloc _).alloc _).drew | exact ((((hs).alloc _).alloc _).alloc _).drew | exact (((((hs).alloc _).alloc _).alloc _).alloc _).drew | exact (hs).drewN _ | exact ((hs).alloc _).drewN _ | exact (((hs).alloc _).alloc _).drewN _ | exact ((((hs).alloc _).alloc _).alloc _).drewN _ | exact (((((hs).alloc _).alloc _).alloc _).alloc _).drewN _)⟩
            case measure => simp [intOf]; omega
    · obtain rfl : k = n := by omega
      go_wp2
      go_ret
      exact Ret.mk1 (intv (bxV_ok (by omega) HV.out).symm) (SH.done (by first | exact hs | exact (hs).alloc _ | exact ((hs).alloc _).alloc _ | exact (((hs).alloc _).alloc _).alloc _ | exact ((((hs).alloc _).alloc _).alloc _).alloc _ | exact (hs).drew | exact ((hs).alloc _).drew | exact (((hs).alloc _).alloc _).drew | exact ((((hs).alloc _).alloc _).alloc _).drew | exact (((((hs).alloc _).alloc _).alloc _).alloc _).drew | exact (hs).drewN _ | exact ((hs).alloc _).drewN _ | exact (((hs).alloc _).alloc _).drewN _ | exact ((((hs).alloc _).alloc _).alloc _).drewN _ | exact (((((hs).alloc _).alloc _).alloc _).alloc _).drewN _))

theorem eC_of {m n : Nat} {c : Nat → Nat → Value} (h : ∀ i, i < n → ∃ g : Nat → Int, ∀ j, j < m → c i j = .int .i64 (g j)) : ∃ f : Nat → Nat → Int, ∀ i j, i < n → j < m → c i j = eC f i j := by
  obtain ⟨f, hf⟩ := Go.Deep.choose_lt h
  exact ⟨f, fun i j hi hj => hf i hi j hj⟩

theorem openExchanges {H : Type} {enc : TypeId × Value → H} {w : World} {spare : Nat → Bool} {held : Bool} {r : Reach} {bs : Nat} {v : Value} {d : DataW H} {p : List MemPlace}
    (hv : Value.okWide Try.prog w r bs 36 v) (h : DataW.Trod enc Try.prog w 0 spare held 36 v d p) : ∃ (n : Nat) (f : Nat → Nat → Int), RdM 4 w v n (eC f) := by
  obtain ⟨n, c, hr, hq⟩ := rdM_of_trod (m := 4) Try.underlying36 (by kernel_rfl) (by decide) hv h isInts4
    (fun n cs x hx => ints4_of_trod Try.underlying63 rfl rfl rfl rfl (by kernel_rfl) (by kernel_rfl) (by kernel_rfl) (by kernel_rfl) (by kernel_rfl) Try.underlying3 Try.underlying3 Try.underlying3 Try.underlying3 hx)
  obtain ⟨f, hf⟩ := eC_of (m := 4) (fun i hi => by
    obtain ⟨a, b, c', d', e0, e1, e2, e3⟩ := hq i hi
    refine ⟨fun j => if j = 0 then a else if j = 1 then b else if j = 2 then c' else d', fun j hj => ?_⟩
    have : j = 0 ∨ j = 1 ∨ j = 2 ∨ j = 3 := by omega
    rcases this with rfl | rfl | rfl | rfl
    · exact e0
    · exact e1
    · exact e2
    · exact e3)
  exact ⟨n, f, hr.congr hf⟩

theorem fnExactBestExchange_c (va : Value) (n : Nat) (f : Nat → Nat → Int) (w : World) (h : RdM 4 w va n (eC f)) :
    Calls Try.prog 9 #[va] w (Ret w fun v _ => v = .bool true) := by
  obtain ⟨a, ca, rfl, ma⟩ := h.form
  have hs := SH.start w [rdMP 4 (.slice a n ca) n (eC f)] (by simp only [List.forall_mem_cons]; exact ⟨⟨⟨h, by decide⟩, rdMP_wr⟩, by simp⟩)
  clear h
  go_enter Try.func9, Try.ntmps9
  go_wp2_with fail
  refine (SH.quiet hs (by repeat' (first | with_reducible exact Below.refl _ _ | with_reducible assumption | with_reducible refine below_drewN ?_ _ | with_reducible refine Below.drew ?_ | with_reducible refine Below.alloc ?_ ?_ _ | with_reducible refine Below.setCell ?_ ?_ _ | go_size)) fun hs => szExchangeS_c _ n f _ hs.p0.1).mono ?_
  rintro e w1 ⟨rfl, hs⟩
  by_cases hl : n ≤ 1048576
  case neg =>
    rw [if_neg hl]
    go_wp2
    go_ret
    exact Ret.mk1 rfl (SH.done (by first | exact hs | exact (hs).alloc _ | exact ((hs).alloc _).alloc _ | exact (((hs).alloc _).alloc _).alloc _ | exact ((((hs).alloc _).alloc _).alloc _).alloc _ | exact (hs).drew | exact ((hs).alloc _).drew | exact (((hs).alloc _).alloc _).drew | exact ((((hs).alloc _).alloc _).alloc _).drew | exact (((((hs).alloc _).alloc _).alloc _).alloc _).drew | exact (hs).drewN _ | exact ((hs).alloc _).drewN _ | exact (((hs).alloc _).alloc _).drewN _ | exact ((((hs).alloc _).alloc _).alloc _).drewN _ | exact (((((hs).alloc _).alloc _).alloc _).alloc _).drewN _))
  rw [if_pos hl]
  go_wp2_with fail
  refine (SH.ownM hs (by repeat' (first | with_reducible exact Below.refl _ _ | with_reducible assumption | with_reducible refine below_drewN ?_ _ | with_reducible refine Below.drew ?_ | with_reducible refine Below.alloc ?_ ?_ _ | with_reducible refine Below.setCell ?_ ?_ _ | go_size)) fun hs => toExchangeS_c _ n f _ hs.p0.1 hl).mono ?_
  rintro e w2 ⟨v2, rfl, hs⟩
  go_wp2_with fail
  refine (SH.ret hs (by repeat' (first | with_reducible exact Below.refl _ _ | with_reducible assumption | with_reducible refine below_drewN ?_ _ | with_reducible refine Below.drew ?_ | with_reducible refine Below.alloc ?_ ?_ _ | with_reducible refine Below.setCell ?_ ?_ _ | go_size)) fun hs => specBestExchange_c _ n f _ (OwnM.rd hs.p0)).mono ?_
  rintro e w3 ⟨v, rfl, rfl, hs⟩
  have hs := hs.drop0
  go_wp2_with fail
  refine (SH.ownM hs (by repeat' (first | with_reducible exact Below.refl _ _ | with_reducible assumption | with_reducible refine below_drewN ?_ _ | with_reducible refine Below.drew ?_ | with_reducible refine Below.alloc ?_ ?_ _ | with_reducible refine Below.setCell ?_ ?_ _ | go_size)) fun hs => toExchangeS_c _ n f _ hs.p0.1 hl).mono ?_
  rintro e w4 ⟨v4, rfl, hs⟩
  go_wp2_with fail
  refine (SH.ret hs (by repeat' (first | with_reducible exact Below.refl _ _ | with_reducible assumption | with_reducible refine below_drewN ?_ _ | with_reducible refine Below.drew ?_ | with_reducible refine Below.alloc ?_ ?_ _ | with_reducible refine Below.setCell ?_ ?_ _ | go_size)) fun hs => implBestExchange_c _ n f _ (OwnM.rd hs.p0)).mono ?_
  rintro e w5 ⟨v, rfl, rfl, hs⟩
  have hcmp : (bxV n f != bxV n f) = false := bne_self_eq_false _
  go_wp2_with fail
  refine (SH.ownM hs.bring1 (by repeat' (first | with_reducible exact Below.refl _ _ | with_reducible assumption | with_reducible refine below_drewN ?_ _ | with_reducible refine Below.drew ?_ | with_reducible refine Below.alloc ?_ ?_ _ | with_reducible refine Below.setCell ?_ ?_ _ | go_size)) fun hs => toExchangeS_c _ n f _ hs.p0.1 hl).mono ?_
  rintro e w6 ⟨v6, rfl, hs⟩
  go_wp2_with fail
  refine (SH.ret hs (by repeat' (first | with_reducible exact Below.refl _ _ | with_reducible assumption | with_reducible refine below_drewN ?_ _ | with_reducible refine Below.drew ?_ | with_reducible refine Below.alloc ?_ ?_ _ | with_reducible refine Below.setCell ?_ ?_ _ | go_size)) fun hs => eqExchangeS_c _ _ n f _ (OwnM.rd hs.p2) (OwnM.rd hs.p0)).mono ?_
  rintro e w7 ⟨v, rfl, rfl, hs⟩
  go_wp2
  go_ret
  exact Ret.mk1 rfl (SH.done (by first | exact hs | exact (hs).alloc _ | exact ((hs).alloc _).alloc _ | exact (((hs).alloc _).alloc _).alloc _ | exact ((((hs).alloc _).alloc _).alloc _).alloc _ | exact (hs).drew | exact ((hs).alloc _).drew | exact (((hs).alloc _).alloc _).drew | exact ((((hs).alloc _).alloc _).alloc _).drew | exact (((((hs).alloc _).alloc _).alloc _).alloc _).drew | exact (hs).drewN _ | exact ((hs).alloc _).drewN _ | exact (((hs).alloc _).alloc _).drewN _ | exact ((((hs).alloc _).alloc _).alloc _).drewN _ | exact (((((hs).alloc _).alloc _).alloc _).alloc _).drewN _))

end Go.Proofs.Ytfllfbmdnokmnaa
