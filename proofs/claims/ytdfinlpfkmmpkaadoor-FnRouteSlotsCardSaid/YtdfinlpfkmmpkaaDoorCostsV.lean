import Derived.Test.YtdfinlpfkmmpkaaDoorProg
import Derived.Test.YtdfinlpfkmmpkaaDoorCosts
import Derived.Test.YtdfinlpfkmmpkaaDoorRoutePl
import Derived.Test.YtdfinlpfkmmpkaaDoorApp
namespace Go.Proofs.YtdfinlpfkmmpkaaDoor
open Go.RowKit

theorem rowCell {w : World} {b off n cap : Nat} {c : Nat → Nat → Value} (h : RdM 1 w (.slice (some ⟨b, off, none⟩) n cap) n c) {k : Nat} (hk : k < n) : w.cell? ⟨b, off + k, none⟩ = some (c k 0) := by
  obtain ⟨b', o', e, hc⟩ := h.at_ hk
  cases e
  simpa using hc 0 (by decide)
theorem rowAt {w : World} {a : Option Addr} {n cap : Nat} {vs : Nat → Value} {xss : List (List Int)} (h : RdSS w (.slice a n cap) vs xss) {k : Nat} (hk : k < xss.length) :
    ∃ b off ak ck, a = some ⟨b, off, none⟩ ∧ vs k = .slice ak (gl xss k).length ck ∧ w.cell? ⟨b, off + k, none⟩ = some (.slice ak (gl xss k).length ck) ∧ RdI w (.slice ak (gl xss k).length ck) (gl xss k) := by
  obtain ⟨b, off, e, hc⟩ := h.rows.at_ hk
  have hr := h.each k hk
  obtain ⟨ak, ck, ek, lk⟩ := hr.form
  refine ⟨b, off, ak, ck, e, ek, ?_, ek ▸ hr⟩
  have := hc 0 (by decide)
  rw [← ek]
  simpa [oneC] using this
theorem RdSS.below {w w' : World} {v : Value} {vs : Nat → Value} {xss : List (List Int)} (h : RdSS w v vs xss) (hb : Below w.heap.size w w') : RdSS w' v vs xss :=
  ⟨h.rows.below (by decide) hb, fun i hi => (h.each i hi).below hb⟩

set_option maxHeartbeats 1000000 in
theorem implCostsValid_c (va : Value) (vs : Nat → Value) (xss : List (List Int)) (w : World) (h : RdSS w va vs xss) :
    Calls Tryd.prog 26 #[va] w (RetQ w (.bool (cvB xss))) := by
  obtain ⟨a, ca, rfl, ml⟩ := h.rows.form
  have H := Lib.hid h
  clear h
  by_cases hl : 10 < xss.length
  · have HF := Lib.hid (cvB_long hl)
    go_enter Tryd.func26, Tryd.ntmps26
    go_wp2
    go_ret
    exact RetQ.mkS (boolv HF.out.symm) (SameW.refl _)
  go_enter Tryd.func26, Tryd.ntmps26
  go_wp2
  go_loopw [12] (fun i wr => ∃ k : Nat, k ≤ xss.length ∧ i = .int .i64 k ∧ Hid (∀ i, i < k → cvRow xss i = true) ∧ SameW w wr) (fun i _ => xss.length - (intOf i).toNat)
  case atStart => exact ⟨0, Nat.zero_le _, rfl, Lib.hid (fun i h => absurd h (Nat.not_lt_zero _)), SameW.refl _⟩
  case round =>
    obtain ⟨k, hk, rfl, HR, hsame⟩ := hrel
    have HS := Lib.hid hsame
    clear hsame
    by_cases hlt : k < xss.length
    · obtain ⟨b, off, ak, ck, rfl, -, hc0, hrk⟩ := rowAt (H.out.below HS.out.below) hlt
      by_cases hlen : (gl xss k).length = xss.length
      case neg =>
        have HF := Lib.hid (cvB_bad hlt (cvRow_len hlen))
        have hne : (((gl xss k).length : Int) != (xss.length : Int)) = true := by simp; omega
        clear hlen hrk
        go_wp2
        go_ret
        exact RetQ.mkS (boolv HF.out.symm) HS.out
      obtain ⟨b2, o2, rfl, hd⟩ := hrk.at_ (i := k) (by omega)
      have hne : (((gl xss k).length : Int) != (xss.length : Int)) = false := by simp [hlen]
      have HLen := Lib.hid hlen
      have hkl : (k : Int) < ((gl xss k).length : Int) := by omega
      by_cases h0 : gi (gl xss k) k = 0
      case neg =>
        have HF := Lib.hid (cvB_bad hlt (cvRow_diag h0))
        clear hlen hrk
        go_wp2
        go_ret
        exact RetQ.mkS (boolv HF.out.symm) HS.out
      have H0 := Lib.hid h0
      have hd0 : wr.cell? ⟨b2, o2 + k, none⟩ = some (.int .i64 0) := by rw [hd, h0]
      have HRK := Lib.hid hrk
      clear hrk hd h0 hlen
      generalize hL : (gl xss k).length = L at *
      have hLb : L ≤ 10 := by have := HLen.out; omega
      go_wp2
      clear hc0 hd0
      go_loopw [31] (fun i wq => ∃ j : Nat, j ≤ L ∧ i = .int .i64 j ∧ Hid (∀ m, m < j → 0 ≤ gi (gl xss k) m ∧ gi (gl xss k) m ≤ 100) ∧ SameW wr wq) (fun i _ => L - (intOf i).toNat)
      case atStart => exact ⟨0, Nat.zero_le _, rfl, Lib.hid (fun i h => absurd h (Nat.not_lt_zero _)), SameW.refl _⟩
      case round =>
        obtain ⟨j, hj, rfl, HJ, hsame⟩ := hrel
        have HSJ := Lib.hid hsame
        clear hsame
        by_cases hjl : j < L
        · obtain ⟨b3, o3, e3, hcj⟩ := (HRK.out.below HSJ.out.below).at_ hjl
          cases e3
          by_cases hb : 0 ≤ gi (gl xss k) j ∧ gi (gl xss k) j ≤ 100
          · have HB := Lib.hid hb
            obtain ⟨hb1, hb2⟩ := hb
            go_wp2
            go_roundw
            case rel =>
              refine ⟨j + 1, hjl, by go_num, Lib.hid (fun m hm => ?_), HSJ.out⟩
              rcases Nat.lt_succ_iff_lt_or_eq.1 hm with h1 | rfl
              · exact HJ.out m h1
              · exact HB.out
            case measure => simp [intOf]; omega
          · have HF := Lib.hid (cvB_bad hlt (cvRow_num (j := j) (by have := HLen.out; omega) hb))
            by_cases hb1 : gi (gl xss k) j < 0
            · clear hb
              go_wp2
              go_ret
              exact RetQ.mkS (boolv HF.out.symm) (HS.out.trans HSJ.out)
            · have hb2 : 100 < gi (gl xss k) j := by omega
              clear hb
              go_wp2
              go_ret
              exact RetQ.mkS (boolv HF.out.symm) (HS.out.trans HSJ.out)
        · obtain rfl : j = L := by omega
          go_wp2
          go_roundw
          case rel =>
            refine ⟨k + 1, hlt, by go_num, Lib.hid (fun m hm => ?_), HS.out.trans HSJ.out⟩
            rcases Nat.lt_succ_iff_lt_or_eq.1 hm with h1 | rfl
            · exact HR.out m h1
            · refine cvRow_true.2 ⟨by rw [hL]; exact HLen.out, H0.out, fun m hm => HJ.out m ?_⟩
              have := HLen.out; omega
          case measure => simp [intOf]; omega
    · obtain rfl : k = xss.length := by omega
      go_wp2
      go_ret
      exact RetQ.mkS (boolv (cvB_true.2 ⟨by omega, HR.out⟩).symm) HS.out

set_option maxHeartbeats 1000000 in
theorem specCostsValid_c (va : Value) (vs : Nat → Value) (xss : List (List Int)) (w : World) (h : RdSS w va vs xss) :
    Calls Tryd.prog 16 #[va] w (RetQ w (.bool (cvB xss))) := by
  obtain ⟨a, ca, rfl, ml⟩ := h.rows.form
  have H := Lib.hid h
  clear h
  go_enter Tryd.func16, Tryd.ntmps16
  go_wp2
  go_loopw [4] (fun i wr => ∃ k : Nat, k ≤ xss.length ∧ i = .int .i64 k ∧ Hid (∀ i, i < k → cvRow xss i = true) ∧ SameW w wr) (fun i _ => xss.length - (intOf i).toNat)
  case atStart => exact ⟨0, Nat.zero_le _, rfl, Lib.hid (fun i h => absurd h (Nat.not_lt_zero _)), SameW.refl _⟩
  case round =>
    obtain ⟨k, hk, rfl, HR, hsame⟩ := hrel
    have HS := Lib.hid hsame
    clear hsame
    by_cases hlt : k < xss.length
    · obtain ⟨b, off, ak, ck, rfl, -, hc0, hrk⟩ := rowAt (H.out.below HS.out.below) hlt
      by_cases hlen : (gl xss k).length = xss.length
      case neg =>
        have HF := Lib.hid (cvB_bad hlt (cvRow_len hlen))
        have hne : (((gl xss k).length : Int) != (xss.length : Int)) = true := by simp; omega
        clear hlen hrk
        go_wp2
        go_ret
        exact RetQ.mkS (boolv HF.out.symm) HS.out
      obtain ⟨b2, o2, rfl, hd⟩ := hrk.at_ (i := k) (by omega)
      have hne : (((gl xss k).length : Int) != (xss.length : Int)) = false := by simp [hlen]
      have HLen := Lib.hid hlen
      have hkl : (k : Int) < ((gl xss k).length : Int) := by omega
      by_cases h0 : gi (gl xss k) k = 0
      case neg =>
        have HF := Lib.hid (cvB_bad hlt (cvRow_diag h0))
        clear hlen hrk
        go_wp2
        go_ret
        exact RetQ.mkS (boolv HF.out.symm) HS.out
      have H0 := Lib.hid h0
      have hd0 : wr.cell? ⟨b2, o2 + k, none⟩ = some (.int .i64 0) := by rw [hd, h0]
      clear hrk hd h0 hlen
      go_wp2
      clear hc0 hd0 hne hkl
      go_loopw [5] (fun i wq => ∃ j : Nat, j ≤ xss.length ∧ i = .int .i64 j ∧ Hid (∀ m, m < j → 0 ≤ gi (gl xss k) m ∧ gi (gl xss k) m ≤ 100) ∧ SameW w wq) (fun i _ => xss.length - (intOf i).toNat)
      case atStart => exact ⟨0, Nat.zero_le _, rfl, Lib.hid (fun i h => absurd h (Nat.not_lt_zero _)), HS.out⟩
      case round =>
        obtain ⟨j, hj, rfl, HJ, hsame⟩ := hrel
        have HSJ := Lib.hid hsame
        clear hsame
        by_cases hjl : j < xss.length
        · obtain ⟨b4, o4, ak, ck, e4, -, hc0, hrk⟩ := rowAt (H.out.below HSJ.out.below) hlt
          cases e4
          obtain ⟨b3, o3, rfl, hcj⟩ := hrk.at_ (i := j) (by have := HLen.out; omega)
          have hkl : (j : Int) < ((gl xss k).length : Int) := by have := HLen.out; omega
          clear hrk
          go_wp2_with fail
          refine (l1In_x (gi (gl xss k) j) 0 100 _).mono ?_
          rintro e w' ⟨rfl, rfl⟩
          cases hb : inB (gi (gl xss k) j) 0 100
          · have HF := Lib.hid (cvB_bad hlt (cvRow_num (j := j) hjl (inB_false.1 hb)))
            go_wp2
            go_ret
            exact RetQ.mkS (boolv HF.out.symm) HSJ.out
          · have HB := Lib.hid (inB_true.1 hb)
            clear hb
            go_wp2
            go_roundw
            case rel =>
              refine ⟨j + 1, hjl, by go_num, Lib.hid (fun m hm => ?_), HSJ.out⟩
              · rcases Nat.lt_succ_iff_lt_or_eq.1 hm with h1 | rfl
                · exact HJ.out m h1
                · exact HB.out
            case measure => simp [intOf]; omega
        · obtain rfl : j = xss.length := by omega
          go_wp2
          go_roundw
          case rel =>
            refine ⟨k + 1, hlt, by go_num, Lib.hid (fun m hm => ?_), HSJ.out⟩
            rcases Nat.lt_succ_iff_lt_or_eq.1 hm with h1 | rfl
            · exact HR.out m h1
            · exact cvRow_true.2 ⟨HLen.out, H0.out, fun m hm => HJ.out m hm⟩
          case measure => simp [intOf]; omega
    · obtain rfl : k = xss.length := by omega
      by_cases hl : xss.length ≤ 10
      · have HT := Lib.hid (cvB_true.2 ⟨hl, HR.out⟩)
        go_wp2
        go_ret
        exact RetQ.mkS (boolv (by rw [HT.out]; simp; omega)) HS.out
      · have HT := Lib.hid (cvB_long (show 10 < xss.length by omega))
        go_wp2
        go_ret
        exact RetQ.mkS (boolv (by rw [HT.out]; simp; omega)) HS.out

theorem implStationOf_c (va : Value) (vs : Nat → Value) (xss : List (List Int)) (to : Int) (w : World) (h : RdSS w va vs xss) :
    Calls Tryd.prog 14 #[va, .int .i64 to] w (RetQ w (.bool (inB to 0 ((xss.length : Int) - 1)))) := by
  obtain ⟨a, ca, rfl, ml⟩ := h.rows.form
  clear h
  by_cases h0 : 0 ≤ to
  · by_cases h1 : to < (xss.length : Int)
    · have HT := Lib.hid (inB_true.2 (show 0 ≤ to ∧ to ≤ (xss.length : Int) - 1 by omega))
      go_enter Tryd.func14, Tryd.ntmps14
      go_wp2
      go_ret
      exact RetQ.mkS (boolv HT.out.symm) (SameW.refl _)
    · have HT := Lib.hid (inB_false.2 (show ¬ (0 ≤ to ∧ to ≤ (xss.length : Int) - 1) by omega))
      go_enter Tryd.func14, Tryd.ntmps14
      go_wp2
      go_ret
      exact RetQ.mkS (boolv HT.out.symm) (SameW.refl _)
  · have HT := Lib.hid (inB_false.2 (show ¬ (0 ≤ to ∧ to ≤ (xss.length : Int) - 1) by omega))
    go_enter Tryd.func14, Tryd.ntmps14
    go_wp2
    go_ret
    exact RetQ.mkS (boolv HT.out.symm) (SameW.refl _)

/-- the sum as the machine reckons it -/
theorem implNextAlong_c (va : Value) (vs : Nat → Value) (xss : List (List Int)) (vc : Value) (cs : List Int) (f : Nat) (w : World) (h : RdSS w va vs xss) (hc : RdI w vc cs) (hl : cs.length = xss.length) (hf : f < xss.length) (hv : cvB xss = true) (hcs : ∀ i, i < xss.length → gi cs i ≤ 1000) :
    Calls Tryd.prog 15 #[va, vc, .int .i64 f] w (RetQ w (.int .i64 (naV xss (gi cs) f))) := by
  obtain ⟨hn10, hrow⟩ := cvB_true.1 hv
  obtain ⟨rl, -, rb⟩ := cvRow_true.1 (hrow f hf)
  obtain ⟨bt, ot, af, cf, hva, -, hc0, hrf⟩ : ∃ bt ot af cf, (∃ ca, va = .slice (some ⟨bt, ot, none⟩) xss.length ca) ∧ True ∧ w.cell? ⟨bt, ot + f, none⟩ = some (.slice af (gl xss f).length cf) ∧ RdI w (.slice af (gl xss f).length cf) (gl xss f) := by
    obtain ⟨a, ca, rfl, ml⟩ := h.rows.form
    obtain ⟨b, off, ak, ck, rfl, -, h1, h2⟩ := rowAt h hf
    exact ⟨b, off, ak, ck, ⟨ca, rfl⟩, trivial, h1, h2⟩
  obtain ⟨ca, rfl⟩ := hva
  obtain ⟨ac, cc, rfl, mc⟩ := hc.form
  rw [rl] at *
  rw [hl] at *
  have HC := Lib.hid hc
  have HRF := Lib.hid hrf
  have RB := Lib.hid rb
  have HCS := Lib.hid hcs
  have HNA := Lib.hid hl
  obtain ⟨bc, oc, rfl, hcf⟩ := hc.at_ hf
  have HCF : Hid (∀ wr, SameW w wr → wr.cell? ⟨bc, oc + f, none⟩ = some (.int .i64 (gi cs f))) := Lib.hid (fun wr hw => by obtain ⟨n, rfl⟩ := hw; exact hcf)
  have hfn : (f : Int) < (xss.length : Int) := by omega
  clear h hc hrf rb hcs hrow hv hl
  go_enter Tryd.func15, Tryd.ntmps15
  go_wp2
  clear hc0 hcf
  go_loopw [14] (fun i wr => ∃ k : Nat, k ≤ xss.length ∧ i = .int .i64 k ∧ Hid (∀ i, i < k → naB xss (gi cs) f i = false) ∧ SameW w wr) (fun i _ => xss.length - (intOf i).toNat)
  case atStart => exact ⟨0, Nat.zero_le _, rfl, Lib.hid (fun i h => absurd h (Nat.not_lt_zero _)), SameW.refl _⟩
  case round =>
    obtain ⟨k, hk, rfl, HR, hsame⟩ := hrel
    have HS := Lib.hid hsame
    clear hsame
    by_cases hlt : k < xss.length
    · obtain ⟨b1, o1, rfl, hg⟩ := (HRF.out.below HS.out.below).at_ hlt
      obtain ⟨b2, o2, e2, hck⟩ := (HC.out.below HS.out.below).at_ hlt
      cases e2
      have hcf := HCF.out wr HS.out
      have k0 : (0 : Int) ≤ (k : Int) := by omega
      have k1 : (k : Int) < (xss.length : Int) := by omega
      have f0 : (0 : Int) ≤ (f : Int) := by omega
      have hlk1 := (RB.out k hlt).1
      have hlk2 := (RB.out k hlt).2
      have hck1 := HCS.out k hlt
      have hnb : naB xss (gi cs) f k = (decide (0 < gi (gl xss f) k) && decide (0 ≤ gi cs k) && decide (gi (gl xss f) k + gi cs k = gi cs f)) := rfl
      have HNB := Lib.hid hnb
      clear hnb
      have hlk3 : tt xss f k = gi (gl xss f) k := rfl
      rw [hlk3] at hlk1 hlk2
      clear hlk3
      generalize gi (gl xss f) k = lk at *
      generalize gi cs k = ck at *
      generalize gi cs f = cf at *
      by_cases q1 : 0 < lk
      · have d1 : decide (0 < lk) = true := decide_eq_true q1
        by_cases q2 : 0 ≤ ck
        · have d2 : decide (0 ≤ ck) = true := decide_eq_true q2
          by_cases q3 : lk + ck = cf
          · have d3 : (lk + ck == cf) = true := by simp [q3]
            have HT : Hid (naV xss (gi cs) f = (k : Int)) := Lib.hid (fstV_hit hlt (by rw [HNB.out]; simp [q1, q2, q3]) HR.out)
            have Q3 := Lib.hid q3
            clear q3
            go_wp2
            go_quiet (fail)
            go_wp2
            go_ret
            exact RetQ.mkS (intv HT.out.symm) (HS.out.drewN _)
          · have d3 : (lk + ck == cf) = false := by simp [q3]
            have HT : Hid (naB xss (gi cs) f k = false) := Lib.hid (by rw [HNB.out]; simp [q3])
            clear q3
            go_wp2
            go_quiet (fail)
            go_wp2
            go_roundw
            case rel =>
              refine ⟨k + 1, hlt, by go_num, Lib.hid (fun m hm => ?_), HS.out.drewN _⟩
              rcases Nat.lt_succ_iff_lt_or_eq.1 hm with h1 | rfl
              · exact HR.out m h1
              · exact HT.out
            case measure => simp [intOf]; omega
        · have d2 : decide (0 ≤ ck) = false := decide_eq_false q2
          have HT : Hid (naB xss (gi cs) f k = false) := Lib.hid (by rw [HNB.out]; simp [q2])
          go_wp2
          go_quiet (fail)
          go_wp2
          go_roundw
          case rel =>
            refine ⟨k + 1, hlt, by go_num, Lib.hid (fun m hm => ?_), HS.out.drewN _⟩
            rcases Nat.lt_succ_iff_lt_or_eq.1 hm with h1 | rfl
            · exact HR.out m h1
            · exact HT.out
          case measure => simp [intOf]; omega
      · have d1 : decide (0 < lk) = false := decide_eq_false q1
        have HT : Hid (naB xss (gi cs) f k = false) := Lib.hid (by rw [HNB.out]; simp [q1])
        go_wp2
        go_quiet (fail)
        go_wp2
        go_roundw
        case rel =>
          refine ⟨k + 1, hlt, by go_num, Lib.hid (fun m hm => ?_), HS.out.drewN _⟩
          rcases Nat.lt_succ_iff_lt_or_eq.1 hm with h1 | rfl
          · exact HR.out m h1
          · exact HT.out
        case measure => simp [intOf]; omega
    · obtain rfl : k = xss.length := by omega
      have HT := Lib.hid (fstV_none (p := naB xss (gi cs) f) HR.out)
      go_wp2
      go_ret
      exact RetQ.mkS (intv HT.out.symm) HS.out
end Go.Proofs.YtdfinlpfkmmpkaaDoor
