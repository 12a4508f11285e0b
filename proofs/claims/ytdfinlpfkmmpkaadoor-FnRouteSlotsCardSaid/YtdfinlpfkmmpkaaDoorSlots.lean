import Derived.Test.YtdfinlpfkmmpkaaDoorProg
import Derived.Test.YtdfinlpfkmmpkaaDoorLib
import Derived.Test.YtdfinlpfkmmpkaaDoorNum
import Derived.Test.YtdfinlpfkmmpkaaDoorMem
import Derived.Test.YtdfinlpfkmmpkaaDoorSym
import Derived.Test.YtdfinlpfkmmpkaaDoorInts
import Derived.Test.YtdfinlpfkmmpkaaDoorApp
import Derived.Test.YtdfinlpfkmmpkaaDoorBlk
import Derived.Test.YtdfinlpfkmmpkaaDoorSS
import Derived.Test.YtdfinlpfkmmpkaaDoorSlotPl
import Derived.Test.YtdfinlpfkmmpkaaDoorTz
import Derived.Test.YtdfinlpfkmmpkaaDoorQTail
import Derived.Deep.QuietTactic
import Derived.BigQuiet
namespace Go.Proofs.YtdfinlpfkmmpkaaDoor
open Go.RowKit

/-! A table of conflicts that is only read. -/
structure RdT (w : World) (v : Value) (vs : Nat → Value) (T : Nat → Nat → Bool) (n : Nat) : Prop where
  rows : RdM 1 w v n (oneC vs)
  each : ∀ i, i < n → RdM 1 w (vs i) n (fun j _ => .bool (T i j))
theorem RdT.below {w w' : World} {v : Value} {vs : Nat → Value} {T : Nat → Nat → Bool} {n : Nat} (h : RdT w v vs T n) (hb : Below w.heap.size w w') : RdT w' v vs T n :=
  ⟨h.rows.below (by decide) hb, fun i hi => (h.each i hi).below (by decide) hb⟩
def rdTP (v : Value) (vs : Nat → Value) (T : Nat → Nat → Bool) (n : Nat) : Part where
  says w := RdT w v vs T n
  on g := (v.ownBlock = some g ∧ 0 < n) ∨ ∃ i, i < n ∧ (vs i).ownBlock = some g ∧ 0 < n
  wr _ := False
  sub _ h := h.elim
  lt w h g hg := by
    rcases hg with ⟨hg, hn⟩ | ⟨i, hi, hg, hn⟩
    · obtain ⟨a, c, rfl, -⟩ := h.rows.form
      obtain ⟨b, off, rfl, hc⟩ := h.rows.at_ hn
      have := cell_lt (hc 0 (by decide))
      simp only [Value.ownBlock, Option.some.injEq] at hg
      subst hg; exact this
    · have hr := h.each i hi
      obtain ⟨a, c, hv, -⟩ := hr.form
      rw [hv] at hr hg
      obtain ⟨b, off, rfl, hc⟩ := hr.at_ hn
      have := cell_lt (hc 0 (by decide))
      simp only [Value.ownBlock, Option.some.injEq] at hg
      subst hg; exact this
  keep w w' h hk := by
    rcases Nat.eq_zero_or_pos n with rfl | hn
    · obtain ⟨ad, cp, hv, hl, hm, -⟩ := h.rows
      exact ⟨⟨ad, cp, hv, hl, hm, fun i hi => absurd hi (Nat.not_lt_zero _)⟩, fun i hi => absurd hi (Nat.not_lt_zero _)⟩
    · exact ⟨h.rows.keep (by decide) fun g e _ => hk g (.inl ⟨e, hn⟩), fun i hi => (h.each i hi).keep (by decide) fun g e _ => hk g (.inr ⟨i, hi, e, hn⟩)⟩
theorem rdTP_wr {v : Value} {vs : Nat → Value} {T : Nat → Nat → Bool} {n : Nat} : ∀ g, ¬ (rdTP v vs T n).wr g := fun _ h => h
/-- what a walk reads of it -/
theorem RdT.cells {w : World} {a : Option Addr} {n' c : Nat} {vs : Nat → Value} {T : Nat → Nat → Bool} {n i : Nat} (h : RdT w (.slice a n' c) vs T n) (hi : i < n) :
    ∃ b off, a = some ⟨b, off, none⟩ ∧ w.cell? ⟨b, off + i, none⟩ = some (vs i) ∧ ∃ b2 o2 c2, vs i = .slice (some ⟨b2, o2, none⟩) n c2 ∧ ∀ j, j < n → w.cell? ⟨b2, o2 + j, none⟩ = some (.bool (T i j)) := by
  obtain ⟨b, off, rfl, hc⟩ := h.rows.at_ hi
  have hc0 := hc 0 (by decide)
  simp only [oneC, Nat.mul_one, Nat.add_zero] at hc0
  have hr := h.each i hi
  obtain ⟨a2, c2, hv, -⟩ := hr.form
  rw [hv] at hr
  obtain ⟨b2, o2, rfl, -⟩ := hr.at_ (i := 0) (by omega)
  refine ⟨b, off, rfl, hc0, b2, o2, c2, hv, fun j hj => ?_⟩
  obtain ⟨b3, o3, e, hd⟩ := hr.at_ hj
  cases e
  have := hd 0 (by decide)
  simpa using this

set_option maxRecDepth 100000 in
set_option maxHeartbeats 4000000 in
theorem conf_c (va : Value) (vs : Nat → Value) (T : Nat → Nat → Bool) (n : Nat) (w : World) (h : RdT w va vs T n) (hn : n ≤ 10) (hs : ∀ i j, i < n → j < n → T i j = T j i) (hd : ∀ i, i < n → T i i = false) :
    Calls Tryd.prog 20 #[va] w (RetQ w (.bool true)) := by
  obtain ⟨a, ca, rfl, ml⟩ := h.rows.form
  have H := Lib.hid h
  have HS := Lib.hid hs
  have HD := Lib.hid hd
  clear h hs hd ml
  have e1 : decide ((n : Int) > 10) = false := by rw [decide_eq_false_iff_not]; omega
  have e2 : ((n : Int) != (n : Int)) = false := bne_self_eq_false _
  go_enter Tryd.func20, Tryd.ntmps20
  go_wp2
  go_loopw [4, 14] (fun _ i wr => ∃ k : Nat, k ≤ n ∧ i = .int .i64 k ∧ Hid (SameW w wr)) (fun _ i _ => n - (intOf i).toNat)
  case atStart => exact ⟨0, Nat.zero_le _, rfl, Lib.hid (SameW.refl _)⟩
  case round =>
    obtain ⟨k, hk, rfl, HW⟩ := hrel
    by_cases hlt : k < n
    · obtain ⟨b, off, rfl, hc0, b2, o2, c2, hv, -⟩ := (H.out.below HW.out.below).cells hlt
      rw [hv] at hc0
      clear hv
      go_wp2
      go_roundw
      case rel => exact ⟨k + 1, hlt, by go_num, HW⟩
      case measure => simp [intOf]; omega
    · obtain rfl : k = n := by omega
      go_wp2
      go_loopw [5, 6, 26] (fun _ _ i wr => ∃ q : Nat, q ≤ k ∧ i = .int .i64 q ∧ Hid (SameW w wr)) (fun _ _ i _ => k - (intOf i).toNat)
      case atStart => exact ⟨0, Nat.zero_le _, rfl, HW⟩
      case round =>
        clear HW
        obtain ⟨q, hq, rfl, HW⟩ := hrel
        by_cases hql : q < k
        · obtain ⟨b, off, rfl, hc0, b2, o2, c2, hv, -⟩ := (H.out.below HW.out.below).cells hql
          rw [hv] at hc0
          have HV := Lib.hid hv
          clear hv
          go_wp2
          go_loopw [7, 8, 33] (fun _ _ i wr => ∃ p : Nat, p ≤ k ∧ i = .int .i64 p ∧ Hid (SameW w wr)) (fun _ _ i _ => k - (intOf i).toNat)
          case atStart => exact ⟨0, Nat.zero_le _, rfl, HW⟩
          case round =>
            clear HW hc0
            obtain ⟨p, hp, rfl, HW⟩ := hrel
            by_cases hpl : p < k
            · obtain ⟨b', off', e, hc0, b3, o3, c3, hv, hcr⟩ := (H.out.below HW.out.below).cells hql
              cases e
              rw [HV.out] at hv
              cases hv
              obtain ⟨b4, off4, e, hd0, b5, o5, c5, hv5, hdr⟩ := (H.out.below HW.out.below).cells hpl
              cases e
              have hx := hcr p hpl
              have hy := hdr q hql
              rw [hv5] at hd0
              have hsym := HS.out q p hql hpl
              have hdg : T q p = true → ((q : Int) == (p : Int)) = false := fun ht => by
                rw [beq_eq_false_iff_ne]
                intro e
                obtain rfl : q = p := by omega
                rw [HD.out q hql] at ht; cases ht
              rw [← hsym] at hy
              clear hv5 hdr hcr hsym
              have i1 : (q : Int) < (k : Int) := by omega
              have i2 : (p : Int) < (k : Int) := by omega
              cases hT : T q p
              · rw [hT] at hx hy
                clear hdg hT
                go_wp2
                go_roundw
                case rel => exact ⟨p + 1, hpl, by go_num, HW⟩
                case measure => simp [intOf]; omega
              · have hdg2 := hdg hT
                rw [hT] at hx hy
                clear hdg hT
                go_wp2
                go_roundw
                case rel => exact ⟨p + 1, hpl, by go_num, HW⟩
                case measure => simp [intOf]; omega
            · obtain rfl : p = k := by omega
              go_wp2
              go_roundw
              case rel => exact ⟨q + 1, hql, by go_num, HW⟩
              case measure => simp [intOf]; omega
        · go_wp2
          go_ret
          exact RetQ.mkS rfl HW.out
end Go.Proofs.YtdfinlpfkmmpkaaDoor
