import Derived.Test.YtfllfbmdnokmnaaProg
import Derived.Test.YtfllfbmdnokmnaaSym
import Derived.Test.YtfllfbmdnokmnaaInts
import Derived.Test.YtfllfbmdnokmnaaEx
import Derived.Test.YtfllfbmdnokmnaaDrawEx
namespace Go.Proofs.Ytfllfbmdnokmnaa
open Go.RowKit

theorem kept4o {w w' : World} {g o : Nat} {x0 x1 x2 x3 : Value} (hb : Below w.heap.size w w')
    (h : w.cell? ⟨g, o, none⟩ = some x0 ∧ w.cell? ⟨g, o + 1, none⟩ = some x1 ∧ w.cell? ⟨g, o + 2, none⟩ = some x2 ∧ w.cell? ⟨g, o + 3, none⟩ = some x3) :
    w'.cell? ⟨g, o, none⟩ = some x0 ∧ w'.cell? ⟨g, o + 1, none⟩ = some x1 ∧ w'.cell? ⟨g, o + 2, none⟩ = some x2 ∧ w'.cell? ⟨g, o + 3, none⟩ = some x3 := by
  obtain ⟨h0, h1, h2, h3⟩ := h
  exact ⟨(hb.cell (cell_lt h0)).trans h0, (hb.cell (cell_lt h1)).trans h1, (hb.cell (cell_lt h2)).trans h2, (hb.cell (cell_lt h3)).trans h3⟩

/-- the law -/
theorem bxV_best {n : Nat} {f : Nat → Nat → Int} (h : 0 ≤ bxV n f) : n ≤ 100 ∧ (∀ i, i < n → exAt f i = true) ∧ bxV n f = bestE f n := by
  unfold bxV at h ⊢
  split at h
  · next hc => rw [if_pos hc]; exact ⟨hc.1, fun i hi => List.all_eq_true.1 hc.2 i (List.mem_range.2 hi), rfl⟩
  · omega
theorem bxV_neg {n : Nat} {f : Nat → Nat → Int} (h : bxV n f < 0) : bxV n f = -1 := by
  unfold bxV at h ⊢
  split
  · next hc => rw [if_pos hc] at h; have := (bestE_bd f n).1; omega
  · rfl
theorem bestE_least (f : Nat → Nat → Int) : ∀ n (b : Nat), bestE f n = b → ∀ k, k < n → dlAt f b ≤ dlAt f k ∧ (k < b → dlAt f b < dlAt f k)
  | 0, b, h, k, hk => by omega
  | n + 1, b, h, k, hk => by
    have hb := bestE_bd f n
    simp only [bestE] at h
    rcases Nat.eq_zero_or_pos n with hz | hz
    · subst hz
      obtain rfl : k = 0 := by omega
      have : bestE f 0 = -1 := rfl
      rw [if_pos (by omega)] at h
      obtain rfl : b = 0 := by omega
      exact ⟨Int.le_refl _, fun h => by omega⟩
    · obtain ⟨j, hj⟩ : ∃ j : Nat, bestE f n = j := ⟨(bestE f n).toNat, by have := hb.2.2 hz; omega⟩
      have ih := bestE_least f n j hj
      rw [hj, Int.toNat_natCast] at h
      by_cases hd : dlAt f n < dlAt f j
      · rw [if_pos (.inr hd)] at h
        obtain rfl : b = n := by omega
        by_cases e : k = b
        · subst e; exact ⟨Int.le_refl _, fun h => by omega⟩
        · have := (ih k (by omega)).1
          exact ⟨by omega, fun _ => by omega⟩
      · rw [if_neg (by omega)] at h
        obtain rfl : b = j := by omega
        by_cases e : k = n
        · subst e; exact ⟨by omega, fun h => by omega⟩
        · exact ih k (by omega)

set_option maxRecDepth 100000 in
set_option maxHeartbeats 4000000 in
theorem fnBestExchange_c (vc : Value) (c : List Int) (w : World) (hc : RdB w vc c) (bc : ∀ n ∈ c, (Lit.int .u8 n).wf = true) :
    Calls Try.prog 14 #[vc] w (Ret w fun v _ => v = .bool true) := by
  have hs := SH.add (p := rdP .u8 vc c) (SH.start0 w) (by simp) hc rdP_wr
  obtain ⟨ac, cc, rfl, -⟩ := hc.form
  have Bc := Lib.hid bc
  clear hc bc
  by_cases lc : c.length ≤ 1048576
  case neg =>
    go_enter Try.func14, Try.ntmps14
    go_wp2
    go_ret
    exact Ret.mk1 rfl (Below.refl _ _)
  go_enter Try.func14, Try.ntmps14
  go_wp2_with fail
  refine (DrawBestExchange_s _ c _ (by first | exact hs | exact (hs).allocP1 _ _ | exact ((hs).allocP1 _ _).allocP1 _ _ | exact (((hs).allocP1 _ _).allocP1 _ _).allocP1 _ _ | exact ((((hs).allocP1 _ _).allocP1 _ _).allocP1 _ _).allocP1 _ _ | exact (hs).drew | exact ((hs).allocP1 _ _).drew | exact (((hs).allocP1 _ _).allocP1 _ _).drew | exact ((((hs).allocP1 _ _).allocP1 _ _).allocP1 _ _).drew | exact (((((hs).allocP1 _ _).allocP1 _ _).allocP1 _ _).allocP1 _ _).drew | exact (hs).drewN _ | exact ((hs).allocP1 _ _).drewN _ | exact (((hs).allocP1 _ _).allocP1 _ _).drewN _ | exact ((((hs).allocP1 _ _).allocP1 _ _).allocP1 _ _).drewN _ | exact (((((hs).allocP1 _ _).allocP1 _ _).allocP1 _ _).allocP1 _ _).drewN _) Bc.out).mono ?_
  rintro e w1 ⟨v1, n, f, rfl, hn, hs⟩
  obtain ⟨a1, c1, rfl, -⟩ := (OwnM.rd hs.p0).form
  go_wp2_with fail
  refine (SH.ret hs (by repeat' (first | with_reducible exact Below.refl _ _ | with_reducible assumption | with_reducible refine below_drewN ?_ _ | with_reducible refine Below.drew ?_ | with_reducible refine Below.alloc ?_ ?_ _ | with_reducible refine Below.setCell ?_ ?_ _ | go_size)) fun hs => implBestExchange_c _ n f _ (OwnM.rd hs.p0)).mono ?_
  rintro e w2 ⟨v, rfl, rfl, hs⟩
  go_wp2_with fail
  refine (SH.ret hs (by repeat' (first | with_reducible exact Below.refl _ _ | with_reducible assumption | with_reducible refine below_drewN ?_ _ | with_reducible refine Below.drew ?_ | with_reducible refine Below.alloc ?_ ?_ _ | with_reducible refine Below.setCell ?_ ?_ _ | go_size)) fun hs => specBestExchange_c _ n f _ (OwnM.rd hs.p0)).mono ?_
  rintro e w3 ⟨v, rfl, rfl, hs⟩
  have e1 : (bxV n f != bxV n f) = false := bne_self_eq_false _
  by_cases hneg : bxV n f < 0
  · have e2 := bxV_neg hneg
    rw [e2]
    go_wp2_with fail
    refine (SH.ret hs (by repeat' (first | with_reducible exact Below.refl _ _ | with_reducible assumption | with_reducible refine below_drewN ?_ _ | with_reducible refine Below.drew ?_ | with_reducible refine Below.alloc ?_ ?_ _ | with_reducible refine Below.setCell ?_ ?_ _ | go_size)) fun hs => alive_c _).mono ?_
    rintro e w4 ⟨v, rfl, rfl, hs⟩
    go_wp2
    go_ret
    exact Ret.mk1 rfl (SH.done (by first | exact hs | exact (hs).alloc _ | exact ((hs).alloc _).alloc _ | exact (((hs).alloc _).alloc _).alloc _ | exact ((((hs).alloc _).alloc _).alloc _).alloc _ | exact (hs).drew | exact ((hs).alloc _).drew | exact (((hs).alloc _).alloc _).drew | exact ((((hs).alloc _).alloc _).alloc _).drew | exact (((((hs).alloc _).alloc _).alloc _).alloc _).drew | exact (hs).drewN _ | exact ((hs).alloc _).drewN _ | exact (((hs).alloc _).alloc _).drewN _ | exact ((((hs).alloc _).alloc _).alloc _).drewN _ | exact (((((hs).alloc _).alloc _).alloc _).alloc _).drewN _))
  obtain ⟨hn1, hv, hbe⟩ := bxV_best (Int.not_lt.1 hneg)
  have hbd := bestE_bd f n
  obtain ⟨b, hb⟩ : ∃ b : Nat, bestE f n = b := ⟨(bestE f n).toNat, by omega⟩
  have hbl : b < n := by omega
  have HL := Lib.hid (bestE_least f n b hb)
  have HV := Lib.hid hv
  rw [hbe, hb] at e1 ⊢
  clear hneg hbe hbd hb hv
  obtain ⟨p1, p2⟩ := dlAt_bd (HV.out b hbl)
  have hcv := coV_true (show exB (f b 0) (f b 1) (f b 2) (f b 3) = true from HV.out b hbl)
  have e0 : decide ((b : Int) < 0) = false := by simp
  obtain ⟨ba, oa, rfl, hca⟩ := (OwnM.rd hs.p0).at_ hbl
  have hc0 : w3.cell? ⟨ba, oa + b * 4, none⟩ = some (.int .i64 (f b 0)) := hca 0 (by decide)
  have hc1 : w3.cell? ⟨ba, oa + b * 4 + 1, none⟩ = some (.int .i64 (f b 1)) := hca 1 (by decide)
  have hc2 : w3.cell? ⟨ba, oa + b * 4 + 2, none⟩ = some (.int .i64 (f b 2)) := hca 2 (by decide)
  have hc3 : w3.cell? ⟨ba, oa + b * 4 + 3, none⟩ = some (.int .i64 (f b 3)) := hca 3 (by decide)
  clear hca
  go_wp2_with fail
  refine (SH.ret hs (by repeat' (first | with_reducible exact Below.refl _ _ | with_reducible assumption | with_reducible refine below_drewN ?_ _ | with_reducible refine Below.drew ?_ | with_reducible refine Below.alloc ?_ ?_ _ | with_reducible refine Below.setCell ?_ ?_ _ | go_size)) fun hs => implClockOffset_c (f b 0) (f b 1) (f b 2) (f b 3) _).mono ?_
  rintro e w4 ⟨v, rfl, rfl, hs⟩
  obtain ⟨dl, hdl⟩ : ∃ d, f b 3 - f b 0 - (f b 2 - f b 1) = d := ⟨_, rfl⟩
  rw [hcv, hdl]
  have HDL := Lib.hid hdl
  clear hc0 hc1 hc2 hc3 hcv hdl
  go_wp2_with fail
  go_loopw [7, 8, 9] (fun i _ _ wr => ∃ k : Nat, k ≤ n ∧ i = .int .i64 k ∧ SH none w wr [ownMP 4 44 (.slice (some ⟨ba, oa, none⟩) n c1) n (eC f), rdP .u8 (.slice ac c.length cc) c]) (fun i _ _ _ => n - (intOf i).toNat)
  case atStart => exact ⟨0, Nat.zero_le _, rfl, hs⟩
  case round =>
    obtain ⟨k, hk, rfl, hs⟩ := hrel
    by_cases hlt : k < n
    · obtain ⟨q1, q2⟩ := dlAt_bd (HV.out k hlt)
      have hx : exB (f k 0) (f k 1) (f k 2) (f k 3) = true := HV.out k hlt
      have hcv := coV_true hx
      obtain ⟨l1, l2⟩ := HL.out k hlt
      unfold dlAt at l1 l2
      obtain ⟨bb, ob, he, hca⟩ := (OwnM.rd hs.p0).at_ hlt
      simp only [Option.some.injEq, Addr.mk.injEq, and_true] at he
      obtain ⟨rfl, rfl⟩ := he
      have hc0 : wr.cell? ⟨ba, oa + k * 4, none⟩ = some (.int .i64 (f k 0)) := hca 0 (by decide)
      have hc1 : wr.cell? ⟨ba, oa + k * 4 + 1, none⟩ = some (.int .i64 (f k 1)) := hca 1 (by decide)
      have hc2 : wr.cell? ⟨ba, oa + k * 4 + 2, none⟩ = some (.int .i64 (f k 2)) := hca 2 (by decide)
      have hc3 : wr.cell? ⟨ba, oa + k * 4 + 3, none⟩ = some (.int .i64 (f k 3)) := hca 3 (by decide)
      clear hca
      go_wp2_with fail
      refine (SH.ret hs (by repeat' (first | with_reducible exact Below.refl _ _ | with_reducible assumption | with_reducible refine below_drewN ?_ _ | with_reducible refine Below.drew ?_ | with_reducible refine Below.alloc ?_ ?_ _ | with_reducible refine Below.setCell ?_ ?_ _ | go_size)) fun hs => implClockOffset_c (f k 0) (f k 1) (f k 2) (f k 3) _).mono ?_
      rintro e w5 ⟨v, rfl, rfl, hs⟩
      obtain ⟨dk, hdk⟩ : ∃ d, f k 3 - f k 0 - (f k 2 - f k 1) = d := ⟨_, rfl⟩
      rw [hcv, hdk]
      rw [hdk, HDL.out] at l1 l2
      clear hc0 hc1 hc2 hc3 hcv hdk
      obtain ⟨bb, ob, he, hca⟩ := (OwnM.rd hs.p0).at_ hlt
      simp only [Option.some.injEq, Addr.mk.injEq, and_true] at he
      obtain ⟨rfl, rfl⟩ := he
      have hc0 : w5.cell? ⟨ba, oa + k * 4, none⟩ = some (.int .i64 (f k 0)) := hca 0 (by decide)
      have hc1 : w5.cell? ⟨ba, oa + k * 4 + 1, none⟩ = some (.int .i64 (f k 1)) := hca 1 (by decide)
      have hc2 : w5.cell? ⟨ba, oa + k * 4 + 2, none⟩ = some (.int .i64 (f k 2)) := hca 2 (by decide)
      have hc3 : w5.cell? ⟨ba, oa + k * 4 + 3, none⟩ = some (.int .i64 (f k 3)) := hca 3 (by decide)
      clear hca
      have e2 : decide (dk < dl) = false := by simpa using l1
      have i0 : (0 : Int) ≤ (k : Int) := by omega
      have i1 : (k : Int) < (n : Int) := by omega
      have e3 : (dk == dl && decide ((k : Int) < (b : Int))) = false := by
        by_cases h : k < b
        · have := l2 h
          have h2 : (dk == dl) = false := by simp; omega
          rw [h2]; rfl
        · have h2 : decide ((k : Int) < (b : Int)) = false := by simp; omega
          rw [h2, Bool.and_false]
      clear l2
      cases e4 : (dk == dl)
      · clear e3
        go_wp2_with fail
        refine (SH.ret hs (by repeat' (first | with_reducible exact Below.refl _ _ | with_reducible assumption | with_reducible refine below_drewN ?_ _ | with_reducible refine Below.drew ?_ | with_reducible refine Below.alloc ?_ ?_ _ | with_reducible refine Below.setCell ?_ ?_ _ | go_size)) fun hs => implExchangeValid_c (f k 0) (f k 1) (f k 2) (f k 3) _).mono ?_
        rintro e w6 ⟨v, rfl, rfl, hs⟩
        rw [hx]
        clear hc0 hc1 hc2 hc3
        go_wp2
        go_roundw
        case rel => exact ⟨k + 1, hlt, by go_num, (by first | exact hs | exact (hs).alloc _ | exact ((hs).alloc _).alloc _ | exact (((hs).alloc _).alloc _).alloc _ | exact ((((hs).alloc _).alloc _).alloc _).alloc _ | exact (hs).drew | exact ((hs).alloc _).drew | exact (((hs).alloc _).alloc _).drew | exact ((((hs).alloc _).alloc _).alloc _).drew | exact (((((hs).alloc _).alloc _).alloc _).alloc _).drew | exact (hs).drewN _ | exact ((hs).alloc _).drewN _ | exact (((hs).alloc _).alloc _).drewN _ | exact ((((hs).alloc _).alloc _).alloc _).drewN _ | exact (((((hs).alloc _).alloc _).alloc _).alloc _).drewN _)⟩
        case measure => simp [intOf]; omega
      · have e5 : decide ((k : Int) < (b : Int)) = false := by rw [e4, Bool.true_and] at e3; exact e3
        have e6 : b ≤ k := by simpa using e5
        clear e3
        go_wp2_with fail
        refine (SH.ret hs (by repeat' (first | with_reducible exact Below.refl _ _ | with_reducible assumption | with_reducible refine below_drewN ?_ _ | with_reducible refine Below.drew ?_ | with_reducible refine Below.alloc ?_ ?_ _ | with_reducible refine Below.setCell ?_ ?_ _ | go_size)) fun hs => implExchangeValid_c (f k 0) (f k 1) (f k 2) (f k 3) _).mono ?_
        rintro e w6 ⟨v, rfl, rfl, hs⟩
        rw [hx]
        clear hc0 hc1 hc2 hc3
        go_wp2
        go_roundw
        case rel => exact ⟨k + 1, hlt, by go_num, (by first | exact hs | exact (hs).alloc _ | exact ((hs).alloc _).alloc _ | exact (((hs).alloc _).alloc _).alloc _ | exact ((((hs).alloc _).alloc _).alloc _).alloc _ | exact (hs).drew | exact ((hs).alloc _).drew | exact (((hs).alloc _).alloc _).drew | exact ((((hs).alloc _).alloc _).alloc _).drew | exact (((((hs).alloc _).alloc _).alloc _).alloc _).drew | exact (hs).drewN _ | exact ((hs).alloc _).drewN _ | exact (((hs).alloc _).alloc _).drewN _ | exact ((((hs).alloc _).alloc _).alloc _).drewN _ | exact (((((hs).alloc _).alloc _).alloc _).alloc _).drewN _)⟩
        case measure => simp [intOf]; omega
    · go_wp2
      go_ret
      exact Ret.mk1 rfl (SH.done (by first | exact hs | exact (hs).alloc _ | exact ((hs).alloc _).alloc _ | exact (((hs).alloc _).alloc _).alloc _ | exact ((((hs).alloc _).alloc _).alloc _).alloc _ | exact (hs).drew | exact ((hs).alloc _).drew | exact (((hs).alloc _).alloc _).drew | exact ((((hs).alloc _).alloc _).alloc _).drew | exact (((((hs).alloc _).alloc _).alloc _).alloc _).drew | exact (hs).drewN _ | exact ((hs).alloc _).drewN _ | exact (((hs).alloc _).alloc _).drewN _ | exact ((((hs).alloc _).alloc _).alloc _).drewN _ | exact (((((hs).alloc _).alloc _).alloc _).alloc _).drewN _))

end Go.Proofs.Ytfllfbmdnokmnaa
