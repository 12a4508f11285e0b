import Derived.Test.YtdfinlpfkmmpkaaDoorProg
import Derived.Test.YtdfinlpfkmmpkaaDoorSym
import Derived.Test.YtdfinlpfkmmpkaaDoorDraw
import Derived.Test.YtdfinlpfkmmpkaaDoorInts
import Derived.Test.YtdfinlpfkmmpkaaDoorSS
import Derived.Test.YtdfinlpfkmmpkaaDoorSS2
import Derived.Deep.RegionWith
import Derived.BigRegion
namespace Go.Proofs.YtdfinlpfkmmpkaaDoor
open Go.RowKit

theorem rdrP_monoB {row : Option Nat} {w0 w : World} {I : List Part} {a : Part} {g m m' : Nat} {sv : Value} {bs : List Int} (h : SH row w0 w (a :: rdrP g m sv bs :: I)) (hm : m ≤ m') : SH row w0 w (a :: rdrP g m' sv bs :: I) := (rdrP_mono h.bring1 hm).bring1
theorem rdrP_monoC {row : Option Nat} {w0 w : World} {I : List Part} {a b : Part} {g m m' : Nat} {sv : Value} {bs : List Int} (h : SH row w0 w (a :: b :: rdrP g m sv bs :: I)) (hm : m ≤ m') : SH row w0 w (a :: b :: rdrP g m' sv bs :: I) := (rdrP_mono h.bring2 hm).push2

theorem tabO {w : World} {t : TypeId} {gO N N' c : Nat} {vs : Nat → Value} {v : Value} (h : OwnM 1 w 0 t (.slice (some ⟨gO, 0, none⟩) N c) N' (oneC vs)) (hN : 0 < N') (hv : vs 0 = v) : w.cell? ⟨gO, 0, none⟩ = some v := by
  obtain ⟨g, hge, -, hg, -⟩ := OwnM.at_ h hN
  cases hge
  rw [← hv]; simpa [oneC] using hg 0 (by decide)
theorem tabR {w : World} {t : TypeId} {vs : Nat → Value} {xss : List (List Int)} {N gR L cR j : Nat} (h : (innP t vs xss N).says w) (hN : 0 < N) (hv : vs 0 = .slice (some ⟨gR, 0, none⟩) L cR) (hj : j < L) : w.cell? ⟨gR, j, none⟩ = some (.int .i64 (gi (gl xss 0) j)) ∧ w.frozen? ⟨gR, j, none⟩ = false := by
  have hr := h.1 0 hN
  rw [hv] at hr
  obtain ⟨g, hge, -, -, h1, h2⟩ := OwnK.at_ hr hj
  cases hge
  exact ⟨h1, h2⟩
theorem lit2 {w : World} {B : Nat} {x y : Int} {t : TypeId} {z : Int} (h : w.heap[B]? = some (.cells #[.int .i64 x, .int .i64 y] t (0, 0))) (z0 : 0 ≤ z) (z1 : z < 2) : ∃ u : Int, w.cell? ⟨B, z.toNat, none⟩ = some (.int .i64 u) := by
  obtain rfl | rfl : z = 0 ∨ z = 1 := by omega
  · exact ⟨x, by simp [World.cell?, h]⟩
  · exact ⟨y, by simp [World.cell?, h]⟩
/-- what is told of a drawn table -/
def TabP (v : Value) (vs : Nat → Value) (xss : List (List Int)) : List Part := [ownMP 1 26 v xss.length (oneC vs), innP 3 vs xss xss.length]
def Rows8 (xss : List (List Int)) : Prop := 1 ≤ xss.length ∧ xss.length ≤ 7 ∧ ∀ i, i < xss.length → (gl xss i).length ≤ 8
theorem rows8_set {xss : List (List Int)} (h : Rows8 xss) {i : Nat} {xs : List Int} (hl : xs.length ≤ 8) : Rows8 (xss.set i xs) := by
  obtain ⟨h1, h2, h3⟩ := h
  refine ⟨by simpa using h1, by simpa using h2, fun j hj => ?_⟩
  rw [List.length_set] at hj
  by_cases hi : i < xss.length
  · rw [gl_set hi]
    split
    · exact hl
    · exact h3 j hj
  · rw [List.set_eq_of_length_le (by omega)]; exact h3 j hj

set_option maxRecDepth 100000 in
set_option maxHeartbeats 8000000 in
theorem l20Costs_s (g m : Nat) (bad : Int) (w : World) {row : Option Nat} {w0 : World} {I : List Part} {sv : Value} {bs : List Int} (hs : SH row w0 w (rdrP g m sv bs :: I)) (hm : m ≤ 100000000) (hbad : bad ≤ 1000) :
    Calls Tryd.prog 24 #[.pointer (some ⟨g, 0, none⟩), .int .i64 bad] w (fun e w' => ∃ v vs xss, e = .returned v ∧ Rows8 xss ∧ SH row w0 w' (ownMP 1 26 v xss.length (oneC vs) :: innP 3 vs xss xss.length :: rdrP g (m + 200) sv bs :: I)) := by
  go_enter Tryd.func24, Tryd.ntmps24
  go_wp2_with fail
  refine (pick_s g _ 7 _ (by first | exact ⟨hs, by omega⟩ | exact ⟨(hs).allocP1 _ _, by omega⟩ | exact ⟨((hs).allocP1 _ _).allocP1 _ _, by omega⟩ | exact ⟨(((hs).allocP1 _ _).allocP1 _ _).allocP1 _ _, by omega⟩ | exact ⟨((((hs).allocP1 _ _).allocP1 _ _).allocP1 _ _).allocP1 _ _, by omega⟩ | exact ⟨(hs).drew, by omega⟩ | exact ⟨((hs).allocP1 _ _).drew, by omega⟩ | exact ⟨(((hs).allocP1 _ _).allocP1 _ _).drew, by omega⟩ | exact ⟨((((hs).allocP1 _ _).allocP1 _ _).allocP1 _ _).drew, by omega⟩ | exact ⟨(((((hs).allocP1 _ _).allocP1 _ _).allocP1 _ _).allocP1 _ _).drew, by omega⟩ | exact ⟨(hs).drewN _, by omega⟩ | exact ⟨((hs).allocP1 _ _).drewN _, by omega⟩ | exact ⟨(((hs).allocP1 _ _).allocP1 _ _).drewN _, by omega⟩ | exact ⟨((((hs).allocP1 _ _).allocP1 _ _).allocP1 _ _).drewN _, by omega⟩ | exact ⟨(((((hs).allocP1 _ _).allocP1 _ _).allocP1 _ _).allocP1 _ _).drewN _, by omega⟩) (by decide)).mono ?_
  rintro e w1 ⟨n1, rfl, n1_0, n1_a, -, hs⟩
  have n1_1 := n1_a (by decide)
  clear n1_a
  obtain ⟨n, hn, hn1, hn7⟩ : ∃ n : Nat, 1 + n1 = (n : Int) + 1 ∧ 0 ≤ n ∧ n ≤ 6 := ⟨n1.toNat, by omega, by omega, by omega⟩
  go_wp2_with fail
  refine (pick_s g _ 4 _ (by first | exact ⟨hs, by omega⟩ | exact ⟨(hs).allocP1 _ _, by omega⟩ | exact ⟨((hs).allocP1 _ _).allocP1 _ _, by omega⟩ | exact ⟨(((hs).allocP1 _ _).allocP1 _ _).allocP1 _ _, by omega⟩ | exact ⟨((((hs).allocP1 _ _).allocP1 _ _).allocP1 _ _).allocP1 _ _, by omega⟩ | exact ⟨(hs).drew, by omega⟩ | exact ⟨((hs).allocP1 _ _).drew, by omega⟩ | exact ⟨(((hs).allocP1 _ _).allocP1 _ _).drew, by omega⟩ | exact ⟨((((hs).allocP1 _ _).allocP1 _ _).allocP1 _ _).drew, by omega⟩ | exact ⟨(((((hs).allocP1 _ _).allocP1 _ _).allocP1 _ _).allocP1 _ _).drew, by omega⟩ | exact ⟨(hs).drewN _, by omega⟩ | exact ⟨((hs).allocP1 _ _).drewN _, by omega⟩ | exact ⟨(((hs).allocP1 _ _).allocP1 _ _).drewN _, by omega⟩ | exact ⟨((((hs).allocP1 _ _).allocP1 _ _).allocP1 _ _).drewN _, by omega⟩ | exact ⟨(((((hs).allocP1 _ _).allocP1 _ _).allocP1 _ _).allocP1 _ _).drewN _, by omega⟩) (by decide)).mono ?_
  rintro e w2 ⟨dn, rfl, dn_0, dn_a, -, hs⟩
  have dn_1 := dn_a (by decide)
  clear dn_a
  clear hn n1_0 n1_1
  go_wp2_with fail
  have hs := ((hs.inn0 3 (fun _ => undef) []).ownEmptyM 1 (by decide) 26 (oneC fun _ => undef)).bring2
  go_loopw [7, 8] (fun o i wr => ∃ (k : Nat) (vs : Nat → Value) (xss : List (List Int)), k ≤ n + 1 ∧ i = .int .i64 k ∧ Hid (xss.length = k) ∧ Hid (∀ i, i < xss.length → (gl xss i).length = n + 1) ∧ SH row w0 wr (rdrP g (m + 2 + 14 * k) sv bs :: ownMP 1 26 o xss.length (oneC vs) :: innP 3 vs xss xss.length :: I)) (fun _ i _ => n + 1 - (intOf i).toNat)
  case atStart => exact ⟨0, _, [], Nat.zero_le _, rfl, Lib.hid rfl, Lib.hid (fun i h => absurd h (Nat.not_lt_zero _)), rdrP_mono hs (by omega)⟩
  case round =>
    clear hs
    obtain ⟨k, vs, xss, hk, rfl, HL, HE, hs⟩ := hrel
    obtain ⟨ao, co, rfl, -⟩ := (OwnM.rd hs.p1).form
    by_cases hlt : k < n + 1
    · go_wp2
      rw [decide_eq_true (show (k : Int) < (n : Int) + 1 by omega)]
      have hs := (hs.ownEmpty .i64 3).bring1
      go_loopw [9, 10] (fun o i wr => ∃ (j : Nat) (xs : List Int), j ≤ n + 1 ∧ i = .int .i64 j ∧ Hid (xs.length = j) ∧ SH row w0 wr (rdrP g (m + 2 + 14 * k + 2 * j) sv bs :: ownP .i64 3 o xs :: ownMP 1 26 (.slice ao xss.length co) xss.length (oneC vs) :: innP 3 vs xss xss.length :: I)) (fun _ i _ => n + 1 - (intOf i).toNat)
      case atStart => exact ⟨0, [], Nat.zero_le _, rfl, Lib.hid rfl, rdrP_mono hs (by omega)⟩
      case round =>
        clear hs
        obtain ⟨j, xs, hj, rfl, HX, hs⟩ := hrel
        obtain ⟨ax, cx, rfl, -⟩ := (OwnK.rd hs.p1).form
        by_cases hjl : j < n + 1
        · by_cases hkj : k = j
          · obtain rfl := hkj.symm
            go_wp2_with (at_builtin; refine wp_app1S rfl rfl .i64 3 8 Tryd.underlying26 info_int 0 rfl (hs.bring1.alloc _) rfl (World.cell?_alloc_at _ _ _ _ rfl) (by rw [HX.out]; omega) (by rw [HX.out]; unfold maxLen; omega) ?_; intro v9 w9 hs)
            have hs := hs.bring1
            go_roundw
            case rel => exact ⟨j + 1, _, hjl, by go_num, Lib.hid (by simp [HX.out]), rdrP_mono hs (by omega)⟩
            case measure => simp [intOf]; omega
          · have hne : ((k : Int) != (j : Int)) = true := by simp; omega
            have hne2 : ¬ (k : Int) = (j : Int) := by omega
            go_wp2_with fail
            refine (pick_s g _ 5 _ (by first | exact ⟨hs, by omega⟩ | exact ⟨(hs).allocP1 _ _, by omega⟩ | exact ⟨((hs).allocP1 _ _).allocP1 _ _, by omega⟩ | exact ⟨(((hs).allocP1 _ _).allocP1 _ _).allocP1 _ _, by omega⟩ | exact ⟨((((hs).allocP1 _ _).allocP1 _ _).allocP1 _ _).allocP1 _ _, by omega⟩ | exact ⟨(hs).drew, by omega⟩ | exact ⟨((hs).allocP1 _ _).drew, by omega⟩ | exact ⟨(((hs).allocP1 _ _).allocP1 _ _).drew, by omega⟩ | exact ⟨((((hs).allocP1 _ _).allocP1 _ _).allocP1 _ _).drew, by omega⟩ | exact ⟨(((((hs).allocP1 _ _).allocP1 _ _).allocP1 _ _).allocP1 _ _).drew, by omega⟩ | exact ⟨(hs).drewN _, by omega⟩ | exact ⟨((hs).allocP1 _ _).drewN _, by omega⟩ | exact ⟨(((hs).allocP1 _ _).allocP1 _ _).drewN _, by omega⟩ | exact ⟨((((hs).allocP1 _ _).allocP1 _ _).allocP1 _ _).drewN _, by omega⟩ | exact ⟨(((((hs).allocP1 _ _).allocP1 _ _).allocP1 _ _).allocP1 _ _).drewN _, by omega⟩) (by decide)).mono ?_
            rintro e w3 ⟨pk, rfl, pk_0, pk_a, -, hs⟩
            have pk_1 := pk_a (by decide)
            clear pk_a
            clear hne
            by_cases hpd : pk < 1 + dn
            · go_wp2_with fail
              refine (pick_s g _ 20 _ (by first | exact ⟨hs, by omega⟩ | exact ⟨(hs).allocP1 _ _, by omega⟩ | exact ⟨((hs).allocP1 _ _).allocP1 _ _, by omega⟩ | exact ⟨(((hs).allocP1 _ _).allocP1 _ _).allocP1 _ _, by omega⟩ | exact ⟨((((hs).allocP1 _ _).allocP1 _ _).allocP1 _ _).allocP1 _ _, by omega⟩ | exact ⟨(hs).drew, by omega⟩ | exact ⟨((hs).allocP1 _ _).drew, by omega⟩ | exact ⟨(((hs).allocP1 _ _).allocP1 _ _).drew, by omega⟩ | exact ⟨((((hs).allocP1 _ _).allocP1 _ _).allocP1 _ _).drew, by omega⟩ | exact ⟨(((((hs).allocP1 _ _).allocP1 _ _).allocP1 _ _).allocP1 _ _).drew, by omega⟩ | exact ⟨(hs).drewN _, by omega⟩ | exact ⟨((hs).allocP1 _ _).drewN _, by omega⟩ | exact ⟨(((hs).allocP1 _ _).allocP1 _ _).drewN _, by omega⟩ | exact ⟨((((hs).allocP1 _ _).allocP1 _ _).allocP1 _ _).drewN _, by omega⟩ | exact ⟨(((((hs).allocP1 _ _).allocP1 _ _).allocP1 _ _).allocP1 _ _).drewN _, by omega⟩) (by decide)).mono ?_
              rintro e w4 ⟨pv, rfl, pv_0, pv_a, -, hs⟩
              have pv_1 := pv_a (by decide)
              clear pv_a
              go_wp2_with (at_builtin; refine wp_app1S rfl rfl .i64 3 8 Tryd.underlying26 info_int (1 + pv) rfl (hs.bring1.alloc _) rfl (World.cell?_alloc_at _ _ _ _ rfl) (by rw [HX.out]; omega) (by rw [HX.out]; unfold maxLen; omega) ?_; intro v9 w9 hs)
              have hs := hs.bring1
              go_roundw
              case rel => exact ⟨j + 1, _, hjl, by go_num, Lib.hid (by simp [HX.out]), rdrP_mono hs (by omega)⟩
              case measure => simp [intOf]; omega
            · go_wp2_with (at_builtin; refine wp_app1S rfl rfl .i64 3 8 Tryd.underlying26 info_int 0 rfl (hs.bring1.alloc _) rfl (World.cell?_alloc_at _ _ _ _ rfl) (by rw [HX.out]; omega) (by rw [HX.out]; unfold maxLen; omega) ?_; intro v9 w9 hs)
              have hs := hs.bring1
              go_roundw
              case rel => exact ⟨j + 1, _, hjl, by go_num, Lib.hid (by simp [HX.out]), rdrP_mono hs (by omega)⟩
              case measure => simp [intOf]; omega
        · obtain rfl : j = n + 1 := by omega
          go_wp2_with (at_builtin; refine wp_app1MS rfl rfl 26 24 1 (.slice none 0 0) Tryd.underlying23 info_row rfl (by decide) (fun _ => .slice ax xs.length cx) rfl (hs.bring2.alloc _) rfl (fun j hj => by obtain rfl : j = 0 := (by omega); exact World.cell?_alloc_at _ _ _ _ rfl) (fun j hj => rfl) (by rw [HL.out]; omega) (by rw [HL.out]; unfold maxLen; omega) ?_; intro v9 w9 hs)
          have hs := hs.bring1.push3.snocSS rfl
          go_roundw
          case rel =>
            refine ⟨k + 1, _, xss ++ [xs], hlt, by go_num, Lib.hid (by simp [HL.out]), Lib.hid (fun i hi => ?_), rdrP_mono hs.bring2 (by omega)⟩
            by_cases e : i < xss.length
            · rw [gl_left e]; exact HE.out i e
            · obtain rfl : i = xss.length := by simp at hi; omega
              rw [gl_at]; exact HX.out
          case measure => simp [intOf]; omega
    · obtain rfl : k = n + 1 := by omega
      go_wp2_with fail
      refine (odd_s g _ bad _ (by first | exact ⟨hs, by omega⟩ | exact ⟨(hs).allocP1 _ _, by omega⟩ | exact ⟨((hs).allocP1 _ _).allocP1 _ _, by omega⟩ | exact ⟨(((hs).allocP1 _ _).allocP1 _ _).allocP1 _ _, by omega⟩ | exact ⟨((((hs).allocP1 _ _).allocP1 _ _).allocP1 _ _).allocP1 _ _, by omega⟩ | exact ⟨(hs).drew, by omega⟩ | exact ⟨((hs).allocP1 _ _).drew, by omega⟩ | exact ⟨(((hs).allocP1 _ _).allocP1 _ _).drew, by omega⟩ | exact ⟨((((hs).allocP1 _ _).allocP1 _ _).allocP1 _ _).drew, by omega⟩ | exact ⟨(((((hs).allocP1 _ _).allocP1 _ _).allocP1 _ _).allocP1 _ _).drew, by omega⟩ | exact ⟨(hs).drewN _, by omega⟩ | exact ⟨((hs).allocP1 _ _).drewN _, by omega⟩ | exact ⟨(((hs).allocP1 _ _).allocP1 _ _).drewN _, by omega⟩ | exact ⟨((((hs).allocP1 _ _).allocP1 _ _).allocP1 _ _).drewN _, by omega⟩ | exact ⟨(((((hs).allocP1 _ _).allocP1 _ _).allocP1 _ _).allocP1 _ _).drewN _, by omega⟩) (by omega)).mono ?_
      rintro e w21 ⟨od, rfl, -, hs⟩
      have HR : Hid (Rows8 xss) := Lib.hid ⟨by have := HL.out; omega, by have := HL.out; omega, fun i hi => by rw [HE.out i hi]; omega⟩
      rw [HL.out] at hs ⊢
      cases od
      · go_wp2
        go_ret
        exact ⟨_, vs, xss, rfl, HR.out, by rw [HL.out]; exact (rdrP_mono hs (by omega)).push2⟩
      · go_wp2_with fail
        refine (pick_s g _ 3 _ (by first | exact ⟨hs, by omega⟩ | exact ⟨(hs).allocP1 _ _, by omega⟩ | exact ⟨((hs).allocP1 _ _).allocP1 _ _, by omega⟩ | exact ⟨(((hs).allocP1 _ _).allocP1 _ _).allocP1 _ _, by omega⟩ | exact ⟨((((hs).allocP1 _ _).allocP1 _ _).allocP1 _ _).allocP1 _ _, by omega⟩ | exact ⟨(hs).drew, by omega⟩ | exact ⟨((hs).allocP1 _ _).drew, by omega⟩ | exact ⟨(((hs).allocP1 _ _).allocP1 _ _).drew, by omega⟩ | exact ⟨((((hs).allocP1 _ _).allocP1 _ _).allocP1 _ _).drew, by omega⟩ | exact ⟨(((((hs).allocP1 _ _).allocP1 _ _).allocP1 _ _).allocP1 _ _).drew, by omega⟩ | exact ⟨(hs).drewN _, by omega⟩ | exact ⟨((hs).allocP1 _ _).drewN _, by omega⟩ | exact ⟨(((hs).allocP1 _ _).allocP1 _ _).drewN _, by omega⟩ | exact ⟨((((hs).allocP1 _ _).allocP1 _ _).allocP1 _ _).drewN _, by omega⟩ | exact ⟨(((((hs).allocP1 _ _).allocP1 _ _).allocP1 _ _).allocP1 _ _).drewN _, by omega⟩) (by decide)).mono ?_
        rintro e w22 ⟨z, rfl, z_0, z_a, -, hs⟩
        have z_1 := z_a (by decide)
        clear z_a
        have h0n : 0 < n + 1 := by omega
        have hnn : n < n + 1 := by omega
        obtain rfl | rfl | rfl : z = 0 ∨ z = 1 ∨ z = 2 := by omega
        · obtain ⟨gO, rfl, -, hgO, hfO⟩ := OwnM.at_ hs.p1 h0n
          have hc0 : _ = some (oneC vs 0 0) := hgO 0 (by decide)
          have hrow := hs.p2.1 0 h0n
          have hl0 := HE.out 0 (by rw [HL.out]; exact h0n)
          obtain ⟨gR, LR, cR, hv0, hcR, hfR⟩ : ∃ gR LR cR, vs 0 = .slice (some ⟨gR, 0, none⟩) LR cR ∧ w22.cell? ⟨gR, 0, none⟩ = some (.int .i64 (gi (gl xss 0) 0)) ∧ w22.frozen? ⟨gR, 0, none⟩ = false := by
            obtain ⟨aR, cR, eR, -⟩ := (OwnK.rd hrow).form
            rw [eR] at hrow
            obtain ⟨gR, rfl, -, -, h1, h2⟩ := OwnK.at_ hrow (i := 0) (by omega)
            exact ⟨gR, _, cR, eR, h1, h2⟩
          have hLR : LR = n + 1 := by
            have := (OwnK.rd hrow).form
            obtain ⟨aR, cR, eR, -⟩ := this
            rw [hv0] at eR
            simp only [Value.slice.injEq] at eR
            omega
          subst hLR
          have hc1 : w22.cell? ⟨gO, 0, none⟩ = some (.slice (some ⟨gR, 0, none⟩) (n + 1) cR) := by have := hgO 0 (by decide); rw [← hv0]; simpa [oneC] using this
          clear hgO hrow hc0
          go_wp2
          go_ret
          have hs2 := (hs.bring2.setInn h0n (by rw [HL.out]; exact Nat.le_refl _) hv0 (show 0 < n + 1 by omega) 1)
          refine ⟨_, vs, xss.set 0 ((gl xss 0).set 0 1), rfl, rows8_set HR.out (by rw [List.length_set, hl0]; omega), ?_⟩
          rw [List.length_set, HL.out]
          exact ((rdrP_mono (m' := m + 200) (hs2.bring1) (by omega)).bring1).bring2
        · have hs := hs.bring2.popInn
          have HLN := Lib.hid (HE.out n (by rw [HL.out]; exact hnn))
          obtain ⟨aR, cR, eR, -⟩ := (OwnK.rd hs.p0).form
          rw [eR] at hs
          obtain ⟨gO, hge, -, hgO, hfO⟩ := OwnM.at_ hs.p3 (i := n) (by omega)
          cases hge
          have hc1 : w22.cell? ⟨gO, n, none⟩ = some (.slice aR (gl xss n).length cR) := by have := hgO 0 (by decide); rw [← eR]; simpa [oneC] using this
          clear hgO hfO
          rw [HLN.out] at hs hc1
          have n1 : (n : Int) < (n : Int) + 1 := by omega
          go_wp2_with (at_builtin; refine wp_app1S rfl rfl .i64 3 8 Tryd.underlying26 info_int 0 rfl (hs.alloc _) rfl (World.cell?_alloc_at _ _ _ _ rfl) (by rw [HLN.out]; omega) (by rw [HLN.out]; unfold maxLen; omega) ?_; intro v9 w9 hs; obtain ⟨a9, c9, rfl, -⟩ := (OwnK.rd hs.p0).form; obtain ⟨gO', hge, -, hgO, hfO⟩ := OwnM.at_ hs.p3 (i := n) (by omega); cases hge; have hc2 : w9.cell? ⟨gO, n, none⟩ = some (vs n) := (by simpa [oneC] using hgO 0 (by decide)); have hf2 := hfO n; clear hgO hfO)
          have hs := hs.bring3.setOwn1M (i := n) (by omega) (.slice a9 ((gl xss n).length + 1) c9)
          rw [List.length_append, List.length_singleton] at hs
          go_ret
          have hxn : n < xss.length := by rw [HL.out]; exact hnn
          have h2 := ((hs.bring2.innExt (xss' := xss.set n (gl xss n ++ [0])) (fun i hi => by rw [gl_set hxn, if_neg (by omega)])).bring2).pushInn (by rw [gl_set hxn, if_pos rfl])
          refine ⟨_, updV vs n (.slice a9 ((gl xss n).length + 1) c9), xss.set n (gl xss n ++ [0]), rfl, rows8_set HR.out (by rw [List.length_append, HLN.out]; simp; omega), ?_⟩
          rw [List.length_set, HL.out]
          exact rdrP_monoC (h2.bring1.congrM (fun i j hi hj => by
            obtain rfl : j = 0 := by omega
            unfold updC oneC updV
            by_cases e : i = n <;> simp [e])) (by omega)
        · obtain ⟨gO, rfl, -, -, -⟩ := OwnM.at_ hs.p1 h0n
          have hrow := hs.p2.1 0 h0n
          have hl0 := HE.out 0 (by rw [HL.out]; exact h0n)
          obtain ⟨gR, cR, hv0⟩ : ∃ gR cR, vs 0 = .slice (some ⟨gR, 0, none⟩) (n + 1) cR := by
            obtain ⟨aR, cR, eR, -⟩ := (OwnK.rd hrow).form
            rw [eR] at hrow
            obtain ⟨gR, rfl, -, -, h1, h2⟩ := OwnK.at_ hrow (i := 0) (by omega)
            exact ⟨gR, cR, by rw [eR, hl0]⟩
          have HL0 := Lib.hid hl0
          have HV0 := Lib.hid hv0
          have c0 := tabO hs.p1 h0n hv0
          have n1 : (n : Int) < (n : Int) + 1 := by omega
          have n0 : (0 : Int) ≤ (n : Int) := by omega
          have nw : IntKind.i64.wrap (n : Int) = n := by rw [IntKind.wrap_i64]; omega
          clear hrow hl0 hv0
          go_wp2
          have c0a := tabO (hs.alloc (.cells #[.int .i64 (-1), .int .i64 101] 3)).p1 h0n HV0.out
          go_region_with (first | (go_at_call 25; refine (pick_s g _ 2 _ ⟨hs.drew.allocP1 _ _, by omega⟩ (by decide)).mono ?_; rintro e w5 ⟨y, rfl, y0, ya, -, hs5⟩; have y1 := ya (by decide); obtain ⟨u, hu⟩ := lit2 hs5.p1 y0 y1; replace hu : w5.cell? ⟨w22.heap.size, y.toNat, none⟩ = some (.int .i64 u) := hu; have c5 := tabO hs5.p2 h0n HV0.out; have hR := tabR hs5.p3 h0n HV0.out hnn; obtain ⟨hR1, hR2⟩ := hR) | (go_at_call 25; refine (pick_s g _ 2 _ ⟨hs.drew, by omega⟩ (by decide)).mono ?_; rintro e w5 ⟨y, rfl, y0, ya, -, hs5⟩; have y1 := ya (by decide); obtain ⟨u, hu⟩ := lit2 (hs5.allocP #[.int .i64 (-1), .int .i64 101] 3).p0 y0 y1; have c5 := tabO hs5.p1 h0n HV0.out; have c5a := tabO (hs5.alloc (.cells #[.int .i64 (-1), .int .i64 101] 3)).p1 h0n HV0.out; have hR := tabR (hs5.alloc (.cells #[.int .i64 (-1), .int .i64 101] 3)).p2 h0n HV0.out hnn; obtain ⟨hR1, hR2⟩ := hR))
          all_goals
            go_wp2
            go_ret
            refine ⟨_, vs, xss.set 0 ((gl xss 0).set n u), rfl, rows8_set HR.out (by rw [List.length_set, HL0.out]; omega), ?_⟩
            rw [List.length_set, HL.out]
            first | exact rdrP_monoC ((hs5.bring3.setInn (j := n) h0n (by rw [HL.out]; exact Nat.le_refl _) HV0.out hnn u).drop2.bring2) (by omega) | exact rdrP_monoC (((hs5.alloc (.cells #[.int .i64 (-1), .int .i64 101] 3)).bring2.setInn (j := n) h0n (by rw [HL.out]; exact Nat.le_refl _) HV0.out hnn u).bring2) (by omega)


set_option maxRecDepth 100000 in
set_option maxHeartbeats 4000000 in
theorem l20Ends_s (g m : Nat) (w : World) {row : Option Nat} {w0 : World} {I : List Part} {sv : Value} {bs : List Int} (hs : SH row w0 w (rdrP g m sv bs :: I)) (hm : m ≤ 1000000) :
    Calls Tryd.prog 11 #[.pointer (some ⟨g, 0, none⟩)] w (fun e w' => ∃ v vs xss, ∃ fr to : Int, e = .returned (.tuple #[v, .int .i64 fr, .int .i64 to]) ∧ Rows8 xss ∧ SH row w0 w' (ownMP 1 26 v xss.length (oneC vs) :: innP 3 vs xss xss.length :: I)) := by
  go_enter Tryd.func11, Tryd.ntmps11
  go_wp2_with fail
  refine (l20Costs_s g m 14 _ (by first | exact hs | exact (hs).allocP1 _ _ | exact ((hs).allocP1 _ _).allocP1 _ _ | exact (((hs).allocP1 _ _).allocP1 _ _).allocP1 _ _ | exact ((((hs).allocP1 _ _).allocP1 _ _).allocP1 _ _).allocP1 _ _ | exact (hs).drew | exact ((hs).allocP1 _ _).drew | exact (((hs).allocP1 _ _).allocP1 _ _).drew | exact ((((hs).allocP1 _ _).allocP1 _ _).allocP1 _ _).drew | exact (((((hs).allocP1 _ _).allocP1 _ _).allocP1 _ _).allocP1 _ _).drew | exact (hs).drewN _ | exact ((hs).allocP1 _ _).drewN _ | exact (((hs).allocP1 _ _).allocP1 _ _).drewN _ | exact ((((hs).allocP1 _ _).allocP1 _ _).allocP1 _ _).drewN _ | exact (((((hs).allocP1 _ _).allocP1 _ _).allocP1 _ _).allocP1 _ _).drewN _) (by omega) (by decide)).mono ?_
  rintro e w2 ⟨v, vs, xss, rfl, hR, hs⟩
  have HR := Lib.hid hR
  obtain ⟨r1, r2, -⟩ := hR
  obtain ⟨ao, co, rfl, -⟩ := (OwnM.rd hs.p0).form
  have hs := hs.bring2
  go_wp2_with fail
  refine (pick_s g _ (xss.length : Int) _ (by first | exact ⟨hs, by omega⟩ | exact ⟨(hs).allocP1 _ _, by omega⟩ | exact ⟨((hs).allocP1 _ _).allocP1 _ _, by omega⟩ | exact ⟨(((hs).allocP1 _ _).allocP1 _ _).allocP1 _ _, by omega⟩ | exact ⟨((((hs).allocP1 _ _).allocP1 _ _).allocP1 _ _).allocP1 _ _, by omega⟩ | exact ⟨(hs).drew, by omega⟩ | exact ⟨((hs).allocP1 _ _).drew, by omega⟩ | exact ⟨(((hs).allocP1 _ _).allocP1 _ _).drew, by omega⟩ | exact ⟨((((hs).allocP1 _ _).allocP1 _ _).allocP1 _ _).drew, by omega⟩ | exact ⟨(((((hs).allocP1 _ _).allocP1 _ _).allocP1 _ _).allocP1 _ _).drew, by omega⟩ | exact ⟨(hs).drewN _, by omega⟩ | exact ⟨((hs).allocP1 _ _).drewN _, by omega⟩ | exact ⟨(((hs).allocP1 _ _).allocP1 _ _).drewN _, by omega⟩ | exact ⟨((((hs).allocP1 _ _).allocP1 _ _).allocP1 _ _).drewN _, by omega⟩ | exact ⟨(((((hs).allocP1 _ _).allocP1 _ _).allocP1 _ _).allocP1 _ _).drewN _, by omega⟩) (by omega)).mono ?_
  rintro e w3 ⟨a, rfl, a_0, a_a, -, hs⟩
  have a_1 := a_a (by omega)
  clear a_a
  go_wp2_with fail
  refine (pick_s g _ 16 _ (by first | exact ⟨hs, by omega⟩ | exact ⟨(hs).allocP1 _ _, by omega⟩ | exact ⟨((hs).allocP1 _ _).allocP1 _ _, by omega⟩ | exact ⟨(((hs).allocP1 _ _).allocP1 _ _).allocP1 _ _, by omega⟩ | exact ⟨((((hs).allocP1 _ _).allocP1 _ _).allocP1 _ _).allocP1 _ _, by omega⟩ | exact ⟨(hs).drew, by omega⟩ | exact ⟨((hs).allocP1 _ _).drew, by omega⟩ | exact ⟨(((hs).allocP1 _ _).allocP1 _ _).drew, by omega⟩ | exact ⟨((((hs).allocP1 _ _).allocP1 _ _).allocP1 _ _).drew, by omega⟩ | exact ⟨(((((hs).allocP1 _ _).allocP1 _ _).allocP1 _ _).allocP1 _ _).drew, by omega⟩ | exact ⟨(hs).drewN _, by omega⟩ | exact ⟨((hs).allocP1 _ _).drewN _, by omega⟩ | exact ⟨(((hs).allocP1 _ _).allocP1 _ _).drewN _, by omega⟩ | exact ⟨((((hs).allocP1 _ _).allocP1 _ _).allocP1 _ _).drewN _, by omega⟩ | exact ⟨(((((hs).allocP1 _ _).allocP1 _ _).allocP1 _ _).allocP1 _ _).drewN _, by omega⟩) (by decide)).mono ?_
  rintro e w4 ⟨aq, rfl, aq_0, aq_a, -, hs⟩
  have aq_1 := aq_a (by decide)
  clear aq_a
  go_wp2_with fail
  refine (pick_s g _ (xss.length : Int) _ (by first | exact ⟨hs, by omega⟩ | exact ⟨(hs).allocP1 _ _, by omega⟩ | exact ⟨((hs).allocP1 _ _).allocP1 _ _, by omega⟩ | exact ⟨(((hs).allocP1 _ _).allocP1 _ _).allocP1 _ _, by omega⟩ | exact ⟨((((hs).allocP1 _ _).allocP1 _ _).allocP1 _ _).allocP1 _ _, by omega⟩ | exact ⟨(hs).drew, by omega⟩ | exact ⟨((hs).allocP1 _ _).drew, by omega⟩ | exact ⟨(((hs).allocP1 _ _).allocP1 _ _).drew, by omega⟩ | exact ⟨((((hs).allocP1 _ _).allocP1 _ _).allocP1 _ _).drew, by omega⟩ | exact ⟨(((((hs).allocP1 _ _).allocP1 _ _).allocP1 _ _).allocP1 _ _).drew, by omega⟩ | exact ⟨(hs).drewN _, by omega⟩ | exact ⟨((hs).allocP1 _ _).drewN _, by omega⟩ | exact ⟨(((hs).allocP1 _ _).allocP1 _ _).drewN _, by omega⟩ | exact ⟨((((hs).allocP1 _ _).allocP1 _ _).allocP1 _ _).drewN _, by omega⟩ | exact ⟨(((((hs).allocP1 _ _).allocP1 _ _).allocP1 _ _).allocP1 _ _).drewN _, by omega⟩) (by omega)).mono ?_
  rintro e w5 ⟨c, rfl, c_0, c_a, -, hs⟩
  have c_1 := c_a (by omega)
  clear c_a
  go_wp2_with fail
  refine (pick_s g _ 16 _ (by first | exact ⟨hs, by omega⟩ | exact ⟨(hs).allocP1 _ _, by omega⟩ | exact ⟨((hs).allocP1 _ _).allocP1 _ _, by omega⟩ | exact ⟨(((hs).allocP1 _ _).allocP1 _ _).allocP1 _ _, by omega⟩ | exact ⟨((((hs).allocP1 _ _).allocP1 _ _).allocP1 _ _).allocP1 _ _, by omega⟩ | exact ⟨(hs).drew, by omega⟩ | exact ⟨((hs).allocP1 _ _).drew, by omega⟩ | exact ⟨(((hs).allocP1 _ _).allocP1 _ _).drew, by omega⟩ | exact ⟨((((hs).allocP1 _ _).allocP1 _ _).allocP1 _ _).drew, by omega⟩ | exact ⟨(((((hs).allocP1 _ _).allocP1 _ _).allocP1 _ _).allocP1 _ _).drew, by omega⟩ | exact ⟨(hs).drewN _, by omega⟩ | exact ⟨((hs).allocP1 _ _).drewN _, by omega⟩ | exact ⟨(((hs).allocP1 _ _).allocP1 _ _).drewN _, by omega⟩ | exact ⟨((((hs).allocP1 _ _).allocP1 _ _).allocP1 _ _).drewN _, by omega⟩ | exact ⟨(((((hs).allocP1 _ _).allocP1 _ _).allocP1 _ _).allocP1 _ _).drewN _, by omega⟩) (by decide)).mono ?_
  rintro e w6 ⟨cq, rfl, cq_0, cq_a, -, hs⟩
  have cq_1 := cq_a (by decide)
  clear cq_a
  go_wp2
  go_ret3
  exact ⟨_, vs, xss, _, _, rfl, HR.out, hs.drop0⟩


theorem DrawRouteTo_s (va : Value) (cs : List Int) (w : World) {row : Option Nat} {w0 : World} {I : List Part} (hs : SH row w0 w (rdP .u8 va cs :: I)) (hb : ∀ n ∈ cs, (Lit.int .u8 n).wf = true) :
    Calls Tryd.prog 4 #[va] w (fun e w' => ∃ v vs xss, ∃ fr to : Int, e = .returned (.tuple #[v, .int .i64 fr, .int .i64 to]) ∧ Rows8 xss ∧ SH row w0 w' (ownMP 1 26 v xss.length (oneC vs) :: innP 3 vs xss xss.length :: rdP .u8 va cs :: I)) := by
  have HB := Lib.hid hb
  clear hb
  go_enter Tryd.func4, Tryd.ntmps4
  go_wp2_with fail
  refine (open_s va cs _ (by first | exact hs | exact (hs).allocP1 _ _ | exact ((hs).allocP1 _ _).allocP1 _ _ | exact (((hs).allocP1 _ _).allocP1 _ _).allocP1 _ _ | exact ((((hs).allocP1 _ _).allocP1 _ _).allocP1 _ _).allocP1 _ _ | exact (hs).drew | exact ((hs).allocP1 _ _).drew | exact (((hs).allocP1 _ _).allocP1 _ _).drew | exact ((((hs).allocP1 _ _).allocP1 _ _).allocP1 _ _).drew | exact (((((hs).allocP1 _ _).allocP1 _ _).allocP1 _ _).allocP1 _ _).drew | exact (hs).drewN _ | exact ((hs).allocP1 _ _).drewN _ | exact (((hs).allocP1 _ _).allocP1 _ _).drewN _ | exact ((((hs).allocP1 _ _).allocP1 _ _).allocP1 _ _).drewN _ | exact (((((hs).allocP1 _ _).allocP1 _ _).allocP1 _ _).allocP1 _ _).drewN _) HB.out).mono ?_
  rintro e w1 ⟨g, sv, bs, rfl, hs⟩
  go_wp2_with fail
  refine (l20Ends_s g _ _ (by first | exact hs | exact (hs).allocP1 _ _ | exact ((hs).allocP1 _ _).allocP1 _ _ | exact (((hs).allocP1 _ _).allocP1 _ _).allocP1 _ _ | exact ((((hs).allocP1 _ _).allocP1 _ _).allocP1 _ _).allocP1 _ _ | exact (hs).drew | exact ((hs).allocP1 _ _).drew | exact (((hs).allocP1 _ _).allocP1 _ _).drew | exact ((((hs).allocP1 _ _).allocP1 _ _).allocP1 _ _).drew | exact (((((hs).allocP1 _ _).allocP1 _ _).allocP1 _ _).allocP1 _ _).drew | exact (hs).drewN _ | exact ((hs).allocP1 _ _).drewN _ | exact (((hs).allocP1 _ _).allocP1 _ _).drewN _ | exact ((((hs).allocP1 _ _).allocP1 _ _).allocP1 _ _).drewN _ | exact (((((hs).allocP1 _ _).allocP1 _ _).allocP1 _ _).allocP1 _ _).drewN _) (by decide)).mono ?_
  rintro e w2 ⟨v, vs, xss, fr, to, rfl, hR, hs⟩
  obtain ⟨ao, co, rfl, -⟩ := (OwnM.rd hs.p0).form
  have HR := Lib.hid hR
  clear hR
  go_wp2
  go_ret3
  exact ⟨_, vs, xss, _, _, rfl, HR.out, hs⟩

end Go.Proofs.YtdfinlpfkmmpkaaDoor
