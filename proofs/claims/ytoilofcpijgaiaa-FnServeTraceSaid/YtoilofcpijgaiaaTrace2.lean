import Derived.Test.YtoilofcpijgaiaaProg
import Derived.Test.YtoilofcpijgaiaaSym
import Derived.Test.YtoilofcpijgaiaaInts
import Derived.Test.YtoilofcpijgaiaaSS
import Derived.Test.YtoilofcpijgaiaaHand
import Derived.Test.YtoilofcpijgaiaaTrace
import Derived.Test.YtoilofcpijgaiaaDrawCell
namespace Go.Proofs.Ytoilofcpijgaiaa
open Go.RowKit

theorem SH.innExt {row : Option Nat} {w0 w : World} {I : List Part} {t : TypeId} {vs : Nat → Value} {xss xss' : List (List Int)} {n : Nat} (h : SH row w0 w (innP t vs xss n :: I)) (hx : ∀ i, i < n → gl xss i = gl xss' i) : SH row w0 w (innP t vs xss' n :: I) :=
  h.as (q := innP t vs xss' n) ⟨fun i hi => hx i hi ▸ h.p0.1 i hi, h.p0.2⟩ (fun _ h => h) (fun _ h => h)
theorem gl_left {xss : List (List Int)} {xs : List Int} {i : Nat} (h : i < xss.length) : gl (xss ++ [xs]) i = gl xss i := by simp [gl, List.getElem?_append_left h]
theorem gl_at {xss : List (List Int)} {xs : List Int} : gl (xss ++ [xs]) xss.length = xs := by simp [gl]
/-- a row is appended: its slice to the outer row, its numbers to the rows -/
theorem SH.snocSS {row : Option Nat} {w0 w : World} {I : List Part} {t ti : TypeId} {v o : Value} {xs : List Int} {vs : Nat → Value} {xss : List (List Int)} {r : Nat → Value}
    (h : SH row w0 w (ownMP 1 t o (xss.length + 1) (updC (oneC vs) xss.length r) :: ownP .i64 ti v xs :: innP ti vs xss xss.length :: I)) (hr : r 0 = v) :
    SH row w0 w (ownMP 1 t o (xss ++ [xs]).length (oneC (updV vs xss.length v)) :: innP ti (updV vs xss.length v) (xss ++ [xs]) (xss ++ [xs]).length :: I) := by
  have e : (xss ++ [xs]).length = xss.length + 1 := by simp
  rw [e]
  have h1 := h.congrM (c' := oneC (updV vs xss.length v)) (fun i j hi hj => by
    obtain rfl : j = 0 := by omega
    unfold updC oneC updV
    by_cases ei : i = xss.length <;> simp [ei, hr])
  have h2 := (h1.bring2.innExt (xss' := xss ++ [xs]) (fun i hi => (gl_left hi).symm)).bring2.pushInn gl_at
  exact h2.bring1

set_option maxRecDepth 100000 in
set_option maxHeartbeats 4000000 in
theorem DrawServeTrace_s (va : Value) (cs : List Int) (w : World) {row : Option Nat} {w0 : World} {I : List Part} (hs : SH row w0 w (rdP .u8 va cs :: I)) (hb : ∀ n ∈ cs, (Lit.int .u8 n).wf = true) :
    Calls Try.prog 31 #[va] w (fun e w' => ∃ (v : Value) (vs : Nat → Value) (xss : List (List Int)) (m : Int), e = .returned (.tuple #[v, .int .i64 m]) ∧ 0 ≤ m ∧ m ≤ 7 ∧ SH row w0 w' (ownMP 1 23 v xss.length (oneC vs) :: innP 3 vs xss xss.length :: rdP .u8 va cs :: I)) := by
  have HB := Lib.hid hb
  clear hb
  go_enter Try.func31, Try.ntmps31
  go_wp2_with fail
  refine (open_s va cs _ (by first | exact hs | exact (hs).allocP1 _ _ | exact ((hs).allocP1 _ _).allocP1 _ _ | exact (((hs).allocP1 _ _).allocP1 _ _).allocP1 _ _ | exact ((((hs).allocP1 _ _).allocP1 _ _).allocP1 _ _).allocP1 _ _ | exact (hs).drew | exact ((hs).allocP1 _ _).drew | exact (((hs).allocP1 _ _).allocP1 _ _).drew | exact ((((hs).allocP1 _ _).allocP1 _ _).allocP1 _ _).drew | exact (((((hs).allocP1 _ _).allocP1 _ _).allocP1 _ _).allocP1 _ _).drew | exact (hs).drewN _ | exact ((hs).allocP1 _ _).drewN _ | exact (((hs).allocP1 _ _).allocP1 _ _).drewN _ | exact ((((hs).allocP1 _ _).allocP1 _ _).allocP1 _ _).drewN _ | exact (((((hs).allocP1 _ _).allocP1 _ _).allocP1 _ _).allocP1 _ _).drewN _) HB.out).mono ?_
  rintro e w1 ⟨g, sv, bs, rfl, hs⟩
  go_wp2_with fail
  refine (pick_s g _ 4 _ (by first | exact ⟨hs, by omega⟩ | exact ⟨(hs).allocP1 _ _, by omega⟩ | exact ⟨((hs).allocP1 _ _).allocP1 _ _, by omega⟩ | exact ⟨(((hs).allocP1 _ _).allocP1 _ _).allocP1 _ _, by omega⟩ | exact ⟨((((hs).allocP1 _ _).allocP1 _ _).allocP1 _ _).allocP1 _ _, by omega⟩ | exact ⟨(hs).drew, by omega⟩ | exact ⟨((hs).allocP1 _ _).drew, by omega⟩ | exact ⟨(((hs).allocP1 _ _).allocP1 _ _).drew, by omega⟩ | exact ⟨((((hs).allocP1 _ _).allocP1 _ _).allocP1 _ _).drew, by omega⟩ | exact ⟨(((((hs).allocP1 _ _).allocP1 _ _).allocP1 _ _).allocP1 _ _).drew, by omega⟩ | exact ⟨(hs).drewN _, by omega⟩ | exact ⟨((hs).allocP1 _ _).drewN _, by omega⟩ | exact ⟨(((hs).allocP1 _ _).allocP1 _ _).drewN _, by omega⟩ | exact ⟨((((hs).allocP1 _ _).allocP1 _ _).allocP1 _ _).drewN _, by omega⟩ | exact ⟨(((((hs).allocP1 _ _).allocP1 _ _).allocP1 _ _).allocP1 _ _).drewN _, by omega⟩) (by decide)).mono ?_
  rintro e w2 ⟨n1, rfl, n1_0, n1_a, -, hs⟩
  have n1_1 := n1_a (by decide)
  clear n1_a
  obtain ⟨n, hn, n0, n4⟩ : ∃ n : Nat, 1 + n1 = (n : Int) ∧ 1 ≤ n ∧ n ≤ 4 := ⟨(1 + n1).toNat, by omega, by omega, by omega⟩
  go_wp2_with fail
  refine (pick_s g _ 9 _ ⟨((hs.inn0 3 (fun _ => undef) []).ownEmptyM 1 (by decide) 23 (oneC fun _ => undef)).bring2, by omega⟩ (by decide)).mono ?_
  rintro e w3 ⟨c0, rfl, c0_0, c0_a, -, hs⟩
  have c0_1 := c0_a (by decide)
  clear c0_a
  clear hn n1_0 n1_1
  go_wp2_with fail
  go_loopw [6, 7] (fun o i wr => ∃ (q : Int) (vs : Nat → Value) (xss : List (List Int)), 0 ≤ q ∧ i = .int .i64 q ∧ (xss.length : Int) + q ≤ 8 ∧ SH row w0 wr (rdrP g (2 + 20 * xss.length) sv bs :: ownMP 1 23 o xss.length (oneC vs) :: innP 3 vs xss xss.length :: rdP .u8 va cs :: I)) (fun _ i _ => (intOf i).toNat)
  case atStart => exact ⟨c0, _, [], c0_0, rfl, by simp; omega, hs⟩
  case round =>
    obtain ⟨q, vs, xss, q0, rfl, hlen, hs⟩ := hrel
    obtain ⟨ao, co, rfl, -⟩ := (OwnM.rd hs.p1).form
    by_cases hq : 0 < q
    · go_wp2_with fail
      refine (l20Strengths_s g _ n 40 _ (by first | exact hs | exact (hs).alloc _ | exact ((hs).alloc _).alloc _ | exact (((hs).alloc _).alloc _).alloc _ | exact ((((hs).alloc _).alloc _).alloc _).alloc _ | exact (hs).drew | exact ((hs).alloc _).drew | exact (((hs).alloc _).alloc _).drew | exact ((((hs).alloc _).alloc _).alloc _).drew | exact (((((hs).alloc _).alloc _).alloc _).alloc _).drew | exact (hs).drewN _ | exact ((hs).alloc _).drewN _ | exact (((hs).alloc _).alloc _).drewN _ | exact ((((hs).alloc _).alloc _).alloc _).drewN _ | exact (((((hs).alloc _).alloc _).alloc _).alloc _).drewN _) (by omega) n0 (by omega) (by decide)).mono ?_
      rintro e w4 ⟨v, xs, rfl, hxl, hx, hs⟩
      clear hx
      obtain ⟨av, cv, rfl, -⟩ := (OwnK.rd hs.p0).form
      go_wp2_with (at_builtin; refine wp_app1MS rfl rfl 23 24 1 (.slice none 0 0) Try.underlying34 info_row rfl (by decide) (fun _ => .slice av xs.length cv) rfl (hs.bring2.alloc _) rfl (fun j hj => by obtain rfl : j = 0 := (by omega); exact World.cell?_alloc_at _ _ _ _ rfl) (fun j hj => rfl) (by omega) (by unfold maxLen; omega) ?_; intro v9 w9 hs)
      have hs := hs.bring3.bring2.bring2.snocSS rfl
      have hs := hs.bring2
      go_wp2
      go_roundw
      case rel => exact ⟨q - 1, _, xss ++ [xs], by omega, by go_num, by simp; omega, rdrP_mono hs (by simp; omega)⟩
      case measure => simp [intOf]; omega
    · go_wp2_with fail
      refine (odd_s g _ 12 _ (by first | exact ⟨hs, by omega⟩ | exact ⟨(hs).allocP1 _ _, by omega⟩ | exact ⟨((hs).allocP1 _ _).allocP1 _ _, by omega⟩ | exact ⟨(((hs).allocP1 _ _).allocP1 _ _).allocP1 _ _, by omega⟩ | exact ⟨((((hs).allocP1 _ _).allocP1 _ _).allocP1 _ _).allocP1 _ _, by omega⟩ | exact ⟨(hs).drew, by omega⟩ | exact ⟨((hs).allocP1 _ _).drew, by omega⟩ | exact ⟨(((hs).allocP1 _ _).allocP1 _ _).drew, by omega⟩ | exact ⟨((((hs).allocP1 _ _).allocP1 _ _).allocP1 _ _).drew, by omega⟩ | exact ⟨(((((hs).allocP1 _ _).allocP1 _ _).allocP1 _ _).allocP1 _ _).drew, by omega⟩ | exact ⟨(hs).drewN _, by omega⟩ | exact ⟨((hs).allocP1 _ _).drewN _, by omega⟩ | exact ⟨(((hs).allocP1 _ _).allocP1 _ _).drewN _, by omega⟩ | exact ⟨((((hs).allocP1 _ _).allocP1 _ _).allocP1 _ _).drewN _, by omega⟩ | exact ⟨(((((hs).allocP1 _ _).allocP1 _ _).allocP1 _ _).allocP1 _ _).drewN _, by omega⟩) (by decide)).mono ?_
      rintro e w4 ⟨od, rfl, -, hs⟩
      cases od
      · go_wp2_with fail
        refine (pick_s g _ 8 _ (by first | exact ⟨hs, by omega⟩ | exact ⟨(hs).allocP1 _ _, by omega⟩ | exact ⟨((hs).allocP1 _ _).allocP1 _ _, by omega⟩ | exact ⟨(((hs).allocP1 _ _).allocP1 _ _).allocP1 _ _, by omega⟩ | exact ⟨((((hs).allocP1 _ _).allocP1 _ _).allocP1 _ _).allocP1 _ _, by omega⟩ | exact ⟨(hs).drew, by omega⟩ | exact ⟨((hs).allocP1 _ _).drew, by omega⟩ | exact ⟨(((hs).allocP1 _ _).allocP1 _ _).drew, by omega⟩ | exact ⟨((((hs).allocP1 _ _).allocP1 _ _).allocP1 _ _).drew, by omega⟩ | exact ⟨(((((hs).allocP1 _ _).allocP1 _ _).allocP1 _ _).allocP1 _ _).drew, by omega⟩ | exact ⟨(hs).drewN _, by omega⟩ | exact ⟨((hs).allocP1 _ _).drewN _, by omega⟩ | exact ⟨(((hs).allocP1 _ _).allocP1 _ _).drewN _, by omega⟩ | exact ⟨((((hs).allocP1 _ _).allocP1 _ _).allocP1 _ _).drewN _, by omega⟩ | exact ⟨(((((hs).allocP1 _ _).allocP1 _ _).allocP1 _ _).allocP1 _ _).drewN _, by omega⟩) (by decide)).mono ?_
        rintro e w5 ⟨mm, rfl, mm_0, mm_a, -, hs⟩
        have mm_1 := mm_a (by decide)
        clear mm_a
        go_wp2
        go_ret2
        exact ⟨_, vs, xss, mm, rfl, by omega, by omega, hs.drop0⟩
      · have HN5 := Lib.hid (show (n : Int) + 1 = ((n + 1 : Nat) : Int) by omega)
        go_wp2_with fail
        rw [HN5.out]
        refine (l20Strengths_s g _ (n + 1) 0 _ (by first | exact hs | exact (hs).alloc _ | exact ((hs).alloc _).alloc _ | exact (((hs).alloc _).alloc _).alloc _ | exact ((((hs).alloc _).alloc _).alloc _).alloc _ | exact (hs).drew | exact ((hs).alloc _).drew | exact (((hs).alloc _).alloc _).drew | exact ((((hs).alloc _).alloc _).alloc _).drew | exact (((((hs).alloc _).alloc _).alloc _).alloc _).drew | exact (hs).drewN _ | exact ((hs).alloc _).drewN _ | exact (((hs).alloc _).alloc _).drewN _ | exact ((((hs).alloc _).alloc _).alloc _).drewN _ | exact (((((hs).alloc _).alloc _).alloc _).alloc _).drewN _) (by omega) (by omega) (by omega) (by decide)).mono ?_
        rintro e w20 ⟨v, xs, rfl, hxl, hx, hs⟩
        clear hx
        obtain ⟨av, cv, rfl, -⟩ := (OwnK.rd hs.p0).form
        go_wp2_with (at_builtin; refine wp_app1MS rfl rfl 23 24 1 (.slice none 0 0) Try.underlying34 info_row rfl (by decide) (fun _ => .slice av xs.length cv) rfl (hs.bring2.alloc _) rfl (fun j hj => by obtain rfl : j = 0 := (by omega); exact World.cell?_alloc_at _ _ _ _ rfl) (fun j hj => rfl) (by omega) (by unfold maxLen; omega) ?_; intro v9 w9 hs)
        have hs := hs.bring3.bring2.bring2.snocSS rfl
        have hs := hs.bring2
        go_wp2_with fail
        refine (pick_s g _ 8 _ (by first | exact ⟨hs, by omega⟩ | exact ⟨(hs).allocP1 _ _, by omega⟩ | exact ⟨((hs).allocP1 _ _).allocP1 _ _, by omega⟩ | exact ⟨(((hs).allocP1 _ _).allocP1 _ _).allocP1 _ _, by omega⟩ | exact ⟨((((hs).allocP1 _ _).allocP1 _ _).allocP1 _ _).allocP1 _ _, by omega⟩ | exact ⟨(hs).drew, by omega⟩ | exact ⟨((hs).allocP1 _ _).drew, by omega⟩ | exact ⟨(((hs).allocP1 _ _).allocP1 _ _).drew, by omega⟩ | exact ⟨((((hs).allocP1 _ _).allocP1 _ _).allocP1 _ _).drew, by omega⟩ | exact ⟨(((((hs).allocP1 _ _).allocP1 _ _).allocP1 _ _).allocP1 _ _).drew, by omega⟩ | exact ⟨(hs).drewN _, by omega⟩ | exact ⟨((hs).allocP1 _ _).drewN _, by omega⟩ | exact ⟨(((hs).allocP1 _ _).allocP1 _ _).drewN _, by omega⟩ | exact ⟨((((hs).allocP1 _ _).allocP1 _ _).allocP1 _ _).drewN _, by omega⟩ | exact ⟨(((((hs).allocP1 _ _).allocP1 _ _).allocP1 _ _).allocP1 _ _).drewN _, by omega⟩) (by decide)).mono ?_
        rintro e w21 ⟨mm, rfl, mm_0, mm_a, -, hs⟩
        have mm_1 := mm_a (by decide)
        clear mm_a
        go_wp2
        go_ret2
        exact ⟨_, _, xss ++ [xs], mm, rfl, by omega, by omega, hs.drop0⟩

theorem gi_trL {xss : List (List Int)} {m : Int} {n k : Nat} (h : k < n) : gi (trL xss m n) k = nowK xss m (k + 1) := by simp [gi, trL, h]
theorem trV_parts {xss : List (List Int)} {m : Int} (h : (trV xss m).length ≠ 0) : xss.length ≤ 200 ∧ inB m 0 200 = true ∧ (∀ i, i < xss.length → rowOK xss i = true) ∧ trV xss m = trL xss m xss.length := by
  cases hb : trB xss m
  · exfalso; apply h; simp [trV, hb]
  · have h2 := hb
    simp only [trB, Bool.and_eq_true, decide_eq_true_eq] at h2
    exact ⟨h2.1.1, h2.1.2, fun i hi => List.all_eq_true.1 h2.2 i (List.mem_range.2 hi), by simp [trV, hb]⟩
/-- with the largest margin the cell never changes -/
theorem now200 {xss : List (List Int)} (h : ∀ i, i < xss.length → rowOK xss i = true) : ∀ k, 0 < k → k < xss.length → nowK xss 200 (k + 1) = nowK xss 200 k := by
  intro k hk hlt
  obtain ⟨h1, h2, h3⟩ := nowK_bd (m := 200) k (fun i hi => h i (by omega))
  have h2 := h2 hk
  have h3 := h3 hk
  obtain ⟨s1, s2⟩ := rowOK_parts (h k hlt)
  obtain ⟨l0, l1, l2⟩ := strB_true.1 s1
  have hb := bestTo_lt' (gl xss k) (gl xss k).length (Nat.le_refl _) (show 0 < (gl xss k).length by omega)
  have v1 := inB_true.1 (l2 _ hb)
  have v2 := inB_true.1 (l2 (nowK xss 200 k).toNat (by omega))
  show hearV (nowK xss 200 k) (gl xss k) 200 = nowK xss 200 k
  unfold hearV
  rw [if_neg (by omega), if_neg (by omega)]
theorem chTo_same {xs : List Int} : ∀ k, (∀ i, i < k → gi xs (i + 1) = gi xs i) → chTo xs k = 0
  | 0, _ => rfl
  | k + 1, h => by
    simp only [chTo, chTo_same k (fun i hi => h i (by omega))]
    have : (gi xs (k + 1) != gi xs k) = false := by rw [h k (by omega)]; exact bne_self_eq_false _
    rw [this]; rfl
theorem tr200 {xss : List (List Int)} (h : ∀ i, i < xss.length → rowOK xss i = true) (hl : xss.length ≤ 200) : chTo (trV xss 200) ((trV xss 200).length - 1) = 0 := by
  rw [trV_ok hl (by decide) h]
  rw [length_trL]
  refine chTo_same _ fun i hi => ?_
  rw [gi_trL (by omega), gi_trL (by omega)]
  exact now200 h (i + 1) (by omega) (by omega)

set_option maxRecDepth 100000 in
set_option maxHeartbeats 4000000 in
theorem fnServeTrace_c (vc : Value) (c : List Int) (w : World) (hc : RdB w vc c) (bc : ∀ n ∈ c, (Lit.int .u8 n).wf = true) :
    Calls Try.prog 7 #[vc] w (Ret w fun v _ => v = .bool true) := by
  have hs := SH.add (p := rdP .u8 vc c) (SH.start0 w) (by simp) hc rdP_wr
  obtain ⟨ac, cc, rfl, -⟩ := hc.form
  have Bc := Lib.hid bc
  clear hc bc
  by_cases lc : c.length ≤ 1048576
  case neg =>
    go_enter Try.func7, Try.ntmps7
    go_wp2
    go_ret
    exact Ret.mk1 rfl (Below.refl _ _)
  go_enter Try.func7, Try.ntmps7
  go_wp2_with fail
  refine (DrawServeTrace_s _ c _ (by first | exact hs | exact (hs).allocP1 _ _ | exact ((hs).allocP1 _ _).allocP1 _ _ | exact (((hs).allocP1 _ _).allocP1 _ _).allocP1 _ _ | exact ((((hs).allocP1 _ _).allocP1 _ _).allocP1 _ _).allocP1 _ _ | exact (hs).drew | exact ((hs).allocP1 _ _).drew | exact (((hs).allocP1 _ _).allocP1 _ _).drew | exact ((((hs).allocP1 _ _).allocP1 _ _).allocP1 _ _).drew | exact (((((hs).allocP1 _ _).allocP1 _ _).allocP1 _ _).allocP1 _ _).drew | exact (hs).drewN _ | exact ((hs).allocP1 _ _).drewN _ | exact (((hs).allocP1 _ _).allocP1 _ _).drewN _ | exact ((((hs).allocP1 _ _).allocP1 _ _).allocP1 _ _).drewN _ | exact (((((hs).allocP1 _ _).allocP1 _ _).allocP1 _ _).allocP1 _ _).drewN _) Bc.out).mono ?_
  rintro e w1 ⟨v1, vs, xss, m, rfl, m0, m7, hs⟩
  obtain ⟨a1, c1, rfl, -⟩ := (OwnM.rd hs.p0).form
  go_wp2_with fail
  refine (SH.own hs (by repeat' (first | with_reducible exact Below.refl _ _ | with_reducible assumption | with_reducible refine below_drewN ?_ _ | with_reducible refine Below.drew ?_ | with_reducible refine Below.alloc ?_ ?_ _ | with_reducible refine Below.setCell ?_ ?_ _ | go_size)) fun hs => implServeTrace_c _ vs xss m _ (rd_of_inn hs)).mono ?_
  rintro e w2 ⟨v2, rfl, hs⟩
  go_wp2_with fail
  refine (SH.own hs (by repeat' (first | with_reducible exact Below.refl _ _ | with_reducible assumption | with_reducible refine below_drewN ?_ _ | with_reducible refine Below.drew ?_ | with_reducible refine Below.alloc ?_ ?_ _ | with_reducible refine Below.setCell ?_ ?_ _ | go_size)) fun hs => specServeTrace_c _ vs xss m _ ⟨OwnM.rd hs.p1, fun i hi => OwnK.rd (hs.p2.1 i hi)⟩).mono ?_
  rintro e w3 ⟨v3, rfl, hs⟩
  go_wp2_with fail
  refine (SH.quiet hs (by repeat' (first | with_reducible exact Below.refl _ _ | with_reducible assumption | with_reducible refine below_drewN ?_ _ | with_reducible refine Below.drew ?_ | with_reducible refine Below.alloc ?_ ?_ _ | with_reducible refine Below.setCell ?_ ?_ _ | go_size)) fun hs => sameInts_c _ _ _ _ _ (OwnK.rd hs.p1) (OwnK.rd hs.p0)).mono ?_
  rintro e w4 ⟨rfl, hs⟩
  rw [show decide (trV xss m = trV xss m) = true by simp]
  have hs := hs.drop0
  have hlen := trV_len xss m
  by_cases hz : (trV xss m).length = 0
  · obtain ⟨X, hX⟩ : ∃ X, trV xss m = X := ⟨_, rfl⟩
    rw [hX] at hs hz hlen
    obtain rfl : X = [] := List.eq_nil_of_length_eq_zero hz
    clear hX hz hlen
    obtain ⟨a2, c2, rfl, -⟩ := (OwnK.rd hs.p0).form
    go_wp2_with fail
    refine (SH.ret hs (by repeat' (first | with_reducible exact Below.refl _ _ | with_reducible assumption | with_reducible refine below_drewN ?_ _ | with_reducible refine Below.drew ?_ | with_reducible refine Below.alloc ?_ ?_ _ | with_reducible refine Below.setCell ?_ ?_ _ | go_size)) fun hs => alive_c _).mono ?_
    rintro e w5 ⟨v, rfl, rfl, hs⟩
    go_wp2
    go_ret
    exact Ret.mk1 rfl (SH.done (by first | exact hs | exact (hs).alloc _ | exact ((hs).alloc _).alloc _ | exact (((hs).alloc _).alloc _).alloc _ | exact ((((hs).alloc _).alloc _).alloc _).alloc _ | exact (hs).drew | exact ((hs).alloc _).drew | exact (((hs).alloc _).alloc _).drew | exact ((((hs).alloc _).alloc _).alloc _).drew | exact (((((hs).alloc _).alloc _).alloc _).alloc _).drew | exact (hs).drewN _ | exact ((hs).alloc _).drewN _ | exact (((hs).alloc _).alloc _).drewN _ | exact ((((hs).alloc _).alloc _).alloc _).drewN _ | exact (((((hs).alloc _).alloc _).alloc _).alloc _).drewN _))
  obtain ⟨l200, hm, hrow, htr⟩ := trV_parts hz
  rw [htr] at hs hz hlen
  have HROW := Lib.hid hrow
  have HM := Lib.hid hm
  have H200 := Lib.hid (tr200 hrow l200)
  clear htr hrow hm
  obtain ⟨X, hX⟩ : ∃ X, trL xss m xss.length = X := ⟨_, rfl⟩
  have HXL := Lib.hid (show X.length = xss.length by rw [← hX]; exact length_trL _ _ _)
  have HXG := Lib.hid (show ∀ k, k < xss.length → gi X k = nowK xss m (k + 1) from fun k hk => by rw [← hX]; exact gi_trL hk)
  rw [hX] at hs hz hlen
  clear hX
  obtain ⟨a2, c2, rfl, -⟩ := (OwnK.rd hs.p0).form
  have hz2 : ((X.length : Int) == 0) = false := by simp only [beq_eq_false_iff_ne]; omega
  go_wp2_with fail
  clear hz2 hz
  go_loopw [6, 7] (fun n i wr => ∃ k : Nat, k ≤ xss.length ∧ i = .int .i64 k ∧ n = .int .i64 (nowK xss m k) ∧ SH none w wr [ownP .i64 3 (.slice a2 X.length c2) X, ownMP 1 23 (.slice a1 xss.length c1) xss.length (oneC vs), innP 3 vs xss xss.length, rdP .u8 (.slice ac c.length cc) c]) (fun _ i _ => xss.length - (intOf i).toNat)
  case atStart => exact ⟨0, Nat.zero_le _, rfl, rfl, hs⟩
  case round =>
    obtain ⟨k, hk, rfl, rfl, hs⟩ := hrel
    by_cases hlt : k < xss.length
    · obtain ⟨b, off, rfl, hc⟩ := (OwnM.rd hs.p1).at_ hlt
      have hc0 : wr.cell? ⟨b, off + k, none⟩ = some (vs k) := by simpa [oneC] using hc 0 (by decide)
      clear hc
      go_wp2_with fail
      refine (SH.ret hs (by repeat' (first | with_reducible exact Below.refl _ _ | with_reducible assumption | with_reducible refine below_drewN ?_ _ | with_reducible refine Below.drew ?_ | with_reducible refine Below.alloc ?_ ?_ _ | with_reducible refine Below.setCell ?_ ?_ _ | go_size)) fun hs => implServeCell_c (nowK xss m k) (vs k) (gl xss k) m _ (OwnK.rd (hs.p2.1 k hlt))).mono ?_
      rintro e w5 ⟨v, rfl, rfl, hs⟩
      clear hc0
      have hsv : scV (nowK xss m k) (gl xss k) m = nowK xss m (k + 1) := by
        obtain ⟨s1, s2⟩ := rowOK_parts (HROW.out k hlt)
        exact scV_eq s1 HM.out (nowK_bd (m := m) k (fun i hi => HROW.out i (by omega))).1 (nowK_lt (fun i hi => HROW.out i (by omega)) s2)
      rw [hsv]
      clear hsv
      obtain ⟨bx, ox, rfl, hx⟩ := (OwnK.rd hs.p0).at_ (i := k) (by rw [HXL.out]; exact hlt)
      rw [HXG.out k hlt] at hx
      have hxl2 : k < X.length := by rw [HXL.out]; exact hlt
      have hne : (nowK xss m (k + 1) != nowK xss m (k + 1)) = false := bne_self_eq_false _
      go_wp2
      go_roundw
      case rel => exact ⟨k + 1, hlt, by go_num, rfl, hs⟩
      case measure => simp [intOf]; omega
    · have hle : ((X.length : Int) == (xss.length : Int)) = true := by rw [HXL.out]; simp
      go_wp2_with fail
      refine (SH.own hs (by repeat' (first | with_reducible exact Below.refl _ _ | with_reducible assumption | with_reducible refine below_drewN ?_ _ | with_reducible refine Below.drew ?_ | with_reducible refine Below.alloc ?_ ?_ _ | with_reducible refine Below.setCell ?_ ?_ _ | go_size)) fun hs => implServeTrace_c _ vs xss 200 _ ⟨OwnM.rd hs.p1, fun i hi => OwnK.rd (hs.p2.1 i hi)⟩).mono ?_
      rintro e w21 ⟨v5, rfl, hs⟩
      go_wp2_with fail
      refine (SH.quiet hs (by repeat' (first | with_reducible exact Below.refl _ _ | with_reducible assumption | with_reducible refine below_drewN ?_ _ | with_reducible refine Below.drew ?_ | with_reducible refine Below.alloc ?_ ?_ _ | with_reducible refine Below.setCell ?_ ?_ _ | go_size)) fun hs => implCountHandovers_c _ _ _ (OwnK.rd hs.p0)).mono ?_
      rintro e w22 ⟨rfl, hs⟩
      rw [H200.out]
      go_wp2
      go_ret
      exact Ret.mk1 rfl (SH.done (by first | exact hs | exact (hs).alloc _ | exact ((hs).alloc _).alloc _ | exact (((hs).alloc _).alloc _).alloc _ | exact ((((hs).alloc _).alloc _).alloc _).alloc _ | exact (hs).drew | exact ((hs).alloc _).drew | exact (((hs).alloc _).alloc _).drew | exact ((((hs).alloc _).alloc _).alloc _).drew | exact (((((hs).alloc _).alloc _).alloc _).alloc _).drew | exact (hs).drewN _ | exact ((hs).alloc _).drewN _ | exact (((hs).alloc _).alloc _).drewN _ | exact ((((hs).alloc _).alloc _).alloc _).drewN _ | exact (((((hs).alloc _).alloc _).alloc _).alloc _).drewN _))

end Go.Proofs.Ytoilofcpijgaiaa
