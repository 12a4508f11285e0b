import Derived.Test.YtpcmfmkpgidgpaaProg
import Derived.Test.YtpcmfmkpgidgpaaSym
import Derived.Test.YtpcmfmkpgidgpaaDraw
import Derived.Test.YtpcmfmkpgidgpaaInts
import Derived.Test.YtpcmfmkpgidgpaaPair
import Derived.Test.YtpcmfmkpgidgpaaDist
import Derived.Test.YtpcmfmkpgidgpaaDistEx
import Derived.Deep.Cut
namespace Go.Proofs.Ytpcmfmkpgidgpaa
open Go.RowKit

theorem ok_lenw {Q : Exit → Act → World → Prop} {row : Option Nat} {w0 : World} {I : List Part} {g : Nat} {sv : Value} {bs : List Int} {A : Nat → AV} {R : List Nat} {o : Oper} {X : Operand} {t : TypeId} (lo hi : Int) {n : Nat} {b : Option Addr} {c : Nat} (d : Nat) (hd : o.dst = some d) (ho : o.op = .call { callee := .builtin .len, args := #[X], argTypes := #[t] }) (ht : Try.prog.underlying t = some (.slice (Try.prog.elem t))) (hX : opOK R A X (.val (.slice b n c)))
    (h : lo ≤ n ∧ n ≤ hi) (hA : A d = .int lo hi) : StepOK Try.prog Q row w0 I g sv bs A R o :=
  step_value d hd fun L m a w _ hr => by
    have ex : a.eval X = .slice b n c := hX L a hr
    exact ⟨.int .i64 n, exec_len a.eval w ho ex ht, by rw [hA]; exact ⟨_, rfl, h.1, h.2⟩⟩
abbrev sigP (v : Value) (xs : List (Int × Int)) : Part := ownMP 2 39 v xs.length (bC xs)
theorem sig_snoc {row : Option Nat} {w0 w : World} {I : List Part} {v : Value} {xs : List (Int × Int)} {a b : Int} (h : SH row w0 w (ownMP 2 39 v (xs.length + 1) (updC (bC xs) xs.length (rowB a b)) :: I)) : SH row w0 w (sigP v (xs ++ [(a, b)]) :: I) := by
  have h' := h.congrM (c' := bC (xs ++ [(a, b)])) (fun i j hi hj => by
    unfold updC bC rowB bF bL
    rcases Nat.lt_or_ge i xs.length with h | h
    · simp [List.getElem?_append_left h, Nat.ne_of_lt h]
    · obtain rfl : i = xs.length := by omega
      simp)
  have e : (xs ++ [(a, b)]).length = xs.length + 1 := by simp
  unfold sigP
  rw [e]; exact h'

theorem sig_zero {row : Option Nat} {w0 w : World} {I : List Part} {v : Value} {n : Nat} (h : SH row w0 w (ownMP 2 39 v n (fun _ j => (Value.agg #[.int .i64 0, .int .i64 0]).cells[j]!) :: I)) : SH row w0 w (sigP v (List.replicate n (0, 0)) :: I) := by
  unfold sigP
  rw [List.length_replicate]
  refine h.congrM fun i j hi hj => ?_
  have hj2 : j = 0 ∨ j = 1 := by omega
  rcases hj2 with rfl | rfl
  · simp [bC, bF, hi, Value.cells]
  · simp [bC, bL, hi, Value.cells]
set_option maxRecDepth 100000 in
set_option maxHeartbeats 4000000 in
theorem l20Level_s (g m : Nat) (w : World) {row : Option Nat} {w0 : World} {I : List Part} {sv : Value} {bs : List Int} (hs : SH row w0 w (rdrP g m sv bs :: I)) (hm : m ≤ 1000000000) :
    Calls Try.prog 26 #[.pointer (some ⟨g, 0, none⟩)] w (fun e w' => ∃ v : Int, e = .returned (.int .i64 v) ∧ -100000 ≤ v ∧ v ≤ 100000 ∧ SH row w0 w' (rdrP g (m + 20) sv bs :: I)) := by
  go_enter Try.func26, Try.ntmps26
  go_upto_region 1 with (fail)
  refine wp_region_text [(0, .pointer (some ⟨g, 0, none⟩))]
    [.any, .any, .int (-100000) 100000, .val (.pointer (some ⟨g, 0, none⟩)), .int 0 8, .int (-4) 4, .val (.pointer (some ⟨g, 0, none⟩)), .int 0 199, .int (-100) 99, .lit 4 (-100000) 100000, .lit 8 0 3, .val (.pointer (some ⟨g, 0, none⟩)), .int 0 7, .adr 0 3, .int 0 3, .adr (-100000) 100000, .int (-100000) 100000]
    [[0], [3], [4], [0], [6], [7], [5, 8], [], [0], [11], [10, 12], [13], [9, 14], [15], [16]]
    15 (by kernel_rfl) (by kernel_rfl) (by kernel_rfl) (by simp only [List.forall_mem_cons]; exact ⟨rfl,  fun _ h => by cases h⟩) ⟨hs, by omega⟩ ?_ ?_
  · exact ⟨ok_move 3 rfl (.inl rfl) (opOK_tmp rfl rfl),
      ok_pick 9 9 4 rfl rfl (opOK_tmp rfl rfl) opOK_int (by decide) rfl,
      ok_sub 0 8 4 4 (-4) 4 5 rfl rfl (opOK_tmp rfl rfl) opOK_int rfl (by decide),
      ok_move 6 rfl (.inl rfl) (opOK_tmp rfl rfl),
      ok_pick 200 200 7 rfl rfl (opOK_tmp rfl rfl) opOK_int (by decide) rfl,
      ok_sub 0 199 100 100 (-100) 99 8 rfl rfl (opOK_tmp rfl rfl) opOK_int rfl (by decide),
      ok_build 4 (-100000) 100000 [.tmp 5, .tmp 8, .const (.int .i64 100000), .const (.int .i64 (-100000))] 9 rfl rfl rfl rfl (by decide) (by simp only [List.forall_mem_cons]; exact ⟨(opOK_wide (lo := (-4)) (hi := 4) (opOK_tmp rfl rfl) (by decide) (by decide)), (opOK_wide (lo := (-100)) (hi := 99) (opOK_tmp rfl rfl) (by decide) (by decide)), (opOK_wide (lo := 100000) (hi := 100000) opOK_int (by decide) (by decide)), (opOK_wide (lo := (-100000)) (hi := (-100000)) opOK_int (by decide) (by decide)), fun _ h => by cases h⟩) rfl,
      ok_build 8 0 3 [.const (.int .i64 0), .const (.int .i64 0), .const (.int .i64 0), .const (.int .i64 0), .const (.int .i64 1), .const (.int .i64 1), .const (.int .i64 2), .const (.int .i64 3)] 10 rfl rfl rfl rfl (by decide) (by simp only [List.forall_mem_cons]; exact ⟨(opOK_wide (lo := 0) (hi := 0) opOK_int (by decide) (by decide)), (opOK_wide (lo := 0) (hi := 0) opOK_int (by decide) (by decide)), (opOK_wide (lo := 0) (hi := 0) opOK_int (by decide) (by decide)), (opOK_wide (lo := 0) (hi := 0) opOK_int (by decide) (by decide)), (opOK_wide (lo := 1) (hi := 1) opOK_int (by decide) (by decide)), (opOK_wide (lo := 1) (hi := 1) opOK_int (by decide) (by decide)), (opOK_wide (lo := 2) (hi := 2) opOK_int (by decide) (by decide)), (opOK_wide (lo := 3) (hi := 3) opOK_int (by decide) (by decide)), fun _ h => by cases h⟩) rfl,
      ok_move 11 rfl (.inl rfl) (opOK_tmp rfl rfl),
      ok_pick 8 8 12 rfl rfl (opOK_tmp rfl rfl) opOK_int (by decide) rfl,
      ok_index 8 0 3 0 7 13 rfl rfl (opOK_tmp rfl rfl) (opOK_tmp rfl rfl) rfl (by decide),
      ok_load 0 3 14 rfl rfl (opOK_tmp rfl rfl) rfl,
      ok_index 4 (-100000) 100000 0 3 15 rfl rfl (opOK_tmp rfl rfl) (opOK_tmp rfl rfl) rfl (by decide),
      ok_load (-100000) 100000 16 rfl rfl (opOK_tmp rfl rfl) rfl,
      ok_move 2 rfl (.inr rfl) (opOK_tmp rfl rfl), trivial⟩
  rintro tm wq ⟨L, hv⟩ hold hsz hs
  have hx0 : tm.getD 0 undef = .pointer (some ⟨g, 0, none⟩) := hold 0 (by kernel_rfl)
  have hx1 : tm.getD 1 undef = undef := hold 1 (by kernel_rfl)
  obtain ⟨x2, hx2, x2_0, x2_1⟩ : ∃ n, tm.getD 2 undef = .int .i64 n ∧ (-100000) ≤ n ∧ n ≤ 100000 := hv 2 (show 2 < 17 by decide) (by kernel_rfl)
  have hx3 : tm.getD 3 undef = .pointer (some ⟨g, 0, none⟩) := hv 3 (show 3 < 17 by decide) (by kernel_rfl)
  obtain ⟨x4, hx4⟩ : ∃ x, tm.getD 4 undef = x := ⟨_, rfl⟩
  obtain ⟨x5, hx5⟩ : ∃ x, tm.getD 5 undef = x := ⟨_, rfl⟩
  have hx6 : tm.getD 6 undef = .pointer (some ⟨g, 0, none⟩) := hv 6 (show 6 < 17 by decide) (by kernel_rfl)
  obtain ⟨x7, hx7⟩ : ∃ x, tm.getD 7 undef = x := ⟨_, rfl⟩
  obtain ⟨x8, hx8⟩ : ∃ x, tm.getD 8 undef = x := ⟨_, rfl⟩
  obtain ⟨x9, hx9⟩ : ∃ x, tm.getD 9 undef = x := ⟨_, rfl⟩
  obtain ⟨x10, hx10⟩ : ∃ x, tm.getD 10 undef = x := ⟨_, rfl⟩
  have hx11 : tm.getD 11 undef = .pointer (some ⟨g, 0, none⟩) := hv 11 (show 11 < 17 by decide) (by kernel_rfl)
  obtain ⟨x12, hx12⟩ : ∃ x, tm.getD 12 undef = x := ⟨_, rfl⟩
  obtain ⟨x13, hx13⟩ : ∃ x, tm.getD 13 undef = x := ⟨_, rfl⟩
  obtain ⟨x14, hx14⟩ : ∃ x, tm.getD 14 undef = x := ⟨_, rfl⟩
  obtain ⟨x15, hx15⟩ : ∃ x, tm.getD 15 undef = x := ⟨_, rfl⟩
  obtain ⟨x16, hx16⟩ : ∃ x, tm.getD 16 undef = x := ⟨_, rfl⟩
  have htm : tm = (.pointer (some ⟨g, 0, none⟩) :: undef :: .int .i64 x2 :: .pointer (some ⟨g, 0, none⟩) :: x4 :: x5 :: .pointer (some ⟨g, 0, none⟩) :: x7 :: x8 :: x9 :: x10 :: .pointer (some ⟨g, 0, none⟩) :: x12 :: x13 :: x14 :: x15 :: x16 :: []).toArray := by
    refine (arr_eq tm hsz).trans ?_
    show (tm.getD 0 undef :: tm.getD 1 undef :: tm.getD 2 undef :: tm.getD 3 undef :: tm.getD 4 undef :: tm.getD 5 undef :: tm.getD 6 undef :: tm.getD 7 undef :: tm.getD 8 undef :: tm.getD 9 undef :: tm.getD 10 undef :: tm.getD 11 undef :: tm.getD 12 undef :: tm.getD 13 undef :: tm.getD 14 undef :: tm.getD 15 undef :: tm.getD 16 undef :: []).toArray = _
    rw [hx0, hx1, hx2, hx3, hx4, hx5, hx6, hx7, hx8, hx9, hx10, hx11, hx12, hx13, hx14, hx15, hx16]
  subst htm
  dsimp only
  clear hv hold hsz hx0 hx1 hx2 hx3 hx4 hx5 hx6 hx7 hx8 hx9 hx10 hx11 hx12 hx13 hx14 hx15 hx16
  go_wp2
  go_ret
  exact ⟨x2, rfl, by omega, by omega, rdrP_mono hs (by omega)⟩

set_option maxRecDepth 100000 in
set_option maxHeartbeats 4000000 in
theorem l20Signal_s (g m most : Nat) (n : Int) (w : World) {row : Option Nat} {w0 : World} {I : List Part} {sv : Value} {bs : List Int} (hs : SH row w0 w (rdrP g m sv bs :: I)) (hm : m ≤ 1000000) (hmost : most ≤ 200) (hn : n ≤ 1000000) :
    Calls Try.prog 22 #[.pointer (some ⟨g, 0, none⟩), .int .i64 most, .int .i64 n] w (fun e w' => ∃ v xs, e = .returned v ∧ xs.length ≤ 257 ∧ SH row w0 w' (sigP v xs :: rdrP g (m + 40 * most + 10) sv bs :: I)) := by
  go_enter Try.func22, Try.ntmps22
  go_wp2_with fail
  refine (pick_s g _ ((most : Int) + 1) _ ⟨(hs.ownEmptyM 2 (by decide) 39 (bC [])).bring1, by omega⟩ (by omega)).mono ?_
  rintro e w1 ⟨c0, rfl, c0_0, c0_a, -, hs⟩
  have c0_1 := c0_a (by omega)
  clear c0_a
  go_wp2_with fail
  go_loopw [7, 8] (fun o i wr => ∃ (q : Int) (xs : List (Int × Int)), 0 ≤ q ∧ i = .int .i64 q ∧ (xs.length : Int) + q ≤ most ∧ SH row w0 wr (rdrP g (m + 1 + 40 * xs.length) sv bs :: sigP o xs :: I)) (fun _ i _ => (intOf i).toNat)
  case atStart => exact ⟨c0, [], c0_0, rfl, by simp; omega, hs⟩
  case round =>
    obtain ⟨q, xs, q0, rfl, hlen, hs⟩ := hrel
    obtain ⟨ao, co, rfl, -⟩ := (OwnM.rd hs.p1).form
    by_cases hq : 0 < q
    · go_wp2_with fail
      refine (l20Level_s g _ _ (by first | exact hs | exact (hs).alloc _ | exact ((hs).alloc _).alloc _ | exact (((hs).alloc _).alloc _).alloc _ | exact ((((hs).alloc _).alloc _).alloc _).alloc _ | exact (hs).drew | exact ((hs).alloc _).drew | exact (((hs).alloc _).alloc _).drew | exact ((((hs).alloc _).alloc _).alloc _).drew | exact (((((hs).alloc _).alloc _).alloc _).alloc _).drew | exact (hs).drewN _ | exact ((hs).alloc _).drewN _ | exact (((hs).alloc _).alloc _).drewN _ | exact ((((hs).alloc _).alloc _).alloc _).drewN _ | exact (((((hs).alloc _).alloc _).alloc _).alloc _).drewN _) (by omega)).mono ?_
      rintro e w2 ⟨x, rfl, x0, x1, hs⟩
      go_wp2_with fail
      refine (l20Level_s g _ _ (by first | exact hs | exact (hs).alloc _ | exact ((hs).alloc _).alloc _ | exact (((hs).alloc _).alloc _).alloc _ | exact ((((hs).alloc _).alloc _).alloc _).alloc _ | exact (hs).drew | exact ((hs).alloc _).drew | exact (((hs).alloc _).alloc _).drew | exact ((((hs).alloc _).alloc _).alloc _).drew | exact (((((hs).alloc _).alloc _).alloc _).alloc _).drew | exact (hs).drewN _ | exact ((hs).alloc _).drewN _ | exact (((hs).alloc _).alloc _).drewN _ | exact ((((hs).alloc _).alloc _).alloc _).drewN _ | exact (((((hs).alloc _).alloc _).alloc _).alloc _).drewN _) (by omega)).mono ?_
      rintro e w3 ⟨y, rfl, y0, y1, hs⟩
      go_wp2_with (at_builtin; refine wp_app1MS rfl rfl 39 16 2 (.agg #[.int .i64 0, .int .i64 0]) Try.underlying24 info_Sample rfl (by decide) (rowB x y) rfl (hs.bring1.alloc _) rfl (fun j hj => by have : j = 0 ∨ j = 1 := (by omega); rcases this with rfl | rfl <;> exact World.cell?_alloc_at _ _ _ _ rfl) (fun j hj => by unfold rowB; rfl) (by omega) (by unfold maxLen; omega) ?_; intro v9 w9 hs)
      have hs := (sig_snoc hs).bring1
      go_wp2
      go_roundw
      case rel => exact ⟨q - 1, _, by omega, by go_num, by simp; omega, rdrP_mono hs (by simp; omega)⟩
      case measure => simp [intOf]; omega
    · go_wp2_with fail
      refine (odd_s g _ n _ (by first | exact ⟨hs, by omega⟩ | exact ⟨(hs).allocP1 _ _, by omega⟩ | exact ⟨((hs).allocP1 _ _).allocP1 _ _, by omega⟩ | exact ⟨(((hs).allocP1 _ _).allocP1 _ _).allocP1 _ _, by omega⟩ | exact ⟨((((hs).allocP1 _ _).allocP1 _ _).allocP1 _ _).allocP1 _ _, by omega⟩ | exact ⟨(hs).drew, by omega⟩ | exact ⟨((hs).allocP1 _ _).drew, by omega⟩ | exact ⟨(((hs).allocP1 _ _).allocP1 _ _).drew, by omega⟩ | exact ⟨((((hs).allocP1 _ _).allocP1 _ _).allocP1 _ _).drew, by omega⟩ | exact ⟨(((((hs).allocP1 _ _).allocP1 _ _).allocP1 _ _).allocP1 _ _).drew, by omega⟩ | exact ⟨(hs).drewN _, by omega⟩ | exact ⟨((hs).allocP1 _ _).drewN _, by omega⟩ | exact ⟨(((hs).allocP1 _ _).allocP1 _ _).drewN _, by omega⟩ | exact ⟨((((hs).allocP1 _ _).allocP1 _ _).allocP1 _ _).drewN _, by omega⟩ | exact ⟨(((((hs).allocP1 _ _).allocP1 _ _).allocP1 _ _).allocP1 _ _).drewN _, by omega⟩) (by omega)).mono ?_
      rintro e w2 ⟨od, rfl, -, hs⟩
      cases od
      · go_wp2
        go_ret
        exact ⟨_, xs, rfl, by omega, (rdrP_mono hs (by omega)).bring1⟩
      · go_wp2_with fail
        refine (pick_s g _ 2 _ (by first | exact ⟨hs, by omega⟩ | exact ⟨(hs).allocP1 _ _, by omega⟩ | exact ⟨((hs).allocP1 _ _).allocP1 _ _, by omega⟩ | exact ⟨(((hs).allocP1 _ _).allocP1 _ _).allocP1 _ _, by omega⟩ | exact ⟨((((hs).allocP1 _ _).allocP1 _ _).allocP1 _ _).allocP1 _ _, by omega⟩ | exact ⟨(hs).drew, by omega⟩ | exact ⟨((hs).allocP1 _ _).drew, by omega⟩ | exact ⟨(((hs).allocP1 _ _).allocP1 _ _).drew, by omega⟩ | exact ⟨((((hs).allocP1 _ _).allocP1 _ _).allocP1 _ _).drew, by omega⟩ | exact ⟨(((((hs).allocP1 _ _).allocP1 _ _).allocP1 _ _).allocP1 _ _).drew, by omega⟩ | exact ⟨(hs).drewN _, by omega⟩ | exact ⟨((hs).allocP1 _ _).drewN _, by omega⟩ | exact ⟨(((hs).allocP1 _ _).allocP1 _ _).drewN _, by omega⟩ | exact ⟨((((hs).allocP1 _ _).allocP1 _ _).allocP1 _ _).drewN _, by omega⟩ | exact ⟨(((((hs).allocP1 _ _).allocP1 _ _).allocP1 _ _).allocP1 _ _).drewN _, by omega⟩) (by decide)).mono ?_
        rintro e w3 ⟨z, rfl, z_0, z_a, -, hs⟩
        have z_1 := z_a (by decide)
        clear z_a
        obtain rfl | rfl : z = 0 ∨ z = 1 := by omega
        · go_wp2_with (at_builtin; refine wp_app1MS rfl rfl 39 16 2 (.agg #[.int .i64 0, .int .i64 0]) Try.underlying24 info_Sample rfl (by decide) (rowB 100001 0) rfl (hs.bring1.alloc _) rfl (fun j hj => by have : j = 0 ∨ j = 1 := (by omega); rcases this with rfl | rfl <;> exact World.cell?_alloc_at _ _ _ _ rfl) (fun j hj => by unfold rowB; rfl) (by omega) (by unfold maxLen; omega) ?_; intro v9 w9 hs)
          have hs := sig_snoc hs
          go_wp2
          go_ret
          exact ⟨_, _, rfl, by simp; omega, (rdrP_mono hs.bring1 (by omega)).bring1⟩
        · go_wp2_with (at_make; refine wp_makeM rfl rfl _ 39 16 2 _ Try.underlying24 info_Sample rfl 257 rfl rfl rfl rfl (by decide) (by decide) (Nat.le_refl _) ?_; intro wz hown hg hsz)
          have hs := (hs.drop1).pushOwnM (below_of_grown hg) hown
          clear hown hg hsz
          have hs := sig_zero hs
          go_wp2
          go_ret
          exact ⟨_, _, rfl, by rw [List.length_replicate]; exact Nat.le_refl _, (rdrP_mono hs.bring1 (by omega)).bring1⟩

set_option maxRecDepth 100000 in
set_option maxHeartbeats 4000000 in
theorem DrawDisturbSamples_s (va : Value) (cs : List Int) (w : World) {row : Option Nat} {w0 : World} {I : List Part} (hs : SH row w0 w (rdP .u8 va cs :: I)) (hb : ∀ n ∈ cs, (Lit.int .u8 n).wf = true) :
    Calls Try.prog 12 #[va] w (fun e w' => ∃ (v : Value) (xs : List (Int × Int)) (a n : Int), e = .returned (.tuple #[v, .int .i64 a, .int .i64 n]) ∧ (-1 ≤ a ∧ a ≤ 257) ∧ (-1 ≤ n ∧ n ≤ 9223372036854775807) ∧ xs.length ≤ 257 ∧ SH row w0 w' (sigP v xs :: rdP .u8 va cs :: I)) := by
  have HB := Lib.hid hb
  clear hb
  go_enter Try.func12, Try.ntmps12
  go_wp2_with fail
  refine (open_s va cs _ (by first | exact hs | exact (hs).allocP1 _ _ | exact ((hs).allocP1 _ _).allocP1 _ _ | exact (((hs).allocP1 _ _).allocP1 _ _).allocP1 _ _ | exact ((((hs).allocP1 _ _).allocP1 _ _).allocP1 _ _).allocP1 _ _ | exact (hs).drew | exact ((hs).allocP1 _ _).drew | exact (((hs).allocP1 _ _).allocP1 _ _).drew | exact ((((hs).allocP1 _ _).allocP1 _ _).allocP1 _ _).drew | exact (((((hs).allocP1 _ _).allocP1 _ _).allocP1 _ _).allocP1 _ _).drew | exact (hs).drewN _ | exact ((hs).allocP1 _ _).drewN _ | exact (((hs).allocP1 _ _).allocP1 _ _).drewN _ | exact ((((hs).allocP1 _ _).allocP1 _ _).allocP1 _ _).drewN _ | exact (((((hs).allocP1 _ _).allocP1 _ _).allocP1 _ _).allocP1 _ _).drewN _) HB.out).mono ?_
  rintro e w1 ⟨g, sv, bs, rfl, hs⟩
  go_wp2_with fail
  refine (l20Signal_s g 0 9 12 _ (by first | exact hs | exact (hs).allocP1 _ _ | exact ((hs).allocP1 _ _).allocP1 _ _ | exact (((hs).allocP1 _ _).allocP1 _ _).allocP1 _ _ | exact ((((hs).allocP1 _ _).allocP1 _ _).allocP1 _ _).allocP1 _ _ | exact (hs).drew | exact ((hs).allocP1 _ _).drew | exact (((hs).allocP1 _ _).allocP1 _ _).drew | exact ((((hs).allocP1 _ _).allocP1 _ _).allocP1 _ _).drew | exact (((((hs).allocP1 _ _).allocP1 _ _).allocP1 _ _).allocP1 _ _).drew | exact (hs).drewN _ | exact ((hs).allocP1 _ _).drewN _ | exact (((hs).allocP1 _ _).allocP1 _ _).drewN _ | exact ((((hs).allocP1 _ _).allocP1 _ _).allocP1 _ _).drewN _ | exact (((((hs).allocP1 _ _).allocP1 _ _).allocP1 _ _).allocP1 _ _).drewN _) (by decide) (by decide) (by decide)).mono ?_
  rintro e w2 ⟨v, xs, rfl, hl, hs⟩
  obtain ⟨a1, c1, rfl, -⟩ := (OwnM.rd hs.p0).form
  have hs := hs.bring1
  go_wp2
  refine wp_region_draw [(0, va), (5, .pointer (some ⟨g, 0, none⟩)), (6, .slice a1 xs.length c1), (7, va), (8, .pointer (some ⟨g, 0, none⟩)), (9, .pointer (some ⟨g, 0, none⟩)), (10, .slice a1 xs.length c1)]
    [.any, .any, .val (.slice a1 xs.length c1), .int (-1) 257, .int (-1) 9223372036854775807, .any, .any, .any, .any, .any, .any, .val (.slice a1 xs.length c1), .val (.pointer (some ⟨g, 0, none⟩)), .val (.slice a1 xs.length c1), .int 0 257, .int 2 259, .int 0 258, .int (-1) 257, .val (.pointer (some ⟨g, 0, none⟩)), .int 0 5, .lit 3 (-1) 9223372036854775807, .lit 6 0 2, .val (.pointer (some ⟨g, 0, none⟩)), .int 0 5, .adr 0 2, .int 0 2, .adr (-1) 9223372036854775807, .int (-1) 9223372036854775807]
    [[6], [5], [6], [13], [14], [12, 15], [16], [5], [18], [19], [], [5], [22], [21, 23], [24], [20, 25], [26], [11], [17], [27]]
    20 (by kernel_rfl) (by kernel_rfl) (by kernel_rfl) (by kernel_rfl) (by simp only [List.forall_mem_cons]; exact ⟨rfl, rfl, rfl, rfl, rfl, rfl, rfl,  fun _ h => by cases h⟩) ⟨hs, by decide⟩ ?_ ?_
  · exact ⟨ok_move 11 rfl (.inl rfl) (opOK_tmp rfl rfl),
      ok_move 12 rfl (.inl rfl) (opOK_tmp rfl rfl),
      ok_move 13 rfl (.inl rfl) (opOK_tmp rfl rfl),
      ok_lenw 0 257 14 rfl rfl (by kernel_rfl) (opOK_tmp rfl rfl) (by omega) rfl,
      ok_add 0 257 2 2 2 259 15 rfl rfl (opOK_tmp rfl rfl) opOK_int rfl (by decide),
      ok_pick 2 259 16 rfl rfl (opOK_tmp rfl rfl) (opOK_tmp rfl rfl) (by decide) rfl,
      ok_sub 0 258 1 1 (-1) 257 17 rfl rfl (opOK_tmp rfl rfl) opOK_int rfl (by decide),
      ok_move 18 rfl (.inl rfl) (opOK_tmp rfl rfl),
      ok_pick 6 6 19 rfl rfl (opOK_tmp rfl rfl) opOK_int (by decide) rfl,
      ok_build 3 (-1) 9223372036854775807 [.tmp 19, .const (.int .i64 (-1)), .const (.int .i64 9223372036854775807)] 20 rfl rfl rfl rfl (by decide) (by simp only [List.forall_mem_cons]; exact ⟨(opOK_wide (lo := 0) (hi := 5) (opOK_tmp rfl rfl) (by decide) (by decide)), (opOK_wide (lo := (-1)) (hi := (-1)) opOK_int (by decide) (by decide)), (opOK_wide (lo := 9223372036854775807) (hi := 9223372036854775807) opOK_int (by decide) (by decide)), fun _ h => by cases h⟩) rfl,
      ok_build 6 0 2 [.const (.int .i64 0), .const (.int .i64 0), .const (.int .i64 0), .const (.int .i64 0), .const (.int .i64 1), .const (.int .i64 2)] 21 rfl rfl rfl rfl (by decide) (by simp only [List.forall_mem_cons]; exact ⟨(opOK_wide (lo := 0) (hi := 0) opOK_int (by decide) (by decide)), (opOK_wide (lo := 0) (hi := 0) opOK_int (by decide) (by decide)), (opOK_wide (lo := 0) (hi := 0) opOK_int (by decide) (by decide)), (opOK_wide (lo := 0) (hi := 0) opOK_int (by decide) (by decide)), (opOK_wide (lo := 1) (hi := 1) opOK_int (by decide) (by decide)), (opOK_wide (lo := 2) (hi := 2) opOK_int (by decide) (by decide)), fun _ h => by cases h⟩) rfl,
      ok_move 22 rfl (.inl rfl) (opOK_tmp rfl rfl),
      ok_pick 6 6 23 rfl rfl (opOK_tmp rfl rfl) opOK_int (by decide) rfl,
      ok_index 6 0 2 0 5 24 rfl rfl (opOK_tmp rfl rfl) (opOK_tmp rfl rfl) rfl (by decide),
      ok_load 0 2 25 rfl rfl (opOK_tmp rfl rfl) rfl,
      ok_index 3 (-1) 9223372036854775807 0 2 26 rfl rfl (opOK_tmp rfl rfl) (opOK_tmp rfl rfl) rfl (by decide),
      ok_load (-1) 9223372036854775807 27 rfl rfl (opOK_tmp rfl rfl) rfl,
      ok_move 2 rfl (.inr rfl) (opOK_tmp rfl rfl),
      ok_move 3 rfl (.inr rfl) (opOK_tmp rfl rfl),
      ok_move 4 rfl (.inr rfl) (opOK_tmp rfl rfl), trivial⟩
  rintro tm wq ⟨L, hv⟩ hold hsz hs
  have hx0 : tm.getD 0 undef = va := hold 0 (by kernel_rfl)
  have hx1 : tm.getD 1 undef = undef := hold 1 (by kernel_rfl)
  have hx2 : tm.getD 2 undef = .slice a1 xs.length c1 := hv 2 (show 2 < 28 by decide) (by kernel_rfl)
  obtain ⟨x3, hx3, x3_0, x3_1⟩ : ∃ n, tm.getD 3 undef = .int .i64 n ∧ (-1) ≤ n ∧ n ≤ 257 := hv 3 (show 3 < 28 by decide) (by kernel_rfl)
  obtain ⟨x4, hx4, x4_0, x4_1⟩ : ∃ n, tm.getD 4 undef = .int .i64 n ∧ (-1) ≤ n ∧ n ≤ 9223372036854775807 := hv 4 (show 4 < 28 by decide) (by kernel_rfl)
  have hx5 : tm.getD 5 undef = .pointer (some ⟨g, 0, none⟩) := hold 5 (by kernel_rfl)
  have hx6 : tm.getD 6 undef = .slice a1 xs.length c1 := hold 6 (by kernel_rfl)
  have hx7 : tm.getD 7 undef = va := hold 7 (by kernel_rfl)
  have hx8 : tm.getD 8 undef = .pointer (some ⟨g, 0, none⟩) := hold 8 (by kernel_rfl)
  have hx9 : tm.getD 9 undef = .pointer (some ⟨g, 0, none⟩) := hold 9 (by kernel_rfl)
  have hx10 : tm.getD 10 undef = .slice a1 xs.length c1 := hold 10 (by kernel_rfl)
  have hx11 : tm.getD 11 undef = .slice a1 xs.length c1 := hv 11 (show 11 < 28 by decide) (by kernel_rfl)
  have hx12 : tm.getD 12 undef = .pointer (some ⟨g, 0, none⟩) := hv 12 (show 12 < 28 by decide) (by kernel_rfl)
  have hx13 : tm.getD 13 undef = .slice a1 xs.length c1 := hv 13 (show 13 < 28 by decide) (by kernel_rfl)
  obtain ⟨x14, hx14⟩ : ∃ x, tm.getD 14 undef = x := ⟨_, rfl⟩
  obtain ⟨x15, hx15⟩ : ∃ x, tm.getD 15 undef = x := ⟨_, rfl⟩
  obtain ⟨x16, hx16⟩ : ∃ x, tm.getD 16 undef = x := ⟨_, rfl⟩
  obtain ⟨x17, hx17⟩ : ∃ x, tm.getD 17 undef = x := ⟨_, rfl⟩
  have hx18 : tm.getD 18 undef = .pointer (some ⟨g, 0, none⟩) := hv 18 (show 18 < 28 by decide) (by kernel_rfl)
  obtain ⟨x19, hx19⟩ : ∃ x, tm.getD 19 undef = x := ⟨_, rfl⟩
  obtain ⟨x20, hx20⟩ : ∃ x, tm.getD 20 undef = x := ⟨_, rfl⟩
  obtain ⟨x21, hx21⟩ : ∃ x, tm.getD 21 undef = x := ⟨_, rfl⟩
  have hx22 : tm.getD 22 undef = .pointer (some ⟨g, 0, none⟩) := hv 22 (show 22 < 28 by decide) (by kernel_rfl)
  obtain ⟨x23, hx23⟩ : ∃ x, tm.getD 23 undef = x := ⟨_, rfl⟩
  obtain ⟨x24, hx24⟩ : ∃ x, tm.getD 24 undef = x := ⟨_, rfl⟩
  obtain ⟨x25, hx25⟩ : ∃ x, tm.getD 25 undef = x := ⟨_, rfl⟩
  obtain ⟨x26, hx26⟩ : ∃ x, tm.getD 26 undef = x := ⟨_, rfl⟩
  obtain ⟨x27, hx27⟩ : ∃ x, tm.getD 27 undef = x := ⟨_, rfl⟩
  have htm : tm = (va :: undef :: .slice a1 xs.length c1 :: .int .i64 x3 :: .int .i64 x4 :: .pointer (some ⟨g, 0, none⟩) :: .slice a1 xs.length c1 :: va :: .pointer (some ⟨g, 0, none⟩) :: .pointer (some ⟨g, 0, none⟩) :: .slice a1 xs.length c1 :: .slice a1 xs.length c1 :: .pointer (some ⟨g, 0, none⟩) :: .slice a1 xs.length c1 :: x14 :: x15 :: x16 :: x17 :: .pointer (some ⟨g, 0, none⟩) :: x19 :: x20 :: x21 :: .pointer (some ⟨g, 0, none⟩) :: x23 :: x24 :: x25 :: x26 :: x27 :: []).toArray := by
    refine (arr_eq tm hsz).trans ?_
    show (tm.getD 0 undef :: tm.getD 1 undef :: tm.getD 2 undef :: tm.getD 3 undef :: tm.getD 4 undef :: tm.getD 5 undef :: tm.getD 6 undef :: tm.getD 7 undef :: tm.getD 8 undef :: tm.getD 9 undef :: tm.getD 10 undef :: tm.getD 11 undef :: tm.getD 12 undef :: tm.getD 13 undef :: tm.getD 14 undef :: tm.getD 15 undef :: tm.getD 16 undef :: tm.getD 17 undef :: tm.getD 18 undef :: tm.getD 19 undef :: tm.getD 20 undef :: tm.getD 21 undef :: tm.getD 22 undef :: tm.getD 23 undef :: tm.getD 24 undef :: tm.getD 25 undef :: tm.getD 26 undef :: tm.getD 27 undef :: []).toArray = _
    rw [hx0, hx1, hx2, hx3, hx4, hx5, hx6, hx7, hx8, hx9, hx10, hx11, hx12, hx13, hx14, hx15, hx16, hx17, hx18, hx19, hx20, hx21, hx22, hx23, hx24, hx25, hx26, hx27]
  subst htm
  dsimp only
  clear hv hold hsz hx0 hx1 hx2 hx3 hx4 hx5 hx6 hx7 hx8 hx9 hx10 hx11 hx12 hx13 hx14 hx15 hx16 hx17 hx18 hx19 hx20 hx21 hx22 hx23 hx24 hx25 hx26 hx27
  go_wp2
  go_ret3
  exact ⟨_, xs, x3, x4, rfl, ⟨by omega, by omega⟩, ⟨by omega, by omega⟩, hl, hs.drop0⟩

/-- the power of the first k samples -/
def powK (xs : List (Int × Int)) : Nat → Int
  | 0 => 0
  | k + 1 => powK xs k + (bF xs k * bF xs k + bL xs k * bL xs k)
def powV (xs : List (Int × Int)) : Int := if sgB xs then powK xs xs.length else -1
theorem sq_bd {x : Int} (h : -100000 ≤ x ∧ x ≤ 100000) : 0 ≤ x * x ∧ x * x ≤ 10000000000 := by
  have h1 := Int.mul_nonneg (show 0 ≤ 100000 - x by omega) (show 0 ≤ 100000 + x by omega)
  have h2 : 0 ≤ x * x := by
    rcases Int.le_total 0 x with h | h
    · exact Int.mul_nonneg h h
    · have := Int.mul_nonneg (show 0 ≤ -x by omega) (show 0 ≤ -x by omega); rwa [Int.neg_mul_neg] at this
  simp only [Int.sub_mul, Int.mul_add] at h1
  have e : x * 100000 = 100000 * x := Int.mul_comm _ _
  omega
theorem powK_bd {xs : List (Int × Int)} (h : ∀ i, i < xs.length → sgAt xs i = true) : ∀ k, k ≤ xs.length → 0 ≤ powK xs k ∧ powK xs k ≤ 20000000000 * k
  | 0, _ => by simp [powK]
  | k + 1, hk => by
    have ih := powK_bd h k (by omega)
    obtain ⟨b1, b2⟩ := sgAt_bd (h k (by omega))
    have h1 := sq_bd b1
    have h2 := sq_bd b2
    simp only [powK]; omega
theorem pow_ds {xs : List (Int × Int)} {a n : Nat} : ∀ k, k ≤ xs.length → powK (dsL xs a n) k = powK xs k
  | 0, _ => rfl
  | k + 1, hk => by
    simp only [powK, pow_ds (xs := xs) (a := a) (n := n) k (by omega), bF_dsL (show k < xs.length by omega), bL_dsL (show k < xs.length by omega)]
    split
    · rw [Int.neg_mul_neg]
    · rfl
theorem sg_ds {xs : List (Int × Int)} {a n : Nat} (h : sgB xs = true) : sgB (dsL xs a n) = true := by
  obtain ⟨h1, h2⟩ := sgB_true.1 h
  refine sgB_true.2 ⟨by rw [length_dsL]; exact h1, fun i hi => ?_⟩
  rw [length_dsL] at hi
  obtain ⟨b1, b2⟩ := sgAt_bd (h2 i hi)
  unfold sgAt
  rw [bF_dsL hi, bL_dsL hi]
  have e1 : inB (bL xs i) (-100000) 100000 = true := inB_true.2 b2
  have e2 : inB (if a ≤ i ∧ i < a + n then -bF xs i else bF xs i) (-100000) 100000 = true := inB_true.2 (by split <;> omega)
  rw [e1, e2]; rfl
theorem ds_ds {xs : List (Int × Int)} {a n : Nat} : dsL (dsL xs a n) a n = xs :=
  band_ext (by rw [length_dsL, length_dsL]) fun i hi => by
    rw [length_dsL, length_dsL] at hi
    have hi' : i < (dsL xs a n).length := by rw [length_dsL]; exact hi
    rw [bF_dsL hi', bL_dsL hi', bF_dsL hi, bL_dsL hi]
    refine ⟨?_, rfl⟩
    split
    · exact Int.neg_neg _
    · rfl
theorem dsV_parts {xs : List (Int × Int)} {a n : Int} (h : (dsV xs a n).length ≠ 0) : ∃ A M : Nat, a = A ∧ n = M ∧ sgB xs = true ∧ A + M ≤ xs.length ∧ dsV xs a n = dsL xs A M := by
  cases hb : dsB xs a n
  · exfalso; apply h; rw [dsV_bad hb]; rfl
  · have h2 := hb
    simp only [dsB, Bool.and_eq_true, decide_eq_true_eq, inB_true] at h2
    exact ⟨a.toNat, n.toNat, by omega, by omega, h2.1.1.1, by omega, by simp [dsV, hb]⟩

set_option maxHeartbeats 4000000 in
theorem implSignalPower_c (va : Value) (xs : List (Int × Int)) (w : World) (h : RdM 2 w va xs.length (bC xs)) :
    Calls Try.prog 15 #[va] w (Ret w fun v _ => v = .int .i64 (powV xs)) := by
  obtain ⟨a, ca, rfl, ma⟩ := h.form
  have hs := SH.start w [rdMP 2 (.slice a xs.length ca) xs.length (bC xs)] (by simp only [List.forall_mem_cons]; exact ⟨⟨⟨h, by decide⟩, rdMP_wr⟩, by simp⟩)
  clear h
  go_enter Try.func15, Try.ntmps15
  go_wp2_with fail
  refine (SH.ret hs (by repeat' (first | with_reducible exact Below.refl _ _ | with_reducible assumption | with_reducible refine below_drewN ?_ _ | with_reducible refine Below.drew ?_ | with_reducible refine Below.alloc ?_ ?_ _ | with_reducible refine Below.setCell ?_ ?_ _ | go_size)) fun hs => implSignalValid_c _ xs _ hs.p0.1).mono ?_
  rintro e w1 ⟨v, rfl, rfl, hs⟩
  cases hsg : sgB xs
  · have HE : Hid (powV xs = -1) := by simp [Hid, powV, hsg]
    go_wp2
    go_ret
    exact Ret.mk1 (intv HE.out.symm) hs.done
  have HE : Hid (powV xs = powK xs xs.length) := by simp [Hid, powV, hsg]
  obtain ⟨hl, hall⟩ := sgB_true.1 hsg
  have HA := Lib.hid hall
  clear hall hsg
  go_wp2
  go_loopw [3, 5, 11] (fun p _ i wr => ∃ k : Nat, k ≤ xs.length ∧ i = .int .i64 k ∧ p = .int .i64 (powK xs k) ∧ SH none w wr [rdMP 2 (.slice a xs.length ca) xs.length (bC xs)]) (fun _ _ i _ => xs.length - (intOf i).toNat)
  case atStart => exact ⟨0, Nat.zero_le _, rfl, rfl, hs⟩
  case round =>
    obtain ⟨k, hk, rfl, rfl, hs⟩ := hrel
    obtain ⟨p0, p1⟩ := powK_bd HA.out k hk
    by_cases hlt : k < xs.length
    · obtain ⟨b, off, rfl, hc⟩ := hs.p0.1.at_ hlt
      obtain ⟨x, hx⟩ : ∃ x, bF xs k = x := ⟨_, rfl⟩
      obtain ⟨y, hy⟩ : ∃ y, bL xs k = y := ⟨_, rfl⟩
      have hc0 : wr.cell? ⟨b, off + k * 2, none⟩ = some (.int .i64 x) := by rw [← hx]; exact hc 0 (by decide)
      have hc1 : wr.cell? ⟨b, off + k * 2 + 1, none⟩ = some (.int .i64 y) := by rw [← hy]; exact hc 1 (by decide)
      obtain ⟨b1, b2⟩ := sgAt_bd (HA.out k hlt)
      rw [hx] at b1
      rw [hy] at b2
      obtain ⟨s0, s1⟩ := sq_bd b1
      obtain ⟨t0, t1⟩ := sq_bd b2
      have HN : Hid (powK xs (k + 1) = powK xs k + (x * x + y * y)) := by unfold Hid; simp only [powK, hx, hy]
      obtain ⟨P, hP⟩ : ∃ P, powK xs k = P := ⟨_, rfl⟩
      rw [hP] at p0 p1
      have HP := Lib.hid hP
      rw [hP]
      clear hc hx hy hP b1 b2
      go_wp2
      go_roundw
      case rel => exact ⟨k + 1, hlt, by go_num, intv (by rw [HN.out, HP.out]), (by first | exact hs | exact (hs).alloc _ | exact ((hs).alloc _).alloc _ | exact (((hs).alloc _).alloc _).alloc _ | exact ((((hs).alloc _).alloc _).alloc _).alloc _ | exact (hs).drew | exact ((hs).alloc _).drew | exact (((hs).alloc _).alloc _).drew | exact ((((hs).alloc _).alloc _).alloc _).drew | exact (((((hs).alloc _).alloc _).alloc _).alloc _).drew | exact (hs).drewN _ | exact ((hs).alloc _).drewN _ | exact (((hs).alloc _).alloc _).drewN _ | exact ((((hs).alloc _).alloc _).alloc _).drewN _ | exact (((((hs).alloc _).alloc _).alloc _).alloc _).drewN _)⟩
      case measure => simp [intOf]; omega
    · obtain rfl : k = xs.length := by omega
      go_wp2
      go_ret
      exact Ret.mk1 (intv HE.out.symm) hs.done

theorem wf_of {n : Int} (h0 : -9223372036854775808 ≤ n) (h1 : n ≤ 9223372036854775807) : (Lit.int .i64 n).wf = true := by
  simp only [Lit.wf, IntKind.min, IntKind.max, IntKind.signed, IntKind.bits, Bool.and_eq_true, decide_eq_true_eq]
  simp
  omega

set_option maxRecDepth 100000 in
set_option maxHeartbeats 4000000 in
theorem fnDisturbSamples_c (vc : Value) (c : List Int) (w : World) (hc : RdB w vc c) (bc : ∀ n ∈ c, (Lit.int .u8 n).wf = true) :
    Calls Try.prog 4 #[vc] w (Ret w fun v _ => v = .bool true) := by
  have hs := SH.add (p := rdP .u8 vc c) (SH.start0 w) (by simp) hc rdP_wr
  obtain ⟨ac, cc, rfl, -⟩ := hc.form
  have Bc := Lib.hid bc
  clear hc bc
  by_cases lc : c.length ≤ 1048576
  case neg =>
    go_enter Try.func4, Try.ntmps4
    go_wp2
    go_ret
    exact Ret.mk1 rfl (Below.refl _ _)
  go_enter Try.func4, Try.ntmps4
  go_wp2_with fail
  refine (DrawDisturbSamples_s _ c _ (by first | exact hs | exact (hs).allocP1 _ _ | exact ((hs).allocP1 _ _).allocP1 _ _ | exact (((hs).allocP1 _ _).allocP1 _ _).allocP1 _ _ | exact ((((hs).allocP1 _ _).allocP1 _ _).allocP1 _ _).allocP1 _ _ | exact (hs).drew | exact ((hs).allocP1 _ _).drew | exact (((hs).allocP1 _ _).allocP1 _ _).drew | exact ((((hs).allocP1 _ _).allocP1 _ _).allocP1 _ _).drew | exact (((((hs).allocP1 _ _).allocP1 _ _).allocP1 _ _).allocP1 _ _).drew | exact (hs).drewN _ | exact ((hs).allocP1 _ _).drewN _ | exact (((hs).allocP1 _ _).allocP1 _ _).drewN _ | exact ((((hs).allocP1 _ _).allocP1 _ _).allocP1 _ _).drewN _ | exact (((((hs).allocP1 _ _).allocP1 _ _).allocP1 _ _).allocP1 _ _).drewN _) Bc.out).mono ?_
  rintro e w1 ⟨v1, xs, a, n, rfl, ⟨a0, a1⟩, ⟨n0, n1⟩, hl, hs⟩
  obtain ⟨b1, c1, rfl, -⟩ := (OwnM.rd hs.p0).form
  have WA := Lib.hid (show (Lit.int .i64 a).wf = true from wf_of (by omega) (by omega))
  have WN := Lib.hid (show (Lit.int .i64 n).wf = true from wf_of (by omega) (by omega))
  have W0 := Lib.hid (show (Lit.int .i64 (0 : Int)).wf = true from wf_of (by omega) (by omega))
  go_wp2_with fail
  refine (SH.ownM hs (by repeat' (first | with_reducible exact Below.refl _ _ | with_reducible assumption | with_reducible refine below_drewN ?_ _ | with_reducible refine Below.drew ?_ | with_reducible refine Below.alloc ?_ ?_ _ | with_reducible refine Below.setCell ?_ ?_ _ | go_size)) fun hs => implDisturbSamples_c _ xs a n _ (OwnM.rd hs.p0) WA.out WN.out).mono ?_
  rintro e w2 ⟨v2, rfl, hs⟩
  go_wp2_with fail
  refine (SH.ownM hs (by repeat' (first | with_reducible exact Below.refl _ _ | with_reducible assumption | with_reducible refine below_drewN ?_ _ | with_reducible refine Below.drew ?_ | with_reducible refine Below.alloc ?_ ?_ _ | with_reducible refine Below.setCell ?_ ?_ _ | go_size)) fun hs => specDisturbSamples_c _ xs a n _ (OwnM.rd hs.p1) WA.out WN.out).mono ?_
  rintro e w3 ⟨v3, rfl, hs⟩
  go_wp2_with fail
  refine (SH.quiet hs (by repeat' (first | with_reducible exact Below.refl _ _ | with_reducible assumption | with_reducible refine below_drewN ?_ _ | with_reducible refine Below.drew ?_ | with_reducible refine Below.alloc ?_ ?_ _ | with_reducible refine Below.setCell ?_ ?_ _ | go_size)) fun hs => sameSamples_c _ _ (dsV xs a n) _ (OwnM.rd hs.p1) (OwnM.rd hs.p0)).mono ?_
  rintro e w4 ⟨rfl, hs⟩
  have hs := hs.drop0
  by_cases hz : (dsV xs a n).length = 0
  · obtain ⟨X, hX⟩ : ∃ X, dsV xs a n = X := ⟨_, rfl⟩
    rw [hX] at hs hz
    obtain rfl : X = [] := List.eq_nil_of_length_eq_zero hz
    clear hX hz
    obtain ⟨b2, c2, rfl, -⟩ := (OwnM.rd hs.p0).form
    go_wp2_with fail
    refine (SH.ret hs (by repeat' (first | with_reducible exact Below.refl _ _ | with_reducible assumption | with_reducible refine below_drewN ?_ _ | with_reducible refine Below.drew ?_ | with_reducible refine Below.alloc ?_ ?_ _ | with_reducible refine Below.setCell ?_ ?_ _ | go_size)) fun hs => alive_c _).mono ?_
    rintro e w5 ⟨v, rfl, rfl, hs⟩
    go_wp2
    go_ret
    exact Ret.mk1 rfl (SH.done (by first | exact hs | exact (hs).alloc _ | exact ((hs).alloc _).alloc _ | exact (((hs).alloc _).alloc _).alloc _ | exact ((((hs).alloc _).alloc _).alloc _).alloc _ | exact (hs).drew | exact ((hs).alloc _).drew | exact (((hs).alloc _).alloc _).drew | exact ((((hs).alloc _).alloc _).alloc _).drew | exact (((((hs).alloc _).alloc _).alloc _).alloc _).drew | exact (hs).drewN _ | exact ((hs).alloc _).drewN _ | exact (((hs).alloc _).alloc _).drewN _ | exact ((((hs).alloc _).alloc _).alloc _).drewN _ | exact (((((hs).alloc _).alloc _).alloc _).alloc _).drewN _))
  obtain ⟨A, M, rfl, rfl, hsg, hAM, hds⟩ := dsV_parts hz
  rw [hds] at hs hz
  have HDD := Lib.hid (show dsV (dsL xs A M) A M = xs by rw [dsV_ok (sg_ds hsg) (by rw [length_dsL]; exact hAM), ds_ds])
  have HPW := Lib.hid (show powV (dsL xs A M) = powV xs by unfold powV; rw [sg_ds hsg, hsg, length_dsL, pow_ds _ (Nat.le_refl _)])
  have HD0 := Lib.hid (show dsV xs A 0 = xs by have := dsV_ok (a := A) (n := 0) hsg (by omega); rw [show ((0 : Nat) : Int) = 0 from rfl] at this; rw [this, dsL_zero])
  obtain ⟨X, hX⟩ : ∃ X, dsL xs A M = X := ⟨_, rfl⟩
  have hXl : X.length = xs.length := by rw [← hX]; exact length_dsL _ _ _
  rw [hX] at hs hz HDD HPW
  clear hX hds
  obtain ⟨b2, c2, rfl, -⟩ := (OwnM.rd hs.p0).form
  have hz2 : ((X.length : Int) == 0) = false := by simp only [beq_eq_false_iff_ne]; omega
  have HXL := Lib.hid hXl
  clear hXl
  go_wp2_with fail
  refine (SH.ownM hs (by repeat' (first | with_reducible exact Below.refl _ _ | with_reducible assumption | with_reducible refine below_drewN ?_ _ | with_reducible refine Below.drew ?_ | with_reducible refine Below.alloc ?_ ?_ _ | with_reducible refine Below.setCell ?_ ?_ _ | go_size)) fun hs => implDisturbSamples_c _ X A M _ (OwnM.rd hs.p0) WA.out WN.out).mono ?_
  rintro e w5 ⟨v5, rfl, hs⟩
  rw [HDD.out] at hs
  clear hz2 hz
  go_wp2_with fail
  refine (SH.quiet hs (by repeat' (first | with_reducible exact Below.refl _ _ | with_reducible assumption | with_reducible refine below_drewN ?_ _ | with_reducible refine Below.drew ?_ | with_reducible refine Below.alloc ?_ ?_ _ | with_reducible refine Below.setCell ?_ ?_ _ | go_size)) fun hs => sameSamples_c _ _ xs _ (OwnM.rd hs.p0) (OwnM.rd hs.p2)).mono ?_
  rintro e w6 ⟨rfl, hs⟩
  go_wp2_with fail
  refine (SH.ret hs (by repeat' (first | with_reducible exact Below.refl _ _ | with_reducible assumption | with_reducible refine below_drewN ?_ _ | with_reducible refine Below.drew ?_ | with_reducible refine Below.alloc ?_ ?_ _ | with_reducible refine Below.setCell ?_ ?_ _ | go_size)) fun hs => implSignalPower_c _ X _ (OwnM.rd hs.p1)).mono ?_
  rintro e w7 ⟨v, rfl, rfl, hs⟩
  go_wp2_with fail
  refine (SH.ret hs (by repeat' (first | with_reducible exact Below.refl _ _ | with_reducible assumption | with_reducible refine below_drewN ?_ _ | with_reducible refine Below.drew ?_ | with_reducible refine Below.alloc ?_ ?_ _ | with_reducible refine Below.setCell ?_ ?_ _ | go_size)) fun hs => implSignalPower_c _ xs _ (OwnM.rd hs.p2)).mono ?_
  rintro e w8 ⟨v, rfl, rfl, hs⟩
  rw [HPW.out]
  have e5 : (powV xs == powV xs) = true := beq_self_eq_true _
  go_wp2_with fail
  refine (SH.ownM hs (by repeat' (first | with_reducible exact Below.refl _ _ | with_reducible assumption | with_reducible refine below_drewN ?_ _ | with_reducible refine Below.drew ?_ | with_reducible refine Below.alloc ?_ ?_ _ | with_reducible refine Below.setCell ?_ ?_ _ | go_size)) fun hs => implDisturbSamples_c _ xs A 0 _ (OwnM.rd hs.p2) WA.out W0.out).mono ?_
  rintro e w9 ⟨v6, rfl, hs⟩
  rw [HD0.out] at hs
  go_wp2_with fail
  refine (SH.quiet hs (by repeat' (first | with_reducible exact Below.refl _ _ | with_reducible assumption | with_reducible refine below_drewN ?_ _ | with_reducible refine Below.drew ?_ | with_reducible refine Below.alloc ?_ ?_ _ | with_reducible refine Below.setCell ?_ ?_ _ | go_size)) fun hs => sameSamples_c _ _ xs _ (OwnM.rd hs.p0) (OwnM.rd hs.p3)).mono ?_
  rintro e w10 ⟨rfl, hs⟩
  go_wp2
  go_ret
  exact Ret.mk1 rfl (SH.done (by first | exact hs | exact (hs).alloc _ | exact ((hs).alloc _).alloc _ | exact (((hs).alloc _).alloc _).alloc _ | exact ((((hs).alloc _).alloc _).alloc _).alloc _ | exact (hs).drew | exact ((hs).alloc _).drew | exact (((hs).alloc _).alloc _).drew | exact ((((hs).alloc _).alloc _).alloc _).drew | exact (((((hs).alloc _).alloc _).alloc _).alloc _).drew | exact (hs).drewN _ | exact ((hs).alloc _).drewN _ | exact (((hs).alloc _).alloc _).drewN _ | exact ((((hs).alloc _).alloc _).alloc _).drewN _ | exact (((((hs).alloc _).alloc _).alloc _).alloc _).drewN _))

end Go.Proofs.Ytpcmfmkpgidgpaa
