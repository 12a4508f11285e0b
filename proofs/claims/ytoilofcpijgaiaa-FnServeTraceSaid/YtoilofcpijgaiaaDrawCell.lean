import Derived.Test.YtoilofcpijgaiaaProg
import Derived.Test.YtoilofcpijgaiaaSym
import Derived.Test.YtoilofcpijgaiaaDraw
import Derived.Test.YtoilofcpijgaiaaInts
namespace Go.Proofs.Ytoilofcpijgaiaa
open Go.RowKit

theorem rdrP_mono' {row : Option Nat} {w0 w : World} {I : List Part} {a : Part} {g m m' : Nat} {sv : Value} {bs : List Int} (h : SH row w0 w (a :: rdrP g m sv bs :: I)) (hm : m ≤ m') : SH row w0 w (a :: rdrP g m' sv bs :: I) := (rdrP_mono h.bring1 hm).bring1

set_option maxRecDepth 100000 in
set_option maxHeartbeats 4000000 in
theorem l20Strengths_s (g m n : Nat) (bad : Int) (w : World) {row : Option Nat} {w0 : World} {I : List Part} {sv : Value} {bs : List Int} (hs : SH row w0 w (rdrP g m sv bs :: I)) (hm : m ≤ 1000000000) (hn : 1 ≤ n) (hn1 : n ≤ 1000) (hbad : bad ≤ 1000000) :
    Calls Try.prog 56 #[.pointer (some ⟨g, 0, none⟩), .int .i64 n, .int .i64 bad] w (fun e w' => ∃ v xs, e = .returned v ∧ xs.length ≤ n ∧ (∀ x ∈ xs, -1 ≤ x ∧ x ≤ 201) ∧ SH row w0 w' (ownP .i64 3 v xs :: rdrP g (m + 3 * n + 3) sv bs :: I)) := by
  go_enter Try.func56, Try.ntmps56
  go_wp2_with fail
  go_loopw [7, 8] (fun o i wr => ∃ (k : Nat) (xs : List Int), k ≤ n ∧ i = .int .i64 k ∧ xs.length = k ∧ Hid (∀ x ∈ xs, -1 ≤ x ∧ x ≤ 201) ∧ SH row w0 wr (rdrP g (m + 3 * k) sv bs :: ownP .i64 3 o xs :: I)) (fun _ i _ => n - (intOf i).toNat)
  case atStart => exact ⟨0, [], Nat.zero_le _, rfl, rfl, Lib.hid (by simp), (hs.ownEmpty _ _).bring1⟩
  case round =>
    obtain ⟨k, xs, hk, rfl, hxl, HX, hs⟩ := hrel
    have HL := Lib.hid hxl
    clear hxl
    by_cases hlt : k < n
    · go_wp2_with fail
      refine (pick_s g _ 20 _ (by first | exact ⟨hs, by omega⟩ | exact ⟨(hs).allocP1 _ _, by omega⟩ | exact ⟨((hs).allocP1 _ _).allocP1 _ _, by omega⟩ | exact ⟨(((hs).allocP1 _ _).allocP1 _ _).allocP1 _ _, by omega⟩ | exact ⟨((((hs).allocP1 _ _).allocP1 _ _).allocP1 _ _).allocP1 _ _, by omega⟩ | exact ⟨(hs).drew, by omega⟩ | exact ⟨((hs).allocP1 _ _).drew, by omega⟩ | exact ⟨(((hs).allocP1 _ _).allocP1 _ _).drew, by omega⟩ | exact ⟨((((hs).allocP1 _ _).allocP1 _ _).allocP1 _ _).drew, by omega⟩ | exact ⟨(((((hs).allocP1 _ _).allocP1 _ _).allocP1 _ _).allocP1 _ _).drew, by omega⟩ | exact ⟨(hs).drewN _, by omega⟩ | exact ⟨((hs).allocP1 _ _).drewN _, by omega⟩ | exact ⟨(((hs).allocP1 _ _).allocP1 _ _).drewN _, by omega⟩ | exact ⟨((((hs).allocP1 _ _).allocP1 _ _).allocP1 _ _).drewN _, by omega⟩ | exact ⟨(((((hs).allocP1 _ _).allocP1 _ _).allocP1 _ _).allocP1 _ _).drewN _, by omega⟩) (by decide)).mono ?_
      rintro e w1 ⟨p, rfl, p_0, p_a, -, hs⟩
      have p_1 := p_a (by decide)
      clear p_a
      go_wp2_with fail
      refine (pick_s g _ 201 _ (by first | exact ⟨hs, by omega⟩ | exact ⟨(hs).allocP1 _ _, by omega⟩ | exact ⟨((hs).allocP1 _ _).allocP1 _ _, by omega⟩ | exact ⟨(((hs).allocP1 _ _).allocP1 _ _).allocP1 _ _, by omega⟩ | exact ⟨((((hs).allocP1 _ _).allocP1 _ _).allocP1 _ _).allocP1 _ _, by omega⟩ | exact ⟨(hs).drew, by omega⟩ | exact ⟨((hs).allocP1 _ _).drew, by omega⟩ | exact ⟨(((hs).allocP1 _ _).allocP1 _ _).drew, by omega⟩ | exact ⟨((((hs).allocP1 _ _).allocP1 _ _).allocP1 _ _).drew, by omega⟩ | exact ⟨(((((hs).allocP1 _ _).allocP1 _ _).allocP1 _ _).allocP1 _ _).drew, by omega⟩ | exact ⟨(hs).drewN _, by omega⟩ | exact ⟨((hs).allocP1 _ _).drewN _, by omega⟩ | exact ⟨(((hs).allocP1 _ _).allocP1 _ _).drewN _, by omega⟩ | exact ⟨((((hs).allocP1 _ _).allocP1 _ _).allocP1 _ _).drewN _, by omega⟩ | exact ⟨(((((hs).allocP1 _ _).allocP1 _ _).allocP1 _ _).allocP1 _ _).drewN _, by omega⟩) (by decide)).mono ?_
      rintro e w2 ⟨q, rfl, q_0, q_a, -, hs⟩
      have q_1 := q_a (by decide)
      clear q_a
      go_wp2_with fail
      refine (pick_s g _ 4 _ (by first | exact ⟨hs, by omega⟩ | exact ⟨(hs).allocP1 _ _, by omega⟩ | exact ⟨((hs).allocP1 _ _).allocP1 _ _, by omega⟩ | exact ⟨(((hs).allocP1 _ _).allocP1 _ _).allocP1 _ _, by omega⟩ | exact ⟨((((hs).allocP1 _ _).allocP1 _ _).allocP1 _ _).allocP1 _ _, by omega⟩ | exact ⟨(hs).drew, by omega⟩ | exact ⟨((hs).allocP1 _ _).drew, by omega⟩ | exact ⟨(((hs).allocP1 _ _).allocP1 _ _).drew, by omega⟩ | exact ⟨((((hs).allocP1 _ _).allocP1 _ _).allocP1 _ _).drew, by omega⟩ | exact ⟨(((((hs).allocP1 _ _).allocP1 _ _).allocP1 _ _).allocP1 _ _).drew, by omega⟩ | exact ⟨(hs).drewN _, by omega⟩ | exact ⟨((hs).allocP1 _ _).drewN _, by omega⟩ | exact ⟨(((hs).allocP1 _ _).allocP1 _ _).drewN _, by omega⟩ | exact ⟨((((hs).allocP1 _ _).allocP1 _ _).allocP1 _ _).drewN _, by omega⟩ | exact ⟨(((((hs).allocP1 _ _).allocP1 _ _).allocP1 _ _).allocP1 _ _).drewN _, by omega⟩) (by decide)).mono ?_
      rintro e w3 ⟨r, rfl, r_0, r_a, -, hs⟩
      have r_1 := r_a (by decide)
      clear r_a
      have hb : w3.heap[w2.heap.size]? = _ := hs.p1
      have hc0 := blk_cell hb 0
      have hc1 := blk_cell hb 1
      clear hb
      obtain ⟨y, hy, y0, y1, hyy⟩ : ∃ y : Int, w3.cell? ⟨w2.heap.size, (r / 3).toNat, none⟩ = some (.int .i64 y) ∧ -1 ≤ y ∧ y ≤ 201 ∧ 0 ≤ r / 3 ∧ r / 3 < 2 := by
        rcases Int.lt_or_le r 3 with h | h
        · obtain h0 : r / 3 = 0 := by omega
          rw [h0]; exact ⟨_, hc0, by omega, by omega, by omega, by omega⟩
        · obtain h0 : r / 3 = 1 := by omega
          rw [h0]; exact ⟨_, hc1, by omega, by omega, by omega, by omega⟩
      clear hc0 hc1
      obtain ⟨r0, r1⟩ := hyy
      have hy : w3.cell? ⟨w2.heap.size, 0 + (r / 3).toNat, none⟩ = some (.int .i64 y) := by rw [Nat.zero_add]; exact hy
      go_wp2_with (at_builtin; refine wp_app1S rfl rfl .i64 3 8 Try.underlying23 info_int y rfl (hs.bring2.alloc _) rfl (World.cell?_alloc_at _ _ _ _ rfl) (by rw [HL.out]; omega) (by rw [HL.out]; unfold maxLen; omega) ?_; intro v4 w4 hs)
      have hs := hs.bring1.drop2
      clear hy
      go_wp2
      go_roundw
      case rel => exact ⟨k + 1, _, hlt, by go_num, by simp [HL.out], Lib.hid (by intro x hx; rcases List.mem_append.1 hx with h | h; exact HX.out x h; simp at h; omega), hs⟩
      case measure => simp [intOf]; omega
    · obtain rfl : k = n := by omega
      go_wp2_with fail
      refine (odd_s g _ bad _ (by first | exact ⟨hs, by omega⟩ | exact ⟨(hs).allocP1 _ _, by omega⟩ | exact ⟨((hs).allocP1 _ _).allocP1 _ _, by omega⟩ | exact ⟨(((hs).allocP1 _ _).allocP1 _ _).allocP1 _ _, by omega⟩ | exact ⟨((((hs).allocP1 _ _).allocP1 _ _).allocP1 _ _).allocP1 _ _, by omega⟩ | exact ⟨(hs).drew, by omega⟩ | exact ⟨((hs).allocP1 _ _).drew, by omega⟩ | exact ⟨(((hs).allocP1 _ _).allocP1 _ _).drew, by omega⟩ | exact ⟨((((hs).allocP1 _ _).allocP1 _ _).allocP1 _ _).drew, by omega⟩ | exact ⟨(((((hs).allocP1 _ _).allocP1 _ _).allocP1 _ _).allocP1 _ _).drew, by omega⟩ | exact ⟨(hs).drewN _, by omega⟩ | exact ⟨((hs).allocP1 _ _).drewN _, by omega⟩ | exact ⟨(((hs).allocP1 _ _).allocP1 _ _).drewN _, by omega⟩ | exact ⟨((((hs).allocP1 _ _).allocP1 _ _).allocP1 _ _).drewN _, by omega⟩ | exact ⟨(((((hs).allocP1 _ _).allocP1 _ _).allocP1 _ _).allocP1 _ _).drewN _, by omega⟩) (by omega)).mono ?_
      rintro e w1 ⟨od, rfl, -, hs⟩
      cases od
      · go_wp2
        go_ret
        exact ⟨_, xs, rfl, by rw [HL.out]; exact Nat.le_refl _, HX.out, (rdrP_mono hs (by omega)).bring1⟩
      · go_wp2_with fail
        refine (pick_s g _ 2 _ (by first | exact ⟨hs, by omega⟩ | exact ⟨(hs).allocP1 _ _, by omega⟩ | exact ⟨((hs).allocP1 _ _).allocP1 _ _, by omega⟩ | exact ⟨(((hs).allocP1 _ _).allocP1 _ _).allocP1 _ _, by omega⟩ | exact ⟨((((hs).allocP1 _ _).allocP1 _ _).allocP1 _ _).allocP1 _ _, by omega⟩ | exact ⟨(hs).drew, by omega⟩ | exact ⟨((hs).allocP1 _ _).drew, by omega⟩ | exact ⟨(((hs).allocP1 _ _).allocP1 _ _).drew, by omega⟩ | exact ⟨((((hs).allocP1 _ _).allocP1 _ _).allocP1 _ _).drew, by omega⟩ | exact ⟨(((((hs).allocP1 _ _).allocP1 _ _).allocP1 _ _).allocP1 _ _).drew, by omega⟩ | exact ⟨(hs).drewN _, by omega⟩ | exact ⟨((hs).allocP1 _ _).drewN _, by omega⟩ | exact ⟨(((hs).allocP1 _ _).allocP1 _ _).drewN _, by omega⟩ | exact ⟨((((hs).allocP1 _ _).allocP1 _ _).allocP1 _ _).drewN _, by omega⟩ | exact ⟨(((((hs).allocP1 _ _).allocP1 _ _).allocP1 _ _).allocP1 _ _).drewN _, by omega⟩) (by decide)).mono ?_
        rintro e w2 ⟨z, rfl, z_0, z_a, -, hs⟩
        have z_1 := z_a (by decide)
        clear z_a
        obtain rfl | rfl : z = 0 ∨ z = 1 := by omega
        · go_wp2
          go_ret
          exact ⟨_, [], rfl, Nat.zero_le _, by simp, ((rdrP_mono hs (m' := m + 3 * k + 3) (by omega)).drop1).ownEmpty _ _⟩
        · go_wp2_with fail
          refine (pick_s g _ 2 _ (by first | exact ⟨hs, by omega⟩ | exact ⟨(hs).allocP1 _ _, by omega⟩ | exact ⟨((hs).allocP1 _ _).allocP1 _ _, by omega⟩ | exact ⟨(((hs).allocP1 _ _).allocP1 _ _).allocP1 _ _, by omega⟩ | exact ⟨((((hs).allocP1 _ _).allocP1 _ _).allocP1 _ _).allocP1 _ _, by omega⟩ | exact ⟨(hs).drew, by omega⟩ | exact ⟨((hs).allocP1 _ _).drew, by omega⟩ | exact ⟨(((hs).allocP1 _ _).allocP1 _ _).drew, by omega⟩ | exact ⟨((((hs).allocP1 _ _).allocP1 _ _).allocP1 _ _).drew, by omega⟩ | exact ⟨(((((hs).allocP1 _ _).allocP1 _ _).allocP1 _ _).allocP1 _ _).drew, by omega⟩ | exact ⟨(hs).drewN _, by omega⟩ | exact ⟨((hs).allocP1 _ _).drewN _, by omega⟩ | exact ⟨(((hs).allocP1 _ _).allocP1 _ _).drewN _, by omega⟩ | exact ⟨((((hs).allocP1 _ _).allocP1 _ _).allocP1 _ _).drewN _, by omega⟩ | exact ⟨(((((hs).allocP1 _ _).allocP1 _ _).allocP1 _ _).allocP1 _ _).drewN _, by omega⟩) (by decide)).mono ?_
          rintro e w3 ⟨y, rfl, y_0, y_a, -, hs⟩
          have y_1 := y_a (by decide)
          clear y_a
          have hb := hs.p1
          have hc0 := blk_cell hb 0
          have hc1 := blk_cell hb 1
          clear hb
          obtain ⟨ao, co, rfl, -⟩ := hs.p2.rd.form
          obtain ⟨go, rfl, -, hgl, hgc, hgf⟩ := OwnK.at_ hs.p2 (i := 0) (by rw [HL.out]; omega)
          have hlen : 0 < xs.length := by rw [HL.out]; omega
          have hne : ¬ go = w2.heap.size := fun e => (hs.apart12 go).1 e rfl
          have hne' : ¬ w2.heap.size = go := fun e => hne e.symm
          obtain rfl | rfl : y = 0 ∨ y = 1 := by omega
          all_goals
            go_wp2
            go_ret
            refine ⟨_, _, rfl, ?_, ?_, rdrP_mono' (((hs.bring2.drop2).setOwn hlen _)) (by omega)⟩
            · rw [List.length_set, HL.out]; exact Nat.le_refl _
            · intro x hx; rcases List.mem_or_eq_of_mem_set hx with h | h; exact HX.out x h; omega

set_option maxRecDepth 100000 in
set_option maxHeartbeats 4000000 in
theorem DrawServeCell_s (va : Value) (cs : List Int) (w : World) {row : Option Nat} {w0 : World} {I : List Part} (hs : SH row w0 w (rdP .u8 va cs :: I)) (hb : ∀ n ∈ cs, (Lit.int .u8 n).wf = true) :
    Calls Try.prog 22 #[va] w (fun e w' => ∃ (c : Int) (v : Value) (xs : List Int) (m : Int), e = .returned (.tuple #[.int .i64 c, v, .int .i64 m]) ∧ (-1 ≤ c ∧ c ≤ 8) ∧ xs.length ≤ 8 ∧ (∀ x ∈ xs, -1 ≤ x ∧ x ≤ 201) ∧ (-1 ≤ m ∧ m ≤ 201) ∧ SH row w0 w' (ownP .i64 3 v xs :: rdP .u8 va cs :: I)) := by
  have HB := Lib.hid hb
  clear hb
  go_enter Try.func22, Try.ntmps22
  go_wp2_with fail
  refine (open_s va cs _ (by first | exact hs | exact (hs).allocP1 _ _ | exact ((hs).allocP1 _ _).allocP1 _ _ | exact (((hs).allocP1 _ _).allocP1 _ _).allocP1 _ _ | exact ((((hs).allocP1 _ _).allocP1 _ _).allocP1 _ _).allocP1 _ _ | exact (hs).drew | exact ((hs).allocP1 _ _).drew | exact (((hs).allocP1 _ _).allocP1 _ _).drew | exact ((((hs).allocP1 _ _).allocP1 _ _).allocP1 _ _).drew | exact (((((hs).allocP1 _ _).allocP1 _ _).allocP1 _ _).allocP1 _ _).drew | exact (hs).drewN _ | exact ((hs).allocP1 _ _).drewN _ | exact (((hs).allocP1 _ _).allocP1 _ _).drewN _ | exact ((((hs).allocP1 _ _).allocP1 _ _).allocP1 _ _).drewN _ | exact (((((hs).allocP1 _ _).allocP1 _ _).allocP1 _ _).allocP1 _ _).drewN _) HB.out).mono ?_
  rintro e w1 ⟨g, sv, bs, rfl, hs⟩
  go_wp2_with fail
  refine (pick_s g _ 8 _ (by first | exact ⟨hs, by omega⟩ | exact ⟨(hs).allocP1 _ _, by omega⟩ | exact ⟨((hs).allocP1 _ _).allocP1 _ _, by omega⟩ | exact ⟨(((hs).allocP1 _ _).allocP1 _ _).allocP1 _ _, by omega⟩ | exact ⟨((((hs).allocP1 _ _).allocP1 _ _).allocP1 _ _).allocP1 _ _, by omega⟩ | exact ⟨(hs).drew, by omega⟩ | exact ⟨((hs).allocP1 _ _).drew, by omega⟩ | exact ⟨(((hs).allocP1 _ _).allocP1 _ _).drew, by omega⟩ | exact ⟨((((hs).allocP1 _ _).allocP1 _ _).allocP1 _ _).drew, by omega⟩ | exact ⟨(((((hs).allocP1 _ _).allocP1 _ _).allocP1 _ _).allocP1 _ _).drew, by omega⟩ | exact ⟨(hs).drewN _, by omega⟩ | exact ⟨((hs).allocP1 _ _).drewN _, by omega⟩ | exact ⟨(((hs).allocP1 _ _).allocP1 _ _).drewN _, by omega⟩ | exact ⟨((((hs).allocP1 _ _).allocP1 _ _).allocP1 _ _).drewN _, by omega⟩ | exact ⟨(((((hs).allocP1 _ _).allocP1 _ _).allocP1 _ _).allocP1 _ _).drewN _, by omega⟩) (by decide)).mono ?_
  rintro e w2 ⟨v, rfl, v_0, v_a, -, hs⟩
  have v_1 := v_a (by decide)
  clear v_a
  obtain ⟨n, hn, n0, n1⟩ : ∃ n : Nat, 1 + v = (n : Int) ∧ 1 ≤ n ∧ n ≤ 8 := ⟨(1 + v).toNat, by omega, by omega, by omega⟩
  go_wp2_with fail
  refine (l20Strengths_s g _ n 12 _ (by first | exact hs | exact (hs).allocP1 _ _ | exact ((hs).allocP1 _ _).allocP1 _ _ | exact (((hs).allocP1 _ _).allocP1 _ _).allocP1 _ _ | exact ((((hs).allocP1 _ _).allocP1 _ _).allocP1 _ _).allocP1 _ _ | exact (hs).drew | exact ((hs).allocP1 _ _).drew | exact (((hs).allocP1 _ _).allocP1 _ _).drew | exact ((((hs).allocP1 _ _).allocP1 _ _).allocP1 _ _).drew | exact (((((hs).allocP1 _ _).allocP1 _ _).allocP1 _ _).allocP1 _ _).drew | exact (hs).drewN _ | exact ((hs).allocP1 _ _).drewN _ | exact (((hs).allocP1 _ _).allocP1 _ _).drewN _ | exact ((((hs).allocP1 _ _).allocP1 _ _).allocP1 _ _).drewN _ | exact (((((hs).allocP1 _ _).allocP1 _ _).allocP1 _ _).allocP1 _ _).drewN _) (by decide) n0 (by omega) (by decide)).mono ?_
  rintro e w3 ⟨v1, xs, rfl, hxl, hx, hs⟩
  have HX := Lib.hid hx
  clear hx hn v_0 v_1
  have hs := hs.bring1
  obtain ⟨n2, n3⟩ : (1 : Int) ≤ n ∧ (n : Int) ≤ 8 := by omega
  clear n0 n1
  go_wp2_with fail
  refine wp_region_draw [(0, va), (5, .pointer (some ⟨g, 0, none⟩)), (6, .int .i64 n), (7, v1), (8, va), (9, .pointer (some ⟨g, 0, none⟩)), (10, .pointer (some ⟨g, 0, none⟩)), (11, .int .i64 v), (12, .int .i64 n), (13, .pointer (some ⟨g, 0, none⟩)), (14, .int .i64 n), (15, v1)]
    [.any, .any, .int (-1) 8, .val (v1), .int (-1) 201, .any, .any, .any, .any, .any, .any, .any, .any, .any, .any, .any, .val (.pointer (some ⟨g, 0, none⟩)), .val (.int .i64 n), .int 3 10, .int 0 9, .int (-1) 8, .val (v1), .val (.pointer (some ⟨g, 0, none⟩)), .int 0 9, .lit 4 (-1) 201, .lit 7 0 3, .val (.pointer (some ⟨g, 0, none⟩)), .int 0 6, .adr 0 3, .int 0 3, .adr (-1) 201, .int (-1) 201]
    [[5], [6], [17], [16, 18], [19], [7], [5], [22], [23], [], [5], [26], [25, 27], [28], [24, 29], [30], [20], [21], [31]]
    19 (by kernel_rfl) (by kernel_rfl) (by kernel_rfl) (by kernel_rfl) (by simp only [List.forall_mem_cons]; exact ⟨rfl, rfl, rfl, rfl, rfl, rfl, rfl, rfl, rfl, rfl, rfl, rfl,  fun _ h => by cases h⟩) (by first | exact ⟨hs, by omega⟩ | exact ⟨(hs).alloc _, by omega⟩ | exact ⟨((hs).alloc _).alloc _, by omega⟩ | exact ⟨(((hs).alloc _).alloc _).alloc _, by omega⟩ | exact ⟨((((hs).alloc _).alloc _).alloc _).alloc _, by omega⟩ | exact ⟨(hs).drew, by omega⟩ | exact ⟨((hs).alloc _).drew, by omega⟩ | exact ⟨(((hs).alloc _).alloc _).drew, by omega⟩ | exact ⟨((((hs).alloc _).alloc _).alloc _).drew, by omega⟩ | exact ⟨(((((hs).alloc _).alloc _).alloc _).alloc _).drew, by omega⟩ | exact ⟨(hs).drewN _, by omega⟩ | exact ⟨((hs).alloc _).drewN _, by omega⟩ | exact ⟨(((hs).alloc _).alloc _).drewN _, by omega⟩ | exact ⟨((((hs).alloc _).alloc _).alloc _).drewN _, by omega⟩ | exact ⟨(((((hs).alloc _).alloc _).alloc _).alloc _).drewN _, by omega⟩) ?_ ?_
  · exact ⟨ok_move 16 rfl (.inl rfl) (opOK_tmp rfl rfl),
      ok_move 17 rfl (.inl rfl) (opOK_tmp rfl rfl),
      ok_add 1 8 2 2 3 10 18 rfl rfl (opOK_ptr (E := .int 1 8) (opOK_tmp rfl rfl) (fun _ => ⟨_, rfl, by omega, by omega⟩)) opOK_int rfl (by decide),
      ok_pick 3 10 19 rfl rfl (opOK_tmp rfl rfl) (opOK_tmp rfl rfl) (by decide) rfl,
      ok_sub 0 9 1 1 (-1) 8 20 rfl rfl (opOK_tmp rfl rfl) opOK_int rfl (by decide),
      ok_move 21 rfl (.inl rfl) (opOK_tmp rfl rfl),
      ok_move 22 rfl (.inl rfl) (opOK_tmp rfl rfl),
      ok_pick 10 10 23 rfl rfl (opOK_tmp rfl rfl) opOK_int (by decide) rfl,
      ok_build 4 (-1) 201 [.tmp 23, .const (.int .i64 0), .const (.int .i64 (-1)), .const (.int .i64 201)] 24 rfl rfl rfl rfl (by decide) (by simp only [List.forall_mem_cons]; exact ⟨(opOK_wide (lo := 0) (hi := 9) (opOK_tmp rfl rfl) (by decide) (by decide)), (opOK_wide (lo := 0) (hi := 0) opOK_int (by decide) (by decide)), (opOK_wide (lo := (-1)) (hi := (-1)) opOK_int (by decide) (by decide)), (opOK_wide (lo := 201) (hi := 201) opOK_int (by decide) (by decide)), fun _ h => by cases h⟩) rfl,
      ok_build 7 0 3 [.const (.int .i64 0), .const (.int .i64 0), .const (.int .i64 0), .const (.int .i64 0), .const (.int .i64 1), .const (.int .i64 2), .const (.int .i64 3)] 25 rfl rfl rfl rfl (by decide) (by simp only [List.forall_mem_cons]; exact ⟨(opOK_wide (lo := 0) (hi := 0) opOK_int (by decide) (by decide)), (opOK_wide (lo := 0) (hi := 0) opOK_int (by decide) (by decide)), (opOK_wide (lo := 0) (hi := 0) opOK_int (by decide) (by decide)), (opOK_wide (lo := 0) (hi := 0) opOK_int (by decide) (by decide)), (opOK_wide (lo := 1) (hi := 1) opOK_int (by decide) (by decide)), (opOK_wide (lo := 2) (hi := 2) opOK_int (by decide) (by decide)), (opOK_wide (lo := 3) (hi := 3) opOK_int (by decide) (by decide)), fun _ h => by cases h⟩) rfl,
      ok_move 26 rfl (.inl rfl) (opOK_tmp rfl rfl),
      ok_pick 7 7 27 rfl rfl (opOK_tmp rfl rfl) opOK_int (by decide) rfl,
      ok_index 7 0 3 0 6 28 rfl rfl (opOK_tmp rfl rfl) (opOK_tmp rfl rfl) rfl (by decide),
      ok_load 0 3 29 rfl rfl (opOK_tmp rfl rfl) rfl,
      ok_index 4 (-1) 201 0 3 30 rfl rfl (opOK_tmp rfl rfl) (opOK_tmp rfl rfl) rfl (by decide),
      ok_load (-1) 201 31 rfl rfl (opOK_tmp rfl rfl) rfl,
      ok_move 2 rfl (.inr rfl) (opOK_tmp rfl rfl),
      ok_move 3 rfl (.inr rfl) (opOK_tmp rfl rfl),
      ok_move 4 rfl (.inr rfl) (opOK_tmp rfl rfl), trivial⟩
  rintro tm wq ⟨L, hv⟩ hold hsz hs
  have hx0 : tm.getD 0 undef = va := hold 0 (by kernel_rfl)
  have hx1 : tm.getD 1 undef = undef := hold 1 (by kernel_rfl)
  obtain ⟨x2, hx2, x2_0, x2_1⟩ : ∃ n, tm.getD 2 undef = .int .i64 n ∧ (-1) ≤ n ∧ n ≤ 8 := hv 2 (show 2 < 32 by decide) (by kernel_rfl)
  have hx3 : tm.getD 3 undef = v1 := hv 3 (show 3 < 32 by decide) (by kernel_rfl)
  obtain ⟨x4, hx4, x4_0, x4_1⟩ : ∃ n, tm.getD 4 undef = .int .i64 n ∧ (-1) ≤ n ∧ n ≤ 201 := hv 4 (show 4 < 32 by decide) (by kernel_rfl)
  have hx5 : tm.getD 5 undef = .pointer (some ⟨g, 0, none⟩) := hold 5 (by kernel_rfl)
  have hx6 : tm.getD 6 undef = .int .i64 n := hold 6 (by kernel_rfl)
  have hx7 : tm.getD 7 undef = v1 := hold 7 (by kernel_rfl)
  have hx8 : tm.getD 8 undef = va := hold 8 (by kernel_rfl)
  have hx9 : tm.getD 9 undef = .pointer (some ⟨g, 0, none⟩) := hold 9 (by kernel_rfl)
  have hx10 : tm.getD 10 undef = .pointer (some ⟨g, 0, none⟩) := hold 10 (by kernel_rfl)
  have hx11 : tm.getD 11 undef = .int .i64 v := hold 11 (by kernel_rfl)
  have hx12 : tm.getD 12 undef = .int .i64 n := hold 12 (by kernel_rfl)
  have hx13 : tm.getD 13 undef = .pointer (some ⟨g, 0, none⟩) := hold 13 (by kernel_rfl)
  have hx14 : tm.getD 14 undef = .int .i64 n := hold 14 (by kernel_rfl)
  have hx15 : tm.getD 15 undef = v1 := hold 15 (by kernel_rfl)
  have hx16 : tm.getD 16 undef = .pointer (some ⟨g, 0, none⟩) := hv 16 (show 16 < 32 by decide) (by kernel_rfl)
  have hx17 : tm.getD 17 undef = .int .i64 n := hv 17 (show 17 < 32 by decide) (by kernel_rfl)
  obtain ⟨x18, hx18⟩ : ∃ x, tm.getD 18 undef = x := ⟨_, rfl⟩
  obtain ⟨x19, hx19⟩ : ∃ x, tm.getD 19 undef = x := ⟨_, rfl⟩
  obtain ⟨x20, hx20⟩ : ∃ x, tm.getD 20 undef = x := ⟨_, rfl⟩
  have hx21 : tm.getD 21 undef = v1 := hv 21 (show 21 < 32 by decide) (by kernel_rfl)
  have hx22 : tm.getD 22 undef = .pointer (some ⟨g, 0, none⟩) := hv 22 (show 22 < 32 by decide) (by kernel_rfl)
  obtain ⟨x23, hx23⟩ : ∃ x, tm.getD 23 undef = x := ⟨_, rfl⟩
  obtain ⟨x24, hx24⟩ : ∃ x, tm.getD 24 undef = x := ⟨_, rfl⟩
  obtain ⟨x25, hx25⟩ : ∃ x, tm.getD 25 undef = x := ⟨_, rfl⟩
  have hx26 : tm.getD 26 undef = .pointer (some ⟨g, 0, none⟩) := hv 26 (show 26 < 32 by decide) (by kernel_rfl)
  obtain ⟨x27, hx27⟩ : ∃ x, tm.getD 27 undef = x := ⟨_, rfl⟩
  obtain ⟨x28, hx28⟩ : ∃ x, tm.getD 28 undef = x := ⟨_, rfl⟩
  obtain ⟨x29, hx29⟩ : ∃ x, tm.getD 29 undef = x := ⟨_, rfl⟩
  obtain ⟨x30, hx30⟩ : ∃ x, tm.getD 30 undef = x := ⟨_, rfl⟩
  obtain ⟨x31, hx31⟩ : ∃ x, tm.getD 31 undef = x := ⟨_, rfl⟩
  have htm : tm = (va :: undef :: .int .i64 x2 :: v1 :: .int .i64 x4 :: .pointer (some ⟨g, 0, none⟩) :: .int .i64 n :: v1 :: va :: .pointer (some ⟨g, 0, none⟩) :: .pointer (some ⟨g, 0, none⟩) :: .int .i64 v :: .int .i64 n :: .pointer (some ⟨g, 0, none⟩) :: .int .i64 n :: v1 :: .pointer (some ⟨g, 0, none⟩) :: .int .i64 n :: x18 :: x19 :: x20 :: v1 :: .pointer (some ⟨g, 0, none⟩) :: x23 :: x24 :: x25 :: .pointer (some ⟨g, 0, none⟩) :: x27 :: x28 :: x29 :: x30 :: x31 :: []).toArray := by
    refine (arr_eq tm hsz).trans ?_
    show (tm.getD 0 undef :: tm.getD 1 undef :: tm.getD 2 undef :: tm.getD 3 undef :: tm.getD 4 undef :: tm.getD 5 undef :: tm.getD 6 undef :: tm.getD 7 undef :: tm.getD 8 undef :: tm.getD 9 undef :: tm.getD 10 undef :: tm.getD 11 undef :: tm.getD 12 undef :: tm.getD 13 undef :: tm.getD 14 undef :: tm.getD 15 undef :: tm.getD 16 undef :: tm.getD 17 undef :: tm.getD 18 undef :: tm.getD 19 undef :: tm.getD 20 undef :: tm.getD 21 undef :: tm.getD 22 undef :: tm.getD 23 undef :: tm.getD 24 undef :: tm.getD 25 undef :: tm.getD 26 undef :: tm.getD 27 undef :: tm.getD 28 undef :: tm.getD 29 undef :: tm.getD 30 undef :: tm.getD 31 undef :: []).toArray = _
    rw [hx0, hx1, hx2, hx3, hx4, hx5, hx6, hx7, hx8, hx9, hx10, hx11, hx12, hx13, hx14, hx15, hx16, hx17, hx18, hx19, hx20, hx21, hx22, hx23, hx24, hx25, hx26, hx27, hx28, hx29, hx30, hx31]
  subst htm
  dsimp only
  clear hv hold hsz hx0 hx1 hx2 hx3 hx4 hx5 hx6 hx7 hx8 hx9 hx10 hx11 hx12 hx13 hx14 hx15 hx16 hx17 hx18 hx19 hx20 hx21 hx22 hx23 hx24 hx25 hx26 hx27 hx28 hx29 hx30 hx31
  go_wp2
  go_ret3
  exact ⟨x2, v1, xs, x4, rfl, ⟨by omega, by omega⟩, by omega, HX.out, ⟨by omega, by omega⟩, hs.drop0⟩

end Go.Proofs.Ytoilofcpijgaiaa
