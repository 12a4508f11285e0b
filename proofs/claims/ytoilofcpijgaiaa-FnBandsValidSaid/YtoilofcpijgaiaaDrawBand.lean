import Derived.Test.YtoilofcpijgaiaaProg
import Derived.Test.YtoilofcpijgaiaaSym
import Derived.Test.YtoilofcpijgaiaaDraw
import Derived.Test.YtoilofcpijgaiaaInts
import Derived.Test.YtoilofcpijgaiaaBand
namespace Go.Proofs.Ytoilofcpijgaiaa
open Go.RowKit

/-- bands that the call owns -/
abbrev bandP (v : Value) (xs : List (Int × Int)) : Part := ownMP 2 47 v xs.length (bC xs)
def inBd (xs : List (Int × Int)) (lo hi : Int) : Prop := ∀ i, i < xs.length → (lo ≤ bF xs i ∧ bF xs i ≤ hi) ∧ lo ≤ bL xs i ∧ bL xs i ≤ hi
theorem inBd_wide {xs : List (Int × Int)} (h : inBd xs 0 100) : inBd xs (-2) 1000 := fun i hi => by have := h i hi; omega
theorem bF_snoc {xs : List (Int × Int)} {a b : Int} {i : Nat} (hi : i < xs.length + 1) : bF (xs ++ [(a, b)]) i = if i = xs.length then a else bF xs i := by
  unfold bF
  rcases Nat.lt_or_ge i xs.length with h | h
  · simp [List.getElem?_append_left h, Nat.ne_of_lt h]
  · obtain rfl : i = xs.length := by omega
    simp
theorem bL_snoc {xs : List (Int × Int)} {a b : Int} {i : Nat} (hi : i < xs.length + 1) : bL (xs ++ [(a, b)]) i = if i = xs.length then b else bL xs i := by
  unfold bL
  rcases Nat.lt_or_ge i xs.length with h | h
  · simp [List.getElem?_append_left h, Nat.ne_of_lt h]
  · obtain rfl : i = xs.length := by omega
    simp
theorem inBd_snoc {xs : List (Int × Int)} {a b lo hi : Int} (h : inBd xs lo hi) (ha : lo ≤ a ∧ a ≤ hi) (hb : lo ≤ b ∧ b ≤ hi) : inBd (xs ++ [(a, b)]) lo hi := by
  intro i hi
  simp only [List.length_append, List.length_cons, List.length_nil] at hi
  rw [bF_snoc hi, bL_snoc hi]
  by_cases e : i = xs.length
  · simp only [e, if_true]; exact ⟨ha, hb⟩
  · simp only [e, if_false]; exact h i (by omega)
theorem bands_snoc {row : Option Nat} {w0 w : World} {I : List Part} {v : Value} {xs : List (Int × Int)} {a b : Int} (h : SH row w0 w (ownMP 2 47 v (xs.length + 1) (updC (bC xs) xs.length (rowB a b)) :: I)) : SH row w0 w (bandP v (xs ++ [(a, b)]) :: I) := by
  have h' := h.congrM (c' := bC (xs ++ [(a, b)])) (fun i j hi hj => by
    unfold updC bC rowB
    rw [bF_snoc hi, bL_snoc hi]
    by_cases e : i = xs.length <;> simp [e])
  have e : (xs ++ [(a, b)]).length = xs.length + 1 := by simp
  unfold bandP
  rw [e]; exact h'
theorem rdrP_mono2 {row : Option Nat} {w0 w : World} {I : List Part} {a : Part} {g m m' : Nat} {sv : Value} {bs : List Int} (h : SH row w0 w (a :: rdrP g m sv bs :: I)) (hm : m ≤ m') : SH row w0 w (a :: rdrP g m' sv bs :: I) := (rdrP_mono h.bring1 hm).bring1
theorem bands_set0 {row : Option Nat} {w0 w : World} {I : List Part} {v : Value} {xs : List (Int × Int)} {k : Nat} {a : Int} (h : SH row w0 w (ownMP 2 47 v xs.length (updC (bC xs) k (fun j' => if j' = 0 then .int .i64 a else bC xs k j')) :: I)) (hk : k < xs.length) : SH row w0 w (bandP v (xs.set k (a, bL xs k)) :: I) := by
  have h' := h.congrM (c' := bC (xs.set k (a, bL xs k))) (fun i j hi hj => by
    unfold updC bC bF bL
    by_cases e : i = k
    · subst e
      by_cases ej : j = 0 <;> simp [ej, hk]
    · have e' : k ≠ i := fun h => e h.symm
      simp [e, e'])
  have e : (xs.set k (a, bL xs k)).length = xs.length := by simp
  unfold bandP
  rw [e]; exact h'
theorem inBd_set0 {xs : List (Int × Int)} {k : Nat} (h : inBd xs 0 100) : inBd (xs.set k (-1, bL xs k)) (-2) 1000 := by
  intro i hi
  rw [List.length_set] at hi
  have h1 := h i hi
  by_cases e : i = k
  · subst e
    simp only [bF, bL] at h1 ⊢
    simp [hi]
    simp [hi] at h1
    omega
  · have e' : k ≠ i := fun h => e h.symm
    simp only [bF, bL] at h1 ⊢
    simp [e']
    simp at h1
    omega
/-- bands, whatever they are -/
theorem bands_any {row : Option Nat} {w0 w : World} {I : List Part} {v : Value} {xs : List (Int × Int)} (h : SH row w0 w (bandP v xs :: I)) (hx : inBd xs 0 100) : SH row w0 w (ownAnyP 2 47 v xs.length (fun j => if j = 0 then 0 else -2) (fun j => if j = 0 then 100 else 1000) :: I) :=
  h.as (q := ownAnyP 2 47 v xs.length _ _) ⟨_, h.p0, fun i j hi hj => ⟨_, rfl, by have := hx i hi; by_cases e : j = 0 <;> simp only [e, if_true, if_false] <;> omega, by have := hx i hi; by_cases e : j = 0 <;> simp only [e, if_true, if_false] <;> omega⟩⟩ (fun _ h => h) (fun _ h => h)
theorem any_bands {row : Option Nat} {w0 w : World} {I : List Part} {v : Value} {n : Nat} (h : SH row w0 w (ownAnyP 2 47 v n (fun j => if j = 0 then 0 else -2) (fun j => if j = 0 then 100 else 1000) :: I)) : ∃ xs : List (Int × Int), xs.length = n ∧ inBd xs (-2) 1000 ∧ SH row w0 w (bandP v xs :: I) := by
  obtain ⟨c, h1, h2⟩ := h.p0
  let val (x : Value) : Int := match x with | .int _ z => z | _ => 0
  refine ⟨(List.range n).map fun i => (val (c i 0), val (c i 1)), by simp, ?_, ?_⟩
  · intro i hi
    simp only [List.length_map, List.length_range] at hi
    obtain ⟨x0, e0, a0, b0⟩ := h2 i 0 hi (by decide)
    obtain ⟨x1, e1, a1, b1⟩ := h2 i 1 hi (by decide)
    simp only [bF, bL]
    simp [hi, e0, e1, val]
    simp at a0 b0 a1 b1
    omega
  · have hl : ((List.range n).map fun i => (val (c i 0), val (c i 1))).length = n := by simp
    refine h.as (q := bandP v _) ?_ (fun _ h => h) (fun _ h => h)
    show OwnM 2 w 0 _ v _ _
    rw [hl]
    refine h1.congr fun i j hi hj => ?_
    obtain ⟨x0, e0, a0, b0⟩ := h2 i 0 hi (by decide)
    obtain ⟨x1, e1, a1, b1⟩ := h2 i 1 hi (by decide)
    have : j = 0 ∨ j = 1 := by omega
    rcases this with rfl | rfl
    · simp [bC, bF, hi, e0, val]
    · simp [bC, bL, hi, e1, val]

def BandsR (row : Option Nat) (w0 : World) (g m : Nat) (sv : Value) (bs : List Int) (I : List Part) (e : Ending) (w' : World) : Prop :=
  ∃ v xs, e = .returned v ∧ xs.length ≤ 6 ∧ inBd xs (-2) 1000 ∧ SH row w0 w' (bandP v xs :: rdrP g m sv bs :: I)

set_option maxRecDepth 100000 in
set_option maxHeartbeats 4000000 in
theorem l20Bands_s (g m : Nat) (n : Int) (w : World) {row : Option Nat} {w0 : World} {I : List Part} {sv : Value} {bs : List Int} (hs : SH row w0 w (rdrP g m sv bs :: I)) (hm : m ≤ 1000000000) (hn : n ≤ 1000000) :
    Calls Try.prog 59 #[.pointer (some ⟨g, 0, none⟩), .int .i64 n] w (BandsR row w0 g (m + 60) sv bs I) := by
  go_enter Try.func59, Try.ntmps59
  go_wp2_with fail
  refine (pick_s g _ 4 _ ⟨(hs.ownEmptyM 2 (by decide) _ (bC [])).bring1, by omega⟩ (by decide)).mono ?_
  rintro e w1 ⟨at0, rfl, at0_0, at0_a, -, hs⟩
  have at0_1 := at0_a (by decide)
  clear at0_a
  go_wp2_with fail
  refine (pick_s g _ 6 _ (by first | exact ⟨hs, by omega⟩ | exact ⟨(hs).allocP1 _ _, by omega⟩ | exact ⟨((hs).allocP1 _ _).allocP1 _ _, by omega⟩ | exact ⟨(((hs).allocP1 _ _).allocP1 _ _).allocP1 _ _, by omega⟩ | exact ⟨((((hs).allocP1 _ _).allocP1 _ _).allocP1 _ _).allocP1 _ _, by omega⟩ | exact ⟨(hs).drew, by omega⟩ | exact ⟨((hs).allocP1 _ _).drew, by omega⟩ | exact ⟨(((hs).allocP1 _ _).allocP1 _ _).drew, by omega⟩ | exact ⟨((((hs).allocP1 _ _).allocP1 _ _).allocP1 _ _).drew, by omega⟩ | exact ⟨(((((hs).allocP1 _ _).allocP1 _ _).allocP1 _ _).allocP1 _ _).drew, by omega⟩ | exact ⟨(hs).drewN _, by omega⟩ | exact ⟨((hs).allocP1 _ _).drewN _, by omega⟩ | exact ⟨(((hs).allocP1 _ _).allocP1 _ _).drewN _, by omega⟩ | exact ⟨((((hs).allocP1 _ _).allocP1 _ _).allocP1 _ _).drewN _, by omega⟩ | exact ⟨(((((hs).allocP1 _ _).allocP1 _ _).allocP1 _ _).allocP1 _ _).drewN _, by omega⟩) (by decide)).mono ?_
  rintro e w2 ⟨c0, rfl, c0_0, c0_a, -, hs⟩
  have c0_1 := c0_a (by decide)
  clear c0_a
  go_wp2_with fail
  have hs0 : SH row w0 w2 (rdrP g (m + 2 + 2 * ([] : List (Int × Int)).length) sv bs :: bandP (.slice (some ⟨w.heap.size, 0, none⟩) 0 0) [] :: I) := hs
  go_loopw [5, 6, 7] (fun o a i wr => ∃ (q at1 : Int) (xs : List (Int × Int)), 0 ≤ q ∧ i = .int .i64 q ∧ a = .int .i64 at1 ∧ (xs.length : Int) + q ≤ 5 ∧ 0 ≤ at1 ∧ at1 ≤ 3 + 9 * xs.length ∧ Hid (inBd xs 0 100) ∧ SH row w0 wr (rdrP g (m + 2 + 2 * xs.length) sv bs :: bandP o xs :: I)) (fun _ _ i _ => (intOf i).toNat)
  case atStart => exact ⟨c0, at0, [], c0_0, rfl, rfl, by simp; omega, at0_0, by simp; omega, Lib.hid (fun i hi => absurd hi (by simp)), hs0⟩
  case round =>
    obtain ⟨q, at1, xs, q0, rfl, rfl, hlen, a0, a1, HX, hs⟩ := hrel
    by_cases hq : 0 < q
    · go_wp2_with fail
      refine (pick_s g _ 7 _ (by first | exact ⟨hs, by omega⟩ | exact ⟨(hs).allocP1 _ _, by omega⟩ | exact ⟨((hs).allocP1 _ _).allocP1 _ _, by omega⟩ | exact ⟨(((hs).allocP1 _ _).allocP1 _ _).allocP1 _ _, by omega⟩ | exact ⟨((((hs).allocP1 _ _).allocP1 _ _).allocP1 _ _).allocP1 _ _, by omega⟩ | exact ⟨(hs).drew, by omega⟩ | exact ⟨((hs).allocP1 _ _).drew, by omega⟩ | exact ⟨(((hs).allocP1 _ _).allocP1 _ _).drew, by omega⟩ | exact ⟨((((hs).allocP1 _ _).allocP1 _ _).allocP1 _ _).drew, by omega⟩ | exact ⟨(((((hs).allocP1 _ _).allocP1 _ _).allocP1 _ _).allocP1 _ _).drew, by omega⟩ | exact ⟨(hs).drewN _, by omega⟩ | exact ⟨((hs).allocP1 _ _).drewN _, by omega⟩ | exact ⟨(((hs).allocP1 _ _).allocP1 _ _).drewN _, by omega⟩ | exact ⟨((((hs).allocP1 _ _).allocP1 _ _).allocP1 _ _).drewN _, by omega⟩ | exact ⟨(((((hs).allocP1 _ _).allocP1 _ _).allocP1 _ _).allocP1 _ _).drewN _, by omega⟩) (by decide)).mono ?_
      rintro e w3 ⟨x, rfl, x_0, x_a, -, hs⟩
      have x_1 := x_a (by decide)
      clear x_a
      obtain ⟨ao, co, rfl, -⟩ := hs.p1.rd.form
      go_wp2_with (at_builtin; refine wp_app1MS rfl rfl 47 16 2 (.agg #[.int .i64 0, .int .i64 0]) Try.underlying43 info_band rfl (by decide) (rowB at1 (at1 + x)) rfl (hs.bring1.alloc _) rfl (fun j hj => by have : j = 0 ∨ j = 1 := (by omega); rcases this with rfl | rfl <;> exact World.cell?_alloc_at _ _ _ _ rfl) (fun j hj => by unfold rowB; rfl) (by omega) (by unfold maxLen; omega) ?_; intro v4 w4 hs)
      have hs := (bands_snoc hs).bring1
      go_wp2_with fail
      refine (pick_s g _ 3 _ (by first | exact ⟨hs, by omega⟩ | exact ⟨(hs).allocP1 _ _, by omega⟩ | exact ⟨((hs).allocP1 _ _).allocP1 _ _, by omega⟩ | exact ⟨(((hs).allocP1 _ _).allocP1 _ _).allocP1 _ _, by omega⟩ | exact ⟨((((hs).allocP1 _ _).allocP1 _ _).allocP1 _ _).allocP1 _ _, by omega⟩ | exact ⟨(hs).drew, by omega⟩ | exact ⟨((hs).allocP1 _ _).drew, by omega⟩ | exact ⟨(((hs).allocP1 _ _).allocP1 _ _).drew, by omega⟩ | exact ⟨((((hs).allocP1 _ _).allocP1 _ _).allocP1 _ _).drew, by omega⟩ | exact ⟨(((((hs).allocP1 _ _).allocP1 _ _).allocP1 _ _).allocP1 _ _).drew, by omega⟩ | exact ⟨(hs).drewN _, by omega⟩ | exact ⟨((hs).allocP1 _ _).drewN _, by omega⟩ | exact ⟨(((hs).allocP1 _ _).allocP1 _ _).drewN _, by omega⟩ | exact ⟨((((hs).allocP1 _ _).allocP1 _ _).allocP1 _ _).drewN _, by omega⟩ | exact ⟨(((((hs).allocP1 _ _).allocP1 _ _).allocP1 _ _).allocP1 _ _).drewN _, by omega⟩) (by decide)).mono ?_
      rintro e w4 ⟨y, rfl, y_0, y_a, -, hs⟩
      have y_1 := y_a (by decide)
      clear y_a
      go_wp2
      go_roundw
      case rel => exact ⟨q - 1, _, xs ++ [(at1, at1 + x)], by omega, by go_num, rfl, by simp; omega, by omega, by simp; omega, Lib.hid (inBd_snoc HX.out (by omega) (by omega)), rdrP_mono hs (by simp; omega)⟩
      case measure => simp [intOf]; omega
    obtain ⟨ao, co, rfl, -⟩ := hs.p1.rd.form
    rcases Nat.eq_zero_or_pos xs.length with hz | hz
    · have hz2 : xs.length ≤ 0 := by omega
      clear hz
      go_wp2
      go_ret
      exact ⟨_, xs, rfl, by omega, inBd_wide HX.out, (rdrP_mono hs (m' := m + 60) (by omega)).bring1⟩
    go_wp2_with fail
    refine (odd_s g _ n _ (by first | exact ⟨hs, by omega⟩ | exact ⟨(hs).allocP1 _ _, by omega⟩ | exact ⟨((hs).allocP1 _ _).allocP1 _ _, by omega⟩ | exact ⟨(((hs).allocP1 _ _).allocP1 _ _).allocP1 _ _, by omega⟩ | exact ⟨((((hs).allocP1 _ _).allocP1 _ _).allocP1 _ _).allocP1 _ _, by omega⟩ | exact ⟨(hs).drew, by omega⟩ | exact ⟨((hs).allocP1 _ _).drew, by omega⟩ | exact ⟨(((hs).allocP1 _ _).allocP1 _ _).drew, by omega⟩ | exact ⟨((((hs).allocP1 _ _).allocP1 _ _).allocP1 _ _).drew, by omega⟩ | exact ⟨(((((hs).allocP1 _ _).allocP1 _ _).allocP1 _ _).allocP1 _ _).drew, by omega⟩ | exact ⟨(hs).drewN _, by omega⟩ | exact ⟨((hs).allocP1 _ _).drewN _, by omega⟩ | exact ⟨(((hs).allocP1 _ _).allocP1 _ _).drewN _, by omega⟩ | exact ⟨((((hs).allocP1 _ _).allocP1 _ _).allocP1 _ _).drewN _, by omega⟩ | exact ⟨(((((hs).allocP1 _ _).allocP1 _ _).allocP1 _ _).allocP1 _ _).drewN _, by omega⟩) (by omega)).mono ?_
    rintro e w5 ⟨od, rfl, -, hs⟩
    cases od
    · go_wp2
      go_ret
      exact ⟨_, xs, rfl, by omega, inBd_wide HX.out, (rdrP_mono hs (m' := m + 60) (by omega)).bring1⟩
    go_wp2_with fail
    refine (pick_s g _ (xs.length : Int) _ (by first | exact ⟨hs, by omega⟩ | exact ⟨(hs).allocP1 _ _, by omega⟩ | exact ⟨((hs).allocP1 _ _).allocP1 _ _, by omega⟩ | exact ⟨(((hs).allocP1 _ _).allocP1 _ _).allocP1 _ _, by omega⟩ | exact ⟨((((hs).allocP1 _ _).allocP1 _ _).allocP1 _ _).allocP1 _ _, by omega⟩ | exact ⟨(hs).drew, by omega⟩ | exact ⟨((hs).allocP1 _ _).drew, by omega⟩ | exact ⟨(((hs).allocP1 _ _).allocP1 _ _).drew, by omega⟩ | exact ⟨((((hs).allocP1 _ _).allocP1 _ _).allocP1 _ _).drew, by omega⟩ | exact ⟨(((((hs).allocP1 _ _).allocP1 _ _).allocP1 _ _).allocP1 _ _).drew, by omega⟩ | exact ⟨(hs).drewN _, by omega⟩ | exact ⟨((hs).allocP1 _ _).drewN _, by omega⟩ | exact ⟨(((hs).allocP1 _ _).allocP1 _ _).drewN _, by omega⟩ | exact ⟨((((hs).allocP1 _ _).allocP1 _ _).allocP1 _ _).drewN _, by omega⟩ | exact ⟨(((((hs).allocP1 _ _).allocP1 _ _).allocP1 _ _).allocP1 _ _).drewN _, by omega⟩) (by omega)).mono ?_
    rintro e w6 ⟨kk, rfl, kk_0, kk_a, -, hs⟩
    have kk_1 := kk_a (by omega)
    clear kk_a
    obtain ⟨k, rfl⟩ : ∃ q : Nat, kk = (q : Int) := ⟨kk.toNat, by omega⟩
    have hkl : k < xs.length := by omega
    clear kk_0 kk_1
    go_wp2_with fail
    refine (pick_s g _ 3 _ (by first | exact ⟨hs, by omega⟩ | exact ⟨(hs).allocP1 _ _, by omega⟩ | exact ⟨((hs).allocP1 _ _).allocP1 _ _, by omega⟩ | exact ⟨(((hs).allocP1 _ _).allocP1 _ _).allocP1 _ _, by omega⟩ | exact ⟨((((hs).allocP1 _ _).allocP1 _ _).allocP1 _ _).allocP1 _ _, by omega⟩ | exact ⟨(hs).drew, by omega⟩ | exact ⟨((hs).allocP1 _ _).drew, by omega⟩ | exact ⟨(((hs).allocP1 _ _).allocP1 _ _).drew, by omega⟩ | exact ⟨((((hs).allocP1 _ _).allocP1 _ _).allocP1 _ _).drew, by omega⟩ | exact ⟨(((((hs).allocP1 _ _).allocP1 _ _).allocP1 _ _).allocP1 _ _).drew, by omega⟩ | exact ⟨(hs).drewN _, by omega⟩ | exact ⟨((hs).allocP1 _ _).drewN _, by omega⟩ | exact ⟨(((hs).allocP1 _ _).allocP1 _ _).drewN _, by omega⟩ | exact ⟨((((hs).allocP1 _ _).allocP1 _ _).allocP1 _ _).drewN _, by omega⟩ | exact ⟨(((((hs).allocP1 _ _).allocP1 _ _).allocP1 _ _).allocP1 _ _).drewN _, by omega⟩) (by decide)).mono ?_
    rintro e w7 ⟨s, rfl, s_0, s_a, -, hs⟩
    have s_1 := s_a (by decide)
    clear s_a
    obtain ⟨gB, rfl, -, hcl, hfz⟩ := OwnM.at_ hs.p1 hkl
    have hc0 : w7.cell? ⟨gB, k * 2, none⟩ = some (.int .i64 (bF xs k)) := hcl 0 (by decide)
    have hc1 : w7.cell? ⟨gB, k * 2 + 1, none⟩ = some (.int .i64 (bL xs k)) := hcl 1 (by decide)
    have hf0 := hfz (k * 2)
    clear hcl hfz
    obtain rfl | rfl | rfl : s = 0 ∨ s = 1 ∨ s = 2 := by omega
    · go_wp2_with fail
      clear hc0 hc1 hf0
      have hs := (bands_any hs.bring1 HX.out).bring1
      refine wp_region_draw [(0, Value.pointer (some { block := g, off := 0 })), (1, Value.int IntKind.i64 n), (4, Value.slice none 0 0), (5, Value.slice (some { block := gB, off := 0 }) xs.length co), (6, Value.int IntKind.i64 at1), (7, Value.int IntKind.i64 q), (8, u8), (9, Value.int IntKind.i64 ↑k), (10, Value.slice (some { block := w.heap.size, off := 0 }) 0 0), (11, Value.pointer (some { block := g, off := 0 })), (12, Value.int IntKind.i64 at0), (13, Value.pointer (some { block := g, off := 0 })), (14, Value.int IntKind.i64 c0), (15, Value.int IntKind.i64 q), (16, Value.bool false), (17, u17), (18, u18), (19, u19), (20, u20), (21, u21), (22, u22), (23, u23), (24, u24), (25, u25), (26, u26), (27, u27), (28, u28), (29, u29), (30, u30), (31, u31), (32, u32), (33, u33), (34, u34), (35, u35), (36, Value.slice (some { block := gB, off := 0 }) xs.length co), (37, Value.int IntKind.i64 ↑xs.length), (38, Value.bool true), (39, Value.bool true), (40, Value.pointer (some { block := g, off := 0 })), (41, Value.int IntKind.i64 n), (42, Value.bool true), (43, Value.bool true), (44, Value.pointer (some { block := g, off := 0 })), (45, Value.slice (some { block := gB, off := 0 }) xs.length co), (46, Value.int IntKind.i64 ↑xs.length), (47, Value.int IntKind.i64 ↑k), (48, Value.pointer (some { block := g, off := 0 })), (49, Value.int IntKind.i64 0), (57, Value.bool true), (58, Value.bool true)]
        [.any, .any, .any, .any, .any, .any, .any, .any, .any, .any, .any, .any, .any, .any, .any, .any, .any, .any, .any, .any, .any, .any, .any, .any, .any, .any, .any, .any, .any, .any, .any, .any, .any, .any, .any, .any, .any, .any, .any, .any, .any, .any, .any, .any, .any, .any, .any, .any, .any, .any, .any, .any, .any, .any, .any, .any, .any, .any, .any, .val (Value.slice (some { block := gB, off := 0 }) xs.length co), .val (Value.int IntKind.i64 ↑k), .val (Value.slice (some { block := gB, off := 0 }) xs.length co), .val (Value.int IntKind.i64 ↑k), .val (.pointer (some ⟨gB, k * 2, none⟩)), .val (.pointer (some ⟨gB, k * 2 + 0, none⟩)), .int 0 100, .int (-1) 99, .lit 2 (-1) 99, .val (Value.pointer (some { block := g, off := 0 })), .int 0 1, .adr (-1) 99, .int (-1) 99, .val (.pointer (some ⟨gB, k * 2, none⟩)), .val (.pointer (some ⟨gB, k * 2 + 1, none⟩)), .any, .any, .any, .any, .any, .any, .any]
        [[5], [9], [5], [9], [61, 62], [63], [64], [65], [66], [0], [68], [67, 69], [70], [59, 60], [72], [73, 71]]
        16 (by kernel_rfl) (by kernel_rfl) (by kernel_rfl) (by kernel_rfl) (by simp only [List.forall_mem_cons]; exact ⟨rfl, rfl, rfl, rfl, rfl, rfl, rfl, rfl, rfl, rfl, rfl, rfl, rfl, rfl, rfl, rfl, rfl, rfl, rfl, rfl, rfl, rfl, rfl, rfl, rfl, rfl, rfl, rfl, rfl, rfl, rfl, rfl, rfl, rfl, rfl, rfl, rfl, rfl, rfl, rfl, rfl, rfl, rfl, rfl, rfl, rfl, rfl, rfl, rfl, rfl,  fun _ h => by cases h⟩) (by first | exact ⟨hs, by omega⟩ | exact ⟨(hs).alloc _, by omega⟩ | exact ⟨((hs).alloc _).alloc _, by omega⟩ | exact ⟨(((hs).alloc _).alloc _).alloc _, by omega⟩ | exact ⟨((((hs).alloc _).alloc _).alloc _).alloc _, by omega⟩ | exact ⟨(hs).drew, by omega⟩ | exact ⟨((hs).alloc _).drew, by omega⟩ | exact ⟨(((hs).alloc _).alloc _).drew, by omega⟩ | exact ⟨((((hs).alloc _).alloc _).alloc _).drew, by omega⟩ | exact ⟨(((((hs).alloc _).alloc _).alloc _).alloc _).drew, by omega⟩ | exact ⟨(hs).drewN _, by omega⟩ | exact ⟨((hs).alloc _).drewN _, by omega⟩ | exact ⟨(((hs).alloc _).alloc _).drewN _, by omega⟩ | exact ⟨((((hs).alloc _).alloc _).alloc _).drewN _, by omega⟩ | exact ⟨(((((hs).alloc _).alloc _).alloc _).alloc _).drewN _, by omega⟩) ?_ ?_
      · exact ⟨ok_move 59 rfl (.inl rfl) (opOK_tmp rfl rfl),
          ok_move 60 rfl (.inl rfl) (opOK_tmp rfl rfl),
          ok_move 61 rfl (.inl rfl) (opOK_tmp rfl rfl),
          ok_move 62 rfl (.inl rfl) (opOK_tmp rfl rfl),
          ok_idxv gB xs.length co (k) 2 63 rfl rfl (opOK_tmp rfl rfl) (opOK_tmp rfl rfl) rfl (hkl) (by kernel_rfl) (fun _ => by kernel_rfl),
          ok_fieldv 0 gB (k * 2) 0 64 rfl rfl (opOK_tmp rfl rfl) rfl (fun _ => by first | kernel_rfl | go_simp),
          ok_loadv (m := 2) (k := k) (j := 0) gB (k * 2 + 0) (fun j => if j = 0 then 0 else (-2)) (fun j => if j = 0 then 100 else 1000) 65 rfl rfl (opOK_tmp rfl rfl) rfl (List.mem_cons_self ..) (hkl) (by decide) rfl,
          ok_sub 0 100 1 1 (-1) 99 66 rfl rfl (opOK_tmp rfl rfl) opOK_int rfl (by decide),
          ok_build 2 (-1) 99 [.tmp 66, .const (.int .i64 64)] 67 rfl rfl rfl rfl (by decide) (by simp only [List.forall_mem_cons]; exact ⟨(opOK_tmp rfl rfl), (opOK_wide (lo := 64) (hi := 64) opOK_int (by decide) (by decide)), fun _ h => by cases h⟩) rfl,
          ok_move 68 rfl (.inl rfl) (opOK_tmp rfl rfl),
          ok_pick 2 2 69 rfl rfl (opOK_tmp rfl rfl) opOK_int (by decide) rfl,
          ok_index 2 (-1) 99 0 1 70 rfl rfl (opOK_tmp rfl rfl) (opOK_tmp rfl rfl) rfl (by decide),
          ok_load (-1) 99 71 rfl rfl (opOK_tmp rfl rfl) rfl,
          ok_idxv gB xs.length co (k) 2 72 rfl rfl (opOK_tmp rfl rfl) (opOK_tmp rfl rfl) rfl (hkl) (by kernel_rfl) (fun _ => by kernel_rfl),
          ok_fieldv 1 gB (k * 2) 1 73 rfl rfl (opOK_tmp rfl rfl) rfl (fun _ => by first | kernel_rfl | go_simp),
          ok_storev (m := 2) (k := k) (j := 1) gB (k * 2 + 1) (fun j => if j = 0 then 0 else (-2)) (fun j => if j = 0 then 100 else 1000) (-1) 99 rfl rfl (opOK_tmp rfl rfl) (opOK_tmp rfl rfl) (List.mem_cons_self ..) (hkl) (by decide) rfl (by decide), trivial⟩
      rintro tm wq ⟨L, hv⟩ hold hsz hs
      have hx0 : tm.getD 0 undef = Value.pointer (some { block := g, off := 0 }) := hold 0 (by kernel_rfl)
      have hx1 : tm.getD 1 undef = Value.int IntKind.i64 n := hold 1 (by kernel_rfl)
      have hx2 : tm.getD 2 undef = undef := hold 2 (by kernel_rfl)
      have hx3 : tm.getD 3 undef = undef := hold 3 (by kernel_rfl)
      have hx4 : tm.getD 4 undef = Value.slice none 0 0 := hold 4 (by kernel_rfl)
      have hx5 : tm.getD 5 undef = Value.slice (some { block := gB, off := 0 }) xs.length co := hold 5 (by kernel_rfl)
      have hx6 : tm.getD 6 undef = Value.int IntKind.i64 at1 := hold 6 (by kernel_rfl)
      have hx7 : tm.getD 7 undef = Value.int IntKind.i64 q := hold 7 (by kernel_rfl)
      have hx8 : tm.getD 8 undef = u8 := hold 8 (by kernel_rfl)
      have hx9 : tm.getD 9 undef = Value.int IntKind.i64 ↑k := hold 9 (by kernel_rfl)
      have hx10 : tm.getD 10 undef = Value.slice (some { block := w.heap.size, off := 0 }) 0 0 := hold 10 (by kernel_rfl)
      have hx11 : tm.getD 11 undef = Value.pointer (some { block := g, off := 0 }) := hold 11 (by kernel_rfl)
      have hx12 : tm.getD 12 undef = Value.int IntKind.i64 at0 := hold 12 (by kernel_rfl)
      have hx13 : tm.getD 13 undef = Value.pointer (some { block := g, off := 0 }) := hold 13 (by kernel_rfl)
      have hx14 : tm.getD 14 undef = Value.int IntKind.i64 c0 := hold 14 (by kernel_rfl)
      have hx15 : tm.getD 15 undef = Value.int IntKind.i64 q := hold 15 (by kernel_rfl)
      have hx16 : tm.getD 16 undef = Value.bool false := hold 16 (by kernel_rfl)
      have hx17 : tm.getD 17 undef = u17 := hold 17 (by kernel_rfl)
      have hx18 : tm.getD 18 undef = u18 := hold 18 (by kernel_rfl)
      have hx19 : tm.getD 19 undef = u19 := hold 19 (by kernel_rfl)
      have hx20 : tm.getD 20 undef = u20 := hold 20 (by kernel_rfl)
      have hx21 : tm.getD 21 undef = u21 := hold 21 (by kernel_rfl)
      have hx22 : tm.getD 22 undef = u22 := hold 22 (by kernel_rfl)
      have hx23 : tm.getD 23 undef = u23 := hold 23 (by kernel_rfl)
      have hx24 : tm.getD 24 undef = u24 := hold 24 (by kernel_rfl)
      have hx25 : tm.getD 25 undef = u25 := hold 25 (by kernel_rfl)
      have hx26 : tm.getD 26 undef = u26 := hold 26 (by kernel_rfl)
      have hx27 : tm.getD 27 undef = u27 := hold 27 (by kernel_rfl)
      have hx28 : tm.getD 28 undef = u28 := hold 28 (by kernel_rfl)
      have hx29 : tm.getD 29 undef = u29 := hold 29 (by kernel_rfl)
      have hx30 : tm.getD 30 undef = u30 := hold 30 (by kernel_rfl)
      have hx31 : tm.getD 31 undef = u31 := hold 31 (by kernel_rfl)
      have hx32 : tm.getD 32 undef = u32 := hold 32 (by kernel_rfl)
      have hx33 : tm.getD 33 undef = u33 := hold 33 (by kernel_rfl)
      have hx34 : tm.getD 34 undef = u34 := hold 34 (by kernel_rfl)
      have hx35 : tm.getD 35 undef = u35 := hold 35 (by kernel_rfl)
      have hx36 : tm.getD 36 undef = Value.slice (some { block := gB, off := 0 }) xs.length co := hold 36 (by kernel_rfl)
      have hx37 : tm.getD 37 undef = Value.int IntKind.i64 ↑xs.length := hold 37 (by kernel_rfl)
      have hx38 : tm.getD 38 undef = Value.bool true := hold 38 (by kernel_rfl)
      have hx39 : tm.getD 39 undef = Value.bool true := hold 39 (by kernel_rfl)
      have hx40 : tm.getD 40 undef = Value.pointer (some { block := g, off := 0 }) := hold 40 (by kernel_rfl)
      have hx41 : tm.getD 41 undef = Value.int IntKind.i64 n := hold 41 (by kernel_rfl)
      have hx42 : tm.getD 42 undef = Value.bool true := hold 42 (by kernel_rfl)
      have hx43 : tm.getD 43 undef = Value.bool true := hold 43 (by kernel_rfl)
      have hx44 : tm.getD 44 undef = Value.pointer (some { block := g, off := 0 }) := hold 44 (by kernel_rfl)
      have hx45 : tm.getD 45 undef = Value.slice (some { block := gB, off := 0 }) xs.length co := hold 45 (by kernel_rfl)
      have hx46 : tm.getD 46 undef = Value.int IntKind.i64 ↑xs.length := hold 46 (by kernel_rfl)
      have hx47 : tm.getD 47 undef = Value.int IntKind.i64 ↑k := hold 47 (by kernel_rfl)
      have hx48 : tm.getD 48 undef = Value.pointer (some { block := g, off := 0 }) := hold 48 (by kernel_rfl)
      have hx49 : tm.getD 49 undef = Value.int IntKind.i64 0 := hold 49 (by kernel_rfl)
      have hx50 : tm.getD 50 undef = undef := hold 50 (by kernel_rfl)
      have hx51 : tm.getD 51 undef = undef := hold 51 (by kernel_rfl)
      have hx52 : tm.getD 52 undef = undef := hold 52 (by kernel_rfl)
      have hx53 : tm.getD 53 undef = undef := hold 53 (by kernel_rfl)
      have hx54 : tm.getD 54 undef = undef := hold 54 (by kernel_rfl)
      have hx55 : tm.getD 55 undef = undef := hold 55 (by kernel_rfl)
      have hx56 : tm.getD 56 undef = undef := hold 56 (by kernel_rfl)
      have hx57 : tm.getD 57 undef = Value.bool true := hold 57 (by kernel_rfl)
      have hx58 : tm.getD 58 undef = Value.bool true := hold 58 (by kernel_rfl)
      have hx59 : tm.getD 59 undef = Value.slice (some { block := gB, off := 0 }) xs.length co := hv 59 (show 59 < 81 by decide) (by kernel_rfl)
      have hx60 : tm.getD 60 undef = Value.int IntKind.i64 ↑k := hv 60 (show 60 < 81 by decide) (by kernel_rfl)
      have hx61 : tm.getD 61 undef = Value.slice (some { block := gB, off := 0 }) xs.length co := hv 61 (show 61 < 81 by decide) (by kernel_rfl)
      have hx62 : tm.getD 62 undef = Value.int IntKind.i64 ↑k := hv 62 (show 62 < 81 by decide) (by kernel_rfl)
      have hx63 : tm.getD 63 undef = .pointer (some ⟨gB, k * 2, none⟩) := hv 63 (show 63 < 81 by decide) (by kernel_rfl)
      have hx64 : tm.getD 64 undef = .pointer (some ⟨gB, k * 2 + 0, none⟩) := hv 64 (show 64 < 81 by decide) (by kernel_rfl)
      obtain ⟨x65, hx65⟩ : ∃ x, tm.getD 65 undef = x := ⟨_, rfl⟩
      obtain ⟨x66, hx66⟩ : ∃ x, tm.getD 66 undef = x := ⟨_, rfl⟩
      obtain ⟨x67, hx67⟩ : ∃ x, tm.getD 67 undef = x := ⟨_, rfl⟩
      have hx68 : tm.getD 68 undef = Value.pointer (some { block := g, off := 0 }) := hv 68 (show 68 < 81 by decide) (by kernel_rfl)
      obtain ⟨x69, hx69⟩ : ∃ x, tm.getD 69 undef = x := ⟨_, rfl⟩
      obtain ⟨x70, hx70⟩ : ∃ x, tm.getD 70 undef = x := ⟨_, rfl⟩
      obtain ⟨x71, hx71⟩ : ∃ x, tm.getD 71 undef = x := ⟨_, rfl⟩
      have hx72 : tm.getD 72 undef = .pointer (some ⟨gB, k * 2, none⟩) := hv 72 (show 72 < 81 by decide) (by kernel_rfl)
      have hx73 : tm.getD 73 undef = .pointer (some ⟨gB, k * 2 + 1, none⟩) := hv 73 (show 73 < 81 by decide) (by kernel_rfl)
      have hx74 : tm.getD 74 undef = undef := hold 74 (by kernel_rfl)
      have hx75 : tm.getD 75 undef = undef := hold 75 (by kernel_rfl)
      have hx76 : tm.getD 76 undef = undef := hold 76 (by kernel_rfl)
      have hx77 : tm.getD 77 undef = undef := hold 77 (by kernel_rfl)
      have hx78 : tm.getD 78 undef = undef := hold 78 (by kernel_rfl)
      have hx79 : tm.getD 79 undef = undef := hold 79 (by kernel_rfl)
      have hx80 : tm.getD 80 undef = undef := hold 80 (by kernel_rfl)
      have htm : tm = (Value.pointer (some { block := g, off := 0 }) :: Value.int IntKind.i64 n :: undef :: undef :: Value.slice none 0 0 :: Value.slice (some { block := gB, off := 0 }) xs.length co :: Value.int IntKind.i64 at1 :: Value.int IntKind.i64 q :: u8 :: Value.int IntKind.i64 ↑k :: Value.slice (some { block := w.heap.size, off := 0 }) 0 0 :: Value.pointer (some { block := g, off := 0 }) :: Value.int IntKind.i64 at0 :: Value.pointer (some { block := g, off := 0 }) :: Value.int IntKind.i64 c0 :: Value.int IntKind.i64 q :: Value.bool false :: u17 :: u18 :: u19 :: u20 :: u21 :: u22 :: u23 :: u24 :: u25 :: u26 :: u27 :: u28 :: u29 :: u30 :: u31 :: u32 :: u33 :: u34 :: u35 :: Value.slice (some { block := gB, off := 0 }) xs.length co :: Value.int IntKind.i64 ↑xs.length :: Value.bool true :: Value.bool true :: Value.pointer (some { block := g, off := 0 }) :: Value.int IntKind.i64 n :: Value.bool true :: Value.bool true :: Value.pointer (some { block := g, off := 0 }) :: Value.slice (some { block := gB, off := 0 }) xs.length co :: Value.int IntKind.i64 ↑xs.length :: Value.int IntKind.i64 ↑k :: Value.pointer (some { block := g, off := 0 }) :: Value.int IntKind.i64 0 :: undef :: undef :: undef :: undef :: undef :: undef :: undef :: Value.bool true :: Value.bool true :: Value.slice (some { block := gB, off := 0 }) xs.length co :: Value.int IntKind.i64 ↑k :: Value.slice (some { block := gB, off := 0 }) xs.length co :: Value.int IntKind.i64 ↑k :: .pointer (some ⟨gB, k * 2, none⟩) :: .pointer (some ⟨gB, k * 2 + 0, none⟩) :: x65 :: x66 :: x67 :: Value.pointer (some { block := g, off := 0 }) :: x69 :: x70 :: x71 :: .pointer (some ⟨gB, k * 2, none⟩) :: .pointer (some ⟨gB, k * 2 + 1, none⟩) :: undef :: undef :: undef :: undef :: undef :: undef :: undef :: []).toArray := by
        refine (arr_eq tm hsz).trans ?_
        show (tm.getD 0 undef :: tm.getD 1 undef :: tm.getD 2 undef :: tm.getD 3 undef :: tm.getD 4 undef :: tm.getD 5 undef :: tm.getD 6 undef :: tm.getD 7 undef :: tm.getD 8 undef :: tm.getD 9 undef :: tm.getD 10 undef :: tm.getD 11 undef :: tm.getD 12 undef :: tm.getD 13 undef :: tm.getD 14 undef :: tm.getD 15 undef :: tm.getD 16 undef :: tm.getD 17 undef :: tm.getD 18 undef :: tm.getD 19 undef :: tm.getD 20 undef :: tm.getD 21 undef :: tm.getD 22 undef :: tm.getD 23 undef :: tm.getD 24 undef :: tm.getD 25 undef :: tm.getD 26 undef :: tm.getD 27 undef :: tm.getD 28 undef :: tm.getD 29 undef :: tm.getD 30 undef :: tm.getD 31 undef :: tm.getD 32 undef :: tm.getD 33 undef :: tm.getD 34 undef :: tm.getD 35 undef :: tm.getD 36 undef :: tm.getD 37 undef :: tm.getD 38 undef :: tm.getD 39 undef :: tm.getD 40 undef :: tm.getD 41 undef :: tm.getD 42 undef :: tm.getD 43 undef :: tm.getD 44 undef :: tm.getD 45 undef :: tm.getD 46 undef :: tm.getD 47 undef :: tm.getD 48 undef :: tm.getD 49 undef :: tm.getD 50 undef :: tm.getD 51 undef :: tm.getD 52 undef :: tm.getD 53 undef :: tm.getD 54 undef :: tm.getD 55 undef :: tm.getD 56 undef :: tm.getD 57 undef :: tm.getD 58 undef :: tm.getD 59 undef :: tm.getD 60 undef :: tm.getD 61 undef :: tm.getD 62 undef :: tm.getD 63 undef :: tm.getD 64 undef :: tm.getD 65 undef :: tm.getD 66 undef :: tm.getD 67 undef :: tm.getD 68 undef :: tm.getD 69 undef :: tm.getD 70 undef :: tm.getD 71 undef :: tm.getD 72 undef :: tm.getD 73 undef :: tm.getD 74 undef :: tm.getD 75 undef :: tm.getD 76 undef :: tm.getD 77 undef :: tm.getD 78 undef :: tm.getD 79 undef :: tm.getD 80 undef :: []).toArray = _
        rw [hx0, hx1, hx2, hx3, hx4, hx5, hx6, hx7, hx8, hx9, hx10, hx11, hx12, hx13, hx14, hx15, hx16, hx17, hx18, hx19, hx20, hx21, hx22, hx23, hx24, hx25, hx26, hx27, hx28, hx29, hx30, hx31, hx32, hx33, hx34, hx35, hx36, hx37, hx38, hx39, hx40, hx41, hx42, hx43, hx44, hx45, hx46, hx47, hx48, hx49, hx50, hx51, hx52, hx53, hx54, hx55, hx56, hx57, hx58, hx59, hx60, hx61, hx62, hx63, hx64, hx65, hx66, hx67, hx68, hx69, hx70, hx71, hx72, hx73, hx74, hx75, hx76, hx77, hx78, hx79, hx80]
      subst htm
      dsimp only
      clear hv hold hsz hx0 hx1 hx2 hx3 hx4 hx5 hx6 hx7 hx8 hx9 hx10 hx11 hx12 hx13 hx14 hx15 hx16 hx17 hx18 hx19 hx20 hx21 hx22 hx23 hx24 hx25 hx26 hx27 hx28 hx29 hx30 hx31 hx32 hx33 hx34 hx35 hx36 hx37 hx38 hx39 hx40 hx41 hx42 hx43 hx44 hx45 hx46 hx47 hx48 hx49 hx50 hx51 hx52 hx53 hx54 hx55 hx56 hx57 hx58 hx59 hx60 hx61 hx62 hx63 hx64 hx65 hx66 hx67 hx68 hx69 hx70 hx71 hx72 hx73 hx74 hx75 hx76 hx77 hx78 hx79 hx80
      obtain ⟨ys, hyl, hY, hs⟩ := any_bands hs.bring1
      go_wp2
      go_ret
      exact ⟨_, ys, rfl, by omega, hY, rdrP_mono2 hs (by omega)⟩
    · go_wp2
      go_ret
      refine ⟨_, _, rfl, ?_, inBd_set0 (k := k) HX.out, rdrP_mono2 (bands_set0 (SH.setOwnM (j := 0) hs.bring1 hkl (by decide) _) hkl) (by omega)⟩
      rw [List.length_set]; omega
    · go_wp2_with (at_builtin; refine wp_app1MS rfl rfl 47 16 2 (.agg #[.int .i64 0, .int .i64 0]) Try.underlying43 info_band rfl (by decide) (rowB (bF xs k) (bL xs k)) rfl (hs.bring1.alloc _) rfl (fun j hj => by have : j = 0 ∨ j = 1 := (by omega); rcases this with rfl | rfl <;> exact World.cell?_alloc_at _ _ _ _ rfl) (fun j hj => by unfold rowB; rfl) (by omega) (by unfold maxLen; omega) ?_; intro v9 w9 hs)
      have hs := bands_snoc hs
      have hkb := HX.out k hkl
      go_wp2
      go_ret
      refine ⟨_, _, rfl, ?_, inBd_wide (inBd_snoc HX.out ⟨by omega, by omega⟩ ⟨by omega, by omega⟩), rdrP_mono2 hs (by omega)⟩
      simp; omega

end Go.Proofs.Ytoilofcpijgaiaa
