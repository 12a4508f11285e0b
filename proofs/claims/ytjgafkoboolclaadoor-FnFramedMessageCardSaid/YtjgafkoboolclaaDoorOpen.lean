import Derived.Test.YtjgafkoboolclaaDoorLib
import Derived.Test.YtjgafkoboolclaaDoorMem
import Derived.Deep.Slices
import Derived.Lib.SmallJoins
namespace Go.Proofs.YtjgafkoboolclaaDoor
open Go.RowKit Go.Deep Go.ChangeShapes Go.WideShapes Go.Joins

theorem mapM_get {α : Type} {f : Nat → Option α} : ∀ (l : List Nat) (cs : List α), l.mapM f = some cs → cs.length = l.length ∧ ∀ j (h : j < l.length), f l[j] = cs[j]?
  | [], cs, h => by simp at h; subst h; simp
  | x :: l, cs, h => by
    rw [List.mapM_cons] at h
    cases hx : f x with
    | none => simp [hx] at h
    | some y =>
      cases hl : l.mapM f with
      | none => simp [hx, hl] at h
      | some ys =>
        simp [hx, hl] at h
        subst h
        obtain ⟨h1, h2⟩ := mapM_get l ys hl
        refine ⟨by simp [h1], fun j hj => ?_⟩
        cases j with
        | zero => simpa using hx
        | succ j => simpa using h2 j (by simpa using hj)

theorem cells_get {w : World} {a : Addr} {n : Nat} {cs : List Value} (h : w.cells? 0 a n = some cs) : cs.length = n ∧ ∀ j, j < n → w.cell? (a.add j) = cs[j]? := by
  unfold World.cells? at h
  rw [if_pos (Nat.zero_le _)] at h
  obtain ⟨h1, h2⟩ := mapM_get _ _ h
  simp only [List.length_range] at h1 h2
  exact ⟨h1, fun j hj => by simpa using h2 j hj⟩

/-- A slice of elements of m cells, whose every element is told by q. -/
theorem rdM_of_trod {H : Type} {enc : TypeId × Value → H} {P : Program} {w : World} {spare : Nat → Bool} {held : Bool} {r : Reach} {bs : Nat} {t e m : Nat} {v : Value} {d : DataW H} {p : List MemPlace}
    (ht : P.underlying t = some (.slice e)) (hce : P.cellsOf e = m) (hm : 0 < m) (hv : Value.okWide P w r bs t v) (h : DataW.Trod enc P w 0 spare held t v d p)
    (Q : (Nat → Value) → Prop) (hQ : ∀ n cs x, DataW.trod enc P w 0 spare held n e cs = some x → ∃ f : Nat → Value, Q f ∧ ∀ j, j < m → cs[j]? = some (f j)) :
    ∃ (n : Nat) (c : Nat → Nat → Value), RdM m w v n c ∧ ∀ i, i < n → Q (c i) := by
  obtain ⟨a, len, cap, rfl⟩ := okWide_slice ht hv
  obtain ⟨fuel, hf⟩ := h
  rcases open_slice ht hf with ⟨hcs, _⟩ | ⟨x, l, cp, k, n, D, Pl, hcs, _, hl, hmx, hk, _, hx⟩
  · simp [Value.cells] at hcs
    obtain ⟨rfl, rfl, rfl⟩ := hcs
    exact ⟨0, fun _ _ => undef, RdM.ofNil m w _, fun i hi => absurd hi (Nat.not_lt_zero _)⟩
  · simp [Value.cells] at hcs
    obtain ⟨rfl, rfl, rfl⟩ := hcs
    have hlk : len ≤ k := by rw [hk]; split <;> omega
    have each : ∀ i, i < len → ∃ f : Nat → Value, Q f ∧ ∀ j, j < m → w.cell? ((x.add (i * m)).add j) = some (f j) := by
      intro i hi
      obtain ⟨cs', h1, h2⟩ := hx i (by omega)
      rw [hce] at h1
      obtain ⟨h3, h4⟩ := cells_get h1
      obtain ⟨f, hf1, hf2⟩ := hQ _ _ _ h2
      exact ⟨f, hf1, fun j hj => by rw [h4 j hj, hf2 j hj]⟩
    obtain ⟨c, hc⟩ := choose_lt each
    refine ⟨len, c, ⟨some x, cap, rfl, hl, hmx, fun i hi => ?_⟩, fun i hi => (hc i hi).1⟩
    obtain ⟨b, off, spot⟩ := x
    have hs : spot = none := by
      have h0 := (hc 0 (by omega)).2 0 hm
      cases spot with
      | none => rfl
      | some q => simp only [Addr.add, Nat.zero_mul, if_true, World.cell?] at h0; split at h0 <;> simp at h0
    subst hs
    refine ⟨b, off, rfl, fun j hj => ?_⟩
    have h1 := (hc i hi).2 j hj
    have e1 : ((⟨b, off, none⟩ : Addr).add (i * m)).add j = ⟨b, off + i * m + j, none⟩ := by
      unfold Addr.add
      by_cases h1 : i * m = 0 <;> by_cases h2 : j = 0 <;> simp [h1, h2]
    rw [e1] at h1
    exact h1

/-- a struct of two numbers -/
def isInts2 (f : Nat → Value) : Prop := ∃ a b : Int, f 0 = .int .i64 a ∧ f 1 = .int .i64 b ∧ (Lit.int .i64 a).wf = true ∧ (Lit.int .i64 b).wf = true

theorem ints2_of_trod {H : Type} {enc : TypeId × Value → H} {P : Program} {w : World} {spare : Nat → Bool} {held : Bool} {e : TypeId} {f0 f1 : Field} {n : Nat} {cs : List Value} {x : DataW H × List MemPlace}
    (he : P.underlying e = some (.struct #[f0, f1])) (o0 : f0.offset = 0) (o1 : f1.offset = 1) (c0 : P.cellsOf f0.type = 1) (c1 : P.cellsOf f1.type = 1) (hC : P.cellsOf e = 2)
    (h0 : P.underlying f0.type = some (.int .i64)) (h1 : P.underlying f1.type = some (.int .i64))
    (h : DataW.trod enc P w 0 spare held n e cs = some x) : ∃ f : Nat → Value, isInts2 f ∧ ∀ j, j < 2 → cs[j]? = some (f j) := by
  obtain ⟨y0, y1, m, _, hl, t0, t1⟩ := trod_struct2 he h
  rw [hC] at hl
  rw [o0, c0] at t0
  rw [o1, c1] at t1
  match cs, hl with
  | [v0, v1], _ =>
    simp only [List.drop_zero, List.take_succ_cons, List.take_zero, List.drop_succ_cons] at t0 t1
    obtain ⟨a, e0, _, w0⟩ := DataW.trod_int h0 t0
    obtain ⟨b, e1, _, w1⟩ := DataW.trod_int h1 t1
    simp only [List.cons.injEq, and_true] at e0 e1
    subst e0 e1
    refine ⟨fun j => if j = 0 then .int .i64 a else .int .i64 b, ⟨a, b, rfl, rfl, w0, w1⟩, fun j hj => ?_⟩
    have : j = 0 ∨ j = 1 := by omega
    rcases this with rfl | rfl <;> rfl

/-- a struct of four numbers -/
def isInts4 (f : Nat → Value) : Prop := ∃ a b c d : Int, f 0 = .int .i64 a ∧ f 1 = .int .i64 b ∧ f 2 = .int .i64 c ∧ f 3 = .int .i64 d

theorem ints4_of_trod {H : Type} {enc : TypeId × Value → H} {P : Program} {w : World} {spare : Nat → Bool} {held : Bool} {e : TypeId} {f0 f1 f2 f3 : Field} {n : Nat} {cs : List Value} {x : DataW H × List MemPlace}
    (he : P.underlying e = some (.struct #[f0, f1, f2, f3])) (o0 : f0.offset = 0) (o1 : f1.offset = 1) (o2 : f2.offset = 2) (o3 : f3.offset = 3)
    (c0 : P.cellsOf f0.type = 1) (c1 : P.cellsOf f1.type = 1) (c2 : P.cellsOf f2.type = 1) (c3 : P.cellsOf f3.type = 1) (hC : P.cellsOf e = 4)
    (h0 : P.underlying f0.type = some (.int .i64)) (h1 : P.underlying f1.type = some (.int .i64)) (h2 : P.underlying f2.type = some (.int .i64)) (h3 : P.underlying f3.type = some (.int .i64))
    (h : DataW.trod enc P w 0 spare held n e cs = some x) : ∃ f : Nat → Value, isInts4 f ∧ ∀ j, j < 4 → cs[j]? = some (f j) := by
  obtain ⟨y0, y1, y2, y3, m, _, hl, t0, t1, t2, t3⟩ := trod_struct4 he h
  rw [hC] at hl
  rw [o0, c0] at t0
  rw [o1, c1] at t1
  rw [o2, c2] at t2
  rw [o3, c3] at t3
  match cs, hl with
  | [v0, v1, v2, v3], _ =>
    simp only [List.drop_zero, List.take_succ_cons, List.take_zero, List.drop_succ_cons] at t0 t1 t2 t3
    obtain ⟨a, e0, _, _⟩ := DataW.trod_int h0 t0
    obtain ⟨b, e1, _, _⟩ := DataW.trod_int h1 t1
    obtain ⟨c, e2, _, _⟩ := DataW.trod_int h2 t2
    obtain ⟨d, e3, _, _⟩ := DataW.trod_int h3 t3
    simp only [List.cons.injEq, and_true] at e0 e1 e2 e3
    subst e0 e1 e2 e3
    refine ⟨fun j => if j = 0 then .int .i64 a else if j = 1 then .int .i64 b else if j = 2 then .int .i64 c else .int .i64 d, ⟨a, b, c, d, rfl, rfl, rfl, rfl⟩, fun j hj => ?_⟩
    have : j = 0 ∨ j = 1 ∨ j = 2 ∨ j = 3 := by omega
    rcases this with rfl | rfl | rfl | rfl <;> rfl

end Go.Proofs.YtjgafkoboolclaaDoor
