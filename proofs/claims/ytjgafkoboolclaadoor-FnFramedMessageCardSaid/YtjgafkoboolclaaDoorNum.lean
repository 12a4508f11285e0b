import Derived.Test.YtjgafkoboolclaaDoorProg
import Derived.Test.YtjgafkoboolclaaDoorLib
namespace Go.Proofs.YtjgafkoboolclaaDoor
open Go.RowKit

/-- in lo..hi -/
def inB (n lo hi : Int) : Bool := decide (lo ≤ n) && decide (n ≤ hi)
theorem inB_true {n lo hi : Int} : inB n lo hi = true ↔ lo ≤ n ∧ n ≤ hi := by simp [inB]
theorem inB_false {n lo hi : Int} : inB n lo hi = false ↔ ¬ (lo ≤ n ∧ n ≤ hi) := by
  rw [← inB_true]; simp

theorem wf_i64 {n : Int} (h : (Lit.int .i64 n).wf = true) : -9223372036854775808 ≤ n ∧ n ≤ 9223372036854775807 := by
  simp only [Lit.wf, IntKind.min, IntKind.max, IntKind.signed, IntKind.bits, Bool.and_eq_true, decide_eq_true_eq] at h
  simp at h
  omega

def clampI (n lo hi : Int) : Int := min (max n lo) hi
def clipI (n lo hi : Int) : Int := max lo (min hi n)
theorem clamp_eq_clip {n lo hi : Int} (h : lo ≤ hi) : clampI n lo hi = clipI n lo hi := by unfold clampI clipI; omega

theorem alloc_below {w w' : World} {c : Array Value} {t : TypeId} (h : Below (w.heap.size + 1) (w.alloc (.cells c t)) w') (i : Nat) : w'.cell? ⟨w.heap.size, i, none⟩ = c[i]? := by
  rw [h.cell (p := ⟨w.heap.size, i, none⟩) (Nat.lt_succ_self _)]
  exact World.cell?_alloc_at _ _ _ _ rfl

theorem below_of_alloc {w w' : World} {o : Obj} (h : Below (w.alloc o).heap.size (w.alloc o) w') : Below w.heap.size w w' :=
  ((Below.refl _ _).alloc (Nat.le_refl _) _).trans (h.mono (by simp))

/-- the cells of a new block of four behind a call that keeps what is there -/
theorem alloc4 {w w' : World} {x0 x1 x2 x3 : Value} {t : TypeId} (h : Below (w.alloc (.cells #[x0, x1, x2, x3] t)).heap.size (w.alloc (.cells #[x0, x1, x2, x3] t)) w') :
    w'.cell? ⟨w.heap.size, 0, none⟩ = some x0 ∧ w'.cell? ⟨w.heap.size, 1, none⟩ = some x1 ∧ w'.cell? ⟨w.heap.size, 2, none⟩ = some x2 ∧ w'.cell? ⟨w.heap.size, 3, none⟩ = some x3 := by
  have h' : Below (w.heap.size + 1) (w.alloc (.cells #[x0, x1, x2, x3] t)) w' := h.mono (by simp)
  exact ⟨alloc_below h' 0, alloc_below h' 1, alloc_below h' 2, alloc_below h' 3⟩
theorem alloc2 {w w' : World} {x0 x1 : Value} {t : TypeId} (h : Below (w.alloc (.cells #[x0, x1] t)).heap.size (w.alloc (.cells #[x0, x1] t)) w') :
    w'.cell? ⟨w.heap.size, 0, none⟩ = some x0 ∧ w'.cell? ⟨w.heap.size, 1, none⟩ = some x1 := by
  have h' : Below (w.heap.size + 1) (w.alloc (.cells #[x0, x1] t)) w' := h.mono (by simp)
  exact ⟨alloc_below h' 0, alloc_below h' 1⟩

theorem kept4 {w w' : World} {g : Nat} {x0 x1 x2 x3 : Value} (hb : Below w.heap.size w w')
    (h : w.cell? ⟨g, 0, none⟩ = some x0 ∧ w.cell? ⟨g, 1, none⟩ = some x1 ∧ w.cell? ⟨g, 2, none⟩ = some x2 ∧ w.cell? ⟨g, 3, none⟩ = some x3) :
    w'.cell? ⟨g, 0, none⟩ = some x0 ∧ w'.cell? ⟨g, 1, none⟩ = some x1 ∧ w'.cell? ⟨g, 2, none⟩ = some x2 ∧ w'.cell? ⟨g, 3, none⟩ = some x3 := by
  have hl : g < w.heap.size := cell_lt h.1
  exact ⟨(hb.cell hl).trans h.1, (hb.cell hl).trans h.2.1, (hb.cell hl).trans h.2.2.1, (hb.cell hl).trans h.2.2.2⟩
theorem kept2 {w w' : World} {g : Nat} {x0 x1 : Value} (hb : Below w.heap.size w w')
    (h : w.cell? ⟨g, 0, none⟩ = some x0 ∧ w.cell? ⟨g, 1, none⟩ = some x1) :
    w'.cell? ⟨g, 0, none⟩ = some x0 ∧ w'.cell? ⟨g, 1, none⟩ = some x1 := by
  have hl : g < w.heap.size := cell_lt h.1
  exact ⟨(hb.cell hl).trans h.1, (hb.cell hl).trans h.2⟩

theorem l1In_c (n lo hi : Int) (w : World) :
    Calls Tryd.prog 47 #[.int .i64 n, .int .i64 lo, .int .i64 hi] w (RetQ w (.bool (inB n lo hi))) := by
  by_cases h : lo ≤ n <;> by_cases h2 : n ≤ hi
  all_goals
    go_enter Tryd.func47, Tryd.ntmps47
    go_wp2
    go_ret
    exact RetQ.mk0 (by simp [inB]; omega)

theorem l1In_x (n lo hi : Int) (w : World) :
    Calls Tryd.prog 47 #[.int .i64 n, .int .i64 lo, .int .i64 hi] w (fun e w' => e = .returned (.bool (inB n lo hi)) ∧ w' = w) := by
  by_cases h : lo ≤ n <;> by_cases h2 : n ≤ hi
  all_goals
    go_enter Tryd.func47, Tryd.ntmps47
    go_wp2
    go_ret
    exact ⟨congrArg Ending.returned (boolv (by simp [inB]; omega)), rfl⟩


def cmpI (a b : Int) : Int := if a < b then -1 else if b < a then 1 else 0
end Go.Proofs.YtjgafkoboolclaaDoor
