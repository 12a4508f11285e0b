import Derived.Test.YtjgafkoboolclaaDoorProg
import Derived.Test.YtjgafkoboolclaaDoorLib
import Derived.Test.YtjgafkoboolclaaDoorMem
import Derived.Test.YtjgafkoboolclaaDoorSym
import Derived.Test.YtjgafkoboolclaaDoorDraw
import Derived.Test.YtjgafkoboolclaaDoorInts
import Derived.Test.YtjgafkoboolclaaDoorBytes
import Derived.Test.YtjgafkoboolclaaDoorApp
import Derived.Test.YtjgafkoboolclaaDoorBlk
import Derived.Test.YtjgafkoboolclaaDoorFrag
import Derived.Test.YtjgafkoboolclaaDoorSplit
import Derived.Test.YtjgafkoboolclaaDoorIdx
import Derived.Test.YtjgafkoboolclaaDoorJoin
import Derived.Test.YtjgafkoboolclaaDoorMiss
import Derived.Test.YtjgafkoboolclaaDoorSplitEx
import Derived.Test.YtjgafkoboolclaaDoorJoinEx
import Derived.Test.YtjgafkoboolclaaDoorDrawFrag
import Derived.Laws.BytesArg
namespace Go.Proofs.YtjgafkoboolclaaDoor
open Go.RowKit

/-! Joined again: what is joined depends on what is found alone. -/
def isP (m p : Int) (f : Frag) : Bool := decide (f.m = m ∧ f.p = p)
theorem fr_get {fs : List Frag} {n : Nat} (h : n < fs.length) : fs[n]? = some (fr fs n) := by simp [fr, h]
theorem look_find {fs : List Frag} {m p : Int} : ∀ {n : Nat}, n ≤ fs.length → (look fs m p n).map (fr fs) = (fs.take n).find? (isP m p)
  | 0, _ => by simp [look]
  | n + 1, h => by
    have ih := look_find (fs := fs) (m := m) (p := p) (n := n) (by omega)
    rw [List.take_add_one, fr_get (by omega), List.find?_append, ← ih]
    cases hl : look fs m p n with
    | some i => rw [look_step hl]; simp
    | none =>
      rw [look_step0 hl]
      by_cases e : (fr fs n).m = m ∧ (fr fs n).p = p
      · rw [if_pos e]; simp [isP, e]
      · rw [if_neg e]; simp [isP, e]
def joinG (fd : Int → Option Frag) : Nat → Nat → List Int → List Int × Bool
  | 0, _, _ => ([], false)
  | n + 1, k, acc => match fd (k : Int) with
    | none => ([], false)
    | some f => if f.l then (acc ++ f.d, true) else joinG fd n (k + 1) (acc ++ f.d)
theorem joinK_G (fs : List Frag) (m : Int) : ∀ n k acc, joinK fs m n k acc = joinG (fun p => fs.find? (isP m p)) n k acc
  | 0, _, _ => rfl
  | n + 1, k, acc => by
    have hf := look_find (fs := fs) (m := m) (p := (k : Int)) (Nat.le_refl _)
    rw [List.take_length] at hf
    unfold joinK joinG
    rw [← hf]
    cases look fs m (k : Int) fs.length with
    | none => rfl
    | some i => simp only [Option.map_some]; rw [joinK_G fs m n]
theorem joinF_same {fs gs : List Frag} {m : Int} (h : ∀ p, fs.find? (isP m p) = gs.find? (isP m p)) : joinF fs m = joinF gs m := by
  unfold joinF
  rw [joinK_G, joinK_G]
  congr 1
  funext p
  exact h p
theorem joinF_twice (fs : List Frag) (m : Int) : joinF (fs ++ fs) m = joinF fs m :=
  joinF_same fun p => by rw [List.find?_append, Option.or_self]
theorem joinF_own (fs : List Frag) (m : Int) : joinF (fs.filter fun f => f.m == m) m = joinF fs m :=
  joinF_same fun p => by
    rw [List.find?_filter]
    congr 1
    funext f
    simp only [isP]
    by_cases h : f.m = m <;> simp [h]
theorem joinK_no {fs : List Frag} {m : Int} : ∀ {n k acc}, (joinK fs m n k acc).2 = false → (joinK fs m n k acc).1 = []
  | 0, _, _, _ => rfl
  | n + 1, k, acc, h => by
    unfold joinK at h ⊢
    cases hl : look fs m (k : Int) fs.length with
    | none => rfl
    | some i =>
      rw [hl] at h
      simp only [] at h ⊢
      split at h
      · cases h
      · next e => rw [if_neg e]; exact joinK_no h
theorem insF_end (os : List Frag) (f : Frag) : insF os os.length f = os ++ [f] := by simp [insF]
theorem fr_cat {fs gs : List Frag} {i : Nat} : fr (fs ++ gs) i = if i < fs.length then fr fs i else fr gs (i - fs.length) := by
  unfold fr
  rw [List.getD_eq_getElem?_getD, List.getElem?_append]
  split <;> rw [List.getD_eq_getElem?_getD]
def catV (vs ws : Nat → Value) (n : Nat) : Nat → Value := fun i => if i < n then vs i else ws (i - n)
theorem frC_cat {fs gs : List Frag} {vs ws : Nat → Value} (i j : Nat) : catC fs.length (frC fs vs) (frC gs ws) i j = frC (fs ++ gs) (catV vs ws fs.length) i j := by
  unfold catC frC catV
  rw [fr_cat]
  by_cases h : i < fs.length <;> simp only [h, if_true, if_false]
theorem goodF_cat {fs gs : List Frag} (h : goodF fs) (h2 : goodF gs) : goodF (fs ++ gs) := by
  intro i hi
  rw [fr_cat]
  rw [List.length_append] at hi
  split
  · exact h i (by omega)
  · exact h2 _ (by omega)
theorem goodF_mem {fs : List Frag} : goodF fs ↔ ∀ f ∈ fs, (0 ≤ f.m ∧ f.m ≤ 100) ∧ (-1 ≤ f.p ∧ f.p ≤ 1000) ∧ f.d.length ≤ 13 ∧ ∀ x ∈ f.d, 0 ≤ x ∧ x ≤ 255 := by
  constructor
  · intro h f hf
    obtain ⟨i, hi, rfl⟩ := List.getElem_of_mem hf
    have := h i hi
    rwa [show fr fs i = fs[i] by simp [fr, hi]] at this
  · intro h i hi
    have e : fr fs i = fs[i] := by simp [fr, hi]
    rw [e]; exact h _ (List.getElem_mem hi)
theorem lenF_good {fs : List Frag} (h : goodF fs) (hl : fs.length ≤ 1000) : lenF fs := ⟨by omega, fun i hi => by have := (h i hi).2.2.1; omega⟩
theorem filter_step {fs : List Frag} {p : Frag → Bool} {k : Nat} (h : k < fs.length) : (fs.take (k + 1)).filter p = if p (fr fs k) then (fs.take k).filter p ++ [fr fs k] else (fs.take k).filter p := by
  rw [List.take_add_one, fr_get h, List.filter_append]
  by_cases e : p (fr fs k) <;> simp [e]

section
variable {row : Option Nat} {w0 w : World} {I : List Part}
theorem rd_of_rdInn {t : TypeId} {v : Value} {vs : Nat → Value} {fs : List Frag} (h : SH row w0 w (ownMP 4 t v fs.length (frC fs vs) :: rdInn vs fs :: I)) : RdF w v vs fs :=
  ⟨OwnM.rd h.p0, fun i hi => (h.p1 : ∀ i, i < fs.length → RdB w (vs i) (fr fs i).d) i hi⟩
end
theorem conv_rd {w : World} {v : Value} {xs : List Int} (h : RdB w v xs) : (convert 27 9 v).run Tryd.prog w = .ok (.string (strOfNums xs)) w := by
  obtain ⟨a, c, rfl, hl, hm, hc⟩ := h
  cases a with
  | none =>
    have hz : xs = [] := by
      rcases Nat.eq_zero_or_pos xs.length with h | h
      · exact List.eq_nil_of_length_eq_zero h
      · obtain ⟨b, off, e, _⟩ := hc 0 h; cases e
    subst hz
    exact run_convert_bytes_nil w 27 5 Tryd.underlying27 Tryd.underlying5 _ _ 9 Tryd.underlying9
  | some ad =>
    rcases Nat.eq_zero_or_pos xs.length with h | h
    · have hz := List.eq_nil_of_length_eq_zero h
      subst hz
      have hl0 : (loadCells ad 0).run Tryd.prog w = .ok #[] w := run_loadCells_list (P := Tryd.prog) w ad [] (fun j v hj => by simp at hj)
      rw [run_convert_bytes_string w 27 9 5 _ _ c Tryd.underlying27 Tryd.underlying5 Tryd.underlying9]
      have := run_bytesToString (P := Tryd.prog) w ad 0 c [] (by simpa using hl0)
      exact this.trans (by rfl)
    · obtain ⟨b, off, e, _⟩ := hc 0 h
      cases e
      exact run_convert_bytes_arg w 27 5 Tryd.underlying27 Tryd.underlying5 b off _ c xs rfl (fun i hi => by
        obtain ⟨b', o', e, hcell⟩ := hc i hi
        cases e
        exact hcell) 9 Tryd.underlying9

end Go.Proofs.YtjgafkoboolclaaDoor
