import Derived.Test.YtdfinlpfkmmpkaaDoorProg
import Derived.Test.YtdfinlpfkmmpkaaDoorLib
import Derived.Test.YtdfinlpfkmmpkaaDoorNum
import Derived.Test.YtdfinlpfkmmpkaaDoorDijPl
import Derived.Test.YtdfinlpfkmmpkaaDoorCosts
namespace Go.Proofs.YtdfinlpfkmmpkaaDoor
open Go.RowKit

/-! Least costs, next stations, routes: plain laws. -/
def lcB (xss : List (List Int)) (to : Int) : Bool := cvB xss && inB to 0 ((xss.length : Int) - 1)
def lcC (xss : List (List Int)) (to : Nat) : Nat → Int := rdC (tt xss) xss.length to xss.length
def lcV (xss : List (List Int)) (to : Int) : List Int := if lcB xss to then (List.range xss.length).map (lcC xss to.toNat) else []
theorem gi_mapR {n : Nat} {c : Nat → Int} {i : Nat} (h : i < n) : gi ((List.range n).map c) i = c i := by simp [gi, h]
theorem lcB_true {xss : List (List Int)} {to : Int} : lcB xss to = true ↔ cvB xss = true ∧ 0 ≤ to ∧ to ≤ (xss.length : Int) - 1 := by simp [lcB, inB_true]
theorem lcV_none {xss : List (List Int)} {to : Int} (h : lcB xss to = false) : lcV xss to = [] := by simp [lcV, h]
theorem lcV_len {xss : List (List Int)} {to : Int} (h : lcB xss to = true) : (lcV xss to).length = xss.length := by simp [lcV, h]
theorem lcV_le (xss : List (List Int)) (to : Int) : (lcV xss to).length ≤ 10 := by
  cases h : lcB xss to
  · simp [lcV_none h]
  · rw [lcV_len h]; exact (cvB_true.1 (lcB_true.1 h).1).1
theorem lcV_gi {xss : List (List Int)} {to : Int} (h : lcB xss to = true) {i : Nat} (hi : i < xss.length) : gi (lcV xss to) i = lcC xss to.toNat i := by
  unfold lcV; rw [if_pos h, gi_mapR hi]
theorem Least.congr {t : Nat → Nat → Int} {n to : Nat} {c c' : Nat → Int} (hc : Least t n to c) (hto : to < n) (e : ∀ i, i < n → c' i = c i) : Least t n to c' := by
  refine ⟨fun i hi => ?_, ?_, fun i j hi hj h1 h2 => ?_, fun i hi hne h0 => ?_⟩
  · rw [e i hi]; exact hc.lo i hi
  · rw [e to hto]; exact hc.zero
  · rw [e j hj] at h2 ⊢; rw [e i hi]; exact hc.tri i j hi hj h1 h2
  · rw [e i hi] at h0 ⊢
    obtain ⟨j, hj, h1, h2, h3⟩ := hc.sup i hi hne h0
    exact ⟨j, hj, h1, by rw [e j hj]; exact h2, by rw [e j hj]; exact h3⟩
theorem lcC_least {xss : List (List Int)} {to : Int} (h : lcB xss to = true) : Least (tt xss) xss.length to.toNat (lcC xss to.toNat) := by
  obtain ⟨h1, h2, h3⟩ := lcB_true.1 h
  exact rdC_least (by omega) fun i j hi hj => ((cvRow_true.1 ((cvB_true.1 h1).2 i hi)).2.2 j hj).2
theorem lcV_least {xss : List (List Int)} {to : Int} (h : lcB xss to = true) : Least (tt xss) xss.length to.toNat (gi (lcV xss to)) := by
  obtain ⟨h1, h2, h3⟩ := lcB_true.1 h
  exact (lcC_least h).congr (by omega) fun i hi => lcV_gi h hi
theorem lcV_of {xss : List (List Int)} {to : Int} (h : lcB xss to = true) {cs : List Int} (hl : cs.length = xss.length) (hc : Least (tt xss) xss.length to.toNat (gi cs)) : cs = lcV xss to := by
  obtain ⟨h1, h2, h3⟩ := lcB_true.1 h
  refine gi_ext (by rw [lcV_len h, hl]) fun i hi => ?_
  rw [hl] at hi
  rw [lcV_gi h hi]
  exact (rdC_eq hc (by omega) hi).symm

/-- least costs are not large -/
theorem least_le {t : Nat → Nat → Int} {n to : Nat} {c : Nat → Int} (hD : Least t n to c) (hto : to < n) (hn : n ≤ 10) (hb : ∀ i j, i < n → j < n → t i j ≤ 100) : ∀ i, i < n → c i ≤ 1000 := by
  intro i hi
  have key : ∀ (r i : Nat), i < n → 0 ≤ c i → rnk c n i ≤ r → c i ≤ 100 * (r : Int) := by
    intro r
    induction r with
    | zero =>
      intro i hi h0 hr
      by_cases e : i = to
      · subst e; rw [hD.zero]; omega
      · obtain ⟨j, hj, h1, h2, h3⟩ := hD.sup i hi e h0
        have := rnk_lt (D := c) (i := i) hj h2 (by omega); omega
    | succ r ih =>
      intro i hi h0 hr
      by_cases e : i = to
      · subst e; rw [hD.zero]; omega
      · obtain ⟨j, hj, h1, h2, h3⟩ := hD.sup i hi e h0
        have h4 := rnk_lt (D := c) (i := i) hj h2 (by omega)
        have h5 := ih j hj h2 (by omega)
        have := hb i j hi hj
        omega
  by_cases h0 : 0 ≤ c i
  · have := key n i hi h0 (cntP_le _ _); omega
  · omega

/-- the first one that has it -/
def fstV (p : Nat → Bool) (n : Nat) : Int := match (List.range n).find? p with
  | some j => (j : Int)
  | none => -1
theorem fstV_cases (p : Nat → Bool) (n : Nat) : (fstV p n = -1 ∧ ∀ i, i < n → p i = false) ∨ ∃ j, fstV p n = ((j : Nat) : Int) ∧ j < n ∧ p j = true := by
  unfold fstV
  cases h : (List.range n).find? p with
  | none =>
    left
    refine ⟨rfl, fun i hi => ?_⟩
    have := List.find?_eq_none.1 h i (List.mem_range.2 hi)
    simpa using this
  | some j => exact .inr ⟨j, rfl, List.mem_range.1 (List.mem_of_find?_eq_some h), List.find?_some h⟩
theorem fstV_none {p : Nat → Bool} {n : Nat} (h : ∀ i, i < n → p i = false) : fstV p n = -1 := by
  rcases fstV_cases p n with ⟨h1, _⟩ | ⟨j, _, h2, h3⟩
  · exact h1
  · rw [h j h2] at h3; cases h3
theorem fstV_hit {p : Nat → Bool} {n j : Nat} (hj : j < n) (hp : p j = true) (hb : ∀ i, i < j → p i = false) : fstV p n = (j : Int) := by
  unfold fstV
  have : (List.range n).find? p = some j := by
    rw [List.find?_eq_some_iff_append]
    refine ⟨hp, List.range j, (List.range (n - j - 1)).map (fun i => i + (j + 1)), ?_, fun a ha => by simpa using hb a (List.mem_range.1 ha)⟩
    apply List.ext_getElem?
    intro i
    by_cases h1 : i < n
    · by_cases h2 : i < j
      · rw [List.getElem?_append_left (by simpa using h2)]; simp [h1, h2]
      · rw [List.getElem?_append_right (by simpa using h2)]
        obtain ⟨d, rfl⟩ : ∃ d, i = j + d := ⟨i - j, by omega⟩
        cases d with
        | zero => simp [hj]
        | succ d => simp; rw [List.getElem?_range (by omega), List.getElem?_range (by omega)]; simp; omega
    · rw [List.getElem?_eq_none (by simp; omega), List.getElem?_eq_none (by simp; omega)]
  rw [this]
def naB (xss : List (List Int)) (c : Nat → Int) (f j : Nat) : Bool := decide (0 < tt xss f j) && decide (0 ≤ c j) && decide (tt xss f j + c j = c f)
theorem naB_true {xss : List (List Int)} {c : Nat → Int} {f j : Nat} : naB xss c f j = true ↔ 0 < tt xss f j ∧ 0 ≤ c j ∧ tt xss f j + c j = c f := by simp [naB, and_assoc]
def naV (xss : List (List Int)) (c : Nat → Int) (f : Nat) : Int := fstV (naB xss c f) xss.length
def nsB (xss : List (List Int)) (fr to : Int) : Bool := lcB xss to && inB fr 0 ((xss.length : Int) - 1)
def nsV (xss : List (List Int)) (fr to : Int) : Int := if nsB xss fr to then naV xss (lcC xss to.toNat) fr.toNat else -1
theorem nsB_true {xss : List (List Int)} {fr to : Int} : nsB xss fr to = true ↔ lcB xss to = true ∧ 0 ≤ fr ∧ fr ≤ (xss.length : Int) - 1 := by simp [nsB, inB_true]
theorem naB_congr {xss : List (List Int)} {c c' : Nat → Int} (h : ∀ i, i < xss.length → c' i = c i) {f j : Nat} (hf : f < xss.length) (hj : j < xss.length) : naB xss c' f j = naB xss c f j := by
  unfold naB; rw [h f hf, h j hj]
theorem fstV_congr {p q : Nat → Bool} {n : Nat} (h : ∀ i, i < n → p i = q i) : fstV p n = fstV q n := by
  rcases fstV_cases q n with ⟨h1, h2⟩ | ⟨j, h1, h2, h3⟩
  · rw [h1]; exact fstV_none fun i hi => by rw [h i hi, h2 i hi]
  · have : (List.range n).find? p = (List.range n).find? q := by
      have : ∀ L : List Nat, (∀ i ∈ L, p i = q i) → L.find? p = L.find? q := by
        intro L
        induction L with
        | nil => intro _; rfl
        | cons a L ih =>
          intro hL
          simp only [List.find?_cons, hL a (by simp)]
          rw [ih fun i hi => hL i (by simp [hi])]
      exact this _ fun i hi => h i (List.mem_range.1 hi)
    unfold fstV; rw [this]
theorem naV_congr {xss : List (List Int)} {c c' : Nat → Int} (h : ∀ i, i < xss.length → c' i = c i) {f : Nat} (hf : f < xss.length) : naV xss c' f = naV xss c f :=
  fstV_congr fun _ hi => naB_congr h hf hi
section
variable {xss : List (List Int)} {to : Nat} {c : Nat → Int}
/-- at the station itself there is none -/
theorem naV_to (h : Least (tt xss) xss.length to c) : naV xss c to = -1 := by
  refine fstV_none fun j _ => ?_
  cases hb : naB xss c to j
  · rfl
  · have := naB_true.1 hb; rw [h.zero] at this; omega
theorem naV_un (h : Least (tt xss) xss.length to c) {f : Nat} (h0 : c f < 0) : naV xss c f = -1 := by
  refine fstV_none fun j _ => ?_
  cases hb : naB xss c f j
  · rfl
  · have := naB_true.1 hb; omega
/-- elsewhere on a path there is one -/
theorem naV_ex (h : Least (tt xss) xss.length to c) {f : Nat} (hf : f < xss.length) (hne : f ≠ to) (h0 : 0 ≤ c f) : ∃ j, naV xss c f = ((j : Nat) : Int) ∧ j < xss.length ∧ naB xss c f j = true := by
  rcases fstV_cases (naB xss c f) xss.length with ⟨_, h2⟩ | h1
  · obtain ⟨j, hj, h3, h4, h5⟩ := h.sup f hf hne h0
    have := h2 j hj
    rw [naB_true.2 ⟨h3, h4, h5.symm⟩] at this; cases this
  · exact h1
end
/-- the stations from s on -/
def rtK (nx : Nat → Int) (to : Nat) : Nat → Nat → List Int
  | 0, s => [(s : Int)]
  | k + 1, s => if s = to then [(s : Int)] else (s : Int) :: rtK nx to k (nx s).toNat
def rtB (xss : List (List Int)) (fr to : Int) : Bool := nsB xss fr to && decide (0 ≤ lcC xss to.toNat fr.toNat)
def rtV (xss : List (List Int)) (fr to : Int) : List Int := if rtB xss fr to then rtK (naV xss (lcC xss to.toNat)) to.toNat (lcC xss to.toNat fr.toNat).toNat fr.toNat else []
theorem rtK_to (nx : Nat → Int) (to : Nat) : ∀ f, rtK nx to f to = [(to : Int)]
  | 0 => rfl
  | f + 1 => by simp [rtK]
theorem rtB_true {xss : List (List Int)} {fr to : Int} : rtB xss fr to = true ↔ nsB xss fr to = true ∧ 0 ≤ lcC xss to.toNat fr.toNat := by simp [rtB]
/-- consecutive stations of a route -/
def RtStep (xss : List (List Int)) (c : Nat → Int) (L : List Int) : Prop := ∀ k, k + 1 < L.length → ∃ i j : Nat, gi L k = (i : Int) ∧ gi L (k + 1) = (j : Int) ∧ i < xss.length ∧ j < xss.length ∧ 0 < tt xss i j ∧ 0 ≤ c j ∧ tt xss i j + c j = c i
structure RtOK (xss : List (List Int)) (c : Nat → Int) (s to : Nat) (L : List Int) : Prop where
  len : 0 < L.length
  len2 : (L.length : Int) ≤ c s + 1
  first : gi L 0 = (s : Int)
  last : gi L (L.length - 1) = (to : Int)
  step : RtStep xss c L
theorem rtK_ok {xss : List (List Int)} {to : Nat} {c : Nat → Int} (h : Least (tt xss) xss.length to c) : ∀ (f s : Nat), s < xss.length → 0 ≤ c s → c s ≤ (f : Int) → RtOK xss c s to (rtK (naV xss c) to f s)
  | f, s, hs, h0, hf => by
    by_cases e : s = to
    · subst e
      rw [rtK_to]
      exact ⟨by simp, by simp [h.zero], rfl, rfl, fun k hk => by simp at hk⟩
    · obtain ⟨j, hj, hjn, hb⟩ := naV_ex h hs e h0
      obtain ⟨b1, b2, b3⟩ := naB_true.1 hb
      cases f with
      | zero => omega
      | succ f =>
        have ih := rtK_ok h f j hjn b2 (by omega)
        have hd : rtK (naV xss c) to (f + 1) s = (s : Int) :: rtK (naV xss c) to f j := by
          simp only [rtK, if_neg e]
          rw [hj]; simp
        rw [hd]
        have hl := ih.len
        have hl2 := ih.len2
        refine ⟨by simp, by simp; omega, rfl, ?_, fun k hk => ?_⟩
        · have := ih.last
          rw [show (((s : Int)) :: rtK (naV xss c) to f j).length - 1 = ((rtK (naV xss c) to f j).length - 1) + 1 by simp; omega]
          exact this
        · cases k with
          | zero => exact ⟨s, j, rfl, ih.first, hs, hjn, b1, b2, b3⟩
          | succ k => exact ih.step k (by simp at hk; omega)
end Go.Proofs.YtdfinlpfkmmpkaaDoor
