import Derived.Test.YtdfinlpfkmmpkaaDoorProg
import Derived.Test.YtdfinlpfkmmpkaaDoorSS
namespace Go.Proofs.YtdfinlpfkmmpkaaDoor
open Go.RowKit

/-! Rows of the call's own: one more, the last one, a store. -/
theorem SH.innExt {row : Option Nat} {w0 w : World} {I : List Part} {t : TypeId} {vs : Nat → Value} {xss xss' : List (List Int)} {n : Nat} (h : SH row w0 w (innP t vs xss n :: I)) (hx : ∀ i, i < n → gl xss i = gl xss' i) : SH row w0 w (innP t vs xss' n :: I) :=
  h.as (q := innP t vs xss' n) ⟨fun i hi => hx i hi ▸ h.p0.1 i hi, h.p0.2⟩ (fun _ h => h) (fun _ h => h)
theorem gl_left {xss : List (List Int)} {xs : List Int} {i : Nat} (h : i < xss.length) : gl (xss ++ [xs]) i = gl xss i := by simp [gl, List.getElem?_append_left h]
theorem gl_at {xss : List (List Int)} {xs : List Int} : gl (xss ++ [xs]) xss.length = xs := by simp [gl]
/-- a row is appended: its slice to the outer row, its numbers to the rows -/
theorem SH.snocSS {row : Option Nat} {w0 w : World} {I : List Part} {t ti : TypeId} {v o : Value} {xs : List Int} {vs : Nat → Value} {xss : List (List Int)} {r : Nat → Value}
    (h : SH row w0 w (ownMP 1 t o (xss.length + 1) (updC (oneC vs) xss.length r) :: ownP .i64 ti v xs :: innP ti vs xss xss.length :: I)) (hr : r 0 = v) :
    SH row w0 w (ownMP 1 t o (xss ++ [xs]).length (oneC (updV vs xss.length v)) :: innP ti (updV vs xss.length v) (xss ++ [xs]) (xss ++ [xs]).length :: I) := by
  have e : (xss ++ [xs]).length = xss.length + 1 := by simp
  rw [e]
  have h1 := h.congrM (c' := oneC (updV vs xss.length v)) (fun i j hi hj => by
    obtain rfl : j = 0 := by omega
    unfold updC oneC updV
    by_cases ei : i = xss.length <;> simp [ei, hr])
  have h2 := (h1.bring2.innExt (xss' := xss ++ [xs]) (fun i hi => (gl_left hi).symm)).bring2.pushInn gl_at
  exact h2.bring1


variable {row : Option Nat} {w0 w w' : World} {I : List Part} {a b p q : Part}
/-- a part as two -/
theorem SH.split2 (h : SH row w0 w (p :: I)) (ha : a.says w) (hb : b.says w) (hona : ∀ g, a.on g → p.on g) (honb : ∀ g, b.on g → p.on g) (hwra : ∀ g, a.wr g → p.wr g) (hwrb : ∀ g, b.wr g → p.wr g) (hab : a.apart b) : SH row w0 w (a :: b :: I) := by
  have hA := List.pairwise_cons.1 h.apart
  refine ⟨h.grown, ?_, ?_, ?_⟩
  · intro s hs
    rcases List.mem_cons.1 hs with rfl | hs
    · exact ha
    · rcases List.mem_cons.1 hs with rfl | hs
      · exact hb
      · exact h.says s (by simp [hs])
  · intro s hs g hg
    rcases List.mem_cons.1 hs with rfl | hs
    · exact h.new p (by simp) g (hwra g hg)
    · rcases List.mem_cons.1 hs with rfl | hs
      · exact h.new p (by simp) g (hwrb g hg)
      · exact h.new s (by simp [hs]) g hg
  · refine List.pairwise_cons.2 ⟨fun s hs g => ?_, List.pairwise_cons.2 ⟨fun s hs g => ⟨fun h1 h2 => ((hA.1 s hs) g).1 (hwrb g h1) h2, fun h1 h2 => ((hA.1 s hs) g).2 h1 (honb g h2)⟩, hA.2⟩⟩
    rcases List.mem_cons.1 hs with rfl | hs
    · exact hab g
    · exact ⟨fun h1 h2 => ((hA.1 s hs) g).1 (hwra g h1) h2, fun h1 h2 => ((hA.1 s hs) g).2 h1 (hona g h2)⟩
/-- the last row by itself -/
theorem SH.popInn {t : TypeId} {vs : Nat → Value} {xss : List (List Int)} {n : Nat} (h : SH row w0 w (innP t vs xss (n + 1) :: I)) : SH row w0 w (ownP .i64 t (vs n) (gl xss n) :: innP t vs xss n :: I) := by
  have hp := h.p0
  refine h.split2 (hp.1 n (Nat.lt_succ_self n)) ⟨fun i hi => hp.1 i (by omega), fun i j g hi hj => hp.2 i j g (by omega) (by omega)⟩ (fun g hg => ⟨n, Nat.lt_succ_self n, hg⟩) (fun g ⟨i, hi, hg⟩ => ⟨i, by omega, hg⟩) (fun g hg => ⟨n, Nat.lt_succ_self n, hg⟩) (fun g ⟨i, hi, hg⟩ => ⟨i, by omega, hg⟩) ?_
  intro g
  have key : ∀ i, i < n → (vs n).ownBlock = some g → (vs i).ownBlock = some g → False := fun i hi h1 h2 => by
    have := hp.2 n i g (Nat.lt_succ_self n) (by omega) h1 h2; omega
  exact ⟨fun h1 ⟨i, hi, h2⟩ => key i hi h1 h2, fun ⟨i, hi, h2⟩ h1 => key i hi h1 h2⟩
/-- a store into a row -/
theorem SH.setInn {t : TypeId} {vs : Nat → Value} {xss : List (List Int)} {n i j g L cap : Nat} (h : SH row w0 w (innP t vs xss n :: I)) (hi : i < n) (hn : n ≤ xss.length) (hv : vs i = .slice (some ⟨g, 0, none⟩) L cap) (hj : j < L) (x : Int) :
    SH row w0 (w.setCell ⟨g, j, none⟩ (.int .i64 x)) (innP t vs (xss.set i ((gl xss i).set j x)) n :: I) := by
  have ho := h.p0.1 i hi
  rw [hv] at ho
  refine h.writeInn hi hn ?_ ?_
  · rw [hv]
    exact ⟨rfl, rfl, rfl, by simp [World.setCell], fun q _ hq => Below.heap_setCell _ _ _ _ (fun e => hq (by rw [e]; rfl))⟩
  · rw [hv]; exact OwnK.set ho hj x
end Go.Proofs.YtdfinlpfkmmpkaaDoor
