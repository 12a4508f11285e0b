import Derived.Test.YtjgafkoboolclaaDoorProg
import Derived.Test.YtjgafkoboolclaaDoorLib
import Derived.Test.YtjgafkoboolclaaDoorMem
import Derived.Test.YtjgafkoboolclaaDoorSym
import Derived.Test.YtjgafkoboolclaaDoorInts
import Derived.Test.YtjgafkoboolclaaDoorBytes
import Derived.Test.YtjgafkoboolclaaDoorFrag
import Derived.Test.YtjgafkoboolclaaDoorSplit
namespace Go.Proofs.YtjgafkoboolclaaDoor
open Go.RowKit

section
variable {row : Option Nat} {w0 w W : World} {I : List Part} {P : Program} {fn : FuncId} {args : Array Value}
theorem SH.frag {t : TypeId} {fs : List Frag} (hs : SH row w0 w I) (hb : Below w.heap.size w W)
    (hc : SH row w0 W I → Calls P fn args W (fun e w' => ∃ v : Value, e = .returned v ∧ ∃ vs : Nat → Value, SH none W w' (fragI t v vs fs))) :
    Calls P fn args W (fun e w' => ∃ (v : Value) (vs : Nat → Value), e = .returned v ∧ SH row w0 w' (ownMP 4 t v fs.length (frC fs vs) :: innB vs (fun i => (fr fs i).d) fs.length :: I)) :=
  (hc (hs.below hb)).mono fun _ _ ⟨v, h1, vs, h2⟩ => ⟨v, vs, h1, hs.joinS hb h2 fragI_on⟩
end
theorem sumF_bound {fs : List Frag} {m : Nat} (h : ∀ i, i < fs.length → (fr fs i).d.length ≤ m) : ∀ k, k ≤ fs.length → sumF fs k ≤ k * (3 + m)
  | 0, _ => by simp [sumF]
  | k + 1, hk => by
    have := sumF_bound h k (by omega)
    have := h k (by omega)
    simp only [sumF, Nat.add_mul] at *; omega
theorem splitF_len (d : List Int) (m s : Int) : (splitF d m s).length ≤ 500 ∧ ∀ i, i < (splitF d m s).length → (fr (splitF d m s) i).d.length ≤ 500 := by
  unfold splitF
  split
  · next h =>
    obtain ⟨h1, h2, h3, h4, h5, h6⟩ := h
    rw [length_parts]
    have hn : numF d s.toNat ≤ 500 := by
      rcases Nat.lt_or_ge 500 (numF d s.toNat) with h | h
      · have := (numF_lt (d := d) (s := s.toNat) (k := 500) (by omega)).1 h
        have : 500 * 1 ≤ 500 * s.toNat := Nat.mul_le_mul_left _ (by omega)
        omega
      · exact h
    refine ⟨hn, fun i hi => ?_⟩
    rw [fr_parts hi]
    simp only [partF, List.length_take, List.length_drop]
    omega
  · simp
theorem splitF_sum (d : List Int) (m s : Int) : sumF (splitF d m s) (splitF d m s).length ≤ 100000000 := by
  obtain ⟨h1, h2⟩ := splitF_len d m s
  have := sumF_bound h2 _ (Nat.le_refl _)
  have : (splitF d m s).length * (3 + 500) ≤ 500 * (3 + 500) := Nat.mul_le_mul_right _ h1
  omega


end Go.Proofs.YtjgafkoboolclaaDoor
