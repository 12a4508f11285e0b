import Derived.Test.YtjgafkoboolclaaDoorProg
import Derived.Test.YtjgafkoboolclaaDoorLib
import Derived.Test.YtjgafkoboolclaaDoorMem
import Derived.Test.YtjgafkoboolclaaDoorSym
import Derived.Test.YtjgafkoboolclaaDoorInts
import Derived.Test.YtjgafkoboolclaaDoorSS
import Derived.Test.YtjgafkoboolclaaDoorFlag
import Derived.Test.YtjgafkoboolclaaDoorFind
import Derived.Test.YtjgafkoboolclaaDoorFind2
namespace Go.Proofs.YtjgafkoboolclaaDoor
open Go.RowKit

section
variable {row : Option Nat} {w0 w w' W : World} {I J : List Part} {a b q : Part}
/-- parts made by a call, beside the caller's -/
theorem SH.join (hs : SH row w0 w I) (hb : Below w.heap.size w W) (h : SH none W w' J) (hJ : ∀ p ∈ J, ∀ g, p.on g → p.wr g) : SH row w0 w' (J ++ I) := by
  have h1 := (hs.below hb).below h.done
  have hnew : ∀ p ∈ J, ∀ g, p.wr g → W.heap.size ≤ g := fun p hp g hg => by
    rcases h.new p hp g hg with h2 | h2
    · exact h2
    · cases h2
  have hlt : ∀ p ∈ I, ∀ g, p.on g → g < W.heap.size := fun p hp g hg => Nat.lt_of_lt_of_le (p.lt w (hs.says p hp) g hg) hb.size
  refine ⟨h1.grown, fun p hp => ?_, fun p hp g hg => ?_, ?_⟩
  · rcases List.mem_append.1 hp with hp | hp
    · exact h.says p hp
    · exact h1.says p hp
  · rcases List.mem_append.1 hp with hp | hp
    · exact .inl (Nat.le_trans (hs.below hb).grown.size (hnew p hp g hg))
    · exact h1.new p hp g hg
  · refine List.pairwise_append.2 ⟨h.apart, h1.apart, fun p hp q hq g => ⟨fun h2 h3 => ?_, fun h2 h3 => ?_⟩⟩
    · exact Nat.lt_irrefl _ (Nat.lt_of_lt_of_le (hlt q hq g h3) (hnew p hp g h2))
    · exact Nat.lt_irrefl _ (Nat.lt_of_lt_of_le (hlt q hq g (q.sub g h2)) (hnew p hp g (hJ p hp g h3)))
end
section
variable {row : Option Nat} {w0 w W : World} {I : List Part} {P : Program} {fn : FuncId} {args : Array Value}
theorem SH.rowsC {t ti : TypeId} {xss : List (List Int)} (hs : SH row w0 w I) (hb : Below w.heap.size w W)
    (hc : SH row w0 W I → Calls P fn args W (fun e w' => ∃ v : Value, e = .returned v ∧ ∃ vs : Nat → Value, SH none W w' [ownMP 1 t v xss.length (oneC vs), innP ti vs xss xss.length])) :
    Calls P fn args W (fun e w' => ∃ (v : Value) (vs : Nat → Value), e = .returned v ∧ SH row w0 w' (ownMP 1 t v xss.length (oneC vs) :: innP ti vs xss xss.length :: I)) :=
  (hc (hs.below hb)).mono fun _ _ ⟨v, h1, vs, h2⟩ => ⟨v, vs, h1, hs.join hb h2 (fun p hp g hg => by
    simp only [List.mem_cons, List.not_mem_nil, or_false] at hp
    rcases hp with rfl | rfl
    · exact hg
    · exact hg)⟩
end
theorem ffS_rows (bs : List Int) : ∀ k, ∀ r ∈ (ffS bs (btwF bs) k).2, r.length ≤ 256
  | 0, r, h => by simp [ffS] at h
  | k + 1, r, h => by
    simp only [ffS] at h
    split at h
    · cases hl : (ffS bs (btwF bs) k).1 with
      | none => rw [hl] at h; exact ffS_rows bs k r h
      | some l =>
        rw [hl] at h
        simp only [] at h
        split at h
        · rcases List.mem_append.1 h with h | h
          · exact ffS_rows bs k r h
          · unfold btwF at h
            split at h
            · rw [List.mem_singleton] at h; subst h; exact fbL_len _
            · simp at h
        · exact ffS_rows bs k r h
    · exact ffS_rows bs k r h
theorem sumL_bound {xss : List (List Int)} (h : ∀ r ∈ xss, r.length ≤ 256) : ∀ k, k ≤ xss.length → sumL xss k ≤ k * 256
  | 0, _ => by simp [sumL]
  | k + 1, hk => by
    have ih := sumL_bound h k (by omega)
    have : (gl xss k).length ≤ 256 := by
      have e : gl xss k = xss[k] := by simp [gl, show k < xss.length by omega]
      rw [e]; exact h _ (List.getElem_mem (by omega))
    simp only [sumL]; omega
theorem ffV_bd (xs : List Int) : (ffV xs).length ≤ 1024 ∧ sumL (ffV xs) (ffV xs).length ≤ 100000000 := by
  unfold ffV
  split
  · next h =>
    have hl := (bitsB_true.1 h).1
    have h1 := ffS_len xs xs.length
    have h2 := sumL_bound (ffS_rows xs xs.length) _ (Nat.le_refl _)
    exact ⟨by omega, by omega⟩
  · simp [sumL]


end Go.Proofs.YtjgafkoboolclaaDoor
