import Derived.Test.YtdfinlpfkmmpkaaDoorProg
import Derived.Test.YtdfinlpfkmmpkaaDoorLawLib
namespace Go.Proofs.YtdfinlpfkmmpkaaDoor
open Go.RowKit

theorem rtV_lc {xss : List (List Int)} {fr to : Int} (h : lcB xss to = false) : rtV xss fr to = [] := by unfold rtV rtB nsB; rw [h]; rfl
theorem rtV_fr {xss : List (List Int)} {fr to : Int} (h : inB fr 0 ((xss.length : Int) - 1) = false) : rtV xss fr to = [] := by unfold rtV rtB nsB; rw [h]; simp
theorem RtStep.congr {xss : List (List Int)} {c c' : Nat → Int} {L : List Int} (h : RtStep xss c L) (e : ∀ i, i < xss.length → c' i = c i) : RtStep xss c' L := fun k hk => by
  obtain ⟨i, j, h1, h2, h3, h4, h5, h6, h7⟩ := h k hk
  exact ⟨i, j, h1, h2, h3, h4, h5, by rw [e j h4]; exact h6, by rw [e j h4, e i h3]; exact h7⟩
/-- the cost from the k-th station of a route -/
def rcA (c : Nat → Int) (L : List Int) (k : Nat) : Int := c (gi L k).toNat
theorem rt_desc {xss : List (List Int)} {c : Nat → Int} {L : List Int} (h : RtStep xss c L) (k : Nat) : ∀ d, k + d + 1 < L.length → rcA c L (k + d + 1) < rcA c L k
  | 0, hd => by
    obtain ⟨i, j, h1, h2, h3, h4, h5, h6, h7⟩ := h k hd
    unfold rcA
    rw [Nat.add_zero, h2, h1]
    simp only [Int.toNat_natCast]; omega
  | d + 1, hd => by
    have ih := rt_desc h k d (by omega)
    obtain ⟨i, j, h1, h2, h3, h4, h5, h6, h7⟩ := h (k + d + 1) hd
    have : rcA c L (k + (d + 1) + 1) < rcA c L (k + d + 1) := by
      unfold rcA
      rw [show k + (d + 1) + 1 = k + d + 1 + 1 by omega, h2, h1]
      simp only [Int.toNat_natCast]; omega
    omega
theorem rt_ne {xss : List (List Int)} {c : Nat → Int} {L : List Int} (h : RtStep xss c L) {j k : Nat} (hjk : j < k) (hk : k < L.length) : gi L j ≠ gi L k := fun e => by
  have := rt_desc h j (k - j - 1) (by omega)
  rw [show j + (k - j - 1) + 1 = k by omega] at this
  unfold rcA at this
  rw [e] at this; omega
theorem rt_len {xss : List (List Int)} {c : Nat → Int} {L : List Int} {s to : Nat} (h : RtOK xss c s to L) (hb : c s ≤ 1000) : L.length ≤ 1001 := by have := h.len2; omega

end Go.Proofs.YtdfinlpfkmmpkaaDoor
