import Derived.Test.YtjgafkoboolclaaDoorProg
import Derived.Test.YtjgafkoboolclaaDoorLib
import Derived.Test.YtjgafkoboolclaaDoorMem
import Derived.Test.YtjgafkoboolclaaDoorNum
import Derived.Test.YtjgafkoboolclaaDoorSym
import Derived.Test.YtjgafkoboolclaaDoorInts
import Derived.Test.YtjgafkoboolclaaDoorApp
import Derived.Test.YtjgafkoboolclaaDoorBlk
import Derived.Test.YtjgafkoboolclaaDoorFrag
import Derived.Test.YtjgafkoboolclaaDoorSplit
import Derived.Test.YtjgafkoboolclaaDoorIdx
import Derived.Test.YtjgafkoboolclaaDoorJoin
namespace Go.Proofs.YtjgafkoboolclaaDoor
open Go.RowKit

/-! The parts of a message of which there is no fragment. -/
def hasP (fs : List Frag) (m : Int) (k : Nat) : Bool := lookB fs m (k : Int) fs.length
/-- those ahead of part n -/
def missK (fs : List Frag) (m : Int) : Nat → List Int
  | 0 => []
  | n + 1 => if hasP fs m n then missK fs m n else missK fs m n ++ [(n : Int)]
/-- one more than the last part ahead of n that there is; 0 if there is none -/
def lastT (fs : List Frag) (m : Int) : Nat → Nat
  | 0 => 0
  | n + 1 => if hasP fs m n then n + 1 else lastT fs m n
def missF (fs : List Frag) (m : Int) : List Int := missK fs m (lastT fs m 50)
theorem missK_len (fs : List Frag) (m : Int) : ∀ n, (missK fs m n).length ≤ n
  | 0 => by simp [missK]
  | n + 1 => by
    have := missK_len fs m n
    unfold missK; split <;> simp <;> omega
theorem lastT_le (fs : List Frag) (m : Int) : ∀ n, lastT fs m n ≤ n
  | 0 => by simp [lastT]
  | n + 1 => by
    have := lastT_le fs m n
    unfold lastT; split <;> omega
theorem missF_len (fs : List Frag) (m : Int) : (missF fs m).length ≤ 50 :=
  Nat.le_trans (missK_len _ _ _) (lastT_le _ _ _)

theorem OwnK.cut0 {k : IntKind} {w : World} {base : Nat} {t : TypeId} {a : Option Addr} {n cap : Nat} {xs : List Int} (h : OwnK k w base t (.slice a n cap) xs) : OwnK k w base t (.slice a 0 cap) [] := by
  obtain ⟨h1, h2⟩ := h
  refine ⟨rfl, ?_⟩
  rcases h2 with ⟨h2, h3⟩ | ⟨g, cp, cur, h2, h3, h4, h5, h6, h7, h8⟩
  · left
    obtain ⟨rfl, rfl, rfl⟩ := Value.slice.inj h2
    exact ⟨rfl, rfl⟩
  · right
    obtain ⟨rfl, rfl, rfl⟩ := Value.slice.inj h2
    exact ⟨g, cap, cur, rfl, h3, h4, Nat.zero_le _, h6, h7, by simp⟩
theorem SH.cut0 {row : Option Nat} {w0 w : World} {I : List Part} {k : IntKind} {t : TypeId} {a : Option Addr} {n cap : Nat} {xs : List Int} (h : SH row w0 w (ownP k t (.slice a n cap) xs :: I)) : SH row w0 w (ownP k t (.slice a 0 cap) [] :: I) :=
  h.as (q := ownP k t (.slice a 0 cap) []) (OwnK.cut0 h.p0) (fun _ e => by cases a <;> exact e) (fun _ e => by cases a <;> exact e)

/-- the last part in range of the message's fragments ahead of n; -1 if there is none -/
def mostN (fs : List Frag) (m : Int) : Nat → Int
  | 0 => -1
  | n + 1 => if (fr fs n).m = m ∧ inB (fr fs n).p 0 49 = true then max (mostN fs m n) (fr fs n).p else mostN fs m n
theorem inB_iff {n : Int} : inB n 0 49 = true ↔ 0 ≤ n ∧ n ≤ 49 := by simp [inB]
theorem mostN_ge {fs : List Frag} {m : Int} : ∀ {n i : Nat}, i < n → (fr fs i).m = m → inB (fr fs i).p 0 49 = true → (fr fs i).p ≤ mostN fs m n
  | 0, i, hi, _, _ => absurd hi (Nat.not_lt_zero _)
  | n + 1, i, hi, h1, h2 => by
    unfold mostN
    rcases Nat.lt_succ_iff_lt_or_eq.1 hi with h | rfl
    · have := mostN_ge h h1 h2
      split <;> omega
    · rw [if_pos ⟨h1, h2⟩]; omega
theorem mostN_of {fs : List Frag} {m : Int} : ∀ {n : Nat}, mostN fs m n = -1 ∨ ∃ i, i < n ∧ (fr fs i).m = m ∧ (fr fs i).p = mostN fs m n ∧ 0 ≤ mostN fs m n ∧ mostN fs m n ≤ 49
  | 0 => .inl rfl
  | n + 1 => by
    unfold mostN
    split
    · next h =>
      obtain ⟨h1, h2⟩ := h
      rw [inB_iff] at h2
      rcases mostN_of (fs := fs) (m := m) (n := n) with h | ⟨i, hi, h3, h4, h5, h6⟩
      · right; exact ⟨n, by omega, h1, by omega, by omega, by omega⟩
      · right
        by_cases hc : mostN fs m n ≤ (fr fs n).p
        · exact ⟨n, by omega, h1, by omega, by omega, by omega⟩
        · exact ⟨i, by omega, h3, by omega, by omega, by omega⟩
    · rcases mostN_of (fs := fs) (m := m) (n := n) with h | ⟨i, hi, h3, h4, h5, h6⟩
      · exact .inl h
      · exact .inr ⟨i, by omega, h3, h4, h5, h6⟩
theorem hasP_of {fs : List Frag} {m : Int} {k i : Nat} (hi : i < fs.length) (h1 : (fr fs i).m = m) (h2 : (fr fs i).p = (k : Int)) : hasP fs m k = true := by
  unfold hasP lookB
  cases h : look fs m (k : Int) fs.length with
  | none => exact absurd ⟨h1, h2⟩ (look_none h i hi)
  | some j => rfl
theorem hasP_ex {fs : List Frag} {m : Int} {k : Nat} (h : hasP fs m k = true) : ∃ i, i < fs.length ∧ (fr fs i).m = m ∧ (fr fs i).p = (k : Int) := by
  unfold hasP lookB at h
  cases e : look fs m (k : Int) fs.length with
  | none => rw [e] at h; cases h
  | some j => exact ⟨j, look_some e⟩
theorem lastT_ge {fs : List Frag} {m : Int} : ∀ {n k : Nat}, k < n → hasP fs m k = true → k + 1 ≤ lastT fs m n
  | 0, k, hk, _ => absurd hk (Nat.not_lt_zero _)
  | n + 1, k, hk, h => by
    unfold lastT
    rcases Nat.lt_succ_iff_lt_or_eq.1 hk with h1 | rfl
    · have := lastT_ge h1 h
      split <;> omega
    · rw [if_pos h]; exact Nat.le_refl _
theorem lastT_of {fs : List Frag} {m : Int} : ∀ {n : Nat}, lastT fs m n = 0 ∨ ∃ k, lastT fs m n = k + 1 ∧ k < n ∧ hasP fs m k = true
  | 0 => .inl rfl
  | n + 1 => by
    unfold lastT
    split
    · next h => exact .inr ⟨n, rfl, by omega, h⟩
    · rcases lastT_of (fs := fs) (m := m) (n := n) with h | ⟨k, h1, h2, h3⟩
      · exact .inl h
      · exact .inr ⟨k, h1, by omega, h3⟩
theorem most_last (fs : List Frag) (m : Int) : mostN fs m fs.length + 1 = (lastT fs m 50 : Int) := by
  rcases lastT_of (fs := fs) (m := m) (n := 50) with h | ⟨k, h1, h2, h3⟩
  · rcases mostN_of (fs := fs) (m := m) (n := fs.length) with g | ⟨i, hi, g1, g2, g3, g4⟩
    · omega
    · have := lastT_ge (n := 50) (k := (mostN fs m fs.length).toNat) (by omega) (hasP_of hi g1 (by omega))
      omega
  · obtain ⟨i, hi, h4, h5⟩ := hasP_ex h3
    have h6 := mostN_ge (n := fs.length) hi h4 (by rw [inB_iff]; omega)
    rcases mostN_of (fs := fs) (m := m) (n := fs.length) with g | ⟨i', hi', g1, g2, g3, g4⟩
    · omega
    · have := lastT_ge (n := 50) (k := (mostN fs m fs.length).toNat) (by omega) (hasP_of hi' g1 (by omega))
      omega

end Go.Proofs.YtjgafkoboolclaaDoor
