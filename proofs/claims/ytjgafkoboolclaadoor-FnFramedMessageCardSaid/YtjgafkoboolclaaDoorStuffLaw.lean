import Derived.Test.YtjgafkoboolclaaDoorProg
import Derived.Test.YtjgafkoboolclaaDoorSym
import Derived.Test.YtjgafkoboolclaaDoorInts
import Derived.Test.YtjgafkoboolclaaDoorApp
import Derived.Test.YtjgafkoboolclaaDoorStuff
import Derived.Test.YtjgafkoboolclaaDoorDrawBits
namespace Go.Proofs.YtjgafkoboolclaaDoor
open Go.RowKit

theorem gi_take {xs : List Int} {n i : Nat} (h : i < n) : gi (xs.take n) i = gi xs i := by
  unfold gi; simp [List.getElem?_take, h]
theorem unS_append {xs ys : List Int} : ∀ k, k ≤ xs.length → unS (xs ++ ys) k = unS xs k
  | 0, _ => rfl
  | k + 1, h => by simp only [unS, unS_append (xs := xs) (ys := ys) k (by omega), gi_append_left (show k < xs.length by omega)]
/-- what is stuffed comes back -/
theorem un_st {bs : List Int} (hb : ∀ i, i < bs.length → gi bs i = 0 ∨ gi bs i = 1) : ∀ k, k ≤ bs.length → unS (stS bs k).1 (stS bs k).1.length = some (bs.take k, (stS bs k).2)
  | 0, _ => by simp [stS, unS]
  | k + 1, hk => by
    have ih := un_st hb k (by omega)
    have hbd := (stS_bd bs k).1
    rw [ext_take_succ (show k < bs.length by omega)]
    rcases hb k (by omega) with h | h
    · rw [stS_0 h, h]
      simp only [List.length_append, List.length_cons, List.length_nil, Nat.zero_add]
      have h1 : unS ((stS bs k).1 ++ [0]) (stS bs k).1.length = some (bs.take k, (stS bs k).2) := by rw [unS_append _ (Nat.le_refl _)]; exact ih
      exact unS_0 h1 (by omega) gi_append_at
    · by_cases h4 : (stS bs k).2 + 1 < 5
      · rw [stS_1 h h4, h]
        simp only [List.length_append, List.length_cons, List.length_nil, Nat.zero_add]
        have h1 : unS ((stS bs k).1 ++ [1]) (stS bs k).1.length = some (bs.take k, (stS bs k).2) := by rw [unS_append _ (Nat.le_refl _)]; exact ih
        exact unS_1 h1 (by omega) gi_append_at
      · rw [stS_5 h h4, h]
        simp only [List.length_append, List.length_cons, List.length_nil, Nat.zero_add]
        have h1 : unS ((stS bs k).1 ++ [1]) (stS bs k).1.length = some (bs.take k, (stS bs k).2) := by rw [unS_append _ (Nat.le_refl _)]; exact ih
        have h2 := unS_1 h1 (by omega) gi_append_at
        have e4 : (stS bs k).2 + 1 = 5 := by omega
        rw [e4] at h2
        have h3 : unS ((stS bs k).1 ++ [1] ++ [0]) ((stS bs k).1.length + 1) = some (bs.take k ++ [1], 5) := by rw [unS_append _ (by simp)]; exact h2
        refine unS_skip h3 ?_
        rw [show (stS bs k).1.length + 1 = ((stS bs k).1 ++ [1]).length by simp]
        exact gi_append_at
theorem unR_st {bs : List Int} (h : bitsB bs = true) (hl : bs.length ≤ 512) : unR (stV bs) = (bs, true) := by
  have hb := (bitsB_true.1 h).2
  have h1 := un_st hb bs.length (Nat.le_refl _)
  rw [List.take_length] at h1
  have hbd := (stS_bd bs bs.length).1
  rw [stV_ok h hl]
  exact unR_ok h1 (by omega) hl
/-- how the ones run, as the law counts them -/
theorem un_runs {xs : List Int} {out : List Int} {o n : Nat} (h : unS xs n = some (out, o)) : ∀ k, k ≤ n → ∃ out' o', unS xs k = some (out', o')
  | k, hk => by
    cases hu : unS xs k with
    | none =>
      have := unS_none hu (n - k)
      rw [Nat.add_sub_cancel' hk, h] at this
      cases this
    | some q => exact ⟨q.1, q.2, rfl⟩
theorem un_step {xs : List Int} {k o o' : Nat} {out out' : List Int} (h : unS xs k = some (out, o)) (h' : unS xs (k + 1) = some (out', o')) : (gi xs k = 0 ∨ gi xs k = 1) ∧ ((o : Int) + 1) * gi xs k = o' := by
  by_cases h0 : gi xs k = 0
  · refine ⟨.inl h0, ?_⟩
    by_cases h5 : o = 5
    · subst h5; rw [unS_skip h h0] at h'; simp at h'; rw [h0]; simp; omega
    · rw [unS_0 h h5 h0] at h'; simp at h'; rw [h0]; simp; omega
  · by_cases h1 : gi xs k = 1
    · refine ⟨.inr h1, ?_⟩
      by_cases h5 : o = 5
      · subst h5; rw [unS_full h h0] at h'; cases h'
      · rw [unS_1 h h5 h1] at h'; simp at h'; rw [h1]; omega
    · rw [unS_bad h h0 h1] at h'; cases h'


theorem stS_append {xs ys : List Int} : ∀ k, k ≤ xs.length → stS (xs ++ ys) k = stS xs k
  | 0, _ => rfl
  | k + 1, h => by simp only [stS, stS_append (xs := xs) (ys := ys) k (by omega), gi_append_left (show k < xs.length by omega)]
/-- what is unstuffed, stuffed again -/
theorem st_un {bs : List Int} : ∀ n out o, n ≤ bs.length → unS bs n = some (out, o) → (o < 5 → stS out out.length = (bs.take n, o)) ∧ (o = 5 → stS out out.length = (bs.take n ++ [0], 0)) ∧ ∀ i, i < out.length → gi out i = 0 ∨ gi out i = 1
  | 0, out, o, _, h => by simp [unS] at h; obtain ⟨rfl, rfl⟩ := h; simp [stS]
  | n + 1, out, o, hn, h => by
    cases hk : unS bs n with
    | none => simp [unS, hk] at h
    | some q =>
      obtain ⟨out', o'⟩ := q
      obtain ⟨i1, i2, i3⟩ := st_un n out' o' (by omega) hk
      have h5 := (unS_bd hk).1
      have bits1 : ∀ x : Int, (x = 0 ∨ x = 1) → ∀ i, i < (out' ++ [x]).length → gi (out' ++ [x]) i = 0 ∨ gi (out' ++ [x]) i = 1 := by
        intro x hx i hi
        simp only [List.length_append, List.length_cons, List.length_nil] at hi
        rcases Nat.lt_succ_iff_lt_or_eq.1 hi with h1 | rfl
        · rw [gi_append_left h1]; exact i3 i h1
        · rw [gi_append_at]; exact hx
      have tk := ext_take_succ (show n < bs.length by omega)
      have len1 : ∀ x : Int, (out' ++ [x]).length = out'.length + 1 := fun x => by simp
      by_cases e5 : o' = 5
      · subst e5
        by_cases hb : gi bs n = 0
        · rw [unS_skip hk hb] at h
          simp at h; obtain ⟨rfl, rfl⟩ := h
          refine ⟨fun _ => ?_, fun e => by omega, i3⟩
          rw [i2 rfl, tk, hb]
        · rw [unS_full hk hb] at h; cases h
      · by_cases hb : gi bs n = 0
        · rw [unS_0 hk e5 hb] at h
          simp at h; obtain ⟨rfl, rfl⟩ := h
          refine ⟨fun _ => ?_, fun e => by omega, bits1 0 (.inl rfl)⟩
          rw [len1, stS_0 gi_append_at, stS_append _ (Nat.le_refl _), i1 (by omega), tk, hb]
        · by_cases hb1 : gi bs n = 1
          · rw [unS_1 hk e5 hb1] at h
            simp at h; obtain ⟨rfl, rfl⟩ := h
            have hs := i1 (by omega)
            refine ⟨fun e => ?_, fun e => ?_, bits1 1 (.inr rfl)⟩
            · rw [len1, stS_1 gi_append_at (by rw [stS_append _ (Nat.le_refl _), hs]; exact e), stS_append _ (Nat.le_refl _), hs, tk, hb1]
            · rw [len1, stS_5 gi_append_at (by rw [stS_append _ (Nat.le_refl _), hs]; show ¬ o' + 1 < 5; omega), stS_append _ (Nat.le_refl _), hs, tk, hb1]
          · rw [unS_bad hk hb hb1] at h; cases h
theorem unR_true {bs out : List Int} (h : unR bs = (out, true)) : stV out = bs := by
  unfold unR at h
  split at h
  · next out' o hu =>
    split at h
    · cases h
    · next hc =>
      simp at h; subst h
      obtain ⟨i1, i2, i3⟩ := st_un bs.length out' o (Nat.le_refl _) hu
      have h5 := (unS_bd hu).1
      rw [stV_ok (bitsB_true.2 ⟨by omega, i3⟩) (by omega), i1 (by omega)]
      simp
  · cases h
theorem unR_false {bs out : List Int} (h : unR bs = (out, false)) : out = [] := by
  unfold unR at h
  split at h
  · split at h
    · simp at h; exact h
    · cases h
  · simp at h; exact h
/-- six ones at the end are not accepted -/
theorem un_six (bs : List Int) : unR (bs ++ [1, 1, 1, 1, 1, 1]) = ([], false) := by
  have hg : ∀ j, j < 6 → gi (bs ++ [1, 1, 1, 1, 1, 1]) (bs.length + j) = 1 := by
    intro j hj
    unfold gi
    obtain rfl | rfl | rfl | rfl | rfl | rfl : j = 0 ∨ j = 1 ∨ j = 2 ∨ j = 3 ∨ j = 4 ∨ j = 5 := by omega
    all_goals simp [List.getElem?_append_right]
  have hlen : (bs ++ [1, 1, 1, 1, 1, 1] : List Int).length = bs.length + 6 := by simp
  cases hu : unS (bs ++ [1, 1, 1, 1, 1, 1]) bs.length with
  | none => exact unR_none hu (by omega)
  | some q =>
    obtain ⟨out, o⟩ := q
    have h5 := (unS_bd hu).1
    have each : ∀ j, o + j ≤ 5 → ∃ out', unS (bs ++ [1, 1, 1, 1, 1, 1]) (bs.length + j) = some (out', o + j) := by
      intro j
      induction j with
      | zero => intro _; exact ⟨out, hu⟩
      | succ j ih =>
        intro hj
        obtain ⟨out', h'⟩ := ih (by omega)
        exact ⟨_, unS_1 h' (show o + j ≠ 5 by omega) (hg j (by omega))⟩
    obtain ⟨out', h'⟩ := each (5 - o) (by omega)
    rw [show o + (5 - o) = 5 by omega] at h'
    exact unR_none (unS_full h' (by rw [hg _ (by omega)]; decide)) (by omega)


end Go.Proofs.YtjgafkoboolclaaDoor
