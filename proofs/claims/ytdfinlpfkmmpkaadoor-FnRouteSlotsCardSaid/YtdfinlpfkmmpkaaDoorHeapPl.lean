import Derived.Test.YtdfinlpfkmmpkaaDoorProg
namespace Go.Proofs.YtdfinlpfkmmpkaaDoor

/-! A heap in a list, ordered by a number of each element: no program here. -/
section
variable {α : Type} [Inhabited α]
def ht (xs : List α) (i : Nat) : α := xs.getD i default
def swL (xs : List α) (i j : Nat) : List α := (xs.set i (ht xs j)).set j (ht xs i)
theorem ht_get {xs : List α} {i : Nat} (h : i < xs.length) : ht xs i = xs[i] := by simp [ht, h]
theorem ht_mem {xs : List α} {i : Nat} (h : i < xs.length) : ht xs i ∈ xs := by rw [ht_get h]; exact List.getElem_mem h
theorem ht_ex {xs : List α} {x : α} (h : x ∈ xs) : ∃ i, i < xs.length ∧ ht xs i = x := by
  obtain ⟨i, hi, rfl⟩ := List.getElem_of_mem h
  exact ⟨i, hi, ht_get hi⟩
theorem swL_len (xs : List α) (i j : Nat) : (swL xs i j).length = xs.length := by simp [swL]
theorem ht_set {xs : List α} {i m : Nat} {x : α} (h : i < xs.length) : ht (xs.set i x) m = if m = i then x else ht xs m := by
  unfold ht
  by_cases e : m = i
  · subst e; simp [h]
  · have : i ≠ m := fun q => e q.symm
    simp [e, this]
theorem ht_sw {xs : List α} {i j m : Nat} (hi : i < xs.length) (hj : j < xs.length) : ht (swL xs i j) m = if m = j then ht xs i else if m = i then ht xs j else ht xs m := by
  unfold swL
  rw [ht_set (by rw [List.length_set]; exact hj), ht_set hi]
theorem swL_perm {xs : List α} {i j : Nat} (hi : i < xs.length) (hj : j < xs.length) : (swL xs i j).Perm xs := by
  have h := Array.perm_iff_toList_perm.1 (Array.swap_perm (xs := xs.toArray) (i := i) (j := j) (by simpa using hi) (by simpa using hj))
  rw [Array.toList_swap] at h
  unfold swL
  rw [ht_get hi, ht_get hj]
  simpa using h
theorem ht_app {xs ys : List α} {i : Nat} (h : i < xs.length) : ht (xs ++ ys) i = ht xs i := by
  unfold ht; rw [List.getD_eq_getElem?_getD, List.getElem?_append_left h, List.getD_eq_getElem?_getD]
theorem ht_last {xs : List α} {x : α} : ht (xs ++ [x]) xs.length = x := by simp [ht]
theorem ht_take {xs : List α} {n i : Nat} (h : i < n) : ht (xs.take n) i = ht xs i := by
  unfold ht; rw [List.getD_eq_getElem?_getD, List.getElem?_take, if_pos h, List.getD_eq_getElem?_getD]
end
/-- the heap's order among the first n -/
def HeapK (k : Nat → Int) (n : Nat) : Prop := ∀ i, 0 < i → i < n → k ((i - 1) / 2) ≤ k i
structure UpInv (k : Nat → Int) (n j : Nat) : Prop where
  par : ∀ i, 0 < i → i < n → i ≠ j → k ((i - 1) / 2) ≤ k i
  gr : ∀ i, 0 < i → i < n → (i - 1) / 2 = j → 0 < j → k ((j - 1) / 2) ≤ k i
structure DownInv (k : Nat → Int) (n j : Nat) : Prop where
  par : ∀ i, 0 < i → i < n → (i - 1) / 2 ≠ j → k ((i - 1) / 2) ≤ k i
  gr : ∀ i, 0 < i → i < n → (i - 1) / 2 = j → 0 < j → k ((j - 1) / 2) ≤ k i
theorem UpInv.done {k : Nat → Int} {n j : Nat} (h : UpInv k n j) (hj : j = 0 ∨ k ((j - 1) / 2) ≤ k j) : HeapK k n := fun i h0 hn => by
  by_cases e : i = j
  · subst e
    rcases hj with rfl | hj
    · exact absurd h0 (Nat.lt_irrefl _)
    · exact hj
  · exact h.par i h0 hn e
theorem UpInv.step {k k' : Nat → Int} {n j p : Nat} (h : UpInv k n j) (hp : (j - 1) / 2 = p) (h0 : 0 < j) (hn : j < n) (hlt : k j < k p)
    (e1 : k' j = k p) (e2 : k' p = k j) (e3 : ∀ m, m ≠ j → m ≠ p → k' m = k m) : UpInv k' n p := by
  have hpj : p < j := by omega
  refine ⟨fun i hi0 hin hne => ?_, fun i hi0 hin hpar hp0 => ?_⟩
  · by_cases hij : i = j
    · subst hij
      rw [hp, e1, e2]; omega
    · rw [e3 i hij hne]
      by_cases hq : (i - 1) / 2 = j
      · rw [hq, e1, ← hp]; exact h.gr i hi0 hin hq h0
      · by_cases hq2 : (i - 1) / 2 = p
        · rw [hq2, e2]
          have := h.par i hi0 hin hij
          rw [hq2] at this; omega
        · rw [e3 _ hq hq2]; exact h.par i hi0 hin hij
  · have hpp : (p - 1) / 2 < p := by omega
    rw [e3 ((p - 1) / 2) (by omega) (by omega)]
    have h1 := h.par p hp0 (by omega) (by omega)
    by_cases hij : i = j
    · subst hij; rw [e1]; exact h1
    · rw [e3 i hij (by omega)]
      have := h.par i hi0 hin hij
      rw [hpar] at this; omega
theorem UpInv.start {k : Nat → Int} {n : Nat} (h : HeapK k n) : UpInv k (n + 1) n :=
  ⟨fun i h0 hn hne => h i h0 (by omega), fun i h0 hn hp h0' => by omega⟩
theorem DownInv.done {k : Nat → Int} {n j : Nat} (h : DownInv k n j) (hj : ∀ i, 0 < i → i < n → (i - 1) / 2 = j → k j ≤ k i) : HeapK k n := fun i h0 hn => by
  by_cases e : (i - 1) / 2 = j
  · rw [e]; exact hj i h0 hn e
  · exact h.par i h0 hn e
theorem DownInv.step {k k' : Nat → Int} {n i j : Nat} (h : DownInv k n i) (hp : (j - 1) / 2 = i) (h0 : 0 < j) (hn : j < n) (hmin : ∀ m, 0 < m → m < n → (m - 1) / 2 = i → k j ≤ k m) (hlt : k j < k i)
    (e1 : k' i = k j) (e2 : k' j = k i) (e3 : ∀ m, m ≠ j → m ≠ i → k' m = k m) : DownInv k' n j := by
  have hij : i < j := by omega
  refine ⟨fun m hm0 hmn hne => ?_, fun m hm0 hmn hpar hj0 => ?_⟩
  · by_cases hmj : m = j
    · subst hmj; rw [hp, e1, e2]; omega
    · by_cases hmi : m = i
      · subst hmi
        rw [e1, e3 _ hne (by omega)]
        exact h.gr j h0 hn hp hm0
      · rw [e3 m hmj hmi]
        by_cases hq : (m - 1) / 2 = i
        · rw [hq, e1]; exact hmin m hm0 hmn hq
        · rw [e3 _ hne hq]; exact h.par m hm0 hmn hq
  · rw [hp, e1, e3 m (by omega) (by omega)]
    have := h.par m hm0 hmn (by omega)
    rwa [hpar] at this
/-- the first and the last have changed places -/
theorem DownInv.start {k k' : Nat → Int} {n : Nat} (h : HeapK k (n + 1)) (e3 : ∀ m, m ≠ 0 → m ≠ n → k' m = k m) : DownInv k' n 0 :=
  ⟨fun i h0 hn hne => by rw [e3 i (by omega) (by omega), e3 _ hne (by omega)]; exact h i h0 (by omega), fun i _ _ _ h => absurd h (Nat.lt_irrefl _)⟩
theorem HeapK.min {k : Nat → Int} {n : Nat} (h : HeapK k n) : ∀ m, m < n → k 0 ≤ k m := by
  intro m
  induction m using Nat.strongRecOn with
  | ind m ih =>
    intro hm
    rcases Nat.eq_zero_or_pos m with rfl | h0
    · omega
    · have := ih ((m - 1) / 2) (by omega) (by omega)
      have := h m h0 hm
      omega
theorem HeapK.congr {k k' : Nat → Int} {n : Nat} (h : HeapK k n) (e : ∀ i, i < n → k' i = k i) : HeapK k' n := fun i h0 hn => by
  rw [e i hn, e _ (by omega)]; exact h i h0 hn
theorem UpInv.congr {k k' : Nat → Int} {n j : Nat} (h : UpInv k n j) (e : ∀ i, k' i = k i) : UpInv k' n j := by
  have : k' = k := funext e
  rwa [this]
end Go.Proofs.YtdfinlpfkmmpkaaDoor
