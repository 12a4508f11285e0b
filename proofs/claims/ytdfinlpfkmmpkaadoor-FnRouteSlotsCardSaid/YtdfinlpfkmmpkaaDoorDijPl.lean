import Derived.Test.YtdfinlpfkmmpkaaDoorProg
namespace Go.Proofs.YtdfinlpfkmmpkaaDoor

/-! Least costs: by a queue, and by rounds. No program here. -/
def cntP (p : Nat → Bool) : Nat → Nat
  | 0 => 0
  | n + 1 => cntP p n + if p n then 1 else 0
theorem cntP_le (p : Nat → Bool) : ∀ n, cntP p n ≤ n
  | 0 => Nat.le_refl _
  | n + 1 => by have := cntP_le p n; simp only [cntP]; split <;> omega
theorem cntP_mono {p q : Nat → Bool} : ∀ {n : Nat}, (∀ i, i < n → p i = true → q i = true) → cntP p n ≤ cntP q n
  | 0, _ => Nat.le_refl _
  | n + 1, h => by
    have := cntP_mono (n := n) fun i hi => h i (by omega)
    simp only [cntP]
    cases hp : p n
    · simp only [Bool.false_eq_true, if_false]; omega
    · rw [h n (by omega) hp]; simp only [if_true]; omega
theorem cntP_lt {p q : Nat → Bool} : ∀ {n m : Nat}, (∀ i, i < n → p i = true → q i = true) → m < n → p m = false → q m = true → cntP p n < cntP q n
  | 0, _, _, h, _, _ => absurd h (Nat.not_lt_zero _)
  | n + 1, m, h, hm, h1, h2 => by
    simp only [cntP]
    by_cases e : m = n
    · subst e
      rw [h1, h2]
      have := cntP_mono (n := m) fun i hi => h i (by omega)
      simp only [Bool.false_eq_true, if_false, if_true]; omega
    · have := cntP_lt (n := n) (m := m) (fun i hi => h i (by omega)) (by omega) h1 h2
      cases hp : p n
      · simp only [Bool.false_eq_true, if_false]; omega
      · rw [h n (by omega) hp]; simp only [if_true]; omega
theorem cntP_add {p q : Nat → Bool} {m : Nat} (h1 : p m = false) (h2 : q m = true) (h : ∀ i, i ≠ m → q i = p i) : ∀ {n : Nat}, cntP q n = cntP p n + if m < n then 1 else 0
  | 0 => by simp [cntP]
  | n + 1 => by
    have ih := cntP_add h1 h2 h (n := n)
    simp only [cntP]
    by_cases e : n = m
    · subst e
      rw [ih, h1, h2, if_neg (Nat.lt_irrefl _), if_pos (Nat.lt_succ_self _)]
      simp
    · rw [ih, h n e]
      by_cases hlt : m < n
      · simp only [hlt, show m < n + 1 by omega, if_true]; omega
      · simp only [hlt, show ¬ m < n + 1 by omega, if_false]; omega
structure Least (t : Nat → Nat → Int) (n to : Nat) (c : Nat → Int) : Prop where
  lo : ∀ i, i < n → -1 ≤ c i
  zero : c to = 0
  tri : ∀ i j, i < n → j < n → 0 < t i j → 0 ≤ c j → 0 ≤ c i ∧ c i ≤ t i j + c j
  sup : ∀ i, i < n → i ≠ to → 0 ≤ c i → ∃ j, j < n ∧ 0 < t i j ∧ 0 ≤ c j ∧ c i = t i j + c j

/-! The rounds of the reference. -/
def stJ (t : Nat → Nat → Int) (c : Nat → Int) (i : Nat) : Nat → Int
  | 0 => c i
  | j + 1 => if 0 < t i j ∧ 0 ≤ c j ∧ (stJ t c i j < 0 ∨ t i j + c j < stJ t c i j) then t i j + c j else stJ t c i j
def rdC (t : Nat → Nat → Int) (n to : Nat) : Nat → Nat → Int
  | 0, i => if i = to then 0 else -1
  | k + 1, i => stJ t (rdC t n to k) i n
section
variable {t : Nat → Nat → Int} {n to : Nat} {c D : Nat → Int}
theorem stJ_lo {i : Nat} (h : -1 ≤ c i) : ∀ j, -1 ≤ stJ t c i j
  | 0 => h
  | j + 1 => by have := stJ_lo h j; simp only [stJ]; split <;> omega
theorem stJ_dec {i : Nat} (h : 0 ≤ c i) : ∀ j, 0 ≤ stJ t c i j ∧ stJ t c i j ≤ c i
  | 0 => ⟨h, Int.le_refl _⟩
  | j + 1 => by have := stJ_dec h j; simp only [stJ]; split <;> omega
theorem stJ_tri {i m : Nat} (h0 : 0 < t i m) (h1 : 0 ≤ c m) : ∀ j, m < j → 0 ≤ stJ t c i j ∧ stJ t c i j ≤ t i m + c m
  | 0, h => absurd h (Nat.not_lt_zero _)
  | j + 1, h => by
    by_cases e : m = j
    · subst e
      simp only [stJ]
      split
      · omega
      · next hn => omega
    · have := stJ_tri h0 h1 j (by omega)
      simp only [stJ]; split <;> omega
theorem stJ_low (hD : Least t n to D) {i : Nat} (hi : i < n) (hc : ∀ m, m < n → 0 ≤ c m → 0 ≤ D m ∧ D m ≤ c m) : ∀ j, j ≤ n → 0 ≤ stJ t c i j → 0 ≤ D i ∧ D i ≤ stJ t c i j
  | 0, _, h => hc i hi h
  | j + 1, hj, h => by
    simp only [stJ] at h ⊢
    split
    · next hh =>
      obtain ⟨h1, h2⟩ := hc j (by omega) hh.2.1
      have := hD.tri i j hi (by omega) hh.1 h1
      omega
    · next hh => rw [if_neg hh] at h; exact stJ_low hD hi hc j (by omega) h
theorem rdC_lo : ∀ k i, -1 ≤ rdC t n to k i
  | 0, i => by simp only [rdC]; split <;> omega
  | k + 1, i => stJ_lo (rdC_lo k i) n
theorem rdC_low (hD : Least t n to D) : ∀ k i, i < n → 0 ≤ rdC t n to k i → 0 ≤ D i ∧ D i ≤ rdC t n to k i
  | 0, i, _, h => by
    simp only [rdC] at h ⊢
    split
    · next e => subst e; rw [hD.zero]; omega
    · next e => rw [if_neg e] at h; omega
  | k + 1, i, hi, h => stJ_low hD hi (rdC_low hD k) n (Nat.le_refl _) h
def rnk (D : Nat → Int) (n i : Nat) : Nat := cntP (fun m => decide (0 ≤ D m) && decide (D m < D i)) n
theorem rnk_lt {i j : Nat} (hj : j < n) (h0 : 0 ≤ D j) (h : D j < D i) : rnk D n j < rnk D n i := by
  refine cntP_lt (m := j) (fun m hm h1 => ?_) hj ?_ ?_
  · simp only [Bool.and_eq_true, decide_eq_true_eq] at h1 ⊢; omega
  · simp
  · simp only [Bool.and_eq_true, decide_eq_true_eq]; omega
theorem rdC_up (hD : Least t n to D) (hto : to < n) : ∀ k i, i < n → 0 ≤ D i → rnk D n i ≤ k → 0 ≤ rdC t n to k i ∧ rdC t n to k i ≤ D i
  | 0, i, hi, h0, hr => by
    by_cases e : i = to
    · subst e; simp only [rdC, if_true, hD.zero]; omega
    · obtain ⟨j, hj, h1, h2, h3⟩ := hD.sup i hi e h0
      have := rnk_lt (D := D) (i := i) hj h2 (by omega)
      omega
  | k + 1, i, hi, h0, hr => by
    by_cases e : i = to
    · have hDi : D i = 0 := by rw [e]; exact hD.zero
      have hz : rnk D n i ≤ k := by
        have : rnk D n i = 0 := by
          unfold rnk
          rw [hDi]
          have : ∀ m, cntP (fun m => decide (0 ≤ D m) && decide (D m < 0)) m = 0 := by
            intro m
            induction m with
            | zero => rfl
            | succ m ih =>
              simp only [cntP]
              rw [ih]
              have : (decide (0 ≤ D m) && decide (D m < 0)) = false := by
                rw [Bool.and_eq_false_iff, decide_eq_false_iff_not, decide_eq_false_iff_not]; omega
              simp only [this, Bool.false_eq_true, if_false]
          exact this n
        omega
      have ih := rdC_up hD hto k i hi h0 hz
      have := stJ_dec (t := t) (c := rdC t n to k) ih.1 n
      simp only [rdC]; omega
    · obtain ⟨j, hj, h1, h2, h3⟩ := hD.sup i hi e h0
      have hlt := rnk_lt (D := D) (i := i) hj h2 (by omega)
      have ih := rdC_up hD hto k j hj h2 (by omega)
      have := stJ_tri (c := rdC t n to k) h1 ih.1 n hj
      simp only [rdC]; omega
/-- the rounds come to the least costs -/
theorem rdC_eq (hD : Least t n to D) (hto : to < n) {i : Nat} (hi : i < n) : rdC t n to n i = D i := by
  have h1 := rdC_lo (t := t) (n := n) (to := to) n i
  have h2 := hD.lo i hi
  by_cases h0 : 0 ≤ D i
  · have h3 := rdC_up hD hto n i hi h0 (cntP_le _ _)
    have h4 := rdC_low hD n i hi h3.1
    omega
  · have : ¬ 0 ≤ rdC t n to n i := fun h => h0 (rdC_low hD n i hi h).1
    omega
end

/-! The queue of the program. -/
def upN (c : Nat → Int) (s : Nat) (k : Int) : Nat → Int := fun i => if i = s then k else c i
theorem upN_eq {c : Nat → Int} {s : Nat} {k : Int} : upN c s k s = k := by simp [upN]
theorem upN_ne {c : Nat → Int} {s i : Nat} {k : Int} (h : i ≠ s) : upN c s k i = c i := by simp [upN, h]
def setN (c : Nat → Int) (n : Nat) : Nat := cntP (fun m => decide (0 ≤ c m)) n
structure Dj (t : Nat → Nat → Int) (n to : Nat) (c : Nat → Int) (Q : List (Int × Int)) (s m : Nat) : Prop where
  lo : ∀ i, i < n → -1 ≤ c i
  ent : ∀ q ∈ Q, ∃ i : Nat, i < n ∧ q.1 = (i : Int) ∧ ((i = to ∧ q.2 = 0) ∨ ∃ j, j < n ∧ 0 < t i j ∧ 0 ≤ c j ∧ q.2 = t i j + c j)
  tgt : c to = 0 ∨ (c to < 0 ∧ ((to : Int), (0 : Int)) ∈ Q)
  tri : ∀ i j, i < n → j < n → 0 < t i j → 0 ≤ c j → (j = s → i < m) → (0 ≤ c i ∧ c i ≤ t i j + c j) ∨ (c i < 0 ∧ ((i : Int), t i j + c j) ∈ Q)
  sup : ∀ i, i < n → i ≠ to → 0 ≤ c i → ∃ j, j < n ∧ 0 < t i j ∧ 0 ≤ c j ∧ c i = t i j + c j
  mono : ∀ i, i < n → 0 ≤ c i → ∀ q ∈ Q, c i ≤ q.2
  bnd : ∀ i, i < n → 0 ≤ c i → c i + 100 ≤ 100 * (setN c n : Int)
  bndQ : ∀ q ∈ Q, q.2 ≤ 100 * (setN c n : Int)
section
variable {t : Nat → Nat → Int} {n to : Nat} {c : Nat → Int} {Q Q' : List (Int × Int)} {s m : Nat}
theorem Dj.start (hto : to < n) (s : Nat) : Dj t n to (fun _ => -1) [((to : Int), (0 : Int))] s n := by
  refine ⟨fun i _ => by simp, fun q hq => ?_, .inr ⟨by decide, by simp⟩, fun i j _ _ _ h => absurd h (by decide), fun i _ _ h => absurd h (by decide), fun i _ h => absurd h (by decide), fun i _ h => absurd h (by decide), fun q hq => ?_⟩
  · simp only [List.mem_singleton] at hq; subst hq
    exact ⟨to, hto, rfl, .inl ⟨rfl, rfl⟩⟩
  · simp only [List.mem_singleton] at hq; subst hq
    simp only; omega
theorem Dj.any (h : Dj t n to c Q s n) (s' : Nat) : Dj t n to c Q s' n :=
  ⟨h.lo, h.ent, h.tgt, fun i j hi hj h1 h2 _ => h.tri i j hi hj h1 h2 fun _ => hi, h.sup, h.mono, h.bnd, h.bndQ⟩
/-- one that is settled already is dropped -/
theorem Dj.skip {q : Int × Int} {i : Nat} (h : Dj t n to c Q s n) (hQ : ∀ r, r ∈ Q ↔ r = q ∨ r ∈ Q') (hi : q.1 = (i : Int)) (hc : 0 ≤ c i) : Dj t n to c Q' s n := by
  have sub : ∀ r, r ∈ Q' → r ∈ Q := fun r hr => (hQ r).2 (.inr hr)
  refine ⟨h.lo, fun r hr => h.ent r (sub r hr), ?_, fun i' j hi' hj h1 h2 h3 => ?_, h.sup, fun i' hi' h0 r hr => h.mono i' hi' h0 r (sub r hr), h.bnd, fun r hr => h.bndQ r (sub r hr)⟩
  · rcases h.tgt with h1 | ⟨h1, h2⟩
    · exact .inl h1
    · refine .inr ⟨h1, ?_⟩
      rcases (hQ _).1 h2 with e | e
      · exfalso
        have : (to : Int) = (i : Int) := by rw [← hi, ← e]
        have : to = i := by omega
        subst this; omega
      · exact e
  · rcases h.tri i' j hi' hj h1 h2 h3 with h4 | ⟨h4, h5⟩
    · exact .inl h4
    · refine .inr ⟨h4, ?_⟩
      rcases (hQ _).1 h5 with e | e
      · exfalso
        have : (i' : Int) = (i : Int) := by rw [← hi, ← e]
        have : i' = i := by omega
        subst this; omega
      · exact e
theorem setN_up {k : Int} (hs : s < n) (h0 : c s < 0) (hk : 0 ≤ k) : setN (upN c s k) n = setN c n + 1 := by
  unfold setN
  rw [cntP_add (p := fun m => decide (0 ≤ c m)) (m := s) (by simp; omega) (by simp [upN_eq, hk]) (fun i hi => by simp [upN_ne hi]), if_pos hs]
/-- the nearest one is settled -/
theorem Dj.settle {q : Int × Int} {i : Nat} (h : Dj t n to c Q s n) (hQ : ∀ r, r ∈ Q ↔ r = q ∨ r ∈ Q') (hmin : ∀ r ∈ Q, q.2 ≤ r.2) (hi : q.1 = (i : Int)) (hc : c i < 0) :
    Dj t n to (upN c i q.2) Q' i 0 ∧ i < n ∧ 0 ≤ q.2 ∧ ∀ j, j < n → upN c i q.2 j ≤ q.2 := by
  have sub : ∀ r, r ∈ Q' → r ∈ Q := fun r hr => (hQ r).2 (.inr hr)
  have hq : q ∈ Q := (hQ q).2 (.inl rfl)
  obtain ⟨i2, hin, e2, hsup⟩ := h.ent q hq
  obtain rfl : i2 = i := by omega
  have hk : 0 ≤ q.2 := by
    rcases hsup with ⟨_, h1⟩ | ⟨j, _, h1, h2, h3⟩ <;> omega
  have hS := setN_up (n := n) (k := q.2) hin hc hk
  refine ⟨⟨fun j hj => ?_, fun r hr => ?_, ?_, fun i' j hi' hj h1 h2 h3 => ?_, fun i' hi' hne h0 => ?_, fun i' hi' h0 r hr => ?_, fun i' hi' h0 => ?_, fun r hr => ?_⟩, hin, hk, fun j hj => ?_⟩
  · by_cases e : j = i2
    · subst e; rw [upN_eq]; omega
    · rw [upN_ne e]; exact h.lo j hj
  · obtain ⟨i3, g1, g2, g3⟩ := h.ent r (sub r hr)
    refine ⟨i3, g1, g2, ?_⟩
    rcases g3 with g3 | ⟨j, hj, g3, g4, g5⟩
    · exact .inl g3
    · exact .inr ⟨j, hj, g3, by rw [upN_ne (by rintro rfl; omega)]; exact g4, by rw [upN_ne (by rintro rfl; omega)]; exact g5⟩
  · by_cases e : to = i2
    · subst e
      left
      rw [upN_eq]
      rcases h.tgt with h1 | ⟨h1, h2⟩
      · omega
      · have := hmin _ h2; simp only at this; omega
    · rw [upN_ne e]
      rcases h.tgt with h1 | ⟨h1, h2⟩
      · exact .inl h1
      · refine .inr ⟨h1, ?_⟩
        rcases (hQ _).1 h2 with e3 | e3
        · exfalso
          have : (to : Int) = (i2 : Int) := by rw [← hi, ← e3]
          omega
        · exact e3
  · have hne : j ≠ i2 := fun e => absurd (h3 e) (Nat.not_lt_zero _)
    rw [upN_ne hne] at h2 ⊢
    have h4 := h.tri i' j hi' hj h1 h2 fun _ => hi'
    by_cases e : i' = i2
    · subst e
      rw [upN_eq]
      rcases h4 with h4 | ⟨h4, h5⟩
      · omega
      · have := hmin _ h5; simp only at this; exact .inl ⟨hk, this⟩
    · rw [upN_ne e]
      rcases h4 with h4 | ⟨h4, h5⟩
      · exact .inl h4
      · refine .inr ⟨h4, ?_⟩
        rcases (hQ _).1 h5 with e3 | e3
        · exfalso
          have : (i' : Int) = (i2 : Int) := by rw [← hi, ← e3]
          omega
        · exact e3
  · by_cases e : i' = i2
    · subst e
      rw [upN_eq] at h0 ⊢
      rcases hsup with ⟨h1, _⟩ | ⟨j, hj, h1, h2, h3⟩
      · exact absurd h1 hne
      · exact ⟨j, hj, h1, by rw [upN_ne (by rintro rfl; omega)]; exact h2, by rw [upN_ne (by rintro rfl; omega)]; exact h3⟩
    · rw [upN_ne e] at h0 ⊢
      obtain ⟨j, hj, h1, h2, h3⟩ := h.sup i' hi' hne h0
      exact ⟨j, hj, h1, by rw [upN_ne (by rintro rfl; omega)]; exact h2, by rw [upN_ne (by rintro rfl; omega)]; exact h3⟩
  · by_cases e : i' = i2
    · subst e; rw [upN_eq]; exact hmin r (sub r hr)
    · rw [upN_ne e] at h0 ⊢; exact h.mono i' hi' h0 r (sub r hr)
  · have hb := h.bndQ q hq
    rw [hS]
    by_cases e : i' = i2
    · subst e; rw [upN_eq]; omega
    · rw [upN_ne e] at h0 ⊢; have := h.bnd i' hi' h0; omega
  · have := h.bndQ r (sub r hr)
    rw [hS]; omega
  · by_cases e : j = i2
    · subst e; rw [upN_eq]; exact Int.le_refl _
    · rw [upN_ne e]
      by_cases h0 : 0 ≤ c j
      · exact h.mono j hj h0 q hq
      · omega
theorem Dj.next (h : Dj t n to c Q s m) (hm : m < n) (htop : ∀ j, j < n → c j ≤ c s) (hn : ¬ (0 < t m s ∧ c m < 0)) : Dj t n to c Q s (m + 1) := by
  refine ⟨h.lo, h.ent, h.tgt, fun i j hi hj h1 h2 h3 => ?_, h.sup, h.mono, h.bnd, h.bndQ⟩
  by_cases e : j = s ∧ i = m
  · obtain ⟨rfl, rfl⟩ := e
    have := htop i hi
    omega
  · exact h.tri i j hi hj h1 h2 fun e2 => by have := h3 e2; omega
theorem Dj.push (h : Dj t n to c Q s m) (hm : m < n) (hs : s < n) (h0 : 0 ≤ c s) (htop : ∀ j, j < n → c j ≤ c s) (ht : 0 < t m s) (ht2 : t m s ≤ 100) (hc : c m < 0) (hQ : ∀ r, r ∈ Q' ↔ r = ((m : Int), c s + t m s) ∨ r ∈ Q) : Dj t n to c Q' s (m + 1) := by
  refine ⟨h.lo, fun r hr => ?_, ?_, fun i j hi hj h1 h2 h3 => ?_, h.sup, fun i hi hi0 r hr => ?_, h.bnd, fun r hr => ?_⟩
  · rcases (hQ r).1 hr with rfl | hr
    · exact ⟨m, hm, rfl, .inr ⟨s, hs, ht, h0, Int.add_comm _ _⟩⟩
    · exact h.ent r hr
  · rcases h.tgt with h1 | ⟨h1, h2⟩
    · exact .inl h1
    · exact .inr ⟨h1, (hQ _).2 (.inr h2)⟩
  · by_cases e : j = s ∧ i = m
    · obtain ⟨rfl, rfl⟩ := e
      exact .inr ⟨hc, (hQ _).2 (.inl (by rw [Int.add_comm]))⟩
    · rcases h.tri i j hi hj h1 h2 fun e2 => by have := h3 e2; omega with h4 | ⟨h4, h5⟩
      · exact .inl h4
      · exact .inr ⟨h4, (hQ _).2 (.inr h5)⟩
  · rcases (hQ r).1 hr with rfl | hr
    · have := htop i hi; simp only; omega
    · exact h.mono i hi hi0 r hr
  · rcases (hQ r).1 hr with rfl | hr
    · have := h.bnd s hs h0; simp only; omega
    · exact h.bndQ r hr
theorem Dj.finish (h : Dj t n to c [] s n) : Least t n to c := by
  refine ⟨h.lo, ?_, fun i j hi hj h1 h2 => ?_, h.sup⟩
  · rcases h.tgt with h1 | ⟨_, h2⟩
    · exact h1
    · cases h2
  · rcases h.tri i j hi hj h1 h2 fun _ => hi with h3 | ⟨_, h3⟩
    · exact h3
    · cases h3
end
theorem min_ex : ∀ {Q : List (Int × Int)}, Q ≠ [] → ∃ q ∈ Q, ∀ r ∈ Q, q.2 ≤ r.2
  | [], h => absurd rfl h
  | [q], _ => ⟨q, by simp, fun r hr => by simp only [List.mem_singleton] at hr; subst hr; exact Int.le_refl _⟩
  | a :: b :: L, _ => by
    obtain ⟨q, hq, hm⟩ := min_ex (Q := b :: L) (by simp)
    by_cases h : a.2 ≤ q.2
    · refine ⟨a, by simp, fun r hr => ?_⟩
      rcases List.mem_cons.1 hr with rfl | hr
      · exact Int.le_refl _
      · have := hm r hr; omega
    · refine ⟨q, List.mem_cons_of_mem _ hq, fun r hr => ?_⟩
      rcases List.mem_cons.1 hr with rfl | hr
      · omega
      · exact hm r hr
theorem Dj.rows {t : Nat → Nat → Int} {n to s : Nat} {c : Nat → Int} (hb : ∀ i j, i < n → j < n → t i j ≤ 100) (hs : s < n) (h0 : 0 ≤ c s) (htop : ∀ j, j < n → c j ≤ c s) : ∀ {m : Nat} {Q : List (Int × Int)}, Dj t n to c Q s 0 → m ≤ n → ∃ Q', Dj t n to c Q' s m ∧ Q'.length ≤ Q.length + m
  | 0, Q, h, _ => ⟨Q, h, Nat.le_refl _⟩
  | m + 1, Q, h, hm => by
    obtain ⟨Q', h', hl⟩ := Dj.rows hb hs h0 htop (m := m) h (by omega)
    by_cases hp : 0 < t m s ∧ c m < 0
    · exact ⟨((m : Int), c s + t m s) :: Q', h'.push (by omega) hs h0 htop hp.1 (hb m s (by omega) hs) hp.2 (fun r => List.mem_cons), by simp; omega⟩
    · exact ⟨Q', h'.next (by omega) htop hp, by omega⟩
theorem least_go {t : Nat → Nat → Int} {n to : Nat} (hb : ∀ i j, i < n → j < n → t i j ≤ 100) : ∀ (M : Nat) {s : Nat} {c : Nat → Int} {Q : List (Int × Int)}, Dj t n to c Q s n → (n - setN c n) * (n + 1) + Q.length ≤ M → ∃ c, Least t n to c
  | 0, s, c, Q, h, hM => by
    obtain rfl : Q = [] := List.eq_nil_of_length_eq_zero (by omega)
    exact ⟨c, h.finish⟩
  | M + 1, s, c, Q, h, hM => by
    by_cases hQ : Q = []
    · subst hQ; exact ⟨c, h.finish⟩
    · obtain ⟨q, hq, hmin⟩ := min_ex hQ
      obtain ⟨i, hi, hqi, -⟩ := h.ent q hq
      have hmem : ∀ r, r ∈ Q ↔ r = q ∨ r ∈ Q.erase q := fun r => by rw [(List.perm_cons_erase hq).mem_iff, List.mem_cons]
      have hlen : Q.length = (Q.erase q).length + 1 := by rw [(List.perm_cons_erase hq).length_eq]; rfl
      by_cases hc : 0 ≤ c i
      · exact least_go hb M (h.skip hmem hqi hc) (by omega)
      · obtain ⟨h1, -, h3, h4⟩ := h.settle hmem hmin hqi (by omega)
        obtain ⟨Q', h5, h6⟩ := Dj.rows (m := n) hb hi (by rw [upN_eq]; exact h3) (by rw [upN_eq]; exact h4) h1 (Nat.le_refl _)
        refine least_go hb M h5 ?_
        have hset := setN_up (n := n) (c := c) (k := q.2) hi (by omega) h3
        have hle := cntP_le (fun m => decide (0 ≤ upN c i q.2 m)) n
        have hle2 : setN (upN c i q.2) n ≤ n := hle
        rw [hset] at hle2 ⊢
        have e : n - setN c n = (n - (setN c n + 1)) + 1 := by omega
        rw [e, Nat.add_mul] at hM
        omega
/-- there are least costs -/
theorem least_ex {t : Nat → Nat → Int} {n to : Nat} (hto : to < n) (hb : ∀ i j, i < n → j < n → t i j ≤ 100) : ∃ c, Least t n to c := least_go hb _ (Dj.start hto 0) (Nat.le_refl _)
theorem rdC_least {t : Nat → Nat → Int} {n to : Nat} (hto : to < n) (hb : ∀ i j, i < n → j < n → t i j ≤ 100) : Least t n to (rdC t n to n) := by
  obtain ⟨c, hc⟩ := least_ex hto hb
  have e : ∀ i, i < n → rdC t n to n i = c i := fun i hi => rdC_eq hc hto hi
  refine ⟨fun i hi => ?_, ?_, fun i j hi hj h1 h2 => ?_, fun i hi hne h0 => ?_⟩
  · rw [e i hi]; exact hc.lo i hi
  · rw [e to hto]; exact hc.zero
  · rw [e j hj] at h2 ⊢; rw [e i hi]; exact hc.tri i j hi hj h1 h2
  · rw [e i hi] at h0 ⊢
    obtain ⟨j, hj, h1, h2, h3⟩ := hc.sup i hi hne h0
    exact ⟨j, hj, h1, by rw [e j hj]; exact h2, by rw [e j hj]; exact h3⟩
end Go.Proofs.YtdfinlpfkmmpkaaDoor
