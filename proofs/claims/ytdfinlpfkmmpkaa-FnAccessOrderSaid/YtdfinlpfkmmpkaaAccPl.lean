import Derived.Test.YtdfinlpfkmmpkaaProg
import Derived.Test.YtdfinlpfkmmpkaaLib
namespace Go.Proofs.Ytdfinlpfkmmpkaa

/-! Senders: by slots. No program here. -/
structure Sd where
  w : Int
  s : Int
  f : Int
  o : Int
def nxS (s : Int) : Int := (1229 * s + 1) % 2048
def bkS (s a : Int) : Int := s / 8 % 2 ^ (min a 6).toNat
def flS (t : Int) (x : Sd) : Sd := ⟨t + (1 + bkS (nxS x.s) (min (x.f + 1) 100)), nxS x.s, x.f + 1, x.o⟩
def dueS (n : Nat) (σ : Nat → Sd) (t : Int) (k : Nat) : Bool := decide (k < n) && decide ((σ k).o < 0) && decide ((σ k).w = t)
def grpS (n : Nat) (σ : Nat → Sd) (t : Int) : List Nat := (List.range n).filter (dueS n σ t)
def stpS (n : Nat) (t : Int) (σ : Nat → Sd) : Nat → Sd := fun k =>
  if dueS n σ t k then (if (grpS n σ t).length = 1 then { σ k with o := t } else flS t (σ k)) else σ k
def runS (n : Nat) (σ : Nat → Sd) : Nat → Nat → Sd
  | 0 => σ
  | t + 1 => stpS n (t : Int) (runS n σ t)
def iniS (seeds : List Int) (k : Nat) : Sd := ⟨0, gi seeds k, 0, -1⟩
def acB (seeds : List Int) : Bool := decide (seeds.length ≤ 8) && (List.range seeds.length).all fun k => decide (0 ≤ gi seeds k) && decide (gi seeds k ≤ 2047)
def outL (n : Nat) (σ : Nat → Sd) : List Int := (List.range n).map fun k => (σ k).o
def acV (seeds : List Int) : List Int := if acB seeds then outL seeds.length (runS seeds.length (iniS seeds) 400) else []
theorem acB_true {seeds : List Int} : acB seeds = true ↔ seeds.length ≤ 8 ∧ ∀ k, k < seeds.length → 0 ≤ gi seeds k ∧ gi seeds k ≤ 2047 := by simp [acB]
theorem dueS_true {n : Nat} {σ : Nat → Sd} {t : Int} {k : Nat} : dueS n σ t k = true ↔ k < n ∧ (σ k).o < 0 ∧ (σ k).w = t := by simp [dueS, and_assoc]
theorem mem_grpS {n : Nat} {σ : Nat → Sd} {t : Int} {k : Nat} : k ∈ grpS n σ t ↔ dueS n σ t k = true := by
  unfold grpS
  rw [List.mem_filter, List.mem_range]
  exact ⟨fun h => h.2, fun h => ⟨(dueS_true.1 h).1, h⟩⟩
theorem bkS_bd {s a : Int} (h0 : 0 ≤ s) (ha : 0 ≤ a) : 0 ≤ bkS s a ∧ bkS s a < 64 := by
  unfold bkS
  have h1 : (2 : Int) ^ (min a 6).toNat ≤ 2 ^ 6 := by
    have : (min a 6).toNat ≤ 6 := by omega
    have h2 : (2 : Nat) ^ (min a 6).toNat ≤ 2 ^ 6 := Nat.pow_le_pow_right (by decide) this
    exact_mod_cast h2
  have h0' : (0 : Int) < 2 ^ (min a 6).toNat := Int.pow_pos (by decide)
  have := Int.emod_nonneg (s / 8) (Int.ne_of_gt h0')
  have := Int.emod_lt_of_pos (s / 8) h0'
  have : (2 : Int) ^ 6 = 64 := by decide
  omega
theorem nxS_bd {s : Int} : 0 ≤ nxS s ∧ nxS s ≤ 2047 := by unfold nxS; omega
/-- what holds of the states behind t slots -/
structure OkS (n : Nat) (t : Int) (σ : Nat → Sd) : Prop where
  s : ∀ k, k < n → 0 ≤ (σ k).s ∧ (σ k).s ≤ 2047
  f : ∀ k, k < n → 0 ≤ (σ k).f ∧ (σ k).f ≤ t
  w : ∀ k, k < n → 0 ≤ (σ k).w ∧ (σ k).w ≤ t + 64
  o : ∀ k, k < n → (σ k).o = -1 ∨ (0 ≤ (σ k).o ∧ (σ k).o < t)
  a : ∀ k, k < n → (σ k).o < 0 → t ≤ (σ k).w
  d : ∀ j k, j < n → k < n → j ≠ k → 0 ≤ (σ k).o → (σ j).o ≠ (σ k).o
theorem OkS.start {seeds : List Int} (h : acB seeds = true) : OkS seeds.length 0 (iniS seeds) := by
  obtain ⟨_, h2⟩ := acB_true.1 h
  refine ⟨fun k hk => h2 k hk, fun k _ => by simp [iniS], fun k _ => by simp [iniS], fun k _ => .inl rfl, fun k _ _ => by simp [iniS], fun j k _ _ _ h => ?_⟩
  simp [iniS] at h
theorem grp_one {n : Nat} {σ : Nat → Sd} {t : Int} (h : (grpS n σ t).length = 1) {j k : Nat} (hj : dueS n σ t j = true) (hk : dueS n σ t k = true) : j = k := by
  obtain ⟨x, hx⟩ := List.length_eq_one_iff.1 h
  have h1 := mem_grpS.2 hj
  have h2 := mem_grpS.2 hk
  rw [hx, List.mem_singleton] at h1 h2
  omega
theorem OkS.step {n : Nat} {t : Int} {σ : Nat → Sd} (h : OkS n t σ) (ht : 0 ≤ t) : OkS n (t + 1) (stpS n t σ) := by
  have hf : ∀ k, k < n → 0 ≤ bkS (nxS (σ k).s) (min ((σ k).f + 1) 100) ∧ bkS (nxS (σ k).s) (min ((σ k).f + 1) 100) < 64 := fun k hk => by
    have := h.f k hk
    exact bkS_bd nxS_bd.1 (by omega)
  refine ⟨fun k hk => ?_, fun k hk => ?_, fun k hk => ?_, fun k hk => ?_, fun k hk ho => ?_, fun j k hj hk hne ho => ?_⟩
  · unfold stpS; split
    · split
      · exact h.s k hk
      · exact nxS_bd
    · exact h.s k hk
  · have := h.f k hk
    unfold stpS; split
    · split
      · show 0 ≤ (σ k).f ∧ (σ k).f ≤ t + 1; omega
      · show 0 ≤ (σ k).f + 1 ∧ (σ k).f + 1 ≤ t + 1; omega
    · omega
  · have h1 := h.w k hk
    have h2 := hf k hk
    unfold stpS; split
    · split
      · show 0 ≤ (σ k).w ∧ (σ k).w ≤ t + 1 + 64; omega
      · show 0 ≤ t + (1 + _) ∧ t + (1 + _) ≤ t + 1 + 64; omega
    · omega
  · have h1 := h.o k hk
    unfold stpS; split
    · split
      · right; show 0 ≤ t ∧ t < t + 1; omega
      · show (σ k).o = -1 ∨ 0 ≤ (σ k).o ∧ (σ k).o < t + 1; omega
    · omega
  · have h2 := hf k hk
    unfold stpS at ho ⊢; split at ho
    · next hd =>
      rw [if_pos hd]
      split at ho
      · exact absurd ho (Int.not_lt.2 ht)
      · next hn => rw [if_neg hn]; show t + 1 ≤ t + (1 + _); omega
    · next hd =>
      rw [if_neg hd]
      have h3 := h.a k hk ho
      have : (σ k).w ≠ t := fun e => hd (dueS_true.2 ⟨hk, ho, e⟩)
      omega
  · have hoj := h.o j hj
    have hok := h.o k hk
    have hdj := h.d j k hj hk hne
    by_cases d1 : dueS n σ t j = true
    · by_cases d2 : dueS n σ t k = true
      · by_cases d3 : (grpS n σ t).length = 1
        · exact absurd (grp_one d3 d1 d2) hne
        · simp only [stpS, if_pos d1, if_pos d2, if_neg d3] at ho ⊢
          exact hdj ho
      · by_cases d3 : (grpS n σ t).length = 1
        · simp only [stpS, if_pos d1, if_neg d2, if_pos d3] at ho ⊢
          show t ≠ (σ k).o
          omega
        · simp only [stpS, if_pos d1, if_neg d2, if_neg d3] at ho ⊢
          exact hdj ho
    · by_cases d2 : dueS n σ t k = true
      · by_cases d3 : (grpS n σ t).length = 1
        · simp only [stpS, if_neg d1, if_pos d2, if_pos d3] at ho ⊢
          show (σ j).o ≠ t
          omega
        · simp only [stpS, if_neg d1, if_pos d2, if_neg d3] at ho ⊢
          exact hdj ho
      · simp only [stpS, if_neg d1, if_neg d2] at ho ⊢
        exact hdj ho
theorem OkS.run {seeds : List Int} (h : acB seeds = true) : ∀ t : Nat, OkS seeds.length (t : Int) (runS seeds.length (iniS seeds) t)
  | 0 => OkS.start h
  | t + 1 => by have := (OkS.run h t).step (by omega); simpa [runS] using this
/-- slots at which nobody is due are passed over -/
theorem runS_skip {n : Nat} {σ : Nat → Sd} : ∀ (d t : Nat), (∀ k, k < n → ((runS n σ t) k).o < 0 → ((t + d : Nat) : Int) ≤ ((runS n σ t) k).w) → runS n σ (t + d) = runS n σ t
  | 0, t, _ => rfl
  | d + 1, t, h => by
    have ih := runS_skip d t (fun k hk ho => by have := h k hk ho; omega)
    have : runS n σ (t + d + 1) = stpS n ((t + d : Nat) : Int) (runS n σ (t + d)) := rfl
    rw [← Nat.add_assoc, this, ih]
    funext k
    unfold stpS
    split
    · next hd =>
      obtain ⟨h1, h2, h3⟩ := dueS_true.1 hd
      have := h k h1 h2; omega
    · rfl
theorem outL_len (n : Nat) (σ : Nat → Sd) : (outL n σ).length = n := by simp [outL]
theorem outL_gi {n : Nat} {σ : Nat → Sd} {k : Nat} (h : k < n) : gi (outL n σ) k = (σ k).o := by simp [gi, outL, h]

/-! The program's queue. -/
abbrev Sn := Int × Int × Int × Int
def rcS (σ : Nat → Sd) (k : Nat) : Sn := ((σ k).w, (k : Int), (σ k).s, (σ k).f)
def actS (n : Nat) (σ : Nat → Sd) : List Sn := ((List.range n).filter fun k => decide ((σ k).o < 0)).map (rcS σ)
def frS (t : Int) (x : Sn) : Sn := (t + (1 + bkS (nxS x.2.2.1) (min (x.2.2.2 + 1) 100)), x.2.1, nxS x.2.2.1, x.2.2.2 + 1)
theorem act_due {n : Nat} {σ : Nat → Sd} {t : Int} : (actS n σ).filter (fun x => decide (x.1 = t)) = (grpS n σ t).map (rcS σ) := by
  unfold actS grpS
  rw [List.filter_map, List.filter_filter]
  congr 1
  apply List.filter_congr
  intro k hk
  rw [List.mem_range] at hk
  by_cases a : (σ k).w = t <;> by_cases b : (σ k).o < 0 <;> simp [dueS, hk, rcS, a, b]
/-- one alone -/
theorem act_single {n : Nat} {σ : Nat → Sd} {t : Int} (ht : 0 ≤ t) (h1 : (grpS n σ t).length = 1) : actS n (stpS n t σ) = (actS n σ).filter (fun x => !decide (x.1 = t)) := by
  unfold actS
  rw [List.filter_map, List.filter_filter]
  have e : (List.range n).filter (fun k => decide ((stpS n t σ k).o < 0)) = (List.range n).filter (fun k => ((fun x : Sn => !decide (x.1 = t)) ∘ rcS σ) k && decide ((σ k).o < 0)) := by
    apply List.filter_congr
    intro k hk
    rw [List.mem_range] at hk
    unfold stpS
    by_cases hd : dueS n σ t k = true
    · obtain ⟨-, h2, h3⟩ := dueS_true.1 hd
      rw [if_pos hd, if_pos h1]
      simp [rcS, h3]; omega
    · rw [if_neg hd]
      by_cases ho : (σ k).o < 0
      · have : ¬ (σ k).w = t := fun e => hd (dueS_true.2 ⟨hk, ho, e⟩)
        simp [rcS, ho, this]
      · simp [ho]
  rw [e]
  apply List.map_congr_left
  intro k hk
  rw [List.mem_filter] at hk
  have h3 : ¬ dueS n σ t k = true := fun hd => by
    obtain ⟨-, -, h4⟩ := dueS_true.1 hd
    simp [rcS, h4] at hk
  unfold rcS stpS
  rw [if_neg h3]
/-- several -/
theorem act_multi {n : Nat} {σ : Nat → Sd} {t : Int} (h1 : (grpS n σ t).length ≠ 1) : actS n (stpS n t σ) = (actS n σ).map (fun x => if x.1 = t then frS t x else x) := by
  unfold actS
  rw [List.map_map]
  have e : (List.range n).filter (fun k => decide ((stpS n t σ k).o < 0)) = (List.range n).filter (fun k => decide ((σ k).o < 0)) := by
    apply List.filter_congr
    intro k hk
    unfold stpS
    split
    · first | rfl | (rw [if_neg h1]; rfl)
    · rfl
  rw [e]
  apply List.map_congr_left
  intro k hk
  rw [List.mem_filter, List.mem_range] at hk
  obtain ⟨hk, ho⟩ := hk
  have ho' : (σ k).o < 0 := by simpa using ho
  by_cases hw : (σ k).w = t
  · have hd : dueS n σ t k = true := dueS_true.2 ⟨hk, ho', hw⟩
    simp [rcS, stpS, hd, h1, hw, frS, flS]
  · have hd : ¬ dueS n σ t k = true := fun h => hw (dueS_true.1 h).2.2
    simp [rcS, stpS, hd, hw]
end Go.Proofs.Ytdfinlpfkmmpkaa
