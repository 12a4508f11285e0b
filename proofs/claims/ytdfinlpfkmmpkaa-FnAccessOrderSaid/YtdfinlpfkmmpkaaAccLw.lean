import Derived.Test.YtdfinlpfkmmpkaaProg
import Derived.Test.YtdfinlpfkmmpkaaAccPl
namespace Go.Proofs.Ytdfinlpfkmmpkaa

/-! Laws of the senders: the order; one alone; several; two alike. -/
theorem filter_rev {n : Nat} {p q : Nat → Bool} (h : ∀ k, k < n → q k = p (n - 1 - k)) : ((List.range n).filter q).length = ((List.range n).filter p).length := by
  have e1 : (List.range n).filter q = (List.range n).filter (p ∘ fun k => n - 1 - k) := List.filter_congr fun k hk => h k (List.mem_range.1 hk)
  have e2 : (List.range n).map (fun k => n - 1 - k) = (List.range n).reverse := by
    apply List.ext_getElem (by simp)
    intro i h1 h2
    simp [List.getElem_reverse]
  have e3 : ((List.range n).filter (p ∘ fun k => n - 1 - k)).map (fun k => n - 1 - k) = ((List.range n).filter p).reverse := by
    rw [← List.filter_map, e2, List.filter_reverse]
  have := congrArg List.length e3
  rw [List.length_map, List.length_reverse] at this
  rw [e1, this]
theorem gi_rev {xs : List Int} {k : Nat} (h : k < xs.length) : gi xs.reverse k = gi xs (xs.length - 1 - k) := by
  have h2 : xs.length - 1 - k < xs.length := by omega
  rw [gi_lt (by simpa using h), gi_lt h2, List.getElem_reverse]
theorem run_rev (seeds : List Int) : ∀ (t k : Nat), k < seeds.length → runS seeds.length (iniS seeds.reverse) t k = runS seeds.length (iniS seeds) t (seeds.length - 1 - k)
  | 0, k, hk => by simp only [runS, iniS]; rw [gi_rev hk]
  | t + 1, k, hk => by
    have ih := run_rev seeds t
    simp only [runS]
    generalize runS seeds.length (iniS seeds.reverse) t = σ' at *
    generalize runS seeds.length (iniS seeds) t = σ at *
    have hd : ∀ j, j < seeds.length → dueS seeds.length σ' (t : Int) j = dueS seeds.length σ (t : Int) (seeds.length - 1 - j) := fun j hj => by
      unfold dueS
      rw [ih j hj]
      rw [decide_eq_true hj, decide_eq_true (show seeds.length - 1 - j < seeds.length by omega)]
    have hg : (grpS seeds.length σ' (t : Int)).length = (grpS seeds.length σ (t : Int)).length := filter_rev hd
    unfold stpS
    rw [hd k hk, hg, ih k hk]
theorem acB_rev (seeds : List Int) : acB seeds.reverse = acB seeds := by
  have key : ∀ xs : List Int, acB xs = true → acB xs.reverse = true := fun xs h => by
    obtain ⟨h1, h2⟩ := acB_true.1 h
    refine acB_true.2 ⟨by simpa using h1, fun k hk => ?_⟩
    have hk' : k < xs.length := by simpa using hk
    rw [gi_rev hk']
    exact h2 _ (by omega)
  cases h : acB seeds
  · cases h2 : acB seeds.reverse
    · rfl
    · have := key _ h2
      rw [List.reverse_reverse, h] at this; cases this
  · exact key _ h
theorem acV_rev (seeds : List Int) : acV seeds.reverse = (acV seeds).reverse := by
  cases h : acB seeds
  · have h2 : acB seeds.reverse = false := by rw [acB_rev]; exact h
    simp [acV, h, h2]
  · have h2 : acB seeds.reverse = true := by rw [acB_rev]; exact h
    simp only [acV, h, h2, if_true, List.length_reverse]
    refine gi_ext (by simp [outL]) fun k hk => ?_
    have hk' : k < seeds.length := by simpa [outL] using hk
    have e := gi_rev (xs := outL seeds.length (runS seeds.length (iniS seeds) 400)) (k := k) (by rw [outL_len]; exact hk')
    rw [e, outL_gi hk', outL_len, outL_gi (by omega), run_rev seeds 400 k hk']
theorem acV_len {seeds : List Int} (h : acB seeds = true) : (acV seeds).length = seeds.length := by simp [acV, h, outL]
theorem acV_gi {seeds : List Int} (h : acB seeds = true) {k : Nat} (hk : k < seeds.length) : gi (acV seeds) k = (runS seeds.length (iniS seeds) 400 k).o := by
  simp only [acV, h, if_true]; exact outL_gi hk
theorem acV_le (seeds : List Int) : (acV seeds).length ≤ 8 := by
  cases h : acB seeds
  · simp [acV, h]
  · rw [acV_len h]; exact (acB_true.1 h).1
theorem solo {s : Int} : ∀ t : Nat, (runS 1 (iniS [s]) (t + 1) 0).o = 0
  | 0 => by
    have hd : dueS 1 (iniS [s]) 0 0 = true := dueS_true.2 ⟨by decide, by simp [iniS], by simp [iniS]⟩
    have hg : grpS 1 (iniS [s]) 0 = [0] := by
      unfold grpS
      rw [show List.range 1 = [0] from rfl]
      simp [hd]
    show (stpS 1 (0 : Int) (iniS [s]) 0).o = 0
    unfold stpS
    rw [if_pos hd, if_pos (by rw [hg]; rfl)]
  | t + 1 => by
    have ih := solo (s := s) t
    show (stpS 1 ((t + 1 : Nat) : Int) (runS 1 (iniS [s]) (t + 1)) 0).o = 0
    unfold stpS
    rw [if_neg (fun hd => by have := (dueS_true.1 hd).2.1; omega)]
    exact ih
theorem several {seeds : List Int} (hn : 1 < seeds.length) : ∀ (t k : Nat), k < seeds.length → (runS seeds.length (iniS seeds) t k).o ≠ 0
  | 0, k, _ => by simp [runS, iniS]
  | t + 1, k, hk => by
    have ih := several hn t k hk
    show (stpS seeds.length (t : Int) (runS seeds.length (iniS seeds) t) k).o ≠ 0
    unfold stpS
    split
    · split
      · next hl =>
        show (t : Int) ≠ 0
        intro ht
        obtain rfl : t = 0 := by omega
        have : grpS seeds.length (iniS seeds) 0 = List.range seeds.length := List.filter_eq_self.2 fun j hj => dueS_true.2 ⟨List.mem_range.1 hj, by simp [iniS], by simp [iniS]⟩
        have h2 : (grpS seeds.length (runS seeds.length (iniS seeds) 0) ((0 : Nat) : Int)).length = seeds.length := by
          show (grpS seeds.length (iniS seeds) 0).length = _
          rw [this]; simp
        omega
      · exact ih
    · exact ih
theorem alike {s : Int} : ∀ t : Nat, runS 2 (iniS [s, s]) t 0 = runS 2 (iniS [s, s]) t 1 ∧ (runS 2 (iniS [s, s]) t 0).o = -1
  | 0 => ⟨rfl, rfl⟩
  | t + 1 => by
    obtain ⟨h1, h2⟩ := alike (s := s) t
    simp only [runS]
    generalize runS 2 (iniS [s, s]) t = σ at *
    have hd : dueS 2 σ (t : Int) 0 = dueS 2 σ (t : Int) 1 := by unfold dueS; rw [h1]; simp
    have hg : ¬ (grpS 2 σ (t : Int)).length = 1 := by
      unfold grpS
      rw [show List.range 2 = [0, 1] from rfl]
      cases h : dueS 2 σ (t : Int) 1
      · simp [hd, h]
      · simp [hd, h]
    unfold stpS
    rw [hd, if_neg hg, if_neg hg, h1]
    refine ⟨rfl, ?_⟩
    rw [h1] at h2
    split
    · exact h2
    · exact h2
theorem acV_alike {s : Int} (h0 : 0 ≤ s) (h1 : s ≤ 2047) : acV [s, s] = [-1, -1] := by
  have hb : acB [s, s] = true := acB_true.2 ⟨by simp, fun k hk => by
    have : k = 0 ∨ k = 1 := by simp at hk; omega
    rcases this with rfl | rfl <;> exact ⟨h0, h1⟩⟩
  obtain ⟨e1, e2⟩ := alike (s := s) 400
  simp only [acV, hb, if_true]
  show (List.range 2).map (fun k => (runS 2 (iniS [s, s]) 400 k).o) = _
  rw [show List.range 2 = [0, 1] from rfl]
  simp only [List.map_cons, List.map_nil]
  rw [← e1, e2]
end Go.Proofs.Ytdfinlpfkmmpkaa
