import Derived.Test.YtjgafkoboolclaaDoorProg
import Derived.Test.YtjgafkoboolclaaDoorLib
import Derived.Test.YtjgafkoboolclaaDoorInts
import Derived.Test.YtjgafkoboolclaaDoorCrc
import Derived.Test.YtjgafkoboolclaaDoorRed
import Derived.Test.YtjgafkoboolclaaDoorStuff
import Derived.Test.YtjgafkoboolclaaDoorStuffLaw
import Derived.Test.YtjgafkoboolclaaDoorFlag
import Derived.Test.YtjgafkoboolclaaDoorFind
import Derived.Test.YtjgafkoboolclaaDoorFind2
import Derived.Test.YtjgafkoboolclaaDoorBuild
namespace Go.Proofs.YtjgafkoboolclaaDoor
open Go.RowKit

/-! Frames are found: no program here. -/
theorem un_no6 {S : List Int} {out : List Int} {o n : Nat} (h : unS S n = some (out, o)) {j : Nat} (hj : j + 6 ≤ n) (h1 : ∀ i, i < 6 → gi S (j + i) = 1) : False := by
  have step : ∀ i, i ≤ 6 → ∃ out' o', unS S (j + i) = some (out', o') ∧ i ≤ o' := by
    intro i
    induction i with
    | zero => intro _; obtain ⟨a, b, e⟩ := un_runs h j (by omega); exact ⟨a, b, e, Nat.zero_le _⟩
    | succ i ih =>
      intro hi
      obtain ⟨a, b, e, hb⟩ := ih (by omega)
      obtain ⟨a', b', e'⟩ := un_runs h (j + (i + 1)) (by omega)
      have := (un_step e e').2
      rw [h1 i (by omega)] at this
      exact ⟨a', b', e', by omega⟩
  obtain ⟨a, b, e, hb⟩ := step 6 (by omega)
  have := (unS_bd e).1
  omega

/-! The remainder. -/
theorem word_chk {C : Nat} (hC : C < 65536) : ∀ k, k ≤ 16 → wordN (bN (chkT C k)) = C / 2 ^ (16 - k)
  | 0, _ => by
    have : C / 2 ^ (16 - 0) = 0 := Nat.div_eq_of_lt hC
    rw [this]; rfl
  | k + 1, hk => by
    rw [chkT_succ, bN_cat, show bN [((C / 2 ^ (15 - k) % 2 : Nat) : Int)] = [C / 2 ^ (15 - k) % 2] by simp [bN, -Int.natCast_emod, -Int.natCast_ediv, Int.toNat_natCast], word_snoc, word_chk hC k (by omega),
      show 16 - k = (15 - k) + 1 by omega, Nat.pow_succ, ← Nat.div_div_eq_div_mul, show 16 - (k + 1) = 15 - k by omega]
    omega
theorem word_zeros : ∀ k, wordN (List.replicate k 0) = 0
  | 0 => rfl
  | k + 1 => by rw [List.replicate_succ', word_snoc, word_zeros k]
theorem xor_sum {R C : Nat} (hC : C < 65536) : R * 65536 + C = (R * 65536) ^^^ C := by
  have h := split16 (R * 65536 + C)
  rw [Nat.shiftRight_eq_div_pow, Nat.shiftLeft_eq, show (R * 65536 + C) / 2 ^ 16 = R by omega, show (R * 65536 + C) % 65536 = C by omega] at h
  exact h.symm
/-- sixteen bits behind the zeros' remainder -/
theorem steps16 {R : Nat} (hR : R < 65536) {bits : List Nat} (hb : ∀ b ∈ bits, b ≤ 1) (hl : bits.length = 16) : stepsN R bits = stepsN R (List.replicate 16 0) ^^^ wordN bits := by
  have h1 := off_steps bits R hR hb
  have h2 := off_steps (List.replicate 16 0) R hR (fun b hb => by rw [(List.mem_replicate.1 hb).2]; omega)
  have hw := wordN_lt hb
  rw [hl] at h1 hw
  rw [List.length_replicate, word_zeros, Nat.add_zero] at h2
  rw [← h1, ← h2, show (2 : Nat) ^ 16 = 65536 by decide, xor_sum hw]
  exact offTo_low hw 16 _
theorem remT_cat (xs ys : List Int) : remT (xs ++ ys) (xs ++ ys).length = stepsN (remT xs xs.length) (bN ys) := by
  rw [remT_all, bN_cat, steps_cat, ← remT_all]
theorem chkL_bits (xs : List Int) : okB (chkL xs) := chkT_bits _ _
theorem crc_zero {xs : List Int} (h : okB xs) : remT (xs ++ chkL xs) (xs ++ chkL xs).length = 0 := by
  rw [remT_cat, steps16 (remT_lt h _) (bN_le (chkL_bits xs)) (by rw [bN_len, chkL_len]), show stepsN (remT xs xs.length) (List.replicate 16 0) = remZ xs 16 from rfl]
  unfold chkL
  rw [word_chk (remZ_lt h 16) 16 (Nat.le_refl _), Nat.sub_self, Nat.pow_zero, Nat.div_one]
  exact Nat.xor_self _
theorem word_inj : ∀ {l m : List Nat} {v u : Nat}, (∀ b ∈ l, b ≤ 1) → (∀ b ∈ m, b ≤ 1) → l.length = m.length → l.foldl (fun v b => 2 * v + b) v = m.foldl (fun v b => 2 * v + b) u → v = u ∧ l = m
  | [], [], _, _, _, _, _, h => ⟨h, rfl⟩
  | [], b :: m, _, _, _, _, hl, _ => by simp at hl
  | a :: l, [], _, _, _, _, hl, _ => by simp at hl
  | a :: l, b :: m, v, u, ha, hb, hl, h => by
    obtain ⟨e1, e2⟩ := word_inj (l := l) (m := m) (fun x hx => ha x (by simp [hx])) (fun x hx => hb x (by simp [hx])) (by simpa using hl) h
    have h1 := ha a (by simp)
    have h2 := hb b (by simp)
    have e1 : 2 * v + a = 2 * u + b := e1
    exact ⟨by omega, by rw [e2, show a = b by omega]⟩
theorem bN_inj {xs ys : List Int} (hx : okB xs) (hy : okB ys) (h : bN xs = bN ys) : xs = ys := by
  have hl : xs.length = ys.length := by rw [← bN_len xs, h, bN_len]
  refine gi_ext hl fun i hi => ?_
  have h1 := bN_get hi
  have h2 := bN_get (xs := ys) (i := i) (by omega)
  rw [h, h2] at h1
  have h3 := Option.some.inj h1
  have := hx i hi
  have := hy i (by omega)
  omega
theorem crc_only {xs T : List Int} (h : okB xs) (hT : okB T) (hl : T.length = 16) (h0 : remT (xs ++ T) (xs ++ T).length = 0) : T = chkL xs := by
  rw [remT_cat, steps16 (remT_lt h _) (bN_le hT) (by rw [bN_len, hl])] at h0
  have e : wordN (bN T) = remZ xs 16 := by
    have h0 : remZ xs 16 ^^^ wordN (bN T) = 0 := h0
    have h1 : remZ xs 16 ^^^ (remZ xs 16 ^^^ wordN (bN T)) = wordN (bN T) := by rw [← Nat.xor_assoc, Nat.xor_self, Nat.zero_xor]
    rw [← h1, h0, Nat.xor_zero]
  have e2 : wordN (bN (chkL xs)) = remZ xs 16 := by
    unfold chkL
    rw [word_chk (remZ_lt h 16) 16 (Nat.le_refl _), Nat.sub_self, Nat.pow_zero, Nat.div_one]
  exact bN_inj hT (chkT_bits _ _) (word_inj (bN_le hT) (bN_le (chkT_bits _ _)) (by rw [bN_len, bN_len, hl, chkT_len]) (e.trans e2.symm)).2

/-! What a frame is. -/
theorem gi_right {A B : List Int} (i : Nat) : gi (A ++ B) (A.length + i) = gi B i := by
  unfold gi
  rw [List.getD_eq_getElem?_getD, List.getElem?_append_right (by omega), Nat.add_sub_cancel_left, List.getD_eq_getElem?_getD]
theorem okB_cat {xs ys : List Int} (hx : okB xs) (hy : okB ys) : okB (xs ++ ys) := by
  intro i hi
  by_cases e : i < xs.length
  · rw [gi_append_left e]; exact hx i e
  · rw [show i = xs.length + (i - xs.length) by omega, gi_right]
    rw [List.length_append] at hi
    exact hy _ (by omega)
theorem body_ok {xs : List Int} (h : bitsB xs = true) (hl : xs.length ≤ 256) : bitsB (xs ++ chkL xs) = true ∧ (xs ++ chkL xs).length = xs.length + 16 := by
  have e : (xs ++ chkL xs).length = xs.length + 16 := by rw [List.length_append, chkL_len]
  exact ⟨bitsB_true.2 ⟨by omega, okB_cat (okB_of h) (chkT_bits _ _)⟩, e⟩
/-- the facts of a body -/
theorem body_facts {xs : List Int} (h : bitsB xs = true) (hl : xs.length ≤ 256) :
    ∃ S, stV (xs ++ chkL xs) = S ∧ bfV xs = flagL ++ S ++ flagL ∧ 16 ≤ S.length ∧ fbB S = true ∧ fbL S = xs ∧ (∀ j, j + 6 ≤ S.length → ¬ ∀ i, i < 6 → gi S (j + i) = 1) := by
  obtain ⟨hb, hn⟩ := body_ok h hl
  have hu := unR_st hb (by omega)
  have hun : ∃ o, unS (stV (xs ++ chkL xs)) (stV (xs ++ chkL xs)).length = some (xs ++ chkL xs, o) := by
    unfold unR at hu
    split at hu
    · next out o e =>
      split at hu
      · simp at hu
      · simp only [Prod.mk.injEq, and_true] at hu
        exact ⟨o, by rw [e, hu]⟩
    · simp at hu
  obtain ⟨o, hun⟩ := hun
  have hbd := unS_bd hun
  have hc : chkB (xs ++ chkL xs) = true := by
    unfold chkB
    rw [hb, crc_zero (okB_of h), decide_eq_true (by omega)]
    rfl
  have hB : fbB (stV (xs ++ chkL xs)) = true := by
    unfold fbB
    rw [hu]
    simp only [hc, Bool.true_and, decide_eq_true_eq]
    omega
  refine ⟨_, rfl, ?_, by omega, hB, ?_, fun j hj h1 => un_no6 hun hj h1⟩
  · unfold bfV
    rw [h, decide_eq_true hl]
    rfl
  · unfold fbL
    rw [hB, hu]
    simp only [if_true]
    rw [show (xs ++ chkL xs).length - 16 = xs.length by omega]
    exact List.take_left
theorem bfV_head {xs : List Int} (h : bitsB xs = true) (hl : xs.length ≤ 256) (B : List Int) : gi (bfV xs ++ B) 0 = 0 := by
  obtain ⟨S, -, e, -⟩ := body_facts h hl
  rw [e]; rfl

/-! The scan. -/
theorem ffS_skip {bs : List Int} {btw : Nat → Nat → List (List Int)} {k : Nat} : ∀ d, (∀ i, i < d → flagAt bs (k + i) = false) → ffS bs btw (k + d) = ffS bs btw k
  | 0, _ => rfl
  | d + 1, h => by
    rw [← Nat.add_assoc]
    simp only [ffS]
    rw [h d (by omega)]
    exact ffS_skip d fun i hi => h i (by omega)
theorem flagAt_yes {bs : List Int} {p : Nat} (hl : p + 8 ≤ bs.length) (h : ∀ k, k < 8 → gi bs (p + k) = gi flagL k) : flagAt bs p = true :=
  flagAt_iff.2 fun k hk => ⟨by omega, h k hk⟩
theorem flagAt_one {bs : List Int} {p k : Nat} (hk : 1 ≤ k ∧ k ≤ 6) (h : gi bs (p + k) ≠ 1) : flagAt bs p = false := by
  refine flagAt_no (k := k) (by omega) fun hh => h ?_
  rw [hh.2]
  obtain ⟨a, b⟩ := hk
  have : k = 1 ∨ k = 2 ∨ k = 3 ∨ k = 4 ∨ k = 5 ∨ k = 6 := by omega
  rcases this with rfl | rfl | rfl | rfl | rfl | rfl <;> rfl
theorem flagAt_zero {bs : List Int} {p : Nat} (h : gi bs p ≠ 0) : flagAt bs p = false :=
  flagAt_no (k := 0) (by omega) fun hh => h (by have := hh.2; simpa [gi, flagL] using this)
theorem ffS_hit {bs : List Int} {btw : Nat → Nat → List (List Int)} {k : Nat} (h : flagAt bs k = true) : ffS bs btw (k + 1) = (some k, match (ffS bs btw k).1 with
      | some l => if l + 8 ≤ k then (ffS bs btw k).2 ++ btw (l + 8) k else (ffS bs btw k).2
      | none => (ffS bs btw k).2) := by
  simp only [ffS]; rw [if_pos h]; rfl
/-- a frame at index k -/
theorem ffS_frame {L A B S : List Int} {btw : Nat → Nat → List (List Int)} (hL : L = A ++ (flagL ++ S ++ flagL) ++ B) (hS : 16 ≤ S.length) (h6 : ∀ j, j + 6 ≤ S.length → ¬ ∀ i, i < 6 → gi S (j + i) = 1) (hB : gi B 0 ≠ 1) :
    ffS L btw (A.length + (S.length + 16)) = (some (A.length + 8 + S.length), (match (ffS L btw A.length).1 with
      | some l => if l + 8 ≤ A.length then (ffS L btw A.length).2 ++ btw (l + 8) A.length else (ffS L btw A.length).2
      | none => (ffS L btw A.length).2) ++ btw (A.length + 8) (A.length + 8 + S.length)) := by
  have hlen : L.length = A.length + (S.length + 16) + B.length := by rw [hL]; simp [flagL]; omega
  have g0 : ∀ i, gi L (A.length + i) = gi (flagL ++ (S ++ (flagL ++ B))) i := fun i => by
    rw [hL, show A ++ (flagL ++ S ++ flagL) ++ B = A ++ (flagL ++ (S ++ (flagL ++ B))) by simp]; exact gi_right i
  have g1 : ∀ i, i < 8 → gi L (A.length + i) = gi flagL i := fun i hi => by rw [g0, gi_append_left (by simpa [flagL] using hi)]
  have g2 : ∀ i, gi L (A.length + (8 + i)) = gi (S ++ (flagL ++ B)) i := fun i => by rw [g0]; exact gi_right (A := flagL) i
  have g3 : ∀ i, i < S.length → gi L (A.length + (8 + i)) = gi S i := fun i hi => by rw [g2, gi_append_left hi]
  have g4 : ∀ i, gi L (A.length + (8 + (S.length + i))) = gi (flagL ++ B) i := fun i => by rw [g2]; exact gi_right i
  have g5 : ∀ i, i < 8 → gi L (A.length + (8 + (S.length + i))) = gi flagL i := fun i hi => by rw [g4, gi_append_left (by simpa [flagL] using hi)]
  have g6 : gi L (A.length + (8 + (S.length + 8))) ≠ 1 := by rw [g4]; rw [show (8 : Nat) = flagL.length + 0 from rfl, gi_right]; exact hB
  have f1 : flagAt L A.length = true := flagAt_yes (by omega) g1
  have f2 : flagAt L (A.length + 8 + S.length) = true := flagAt_yes (by omega) fun k hk => by rw [show A.length + 8 + S.length + k = A.length + (8 + (S.length + k)) by omega]; exact g5 k hk
  have n1 : ∀ i, i < 7 + S.length → flagAt L (A.length + 1 + i) = false := by
    intro i hi
    by_cases h1 : i < 6
    · refine flagAt_zero ?_
      rw [Nat.add_assoc, g1 _ (by omega)]
      have : i = 0 ∨ i = 1 ∨ i = 2 ∨ i = 3 ∨ i = 4 ∨ i = 5 := by omega
      rcases this with rfl | rfl | rfl | rfl | rfl | rfl <;> decide
    · by_cases h2 : i - 6 + 6 ≤ S.length
      · -- six ones in the body
        have hn := h6 (i - 6) h2
        cases hf : flagAt L (A.length + 1 + i) with
        | false => rfl
        | true =>
          exfalso
          refine hn fun q hq => ?_
          have := (flagAt_iff.1 hf (q + 1) (by omega)).2
          rw [show A.length + 1 + i + (q + 1) = A.length + (8 + (i - 6 + q)) by omega, g3 _ (by omega)] at this
          rw [this]
          have : q = 0 ∨ q = 1 ∨ q = 2 ∨ q = 3 ∨ q = 4 ∨ q = 5 := by omega
          rcases this with rfl | rfl | rfl | rfl | rfl | rfl <;> rfl
      · -- the second flag's first bit
        refine flagAt_one (k := S.length + 7 - i) (by omega) ?_
        rw [show A.length + 1 + i + (S.length + 7 - i) = A.length + (8 + (S.length + 0)) by omega, g5 _ (by omega)]
        decide
  have n2 : ∀ i, i < 7 → flagAt L (A.length + 8 + S.length + 1 + i) = false := by
    intro i hi
    by_cases h1 : i < 6
    · refine flagAt_zero ?_
      rw [show A.length + 8 + S.length + 1 + i = A.length + (8 + (S.length + (1 + i))) by omega, g5 _ (by omega)]
      have : i = 0 ∨ i = 1 ∨ i = 2 ∨ i = 3 ∨ i = 4 ∨ i = 5 := by omega
      rcases this with rfl | rfl | rfl | rfl | rfl | rfl <;> decide
    · obtain rfl : i = 6 := by omega
      refine flagAt_one (k := 1) (by omega) ?_
      rw [show A.length + 8 + S.length + 1 + 6 + 1 = A.length + (8 + (S.length + 8)) by omega]
      exact g6
  have s1 : ffS L btw (A.length + 1) = (some A.length, (match (ffS L btw A.length).1 with
      | some l => if l + 8 ≤ A.length then (ffS L btw A.length).2 ++ btw (l + 8) A.length else (ffS L btw A.length).2
      | none => (ffS L btw A.length).2)) := by
    exact ffS_hit f1
  have s2 := ffS_skip (btw := btw) (7 + S.length) n1
  have s3 : ffS L btw (A.length + 8 + S.length + 1) = (some (A.length + 8 + S.length), (ffS L btw (A.length + 1)).2 ++ btw (A.length + 8) (A.length + 8 + S.length)) := by
    rw [show A.length + 1 + (7 + S.length) = A.length + 8 + S.length by omega] at s2
    rw [ffS_hit f2, s2, s1]
    simp only []
    rw [if_pos (by omega)]
  have s4 := ffS_skip (btw := btw) 7 n2
  rw [show A.length + (S.length + 16) = A.length + 8 + S.length + 1 + 7 by omega, s4, s3, s1]
theorem fb_nil : fbB [] = false := by
  unfold fbB
  rw [show unR [] = ([], true) from rfl, show chkB [] = false by unfold chkB; simp]
  rfl
/-- the body of a frame at index k -/
theorem btw_frame {L A B S : List Int} (hL : L = A ++ (flagL ++ S ++ flagL) ++ B) : (L.drop (A.length + 8)).take S.length = S := by
  rw [hL, show A ++ (flagL ++ S ++ flagL) ++ B = (A ++ flagL) ++ (S ++ (flagL ++ B)) by simp, show A.length + 8 = (A ++ flagL).length by simp [flagL], List.drop_left, List.take_left]
/-- frames, one after the other, and zeros behind them -/
theorem ff_many {L : List Int} (b : Nat) : ∀ (fs : List (List Int)) (A : List Int) (acc : List (List Int)) (st : Option Nat), (∀ f ∈ fs, bitsB f = true ∧ f.length ≤ 256) → L = A ++ fs.flatMap bfV ++ List.replicate b 0 →
    ffS L (btwF L) A.length = (st, acc) → (st = none ∨ ∃ l, st = some l ∧ l + 8 = A.length) → (ffS L (btwF L) L.length).2 = acc ++ fs
  | [], A, acc, st, _, hL, hs, _ => by
    have hlen : L.length = A.length + b := by rw [hL]; simp
    have hz : ∀ i, gi L (A.length + i) = 0 := fun i => by
      rw [hL, List.flatMap_nil, List.append_nil, gi_right]
      unfold gi
      rw [List.getD_eq_getElem?_getD, List.getElem?_replicate]
      split <;> rfl
    rw [hlen, ffS_skip b fun i _ => flagAt_one (k := 1) (by omega) (by rw [show A.length + i + 1 = A.length + (i + 1) by omega, hz]; decide), hs, List.append_nil]
  | f :: fs, A, acc, st, hv, hL, hs, hst => by
    obtain ⟨h1, h2⟩ := hv f (by simp)
    obtain ⟨S, -, e, hS, hB, hLs, h6⟩ := body_facts h1 h2
    have hL2 : L = A ++ (flagL ++ S ++ flagL) ++ (fs.flatMap bfV ++ List.replicate b 0) := by
      rw [hL, List.flatMap_cons, e]; simp
    have hB0 : gi (fs.flatMap bfV ++ List.replicate b 0) 0 ≠ 1 := by
      cases fs with
      | nil =>
        rw [List.flatMap_nil, List.nil_append]
        unfold gi
        rw [List.getD_eq_getElem?_getD, List.getElem?_replicate]
        split <;> decide
      | cons f' fs' =>
        obtain ⟨h3, h4⟩ := hv f' (by simp)
        rw [List.flatMap_cons, List.append_assoc, bfV_head h3 h4]
        decide
    have hf := ffS_frame (btw := btwF L) hL2 hS h6 hB0
    have hseg : btwF L (A.length + 8) (A.length + 8 + S.length) = [f] := by
      unfold btwF
      rw [Nat.add_sub_cancel_left, btw_frame hL2, hB, hLs]
      rfl
    rw [hs, hseg] at hf
    have hacc : (match (st, acc).1 with
      | some l => if l + 8 ≤ A.length then (st, acc).2 ++ btwF L (l + 8) A.length else (st, acc).2
      | none => (st, acc).2) = acc := by
      rcases hst with rfl | ⟨l, rfl, hl⟩
      · rfl
      · simp only []
        rw [if_pos (by omega), hl]
        unfold btwF
        rw [Nat.sub_self, List.take_zero, fb_nil]
        simp
    rw [hacc] at hf
    have := ff_many (L := L) b fs (A ++ (flagL ++ S ++ flagL)) (acc ++ [f]) _ (fun g hg => hv g (by simp [hg])) (by rw [hL2]; simp) (by rw [← hf]; congr 1; simp [flagL]) (.inr ⟨_, rfl, by simp [flagL]; omega⟩)
    rw [this]
    simp
/-- frames between zeros are found -/
theorem ff_frames {fs : List (List Int)} (a b : Nat) (hv : ∀ f ∈ fs, bitsB f = true ∧ f.length ≤ 256) (hl : (List.replicate a 0 ++ fs.flatMap bfV ++ List.replicate b 0).length ≤ 1024) (hbits : okB (fs.flatMap bfV)) :
    ffV (List.replicate a 0 ++ fs.flatMap bfV ++ List.replicate b 0) = fs := by
  have hz : ∀ n, okB (List.replicate n (0 : Int)) := fun n i hi => by
    left
    unfold gi
    rw [List.getD_eq_getElem?_getD, List.getElem?_replicate]
    split <;> rfl
  have hb : bitsB (List.replicate a 0 ++ fs.flatMap bfV ++ List.replicate b 0) = true := bitsB_true.2 ⟨hl, okB_cat (okB_cat (hz a) hbits) (hz b)⟩
  unfold ffV
  rw [hb]
  simp only [if_true]
  have hz1 : ∀ i, i < a → flagAt (List.replicate a 0 ++ fs.flatMap bfV ++ List.replicate b 0) (0 + i) = false := fun i hi => by
    refine flagAt_one (k := 1) (by omega) ?_
    rw [Nat.zero_add, List.append_assoc]
    by_cases h : i + 1 < a
    · rw [gi_append_left (by simpa using h)]
      have : gi (List.replicate a 0) (i + 1) = 0 := by
        unfold gi
        rw [List.getD_eq_getElem?_getD, List.getElem?_replicate]
        split <;> rfl
      rw [this]; decide
    · rw [show i + 1 = (List.replicate a (0 : Int)).length + 0 by simp; omega, gi_right]
      cases fs with
      | nil =>
        rw [List.flatMap_nil, List.nil_append]
        unfold gi
        rw [List.getD_eq_getElem?_getD, List.getElem?_replicate]
        split <;> decide
      | cons f' fs' =>
        obtain ⟨h3, h4⟩ := hv f' (by simp)
        rw [List.flatMap_cons, List.append_assoc, bfV_head h3 h4]
        decide
  have h0 := ffS_skip (btw := btwF (List.replicate a 0 ++ fs.flatMap bfV ++ List.replicate b 0)) a hz1
  rw [Nat.zero_add] at h0
  have := ff_many b fs (List.replicate a 0) [] none hv rfl (by rw [List.length_replicate, h0]; rfl) (.inl rfl)
  rw [this, List.nil_append]
theorem stS_ok {bs : List Int} (h : okB bs) : ∀ k, k ≤ bs.length → okB (stS bs k).1
  | 0, _ => fun i hi => by simp [stS] at hi
  | k + 1, hk => by
    have ih := stS_ok h k (by omega)
    have one : ∀ x : Int, x = 0 ∨ x = 1 → okB [x] := fun x hx i hi => by
      have : i = 0 := by simpa using hi
      subst this; exact hx
    simp only [stS]
    split
    · exact okB_cat ih (one _ (h k (by omega)))
    · split
      · exact okB_cat ih (one _ (h k (by omega)))
      · exact okB_cat (okB_cat ih (one _ (h k (by omega)))) (one 0 (.inl rfl))
theorem stV_okB {bs : List Int} (h : bitsB bs = true) (hl : bs.length ≤ 512) : okB (stV bs) := by
  rw [stV_ok h hl]; exact stS_ok (okB_of h) _ (Nat.le_refl _)
theorem bfV_ok {f : List Int} (h : bitsB f = true) (hl : f.length ≤ 256) : okB (bfV f) := by
  obtain ⟨S, e1, e, -⟩ := body_facts h hl
  obtain ⟨hb, hn⟩ := body_ok h hl
  have hf : okB flagL := by
    intro i hi
    have : i < 8 := hi
    have : i = 0 ∨ i = 1 ∨ i = 2 ∨ i = 3 ∨ i = 4 ∨ i = 5 ∨ i = 6 ∨ i = 7 := by omega
    rcases this with rfl | rfl | rfl | rfl | rfl | rfl | rfl | rfl <;> decide
  rw [e, ← e1]
  exact okB_cat (okB_cat hf (stV_okB hb (by omega))) hf
theorem bfVs_ok {fs : List (List Int)} (hv : ∀ f ∈ fs, bitsB f = true ∧ f.length ≤ 256) : okB (fs.flatMap bfV) := by
  induction fs with
  | nil => intro i hi; simp at hi
  | cons f fs ih =>
    rw [List.flatMap_cons]
    exact okB_cat (bfV_ok (hv f (by simp)).1 (hv f (by simp)).2) (ih fun g hg => hv g (by simp [hg]))
/-- what is found stands between two flags -/
theorem ffS_mem {bs r : List Int} : ∀ k, r ∈ (ffS bs (btwF bs) k).2 → ∃ a b, 8 ≤ a ∧ a ≤ b ∧ b + 8 ≤ bs.length ∧ fbB ((bs.drop a).take (b - a)) = true ∧ r = fbL ((bs.drop a).take (b - a))
  | 0, h => by simp [ffS] at h
  | k + 1, h => by
    simp only [ffS] at h
    split at h
    · next hf =>
      cases hl : (ffS bs (btwF bs) k).1 with
      | none => rw [hl] at h; exact ffS_mem k h
      | some l =>
        rw [hl] at h
        simp only [] at h
        split at h
        · next hle =>
          rcases List.mem_append.1 h with h | h
          · exact ffS_mem k h
          · unfold btwF at h
            split at h
            · next hB =>
              rw [List.mem_singleton] at h
              refine ⟨l + 8, k, by omega, hle, ?_, hB, h⟩
              rcases Nat.lt_or_ge bs.length (k + 8) with h9 | h9
              · rw [flagAt_far h9] at hf; cases hf
              · exact h9
            · simp at h
        · exact ffS_mem k h
    · exact ffS_mem k h
/-- a body tells what it carries -/
theorem fb_facts {S : List Int} (h : fbB S = true) : ∃ r, fbL S = r ∧ bitsB r = true ∧ r.length ≤ 256 ∧ S = stV (r ++ chkL r) := by
  unfold fbB at h
  cases hu : unR S with
  | mk Y ok =>
    rw [hu] at h
    simp only [Bool.and_eq_true, decide_eq_true_eq] at h
    obtain ⟨⟨h1, h2⟩, h3⟩ := h
    subst h1
    have hS := unR_true hu
    unfold chkB at h2
    simp only [Bool.and_eq_true, decide_eq_true_eq, beq_iff_eq] at h2
    obtain ⟨⟨hb, h16⟩, h0⟩ := h2
    have hok := okB_of hb
    have hr : okB (Y.take (Y.length - 16)) := fun i hi => by
      rw [List.length_take] at hi
      rw [gi_take (by omega)]; exact hok i (by omega)
    have hT : okB (Y.drop (Y.length - 16)) := fun i hi => by
      rw [List.length_drop] at hi
      have e : gi (Y.drop (Y.length - 16)) i = gi Y (Y.length - 16 + i) := by simp [gi]
      rw [e]; exact hok _ (by omega)
    have hY : Y.take (Y.length - 16) ++ Y.drop (Y.length - 16) = Y := List.take_append_drop _ _
    have hc := crc_only hr hT (by rw [List.length_drop]; omega) (by rw [hY]; exact h0)
    refine ⟨Y.take (Y.length - 16), ?_, bitsB_true.2 ⟨by rw [List.length_take]; omega, hr⟩, by rw [List.length_take]; omega, ?_⟩
    · unfold fbL
      have : fbB S = true := by
        unfold fbB; rw [hu]
        simp only [Bool.true_and, Bool.and_eq_true, decide_eq_true_eq]
        exact ⟨by unfold chkB; rw [hb, decide_eq_true h16, h0]; rfl, h3⟩
      rw [this, hu]
      rfl
    · rw [← hc, hY, hS]
theorem ff_valid {bs r : List Int} (h : r ∈ ffV bs) : bitsB r = true ∧ r.length ≤ 256 := by
  unfold ffV at h
  split at h
  · obtain ⟨a, b, -, -, -, hB, rfl⟩ := ffS_mem _ h
    obtain ⟨r, e, h1, h2, -⟩ := fb_facts hB
    rw [e]; exact ⟨h1, h2⟩
  · simp at h
/-- a frame with one bit of its body changed does not carry the same, alone -/
theorem ff_damaged {xs : List Int} (h : bitsB xs = true) (hl : xs.length ≤ 256) {p : Nat} (h8 : 8 ≤ p) (hp : p + 8 < (bfV xs).length) {y : Int} (hy : y ≠ gi (bfV xs) p) : ffV ((bfV xs).set p y) ≠ [xs] := by
  intro hff
  obtain ⟨S, e1, e, hS, hB, hLs, -⟩ := body_facts h hl
  have hm : xs ∈ ffV ((bfV xs).set p y) := by rw [hff]; simp
  unfold ffV at hm
  split at hm
  · obtain ⟨a, b, ha, hab, hb, hB2, hr⟩ := ffS_mem _ hm
    obtain ⟨r, e2, -, -, e3⟩ := fb_facts hB2
    rw [← hr] at e2
    subst e2
    rw [e1] at e3
    have hlen : (bfV xs).length = S.length + 16 := by rw [e]; simp [flagL]
    rw [List.length_set] at hb
    have hlS : S.length = b - a := by rw [← e3, List.length_take, List.length_drop, List.length_set]; omega
    obtain rfl : a = 8 := by omega
    -- the changed bit stands in the body
    have hg : gi ((((bfV xs).set p y).drop 8).take (b - 8)) (p - 8) = y := by
      rw [gi_take (by omega)]
      have : gi (((bfV xs).set p y).drop 8) (p - 8) = gi ((bfV xs).set p y) p := by
        unfold gi
        rw [List.getD_eq_getElem?_getD, List.getElem?_drop, show 8 + (p - 8) = p by omega, List.getD_eq_getElem?_getD]
      rw [this, gi_set (by omega), if_pos rfl]
    rw [e3] at hg
    apply hy
    rw [← hg, e, List.append_assoc, show gi (flagL ++ (S ++ flagL)) p = gi (flagL ++ (S ++ flagL)) (flagL.length + (p - 8)) from congrArg _ (by rw [show flagL.length = 8 from rfl]; omega), gi_right, gi_append_left (by omega)]
  · simp at hm
end Go.Proofs.YtjgafkoboolclaaDoor
