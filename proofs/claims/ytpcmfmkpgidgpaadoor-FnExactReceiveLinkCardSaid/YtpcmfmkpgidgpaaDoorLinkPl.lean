import Derived.Test.YtpcmfmkpgidgpaaDoorProg
import Derived.Test.YtpcmfmkpgidgpaaDoorLib
import Derived.Test.YtpcmfmkpgidgpaaDoorInts
import Derived.Test.YtpcmfmkpgidgpaaDoorCrc
import Derived.Test.YtpcmfmkpgidgpaaDoorRed
import Derived.Test.YtpcmfmkpgidgpaaDoorChk
namespace Go.Proofs.YtpcmfmkpgidgpaaDoor
open Go.RowKit

/-! The link: words of seven, the table, samples. No program here. -/
def nibL (a b c d : Int) : List Int := [(a + b + d) % 2, (a + c + d) % 2, a, (b + c + d) % 2, b, c, d]
def encT (xs : List Int) : Nat → List Int
  | 0 => []
  | k + 1 => encT xs k ++ nibL (gi xs (4 * k)) (gi xs (4 * k + 1)) (gi xs (4 * k + 2)) (gi xs (4 * k + 3))
def encV (xs : List Int) : List Int := encT xs (xs.length / 4)
theorem encT_len (xs : List Int) : ∀ k, (encT xs k).length = 7 * k
  | 0 => rfl
  | k + 1 => by rw [encT, List.length_append, encT_len xs k]; simp [nibL]; omega
theorem gi_rightP {A B : List Int} {n : Nat} (h : A.length = n) (i : Nat) : gi (A ++ B) (n + i) = gi B i := by
  subst h
  unfold gi
  rw [List.getD_eq_getElem?_getD, List.getElem?_append_right (by omega), Nat.add_sub_cancel_left, List.getD_eq_getElem?_getD]
theorem gi_encT (xs : List Int) {j r : Nat} (hr : r < 7) : ∀ {k}, j < k → gi (encT xs k) (7 * j + r) = gi (nibL (gi xs (4 * j)) (gi xs (4 * j + 1)) (gi xs (4 * j + 2)) (gi xs (4 * j + 3))) r
  | 0, h => by omega
  | k + 1, h => by
    rw [encT]
    by_cases e : j < k
    · rw [gi_append_left (by rw [encT_len]; omega)]
      exact gi_encT xs hr e
    · obtain rfl : j = k := by omega
      exact gi_rightP (encT_len xs j) r
theorem nib_bits {a b c d : Int} (ha : a = 0 ∨ a = 1) (hb : b = 0 ∨ b = 1) (hc : c = 0 ∨ c = 1) (hd : d = 0 ∨ d = 1) : okB (nibL a b c d) := by
  intro i hi
  have hi : i < 7 := hi
  rcases ha with rfl | rfl <;> rcases hb with rfl | rfl <;> rcases hc with rfl | rfl <;> rcases hd with rfl | rfl <;>
    (obtain rfl | rfl | rfl | rfl | rfl | rfl | rfl : i = 0 ∨ i = 1 ∨ i = 2 ∨ i = 3 ∨ i = 4 ∨ i = 5 ∨ i = 6 := (by omega)) <;> decide
theorem encT_bits {xs : List Int} (h : okB xs) : ∀ k, 4 * k ≤ xs.length → okB (encT xs k)
  | 0, _ => fun i hi => by simp [encT] at hi
  | k + 1, hk => okB_cat (encT_bits h k (by omega)) (nib_bits (h _ (by omega)) (h _ (by omega)) (h _ (by omega)) (h _ (by omega)))
/-- the table of seven rows, read by columns; c columns -/
def itL (xs : List Int) (c : Nat) : List Int := (List.range xs.length).map fun i => gi xs (i % 7 * c + i / 7)
def diL (xs : List Int) (c : Nat) : List Int := (List.range xs.length).map fun p => gi xs (p % c * 7 + p / c)
theorem itL_len (xs : List Int) (c : Nat) : (itL xs c).length = xs.length := by simp [itL]
theorem diL_len (xs : List Int) (c : Nat) : (diL xs c).length = xs.length := by simp [diL]
theorem gi_itL {xs : List Int} {c i : Nat} (h : i < xs.length) : gi (itL xs c) i = gi xs (i % 7 * c + i / 7) := by simp [gi, itL, h]
theorem gi_diL {xs : List Int} {c p : Nat} (h : p < xs.length) : gi (diL xs c) p = gi xs (p % c * 7 + p / c) := by simp [gi, diL, h]
theorem tab_place {c i : Nat} (h : i < 7 * c) : i % 7 * c + i / 7 < 7 * c ∧ (i % 7 * c + i / 7) % c = i / 7 ∧ (i % 7 * c + i / 7) / c = i % 7 := by
  have hc : 0 < c := by omega
  have h1 : i / 7 < c := by omega
  have h2 : i % 7 ≤ 6 := by omega
  have h3 : i % 7 * c ≤ 6 * c := Nat.mul_le_mul_right c h2
  refine ⟨by omega, ?_, ?_⟩
  · rw [Nat.add_comm, Nat.add_mul_mod_self_right, Nat.mod_eq_of_lt h1]
  · rw [Nat.add_comm, Nat.add_mul_div_right _ _ hc, Nat.div_eq_of_lt h1, Nat.zero_add]
theorem tab_back {c p : Nat} (h : p < 7 * c) : p % c * 7 + p / c < 7 * c ∧ (p % c * 7 + p / c) % 7 = p / c ∧ (p % c * 7 + p / c) / 7 = p % c := by
  have hc : 0 < c := by omega
  have h1 : p % c < c := Nat.mod_lt _ hc
  have h2 : p / c < 7 := Nat.div_lt_of_lt_mul (by rw [Nat.mul_comm]; exact h)
  generalize p % c = x at *
  generalize p / c = y at *
  exact ⟨by omega, by omega, by omega⟩
theorem di_it {xs : List Int} {c : Nat} (hl : xs.length = 7 * c) : diL (itL xs c) c = xs := by
  refine gi_ext (by rw [diL_len, itL_len]) fun p hp => ?_
  rw [diL_len, itL_len] at hp
  obtain ⟨a, b, d⟩ := tab_back (hl ▸ hp)
  rw [gi_diL (by rw [itL_len]; exact hp), gi_itL (by omega), b, d]
  congr 1
  have := Nat.div_add_mod p c
  rw [Nat.mul_comm] at this
  omega
theorem it_di {xs : List Int} {c : Nat} (hl : xs.length = 7 * c) : itL (diL xs c) c = xs := by
  refine gi_ext (by rw [itL_len, diL_len]) fun i hi => ?_
  rw [itL_len, diL_len] at hi
  obtain ⟨a, b, d⟩ := tab_place (hl ▸ hi)
  rw [gi_itL (by rw [diL_len]; exact hi), gi_diL (by omega), b, d]
  congr 1
  omega
theorem itL_bits {xs : List Int} {c : Nat} (h : okB xs) (hl : xs.length = 7 * c) : okB (itL xs c) := by
  intro i hi
  rw [itL_len] at hi
  rw [gi_itL hi]
  exact h _ (by have := (tab_place (hl ▸ hi)).1; omega)
theorem diL_bits {xs : List Int} {c : Nat} (h : okB xs) (hl : xs.length = 7 * c) : okB (diL xs c) := by
  intro i hi
  rw [diL_len] at hi
  rw [gi_diL hi]
  exact h _ (by have := (tab_back (hl ▸ hi)).1; omega)
/-- a place of the list that is read by columns is set -/
theorem di_set {xs : List Int} {c i : Nat} (hl : xs.length = 7 * c) (hi : i < xs.length) (y : Int) : diL (xs.set i y) c = (diL xs c).set (i % 7 * c + i / 7) y := by
  refine gi_ext (by simp [diL]) fun p hp => ?_
  rw [diL_len, List.length_set] at hp
  obtain ⟨a, b, d⟩ := tab_back (hl ▸ hp)
  obtain ⟨a', b', d'⟩ := tab_place (hl ▸ hi)
  rw [gi_diL (by rw [List.length_set]; exact hp), gi_set hi, gi_set (by rw [diL_len]; omega)]
  by_cases e : p % c * 7 + p / c = i
  · have e2 : p = i % 7 * c + i / 7 := by
      rw [← e, b, d]
      have := Nat.div_add_mod p c
      rw [Nat.mul_comm] at this
      omega
    rw [if_pos e, if_pos e2]
  · have e2 : ¬ p = i % 7 * c + i / 7 := fun h => e (by rw [h, b', d']; omega)
    rw [if_neg e, if_neg e2, gi_diL hp]
/-- samples -/
def mapL (xs : List Int) : List (Int × Int) := xs.map fun b => (2 * b - 1, 0)
def sgn01 (x : Int) : Int := if 0 < x then 1 else 0
def slcL (ss : List (Int × Int)) : List Int := ss.map fun s => sgn01 s.1
theorem mapL_len (xs : List Int) : (mapL xs).length = xs.length := by simp [mapL]
theorem slcL_len (ss : List (Int × Int)) : (slcL ss).length = ss.length := by simp [slcL]
theorem slcL_bits (ss : List (Int × Int)) : okB (slcL ss) := by
  intro i hi
  rw [slcL_len] at hi
  have : gi (slcL ss) i = if 0 < (ss[i]).1 then 1 else 0 := by simp [gi, slcL, hi, sgn01]
  rw [this]
  split
  · exact .inr rfl
  · exact .inl rfl
theorem slc_map {xs : List Int} (h : okB xs) : slcL (mapL xs) = xs := by
  refine gi_ext (by rw [slcL_len, mapL_len]) fun i hi => ?_
  rw [slcL_len, mapL_len] at hi
  have : gi (slcL (mapL xs)) i = if 0 < 2 * gi xs i - 1 then 1 else 0 := by simp [gi, slcL, mapL, hi, sgn01]
  rw [this]
  rcases h i hi with e | e <;> rw [e] <;> rfl
/-- words of seven, corrected -/
def synT (f : Nat → Int) : Nat → Nat
  | 0 => 0
  | k + 1 => synT f k ^^^ ((k + 1) * (f k).toNat)
def wdF (f : Nat → Int) (i : Nat) : Int := if i + 1 = synT f 7 then 1 - f i else f i
def wdL (f : Nat → Int) : List Int := [wdF f 2, wdF f 4, wdF f 5, wdF f 6]
def wdN (f : Nat → Int) : Nat := if synT f 7 = 0 then 0 else 1
def at7 (xs : List Int) (k : Nat) : Nat → Int := fun i => gi xs (7 * k + i)
def decT (xs : List Int) : Nat → List Int
  | 0 => []
  | k + 1 => decT xs k ++ wdL (at7 xs k)
def decN (xs : List Int) : Nat → Nat
  | 0 => 0
  | k + 1 => decN xs k + wdN (at7 xs k)
theorem decT_len (xs : List Int) : ∀ k, (decT xs k).length = 4 * k
  | 0 => rfl
  | k + 1 => by rw [decT, List.length_append, decT_len xs k]; simp [wdL]; omega
theorem decN_le (xs : List Int) : ∀ k, decN xs k ≤ k
  | 0 => Nat.le_refl _
  | k + 1 => by rw [decN]; have := decN_le xs k; unfold wdN; split <;> omega
theorem synT_congr {f g : Nat → Int} : ∀ {k : Nat}, (∀ i, i < k → f i = g i) → synT f k = synT g k
  | 0, _ => rfl
  | k + 1, h => by rw [synT, synT, synT_congr fun i hi => h i (by omega), h k (by omega)]
theorem wd_congr {f g : Nat → Int} (h : ∀ i, i < 7 → f i = g i) : wdL f = wdL g ∧ wdN f = wdN g := by
  have e := synT_congr h
  have e2 : ∀ i, i < 7 → wdF f i = wdF g i := fun i hi => by unfold wdF; rw [e, h i hi]
  unfold wdL wdN
  rw [e, e2 2 (by decide), e2 4 (by decide), e2 5 (by decide), e2 6 (by decide)]
  exact ⟨rfl, rfl⟩
def w7 (a b c d e f g : Fin 2) (i : Nat) : Int := gi [(a.val : Int), (b.val : Int), (c.val : Int), (d.val : Int), (e.val : Int), (f.val : Int), (g.val : Int)] i
theorem syn_lt7 : ∀ a b c d e f g : Fin 2, synT (w7 a b c d e f g) 7 < 8 := by decide +kernel
theorem bit_fin {x : Int} (h : x = 0 ∨ x = 1) : ∃ a : Fin 2, x = (a.val : Int) := by
  rcases h with rfl | rfl
  · exact ⟨0, rfl⟩
  · exact ⟨1, rfl⟩
theorem w7_of {f : Nat → Int} (h : ∀ i, i < 7 → f i = 0 ∨ f i = 1) : ∃ a b c d e g k : Fin 2, ∀ i, i < 7 → f i = w7 a b c d e g k i := by
  obtain ⟨a, ha⟩ := bit_fin (h 0 (by decide))
  obtain ⟨b, hb⟩ := bit_fin (h 1 (by decide))
  obtain ⟨c, hc⟩ := bit_fin (h 2 (by decide))
  obtain ⟨d, hd⟩ := bit_fin (h 3 (by decide))
  obtain ⟨e, he⟩ := bit_fin (h 4 (by decide))
  obtain ⟨g, hg⟩ := bit_fin (h 5 (by decide))
  obtain ⟨k, hk⟩ := bit_fin (h 6 (by decide))
  refine ⟨a, b, c, d, e, g, k, fun i hi => ?_⟩
  obtain rfl | rfl | rfl | rfl | rfl | rfl | rfl : i = 0 ∨ i = 1 ∨ i = 2 ∨ i = 3 ∨ i = 4 ∨ i = 5 ∨ i = 6 := by omega
  all_goals assumption
theorem syn_lt {f : Nat → Int} (h : ∀ i, i < 7 → f i = 0 ∨ f i = 1) : ∀ k, k ≤ 7 → synT f k < 8
  | 0, _ => by show 0 < 8; decide
  | k + 1, hk => by
    rw [synT]
    have h1 := syn_lt h k (by omega)
    have h2 : (k + 1) * (f k).toNat < 8 := by
      rcases h k (by omega) with e | e <;> rw [e] <;> simp <;> omega
    exact Nat.xor_lt_two_pow (n := 3) h1 h2
theorem wdF_bit {f : Nat → Int} {i : Nat} (h : f i = 0 ∨ f i = 1) : wdF f i = 0 ∨ wdF f i = 1 := by
  unfold wdF; split
  · rcases h with e | e <;> rw [e] <;> decide
  · exact h
theorem decT_bits {xs : List Int} (h : okB xs) : ∀ k, 7 * k ≤ xs.length → okB (decT xs k)
  | 0, _ => fun i hi => by simp [decT] at hi
  | k + 1, hk => by
    refine okB_cat (decT_bits h k (by omega)) fun i hi => ?_
    have hi : i < 4 := hi
    have h7 : ∀ j, j < 7 → at7 xs k j = 0 ∨ at7 xs k j = 1 := fun j hj => h _ (by omega)
    obtain rfl | rfl | rfl | rfl : i = 0 ∨ i = 1 ∨ i = 2 ∨ i = 3 := by omega
    · exact wdF_bit (h7 2 (by decide))
    · exact wdF_bit (h7 4 (by decide))
    · exact wdF_bit (h7 5 (by decide))
    · exact wdF_bit (h7 6 (by decide))
/-! What is coded is decoded. -/
theorem code_ok : ∀ a b c d : Fin 2, wdL (gi (nibL a.val b.val c.val d.val)) = [(a.val : Int), (b.val : Int), (c.val : Int), (d.val : Int)] ∧ wdN (gi (nibL a.val b.val c.val d.val)) = 0 := by decide +kernel
theorem code_flip : ∀ a b c d : Fin 2, ∀ p : Fin 7, wdL (gi ((nibL a.val b.val c.val d.val).set p.val (1 - gi (nibL a.val b.val c.val d.val) p.val))) = [(a.val : Int), (b.val : Int), (c.val : Int), (d.val : Int)] ∧ wdN (gi ((nibL a.val b.val c.val d.val).set p.val (1 - gi (nibL a.val b.val c.val d.val) p.val))) = 1 := by decide +kernel
def hdF (f g : Nat → Int) : Nat → Nat
  | 0 => 0
  | k + 1 => hdF f g k + (if f k = g k then 0 else 1)
theorem code_near : ∀ a b c d e f g : Fin 2, hdF (gi (nibL (gi (wdL (w7 a b c d e f g)) 0) (gi (wdL (w7 a b c d e f g)) 1) (gi (wdL (w7 a b c d e f g)) 2) (gi (wdL (w7 a b c d e f g)) 3))) (w7 a b c d e f g) 7 = wdN (w7 a b c d e f g) := by decide +kernel
theorem take4 {xs : List Int} {k : Nat} (h : 4 * k + 4 ≤ xs.length) : xs.take (4 * (k + 1)) = xs.take (4 * k) ++ [gi xs (4 * k), gi xs (4 * k + 1), gi xs (4 * k + 2), gi xs (4 * k + 3)] := by
  rw [show 4 * (k + 1) = 4 * k + 1 + 1 + 1 + 1 by omega, ext_take_succ (by omega), ext_take_succ (by omega), ext_take_succ (by omega), ext_take_succ (by omega)]
  simp
theorem code_of {xs : List Int} (h : okB xs) {k : Nat} (hk : 4 * k + 4 ≤ xs.length) : ∃ a b c d : Fin 2, gi xs (4 * k) = (a.val : Int) ∧ gi xs (4 * k + 1) = (b.val : Int) ∧ gi xs (4 * k + 2) = (c.val : Int) ∧ gi xs (4 * k + 3) = (d.val : Int) := by
  obtain ⟨a, ha⟩ := bit_fin (h (4 * k) (by omega))
  obtain ⟨b, hb⟩ := bit_fin (h (4 * k + 1) (by omega))
  obtain ⟨c, hc⟩ := bit_fin (h (4 * k + 2) (by omega))
  obtain ⟨d, hd⟩ := bit_fin (h (4 * k + 3) (by omega))
  exact ⟨a, b, c, d, ha, hb, hc, hd⟩
theorem dec_enc {xs : List Int} (h : okB xs) {n : Nat} (hn : 4 * n ≤ xs.length) : ∀ k, k ≤ n → decT (encT xs n) k = xs.take (4 * k) ∧ decN (encT xs n) k = 0
  | 0, _ => by simp [decT, decN]
  | k + 1, hk => by
    obtain ⟨h1, h2⟩ := dec_enc h hn k (by omega)
    obtain ⟨a, b, c, d, ea, eb, ec, ed⟩ := code_of h (show 4 * k + 4 ≤ xs.length by omega)
    have hw : ∀ i, i < 7 → at7 (encT xs n) k i = gi (nibL a.val b.val c.val d.val) i := fun i hi => by unfold at7; rw [gi_encT xs hi (by omega), ea, eb, ec, ed]
    obtain ⟨w1, w2⟩ := wd_congr hw
    obtain ⟨c1, c2⟩ := code_ok a b c d
    rw [decT, decN, h1, h2, w1, w2, c1, c2, take4 (by omega), ea, eb, ec, ed]
    exact ⟨rfl, rfl⟩
/-- one place wrong -/
theorem dec_flip {xs : List Int} (h : okB xs) {n p : Nat} (hn : 4 * n ≤ xs.length) (hp : p < 7 * n) :
    ∀ k, k ≤ n → decT ((encT xs n).set p (1 - gi (encT xs n) p)) k = xs.take (4 * k) ∧ decN ((encT xs n).set p (1 - gi (encT xs n) p)) k = if p < 7 * k then 1 else 0
  | 0, _ => by simp [decT, decN]
  | k + 1, hk => by
    obtain ⟨h1, h2⟩ := dec_flip h hn hp k (by omega)
    obtain ⟨a, b, c, d, ea, eb, ec, ed⟩ := code_of h (show 4 * k + 4 ≤ xs.length by omega)
    have hE : ∀ i, i < 7 → gi (encT xs n) (7 * k + i) = gi (nibL a.val b.val c.val d.val) i := fun i hi => by rw [gi_encT xs hi (by omega), ea, eb, ec, ed]
    by_cases hin : 7 * k ≤ p ∧ p < 7 * k + 7
    · obtain ⟨q, hq⟩ : ∃ q : Fin 7, p = 7 * k + q.val := ⟨⟨p - 7 * k, by omega⟩, by simp; omega⟩
      have hw : ∀ i, i < 7 → at7 ((encT xs n).set p (1 - gi (encT xs n) p)) k i = gi ((nibL a.val b.val c.val d.val).set q.val (1 - gi (nibL a.val b.val c.val d.val) q.val)) i := fun i hi => by
        unfold at7
        rw [gi_set (by rw [encT_len]; omega), gi_set q.isLt, hq, hE _ q.isLt, hE _ hi]
        by_cases e : i = q.val
        · rw [if_pos (by omega), if_pos e]
        · rw [if_neg (by omega), if_neg e]
      obtain ⟨w1, w2⟩ := wd_congr hw
      obtain ⟨c1, c2⟩ := code_flip a b c d q
      rw [decT, decN, h1, h2, w1, w2, c1, c2, take4 (by omega), ea, eb, ec, ed, if_neg (by omega), if_pos (by omega)]
      exact ⟨rfl, rfl⟩
    · have hw : ∀ i, i < 7 → at7 ((encT xs n).set p (1 - gi (encT xs n) p)) k i = gi (nibL a.val b.val c.val d.val) i := fun i hi => by
        unfold at7
        rw [gi_set (by rw [encT_len]; omega), if_neg (by omega), hE _ hi]
      obtain ⟨w1, w2⟩ := wd_congr hw
      obtain ⟨c1, c2⟩ := code_ok a b c d
      rw [decT, decN, h1, h2, w1, w2, c1, c2, take4 (by omega), ea, eb, ec, ed]
      refine ⟨rfl, ?_⟩
      by_cases e : p < 7 * k
      · rw [if_pos e, if_pos (by omega)]
      · rw [if_neg e, if_neg (by omega)]
/-! The distance. -/
theorem hdF_congr {f g f' g' : Nat → Int} : ∀ {k : Nat}, (∀ i, i < k → f i = f' i ∧ g i = g' i) → hdF f g k = hdF f' g' k
  | 0, _ => rfl
  | k + 1, h => by rw [hdF, hdF, hdF_congr fun i hi => h i (by omega), (h k (by omega)).1, (h k (by omega)).2]
theorem hdF_cat (f g : Nat → Int) (m : Nat) : ∀ k, hdF f g (m + k) = hdF f g m + hdF (fun i => f (m + i)) (fun i => g (m + i)) k
  | 0 => rfl
  | k + 1 => by rw [← Nat.add_assoc, hdF, hdF_cat f g m k, hdF]; omega
theorem gi_decT (xs : List Int) {j r : Nat} (hr : r < 4) : ∀ {k}, j < k → gi (decT xs k) (4 * j + r) = gi (wdL (at7 xs j)) r
  | 0, h => by omega
  | k + 1, h => by
    rw [decT]
    by_cases e : j < k
    · rw [gi_append_left (by rw [decT_len]; omega)]
      exact gi_decT xs hr e
    · obtain rfl : j = k := by omega
      exact gi_rightP (decT_len xs j) r
theorem enc_near {ys : List Int} (h : okB ys) {n : Nat} (hn : ys.length = 7 * n) : ∀ k, k ≤ n → hdF (gi (encT (decT ys n) n)) (gi ys) (7 * k) = decN ys k
  | 0, _ => rfl
  | k + 1, hk => by
    have ih := enc_near h hn k (by omega)
    rw [Nat.mul_succ, hdF_cat, ih, decN]
    congr 1
    obtain ⟨a, b, c, d, e, f, g, hw⟩ := w7_of (f := at7 ys k) fun i hi => h _ (by omega)
    obtain ⟨w1, w2⟩ := wd_congr hw
    rw [w2, ← code_near a b c d e f g]
    refine hdF_congr fun i hi => ⟨?_, hw i hi⟩
    rw [gi_encT _ hi (by omega)]
    have e0 := gi_decT ys (j := k) (r := 0) (by decide) (show k < n by omega)
    rw [Nat.add_zero] at e0
    rw [e0, gi_decT ys (by decide) (by omega), gi_decT ys (by decide) (by omega), gi_decT ys (by decide) (by omega), w1]
theorem hdF_sum (f g : Nat → Int) : ∀ k, hdF f g k = ((List.range k).map fun i => if f i = g i then 0 else 1).sum
  | 0 => rfl
  | k + 1 => by rw [hdF, hdF_sum f g k, List.range_succ, List.map_append, List.sum_append]; simp
theorem hd_table {A B : List Int} {c : Nat} (ha : A.length = 7 * c) (hb : B.length = 7 * c) : hdF (gi (itL A c)) (gi (itL B c)) (7 * c) = hdF (gi A) (gi B) (7 * c) := by
  rw [hdF_sum, hdF_sum]
  have hp : ((List.range (7 * c)).map fun i => i % 7 * c + i / 7).Perm (List.range (7 * c)) := by
    refine (List.perm_ext_iff_of_nodup ?_ List.nodup_range).2 fun x => ?_
    · refine List.pairwise_map.2 (List.Pairwise.imp_of_mem ?_ List.nodup_range)
      intro i j hi hj hne e
      rw [List.mem_range] at hi hj
      obtain ⟨_, a1, a2⟩ := tab_place hi
      obtain ⟨_, b1, b2⟩ := tab_place hj
      rw [e] at a1 a2
      omega
    · rw [List.mem_map, List.mem_range]
      constructor
      · rintro ⟨i, hi, rfl⟩
        rw [List.mem_range] at hi
        exact (tab_place hi).1
      · intro hx
        obtain ⟨a, b, d⟩ := tab_back hx
        refine ⟨x % c * 7 + x / c, List.mem_range.2 a, ?_⟩
        rw [b, d]
        have := Nat.div_add_mod x c
        rw [Nat.mul_comm] at this
        omega
  have hm := (hp.map fun i => if gi A i = gi B i then 0 else 1).sum_nat
  rw [← hm, List.map_map]
  congr 1
  refine List.map_congr_left fun i hi => ?_
  rw [List.mem_range] at hi
  simp only [Function.comp]
  rw [gi_itL (by omega), gi_itL (by omega)]
end Go.Proofs.YtpcmfmkpgidgpaaDoor
