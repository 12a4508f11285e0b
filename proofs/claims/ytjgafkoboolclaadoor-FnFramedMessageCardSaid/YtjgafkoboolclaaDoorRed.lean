import Derived.Test.YtjgafkoboolclaaDoorProg
import Derived.Test.YtjgafkoboolclaaDoorLib
import Derived.Test.YtjgafkoboolclaaDoorNum
import Derived.Test.YtjgafkoboolclaaDoorSym
import Derived.Test.YtjgafkoboolclaaDoorInts
import Derived.Test.YtjgafkoboolclaaDoorBlk
import Derived.Test.YtjgafkoboolclaaDoorCrc
import Derived.Test.YtjgafkoboolclaaDoorRead
import Derived.Laws.BitsLemmas
import Derived.Test.YtjgafkoboolclaaDoorBits
namespace Go.Proofs.YtjgafkoboolclaaDoor
open Go.RowKit

/-! The table of remainders. -/
theorem i64_nat {a : Nat} (h : a < 9223372036854775808) : ∀ n : Int, 0 ≤ n → n < 2 ^ 63 → IntKind.i64.wrap n = n := fun n h0 h1 => IntWalk.i64_in _ (by omega)
theorem and_nat (a b : Nat) (ha : a < 9223372036854775808) (hb : b < 9223372036854775808) : bits .and .i64 (a : Int) (b : Int) = ((a &&& b : Nat) : Int) :=
  (bits_nat .i64 63 (by decide) (i64_nat ha) a b ha hb).1
theorem or_nat (a b : Nat) (ha : a < 9223372036854775808) (hb : b < 9223372036854775808) : bits .or .i64 (a : Int) (b : Int) = ((a ||| b : Nat) : Int) :=
  (bits_nat .i64 63 (by decide) (i64_nat ha) a b ha hb).2
theorem test_and {n i : Nat} (hn : n < 16777216) : (bits .and .i64 ((n : Int) / 2 ^ i) 1 == 1) = n.testBit i := by
  have e : (n : Int) / 2 ^ i = ((n / 2 ^ i : Nat) : Int) := by rw [Int.natCast_ediv, Int.natCast_pow]; rfl
  have hd : n / 2 ^ i ≤ n := Nat.div_le_self _ _
  rw [e, show (1 : Int) = ((1 : Nat) : Int) from rfl, and_nat _ _ (by omega) (by decide), Nat.and_one_is_mod, Nat.testBit_eq_decide_div_mod_eq, Bool.eq_iff_iff]
  simp only [beq_iff_eq, decide_eq_true_eq]
  omega
theorem pow7 {q : Nat} (hq : q ≤ 7) : 2 ^ q ≤ 128 := Nat.pow_le_pow_right (n := 2) (by decide) hq
theorem xor_off {n q : Nat} (hn : n < 16777216) (hq : q ≤ 7) : bits .xor .i64 (n : Int) (wrap64 (69665 * 2 ^ q)) = ((n ^^^ (69665 <<< q) : Nat) : Int) ∧ n ^^^ (69665 <<< q) < 16777216 := by
  have h7 := pow7 hq
  have e : (69665 * 2 ^ q : Int) = ((69665 * 2 ^ q : Nat) : Int) := by rw [Int.natCast_mul, Int.natCast_pow]; rfl
  have hle : 69665 * 2 ^ q ≤ 69665 * 128 := Nat.mul_le_mul_left _ h7
  rw [e, IntWalk.wrap64_in _ (by omega), i64_xor_nat _ _ (by omega) (by omega), Nat.shiftLeft_eq]
  exact ⟨rfl, Nat.xor_lt_two_pow (n := 24) hn (by omega)⟩
theorem genValid_c (w : World) : Calls Tryd.prog 58 #[.int .i64 69665] w (RetQ w (.bool true)) := by
  go_enter Tryd.func58, Tryd.ntmps58
  go_wp2
  go_ret
  exact RetQ.mkS rfl (SameW.refl _)
theorem degreeOf_c (w : World) : Calls Tryd.prog 56 #[.int .i64 69665] w (RetQ w (.int .i64 16)) := by
  go_enter Tryd.func56, Tryd.ntmps56
  go_wp2_with fail
  refine (genValid_c _).mono ?_
  rintro e w1 hr
  obtain ⟨rfl, hs1⟩ := hr.same
  have HS := Lib.hid hs1
  clear hr hs1
  go_wp2_with fail
  refine (bits_Len 69665 _ (by decide) (by decide)).mono ?_
  rintro e w2 ⟨rfl, hw⟩
  rw [hw, show Lib.bitLen (Int.toNat 69665) = 17 by decide]
  clear hw
  go_wp2
  go_ret
  exact RetQ.mkS rfl HS.out
theorem zeroR : ∃ Z : Array Value, (∀ w, (zeroValue 78).run Tryd.prog w = .ok (.agg Z) w) ∧ Z.size = 258 ∧ ∀ i, i < 258 → Z[i]? = some (.int .i64 0) :=
  ⟨Array.replicate 258 (.int .i64 0), fun w => by kernel_rfl, by simp, fun i hi => by simp [hi]⟩
/-- the reducer's block: the first k entries of the table stand -/
structure RedC (C : Array Value) (k : Nat) : Prop where
  size : C.size = 258
  deg : C[0]? = some (.int .i64 16)
  mask : C[1]? = some (.int .i64 65535)
  tab : ∀ j, j < k → C[2 + j]? = some (.int .i64 (tabN j))
set_option maxRecDepth 100000 in
set_option maxHeartbeats 4000000 in
theorem newReducer_c (w : World) : Calls Tryd.prog 60 #[.int .i64 69665] w (fun e w' => ∃ g, e = .returned (.pointer (some ⟨g, 0, none⟩)) ∧ ∃ C, RedC C 256 ∧ SH none w w' [blkP g C 78]) := by
  obtain ⟨Z, hz, hZs, hZc⟩ := zeroR
  have hne : ¬ Z = #[] := by rintro rfl; simp at hZs
  have HZ := Lib.hid (And.intro hZs hZc)
  clear hZs hZc
  go_enter Tryd.func60, Tryd.ntmps60
  go_wp2_with fail
  refine (degreeOf_c _).mono ?_
  rintro e w1 hr
  obtain ⟨rfl, hs1⟩ := hr.same
  have HS := Lib.hid hs1
  clear hr hs1
  have hzw := hz w1
  have f0 : (Z.setIfInBounds 0 (Value.int .i64 16))[0]? = some (Value.int .i64 16) := by
    rw [Array.getElem?_setIfInBounds_self_of_lt (by have := HZ.out.1; omega)]
  have f1 : (Z.setIfInBounds 0 (Value.int .i64 16))[1]? = some (Value.int .i64 0) := by
    rw [Array.getElem?_setIfInBounds_ne (by decide)]; exact HZ.out.2 1 (by omega)
  go_wp2_with fail
  have hs := ((SH.start0 w).below HS.out.below).allocP ((Z.setIfInBounds 0 (.int .i64 16)).setIfInBounds 1 (.int .i64 65535)) 78
  generalize hG : w1.heap.size = G at *
  have HR0 : Hid (RedC ((Z.setIfInBounds 0 (.int .i64 16)).setIfInBounds 1 (.int .i64 65535)) 0) := by
    refine ⟨by simp [HZ.out.1], ?_, ?_, fun j hj => absurd hj (Nat.not_lt_zero _)⟩
    · rw [Array.getElem?_setIfInBounds_ne (by decide)]; exact f0
    · rw [Array.getElem?_setIfInBounds_self_of_lt (by simp [HZ.out.1])]
  clear f0 f1 hzw hz hne
  go_loopw [20] (fun i wr => ∃ (k : Nat) (C : Array Value), k ≤ 256 ∧ i = .int .i64 k ∧ Hid (RedC C k) ∧ SH none w wr [blkP G C 78]) (fun i _ => 256 - (intOf i).toNat)
  case atStart => exact ⟨0, _, by decide, rfl, HR0, hs⟩
  case round =>
    clear hs HR0
    obtain ⟨k, C, hk, rfl, HR, hs⟩ := hrel
    by_cases hlt : k < 256
    · have hb := (show wr.heap[G]? = _ from hs.p0)
      have c0 : wr.cell? ⟨G, 0, none⟩ = some (.int .i64 16) := (blk_cell hb 0).trans HR.out.deg
      obtain ⟨x, hx⟩ : ∃ x, C[2 + k]? = some x := ⟨_, Array.getElem?_eq_getElem (by rw [HR.out.size]; omega)⟩
      have cx : wr.cell? ⟨G, 2 + k, none⟩ = some x := (blk_cell hb (2 + k)).trans hx
      have fz := blk_frozen hb (2 + k)
      clear hb hx
      go_wp2_with fail
      go_loopw [5, 6] (fun v i w2 => ∃ t n : Nat, t ≤ 8 ∧ v = .int .i64 n ∧ i = .int .i64 ((t : Int) - 1) ∧ n < 16777216 ∧ Hid (offTo n t = tabN k) ∧ SH none w w2 [blkP G C 78]) (fun _ i _ => (intOf i + 1).toNat)
      case atStart => exact ⟨8, k * 65536, by decide, intv (by omega), rfl, by omega, Lib.hid (by unfold tabN; rw [Nat.shiftLeft_eq]), hs⟩
      case round =>
        clear hs c0 cx fz
        obtain ⟨t, n, ht, rfl, rfl, hn, HO, hs⟩ := hrel
        have hb := hs.p0
        have c0 := (blk_cell hb 0).trans HR.out.deg
        by_cases ht0 : 1 ≤ t
        · obtain ⟨q, rfl⟩ : ∃ q, t = q + 1 := ⟨t - 1, by omega⟩
          rw [show (((q + 1 : Nat) : Int) - 1) = (q : Int) by omega]
          clear hb ht0
          have ht7 : q ≤ 7 := by omega
          cases hbit : n.testBit (16 + q)
          · have e := (test_and (i := 16 + q) hn).trans hbit
            have HO2 : Hid (offTo n q = tabN k) := by
              have h := HO.out
              rw [show offTo n (q + 1) = offTo (offN n q) q from rfl, show offN n q = n by unfold offN; rw [hbit]; rfl] at h
              exact h
            go_wp2
            go_roundw
            case rel => exact ⟨q, n, by omega, rfl, rfl, hn, HO2, hs⟩
            case measure => (simp [intOf]; try omega)
          · have e := (test_and (i := 16 + q) hn).trans hbit
            have HX := Lib.hid (xor_off hn ht7)
            have HO2 : Hid (offTo (n ^^^ (69665 <<< q)) q = tabN k) := by
              have h := HO.out
              rw [show offTo n (q + 1) = offTo (offN n q) q from rfl, show offN n q = n ^^^ (69665 <<< q) by unfold offN; rw [hbit]; rfl] at h
              exact h
            go_wp2
            go_roundw
            case rel => exact ⟨q, _, by omega, intv HX.out.1, rfl, HX.out.2, HO2, hs⟩
            case measure => (simp [intOf]; try omega)
        · obtain rfl : t = 0 := by omega
          have HN : Hid (n = tabN k) := HO.out
          obtain ⟨x, hx⟩ : ∃ x, C[2 + k]? = some x := ⟨_, Array.getElem?_eq_getElem (by rw [HR.out.size]; omega)⟩
          have cx := (blk_cell hb (2 + k)).trans hx
          have fz := blk_frozen hb (2 + k)
          clear hb hx
          go_wp2
          go_roundw
          case rel =>
            refine ⟨k + 1, C.setIfInBounds (2 + k) (.int .i64 n), hlt, by go_num, Lib.hid ⟨by simp [HR.out.size], ?_, ?_, fun j hj => ?_⟩, hs.setBlk (2 + k) _⟩
            · rw [Array.getElem?_setIfInBounds_ne (by omega)]; exact HR.out.deg
            · rw [Array.getElem?_setIfInBounds_ne (by omega)]; exact HR.out.mask
            · by_cases e : j = k
              · subst e
                rw [Array.getElem?_setIfInBounds_self_of_lt (by rw [HR.out.size]; omega), HN.out]
              · rw [Array.getElem?_setIfInBounds_ne (by omega)]; exact HR.out.tab j (by omega)
          case measure => simp [intOf]; omega
    · obtain rfl : k = 256 := by omega
      go_wp2
      go_ret
      exact ⟨_, rfl, C, HR.out, hs⟩
theorem or_even {r b : Nat} (k : Nat) (hr : r * 2 ^ k + b < 9223372036854775808) (hb : b < 2 ^ k) : bits .or .i64 ((r : Int) * (2 ^ k : Nat)) (b : Int) = ((r * 2 ^ k + b : Nat) : Int) := by
  have hp : r * 2 ^ k ≤ r * 2 ^ k + b := Nat.le_add_right _ _
  rw [← Int.natCast_mul, or_nat _ _ (by omega) (by omega)]
  congr 1
  rw [Nat.mul_comm]
  exact (Nat.two_pow_add_eq_or_of_lt hb r).symm
theorem stepsN_lt : ∀ (bits : List Nat) (r : Nat), r < 65536 → (∀ b ∈ bits, b ≤ 1) → stepsN r bits < 65536
  | [], _, hr, _ => hr
  | b :: bits, r, hr, hb => stepsN_lt bits (stepN r b) (stepN_lt hr (hb b (by simp))) (fun x hx => hb x (by simp [hx]))
theorem tab_lt (t : Nat) (ht : t < 256) : tabN t < 65536 := by
  have hz : ∀ b ∈ ([0, 0, 0, 0, 0, 0, 0, 0] : List Nat), b ≤ 1 := by simp
  have h := off_steps [0, 0, 0, 0, 0, 0, 0, 0] (t * 256) (by omega) hz
  have e : t * 256 * 2 ^ ([0, 0, 0, 0, 0, 0, 0, 0] : List Nat).length + wordN [0, 0, 0, 0, 0, 0, 0, 0] = t <<< 16 := by
    rw [Nat.shiftLeft_eq]
    simp [wordN]
    omega
  rw [e] at h
  unfold tabN
  rw [show (8 : Nat) = ([0, 0, 0, 0, 0, 0, 0, 0] : List Nat).length from rfl, h]
  exact stepsN_lt _ _ (by omega) hz
set_option maxRecDepth 100000 in
theorem feedOne_c (g : Nat) (C : Array Value) (r b : Nat) (w : World) (hb : w.heap[g]? = some (.cells C 78)) (hC : RedC C 256) (hr : r < 65536) (hx : b < 2 ^ 1) :
    Calls Tryd.prog 62 #[.pointer (some ⟨g, 0, none⟩), .int .i64 r, .int .i64 b] w (RetQ w (.int .i64 (((r * 2 + b) % 65536 ^^^ tabN ((r * 2 + b) / 65536) : Nat) : Int))) := by
  have ho : bits .or .i64 ((r : Int) * 2) (b : Int) = ((r * 2 + b : Nat) : Int) := or_even 1 (by omega) hx
  obtain ⟨v, hv⟩ : ∃ v, r * 2 + b = v := ⟨_, rfl⟩
  have hv2 : v < 16777216 := by omega
  rw [hv] at ho ⊢
  obtain ⟨tp, htp⟩ : ∃ tp, v / 65536 = tp := ⟨_, rfl⟩
  have ht : tp < 256 := by omega
  have hs : (v : Int) / 65536 = (tp : Int) := by omega
  have hm : bits .and .i64 (v : Int) 65535 = ((v % 65536 : Nat) : Int) := by
    rw [show (65535 : Int) = ((65535 : Nat) : Int) from rfl, and_nat _ _ (by omega) (by decide)]
    congr 1
    exact Nat.and_two_pow_sub_one_eq_mod v 16
  rw [htp]
  obtain ⟨lo, hlo⟩ : ∃ lo, v % 65536 = lo := ⟨_, rfl⟩
  have hlo2 : lo < 65536 := by omega
  rw [hlo] at hm ⊢
  obtain ⟨T, hT⟩ : ∃ T, tabN tp = T := ⟨_, rfl⟩
  have hT2 : T < 65536 := by rw [← hT]; exact tab_lt tp ht
  have hxr : bits .xor .i64 (lo : Int) (T : Int) = ((lo ^^^ T : Nat) : Int) := i64_xor_nat _ _ (by omega) (by omega)
  rw [hT]
  obtain ⟨X, hX⟩ : ∃ X, lo ^^^ T = X := ⟨_, rfl⟩
  rw [hX] at hxr ⊢
  have c0 : w.cell? ⟨g, 0, none⟩ = some (.int .i64 16) := (blk_cell hb 0).trans hC.deg
  have c1 : w.cell? ⟨g, 1, none⟩ = some (.int .i64 65535) := (blk_cell hb 1).trans hC.mask
  have c2 : w.cell? ⟨g, 2 + tp, none⟩ = some (.int .i64 T) := by rw [← hT]; exact (blk_cell hb (2 + tp)).trans (hC.tab tp ht)
  have i0 : (0 : Int) ≤ (tp : Int) := by omega
  have i1 : (tp : Int) < 256 := by omega
  clear hb hC hv htp hlo hT hX
  go_enter Tryd.func62, Tryd.ntmps62
  go_wp2
  go_quiet (fail)
  go_wp2
  go_ret
  exact RetQ.mkS rfl ⟨_, rfl⟩
set_option maxRecDepth 100000 in
theorem feed_c (g : Nat) (C : Array Value) (r b : Nat) (w : World) (hb : w.heap[g]? = some (.cells C 78)) (hC : RedC C 256) (hr : r < 65536) (hx : b < 2 ^ 8) :
    Calls Tryd.prog 63 #[.pointer (some ⟨g, 0, none⟩), .int .i64 r, .int .i64 b] w (RetQ w (.int .i64 (((r * 256 + b) % 65536 ^^^ tabN ((r * 256 + b) / 65536) : Nat) : Int))) := by
  have ho : bits .or .i64 ((r : Int) * 256) (b : Int) = ((r * 256 + b : Nat) : Int) := or_even 8 (by omega) hx
  obtain ⟨v, hv⟩ : ∃ v, r * 256 + b = v := ⟨_, rfl⟩
  have hv2 : v < 16777216 := by omega
  rw [hv] at ho ⊢
  obtain ⟨tp, htp⟩ : ∃ tp, v / 65536 = tp := ⟨_, rfl⟩
  have ht : tp < 256 := by omega
  have hs : (v : Int) / 65536 = (tp : Int) := by omega
  have hm : bits .and .i64 (v : Int) 65535 = ((v % 65536 : Nat) : Int) := by
    rw [show (65535 : Int) = ((65535 : Nat) : Int) from rfl, and_nat _ _ (by omega) (by decide)]
    congr 1
    exact Nat.and_two_pow_sub_one_eq_mod v 16
  rw [htp]
  obtain ⟨lo, hlo⟩ : ∃ lo, v % 65536 = lo := ⟨_, rfl⟩
  have hlo2 : lo < 65536 := by omega
  rw [hlo] at hm ⊢
  obtain ⟨T, hT⟩ : ∃ T, tabN tp = T := ⟨_, rfl⟩
  have hT2 : T < 65536 := by rw [← hT]; exact tab_lt tp ht
  have hxr : bits .xor .i64 (lo : Int) (T : Int) = ((lo ^^^ T : Nat) : Int) := i64_xor_nat _ _ (by omega) (by omega)
  rw [hT]
  obtain ⟨X, hX⟩ : ∃ X, lo ^^^ T = X := ⟨_, rfl⟩
  rw [hX] at hxr ⊢
  have c0 : w.cell? ⟨g, 0, none⟩ = some (.int .i64 16) := (blk_cell hb 0).trans hC.deg
  have c1 : w.cell? ⟨g, 1, none⟩ = some (.int .i64 65535) := (blk_cell hb 1).trans hC.mask
  have c2 : w.cell? ⟨g, 2 + tp, none⟩ = some (.int .i64 T) := by rw [← hT]; exact (blk_cell hb (2 + tp)).trans (hC.tab tp ht)
  have i0 : (0 : Int) ≤ (tp : Int) := by omega
  have i1 : (tp : Int) < 256 := by omega
  clear hb hC hv htp hlo hT hX
  go_enter Tryd.func63, Tryd.ntmps63
  go_wp2
  go_quiet (fail)
  go_wp2
  go_ret
  exact RetQ.mkS rfl ⟨_, rfl⟩
/-- the bits as naturals -/
def bN (xs : List Int) : List Nat := xs.map Int.toNat
theorem bN_len (xs : List Int) : (bN xs).length = xs.length := by simp [bN]
theorem bN_get {xs : List Int} {i : Nat} (h : i < xs.length) : (bN xs)[i]? = some (gi xs i).toNat := by simp [bN, gi, h]
def okB (xs : List Int) : Prop := ∀ i, i < xs.length → gi xs i = 0 ∨ gi xs i = 1
theorem bN_le {xs : List Int} (h : okB xs) : ∀ b ∈ bN xs, b ≤ 1 := by
  intro b hb
  obtain ⟨i, hi, rfl⟩ := List.getElem_of_mem hb
  rw [bN_len] at hi
  have h1 := bN_get hi
  rw [List.getElem?_eq_getElem (by rw [bN_len]; exact hi)] at h1
  rw [Option.some.inj h1]
  have := h i hi
  omega
theorem steps_snoc (r : Nat) (l : List Nat) (b : Nat) : stepsN r (l ++ [b]) = stepN (stepsN r l) b := by simp [stepsN]
theorem steps_cat (r : Nat) (l m : List Nat) : stepsN r (l ++ m) = stepsN (stepsN r l) m := by simp [stepsN]
theorem word_snoc (l : List Nat) (b : Nat) : wordN (l ++ [b]) = 2 * wordN l + b := by simp [wordN]
/-- the remainder of the first k bits -/
def remT (xs : List Int) (k : Nat) : Nat := stepsN 0 ((bN xs).take k)
theorem remT_lt {xs : List Int} (h : okB xs) (k : Nat) : remT xs k < 65536 := stepsN_lt _ _ (by decide) (fun b hb => bN_le h b (List.mem_of_mem_take hb))
theorem remT_succ {xs : List Int} {k : Nat} (hk : k < xs.length) : remT xs (k + 1) = stepN (remT xs k) (gi xs k).toNat := by
  unfold remT
  rw [List.take_add_one, bN_get hk, Option.toList_some, steps_snoc]
/-- the word of j bits from k on -/
def wdT (xs : List Int) (k j : Nat) : Nat := wordN (((bN xs).drop k).take j)
theorem wdT_succ {xs : List Int} {k j : Nat} (hk : k + j < xs.length) : wdT xs k (j + 1) = 2 * wdT xs k j + (gi xs (k + j)).toNat := by
  unfold wdT
  rw [List.take_add_one, List.getElem?_drop, bN_get hk, Option.toList_some, word_snoc]
theorem wdT_lt {xs : List Int} (h : okB xs) (k j : Nat) : wdT xs k j < 2 ^ j := by
  unfold wdT
  refine Nat.lt_of_lt_of_le (wordN_lt (fun b hb => bN_le h b (List.mem_of_mem_drop (List.mem_of_mem_take hb)))) ?_
  exact Nat.pow_le_pow_right (by decide) (by rw [List.length_take]; omega)
theorem remT_eight {xs : List Int} (h : okB xs) {k : Nat} (hk : k + 8 ≤ xs.length) : (remT xs k * 256 + wdT xs k 8) % 65536 ^^^ tabN ((remT xs k * 256 + wdT xs k 8) / 65536) = remT xs (k + 8) := by
  have hl : (((bN xs).drop k).take 8).length = 8 := by rw [List.length_take, List.length_drop, bN_len]; omega
  have hf := feed8 (remT_lt h k) (bits := ((bN xs).drop k).take 8) (fun b hb => bN_le h b (List.mem_of_mem_drop (List.mem_of_mem_take hb))) hl
  rw [Nat.shiftRight_eq_div_pow] at hf
  refine hf.trans ?_
  unfold remT
  rw [List.take_add, steps_cat]
theorem remT_one {xs : List Int} (h : okB xs) {k : Nat} (hk : k < xs.length) : (remT xs k * 2 + (gi xs k).toNat) % 65536 ^^^ tabN ((remT xs k * 2 + (gi xs k).toNat) / 65536) = remT xs (k + 1) := by
  have hf := feed1 (remT_lt h k) (b := (gi xs k).toNat) (by have := h k hk; omega)
  rw [Nat.shiftRight_eq_div_pow, Nat.mul_comm] at hf
  rw [remT_succ hk]
  exact hf

set_option maxRecDepth 100000 in
set_option maxHeartbeats 4000000 in
theorem remainderOf_c (va : Value) (xs : List Int) (g : Nat) (C : Array Value) (w : World) (h : RdI w va xs) (hx : okB xs) (hl : xs.length ≤ 1048576) (hb : w.heap[g]? = some (.cells C 78)) (hC : RedC C 256) :
    Calls Tryd.prog 59 #[va, .int .i64 0, .pointer (some ⟨g, 0, none⟩)] w (RetQ w (.int .i64 (remT xs xs.length : Int))) := by
  obtain ⟨a, ca, rfl, mc, mx⟩ := h.form'
  have H := Lib.hid h
  have HB := Lib.hid hb
  have HX := Lib.hid hx
  have hgl := blk_lt hb
  clear h hb hx
  go_enter Tryd.func59, Tryd.ntmps59
  go_wp2
  go_loopw [7, 8] (fun r i wr => ∃ k : Nat, k ≤ xs.length % 8 ∧ i = .int .i64 k ∧ r = .int .i64 (remT xs k : Int) ∧ Hid (SameW w wr)) (fun _ i _ => xs.length - (intOf i).toNat)
  case atStart => exact ⟨0, Nat.zero_le _, rfl, rfl, Lib.hid (SameW.refl _)⟩
  case round =>
    obtain ⟨k, hk, rfl, rfl, HS⟩ := hrel
    have hkl : k ≤ xs.length := by omega
    by_cases hlt : k < xs.length % 8
    · have hkn : k < xs.length := by omega
      obtain ⟨b, off, rfl, hc⟩ := (H.out.below HS.out.below).at_ hkn
      obtain ⟨y, hy⟩ : ∃ y : Nat, gi xs k = (y : Int) ∧ y ≤ 1 := ⟨(gi xs k).toNat, by have := HX.out k hkn; omega, by have := HX.out k hkn; omega⟩
      have HY := Lib.hid hy.1
      have hy1 := hy.2
      rw [hy.1] at hc
      clear hy
      have e8 : (((xs.length : Int) - (k : Int)) % 8 != 0) = true := by rw [bne_iff_ne]; omega
      have HR1 := Lib.hid (remT_one HX.out hkn)
      have hrl := remT_lt HX.out k
      go_wp2_with fail
      refine (feedOne_c g C (remT xs k) y _ ((HS.out.below.block g hgl).trans HB.out) hC hrl (by omega)).mono ?_
      rintro e w2 hr
      obtain ⟨rfl, hs1⟩ := hr.same
      have HS1 := Lib.hid (HS.out.trans hs1)
      clear hr hs1
      have e1 : ((remT xs k * 2 + y) % 65536 ^^^ tabN ((remT xs k * 2 + y) / 65536) : Nat) = remT xs (k + 1) := by
        have := HR1.out
        rwa [HY.out, Int.toNat_natCast] at this
      rw [e1]
      clear e1 e8
      go_wp2
      go_roundw
      case rel => exact ⟨k + 1, by omega, by go_num, rfl, HS1⟩
      case measure => simp [intOf]; omega
    · have e8 : (((xs.length : Int) - (k : Int)) % 8 != 0) = false := by rw [bne_eq_false_iff_eq]; omega
      have hk8 : k = xs.length % 8 := by omega
      have HK8 := Lib.hid hk8
      clear hk8 hlt hk
      go_wp2
      go_loopw [7, 8] (fun r i wr => ∃ k : Nat, k ≤ xs.length ∧ (xs.length - k) % 8 = 0 ∧ i = .int .i64 k ∧ r = .int .i64 (remT xs k : Int) ∧ Hid (SameW w wr)) (fun _ i _ => xs.length - (intOf i).toNat)
      case atStart => exact ⟨k, hkl, by rw [HK8.out]; omega, rfl, rfl, HS⟩
      case round =>
        clear HS HK8 hkl e8
        obtain ⟨k, hkl, hk8, rfl, rfl, HS⟩ := hrel
        by_cases hlt : k < xs.length
        · have hk9 : k + 8 ≤ xs.length := by omega
          obtain ⟨b, off, rfl, -⟩ := (H.out.below HS.out.below).at_ hlt
          have hcap : ¬ ca = k := by omega
          have HR8 := Lib.hid (remT_eight HX.out hk9)
          have hrl := remT_lt HX.out k
          go_wp2_with fail
          go_loopw [9, 39] (fun e i w3 => ∃ j : Nat, j ≤ 8 ∧ i = .int .i64 j ∧ e = .int .i64 (wdT xs k j : Int) ∧ Hid (SameW w w3)) (fun _ i _ => 8 - (intOf i).toNat)
          case atStart => exact ⟨0, by decide, rfl, rfl, HS⟩
          case round =>
            clear HS
            obtain ⟨j, hj, rfl, rfl, HS⟩ := hrel
            by_cases hj8 : j < 8
            · have hkj : k + j < xs.length := by omega
              obtain ⟨b2, o2, e2, hc⟩ := (H.out.below HS.out.below).at_ hkj
              cases e2
              obtain ⟨y, hy⟩ : ∃ y : Nat, gi xs (k + j) = (y : Int) ∧ y ≤ 1 := ⟨(gi xs (k + j)).toNat, by have := HX.out (k + j) hkj; omega, by have := HX.out (k + j) hkj; omega⟩
              have hy1 := hy.2
              have HW := Lib.hid (wdT_succ (xs := xs) (k := k) (j := j) hkj)
              rw [hy.1] at hc HW
              rw [← Nat.add_assoc] at hc
              clear hy
              have hwl : wdT xs k j < 128 := Nat.lt_of_lt_of_le (wdT_lt HX.out k j) (Nat.pow_le_pow_right (n := 2) (by decide) (show j ≤ 7 by omega))
              have ho : bits .or .i64 ((wdT xs k j : Int) * 2) (y : Int) = ((wdT xs k j * 2 + y : Nat) : Int) := or_even 1 (by omega) (by omega)
              go_wp2
              go_roundw
              case rel => exact ⟨j + 1, hj8, by go_num, intv (by rw [HW.out, Int.toNat_natCast]; omega), HS⟩
              case measure => simp [intOf]; omega
            · obtain rfl : j = 8 := by omega
              have hwl : wdT xs k 8 < 2 ^ 8 := wdT_lt HX.out k 8
              go_wp2_with fail
              refine (feed_c g C (remT xs k) (wdT xs k 8) _ ((HS.out.below.block g hgl).trans HB.out) hC hrl hwl).mono ?_
              rintro e w2 hr
              obtain ⟨rfl, hs1⟩ := hr.same
              have HS1 := Lib.hid (HS.out.trans hs1)
              clear hr hs1
              rw [HR8.out]
              go_wp2
              go_roundw
              case rel => exact ⟨k + 8, hk9, by omega, by go_num, rfl, HS1⟩
              case measure => simp [intOf]; omega
        · obtain rfl : k = xs.length := by omega
          go_wp2_with fail
          go_loopw [7, 53] (fun r i w3 => r = .int .i64 (remT xs xs.length : Int) ∧ i = .int .i64 0 ∧ Hid (SameW w w3)) (fun _ _ _ => 0)
          case atStart => exact ⟨rfl, rfl, HS⟩
          case round =>
            obtain ⟨rfl, rfl, HS2⟩ := hrel
            go_wp2
            go_ret
            exact RetQ.mkS rfl HS2.out
/-- CheckPasses, with the polynomial of frames -/
def chkB (xs : List Int) : Bool := bitsB xs && decide (16 ≤ xs.length) && (remT xs xs.length == 0)
section
variable {row : Option Nat} {w0 w w' W : World} {I J : List Part}
/-- a block made by a call, beside the caller's parts -/
theorem SH.joinBlk {g : Nat} {c : Array Value} {t : TypeId} (hs : SH row w0 w I) (hb : Below w.heap.size w W) (h : SH none W w' [blkP g c t]) : SH row w0 w' (blkP g c t :: I) :=
  (hs.below hb).push h.done h.p0 (fun q hq => by
    rcases h.new (blkP g c t) (by simp) q hq with h1 | h1
    · exact Nat.le_trans hb.size (by exact h1) |> fun _ => h1
    · cases h1)
end
set_option maxRecDepth 100000 in
set_option maxHeartbeats 1000000 in
theorem implCheckPasses_c (va : Value) (xs : List Int) (w : World) (h : RdI w va xs) :
    Calls Tryd.prog 55 #[va, .int .i64 69665] w (Ret w fun v _ => v = .bool (chkB xs)) := by
  obtain ⟨a, ca, rfl, mc, mx⟩ := h.form'
  have hs := SH.start w [rdP .i64 (.slice a xs.length ca) xs] (by simp only [List.forall_mem_cons]; exact ⟨⟨h, rdP_wr⟩, by simp⟩)
  clear h
  cases hv : bitsB xs
  · have HF : Hid (chkB xs = false) := by unfold Hid chkB; rw [hv]; rfl
    go_enter Tryd.func55, Tryd.ntmps55
    go_wp2_with fail
    refine (SH.quiet hs (by repeat' (first | with_reducible exact Below.refl _ _ | with_reducible assumption | with_reducible refine below_drewN ?_ _ | with_reducible refine Below.drew ?_ | with_reducible refine Below.alloc ?_ ?_ _ | with_reducible refine Below.setCell ?_ ?_ _ | go_size)) fun hs => implBitsValid_c _ xs _ hs.p0).mono ?_
    rintro e w1 ⟨rfl, hs⟩
    rw [hv]
    go_wp2
    go_ret
    exact Ret.mk1 (boolv HF.out.symm) hs.done
  · obtain ⟨hl, hx⟩ := bitsB_true.1 hv
    have HX := Lib.hid (show okB xs from hx)
    clear hx
    by_cases h16 : 16 ≤ xs.length
    · have HF : Hid (chkB xs = ((remT xs xs.length : Int) == 0)) := by
        unfold Hid chkB
        rw [hv, decide_eq_true h16, Bool.true_and, Bool.true_and, Bool.eq_iff_iff]
        simp only [beq_iff_eq]
        omega
      have hd : decide ((xs.length : Int) < 16) = false := by rw [decide_eq_false_iff_not]; omega
      go_enter Tryd.func55, Tryd.ntmps55
      go_wp2_with fail
      refine (SH.quiet hs (by repeat' (first | with_reducible exact Below.refl _ _ | with_reducible assumption | with_reducible refine below_drewN ?_ _ | with_reducible refine Below.drew ?_ | with_reducible refine Below.alloc ?_ ?_ _ | with_reducible refine Below.setCell ?_ ?_ _ | go_size)) fun hs => implBitsValid_c _ xs _ hs.p0).mono ?_
      rintro e w1 ⟨rfl, hs⟩
      rw [hv]
      go_wp2_with fail
      refine (SH.quiet hs (by repeat' (first | with_reducible exact Below.refl _ _ | with_reducible assumption | with_reducible refine below_drewN ?_ _ | with_reducible refine Below.drew ?_ | with_reducible refine Below.alloc ?_ ?_ _ | with_reducible refine Below.setCell ?_ ?_ _ | go_size)) fun hs => genValid_c _).mono ?_
      rintro e w2 ⟨rfl, hs⟩
      go_wp2_with fail
      refine (SH.quiet hs (by repeat' (first | with_reducible exact Below.refl _ _ | with_reducible assumption | with_reducible refine below_drewN ?_ _ | with_reducible refine Below.drew ?_ | with_reducible refine Below.alloc ?_ ?_ _ | with_reducible refine Below.setCell ?_ ?_ _ | go_size)) fun hs => degreeOf_c _).mono ?_
      rintro e w3 ⟨rfl, hs⟩
      go_wp2_with fail
      refine (newReducer_c _).mono ?_
      rintro e w4 ⟨g, rfl, C, hC, hj⟩
      have HC := Lib.hid hC
      have hs := hs.joinBlk (by repeat' (first | with_reducible exact Below.refl _ _ | with_reducible assumption | with_reducible refine below_drewN ?_ _ | with_reducible refine Below.drew ?_ | with_reducible refine Below.alloc ?_ ?_ _ | with_reducible refine Below.setCell ?_ ?_ _ | go_size)) hj
      clear hC hj
      go_wp2_with fail
      refine (SH.quiet hs (by repeat' (first | with_reducible exact Below.refl _ _ | with_reducible assumption | with_reducible refine below_drewN ?_ _ | with_reducible refine Below.drew ?_ | with_reducible refine Below.alloc ?_ ?_ _ | with_reducible refine Below.setCell ?_ ?_ _ | go_size)) fun hs => remainderOf_c _ xs g C _ hs.p1 HX.out (by omega) hs.p0 HC.out).mono ?_
      rintro e w5 ⟨rfl, hs⟩
      go_wp2
      go_ret
      exact Ret.mk1 (boolv HF.out.symm) hs.done
    · have HF : Hid (chkB xs = false) := by unfold Hid chkB; rw [decide_eq_false h16, Bool.and_false, Bool.false_and]
      have hd : decide ((xs.length : Int) < 16) = true := by rw [decide_eq_true_eq]; omega
      go_enter Tryd.func55, Tryd.ntmps55
      go_wp2_with fail
      refine (SH.quiet hs (by repeat' (first | with_reducible exact Below.refl _ _ | with_reducible assumption | with_reducible refine below_drewN ?_ _ | with_reducible refine Below.drew ?_ | with_reducible refine Below.alloc ?_ ?_ _ | with_reducible refine Below.setCell ?_ ?_ _ | go_size)) fun hs => implBitsValid_c _ xs _ hs.p0).mono ?_
      rintro e w1 ⟨rfl, hs⟩
      rw [hv]
      go_wp2_with fail
      refine (SH.quiet hs (by repeat' (first | with_reducible exact Below.refl _ _ | with_reducible assumption | with_reducible refine below_drewN ?_ _ | with_reducible refine Below.drew ?_ | with_reducible refine Below.alloc ?_ ?_ _ | with_reducible refine Below.setCell ?_ ?_ _ | go_size)) fun hs => genValid_c _).mono ?_
      rintro e w2 ⟨rfl, hs⟩
      go_wp2_with fail
      refine (SH.quiet hs (by repeat' (first | with_reducible exact Below.refl _ _ | with_reducible assumption | with_reducible refine below_drewN ?_ _ | with_reducible refine Below.drew ?_ | with_reducible refine Below.alloc ?_ ?_ _ | with_reducible refine Below.setCell ?_ ?_ _ | go_size)) fun hs => degreeOf_c _).mono ?_
      rintro e w3 ⟨rfl, hs⟩
      go_wp2
      go_ret
      exact Ret.mk1 (boolv HF.out.symm) hs.done
end Go.Proofs.YtjgafkoboolclaaDoor
