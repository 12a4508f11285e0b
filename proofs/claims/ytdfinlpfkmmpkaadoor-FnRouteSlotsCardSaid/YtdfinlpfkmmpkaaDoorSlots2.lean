import Derived.Test.YtdfinlpfkmmpkaaDoorProg
import Derived.Test.YtdfinlpfkmmpkaaDoorSlots
namespace Go.Proofs.YtdfinlpfkmmpkaaDoor
open Go.RowKit

theorem or_u64 (a b : Nat) (ha : a < 1024) (hb : b < 1024) : bits .or .u64 (a : Int) (b : Int) = ((a ||| b : Nat) : Int) := by
  have hx : a ||| b < 2 ^ 10 := Nat.or_lt_two_pow ha hb
  have h1 : (BitVec.ofInt 64 (a : Int)).toNat = a := by
    rw [BitVec.ofInt_natCast, BitVec.toNat_ofNat]; exact Nat.mod_eq_of_lt (by omega)
  have h2 : (BitVec.ofInt 64 (b : Int)).toNat = b := by
    rw [BitVec.ofInt_natCast, BitVec.toNat_ofNat]; exact Nat.mod_eq_of_lt (by omega)
  show IntKind.u64.wrap ((BitVec.ofInt 64 (a : Int) ||| BitVec.ofInt 64 (b : Int)).toNat : Int) = _
  rw [BitVec.toNat_or, h1, h2, IntKind.wrap_u64]
  omega
theorem and_u64 (a : Nat) (ha : a < 1024) : bits .and .u64 (a : Int) 1 = ((a % 2 : Nat) : Int) := by
  have h1 : (BitVec.ofInt 64 (a : Int)).toNat = a := by
    rw [BitVec.ofInt_natCast, BitVec.toNat_ofNat]; exact Nat.mod_eq_of_lt (by omega)
  show IntKind.u64.wrap ((BitVec.ofInt 64 (a : Int) &&& BitVec.ofInt 64 (1 : Int)).toNat : Int) = _
  rw [BitVec.toNat_and, h1, show (BitVec.ofInt 64 (1 : Int)).toNat = 1 from rfl, Nat.and_one_is_mod, IntKind.wrap_u64]
  omega
theorem pow_lt10 {k : Nat} (h : k < 10) : 2 ^ k < 1024 := Nat.pow_lt_pow_right (n := 10) (by decide) h
theorem mskN_lt10 (f : Nat → Bool) {k : Nat} (h : k ≤ 10) : mskN f k < 1024 := Nat.lt_of_lt_of_le (mskN_lt f k) (Nat.pow_le_pow_right (n := 2) (by decide) h)
/-- the rows' sets: the first k rows whole, the next one up to j -/
def mskL (T : Nat → Nat → Bool) (n k j : Nat) : List Int := (List.range n).map fun i => ((if i < k then mskN (T i) n else if i = k then mskN (T k) j else 0 : Nat) : Int)
theorem mskL_len (T : Nat → Nat → Bool) (n k j : Nat) : (mskL T n k j).length = n := by simp [mskL]
theorem gi_mskL {T : Nat → Nat → Bool} {n k j i : Nat} (h : i < n) : gi (mskL T n k j) i = ((if i < k then mskN (T i) n else if i = k then mskN (T k) j else 0 : Nat) : Int) := by simp [gi, mskL, h]
theorem mskL_set {T : Nat → Nat → Bool} {n k j : Nat} (hk : k < n) : (mskL T n k j).set k ((mskN (T k) (j + 1) : Nat) : Int) = mskL T n k (j + 1) := by
  refine gi_ext (by simp [mskL]) fun i hi => ?_
  rw [List.length_set, mskL_len] at hi
  rw [gi_set (by rw [mskL_len]; exact hk), gi_mskL hi, gi_mskL hi]
  by_cases e : i = k
  · subst e; simp
  · simp [e]
theorem mskL_same {T : Nat → Nat → Bool} {n k j : Nat} (h : T k j = false) : mskL T n k (j + 1) = mskL T n k j := by
  have e : mskN (T k) (j + 1) = mskN (T k) j := by rw [mskN, h]; rfl
  unfold mskL
  rw [e]
theorem mskL_next {T : Nat → Nat → Bool} {n k : Nat} : mskL T n k n = mskL T n (k + 1) 0 := by
  refine gi_ext (by simp [mskL]) fun i hi => ?_
  rw [mskL_len] at hi
  rw [gi_mskL hi, gi_mskL hi]
  by_cases e : i = k
  · subst e; simp
  · by_cases e2 : i < k
    · rw [if_pos e2, if_pos (by omega)]
    · rw [if_neg e2, if_neg e, if_neg (by omega)]
      split
      · next h => rfl
      · rfl
theorem mskL_zero (T : Nat → Nat → Bool) (n : Nat) : List.replicate n (0 : Int) = mskL T n 0 0 := by
  refine gi_ext (by simp [mskL]) fun i hi => ?_
  rw [List.length_replicate] at hi
  rw [gi_mskL hi, if_neg (by omega)]
  have : gi (List.replicate n (0 : Int)) i = 0 := by simp [gi, hi]
  rw [this]
  split <;> rfl
theorem info_set : (Tryd.prog.info? 50).map (fun i => (i.zero, i.size, i.bytes)) = some (some (.int .u64 0), 1, 8) := by kernel_rfl
set_option maxRecDepth 100000 in
set_option maxHeartbeats 4000000 in
theorem sets_c (va : Value) (vs : Nat → Value) (T : Nat → Nat → Bool) (n : Nat) (w : World) (h : RdT w va vs T n) (hn : n ≤ 10) :
    Calls Tryd.prog 21 #[va] w (Ret w fun v w' => OwnK .u64 w' w.heap.size 50 v (mskL T n n 0)) := by
  obtain ⟨a, ca, rfl, ml⟩ := h.rows.form
  have hs := SH.start w [rdTP (.slice a n ca) vs T n] (by simp only [List.forall_mem_cons]; exact ⟨⟨h, rdTP_wr⟩, by simp⟩)
  clear h ml
  go_enter Tryd.func21, Tryd.ntmps21
  go_wp2_with (at_make; refine wp_makeK rfl rfl .u64 w.heap.size 50 8 Tryd.underlying46 info_set n rfl rfl rfl rfl (by omega) (by unfold maxLen; omega) (Nat.le_refl _) ?_; intro w2 hown hg hsz)
  have hs := hs.pushOwn (below_of_grown hg) hown
  rw [mskL_zero T n] at hs
  clear hown hg hsz
  generalize w.heap.size = G at hs ⊢
  go_loopw [4, 5, 13] (fun _ _ i wr => ∃ k : Nat, k ≤ n ∧ i = .int .i64 k ∧ SH none w wr [ownP .u64 50 (.slice (some ⟨G, 0, none⟩) n n) (mskL T n k 0), rdTP (.slice a n ca) vs T n]) (fun _ _ i _ => n - (intOf i).toNat)
  case atStart => exact ⟨0, Nat.zero_le _, rfl, hs⟩
  case round =>
    clear hs
    obtain ⟨k, hk, rfl, hs⟩ := hrel
    by_cases hlt : k < n
    · obtain ⟨b, off, rfl, hc0, b2, o2, c2, hv, -⟩ := (show RdT _ _ _ _ _ from hs.p1).cells hlt
      rw [hv] at hc0
      have HV := Lib.hid hv
      clear hv
      have i1 : (k : Int) < (n : Int) := by omega
      go_wp2
      go_loopw [6, 7, 20] (fun _ _ i wr => ∃ p : Nat, p ≤ n ∧ i = .int .i64 p ∧ SH none w wr [ownP .u64 50 (.slice (some ⟨G, 0, none⟩) n n) (mskL T n k p), rdTP (.slice (some ⟨b, off, none⟩) n ca) vs T n]) (fun _ _ i _ => n - (intOf i).toNat)
      case atStart => exact ⟨0, Nat.zero_le _, rfl, hs⟩
      case round =>
        clear hs hc0
        obtain ⟨p, hp, rfl, hs⟩ := hrel
        by_cases hpl : p < n
        · obtain ⟨b', off', e, -, b3, o3, c3, hv, hcr⟩ := (show RdT _ _ _ _ _ from hs.p1).cells hlt
          cases e
          rw [HV.out] at hv
          cases hv
          have hx := hcr p hpl
          have i2 : (p : Int) < (n : Int) := by omega
          clear hcr
          cases hT : T k p
          · rw [hT] at hx
            have HE := Lib.hid (mskL_same (n := n) hT)
            clear hT
            go_wp2
            go_roundw
            case rel => exact ⟨p + 1, hpl, by go_num, by rw [HE.out]; exact hs⟩
            case measure => simp [intOf]; omega
          · rw [hT] at hx
            have HE : Hid (mskN (T k) (p + 1) = mskN (T k) p ||| 2 ^ p) := Lib.hid (by rw [mskN, hT]; rfl)
            have HSE := Lib.hid (mskL_set (T := T) (j := p) hlt)
            obtain ⟨g2, eg, -, -, hgc, hgf⟩ := OwnK.at_ hs.p0 hlt
            cases eg
            rw [gi_mskL hlt, if_neg (by omega), if_pos rfl] at hgc
            have hm := mskN_lt10 (T k) (show p ≤ 10 by omega)
            have hp2 := pow_lt10 (show p < 10 by omega)
            have hor := or_u64 _ _ hm hp2
            rw [HE.out] at HSE
            clear hT HE
            generalize mskN (T k) p = M at *
            have hz : ((2 : Int) ^ p) = ((2 ^ p : Nat) : Int) := by simp
            obtain ⟨Z, hZ⟩ : ∃ Z : Nat, 2 ^ p = Z := ⟨_, rfl⟩
            rw [hZ] at hz hp2 hor HSE
            have hpw : IntKind.u64.wrap ((2 : Int) ^ p) = (Z : Int) := by rw [hz, IntKind.wrap_u64]; omega
            generalize M ||| Z = MZ at *
            clear hZ
            go_wp2
            refine wp_region_quiet_tail 8 (by kernel_rfl) (by kernel_rfl) ?_
            simp only [List.take_succ_cons, List.take_zero, List.drop_succ_cons, List.drop_zero]
            repeat go_big_quiet_step (fail)
            refine wpQuiet_nil ?_
            rintro _ ⟨nq, rfl⟩
            have hs := hs.drewN nq
            have hgc2 : (wr.drewN nq).cell? ⟨G, k, none⟩ = some (.int .u64 (M : Int)) := hgc
            have hgf2 : (wr.drewN nq).frozen? ⟨G, k, none⟩ = false := hgf
            clear hx hgc hgf
            generalize wr.drewN nq = W at *
            go_wp2
            go_roundw
            case rel => exact ⟨p + 1, hpl, by go_num, by have := hs.setOwn hlt (MZ : Int); rw [HSE.out] at this; exact this⟩
            case measure => simp [intOf]; omega
        · obtain rfl : p = n := by omega
          go_wp2
          go_roundw
          case rel => exact ⟨k + 1, hlt, by go_num, by rw [← mskL_next]; exact hs⟩
          case measure => simp [intOf]; omega
    · obtain rfl : k = n := by omega
      go_wp2
      go_ret
      exact Ret.mk1 (SH.ownRet hs) hs.done
end Go.Proofs.YtdfinlpfkmmpkaaDoor
