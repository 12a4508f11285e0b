import Derived.Test.YtpcmfmkpgidgpaaDoorProg
import Derived.Test.YtpcmfmkpgidgpaaDoorLink3
import Derived.Test.YtpcmfmkpgidgpaaDoorQTail
import Derived.Deep.QuietTactic
import Derived.BigQuiet
import Derived.StillTailTactics
import Derived.Deep.RegionWith
namespace Go.Proofs.YtpcmfmkpgidgpaaDoor
open Go.RowKit

theorem tableValid_c (va : Value) (xs : List Int) (n : Nat) (w : World) (h : RdI w va xs) (hv : bitsB xs = true) (hn : xs.length = 7 * n) :
    Calls Tryd.prog 80 #[va, .int .i64 7] w (RetQ w (.bool true)) := by
  obtain ⟨a, ca, rfl, ml⟩ := h.form
  have H := Lib.hid h
  have e7 : ((xs.length : Int) % 7 == 0) = true := by rw [beq_iff_eq]; omega
  have HV := Lib.hid hv
  clear h hv hn
  go_enter Tryd.func80, Tryd.ntmps80
  go_wp2_with fail
  refine (implBitsValid_c _ xs _ H.out).mono ?_
  rintro e w1 ⟨rfl, q, rfl⟩
  rw [HV.out]
  go_wp2
  go_ret
  exact RetQ.mk1 rfl ⟨_, rfl⟩
theorem place_c (k n : Nat) (w : World) (hk : k < 7 * n) (hn : n ≤ 1000) :
    Calls Tryd.prog 81 #[.int .i64 k, .int .i64 7, .int .i64 n] w (RetQ w (.int .i64 (k % 7 * n + k / 7 : Nat))) := by
  have hb := (tab_place hk).1
  have hm : k % 7 * n ≤ 6 * n := Nat.mul_le_mul_right n (by omega)
  have hw1 : IntKind.i64.wrap ((k : Int) % 7 * (n : Int)) = ((k % 7 * n : Nat) : Int) := by
    rw [show ((k : Int) % 7 * (n : Int)) = ((k % 7 * n : Nat) : Int) by simp]
    exact IntWalk.i64_in _ (by omega)
  have HW2 : Hid (wrap64 ((k : Int) % 7 * (n : Int) + (k : Int) / 7) = ((k % 7 * n + k / 7 : Nat) : Int)) := Lib.hid (by
    rw [show ((k : Int) % 7 * (n : Int) + (k : Int) / 7) = ((k % 7 * n + k / 7 : Nat) : Int) by simp]
    exact IntWalk.wrap64_in _ (by omega))
  clear hb hm
  go_enter Tryd.func81, Tryd.ntmps81
  go_wp2
  go_quiet (fail)
  go_wp2
  go_ret
  exact RetQ.mk1 (congrArg (Value.int .i64) HW2.out) ⟨_, rfl⟩
theorem l8Ok_c (va : Value) (xs : List Int) (n : Nat) (w : World) (h : RdI w va xs) (hv : bitsB xs = true) (hn : xs.length = 7 * n) :
    Calls Tryd.prog 68 #[va, .int .i64 7] w (RetQ w (.bool true)) := by
  obtain ⟨a, ca, rfl, ml⟩ := h.form
  have H := Lib.hid h
  have e7 : ((xs.length : Int) % 7 == 0) = true := by rw [beq_iff_eq]; omega
  have HV := Lib.hid hv
  clear h hv hn
  go_enter Tryd.func68, Tryd.ntmps68
  go_wp2_with fail
  refine (specBitsValid_c _ xs _ H.out).mono ?_
  rintro e w1 ⟨rfl, q, rfl⟩
  rw [HV.out]
  go_wp2_with fail
  refine (l1In_x 7 1 32 _).mono ?_
  rintro e w2 ⟨rfl, rfl⟩
  rw [show inB 7 1 32 = true by decide]
  go_wp2
  go_ret
  exact RetQ.mk1 rfl ⟨_, rfl⟩
/-- one more number at its place -/
theorem di_step {xs zs : List Int} {n k : Nat} (hn : xs.length = 7 * n) (hz : zs.length = xs.length) (hk : k < xs.length) (h : ∀ p, p < xs.length → p % n * 7 + p / n < k → gi zs p = gi xs (p % n * 7 + p / n)) :
    ∀ p, p < xs.length → p % n * 7 + p / n < k + 1 → gi (zs.set (k % 7 * n + k / 7) (gi xs k)) p = gi xs (p % n * 7 + p / n) := fun p hp hlt => by
  obtain ⟨a, b, d⟩ := tab_back (hn ▸ hp)
  obtain ⟨a', b', d'⟩ := tab_place (hn ▸ hk)
  rw [gi_set (by omega)]
  by_cases e : p % n * 7 + p / n = k
  · have e2 : p = k % 7 * n + k / 7 := by
      rw [← e, b, d]
      have := Nat.div_add_mod p n
      rw [Nat.mul_comm] at this
      omega
    rw [if_pos e2, e]
  · have e2 : ¬ p = k % 7 * n + k / 7 := fun h => e (by rw [h, b', d']; omega)
    rw [if_neg e2]
    exact h p hp (by omega)
theorem di_all {xs zs : List Int} {n : Nat} (hn : xs.length = 7 * n) (hz : zs.length = xs.length) (h : ∀ p, p < xs.length → p % n * 7 + p / n < xs.length → gi zs p = gi xs (p % n * 7 + p / n)) : zs = diL xs n := by
  refine gi_ext (by rw [diL_len, hz]) fun p hp => ?_
  rw [hz] at hp
  rw [gi_diL hp]
  exact h p hp (by have := (tab_back (hn ▸ hp)).1; omega)
set_option maxRecDepth 100000 in
set_option maxHeartbeats 4000000 in
theorem implDeint_c (va : Value) (xs : List Int) (n : Nat) (w : World) (h : RdI w va xs) (hv : bitsB xs = true) (hn : xs.length = 7 * n) (hn1 : 1 ≤ n) :
    Calls Tryd.prog 49 #[va, .int .i64 7] w (Ret w fun v w' => OwnI w' w.heap.size 3 v (diL xs n)) := by
  obtain ⟨a, ca, rfl, mc, mx⟩ := h.form'
  have hs := SH.start w [rdP .i64 (.slice a xs.length ca) xs] (by simp only [List.forall_mem_cons]; exact ⟨⟨h, rdP_wr⟩, by simp⟩)
  clear h
  have hl := (bitsB_true.1 hv).1
  have HV := Lib.hid hv
  have HN := Lib.hid hn
  have hn200 : n ≤ 200 := by omega
  have HQ : Hid ((xs.length : Int) / 7 = (n : Int)) := Lib.hid (by omega)
  clear hv hn
  go_enter Tryd.func49, Tryd.ntmps49
  go_wp2_with fail
  refine (SH.quiet hs (by repeat' (first | with_reducible exact Below.refl _ _ | with_reducible assumption | with_reducible refine below_drewN ?_ _ | with_reducible refine Below.drew ?_ | with_reducible refine Below.alloc ?_ ?_ _ | with_reducible refine Below.setCell ?_ ?_ _ | go_size)) fun hs => tableValid_c _ xs n _ hs.p0 HV.out HN.out).mono ?_
  rintro e w1 ⟨rfl, hs⟩
  go_wp2_with (at_make; refine wp_makeK rfl rfl .i64 w1.heap.size 3 8 Tryd.underlying22 info_int xs.length rfl rfl rfl rfl (by omega) (by unfold maxLen; omega) (Nat.le_refl _) ?_; intro w2 hown hg hsz)
  have hs := hs.pushOwn (below_of_grown hg) hown
  clear hown hg hsz
  generalize w1.heap.size = G at *
  go_loopw [6, 16] (fun _ i wr => ∃ (k : Nat) (zs : List Int), k ≤ xs.length ∧ i = .int .i64 k ∧ Hid (zs.length = xs.length) ∧ Hid (∀ p, p < xs.length → p % n * 7 + p / n < k → gi zs p = gi xs (p % n * 7 + p / n)) ∧ SH none w wr [ownP .i64 3 (.slice (some ⟨G, 0, none⟩) xs.length xs.length) zs, rdP .i64 (.slice a xs.length ca) xs]) (fun _ i _ => xs.length - (intOf i).toNat)
  case atStart => exact ⟨0, _, Nat.zero_le _, rfl, Lib.hid (by simp), Lib.hid (fun p _ h => absurd h (Nat.not_lt_zero _)), hs⟩
  case round =>
    clear hs
    obtain ⟨k, zs, hk, rfl, HZ, HP, hs⟩ := hrel
    by_cases hlt : k < xs.length
    · obtain ⟨b, off, rfl, hc⟩ := (SH.p1 hs : RdI _ _ _).at_ hlt
      have HPL : Hid (k % 7 * n + k / 7 < xs.length) := Lib.hid (by rw [HN.out]; exact (tab_place (HN.out ▸ hlt)).1)
      have hst := di_step HN.out HZ.out hlt HP.out
      have HKN : Hid (k < 7 * n) := Lib.hid (HN.out ▸ hlt)
      have HST := Lib.hid hst
      clear hst
      have hq := HPL.out
      have hpc := place_c k n
      obtain ⟨x, hx⟩ : ∃ x, gi xs k = x := ⟨_, rfl⟩
      rw [hx] at hc HST
      have HPC : Hid (∀ w, Calls Tryd.prog 81 #[.int .i64 k, .int .i64 7, .int .i64 n] w (RetQ w (.int .i64 (k % 7 * n + k / 7 : Nat)))) := Lib.hid fun w => hpc w HKN.out (by omega)
      clear hpc hx
      generalize k % 7 * n + k / 7 = q at *
      obtain ⟨g2, eg, -, -, hgc, hgf⟩ := OwnK.at_ hs.p0 hq
      cases eg
      have i1 : (q : Int) < (xs.length : Int) := by omega
      have i2 : (k : Int) < (xs.length : Int) := by omega
      have hqn := HQ.out
      go_wp2
      refine wp_region_quiet_tail 13 (by kernel_rfl) (by kernel_rfl) ?_
      simp only [List.take_succ_cons, List.take_zero, List.drop_succ_cons, List.drop_zero]
      repeat go_big_quiet_step ((go_at_call 81; exact quiet_of (HPC.out _)))
      refine wpQuiet_nil ?_
      rintro _ ⟨nq, rfl⟩
      have hs := hs.drewN nq
      have hgc2 : (wr.drewN nq).cell? ⟨G, q, none⟩ = some (.int .i64 (gi zs q)) := hgc
      have hgf2 : (wr.drewN nq).frozen? ⟨G, q, none⟩ = false := hgf
      clear hc hgc hgf
      generalize wr.drewN nq = W at *
      go_wp2
      go_roundw
      case rel => exact ⟨k + 1, _, hlt, by go_num, Lib.hid (by rw [List.length_set]; exact HZ.out), HST, hs.setOwn hq x⟩
      case measure => simp [intOf]; omega
    · obtain rfl : k = xs.length := by omega
      go_wp2
      go_ret
      exact Ret.mk1 (by rw [← di_all HN.out HZ.out HP.out]; exact SH.ownRet hs) hs.done
end Go.Proofs.YtpcmfmkpgidgpaaDoor
