import Derived.Test.YtpcmfmkpgidgpaaDoorProg
import Derived.Test.YtpcmfmkpgidgpaaDoorLink2
import Derived.StillTailTactics
namespace Go.Proofs.YtpcmfmkpgidgpaaDoor
open Go.RowKit

set_option maxRecDepth 100000 in
set_option maxHeartbeats 4000000 in
theorem specDecode_c (va : Value) (ys : List Int) (n : Nat) (w : World) (h : RdI w va ys) (hv : bitsB ys = true) (hn : ys.length = 7 * n) (hl : n ≤ 100) :
    Calls Tryd.prog 53 #[va] w (Ret w fun v w' => ∃ v', v = .tuple #[v', .int .i64 (decN ys n : Nat)] ∧ OwnI w' w.heap.size 3 v' (decT ys n)) := by
  obtain ⟨a, ca, rfl, mc, mx⟩ := h.form'
  have hs := SH.start w [rdP .i64 (.slice a ys.length ca) ys] (by simp only [List.forall_mem_cons]; exact ⟨⟨h, rdP_wr⟩, by simp⟩)
  clear h
  obtain ⟨hl2, hx⟩ := bitsB_true.1 hv
  have HX := Lib.hid (show okB ys from hx)
  clear hx
  have e7 : ((ys.length : Int) % 7 != 0) = false := by rw [bne_eq_false_iff_eq]; omega
  have e8 : decide ((ys.length : Int) > 896) = false := by rw [decide_eq_false_iff_not]; omega
  have HN := Lib.hid hn
  clear hn
  go_enter Tryd.func53, Tryd.ntmps53
  go_wp2_with fail
  have hs := hs.ownEmpty .i64 3
  refine (SH.quiet hs (by repeat' (first | with_reducible exact Below.refl _ _ | with_reducible assumption | with_reducible refine below_drewN ?_ _ | with_reducible refine Below.drew ?_ | with_reducible refine Below.alloc ?_ ?_ _ | with_reducible refine Below.setCell ?_ ?_ _ | go_size)) fun hs => specBitsValid_c _ ys _ hs.p1).mono ?_
  rintro e w1 ⟨rfl, hs⟩
  rw [hv]
  clear hv
  go_wp2_with fail
  clear e7 e8
  generalize w.heap.size = B0 at hs ⊢
  go_loopw [4, 5, 6, 7, 8] (fun o c i _ _ wr => ∃ k : Nat, k ≤ n ∧ i = .int .i64 ((7 * k : Nat) : Int) ∧ c = .int .i64 (decN ys k : Nat) ∧ SH none w wr [ownP .i64 3 o (decT ys k), rdP .i64 (.slice a ys.length ca) ys]) (fun _ _ i _ _ _ => ys.length - (intOf i).toNat)
  case atStart => exact ⟨0, Nat.zero_le _, rfl, rfl, hs⟩
  case round =>
    clear hs
    obtain ⟨k, hk, rfl, rfl, hs⟩ := hrel
    have hkl := decT_len ys k
    obtain ⟨ao, co, rfl, -⟩ := (OwnK.rd hs.p0).form
    rw [hkl] at hs ⊢
    by_cases hlt : k < n
    · have hk9 : 7 * k + 7 ≤ ys.length := by rw [HN.out]; omega
      obtain ⟨b, off, rfl, -⟩ := (SH.p1 hs : RdI _ _ _).at_ (show 7 * k < ys.length by omega)
      have hcap : ¬ ca = 7 * k := by omega
      have i2 : ((7 * k : Nat) : Int) < (ys.length : Int) := by omega
      have hsl : ((ys.drop (7 * k)).take 7).length = 7 := by rw [List.length_take, List.length_drop]; omega
      have HSB : Hid (okB ((ys.drop (7 * k)).take 7)) := Lib.hid fun i hi => by
        rw [gi_sub _ _ _ _ (by omega)]
        exact HX.out _ (by omega)
      have HSL := Lib.hid hsl
      have HEQ : Hid (∀ i, i < 7 → gi ((ys.drop (7 * k)).take 7) i = at7 ys k i) := Lib.hid fun i hi => gi_sub _ _ _ _ hi
      have HW : Hid (wdL (gi ((ys.drop (7 * k)).take 7)) = wdL (at7 ys k)) := Lib.hid (wd_congr HEQ.out).1
      have HSY : Hid (synT (gi ((ys.drop (7 * k)).take 7)) 7 = synT (at7 ys k) 7) := Lib.hid (synT_congr HEQ.out)
      have HDN : Hid (decN ys (k + 1) = decN ys k + if synT (at7 ys k) 7 = 0 then 0 else 1) := Lib.hid rfl
      have HDT : Hid (decT ys (k + 1) = decT ys k ++ wdL (at7 ys k)) := Lib.hid rfl
      have hwl : (wdL (at7 ys k)).length = 4 := rfl
      have hdn := decN_le ys k
      clear hsl
      generalize decN ys k = cn at *
      go_wp2_with fail
      refine (SH.ownT hs (by repeat' (first | with_reducible exact Below.refl _ _ | with_reducible assumption | with_reducible refine below_drewN ?_ _ | with_reducible refine Below.drew ?_ | with_reducible refine Below.alloc ?_ ?_ _ | with_reducible refine Below.setCell ?_ ?_ _ | go_size)) fun hs => specNibble_c _ ((ys.drop (7 * k)).take 7) _ (RdK.sub (show RdI _ (.slice (some ⟨b, off, none⟩) ys.length ca) ys from hs.p1) (by omega)) HSB.out HSL.out).mono ?_
      rintro e w3 ⟨v3, rfl, hs⟩
      rw [HW.out] at hs
      rw [HSY.out]
      generalize wdL (at7 ys k) = WL at *
      generalize synT (at7 ys k) 7 = S at *
      have hs := hs.bring1
      clear hcap i2 HEQ
      by_cases hS : 0 < S
      · have hd : decide ((0 : Int) < (S : Int)) = true := decide_eq_true (by omega)
        rw [hd]
        go_wp2_with (at_builtin; refine wp_appKX (xs := decT ys k) (ys := WL) rfl rfl .i64 3 8 Tryd.underlying22 info_int rfl hs rfl (OwnK.rd hs.p1) (by rw [hkl, hwl]; omega) (by rw [hkl, hwl]; unfold maxLen; omega) ?_; intro v6 w6 hs)
        go_roundw
        case rel => exact ⟨k + 1, hlt, by go_num, by rw [HDN.out, if_neg (by omega)]; go_num, by rw [HDT.out]; exact hs.drop1⟩
        case measure => simp [intOf]; omega
      · have hd : decide ((0 : Int) < (S : Int)) = false := decide_eq_false (by omega)
        rw [hd]
        go_wp2_with (at_builtin; refine wp_appKX (xs := decT ys k) (ys := WL) rfl rfl .i64 3 8 Tryd.underlying22 info_int rfl hs rfl (OwnK.rd hs.p1) (by rw [hkl, hwl]; omega) (by rw [hkl, hwl]; unfold maxLen; omega) ?_; intro v6 w6 hs)
        go_roundw
        case rel => exact ⟨k + 1, hlt, by go_num, by rw [HDN.out, if_pos (by omega)]; go_num, by rw [HDT.out]; exact hs.drop1⟩
        case measure => simp [intOf]; omega
    · obtain rfl : k = n := by omega
      have hd2 : ¬ ((7 * k : Nat) : Int) < (ys.length : Int) := by rw [HN.out]; omega
      go_wp2
      go_ret2
      exact Ret.mk1 ⟨_, rfl, SH.ownRet hs⟩ hs.done
end Go.Proofs.YtpcmfmkpgidgpaaDoor
