import Derived.Test.YtpcmfmkpgidgpaaDoorProg
import Derived.Test.YtpcmfmkpgidgpaaDoorLink
namespace Go.Proofs.YtpcmfmkpgidgpaaDoor
open Go.RowKit

set_option maxRecDepth 100000 in
set_option maxHeartbeats 4000000 in
theorem implDecode_c (va : Value) (ys : List Int) (n : Nat) (w : World) (h : RdI w va ys) (hD : RdI w (.slice (some ⟨0, 0, none⟩) 4 4) dpL) (hv : bitsB ys = true) (hn : ys.length = 7 * n) (hl : n ≤ 100) :
    Calls Tryd.prog 48 #[va] w (Ret w fun v w' => ∃ v', v = .tuple #[v', .int .i64 (decN ys n : Nat)] ∧ OwnI w' w.heap.size 3 v' (decT ys n)) := by
  obtain ⟨a, ca, rfl, mc, mx⟩ := h.form'
  have hs := SH.start w [rdP .i64 (.slice a ys.length ca) ys, rdP .i64 (.slice (some ⟨0, 0, none⟩) 4 4) dpL] (by simp only [List.forall_mem_cons]; exact ⟨⟨h, rdP_wr⟩, ⟨hD, rdP_wr⟩, by simp⟩)
  clear h hD
  obtain ⟨hl2, hx⟩ := bitsB_true.1 hv
  have HX := Lib.hid (show okB ys from hx)
  clear hx
  have e7 : ((ys.length : Int) % 7 != 0) = false := by rw [bne_eq_false_iff_eq]; omega
  have e8 : decide ((ys.length : Int) > 896) = false := by rw [decide_eq_false_iff_not]; omega
  have HQ : Hid ((ys.length : Int) / 7 * 4 = ((4 * n : Nat) : Int)) := Lib.hid (by omega)
  have HN := Lib.hid hn
  clear hn
  go_enter Tryd.func48, Tryd.ntmps48
  go_wp2_with fail
  refine (SH.quiet hs (by repeat' (first | with_reducible exact Below.refl _ _ | with_reducible assumption | with_reducible refine below_drewN ?_ _ | with_reducible refine Below.drew ?_ | with_reducible refine Below.alloc ?_ ?_ _ | with_reducible refine Below.setCell ?_ ?_ _ | go_size)) fun hs => implBitsValid_c _ ys _ hs.p0).mono ?_
  rintro e w1 ⟨rfl, hs⟩
  rw [hv]
  clear hv
  go_wp2_with (at_make; refine wp_make0K rfl rfl .i64 w1.heap.size 3 8 Tryd.underlying22 info_int (4 * n) rfl rfl (by first | exact HQ.out | rfl) (by omega) (by unfold maxLen; omega) (Nat.le_refl _) ?_; intro w2 hown hg hsz)
  have hs := hs.pushOwn (below_of_grown hg) hown
  clear hown hg hsz e7 e8
  go_loopw [4, 5, 6, 7] (fun o c i _ wr => ∃ k : Nat, k ≤ n ∧ i = .int .i64 ((7 * k : Nat) : Int) ∧ c = .int .i64 (decN ys k : Nat) ∧ SH none w wr [ownP .i64 3 o (decT ys k), rdP .i64 (.slice a ys.length ca) ys, rdP .i64 (.slice (some ⟨0, 0, none⟩) 4 4) dpL]) (fun _ _ i _ _ => ys.length - (intOf i).toNat)
  case atStart => exact ⟨0, Nat.zero_le _, rfl, rfl, hs⟩
  case round =>
    clear hs
    obtain ⟨k, hk, rfl, rfl, hs⟩ := hrel
    have hkl := decT_len ys k
    obtain ⟨ao, co, rfl, -⟩ := (OwnK.rd hs.p0).form
    rw [hkl] at hs ⊢
    by_cases hlt : k < n
    · have hk9 : 7 * k + 7 ≤ ys.length := by rw [HN.out]; omega
      obtain ⟨b, off, rfl, -⟩ := (SH.p1 hs : RdI _ _ _).at_ (show 7 * k < ys.length by omega)
      have hcap : ¬ ca = 7 * k := by omega
      have i2 : ((7 * k : Nat) : Int) < (ys.length : Int) := by omega
      have hrd : RdI wr (.slice (some ⟨b, off, none⟩) ys.length ca) ys := hs.p1
      have hsub : RdI wr (.slice (some ⟨b, off + 7 * k, none⟩) 7 (ca - 7 * k)) ((ys.drop (7 * k)).take 7) := RdK.sub hrd (by omega)
      have hsl : ((ys.drop (7 * k)).take 7).length = 7 := by rw [List.length_take, List.length_drop]; omega
      have hs2 := (((hs.bring1.addSub (q := rdP .i64 (.slice (some ⟨b, off + 7 * k, none⟩) 7 (ca - 7 * k)) ((ys.drop (7 * k)).take 7)) rdP_wr hsub rdP_wr (fun g hg => ⟨hg.1, by omega⟩)).bring2).bring3).push2
      have HSB : Hid (okB ((ys.drop (7 * k)).take 7)) := Lib.hid fun i hi => by
        rw [gi_sub _ _ _ _ (by omega)]
        exact HX.out _ (by omega)
      have HSL := Lib.hid hsl
      have HW : Hid (wdL (gi ((ys.drop (7 * k)).take 7)) = wdL (at7 ys k) ∧ wdN (gi ((ys.drop (7 * k)).take 7)) = wdN (at7 ys k)) := Lib.hid (wd_congr fun i hi => gi_sub _ _ _ _ hi)
      have HDN : Hid (decN ys (k + 1) = decN ys k + wdN (at7 ys k)) := Lib.hid rfl
      have hdn := decN_le ys k
      have hwn : wdN (at7 ys k) ≤ 1 := by unfold wdN; split <;> omega
      clear hrd hsub hsl hs
      generalize decN ys k = cn at *
      go_wp2_with fail
      refine (appendDecoded_s _ _ _ _ _ (hs2.below (by repeat' (first | with_reducible exact Below.refl _ _ | with_reducible assumption | with_reducible refine below_drewN ?_ _ | with_reducible refine Below.drew ?_ | with_reducible refine Below.alloc ?_ ?_ _ | with_reducible refine Below.setCell ?_ ?_ _ | go_size))) HSB.out HSL.out (by rw [hkl]; omega)).mono ?_
      rintro e w3 ⟨v3, rfl, hs⟩
      rw [HW.out.1] at hs
      rw [HW.out.2]
      generalize wdN (at7 ys k) = wn at *
      clear hs2 hkl hcap i2
      go_wp2
      go_roundw
      case rel => exact ⟨k + 1, hlt, by go_num, by rw [HDN.out]; go_num, hs.drop1.bring2.push1⟩
      case measure => simp [intOf]; omega
    · obtain rfl : k = n := by omega
      have hd : decide (((7 * k : Nat) : Int) < (ys.length : Int)) = false := by rw [decide_eq_false_iff_not, HN.out]; omega
      have hd2 : ¬ ((7 * k : Nat) : Int) < (ys.length : Int) := by rw [HN.out]; omega
      go_wp2
      go_ret2
      exact Ret.mk1 ⟨_, rfl, SH.ownRet hs⟩ hs.done
set_option maxRecDepth 100000 in
set_option maxHeartbeats 4000000 in
theorem specSyn_c (va : Value) (xs : List Int) (w : World) (h : RdI w va xs) (hx : okB xs) (hl : xs.length = 7) :
    Calls Tryd.prog 97 #[va] w (RetQ w (.int .i64 (synT (gi xs) 7 : Nat))) := by
  obtain ⟨a, ca, rfl, ml⟩ := h.form
  have hv : bitsB xs = true := bitsB_true.2 ⟨by omega, hx⟩
  have H := Lib.hid h
  have HX : Hid (∀ i, i < 7 → gi xs i = 0 ∨ gi xs i = 1) := Lib.hid fun i hi => hx i (by omega)
  have HV := Lib.hid hv
  have HL := Lib.hid hl
  have e7 : ((xs.length : Int) != 7) = false := by rw [bne_eq_false_iff_eq]; omega
  clear h hx ml hv hl
  go_enter Tryd.func97, Tryd.ntmps97
  go_wp2_with fail
  refine (specBitsValid_c _ xs _ H.out).mono ?_
  rintro e w1 ⟨rfl, hsw⟩
  have HS0 := Lib.hid (show SameW w w1 from hsw)
  clear hsw
  rw [HV.out]
  go_wp2
  go_loopw [3, 4] (fun s i wr => ∃ k : Nat, k ≤ 7 ∧ i = .int .i64 k ∧ s = .int .i64 (synT (gi xs) k : Nat) ∧ Hid (SameW w wr)) (fun _ i _ => 7 - (intOf i).toNat)
  case atStart => exact ⟨0, by decide, rfl, rfl, HS0⟩
  case round =>
    obtain ⟨k, hk, rfl, rfl, HS⟩ := hrel
    by_cases hlt : k < 7
    · obtain ⟨b, off, rfl, hc⟩ := (H.out.below HS.out.below).at_ (i := k) (by rw [HL.out]; omega)
      have hbit := HX.out k hlt
      have hsl := syn_lt HX.out k hk
      have HST : Hid (synT (gi xs) (k + 1) = synT (gi xs) k ^^^ ((k + 1) * (gi xs k).toNat)) := Lib.hid rfl
      obtain ⟨y, hy⟩ : ∃ y, gi xs k = y := ⟨_, rfl⟩
      rw [hy] at hc hbit HST
      clear hy
      obtain ⟨S, hS⟩ : ∃ S, synT (gi xs) k = S := ⟨_, rfl⟩
      rw [hS] at hsl HST ⊢
      clear hS
      have i2 : (k : Int) < (xs.length : Int) := by rw [HL.out]; omega
      rcases hbit with rfl | rfl
      · go_wp2
        go_roundw
        case rel => exact ⟨k + 1, hlt, by go_num, by rw [HST.out]; simp, HS⟩
        case measure => simp [intOf]; omega
      · have hxr : bits .xor .i64 (S : Int) ((k : Int) + 1) = ((S ^^^ (k + 1) : Nat) : Int) := by have := xorS S (k + 1) hsl (by omega); simpa using this
        go_wp2
        go_roundw
        case rel => exact ⟨k + 1, hlt, by go_num, by rw [HST.out]; simp, HS⟩
        case measure => simp [intOf]; omega
    · obtain rfl : k = 7 := by omega
      go_wp2
      go_ret
      exact RetQ.mkS rfl HS.out
theorem set_gi7 (ws : List Int) (hl : ws.length = 7) (S : Nat) (h0 : 0 < S) (h8 : S < 8) : ∀ i, i < 7 → gi (ws.set (S - 1) (1 - gi ws (S - 1))) i = if i + 1 = S then 1 - gi ws i else gi ws i := fun i hi => by
  rw [gi_set (by omega)]
  by_cases e : i = S - 1
  · rw [if_pos e, if_pos (by omega), e]
  · rw [if_neg e, if_neg (by omega)]
set_option maxRecDepth 100000 in
set_option maxHeartbeats 4000000 in
theorem specNibble_c (va : Value) (ws : List Int) (w : World) (h : RdI w va ws) (hx : okB ws) (hl : ws.length = 7) :
    Calls Tryd.prog 85 #[va] w (Ret w fun v w' => ∃ v', v = .tuple #[v', .bool (decide (0 < ((synT (gi ws) 7 : Nat) : Int)))] ∧ OwnI w' w.heap.size 3 v' (wdL (gi ws))) := by
  obtain ⟨a, ca, rfl, ml⟩ := h.form
  have hs := SH.start w [rdP .i64 (.slice a ws.length ca) ws] (by simp only [List.forall_mem_cons]; exact ⟨⟨h, rdP_wr⟩, by simp⟩)
  have HX := Lib.hid hx
  have HL := Lib.hid hl
  have HSl := syn_lt (f := gi ws) (fun i hi => hx i (by omega)) 7 (Nat.le_refl _)
  have HWD : Hid (∀ p, wdF (gi ws) p = if p + 1 = synT (gi ws) 7 then 1 - gi ws p else gi ws p) := Lib.hid fun p => rfl
  clear h hx hl ml
  go_enter Tryd.func85, Tryd.ntmps85
  go_wp2_with fail
  refine (SH.quiet hs (by repeat' (first | with_reducible exact Below.refl _ _ | with_reducible assumption | with_reducible refine below_drewN ?_ _ | with_reducible refine Below.drew ?_ | with_reducible refine Below.alloc ?_ ?_ _ | with_reducible refine Below.setCell ?_ ?_ _ | go_size)) fun hs => specSyn_c _ ws _ hs.p0 HX.out HL.out).mono ?_
  rintro e w1 ⟨rfl, hs⟩
  have HS7 : Hid (∀ p, 0 < synT (gi ws) 7 → p < 7 → gi (ws.set (synT (gi ws) 7 - 1) (1 - gi ws (synT (gi ws) 7 - 1))) p = wdF (gi ws) p) := Lib.hid fun p h0 hp => by
    rw [set_gi7 ws HL.out _ h0 HSl p hp]; exact (HWD.out p).symm
  obtain ⟨S, hSe⟩ : ∃ S, synT (gi ws) 7 = S := ⟨_, rfl⟩
  rw [hSe] at HSl HWD HS7 ⊢
  have HSE := Lib.hid hSe
  clear hSe
  have hn0 : ¬ ((S : Int) < 0) := by omega
  by_cases hS : 0 < S
  · have hS1 : (0 : Int) < (S : Int) := by omega
    have hS2 : ((S : Int) - 1).toNat = S - 1 := by omega
    have hS3 : (S : Int) - 1 < (ws.length : Int) := by rw [HL.out]; omega
    have hS4 : (1 : Int) ≤ (S : Int) := by omega
    have hlS : S - 1 < ws.length := by rw [HL.out]; omega
    have hyb := HX.out (S - 1) hlS
    have HZ : Hid (∀ p, p < 7 → gi (ws.set (S - 1) (1 - gi ws (S - 1))) p = wdF (gi ws) p) := Lib.hid fun p hp => HS7.out p hS hp
    obtain ⟨y, hye⟩ : ∃ y, gi ws (S - 1) = y := ⟨_, rfl⟩
    have HY := Lib.hid hye
    rw [hye] at hyb HZ
    clear hye
    have hwr : IntKind.i64.wrap (1 - y) = 1 - y := IntWalk.i64_in _ (by omega)
    clear hyb
    go_wp2_with (at_builtin; refine wp_appKX (xs := []) (ys := ws) rfl rfl .i64 3 8 Tryd.underlying22 info_int rfl (hs.ownEmpty .i64 3) rfl ((hs.ownEmpty .i64 3).p1) (by rw [HL.out]; simp) (by rw [HL.out]; simp [maxLen]) ?_; intro v4 w4 hs; rw [List.nil_append] at hs; obtain ⟨a4, c4, rfl, -⟩ := (OwnK.rd hs.p0).form; obtain ⟨g4, e4, -⟩ := OwnK.at_ hs.p0 (i := 0) (by rw [HL.out]; decide); subst e4; obtain ⟨g5, e5, -, -, hcx, hfx⟩ := OwnK.at_ hs.p0 (i := S - 1) (by rw [HL.out]; omega); cases e5; rw [HY.out] at hcx)
    have hZ := hs.setOwn (i := S - 1) hlS (1 - y)
    clear hs hcx hfx
    have hs := hZ
    clear hZ
    generalize World.setCell w4 _ _ = W at *
    have hcz : ∀ p, p < 7 → W.cell? ⟨g4, p, none⟩ = some (.int .i64 (wdF (gi ws) p)) := fun p hp => by
      obtain ⟨g5, e5, -, -, h5, -⟩ := OwnK.at_ hs.p0 (i := p) (by rw [HL.out]; exact hp)
      cases e5
      rw [h5, HZ.out p hp]
    have z2 := hcz 2 (by decide)
    have z4 := hcz 4 (by decide)
    have z5 := hcz 5 (by decide)
    have z6 := hcz 6 (by decide)
    have l2 : (2 : Int) < (ws.length : Int) := by rw [HL.out]; decide
    have l4 : (4 : Int) < (ws.length : Int) := by rw [HL.out]; decide
    have l5 : (5 : Int) < (ws.length : Int) := by rw [HL.out]; decide
    have l6 : (6 : Int) < (ws.length : Int) := by rw [HL.out]; decide
    clear hcz
    have HW4 : Hid (wdL (gi ws) = [wdF (gi ws) 2, wdF (gi ws) 4, wdF (gi ws) 5, wdF (gi ws) 6]) := Lib.hid rfl
    generalize wdF (gi ws) 2 = y2 at *
    generalize wdF (gi ws) 4 = y4 at *
    generalize wdF (gi ws) 5 = y5 at *
    generalize wdF (gi ws) 6 = y6 at *
    go_region
    all_goals go_wp2
    all_goals go_ret2
    all_goals exact Ret.mk1 ⟨_, by rw [HSE.out, decide_eq_true hS1]; rfl, by rw [HW4.out]; exact SH.ownRet (hs.drew.ownLit .i64 3 [y2, y4, y5, y6] (by simp [maxLen]))⟩ (hs.drew.ownLit .i64 3 [y2, y4, y5, y6] (by simp [maxLen])).done
  · have hS1 : ¬ (0 : Int) < (S : Int) := by omega
    go_wp2_with (at_builtin; refine wp_appKX (xs := []) (ys := ws) rfl rfl .i64 3 8 Tryd.underlying22 info_int rfl (hs.ownEmpty .i64 3) rfl ((hs.ownEmpty .i64 3).p1) (by rw [HL.out]; simp) (by rw [HL.out]; simp [maxLen]) ?_; intro v4 w4 hs; rw [List.nil_append] at hs; obtain ⟨a4, c4, rfl, -⟩ := (OwnK.rd hs.p0).form; obtain ⟨g4, e4, -⟩ := OwnK.at_ hs.p0 (i := 0) (by rw [HL.out]; decide); subst e4; skip)
    have HZ : Hid (∀ p, p < 7 → gi ws p = wdF (gi ws) p) := Lib.hid fun p hp => by rw [HWD.out p, if_neg (by omega)]
    generalize w4 = W at *
    have hcz : ∀ p, p < 7 → W.cell? ⟨g4, p, none⟩ = some (.int .i64 (wdF (gi ws) p)) := fun p hp => by
      obtain ⟨g5, e5, -, -, h5, -⟩ := OwnK.at_ hs.p0 (i := p) (by rw [HL.out]; exact hp)
      cases e5
      rw [h5, HZ.out p hp]
    have z2 := hcz 2 (by decide)
    have z4 := hcz 4 (by decide)
    have z5 := hcz 5 (by decide)
    have z6 := hcz 6 (by decide)
    have l2 : (2 : Int) < (ws.length : Int) := by rw [HL.out]; decide
    have l4 : (4 : Int) < (ws.length : Int) := by rw [HL.out]; decide
    have l5 : (5 : Int) < (ws.length : Int) := by rw [HL.out]; decide
    have l6 : (6 : Int) < (ws.length : Int) := by rw [HL.out]; decide
    clear hcz
    have HW4 : Hid (wdL (gi ws) = [wdF (gi ws) 2, wdF (gi ws) 4, wdF (gi ws) 5, wdF (gi ws) 6]) := Lib.hid rfl
    generalize wdF (gi ws) 2 = y2 at *
    generalize wdF (gi ws) 4 = y4 at *
    generalize wdF (gi ws) 5 = y5 at *
    generalize wdF (gi ws) 6 = y6 at *
    go_region
    all_goals go_wp2
    all_goals go_ret2
    all_goals exact Ret.mk1 ⟨_, by rw [HSE.out, decide_eq_false (show ¬ (0 : Int) < (S : Int) by omega)]; rfl, by rw [HW4.out]; exact SH.ownRet (hs.drew.ownLit .i64 3 [y2, y4, y5, y6] (by simp [maxLen]))⟩ (hs.drew.ownLit .i64 3 [y2, y4, y5, y6] (by simp [maxLen])).done
end Go.Proofs.YtpcmfmkpgidgpaaDoor
