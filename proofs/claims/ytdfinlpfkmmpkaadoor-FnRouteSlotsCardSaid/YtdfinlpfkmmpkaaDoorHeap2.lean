import Derived.Test.YtdfinlpfkmmpkaaDoorProg
import Derived.Test.YtdfinlpfkmmpkaaDoorHeap
namespace Go.Proofs.YtdfinlpfkmmpkaaDoor
open Go.RowKit

variable {row : Option Nat} {w0 w w' : World} {I : List Part}
set_option maxHeartbeats 4000000 in
theorem upC (B : Nat) (v : Value) (xs : List (Int × Int)) (n j : Nat) (w : World) (hs : SH row w0 w (blkP B #[v] 59 :: ownMP 2 57 v n (hcC encC xs) :: I)) (hn : xs.length = n) (hj : j < n) (hb : n ≤ 1000001) (hu : UpInv (keyK keyC xs) n j) :
    Calls Tryd.prog 35 #[.iface 61 (.pointer (some ⟨B, 0, none⟩)), .int .i64 j] w (fun e w' => e = .returned (.tuple #[]) ∧ ∃ ys, ys.Perm xs ∧ HeapK (keyK keyC ys) n ∧ SH row w0 w' (blkP B #[v] 59 :: ownMP 2 57 v n (hcC encC ys) :: I)) := by
  have HU := Lib.hid (And.intro (List.Perm.refl xs) hu)
  clear hu
  go_enter Tryd.func35, Tryd.ntmps35
  go_wp2
  go_loopw [1] (fun sj wr => ∃ (j : Nat) (ys : List (Int × Int)), sj = .int .i64 j ∧ j < n ∧ Hid (ys.Perm xs ∧ UpInv (keyK keyC ys) n j) ∧ SH row w0 wr (blkP B #[v] 59 :: ownMP 2 57 v n (hcC encC ys) :: I)) (fun sj _ => (intOf sj).toNat)
  case atStart => exact ⟨j, xs, rfl, hj, HU, hs⟩
  case round =>
    clear hj HU hs
    obtain ⟨j, ys, rfl, hj, HU, hs⟩ := hrel
    obtain ⟨c0, -⟩ := blk0 hs.p0
    have mL := findCLess c0
    rcases Nat.eq_zero_or_pos j with rfl | hj0
    · go_wp2
      go_end0
      exact ⟨rfl, ys, HU.out.1, HU.out.2.done (.inl rfl), hs⟩
    · obtain ⟨q, hq⟩ : ∃ q, q = (j - 1) / 2 := ⟨_, rfl⟩
      have hql : q < j := by omega
      have hqj : ¬ (q : Int) = (j : Int) := by omega
      have hq2 : ((j : Int) - 1) / 2 = (q : Int) := by omega
      have HQ2 := Lib.hid hq2
      clear hq2
      have hpar := hq.symm
      have HQ := Lib.hid hpar
      clear hq hpar
      go_wp2_with fail
      rw [HQ2.out]
      refine (SH.quiet hs (by repeat' (first | with_reducible exact Below.refl _ _ | with_reducible assumption | with_reducible refine below_drewN ?_ _ | with_reducible refine Below.drew ?_ | with_reducible refine Below.alloc ?_ ?_ _ | with_reducible refine Below.setCell ?_ ?_ _ | go_size)) fun hs => lessC _ ys n j q _ (OwnM.rd hs.p1) hj (by omega)).mono ?_
      rintro e w1 ⟨rfl, hs⟩
      clear c0 mL
      by_cases hlt : keyK keyC ys j < keyK keyC ys q
      · rw [decide_eq_true hlt]
        have HL := Lib.hid hlt
        clear hlt
        obtain ⟨c0, -⟩ := blk0 hs.p0
        have mS := findCSwap c0
        go_wp2_with fail
        refine (swapC _ ys n q j _ hs.bring1 (by rw [HU.out.1.length_eq]; exact hn) (by omega) hj).mono ?_
        rintro e w2 ⟨rfl, hs⟩
        have hs := hs.bring1
        clear c0 mS
        go_wp2
        go_roundw
        case rel =>
          have hyl : ys.length = n := by rw [HU.out.1.length_eq]; exact hn
          refine ⟨q, swL ys q j, rfl, by omega, Lib.hid ⟨(swL_perm (by omega) (by omega)).trans HU.out.1, ?_⟩, hs⟩
          refine HU.out.2.step HQ.out hj0 hj HL.out ?_ ?_ (fun m h1 h2 => ?_)
          · show keyC (ht (swL ys q j) j) = _
            rw [ht_sw (by omega) (by omega), if_pos rfl]
          · show keyC (ht (swL ys q j) q) = _
            rw [ht_sw (by omega) (by omega), if_neg (by omega), if_pos rfl]
          · show keyC (ht (swL ys q j) m) = _
            rw [ht_sw (by omega) (by omega), if_neg h1, if_neg h2]
        case measure => simp [intOf]; omega
      · rw [decide_eq_false hlt]
        have HL := Lib.hid hlt
        clear hlt
        go_wp2
        go_end0
        exact ⟨rfl, ys, HU.out.1, HU.out.2.done (.inr (by rw [HQ.out]; exact HL.out)), hs⟩
set_option maxHeartbeats 4000000 in
theorem downC (B : Nat) (v : Value) (xs : List (Int × Int)) (N n : Nat) (w : World) (hs : SH row w0 w (blkP B #[v] 59 :: ownMP 2 57 v N (hcC encC xs) :: I)) (hn : xs.length = N) (hnN : n ≤ N) (hb : N ≤ 1000001) (hu : DownInv (keyK keyC xs) n 0) :
    Calls Tryd.prog 34 #[.iface 61 (.pointer (some ⟨B, 0, none⟩)), .int .i64 0, .int .i64 n] w (fun e w' => (∃ b, e = .returned (.bool b)) ∧ ∃ ys, ys.Perm xs ∧ HeapK (keyK keyC ys) n ∧ (∀ m, n ≤ m → ht ys m = ht xs m) ∧ SH row w0 w' (blkP B #[v] 59 :: ownMP 2 57 v N (hcC encC ys) :: I)) := by
  have HU : Hid (DownInv (keyK keyC xs) n 0) := Lib.hid hu
  clear hu
  go_enter Tryd.func34, Tryd.ntmps34
  go_wp2
  go_loopw [7] (fun si wr => ∃ (i : Nat) (ys : List (Int × Int)), si = .int .i64 i ∧ i ≤ n ∧ Hid (ys.Perm xs ∧ DownInv (keyK keyC ys) n i ∧ ∀ m, n ≤ m → ht ys m = ht xs m) ∧ SH row w0 wr (blkP B #[v] 59 :: ownMP 2 57 v N (hcC encC ys) :: I)) (fun si _ => n - (intOf si).toNat)
  case atStart => exact ⟨0, xs, rfl, Nat.zero_le _, Lib.hid ⟨List.Perm.refl xs, HU.out, fun _ _ => rfl⟩, hs⟩
  case round =>
    clear HU hs
    obtain ⟨i, ys, rfl, hi, HU, hs⟩ := hrel
    by_cases h1 : n ≤ 2 * i + 1
    · have h1z : (n : Int) ≤ 2 * (i : Int) + 1 := by omega
      go_wp2
      go_ret
      exact ⟨⟨_, rfl⟩, ys, HU.out.1, HU.out.2.1.done (fun m m0 m1 m2 => by omega), HU.out.2.2, hs⟩
    · have h1z : ¬ ((n : Int) ≤ 2 * (i : Int) + 1) := by omega
      have h1y : ¬ (2 * (i : Int) + 1 < 0) := by omega
      obtain ⟨c1, hc1⟩ : ∃ c, c = 2 * i + 1 := ⟨_, rfl⟩
      obtain ⟨c2, hc2⟩ : ∃ c, c = 2 * i + 2 := ⟨_, rfl⟩
      have E1 := Lib.hid (show 2 * (i : Int) + 1 = (c1 : Int) by omega)
      have E2 := Lib.hid (show 2 * (i : Int) + 2 = (c2 : Int) by omega)
      have E3 := Lib.hid (show 2 * (i : Int) + 1 + 1 = (c2 : Int) by omega)
      have HC1 := Lib.hid hc1
      have HC2 := Lib.hid hc2
      have hci1 : i < c1 := by omega
      have hci2 : c1 < c2 := by omega
      have hcn : c1 < n := by omega
      clear hc1 hc2
      by_cases h2 : c2 < n
      · have h2z : 2 * (i : Int) + 1 + 1 < (n : Int) := by have := HC2.out; omega
        obtain ⟨c0, -⟩ := blk0 hs.p0
        have mL := findCLess c0
        go_wp2_with fail
        try rw [E2.out]
        try rw [E3.out]
        try rw [E1.out]
        refine (SH.quiet hs (by repeat' (first | with_reducible exact Below.refl _ _ | with_reducible assumption | with_reducible refine below_drewN ?_ _ | with_reducible refine Below.drew ?_ | with_reducible refine Below.alloc ?_ ?_ _ | with_reducible refine Below.setCell ?_ ?_ _ | go_size)) fun hs => lessC _ ys N c2 c1 _ (OwnM.rd hs.p1) (by omega) (by omega)).mono ?_
        rintro e w1 ⟨rfl, hs⟩
        clear c0 mL
        by_cases hlt : keyK keyC ys c2 < keyK keyC ys c1
        · rw [decide_eq_true hlt]
          have HL := Lib.hid hlt
          clear hlt
          obtain ⟨c0, -⟩ := blk0 hs.p0
          have mL := findCLess c0
          go_wp2_with fail
          try rw [E2.out]
          try rw [E3.out]
          try rw [E1.out]
          refine (SH.quiet hs (by repeat' (first | with_reducible exact Below.refl _ _ | with_reducible assumption | with_reducible refine below_drewN ?_ _ | with_reducible refine Below.drew ?_ | with_reducible refine Below.alloc ?_ ?_ _ | with_reducible refine Below.setCell ?_ ?_ _ | go_size)) fun hs => lessC _ ys N c2 i _ (OwnM.rd hs.p1) (by omega) (by omega)).mono ?_
          rintro e w2 ⟨rfl, hs⟩
          clear c0 mL
          by_cases hlt2 : keyK keyC ys c2 < keyK keyC ys i
          · rw [decide_eq_true hlt2]
            have HL2 := Lib.hid hlt2
            clear hlt2
            obtain ⟨c0, -⟩ := blk0 hs.p0
            have mS := findCSwap c0
            go_wp2_with fail
            refine (swapC _ ys N i c2 _ hs.bring1 (by rw [HU.out.1.length_eq]; exact hn) (by omega) (by omega)).mono ?_
            rintro e w3 ⟨rfl, hs⟩
            have hs := hs.bring1
            clear c0 mS
            go_wp2
            go_roundw
            case rel =>
              have hyl : ys.length = N := by rw [HU.out.1.length_eq]; exact hn
              have hc1 := HC1.out
              have hc2 := HC2.out
              refine ⟨c2, swL ys i c2, rfl, by omega, Lib.hid ⟨(swL_perm (by omega) (by omega)).trans HU.out.1, ?_, fun m hm => ?_⟩, hs⟩
              · refine HU.out.2.1.step (j := c2) (by omega) (by omega) (by omega) ?_ HL2.out ?_ ?_ (fun m h1 h2 => ?_)
                · intro m m0 m1 m2
                  obtain rfl | rfl : m = c1 ∨ m = c2 := by omega
                  · exact Int.le_of_lt HL.out
                  · exact Int.le_refl _
                · show keyC (ht (swL ys i c2) i) = _
                  rw [ht_sw (by omega) (by omega), if_neg (by omega), if_pos rfl]
                · show keyC (ht (swL ys i c2) c2) = _
                  rw [ht_sw (by omega) (by omega), if_pos rfl]
                · show keyC (ht (swL ys i c2) m) = _
                  rw [ht_sw (by omega) (by omega), if_neg h1, if_neg h2]
              · rw [ht_sw (by omega) (by omega), if_neg (by omega), if_neg (by omega)]
                exact HU.out.2.2 m hm
            case measure => simp [intOf]; omega
          · rw [decide_eq_false hlt2]
            have HL2 := Lib.hid hlt2
            clear hlt2
            go_wp2
            go_ret
            have hc1 := HC1.out
            have hc2 := HC2.out
            refine ⟨⟨_, rfl⟩, ys, HU.out.1, HU.out.2.1.done (fun m m0 m1 m2 => ?_), HU.out.2.2, hs⟩
            have hk : keyK keyC ys i ≤ keyK keyC ys c2 := HL2.out
            have hm : keyK keyC ys c2 ≤ keyK keyC ys m := by
              obtain rfl | rfl : m = c1 ∨ m = c2 := by omega
              · exact Int.le_of_lt HL.out
              · exact Int.le_refl _
            exact Int.le_trans hk hm
        · rw [decide_eq_false hlt]
          have HL := Lib.hid hlt
          clear hlt
          obtain ⟨c0, -⟩ := blk0 hs.p0
          have mL := findCLess c0
          go_wp2_with fail
          try rw [E2.out]
          try rw [E3.out]
          try rw [E1.out]
          refine (SH.quiet hs (by repeat' (first | with_reducible exact Below.refl _ _ | with_reducible assumption | with_reducible refine below_drewN ?_ _ | with_reducible refine Below.drew ?_ | with_reducible refine Below.alloc ?_ ?_ _ | with_reducible refine Below.setCell ?_ ?_ _ | go_size)) fun hs => lessC _ ys N c1 i _ (OwnM.rd hs.p1) (by omega) (by omega)).mono ?_
          rintro e w2 ⟨rfl, hs⟩
          clear c0 mL
          by_cases hlt2 : keyK keyC ys c1 < keyK keyC ys i
          · rw [decide_eq_true hlt2]
            have HL2 := Lib.hid hlt2
            clear hlt2
            obtain ⟨c0, -⟩ := blk0 hs.p0
            have mS := findCSwap c0
            go_wp2_with fail
            refine (swapC _ ys N i c1 _ hs.bring1 (by rw [HU.out.1.length_eq]; exact hn) (by omega) (by omega)).mono ?_
            rintro e w3 ⟨rfl, hs⟩
            have hs := hs.bring1
            clear c0 mS
            go_wp2
            go_roundw
            case rel =>
              have hyl : ys.length = N := by rw [HU.out.1.length_eq]; exact hn
              have hc1 := HC1.out
              have hc2 := HC2.out
              refine ⟨c1, swL ys i c1, rfl, by omega, Lib.hid ⟨(swL_perm (by omega) (by omega)).trans HU.out.1, ?_, fun m hm => ?_⟩, hs⟩
              · refine HU.out.2.1.step (j := c1) (by omega) (by omega) (by omega) ?_ HL2.out ?_ ?_ (fun m h1 h2 => ?_)
                · intro m m0 m1 m2
                  obtain rfl | rfl : m = c1 ∨ m = c2 := by omega
                  · exact Int.le_refl _
                  · exact HL.out
                · show keyC (ht (swL ys i c1) i) = _
                  rw [ht_sw (by omega) (by omega), if_neg (by omega), if_pos rfl]
                · show keyC (ht (swL ys i c1) c1) = _
                  rw [ht_sw (by omega) (by omega), if_pos rfl]
                · show keyC (ht (swL ys i c1) m) = _
                  rw [ht_sw (by omega) (by omega), if_neg h1, if_neg h2]
              · rw [ht_sw (by omega) (by omega), if_neg (by omega), if_neg (by omega)]
                exact HU.out.2.2 m hm
            case measure => simp [intOf]; omega
          · rw [decide_eq_false hlt2]
            have HL2 := Lib.hid hlt2
            clear hlt2
            go_wp2
            go_ret
            have hc1 := HC1.out
            have hc2 := HC2.out
            refine ⟨⟨_, rfl⟩, ys, HU.out.1, HU.out.2.1.done (fun m m0 m1 m2 => ?_), HU.out.2.2, hs⟩
            have hk : keyK keyC ys i ≤ keyK keyC ys c1 := HL2.out
            have hm : keyK keyC ys c1 ≤ keyK keyC ys m := by
              obtain rfl | rfl : m = c1 ∨ m = c2 := by omega
              · exact Int.le_refl _
              · exact HL.out
            exact Int.le_trans hk hm
      · have hc2 := HC2.out
        have h2z : ¬ (2 * (i : Int) + 1 + 1 < (n : Int)) := by omega
        clear hc2
        obtain ⟨c0, -⟩ := blk0 hs.p0
        have mL := findCLess c0
        go_wp2_with fail
        try rw [E2.out]
        try rw [E3.out]
        try rw [E1.out]
        refine (SH.quiet hs (by repeat' (first | with_reducible exact Below.refl _ _ | with_reducible assumption | with_reducible refine below_drewN ?_ _ | with_reducible refine Below.drew ?_ | with_reducible refine Below.alloc ?_ ?_ _ | with_reducible refine Below.setCell ?_ ?_ _ | go_size)) fun hs => lessC _ ys N c1 i _ (OwnM.rd hs.p1) (by omega) (by omega)).mono ?_
        rintro e w2 ⟨rfl, hs⟩
        clear c0 mL
        by_cases hlt2 : keyK keyC ys c1 < keyK keyC ys i
        · rw [decide_eq_true hlt2]
          have HL2 := Lib.hid hlt2
          clear hlt2
          obtain ⟨c0, -⟩ := blk0 hs.p0
          have mS := findCSwap c0
          go_wp2_with fail
          refine (swapC _ ys N i c1 _ hs.bring1 (by rw [HU.out.1.length_eq]; exact hn) (by omega) (by omega)).mono ?_
          rintro e w3 ⟨rfl, hs⟩
          have hs := hs.bring1
          clear c0 mS
          go_wp2
          go_roundw
          case rel =>
            have hyl : ys.length = N := by rw [HU.out.1.length_eq]; exact hn
            have hc1 := HC1.out
            have hc2 := HC2.out
            refine ⟨c1, swL ys i c1, rfl, by omega, Lib.hid ⟨(swL_perm (by omega) (by omega)).trans HU.out.1, ?_, fun m hm => ?_⟩, hs⟩
            · refine HU.out.2.1.step (j := c1) (by omega) (by omega) (by omega) ?_ HL2.out ?_ ?_ (fun m h1 h2 => ?_)
              · intro m m0 m1 m2
                obtain rfl : m = c1 := by omega
                exact Int.le_refl _
              · show keyC (ht (swL ys i c1) i) = _
                rw [ht_sw (by omega) (by omega), if_neg (by omega), if_pos rfl]
              · show keyC (ht (swL ys i c1) c1) = _
                rw [ht_sw (by omega) (by omega), if_pos rfl]
              · show keyC (ht (swL ys i c1) m) = _
                rw [ht_sw (by omega) (by omega), if_neg h1, if_neg h2]
            · rw [ht_sw (by omega) (by omega), if_neg (by omega), if_neg (by omega)]
              exact HU.out.2.2 m hm
          case measure => simp [intOf]; omega
        · rw [decide_eq_false hlt2]
          have HL2 := Lib.hid hlt2
          clear hlt2
          go_wp2
          go_ret
          have hc1 := HC1.out
          have hc2 := HC2.out
          refine ⟨⟨_, rfl⟩, ys, HU.out.1, HU.out.2.1.done (fun m m0 m1 m2 => ?_), HU.out.2.2, hs⟩
          have hk : keyK keyC ys i ≤ keyK keyC ys c1 := HL2.out
          have hm : keyK keyC ys c1 ≤ keyK keyC ys m := by
            obtain rfl : m = c1 := by omega
            exact Int.le_refl _
          exact Int.le_trans hk hm
set_option maxHeartbeats 4000000 in
theorem hPushC (B : Nat) (v : Value) (xs : List (Int × Int)) (n : Nat) (x : Int × Int) (w : World) (hs : SH row w0 w (blkP B #[v] 59 :: ownMP 2 57 v n (hcC encC xs) :: I)) (hn : xs.length = n) (hb : n ≤ 1000000) (hk : HeapK (keyK keyC xs) n) :
    Calls Tryd.prog 28 #[.iface 61 (.pointer (some ⟨B, 0, none⟩)), .iface 57 (aggC x)] w (fun e w' => e = .returned (.tuple #[]) ∧ ∃ v' ys, ys.Perm (x :: xs) ∧ HeapK (keyK keyC ys) (n + 1) ∧ SH row w0 w' (blkP B #[v'] 59 :: ownMP 2 57 v' (n + 1) (hcC encC ys) :: I)) := by
  have HK := Lib.hid hk
  have mP := findCPush ⟨B, 0, none⟩
  clear hk
  go_enter Tryd.func28, Tryd.ntmps28
  go_wp2_with fail
  refine (pushMC B v xs n x _ hs hn hb).mono ?_
  rintro e w1 ⟨rfl, v1, hs⟩
  clear mP
  obtain ⟨c0, -⟩ := blk0 hs.p0
  have mL := findCLen c0
  go_wp2_with fail
  refine (SH.quiet hs (by repeat' (first | with_reducible exact Below.refl _ _ | with_reducible assumption | with_reducible refine below_drewN ?_ _ | with_reducible refine Below.drew ?_ | with_reducible refine Below.alloc ?_ ?_ _ | with_reducible refine Below.setCell ?_ ?_ _ | go_size)) fun hs => lenC _ (n + 1) _ _ (OwnM.rd hs.p1)).mono ?_
  rintro e w2 ⟨rfl, hs⟩
  clear c0 mL
  go_wp2_with fail
  refine (upC B v1 (xs ++ [x]) (n + 1) n _ hs (by simp [hn]) (by omega) (by omega) (UpInv.start (HK.out.congr fun i hi => by show keyC (ht (xs ++ [x]) i) = keyC (ht xs i); rw [ht_app (by omega)]))).mono ?_
  rintro e w3 ⟨rfl, ys, hp, hh, hs⟩
  have HP := Lib.hid hp
  have HH := Lib.hid hh
  clear hp hh
  go_wp2
  go_end0
  exact ⟨rfl, v1, ys, HP.out.trans (List.perm_append_singleton x xs), HH.out, hs⟩
set_option maxHeartbeats 4000000 in
theorem hPopC (B : Nat) (v : Value) (xs : List (Int × Int)) (n : Nat) (w : World) (hs : SH row w0 w (blkP B #[v] 59 :: ownMP 2 57 v (n + 1) (hcC encC xs) :: I)) (hn : xs.length = n + 1) (hb : n ≤ 1000000) (hk : HeapK (keyK keyC xs) (n + 1)) :
    Calls Tryd.prog 27 #[.iface 61 (.pointer (some ⟨B, 0, none⟩))] w (fun e w' => ∃ x, e = .returned (.iface 57 (aggC x)) ∧ ∃ v' ys, (x :: ys).Perm xs ∧ ys.length = n ∧ (∀ y ∈ xs, keyC x ≤ keyC y) ∧ HeapK (keyK keyC ys) n ∧ SH row w0 w' (blkP B #[v'] 59 :: ownMP 2 57 v' n (hcC encC ys) :: I)) := by
  have HK := Lib.hid hk
  clear hk
  obtain ⟨c0, -⟩ := blk0 hs.p0
  have mL := findCLen c0
  go_enter Tryd.func27, Tryd.ntmps27
  go_wp2_with fail
  refine (SH.quiet hs (by repeat' (first | with_reducible exact Below.refl _ _ | with_reducible assumption | with_reducible refine below_drewN ?_ _ | with_reducible refine Below.drew ?_ | with_reducible refine Below.alloc ?_ ?_ _ | with_reducible refine Below.setCell ?_ ?_ _ | go_size)) fun hs => lenC _ (n + 1) _ _ (OwnM.rd hs.p1)).mono ?_
  rintro e w1 ⟨rfl, hs⟩
  clear c0 mL
  obtain ⟨c0, -⟩ := blk0 hs.p0
  have mS := findCSwap c0
  go_wp2_with fail
  refine (swapC _ xs (n + 1) 0 n _ hs.bring1 hn (by omega) (by omega)).mono ?_
  rintro e w2 ⟨rfl, hs⟩
  have hs := hs.bring1
  clear c0 mS
  go_wp2_with fail
  refine (downC B v (swL xs 0 n) (n + 1) n _ hs (by rw [swL_len]; exact hn) (by omega) (by omega) (DownInv.start HK.out (fun m h1 h2 => by show keyC (ht (swL xs 0 n) m) = keyC (ht xs m); rw [ht_sw (by omega) (by omega), if_neg h2, if_neg h1]))).mono ?_
  rintro e w3 ⟨⟨_, rfl⟩, ys, hp, hh, hl, hs⟩
  have HP := Lib.hid hp
  have HH := Lib.hid hh
  have HL := Lib.hid hl
  have hyl : Hid (ys.length = n + 1) := Lib.hid (by rw [hp.length_eq, swL_len]; exact hn)
  clear hp hh hl
  have mP := findCPop ⟨B, 0, none⟩
  go_wp2_with fail
  refine (popMC B v ys n _ hs hyl.out hb).mono ?_
  rintro e w4 ⟨rfl, v4, hs⟩
  clear mP
  have hx : ht ys n = ht xs 0 := by
    rw [HL.out n (Nat.le_refl _), ht_sw (by omega) (by omega), if_pos rfl]
  rw [hx]
  have HX := Lib.hid hx
  clear hx
  generalize hgx : aggC (ht xs 0) = gx
  have HGX := Lib.hid hgx
  clear hgx
  go_wp2
  go_ret
  refine ⟨ht xs 0, by rw [HGX.out]; rfl, v4, ys.take n, ?_, by rw [List.length_take, hyl.out]; omega, fun y hy => ?_, HH.out.congr fun i hi => by show keyC (ht (ys.take n) i) = keyC (ht ys i); rw [ht_take hi], hs⟩
  · have e1 : ys = ys.take n ++ [ht ys n] := by
      have h1 := List.take_append_drop n ys
      have h2 : ys.drop n = [ht ys n] := by
        rw [ht_get (by rw [hyl.out]; omega), List.drop_eq_getElem_cons (by rw [hyl.out]; omega), List.drop_eq_nil_of_le (by rw [hyl.out]; omega)]
      rw [← h2]; exact h1.symm
    rw [← HX.out]
    refine (List.perm_append_singleton (ht ys n) (ys.take n)).symm.trans ?_
    rw [← e1]
    exact HP.out.trans (swL_perm (by omega) (by omega))
  · obtain ⟨i, hi, rfl⟩ := ht_ex hy
    exact HK.out.min i (by omega)

end Go.Proofs.YtdfinlpfkmmpkaaDoor
