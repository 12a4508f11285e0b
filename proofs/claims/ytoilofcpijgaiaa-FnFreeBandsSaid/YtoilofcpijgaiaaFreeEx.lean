import Derived.Test.YtoilofcpijgaiaaFree
namespace Go.Proofs.Ytoilofcpijgaiaa
open Go.RowKit

def frK (xs : List Int) (th wd : Int) (k : Nat) : List (Int × Int) := (rgs xs th k).filter (wideB wd)
theorem frK_quiet {xs : List Int} {th wd : Int} {k : Nat} (h : qt xs th k = true) : frK xs th wd (k + 1) = frK xs th wd k := by unfold frK; rw [(rgs_quiet h).1]
theorem frK_hit {xs : List Int} {th wd : Int} {k : Nat} (h : qt xs th k = false) (h1 : 1 ≤ wd) (h2 : wd ≤ (k : Int) - (frF xs th k : Int)) : frK xs th wd (k + 1) = frK xs th wd k ++ [((frF xs th k : Int), (k : Int) - 1)] := by
  unfold frK
  rw [(rgs_loud h (by omega)).1, List.filter_append]
  have : wideB wd ((frF xs th k : Int), (k : Int) - 1) = true := decide_eq_true (by show wd ≤ (k : Int) - 1 - (frF xs th k : Int) + 1; omega)
  simp [this]
theorem frK_miss {xs : List Int} {th wd : Int} {k : Nat} (h : qt xs th k = false) (h2 : (k : Int) - (frF xs th k : Int) < wd) : frK xs th wd (k + 1) = frK xs th wd k := by
  unfold frK
  by_cases hk : frF xs th k < k
  · rw [(rgs_loud h hk).1, List.filter_append]
    have : wideB wd ((frF xs th k : Int), (k : Int) - 1) = false := decide_eq_false (by show ¬ wd ≤ (k : Int) - 1 - (frF xs th k : Int) + 1; omega)
    simp [this]
  · rw [(rgs_none h (by have := frF_le xs th k; omega)).1]
theorem frF_loud {xs : List Int} {th : Int} {k : Nat} (h : qt xs th k = false) : frF xs th (k + 1) = k + 1 := by simp [frF, h]
theorem length_frK (xs : List Int) (th wd : Int) (k : Nat) : (frK xs th wd k).length ≤ k := Nat.le_trans (List.length_filter_le _ _) (length_rgs xs th k)
theorem bC_snoc (L : List (Int × Int)) (x y : Int) (i j : Nat) (hi : i < L.length + 1) : updC (bC L) L.length (rowB x y) i j = bC (L ++ [(x, y)]) i j := by
  unfold updC bC rowB bF bL
  by_cases h : i = L.length
  · simp [h, List.getD]
  · simp only [if_neg h, List.getD, List.getElem?_append_left (show i < L.length by omega)]

set_option maxRecDepth 100000 in
set_option maxHeartbeats 4000000 in
theorem specFreeBands_c (va : Value) (xs : List Int) (th wd : Int) (w : World) (ha : RdI w va xs) :
    Calls Try.prog 36 #[va, .int .i64 th, .int .i64 wd] w (Ret w fun v w' => OwnBand w' w.heap.size v (frV xs th wd)) := by
  obtain ⟨a, ca, rfl, ma⟩ := ha.form
  have hs := SH.start w [rdP .i64 (.slice a xs.length ca) xs] (by simp only [List.forall_mem_cons]; exact ⟨⟨ha, rdP_wr⟩, by simp⟩)
  clear ha
  by_cases hl : 64 < xs.length
  · go_enter Try.func36, Try.ntmps36
    go_wp2_with fail
    have hs := hs.ownEmptyM 2 (by decide) 47 (bC [])
    go_ret
    exact Ret.mk1 (by rw [show frV xs th wd = [] by simp [frV, show ¬ xs.length ≤ 64 by omega]]; exact SH.ownRetM hs) hs.done
  cases hin : inB wd 1 64
  · go_enter Try.func36, Try.ntmps36
    go_wp2_with (go_at_call 52; refine (l1In_x wd 1 64 _).mono ?_; rintro e w' ⟨rfl, rfl⟩; rw [hin])
    have hs := hs.ownEmptyM 2 (by decide) 47 (bC [])
    go_ret
    exact Ret.mk1 (by rw [show frV xs th wd = [] by simp [frV, hin]]; exact SH.ownRetM hs) hs.done
  obtain ⟨wd1, wd2⟩ := inB_true.1 hin
  go_enter Try.func36, Try.ntmps36
  go_wp2_with (go_at_call 52; refine (l1In_x wd 1 64 _).mono ?_; rintro e w' ⟨rfl, rfl⟩; rw [hin])
  have hs := hs.ownEmptyM 2 (by decide) 47 (bC (frK xs th wd 0))
  go_loopw [7, 8, 9] (fun o f i wr => ∃ k : Nat, k ≤ xs.length + 1 ∧ i = .int .i64 k ∧ f = .int .i64 (frF xs th k) ∧ SH none w wr [ownMP 2 47 o (frK xs th wd k).length (bC (frK xs th wd k)), rdP .i64 (.slice a xs.length ca) xs]) (fun _ _ i _ => xs.length + 1 - (intOf i).toNat)
  case atStart => exact ⟨0, Nat.zero_le _, rfl, rfl, hs⟩
  case round =>
    obtain ⟨k, hk, rfl, rfl, hs⟩ := hrel
    by_cases hlt : k ≤ xs.length
    · by_cases hq : qt xs th k = true
      · have hq2 := hq
        simp only [qt, Bool.and_eq_true, decide_eq_true_eq] at hq2
        obtain ⟨q1, q2⟩ := hq2
        obtain ⟨b, off, rfl, hc⟩ := hs.p1.at_ q1
        have e1 := frK_quiet (wd := wd) hq
        have e2 := (rgs_quiet hq).2
        have E := Lib.hid (And.intro e1 e2)
        clear e1 e2 hq
        go_wp2
        go_roundw
        case rel => exact ⟨k + 1, by omega, by go_num, by rw [E.out.2], by rw [E.out.1]; exact hs⟩
        case measure => simp [intOf]; try omega
      · have hq2 : qt xs th k = false := by simpa using hq
        have hfl := frF_le xs th k
        have hle := length_frK xs th wd k
        obtain ⟨f, hf⟩ : ∃ f, frF xs th k = f := ⟨_, rfl⟩
        rw [hf] at hfl
        have HQ := Lib.hid hq2
        have HF := Lib.hid hf
        rw [hf]
        clear hq hq2 hf
        rcases Nat.lt_or_ge k xs.length with hkl | hkl
        · obtain ⟨b, off, rfl, hc⟩ := hs.p1.at_ hkl
          have hth : th ≤ gi xs k := by
            rcases Int.lt_or_le (gi xs k) th with h | h
            · rw [qt_true hkl h] at HQ; cases HQ.out
            · exact h
          have hs0 := hs
          by_cases hw : wd ≤ (k : Int) - (f : Int)
          · have E : Hid (frK xs th wd (k + 1) = frK xs th wd k ++ [((f : Int), (k : Int) - 1)]) := by unfold Hid; rw [frK_hit HQ.out wd1 (by rw [HF.out]; exact hw), HF.out]
            go_wp2_with (at_builtin; refine wp_app1MS rfl rfl 47 16 2 (.agg #[.int .i64 0, .int .i64 0]) Try.underlying43 info_band rfl (by decide) (rowB f ((k : Int) - 1)) rfl (hs.alloc _) rfl (fun j hj => by have : j = 0 ∨ j = 1 := (by omega); rcases this with rfl | rfl <;> exact World.cell?_alloc_at _ _ _ _ (by simp)) (fun j hj => by unfold rowB; rfl) (by omega) (by unfold maxLen; omega) ?_; intro v9 w9 hs)
            have hs := hs.congrM (c' := bC (frK xs th wd (k + 1))) (fun i j hi hj => by rw [E.out]; exact bC_snoc _ _ _ i j hi)
            have el : (frK xs th wd k).length + 1 = (frK xs th wd (k + 1)).length := by rw [E.out]; simp
            rw [el] at hs
            clear el
            go_wp2
            go_roundw
            case rel => exact ⟨k + 1, by omega, by go_num, by rw [frF_loud HQ.out]; go_num, hs⟩
            case measure => simp [intOf]; try omega
          · have E : Hid (frK xs th wd (k + 1) = frK xs th wd k) := by unfold Hid; exact frK_miss HQ.out (by rw [HF.out]; omega)
            go_wp2
            go_roundw
            case rel => exact ⟨k + 1, by omega, by go_num, by rw [frF_loud HQ.out]; go_num, by rw [E.out]; exact hs⟩
            case measure => simp [intOf]; try omega
        · obtain rfl : k = xs.length := by omega
          have hs0 := hs
          by_cases hw : wd ≤ (xs.length : Int) - (f : Int)
          · have E : Hid (frK xs th wd (xs.length + 1) = frK xs th wd xs.length ++ [((f : Int), (xs.length : Int) - 1)]) := by unfold Hid; rw [frK_hit HQ.out wd1 (by rw [HF.out]; exact hw), HF.out]
            go_wp2_with (at_builtin; refine wp_app1MS rfl rfl 47 16 2 (.agg #[.int .i64 0, .int .i64 0]) Try.underlying43 info_band rfl (by decide) (rowB f ((xs.length : Int) - 1)) rfl (hs.alloc _) rfl (fun j hj => by have : j = 0 ∨ j = 1 := (by omega); rcases this with rfl | rfl <;> exact World.cell?_alloc_at _ _ _ _ (by simp)) (fun j hj => by unfold rowB; rfl) (by omega) (by unfold maxLen; omega) ?_; intro v9 w9 hs)
            have hs := hs.congrM (c' := bC (frK xs th wd (xs.length + 1))) (fun i j hi hj => by rw [E.out]; exact bC_snoc _ _ _ i j hi)
            have el : (frK xs th wd xs.length).length + 1 = (frK xs th wd (xs.length + 1)).length := by rw [E.out]; simp
            rw [el] at hs
            clear el
            go_wp2
            go_roundw
            case rel => exact ⟨xs.length + 1, by omega, by go_num, by rw [frF_loud HQ.out]; go_num, hs⟩
            case measure => simp [intOf]; try omega
          · have E : Hid (frK xs th wd (xs.length + 1) = frK xs th wd xs.length) := by unfold Hid; exact frK_miss HQ.out (by rw [HF.out]; omega)
            go_wp2
            go_roundw
            case rel => exact ⟨xs.length + 1, by omega, by go_num, by rw [frF_loud HQ.out]; go_num, by rw [E.out]; exact hs⟩
            case measure => simp [intOf]; try omega
    · obtain rfl : k = xs.length + 1 := by omega
      have E : Hid (frV xs th wd = frK xs th wd (xs.length + 1)) := by unfold Hid frV; rw [if_pos (by simp [hin]; omega)]; rfl
      go_wp2
      go_ret
      exact Ret.mk1 (by rw [E.out]; exact SH.ownRetM hs) hs.done
end Go.Proofs.Ytoilofcpijgaiaa
