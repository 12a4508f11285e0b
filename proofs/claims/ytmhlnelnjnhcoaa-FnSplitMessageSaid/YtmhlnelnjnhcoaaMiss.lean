import Derived.Test.YtmhlnelnjnhcoaaProg
import Derived.Test.YtmhlnelnjnhcoaaLib
import Derived.Test.YtmhlnelnjnhcoaaMem
import Derived.Test.YtmhlnelnjnhcoaaNum
import Derived.Test.YtmhlnelnjnhcoaaSym
import Derived.Test.YtmhlnelnjnhcoaaInts
import Derived.Test.YtmhlnelnjnhcoaaApp
import Derived.Test.YtmhlnelnjnhcoaaBlk
import Derived.Test.YtmhlnelnjnhcoaaFrag
import Derived.Test.YtmhlnelnjnhcoaaSplit
import Derived.Test.YtmhlnelnjnhcoaaIdx
import Derived.Test.YtmhlnelnjnhcoaaJoin
namespace Go.Proofs.Ytmhlnelnjnhcoaa
open Go.RowKit

/-! The parts of a message of which there is no fragment. -/
def hasP (fs : List Frag) (m : Int) (k : Nat) : Bool := lookB fs m (k : Int) fs.length
/-- those ahead of part n -/
def missK (fs : List Frag) (m : Int) : Nat → List Int
  | 0 => []
  | n + 1 => if hasP fs m n then missK fs m n else missK fs m n ++ [(n : Int)]
/-- one more than the last part ahead of n that there is; 0 if there is none -/
def lastT (fs : List Frag) (m : Int) : Nat → Nat
  | 0 => 0
  | n + 1 => if hasP fs m n then n + 1 else lastT fs m n
def missF (fs : List Frag) (m : Int) : List Int := missK fs m (lastT fs m 50)
theorem missK_len (fs : List Frag) (m : Int) : ∀ n, (missK fs m n).length ≤ n
  | 0 => by simp [missK]
  | n + 1 => by
    have := missK_len fs m n
    unfold missK; split <;> simp <;> omega
theorem lastT_le (fs : List Frag) (m : Int) : ∀ n, lastT fs m n ≤ n
  | 0 => by simp [lastT]
  | n + 1 => by
    have := lastT_le fs m n
    unfold lastT; split <;> omega
theorem missF_len (fs : List Frag) (m : Int) : (missF fs m).length ≤ 50 :=
  Nat.le_trans (missK_len _ _ _) (lastT_le _ _ _)

theorem OwnK.cut0 {k : IntKind} {w : World} {base : Nat} {t : TypeId} {a : Option Addr} {n cap : Nat} {xs : List Int} (h : OwnK k w base t (.slice a n cap) xs) : OwnK k w base t (.slice a 0 cap) [] := by
  obtain ⟨h1, h2⟩ := h
  refine ⟨rfl, ?_⟩
  rcases h2 with ⟨h2, h3⟩ | ⟨g, cp, cur, h2, h3, h4, h5, h6, h7, h8⟩
  · left
    obtain ⟨rfl, rfl, rfl⟩ := Value.slice.inj h2
    exact ⟨rfl, rfl⟩
  · right
    obtain ⟨rfl, rfl, rfl⟩ := Value.slice.inj h2
    exact ⟨g, cap, cur, rfl, h3, h4, Nat.zero_le _, h6, h7, by simp⟩
theorem SH.cut0 {row : Option Nat} {w0 w : World} {I : List Part} {k : IntKind} {t : TypeId} {a : Option Addr} {n cap : Nat} {xs : List Int} (h : SH row w0 w (ownP k t (.slice a n cap) xs :: I)) : SH row w0 w (ownP k t (.slice a 0 cap) [] :: I) :=
  h.as (q := ownP k t (.slice a 0 cap) []) (OwnK.cut0 h.p0) (fun _ e => by cases a <;> exact e) (fun _ e => by cases a <;> exact e)

set_option maxHeartbeats 1000000 in
theorem implMiss_c (va : Value) (vs : Nat → Value) (fs : List Frag) (m : Int) (w : World) (h : RdF w va vs fs) (hw : wfF fs) (hm : wfI m) (hl : fs.length ≤ 4000000) :
    Calls Try.prog 20 #[va, .int .i64 m] w (Ret w fun v w' => OwnK .i64 w' w.heap.size 3 v (missF fs m)) := by
  obtain ⟨a, ca, rfl, ml⟩ := h.rows.form
  have HW := Lib.hid hw
  have H := Lib.hid h
  clear h hw
  go_enter Try.func20, Try.ntmps20
  go_wp2_with fail
  refine (implParts_c _ vs fs _ H.out HW.out hl).mono ?_
  rintro e w1 ⟨g, rfl, hs⟩
  have hs := (hs.ownNil .i64 3).ownNil .i64 3
  go_wp2
  go_loopw [6, 7, 13] (fun o q i wr => ∃ (k : Nat) (ys : List Int), k ≤ 50 ∧ i = .int .i64 k ∧ Hid (missK fs m (lastT fs m k) ++ ys = missK fs m k) ∧ ys.length ≤ 50 ∧ SH none w wr [ownP .i64 3 o (missK fs m (lastT fs m k)), ownP .i64 3 q ys, idxP g fs.length fs]) (fun _ _ i _ => 50 - (intOf i).toNat)
  case atStart => exact ⟨0, [], by decide, rfl, Lib.hid rfl, by simp, hs⟩
  case round =>
    obtain ⟨k, ys, hk, rfl, HE, hys, hs⟩ := hrel
    by_cases hlt : k < 50
    · have hwk : wfI (k : Int) := wfNat k (by omega)
      obtain ⟨ao, co, rfl, -⟩ := (OwnK.rd hs.p0).form
      obtain ⟨aq, cq, rfl, -⟩ := (OwnK.rd hs.p1).form
      have hlm := missK_len fs m (lastT fs m k)
      have hlt2 := lastT_le fs m k
      obtain ⟨V, hV⟩ : ∃ V, lookV fs m (k : Int) fs.length = V := ⟨_, rfl⟩
      cases hB : lookB fs m (k : Int) fs.length
      · have HM : Hid (missK fs m (k + 1) = missK fs m k ++ [(k : Int)] ∧ lastT fs m (k + 1) = lastT fs m k) := by
          refine Lib.hid ⟨?_, ?_⟩
          · simp only [missK, hasP, hB]; rfl
          · simp only [lastT, hasP, hB]; rfl
        go_wp2_with (first | (at_lookup; refine wp_lookIdx rfl _ _ rfl hs.p2 rfl m (k : Int) rfl hm hwk ?_; rw [hV, hB]) | (at_builtin; refine wp_app1S rfl rfl .i64 3 8 Try.underlying38 info_int (k : Int) rfl (hs.bring1.alloc _) rfl (World.cell?_alloc_at _ _ _ _ rfl) (by omega) (by unfold maxLen; omega) ?_; intro v2 w2 hs2))
        go_roundw
        case rel =>
          refine ⟨k + 1, ys ++ [(k : Int)], hlt, by go_num, Lib.hid ?_, ?_, ?_⟩
          · rw [HM.out.1, HM.out.2, ← HE.out, List.append_assoc]
          · have := missK_len fs m k
            have h3 : (missK fs m (lastT fs m k) ++ ys).length = (missK fs m k).length := by rw [HE.out]
            rw [List.length_append] at h3
            rw [List.length_append]; simp; omega
          · rw [HM.out.2]; exact hs2.bring1
        case measure => simp [intOf]; omega
      · have HM : Hid (missK fs m (k + 1) = missK fs m k ∧ lastT fs m (k + 1) = k + 1) := by
          refine Lib.hid ⟨?_, ?_⟩
          · simp only [missK, hasP, hB]; rfl
          · simp only [lastT, hasP, hB]; rfl
        go_wp2_with (first | (at_lookup; refine wp_lookIdx rfl _ _ rfl hs.p2 rfl m (k : Int) rfl hm hwk ?_; rw [hV, hB]) | (at_builtin; refine wp_appKX rfl rfl .i64 3 8 Try.underlying38 info_int rfl hs rfl (OwnK.rd hs.p1) (by omega) (by unfold maxLen; omega) ?_; intro v2 w2 hs2))
        go_roundw
        case rel =>
          refine ⟨k + 1, [], hlt, by go_num, Lib.hid ?_, by simp, ?_⟩
          · rw [HM.out.1, HM.out.2, HM.out.1, List.append_nil]
          · rw [HM.out.2, HM.out.1, ← HE.out]; exact hs2.bring1.cut0.bring1
        case measure => simp [intOf]; omega
    · obtain rfl : k = 50 := by omega
      go_wp2
      go_ret
      exact Ret.mk1 (SH.ownRet hs) hs.done
/-- the last part in range of the message's fragments ahead of n; -1 if there is none -/
def mostN (fs : List Frag) (m : Int) : Nat → Int
  | 0 => -1
  | n + 1 => if (fr fs n).m = m ∧ inB (fr fs n).p 0 49 = true then max (mostN fs m n) (fr fs n).p else mostN fs m n
theorem inB_iff {n : Int} : inB n 0 49 = true ↔ 0 ≤ n ∧ n ≤ 49 := by simp [inB]
theorem mostN_ge {fs : List Frag} {m : Int} : ∀ {n i : Nat}, i < n → (fr fs i).m = m → inB (fr fs i).p 0 49 = true → (fr fs i).p ≤ mostN fs m n
  | 0, i, hi, _, _ => absurd hi (Nat.not_lt_zero _)
  | n + 1, i, hi, h1, h2 => by
    unfold mostN
    rcases Nat.lt_succ_iff_lt_or_eq.1 hi with h | rfl
    · have := mostN_ge h h1 h2
      split <;> omega
    · rw [if_pos ⟨h1, h2⟩]; omega
theorem mostN_of {fs : List Frag} {m : Int} : ∀ {n : Nat}, mostN fs m n = -1 ∨ ∃ i, i < n ∧ (fr fs i).m = m ∧ (fr fs i).p = mostN fs m n ∧ 0 ≤ mostN fs m n ∧ mostN fs m n ≤ 49
  | 0 => .inl rfl
  | n + 1 => by
    unfold mostN
    split
    · next h =>
      obtain ⟨h1, h2⟩ := h
      rw [inB_iff] at h2
      rcases mostN_of (fs := fs) (m := m) (n := n) with h | ⟨i, hi, h3, h4, h5, h6⟩
      · right; exact ⟨n, by omega, h1, by omega, by omega, by omega⟩
      · right
        by_cases hc : mostN fs m n ≤ (fr fs n).p
        · exact ⟨n, by omega, h1, by omega, by omega, by omega⟩
        · exact ⟨i, by omega, h3, by omega, by omega, by omega⟩
    · rcases mostN_of (fs := fs) (m := m) (n := n) with h | ⟨i, hi, h3, h4, h5, h6⟩
      · exact .inl h
      · exact .inr ⟨i, by omega, h3, h4, h5, h6⟩
theorem hasP_of {fs : List Frag} {m : Int} {k i : Nat} (hi : i < fs.length) (h1 : (fr fs i).m = m) (h2 : (fr fs i).p = (k : Int)) : hasP fs m k = true := by
  unfold hasP lookB
  cases h : look fs m (k : Int) fs.length with
  | none => exact absurd ⟨h1, h2⟩ (look_none h i hi)
  | some j => rfl
theorem hasP_ex {fs : List Frag} {m : Int} {k : Nat} (h : hasP fs m k = true) : ∃ i, i < fs.length ∧ (fr fs i).m = m ∧ (fr fs i).p = (k : Int) := by
  unfold hasP lookB at h
  cases e : look fs m (k : Int) fs.length with
  | none => rw [e] at h; cases h
  | some j => exact ⟨j, look_some e⟩
theorem lastT_ge {fs : List Frag} {m : Int} : ∀ {n k : Nat}, k < n → hasP fs m k = true → k + 1 ≤ lastT fs m n
  | 0, k, hk, _ => absurd hk (Nat.not_lt_zero _)
  | n + 1, k, hk, h => by
    unfold lastT
    rcases Nat.lt_succ_iff_lt_or_eq.1 hk with h1 | rfl
    · have := lastT_ge h1 h
      split <;> omega
    · rw [if_pos h]; exact Nat.le_refl _
theorem lastT_of {fs : List Frag} {m : Int} : ∀ {n : Nat}, lastT fs m n = 0 ∨ ∃ k, lastT fs m n = k + 1 ∧ k < n ∧ hasP fs m k = true
  | 0 => .inl rfl
  | n + 1 => by
    unfold lastT
    split
    · next h => exact .inr ⟨n, rfl, by omega, h⟩
    · rcases lastT_of (fs := fs) (m := m) (n := n) with h | ⟨k, h1, h2, h3⟩
      · exact .inl h
      · exact .inr ⟨k, h1, by omega, h3⟩
theorem most_last (fs : List Frag) (m : Int) : mostN fs m fs.length + 1 = (lastT fs m 50 : Int) := by
  rcases lastT_of (fs := fs) (m := m) (n := 50) with h | ⟨k, h1, h2, h3⟩
  · rcases mostN_of (fs := fs) (m := m) (n := fs.length) with g | ⟨i, hi, g1, g2, g3, g4⟩
    · omega
    · have := lastT_ge (n := 50) (k := (mostN fs m fs.length).toNat) (by omega) (hasP_of hi g1 (by omega))
      omega
  · obtain ⟨i, hi, h4, h5⟩ := hasP_ex h3
    have h6 := mostN_ge (n := fs.length) hi h4 (by rw [inB_iff]; omega)
    rcases mostN_of (fs := fs) (m := m) (n := fs.length) with g | ⟨i', hi', g1, g2, g3, g4⟩
    · omega
    · have := lastT_ge (n := 50) (k := (mostN fs m fs.length).toNat) (by omega) (hasP_of hi' g1 (by omega))
      omega

set_option maxHeartbeats 1000000 in
theorem specMiss_c (va : Value) (vs : Nat → Value) (fs : List Frag) (m : Int) (w : World) (h : RdF w va vs fs) :
    Calls Try.prog 26 #[va, .int .i64 m] w (Ret w fun v w' => OwnK .i64 w' w.heap.size 3 v (missF fs m)) := by
  obtain ⟨a, ca, rfl, ml⟩ := h.rows.form
  have hs := (SH.start w [rdFP (.slice a fs.length ca) vs fs] (by simp only [List.forall_mem_cons]; exact ⟨⟨h, rdFP_wr⟩, by simp⟩)).ownEmpty .i64 3
  clear h
  go_enter Try.func26, Try.ntmps26
  go_wp2
  go_loopw [6, 7] (fun o i wr => ∃ k : Nat, k ≤ fs.length ∧ i = .int .i64 k ∧ o = .int .i64 (mostN fs m k) ∧ SH none w wr [ownP .i64 3 (.slice (some ⟨w.heap.size, 0, none⟩) 0 0) [], rdFP (.slice a fs.length ca) vs fs]) (fun _ i _ => fs.length - (intOf i).toNat)
  case atStart => exact ⟨0, Nat.zero_le _, rfl, rfl, hs⟩
  case round =>
    obtain ⟨k, hk, rfl, rfl, hs⟩ := hrel
    have hmb : -1 ≤ mostN fs m k ∧ mostN fs m k ≤ 49 := by
      rcases mostN_of (fs := fs) (m := m) (n := k) with g | ⟨i, hi, g1, g2, g3, g4⟩ <;> omega
    obtain ⟨hm0, hm1⟩ := hmb
    by_cases hlt : k < fs.length
    · obtain ⟨b, off, rfl, hc⟩ := (SH.p1 hs : RdF _ _ _ _).rows.at_ hlt
      have hc0 : wr.cell? ⟨b, off + k * 4, none⟩ = some (.int .i64 (fr fs k).m) := hc 0 (by decide)
      have hc1 : wr.cell? ⟨b, off + k * 4 + 1, none⟩ = some (.int .i64 (fr fs k).p) := hc 1 (by decide)
      clear hc
      by_cases h1 : (fr fs k).m = m
      · have e1 : ((fr fs k).m == m) = true := by simpa using h1
        cases h2 : inB (fr fs k).p 0 49
        · have HM : Hid (mostN fs m (k + 1) = mostN fs m k) := by unfold Hid; simp only [mostN]; rw [if_neg (fun h => by rw [h2] at h; cases h.2)]
          clear h1
          go_wp2_with fail
          refine (SH.quiet hs (by repeat' (first | with_reducible exact Below.refl _ _ | with_reducible assumption | with_reducible refine below_drewN ?_ _ | with_reducible refine Below.drew ?_ | with_reducible refine Below.alloc ?_ ?_ _ | with_reducible refine Below.setCell ?_ ?_ _ | go_size)) fun hs => l1In_c (fr fs k).p 0 49 _).mono ?_
          rintro e w2 ⟨rfl, hs⟩
          rw [h2]
          go_wp2
          go_roundw
          case rel => exact ⟨k + 1, hlt, by go_num, intv HM.out.symm, hs⟩
          case measure => simp [intOf]; omega
        · have HM : Hid (mostN fs m (k + 1) = max (mostN fs m k) (fr fs k).p) := by unfold Hid; simp only [mostN]; rw [if_pos ⟨h1, h2⟩]
          clear h1
          go_wp2_with fail
          refine (SH.quiet hs (by repeat' (first | with_reducible exact Below.refl _ _ | with_reducible assumption | with_reducible refine below_drewN ?_ _ | with_reducible refine Below.drew ?_ | with_reducible refine Below.alloc ?_ ?_ _ | with_reducible refine Below.setCell ?_ ?_ _ | go_size)) fun hs => l1In_c (fr fs k).p 0 49 _).mono ?_
          rintro e w2 ⟨rfl, hs⟩
          rw [h2]
          obtain ⟨b', off', e2, hc⟩ := (SH.p1 hs : RdF _ _ _ _).rows.at_ hlt
          cases e2
          have hd1 : w2.cell? ⟨b, off + k * 4 + 1, none⟩ = some (.int .i64 (fr fs k).p) := hc 1 (by decide)
          clear hc hc0 hc1
          by_cases hle : mostN fs m k ≤ (fr fs k).p
          · have HM2 : Hid (mostN fs m (k + 1) = (fr fs k).p) := by unfold Hid; rw [HM.out]; omega
            go_wp2
            go_roundw
            case rel => exact ⟨k + 1, hlt, by go_num, intv (by rw [HM2.out]; first | rfl | omega), hs⟩
            case measure => simp [intOf]; omega
          · have HM2 : Hid (mostN fs m (k + 1) = mostN fs m k) := by unfold Hid; rw [HM.out]; omega
            go_wp2
            go_roundw
            case rel => exact ⟨k + 1, hlt, by go_num, intv (by rw [HM2.out]; first | rfl | omega), hs⟩
            case measure => simp [intOf]; omega
      · have e1 : ((fr fs k).m == m) = false := by simpa using h1
        have HM : Hid (mostN fs m (k + 1) = mostN fs m k) := by unfold Hid; simp only [mostN]; rw [if_neg (fun h => h1 h.1)]
        clear h1
        go_wp2
        go_roundw
        case rel => exact ⟨k + 1, hlt, by go_num, intv HM.out.symm, hs⟩
        case measure => simp [intOf]; omega
    · obtain rfl : k = fs.length := by omega
      have HT := Lib.hid (most_last fs m)
      have hT : mostN fs m fs.length = (lastT fs m 50 : Int) - 1 := by have := HT.out; omega
      rw [hT]
      have hT50 := lastT_le fs m 50
      obtain ⟨T, hTe⟩ : ∃ T, lastT fs m 50 = T := ⟨_, rfl⟩
      have HTe := Lib.hid hTe
      rw [hTe] at hT50 ⊢
      clear hT hTe hm0 hm1 HT
      go_wp2
      go_loopw [5, 8] (fun o i wr => ∃ j : Nat, j ≤ T ∧ i = .int .i64 j ∧ SH none w wr [ownP .i64 3 o (missK fs m j), rdFP (.slice a fs.length ca) vs fs]) (fun _ i _ => T - (intOf i).toNat)
      case atStart => exact ⟨0, Nat.zero_le _, rfl, hs⟩
      case round =>
        obtain ⟨j, hj, rfl, hs⟩ := hrel
        by_cases hlt2 : j < T
        · have hlm := missK_len fs m j
          obtain ⟨ao, co, rfl, -⟩ := (OwnK.rd hs.p0).form
          cases hB : lookB fs m (j : Int) fs.length
          · have hV : findV fs m (j : Int) fs.length = -1 := by
              unfold lookB at hB; unfold findV
              cases e : look fs m (j : Int) fs.length with
              | none => rfl
              | some i => rw [e] at hB; cases hB
            have HM : Hid (missK fs m (j + 1) = missK fs m j ++ [(j : Int)]) := by unfold Hid; simp only [missK, hasP, hB]; rfl
            go_wp2_with fail
            refine (SH.quiet hs (by repeat' (first | with_reducible exact Below.refl _ _ | with_reducible assumption | with_reducible refine below_drewN ?_ _ | with_reducible refine Below.drew ?_ | with_reducible refine Below.alloc ?_ ?_ _ | with_reducible refine Below.setCell ?_ ?_ _ | go_size)) fun hs => l21Find_c _ vs fs m (j : Int) _ hs.p1).mono ?_
            rintro e w2 ⟨rfl, hs⟩
            rw [hV]
            go_wp2_with (at_builtin; refine wp_app1S rfl rfl .i64 3 8 Try.underlying38 info_int (j : Int) rfl (hs.alloc _) rfl (World.cell?_alloc_at _ _ _ _ rfl) (by omega) (by unfold maxLen; omega) ?_; intro v2 w3 hs2)
            go_roundw
            case rel => exact ⟨j + 1, hlt2, by go_num, by rw [HM.out]; exact hs2⟩
            case measure => simp [intOf]; omega
          · have hV : 0 ≤ findV fs m (j : Int) fs.length := by
              unfold lookB at hB; unfold findV
              cases e : look fs m (j : Int) fs.length with
              | none => rw [e] at hB; cases hB
              | some i => simp
            have HM : Hid (missK fs m (j + 1) = missK fs m j) := by unfold Hid; simp only [missK, hasP, hB]; rfl
            obtain ⟨V, hVV⟩ : ∃ V, findV fs m (j : Int) fs.length = V := ⟨_, rfl⟩
            rw [hVV] at hV
            go_wp2_with fail
            refine (SH.quiet hs (by repeat' (first | with_reducible exact Below.refl _ _ | with_reducible assumption | with_reducible refine below_drewN ?_ _ | with_reducible refine Below.drew ?_ | with_reducible refine Below.alloc ?_ ?_ _ | with_reducible refine Below.setCell ?_ ?_ _ | go_size)) fun hs => l21Find_c _ vs fs m (j : Int) _ hs.p1).mono ?_
            rintro e w2 ⟨rfl, hs⟩
            rw [hVV]
            go_wp2
            go_roundw
            case rel => exact ⟨j + 1, hlt2, by go_num, by rw [HM.out]; exact hs⟩
            case measure => simp [intOf]; omega
        · obtain rfl : j = T := by omega
          go_wp2
          go_ret
          exact Ret.mk1 (by unfold missF; rw [HTe.out]; exact SH.ownRet hs) hs.done
end Go.Proofs.Ytmhlnelnjnhcoaa
