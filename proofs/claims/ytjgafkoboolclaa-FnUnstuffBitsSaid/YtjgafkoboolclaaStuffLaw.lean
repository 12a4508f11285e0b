import Derived.Test.YtjgafkoboolclaaProg
import Derived.Test.YtjgafkoboolclaaSym
import Derived.Test.YtjgafkoboolclaaInts
import Derived.Test.YtjgafkoboolclaaApp
import Derived.Test.YtjgafkoboolclaaStuff
import Derived.Test.YtjgafkoboolclaaDrawBits
namespace Go.Proofs.Ytjgafkoboolclaa
open Go.RowKit

theorem gi_take {xs : List Int} {n i : Nat} (h : i < n) : gi (xs.take n) i = gi xs i := by
  unfold gi; simp [List.getElem?_take, h]
theorem unS_append {xs ys : List Int} : ∀ k, k ≤ xs.length → unS (xs ++ ys) k = unS xs k
  | 0, _ => rfl
  | k + 1, h => by simp only [unS, unS_append (xs := xs) (ys := ys) k (by omega), gi_append_left (show k < xs.length by omega)]
/-- what is stuffed comes back -/
theorem un_st {bs : List Int} (hb : ∀ i, i < bs.length → gi bs i = 0 ∨ gi bs i = 1) : ∀ k, k ≤ bs.length → unS (stS bs k).1 (stS bs k).1.length = some (bs.take k, (stS bs k).2)
  | 0, _ => by simp [stS, unS]
  | k + 1, hk => by
    have ih := un_st hb k (by omega)
    have hbd := (stS_bd bs k).1
    rw [ext_take_succ (show k < bs.length by omega)]
    rcases hb k (by omega) with h | h
    · rw [stS_0 h, h]
      simp only [List.length_append, List.length_cons, List.length_nil, Nat.zero_add]
      have h1 : unS ((stS bs k).1 ++ [0]) (stS bs k).1.length = some (bs.take k, (stS bs k).2) := by rw [unS_append _ (Nat.le_refl _)]; exact ih
      exact unS_0 h1 (by omega) gi_append_at
    · by_cases h4 : (stS bs k).2 + 1 < 5
      · rw [stS_1 h h4, h]
        simp only [List.length_append, List.length_cons, List.length_nil, Nat.zero_add]
        have h1 : unS ((stS bs k).1 ++ [1]) (stS bs k).1.length = some (bs.take k, (stS bs k).2) := by rw [unS_append _ (Nat.le_refl _)]; exact ih
        exact unS_1 h1 (by omega) gi_append_at
      · rw [stS_5 h h4, h]
        simp only [List.length_append, List.length_cons, List.length_nil, Nat.zero_add]
        have h1 : unS ((stS bs k).1 ++ [1]) (stS bs k).1.length = some (bs.take k, (stS bs k).2) := by rw [unS_append _ (Nat.le_refl _)]; exact ih
        have h2 := unS_1 h1 (by omega) gi_append_at
        have e4 : (stS bs k).2 + 1 = 5 := by omega
        rw [e4] at h2
        have h3 : unS ((stS bs k).1 ++ [1] ++ [0]) ((stS bs k).1.length + 1) = some (bs.take k ++ [1], 5) := by rw [unS_append _ (by simp)]; exact h2
        refine unS_skip h3 ?_
        rw [show (stS bs k).1.length + 1 = ((stS bs k).1 ++ [1]).length by simp]
        exact gi_append_at
theorem unR_st {bs : List Int} (h : bitsB bs = true) (hl : bs.length ≤ 512) : unR (stV bs) = (bs, true) := by
  have hb := (bitsB_true.1 h).2
  have h1 := un_st hb bs.length (Nat.le_refl _)
  rw [List.take_length] at h1
  have hbd := (stS_bd bs bs.length).1
  rw [stV_ok h hl]
  exact unR_ok h1 (by omega) hl
/-- how the ones run, as the law counts them -/
theorem un_runs {xs : List Int} {out : List Int} {o n : Nat} (h : unS xs n = some (out, o)) : ∀ k, k ≤ n → ∃ out' o', unS xs k = some (out', o')
  | k, hk => by
    cases hu : unS xs k with
    | none =>
      have := unS_none hu (n - k)
      rw [Nat.add_sub_cancel' hk, h] at this
      cases this
    | some q => exact ⟨q.1, q.2, rfl⟩
theorem un_step {xs : List Int} {k o o' : Nat} {out out' : List Int} (h : unS xs k = some (out, o)) (h' : unS xs (k + 1) = some (out', o')) : (gi xs k = 0 ∨ gi xs k = 1) ∧ ((o : Int) + 1) * gi xs k = o' := by
  by_cases h0 : gi xs k = 0
  · refine ⟨.inl h0, ?_⟩
    by_cases h5 : o = 5
    · subst h5; rw [unS_skip h h0] at h'; simp at h'; rw [h0]; simp; omega
    · rw [unS_0 h h5 h0] at h'; simp at h'; rw [h0]; simp; omega
  · by_cases h1 : gi xs k = 1
    · refine ⟨.inr h1, ?_⟩
      by_cases h5 : o = 5
      · subst h5; rw [unS_full h h0] at h'; cases h'
      · rw [unS_1 h h5 h1] at h'; simp at h'; rw [h1]; omega
    · rw [unS_bad h h0 h1] at h'; cases h'

set_option maxRecDepth 100000 in
set_option maxHeartbeats 4000000 in
theorem fnStuffBits_c (vc : Value) (c : List Int) (w : World) (hc : RdB w vc c) (bc : ∀ n ∈ c, (Lit.int .u8 n).wf = true) :
    Calls Try.prog 5 #[vc] w (Ret w fun v _ => v = .bool true) := by
  have hs := SH.add (p := rdP .u8 vc c) (SH.start0 w) (by simp) hc rdP_wr
  obtain ⟨ac, cc, rfl, -⟩ := hc.form
  have Bc := Lib.hid bc
  clear hc bc
  by_cases lc : c.length ≤ 1048576
  case neg =>
    go_enter Try.func5, Try.ntmps5
    go_wp2
    go_ret
    exact Ret.mk1 rfl (Below.refl _ _)
  go_enter Try.func5, Try.ntmps5
  go_wp2_with fail
  refine (DrawStuffBits_s _ c _ (by first | exact hs | exact (hs).allocP1 _ _ | exact ((hs).allocP1 _ _).allocP1 _ _ | exact (((hs).allocP1 _ _).allocP1 _ _).allocP1 _ _ | exact ((((hs).allocP1 _ _).allocP1 _ _).allocP1 _ _).allocP1 _ _ | exact (hs).drew | exact ((hs).allocP1 _ _).drew | exact (((hs).allocP1 _ _).allocP1 _ _).drew | exact ((((hs).allocP1 _ _).allocP1 _ _).allocP1 _ _).drew | exact (((((hs).allocP1 _ _).allocP1 _ _).allocP1 _ _).allocP1 _ _).drew | exact (hs).drewN _ | exact ((hs).allocP1 _ _).drewN _ | exact (((hs).allocP1 _ _).allocP1 _ _).drewN _ | exact ((((hs).allocP1 _ _).allocP1 _ _).allocP1 _ _).drewN _ | exact (((((hs).allocP1 _ _).allocP1 _ _).allocP1 _ _).allocP1 _ _).drewN _) Bc.out).mono ?_
  rintro e w1 ⟨v1, bs, rfl, hl, hs⟩
  obtain ⟨a1, c1, rfl, -⟩ := (OwnK.rd hs.p0).form
  go_wp2_with fail
  refine (SH.own hs (by repeat' (first | with_reducible exact Below.refl _ _ | with_reducible assumption | with_reducible refine below_drewN ?_ _ | with_reducible refine Below.drew ?_ | with_reducible refine Below.alloc ?_ ?_ _ | with_reducible refine Below.setCell ?_ ?_ _ | go_size)) fun hs => implStuffBits_c _ bs _ (OwnK.rd hs.p0)).mono ?_
  rintro e w2 ⟨v2, rfl, hs⟩
  go_wp2_with fail
  refine (SH.own hs (by repeat' (first | with_reducible exact Below.refl _ _ | with_reducible assumption | with_reducible refine below_drewN ?_ _ | with_reducible refine Below.drew ?_ | with_reducible refine Below.alloc ?_ ?_ _ | with_reducible refine Below.setCell ?_ ?_ _ | go_size)) fun hs => specStuffBits_c _ bs _ (OwnK.rd hs.p1)).mono ?_
  rintro e w3 ⟨v3, rfl, hs⟩
  go_wp2_with fail
  refine (SH.quiet hs (by repeat' (first | with_reducible exact Below.refl _ _ | with_reducible assumption | with_reducible refine below_drewN ?_ _ | with_reducible refine Below.drew ?_ | with_reducible refine Below.alloc ?_ ?_ _ | with_reducible refine Below.setCell ?_ ?_ _ | go_size)) fun hs => sameInts_c _ _ _ _ _ (OwnK.rd hs.p1) (OwnK.rd hs.p0)).mono ?_
  rintro e w4 ⟨rfl, hs⟩
  rw [show decide (stV bs = stV bs) = true by simp]
  have hs := hs.drop0
  have hxl := stV_len bs
  by_cases hz : (stV bs).length = 0
  · obtain ⟨X, hX⟩ : ∃ X, stV bs = X := ⟨_, rfl⟩
    rw [hX] at hs hz hxl
    obtain rfl : X = [] := List.eq_nil_of_length_eq_zero hz
    clear hX hz hxl
    obtain ⟨a2, c2, rfl, -⟩ := (OwnK.rd hs.p0).form
    go_wp2_with fail
    refine (SH.ret hs (by repeat' (first | with_reducible exact Below.refl _ _ | with_reducible assumption | with_reducible refine below_drewN ?_ _ | with_reducible refine Below.drew ?_ | with_reducible refine Below.alloc ?_ ?_ _ | with_reducible refine Below.setCell ?_ ?_ _ | go_size)) fun hs => alive_c _).mono ?_
    rintro e w5 ⟨v, rfl, rfl, hs⟩
    go_wp2
    go_ret
    exact Ret.mk1 rfl (SH.done (by first | exact hs | exact (hs).alloc _ | exact ((hs).alloc _).alloc _ | exact (((hs).alloc _).alloc _).alloc _ | exact ((((hs).alloc _).alloc _).alloc _).alloc _ | exact (hs).drew | exact ((hs).alloc _).drew | exact (((hs).alloc _).alloc _).drew | exact ((((hs).alloc _).alloc _).alloc _).drew | exact (((((hs).alloc _).alloc _).alloc _).alloc _).drew | exact (hs).drewN _ | exact ((hs).alloc _).drewN _ | exact (((hs).alloc _).alloc _).drewN _ | exact ((((hs).alloc _).alloc _).alloc _).drewN _ | exact (((((hs).alloc _).alloc _).alloc _).alloc _).drewN _))
  have hbv : bitsB bs = true := by
    cases h : bitsB bs
    · rw [stV_bad h] at hz; exact absurd rfl hz
    · rfl
  have hl5 : bs.length ≤ 512 := by
    rcases Nat.lt_or_ge 512 bs.length with h | h
    · rw [stV_long h] at hz; exact absurd rfl hz
    · exact h
  have HU := Lib.hid (unR_st hbv hl5)
  have hun := un_st (bitsB_true.1 hbv).2 bs.length (Nat.le_refl _)
  have hlen : (stV bs).length ≤ bs.length + bs.length / 5 := by
    have := (stS_bd bs bs.length).2
    rw [stV_ok hbv hl5]; omega
  rw [← stV_ok hbv hl5] at hun
  obtain ⟨X, hX⟩ : ∃ X, stV bs = X := ⟨_, rfl⟩
  rw [hX] at hs hz hxl hun hlen HU
  have HN := Lib.hid hun
  have HL := Lib.hid hlen
  clear hX hun hbv hlen
  obtain ⟨a2, c2, rfl, -⟩ := (OwnK.rd hs.p0).form
  have hz2 : ((X.length : Int) == 0) = false := by simp only [beq_eq_false_iff_ne]; omega
  go_wp2_with fail
  clear hz2 hz
  go_loopw [5, 6] (fun o i wr => ∃ (k q : Nat) (out : List Int), k ≤ X.length ∧ i = .int .i64 k ∧ o = .int .i64 q ∧ Hid (unS X k = some (out, q)) ∧ SH none w wr [ownP .i64 3 (.slice a2 X.length c2) X, ownP .i64 3 (.slice a1 bs.length c1) bs, rdP .u8 (.slice ac c.length cc) c]) (fun _ i _ => X.length - (intOf i).toNat)
  case atStart => exact ⟨0, 0, [], Nat.zero_le _, rfl, rfl, Lib.hid rfl, hs⟩
  case round =>
    obtain ⟨k, q, out, hk, rfl, rfl, HS, hs⟩ := hrel
    by_cases hlt : k < X.length
    · obtain ⟨out2, q2, h2⟩ := un_runs HN.out (k + 1) hlt
      obtain ⟨hbit, hmul⟩ := un_step HS.out h2
      have hq2 := (unS_bd h2).1
      have hq1 := (unS_bd HS.out).1
      have H2 := Lib.hid h2
      clear h2
      obtain ⟨b, off, rfl, hc⟩ := (OwnK.rd hs.p0).at_ hlt
      obtain ⟨x, hx⟩ : ∃ x, gi X k = x := ⟨_, rfl⟩
      rw [hx] at hc hbit hmul
      clear hx
      rcases hbit with rfl | rfl
      · obtain hq3 : (q2 : Int) = 0 := by omega
        clear hmul
        go_wp2
        go_roundw
        case rel => exact ⟨k + 1, q2, out2, hlt, by go_num, intv (by omega), H2, hs⟩
        case measure => simp [intOf]; omega
      · obtain hq3 : (q2 : Int) = (q : Int) + 1 := by omega
        clear hmul
        go_wp2
        go_roundw
        case rel => exact ⟨k + 1, q2, out2, hlt, by go_num, intv (by omega), H2, hs⟩
        case measure => simp [intOf]; omega
    · go_wp2_with fail
      refine (SH.ownT hs (by repeat' (first | with_reducible exact Below.refl _ _ | with_reducible assumption | with_reducible refine below_drewN ?_ _ | with_reducible refine Below.drew ?_ | with_reducible refine Below.alloc ?_ ?_ _ | with_reducible refine Below.setCell ?_ ?_ _ | go_size)) fun hs => implUnstuffBits_c _ X _ (OwnK.rd hs.p0) (by omega)).mono ?_
      rintro e w21 ⟨v5, rfl, hs⟩
      rw [HU.out]
      rw [HU.out] at hs
      obtain ⟨a5, c5, rfl, -⟩ := (OwnK.rd hs.p0).form
      go_wp2_with fail
      refine (SH.quiet hs (by repeat' (first | with_reducible exact Below.refl _ _ | with_reducible assumption | with_reducible refine below_drewN ?_ _ | with_reducible refine Below.drew ?_ | with_reducible refine Below.alloc ?_ ?_ _ | with_reducible refine Below.setCell ?_ ?_ _ | go_size)) fun hs => sameInts_c _ _ _ _ _ (OwnK.rd hs.p0) (OwnK.rd hs.p2)).mono ?_
      rintro e w22 ⟨rfl, hs⟩
      rw [show decide (bs = bs) = true by simp]
      go_wp2
      go_ret
      exact Ret.mk1 (boolv (by have := HL.out; simp; omega)) (SH.done (by first | exact hs | exact (hs).alloc _ | exact ((hs).alloc _).alloc _ | exact (((hs).alloc _).alloc _).alloc _ | exact ((((hs).alloc _).alloc _).alloc _).alloc _ | exact (hs).drew | exact ((hs).alloc _).drew | exact (((hs).alloc _).alloc _).drew | exact ((((hs).alloc _).alloc _).alloc _).drew | exact (((((hs).alloc _).alloc _).alloc _).alloc _).drew | exact (hs).drewN _ | exact ((hs).alloc _).drewN _ | exact (((hs).alloc _).alloc _).drewN _ | exact ((((hs).alloc _).alloc _).alloc _).drewN _ | exact (((((hs).alloc _).alloc _).alloc _).alloc _).drewN _))

theorem stS_append {xs ys : List Int} : ∀ k, k ≤ xs.length → stS (xs ++ ys) k = stS xs k
  | 0, _ => rfl
  | k + 1, h => by simp only [stS, stS_append (xs := xs) (ys := ys) k (by omega), gi_append_left (show k < xs.length by omega)]
/-- what is unstuffed, stuffed again -/
theorem st_un {bs : List Int} : ∀ n out o, n ≤ bs.length → unS bs n = some (out, o) → (o < 5 → stS out out.length = (bs.take n, o)) ∧ (o = 5 → stS out out.length = (bs.take n ++ [0], 0)) ∧ ∀ i, i < out.length → gi out i = 0 ∨ gi out i = 1
  | 0, out, o, _, h => by simp [unS] at h; obtain ⟨rfl, rfl⟩ := h; simp [stS]
  | n + 1, out, o, hn, h => by
    cases hk : unS bs n with
    | none => simp [unS, hk] at h
    | some q =>
      obtain ⟨out', o'⟩ := q
      obtain ⟨i1, i2, i3⟩ := st_un n out' o' (by omega) hk
      have h5 := (unS_bd hk).1
      have bits1 : ∀ x : Int, (x = 0 ∨ x = 1) → ∀ i, i < (out' ++ [x]).length → gi (out' ++ [x]) i = 0 ∨ gi (out' ++ [x]) i = 1 := by
        intro x hx i hi
        simp only [List.length_append, List.length_cons, List.length_nil] at hi
        rcases Nat.lt_succ_iff_lt_or_eq.1 hi with h1 | rfl
        · rw [gi_append_left h1]; exact i3 i h1
        · rw [gi_append_at]; exact hx
      have tk := ext_take_succ (show n < bs.length by omega)
      have len1 : ∀ x : Int, (out' ++ [x]).length = out'.length + 1 := fun x => by simp
      by_cases e5 : o' = 5
      · subst e5
        by_cases hb : gi bs n = 0
        · rw [unS_skip hk hb] at h
          simp at h; obtain ⟨rfl, rfl⟩ := h
          refine ⟨fun _ => ?_, fun e => by omega, i3⟩
          rw [i2 rfl, tk, hb]
        · rw [unS_full hk hb] at h; cases h
      · by_cases hb : gi bs n = 0
        · rw [unS_0 hk e5 hb] at h
          simp at h; obtain ⟨rfl, rfl⟩ := h
          refine ⟨fun _ => ?_, fun e => by omega, bits1 0 (.inl rfl)⟩
          rw [len1, stS_0 gi_append_at, stS_append _ (Nat.le_refl _), i1 (by omega), tk, hb]
        · by_cases hb1 : gi bs n = 1
          · rw [unS_1 hk e5 hb1] at h
            simp at h; obtain ⟨rfl, rfl⟩ := h
            have hs := i1 (by omega)
            refine ⟨fun e => ?_, fun e => ?_, bits1 1 (.inr rfl)⟩
            · rw [len1, stS_1 gi_append_at (by rw [stS_append _ (Nat.le_refl _), hs]; exact e), stS_append _ (Nat.le_refl _), hs, tk, hb1]
            · rw [len1, stS_5 gi_append_at (by rw [stS_append _ (Nat.le_refl _), hs]; show ¬ o' + 1 < 5; omega), stS_append _ (Nat.le_refl _), hs, tk, hb1]
          · rw [unS_bad hk hb hb1] at h; cases h
theorem unR_true {bs out : List Int} (h : unR bs = (out, true)) : stV out = bs := by
  unfold unR at h
  split at h
  · next out' o hu =>
    split at h
    · cases h
    · next hc =>
      simp at h; subst h
      obtain ⟨i1, i2, i3⟩ := st_un bs.length out' o (Nat.le_refl _) hu
      have h5 := (unS_bd hu).1
      rw [stV_ok (bitsB_true.2 ⟨by omega, i3⟩) (by omega), i1 (by omega)]
      simp
  · cases h
theorem unR_false {bs out : List Int} (h : unR bs = (out, false)) : out = [] := by
  unfold unR at h
  split at h
  · split at h
    · simp at h; exact h
    · cases h
  · simp at h; exact h
/-- six ones at the end are not accepted -/
theorem un_six (bs : List Int) : unR (bs ++ [1, 1, 1, 1, 1, 1]) = ([], false) := by
  have hg : ∀ j, j < 6 → gi (bs ++ [1, 1, 1, 1, 1, 1]) (bs.length + j) = 1 := by
    intro j hj
    unfold gi
    obtain rfl | rfl | rfl | rfl | rfl | rfl : j = 0 ∨ j = 1 ∨ j = 2 ∨ j = 3 ∨ j = 4 ∨ j = 5 := by omega
    all_goals simp [List.getElem?_append_right]
  have hlen : (bs ++ [1, 1, 1, 1, 1, 1] : List Int).length = bs.length + 6 := by simp
  cases hu : unS (bs ++ [1, 1, 1, 1, 1, 1]) bs.length with
  | none => exact unR_none hu (by omega)
  | some q =>
    obtain ⟨out, o⟩ := q
    have h5 := (unS_bd hu).1
    have each : ∀ j, o + j ≤ 5 → ∃ out', unS (bs ++ [1, 1, 1, 1, 1, 1]) (bs.length + j) = some (out', o + j) := by
      intro j
      induction j with
      | zero => intro _; exact ⟨out, hu⟩
      | succ j ih =>
        intro hj
        obtain ⟨out', h'⟩ := ih (by omega)
        exact ⟨_, unS_1 h' (show o + j ≠ 5 by omega) (hg j (by omega))⟩
    obtain ⟨out', h'⟩ := each (5 - o) (by omega)
    rw [show o + (5 - o) = 5 by omega] at h'
    exact unR_none (unS_full h' (by rw [hg _ (by omega)]; decide)) (by omega)

set_option maxRecDepth 100000 in
set_option maxHeartbeats 4000000 in
theorem fnUnstuffBits_c (vc : Value) (c : List Int) (w : World) (hc : RdB w vc c) (bc : ∀ n ∈ c, (Lit.int .u8 n).wf = true) :
    Calls Try.prog 6 #[vc] w (Ret w fun v _ => v = .bool true) := by
  have hs := SH.add (p := rdP .u8 vc c) (SH.start0 w) (by simp) hc rdP_wr
  obtain ⟨ac, cc, rfl, -⟩ := hc.form
  have Bc := Lib.hid bc
  clear hc bc
  by_cases lc : c.length ≤ 1048576
  case neg =>
    go_enter Try.func6, Try.ntmps6
    go_wp2
    go_ret
    exact Ret.mk1 rfl (Below.refl _ _)
  go_enter Try.func6, Try.ntmps6
  go_wp2_with fail
  refine (DrawUnstuffBits_s _ c _ (by first | exact hs | exact (hs).allocP1 _ _ | exact ((hs).allocP1 _ _).allocP1 _ _ | exact (((hs).allocP1 _ _).allocP1 _ _).allocP1 _ _ | exact ((((hs).allocP1 _ _).allocP1 _ _).allocP1 _ _).allocP1 _ _ | exact (hs).drew | exact ((hs).allocP1 _ _).drew | exact (((hs).allocP1 _ _).allocP1 _ _).drew | exact ((((hs).allocP1 _ _).allocP1 _ _).allocP1 _ _).drew | exact (((((hs).allocP1 _ _).allocP1 _ _).allocP1 _ _).allocP1 _ _).drew | exact (hs).drewN _ | exact ((hs).allocP1 _ _).drewN _ | exact (((hs).allocP1 _ _).allocP1 _ _).drewN _ | exact ((((hs).allocP1 _ _).allocP1 _ _).allocP1 _ _).drewN _ | exact (((((hs).allocP1 _ _).allocP1 _ _).allocP1 _ _).allocP1 _ _).drewN _) Bc.out).mono ?_
  rintro e w1 ⟨v1, xs, rfl, hl, hs⟩
  obtain ⟨a1, c1, rfl, -⟩ := (OwnK.rd hs.p0).form
  go_wp2_with fail
  refine (SH.ownT hs (by repeat' (first | with_reducible exact Below.refl _ _ | with_reducible assumption | with_reducible refine below_drewN ?_ _ | with_reducible refine Below.drew ?_ | with_reducible refine Below.alloc ?_ ?_ _ | with_reducible refine Below.setCell ?_ ?_ _ | go_size)) fun hs => implUnstuffBits_c _ xs _ (OwnK.rd hs.p0) (by omega)).mono ?_
  rintro e w2 ⟨v2, rfl, hs⟩
  go_wp2_with fail
  refine (SH.ownT hs (by repeat' (first | with_reducible exact Below.refl _ _ | with_reducible assumption | with_reducible refine below_drewN ?_ _ | with_reducible refine Below.drew ?_ | with_reducible refine Below.alloc ?_ ?_ _ | with_reducible refine Below.setCell ?_ ?_ _ | go_size)) fun hs => specUnstuffBits_c _ xs _ (OwnK.rd hs.p1)).mono ?_
  rintro e w3 ⟨v3, rfl, hs⟩
  go_wp2_with fail
  refine (SH.quiet hs (by repeat' (first | with_reducible exact Below.refl _ _ | with_reducible assumption | with_reducible refine below_drewN ?_ _ | with_reducible refine Below.drew ?_ | with_reducible refine Below.alloc ?_ ?_ _ | with_reducible refine Below.setCell ?_ ?_ _ | go_size)) fun hs => sameInts_c _ _ _ _ _ (OwnK.rd hs.p1) (OwnK.rd hs.p0)).mono ?_
  rintro e w4 ⟨rfl, hs⟩
  rw [show decide ((unR xs).1 = (unR xs).1) = true by simp]
  have e1 : ((unR xs).2 != (unR xs).2) = false := bne_self_eq_false _
  have hs := hs.drop0
  obtain ⟨⟨out, ok⟩, hR⟩ : ∃ q, unR xs = q := ⟨_, rfl⟩
  have HR := Lib.hid hR
  have hol := unR_len xs
  rw [hR] at hs hol e1 ⊢
  simp only at hs hol e1 ⊢
  clear hR
  obtain ⟨a2, c2, rfl, -⟩ := (OwnK.rd hs.p0).form
  go_wp2_with (first | (at_builtin; refine wp_appKX rfl rfl .i64 3 8 Try.underlying22 info_int rfl (hs.ownEmpty .i64 _) rfl (((Below.refl _ _).alloc (Nat.le_refl _) _ |> fun hb => RdK.below (OwnK.rd hs.p1) hb)) (by simp; omega) (by unfold maxLen; simp; omega) ?_; intro v7 w7 hs) | (at_builtin; refine wp_appKX rfl rfl .i64 3 8 Try.underlying22 info_int rfl (hs.alloc _) rfl (OwnK.rd (SH.p0 (hs.ownLit .i64 3 [1, 1, 1, 1, 1, 1] (by decide)))) (by simp; omega) (by unfold maxLen; simp; omega) ?_; intro v8 w8 hs))
  rw [List.nil_append] at hs
  refine (SH.ownT hs (by repeat' (first | with_reducible exact Below.refl _ _ | with_reducible assumption | with_reducible refine below_drewN ?_ _ | with_reducible refine Below.drew ?_ | with_reducible refine Below.alloc ?_ ?_ _ | with_reducible refine Below.setCell ?_ ?_ _ | go_size)) fun hs => implUnstuffBits_c _ (xs ++ [1, 1, 1, 1, 1, 1]) _ (OwnK.rd hs.p0) (by simp; omega)).mono ?_
  rintro e w21 ⟨v9, rfl, hs⟩
  rw [un_six]
  rw [un_six] at hs
  have hs := hs.drop0.drop0
  cases ok
  · obtain rfl := unR_false HR.out
    go_wp2_with fail
    refine (SH.ret hs (by repeat' (first | with_reducible exact Below.refl _ _ | with_reducible assumption | with_reducible refine below_drewN ?_ _ | with_reducible refine Below.drew ?_ | with_reducible refine Below.alloc ?_ ?_ _ | with_reducible refine Below.setCell ?_ ?_ _ | go_size)) fun hs => alive_c _).mono ?_
    rintro e w22 ⟨v, rfl, rfl, hs⟩
    go_wp2
    go_ret
    exact Ret.mk1 rfl (SH.done (by first | exact hs | exact (hs).alloc _ | exact ((hs).alloc _).alloc _ | exact (((hs).alloc _).alloc _).alloc _ | exact ((((hs).alloc _).alloc _).alloc _).alloc _ | exact (hs).drew | exact ((hs).alloc _).drew | exact (((hs).alloc _).alloc _).drew | exact ((((hs).alloc _).alloc _).alloc _).drew | exact (((((hs).alloc _).alloc _).alloc _).alloc _).drew | exact (hs).drewN _ | exact ((hs).alloc _).drewN _ | exact (((hs).alloc _).alloc _).drewN _ | exact ((((hs).alloc _).alloc _).alloc _).drewN _ | exact (((((hs).alloc _).alloc _).alloc _).alloc _).drewN _))
  · go_wp2_with fail
    refine (SH.own hs (by repeat' (first | with_reducible exact Below.refl _ _ | with_reducible assumption | with_reducible refine below_drewN ?_ _ | with_reducible refine Below.drew ?_ | with_reducible refine Below.alloc ?_ ?_ _ | with_reducible refine Below.setCell ?_ ?_ _ | go_size)) fun hs => implStuffBits_c _ out _ (OwnK.rd hs.p0)).mono ?_
    rintro e w22 ⟨v10, rfl, hs⟩
    rw [unR_true HR.out] at hs
    go_wp2_with fail
    refine (SH.quiet hs (by repeat' (first | with_reducible exact Below.refl _ _ | with_reducible assumption | with_reducible refine below_drewN ?_ _ | with_reducible refine Below.drew ?_ | with_reducible refine Below.alloc ?_ ?_ _ | with_reducible refine Below.setCell ?_ ?_ _ | go_size)) fun hs => sameInts_c _ _ _ _ _ (OwnK.rd hs.p0) (OwnK.rd hs.p2)).mono ?_
    rintro e w23 ⟨rfl, hs⟩
    rw [show decide (xs = xs) = true by simp]
    go_wp2_with fail
    refine (SH.ret hs (by repeat' (first | with_reducible exact Below.refl _ _ | with_reducible assumption | with_reducible refine below_drewN ?_ _ | with_reducible refine Below.drew ?_ | with_reducible refine Below.alloc ?_ ?_ _ | with_reducible refine Below.setCell ?_ ?_ _ | go_size)) fun hs => alive_c _).mono ?_
    rintro e w24 ⟨v, rfl, rfl, hs⟩
    go_wp2
    go_ret
    exact Ret.mk1 rfl (SH.done (by first | exact hs | exact (hs).alloc _ | exact ((hs).alloc _).alloc _ | exact (((hs).alloc _).alloc _).alloc _ | exact ((((hs).alloc _).alloc _).alloc _).alloc _ | exact (hs).drew | exact ((hs).alloc _).drew | exact (((hs).alloc _).alloc _).drew | exact ((((hs).alloc _).alloc _).alloc _).drew | exact (((((hs).alloc _).alloc _).alloc _).alloc _).drew | exact (hs).drewN _ | exact ((hs).alloc _).drewN _ | exact (((hs).alloc _).alloc _).drewN _ | exact ((((hs).alloc _).alloc _).alloc _).drewN _ | exact (((((hs).alloc _).alloc _).alloc _).alloc _).drewN _))

end Go.Proofs.Ytjgafkoboolclaa
