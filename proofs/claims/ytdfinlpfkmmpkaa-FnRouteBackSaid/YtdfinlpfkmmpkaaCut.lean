import Derived.Test.YtdfinlpfkmmpkaaProg
import Derived.Test.YtdfinlpfkmmpkaaRouteU
import Derived.Test.YtdfinlpfkmmpkaaSS2
import Derived.Test.YtdfinlpfkmmpkaaLawLib
namespace Go.Proofs.Ytdfinlpfkmmpkaa
open Go.RowKit

/-! A table without one link; a table that is the same in both directions: plain laws. -/
theorem least_mono {t x : Nat → Nat → Int} {n to : Nat} {a b : Nat → Int} (ha : Least t n to a) (hb : Least x n to b) (h : ∀ i j, i < n → j < n → 0 < x i j → t i j = x i j) : ∀ k, k < n → 0 ≤ b k → 0 ≤ a k ∧ a k ≤ b k := by
  have key : ∀ (r k : Nat), k < n → 0 ≤ b k → rnk b n k ≤ r → 0 ≤ a k ∧ a k ≤ b k := by
    intro r
    induction r with
    | zero =>
      intro k hk h0 hr
      by_cases e : k = to
      · subst e; rw [ha.zero, hb.zero]; omega
      · obtain ⟨j, hj, h1, h2, h3⟩ := hb.sup k hk e h0
        have := rnk_lt (D := b) (i := k) hj h2 (by omega); omega
    | succ r ih =>
      intro k hk h0 hr
      by_cases e : k = to
      · subst e; rw [ha.zero, hb.zero]; omega
      · obtain ⟨j, hj, h1, h2, h3⟩ := hb.sup k hk e h0
        have h4 := rnk_lt (D := b) (i := k) hj h2 (by omega)
        have h5 := ih j hj h2 (by omega)
        have h6 := ha.tri k j hk hj (by rw [h k j hk hj h1]; exact h1) h5.1
        rw [h k j hk hj h1] at h6
        omega
  exact fun k hk h0 => key _ k hk h0 (Nat.le_refl _)
theorem least_back1 {t : Nat → Nat → Int} {n p q : Nat} {c d : Nat → Int} (hs : ∀ i j, i < n → j < n → t i j = t j i) (hc : Least t n q c) (hd : Least t n p d) (hq : q < n) (hp : p < n) (h0 : 0 ≤ c p) : 0 ≤ d q ∧ d q ≤ c p := by
  have key : ∀ (r k : Nat), k < n → 0 ≤ c k → 0 ≤ d k → rnk c n k ≤ r → 0 ≤ d q ∧ d q ≤ d k + c k := by
    intro r
    induction r with
    | zero =>
      intro k hk h0 h1 hr
      by_cases e : k = q
      · subst e; rw [hc.zero]; omega
      · obtain ⟨j, hj, h2, h3, h4⟩ := hc.sup k hk e h0
        have := rnk_lt (D := c) (i := k) hj h3 (by omega); omega
    | succ r ih =>
      intro k hk h0 h1 hr
      by_cases e : k = q
      · subst e; rw [hc.zero]; omega
      · obtain ⟨j, hj, h2, h3, h4⟩ := hc.sup k hk e h0
        have h5 := rnk_lt (D := c) (i := k) hj h3 (by omega)
        have h6 := hd.tri j k hj hk (by rw [hs j k hj hk]; exact h2) h1
        have h7 := ih j hj h3 h6.1 (by omega)
        rw [hs j k hj hk] at h6
        omega
  have := key _ p hp h0 (by rw [hd.zero]; omega) (Nat.le_refl _)
  rw [hd.zero] at this
  omega
/-- the ways back are as long -/
theorem least_back {t : Nat → Nat → Int} {n p q : Nat} {c d : Nat → Int} (hs : ∀ i j, i < n → j < n → t i j = t j i) (hc : Least t n q c) (hd : Least t n p d) (hq : q < n) (hp : p < n) : d q = c p := by
  by_cases h1 : 0 ≤ c p
  · have h2 := least_back1 hs hc hd hq hp h1
    have h3 := least_back1 hs hd hc hp hq h2.1
    omega
  · by_cases h2 : 0 ≤ d q
    · have h3 := least_back1 hs hd hc hp hq h2; omega
    · have := hc.lo p hp; have := hd.lo q hq; omega

def cutL (xss : List (List Int)) (fr to : Int) : List (List Int) := if nsB xss fr to then xss.set fr.toNat ((gl xss fr.toNat).set to.toNat 0) else []
theorem cutL_no {xss : List (List Int)} {fr to : Int} (h : nsB xss fr to = false) : cutL xss fr to = [] := by simp [cutL, h]
theorem cutL_ok {xss : List (List Int)} {f q : Nat} (h : nsB xss (f : Int) (q : Int) = true) : cutL xss (f : Int) (q : Int) = xss.set f ((gl xss f).set q 0) := by simp [cutL, h]
theorem cut_tt {xss : List (List Int)} {f q : Nat} (hf : f < xss.length) (hq : q < (gl xss f).length) (i j : Nat) : tt (xss.set f ((gl xss f).set q 0)) i j = if i = f ∧ j = q then 0 else tt xss i j := by
  unfold tt
  rw [gl_set hf]
  by_cases e : i = f
  · subst e
    rw [if_pos rfl, gi_set hq]
    by_cases e2 : j = q
    · rw [if_pos e2, if_pos ⟨rfl, e2⟩]
    · rw [if_neg e2, if_neg (fun h => e2 h.2)]
  · rw [if_neg e, if_neg (fun h => e h.1)]
theorem cut_row {xss : List (List Int)} {f q i : Nat} (hf : f < xss.length) : (gl (xss.set f ((gl xss f).set q 0)) i).length = (gl xss i).length := by
  rw [gl_set hf]
  split
  · next e => subst e; rw [List.length_set]
  · rfl
theorem cut_valid {xss : List (List Int)} {f q : Nat} (hf : f < xss.length) (hq : q < xss.length) (h : cvB xss = true) : cvB (xss.set f ((gl xss f).set q 0)) = true := by
  obtain ⟨h1, h2⟩ := cvB_true.1 h
  have hlf : (gl xss f).length = xss.length := (cvRow_true.1 (h2 f hf)).1
  refine cvB_true.2 ⟨by rw [List.length_set]; exact h1, fun i hi => ?_⟩
  rw [List.length_set] at hi
  obtain ⟨r1, r2, r3⟩ := cvRow_true.1 (h2 i hi)
  refine cvRow_true.2 ⟨by rw [cut_row hf, List.length_set]; exact r1, ?_, fun j hj => ?_⟩
  · rw [cut_tt hf (by omega)]; split
    · rfl
    · exact r2
  · rw [List.length_set] at hj
    rw [cut_tt hf (by omega)]; split
    · omega
    · exact r3 j hj

variable {row : Option Nat} {w0 w w' : World} {I : List Part}
theorem SH.snocRow {t ti : TypeId} {v o : Value} {xs : List Int} {vs : Nat → Value} {xss : List (List Int)} {n : Nat} {r : Nat → Value}
    (h : SH row w0 w (ownMP 1 t o (n + 1) (updC (oneC vs) n r) :: ownP .i64 ti v xs :: innP ti vs xss n :: I)) (hr : r 0 = v) (hx : gl xss n = xs) :
    SH row w0 w (ownMP 1 t o (n + 1) (oneC (updV vs n v)) :: innP ti (updV vs n v) xss (n + 1) :: I) := by
  have h1 := h.congrM (c' := oneC (updV vs n v)) (fun i j hi hj => by
    obtain rfl : j = 0 := by omega
    unfold updC oneC updV
    by_cases ei : i = n <;> simp [ei, hr])
  exact (h1.push2.pushInn hx).bring1

set_option maxRecDepth 100000 in
set_option maxHeartbeats 4000000 in
theorem implCutLink_s (va : Value) (vs : Nat → Value) (xss : List (List Int)) (fr to : Int) (w : World) {row : Option Nat} {w0 : World} {I : List Part} (hs : SH row w0 w (rdSSP va vs xss :: I)) :
    Calls Try.prog 25 #[va, .int .i64 fr, .int .i64 to] w (fun e w' => ∃ v ws, e = .returned v ∧ SH row w0 w' (ownMP 1 28 v (cutL xss fr to).length (oneC ws) :: innP 3 ws (cutL xss fr to) (cutL xss fr to).length :: rdSSP va vs xss :: I)) := by
  obtain ⟨a, ca, rfl, ml⟩ := (SH.p0 hs : RdSS _ _ _ _).rows.form
  cases hv : cvB xss
  · have HN := Lib.hid (cutL_no (fr := fr) (to := to) (show nsB xss fr to = false by unfold nsB lcB; rw [hv]; rfl))
    have HV := Lib.hid hv
    clear hv
    go_enter Try.func25, Try.ntmps25
    go_wp2_with fail
    refine (SH.quiet hs (by repeat' (first | with_reducible exact Below.refl _ _ | with_reducible assumption | with_reducible refine below_drewN ?_ _ | with_reducible refine Below.drew ?_ | with_reducible refine Below.alloc ?_ ?_ _ | with_reducible refine Below.setCell ?_ ?_ _ | go_size)) fun hs => implCostsValid_c _ vs xss _ hs.p0).mono ?_
    rintro e w1 ⟨rfl, hs⟩
    rw [HV.out]
    go_wp2
    go_ret
    exact ⟨_, fun _ => undef, rfl, by rw [HN.out]; exact (hs.inn0 _ _ _).ownNilM 1 _ _⟩
  have HV := Lib.hid hv
  clear hv
  go_enter Try.func25, Try.ntmps25
  go_wp2_with fail
  refine (SH.quiet hs (by repeat' (first | with_reducible exact Below.refl _ _ | with_reducible assumption | with_reducible refine below_drewN ?_ _ | with_reducible refine Below.drew ?_ | with_reducible refine Below.alloc ?_ ?_ _ | with_reducible refine Below.setCell ?_ ?_ _ | go_size)) fun hs => implCostsValid_c _ vs xss _ hs.p0).mono ?_
  rintro e w1 ⟨rfl, hs⟩
  rw [HV.out]
  go_wp2_with fail
  refine (SH.quiet hs (by repeat' (first | with_reducible exact Below.refl _ _ | with_reducible assumption | with_reducible refine below_drewN ?_ _ | with_reducible refine Below.drew ?_ | with_reducible refine Below.alloc ?_ ?_ _ | with_reducible refine Below.setCell ?_ ?_ _ | go_size)) fun hs => implStationOf_c _ vs xss _ _ hs.p0).mono ?_
  rintro e w2 ⟨rfl, hs⟩
  cases hi : inB fr 0 ((xss.length : Int) - 1)
  · have HN := Lib.hid (cutL_no (fr := fr) (to := to) (show nsB xss fr to = false by unfold nsB; rw [hi]; simp))
    clear hi
    go_wp2
    go_ret
    exact ⟨_, fun _ => undef, rfl, by rw [HN.out]; exact (hs.inn0 _ _ _).ownNilM 1 _ _⟩
  have HI := Lib.hid hi
  obtain ⟨f0, f1⟩ := inB_true.1 hi
  clear hi
  go_wp2_with fail
  refine (SH.quiet hs (by repeat' (first | with_reducible exact Below.refl _ _ | with_reducible assumption | with_reducible refine below_drewN ?_ _ | with_reducible refine Below.drew ?_ | with_reducible refine Below.alloc ?_ ?_ _ | with_reducible refine Below.setCell ?_ ?_ _ | go_size)) fun hs => implStationOf_c _ vs xss _ _ hs.p0).mono ?_
  rintro e w3 ⟨rfl, hs⟩
  cases hi : inB to 0 ((xss.length : Int) - 1)
  · have HN := Lib.hid (cutL_no (fr := fr) (to := to) (show nsB xss fr to = false by unfold nsB lcB; rw [hi]; simp))
    clear hi
    go_wp2
    go_ret
    exact ⟨_, fun _ => undef, rfl, by rw [HN.out]; exact (hs.inn0 _ _ _).ownNilM 1 _ _⟩
  have HJ := Lib.hid hi
  obtain ⟨t0, t1⟩ := inB_true.1 hi
  clear hi
  obtain ⟨q, rfl⟩ : ∃ q : Nat, to = (q : Int) := ⟨to.toNat, by omega⟩
  obtain ⟨f, rfl⟩ : ∃ f : Nat, fr = (f : Int) := ⟨fr.toNat, by omega⟩
  have hq : q < xss.length := by omega
  have hf : f < xss.length := by omega
  clear f0 f1 t0 t1
  have HN := Lib.hid (cutL_ok (show nsB xss (f : Int) (q : Int) = true by unfold nsB lcB; rw [HV.out, HI.out, HJ.out]; rfl))
  have hn10 := (cvB_true.1 HV.out).1
  have HRL : Hid (∀ i, i < xss.length → (gl xss i).length = xss.length) := Lib.hid (fun i hi => (cvRow_true.1 ((cvB_true.1 HV.out).2 i hi)).1)
  go_wp2_with (at_make; refine wp_make0M rfl rfl w3.heap.size 28 24 1 _ Try.underlying22 info_row (oneC fun _ => undef) xss.length rfl rfl rfl (by omega) (by unfold maxLen; omega) (Nat.le_refl _) ?_; intro w4 hown hg hsz)
  have hs := (((hs.pushOwnM (below_of_grown hg) hown)).inn0 3 (fun _ => undef) xss).bring1
  clear hown hg hsz
  go_loopw [7, 30] (fun o i wr => ∃ (k : Nat) (ws : Nat → Value), k ≤ xss.length ∧ i = .int .i64 k ∧ SH row w0 wr (ownMP 1 28 o k (oneC ws) :: innP 3 ws xss k :: rdSSP (.slice a xss.length ca) vs xss :: I)) (fun _ i _ => xss.length - (intOf i).toNat)
  case atStart => exact ⟨0, _, Nat.zero_le _, rfl, hs⟩
  case round =>
    clear hs
    obtain ⟨k, ws, hk, rfl, hs⟩ := hrel
    obtain ⟨ao, co, rfl, -⟩ := (OwnM.rd hs.p0).form
    by_cases hlt : k < xss.length
    · obtain ⟨b, off, ak, ck, rfl, ek, hc0, hrk⟩ := rowAt (SH.p2 hs : RdSS _ _ _ _) hlt
      have EK := Lib.hid ek
      have HRK := Lib.hid (HRL.out k hlt)
      rw [HRK.out] at hc0 ek
      have EK2 := Lib.hid ek
      clear hrk ek
      go_wp2_with (first | (at_builtin; refine wp_appKX rfl rfl .i64 3 8 Try.underlying28 info_int rfl (hs.ownEmpty .i64 3) rfl (EK2.out ▸ (SH.p3 (hs.ownEmpty .i64 3) : RdSS _ _ _ _).each k hlt) (by rw [HRK.out]; simp; omega) (by rw [HRK.out]; unfold maxLen; simp; omega) ?_; intro v5 w5 hs; obtain ⟨a5, c5, rfl, -⟩ := (OwnK.rd hs.p0).form) | (at_builtin; refine wp_app1MS rfl rfl 28 24 1 (.slice none 0 0) Try.underlying22 info_row rfl (by decide) (fun _ => .slice a5 ([] ++ gl xss k).length c5) rfl (hs.bring1.alloc _) rfl (fun j hj => by obtain rfl : j = 0 := (by omega); exact World.cell?_alloc_at _ _ _ _ rfl) (fun j hj => rfl) (by omega) (by unfold maxLen; omega) ?_; intro v6 w6 hs))
      have hs := hs.snocRow rfl (by simp)
      go_roundw
      case rel => exact ⟨k + 1, _, hlt, by go_num, hs⟩
      case measure => simp [intOf]; omega
    · obtain rfl : k = xss.length := by omega
      have hlf := HRL.out f hf
      have hrow := hs.p1.1 f hf
      obtain ⟨gR, cR, hv0⟩ : ∃ gR cR, ws f = .slice (some ⟨gR, 0, none⟩) xss.length cR := by
        obtain ⟨aR, cR, eR, -⟩ := (OwnK.rd hrow).form
        rw [eR] at hrow
        obtain ⟨gR, rfl, -, -, h1, h2⟩ := OwnK.at_ hrow (i := q) (by omega)
        exact ⟨gR, cR, by rw [eR, hlf]⟩
      rw [hv0] at hrow
      obtain ⟨gR', hge, -, -, h1, h2⟩ := OwnK.at_ hrow hq
      cases hge
      obtain ⟨gO, rfl, -, hgO, -⟩ := OwnM.at_ hs.p0 hf
      have hc1 : wr.cell? ⟨gO, f, none⟩ = some (.slice (some ⟨gR, 0, none⟩) xss.length cR) := by have := hgO 0 (by decide); rw [← hv0]; simpa [oneC] using this
      have f1 : (f : Int) < (xss.length : Int) := by omega
      have q1 : (q : Int) < (xss.length : Int) := by omega
      clear hrow hgO hlf
      have HV0 := Lib.hid hv0
      clear hv0
      go_wp2
      go_ret
      refine ⟨_, ws, rfl, ?_⟩
      rw [HN.out, List.length_set]
      exact (hs.bring1.setInn hf (Nat.le_refl _) HV0.out hq 0).bring1

theorem cut_gl {xss : List (List Int)} {f q i : Nat} (hf : f < xss.length) : gl (xss.set f ((gl xss f).set q 0)) i = if i = f then (gl xss i).set q 0 else gl xss i := by
  rw [gl_set hf]
  split
  · next e => rw [e]
  · rfl
set_option maxRecDepth 100000 in
set_option maxHeartbeats 4000000 in
theorem specCutLink_s (va : Value) (vs : Nat → Value) (xss : List (List Int)) (fr to : Int) (w : World) {row : Option Nat} {w0 : World} {I : List Part} (hs : SH row w0 w (rdSSP va vs xss :: I)) :
    Calls Try.prog 26 #[va, .int .i64 fr, .int .i64 to] w (fun e w' => ∃ v ws, e = .returned v ∧ SH row w0 w' (ownMP 1 28 v (cutL xss fr to).length (oneC ws) :: innP 3 ws (cutL xss fr to) (cutL xss fr to).length :: rdSSP va vs xss :: I)) := by
  obtain ⟨a, ca, rfl, ml⟩ := (SH.p0 hs : RdSS _ _ _ _).rows.form
  have hs := ((hs.inn0 3 (fun _ => undef) (cutL xss fr to)).ownEmptyM 1 (by decide) 28 (oneC fun _ => undef))
  cases hv : cvB xss
  · have HN := Lib.hid (cutL_no (fr := fr) (to := to) (show nsB xss fr to = false by unfold nsB lcB; rw [hv]; rfl))
    have HV := Lib.hid hv
    clear hv
    go_enter Try.func26, Try.ntmps26
    go_wp2_with fail
    refine (SH.quiet hs (by repeat' (first | with_reducible exact Below.refl _ _ | with_reducible assumption | with_reducible refine below_drewN ?_ _ | with_reducible refine Below.drew ?_ | with_reducible refine Below.alloc ?_ ?_ _ | with_reducible refine Below.setCell ?_ ?_ _ | go_size)) fun hs => specCostsValid_c _ vs xss _ hs.p2).mono ?_
    rintro e w1 ⟨rfl, hs⟩
    rw [HV.out]
    go_wp2
    go_ret
    exact ⟨_, _, rfl, by rw [HN.out] at hs ⊢; exact hs⟩
  have HV := Lib.hid hv
  clear hv
  go_enter Try.func26, Try.ntmps26
  go_wp2_with fail
  refine (SH.quiet hs (by repeat' (first | with_reducible exact Below.refl _ _ | with_reducible assumption | with_reducible refine below_drewN ?_ _ | with_reducible refine Below.drew ?_ | with_reducible refine Below.alloc ?_ ?_ _ | with_reducible refine Below.setCell ?_ ?_ _ | go_size)) fun hs => specCostsValid_c _ vs xss _ hs.p2).mono ?_
  rintro e w1 ⟨rfl, hs⟩
  rw [HV.out]
  go_wp2_with fail
  refine (l1In_x to 0 ((xss.length : Int) - 1) _).mono ?_
  rintro e w' ⟨rfl, rfl⟩
  cases hi : inB to 0 ((xss.length : Int) - 1)
  · have HN := Lib.hid (cutL_no (fr := fr) (to := to) (show nsB xss fr to = false by unfold nsB lcB; rw [hi]; simp))
    clear hi
    go_wp2
    go_ret
    exact ⟨_, _, rfl, by rw [HN.out] at hs ⊢; exact hs⟩
  have HJ := Lib.hid hi
  obtain ⟨t0, t1⟩ := inB_true.1 hi
  clear hi
  go_wp2_with fail
  refine (l1In_x fr 0 ((xss.length : Int) - 1) _).mono ?_
  rintro e w' ⟨rfl, rfl⟩
  cases hi : inB fr 0 ((xss.length : Int) - 1)
  · have HN := Lib.hid (cutL_no (fr := fr) (to := to) (show nsB xss fr to = false by unfold nsB; rw [hi]; simp))
    clear hi
    go_wp2
    go_ret
    exact ⟨_, _, rfl, by rw [HN.out] at hs ⊢; exact hs⟩
  have HI := Lib.hid hi
  obtain ⟨f0, f1⟩ := inB_true.1 hi
  clear hi
  obtain ⟨q, rfl⟩ : ∃ q : Nat, to = (q : Int) := ⟨to.toNat, by omega⟩
  obtain ⟨f, rfl⟩ : ∃ f : Nat, fr = (f : Int) := ⟨fr.toNat, by omega⟩
  have hq : q < xss.length := by omega
  have hf : f < xss.length := by omega
  clear f0 f1 t0 t1
  have hN := (cutL_ok (show nsB xss (f : Int) (q : Int) = true by unfold nsB lcB; rw [HV.out, HI.out, HJ.out]; rfl))
  have HG : Hid (∀ i, gl (cutL xss (f : Int) (q : Int)) i = if i = f then (gl xss i).set q 0 else gl xss i) := Lib.hid (fun i => by rw [hN]; exact cut_gl hf)
  have HCL : Hid ((cutL xss (f : Int) (q : Int)).length = xss.length) := Lib.hid (by rw [hN, List.length_set])
  clear hN
  obtain ⟨C, hC⟩ : ∃ C, cutL xss (f : Int) (q : Int) = C := ⟨_, rfl⟩
  rw [hC] at HG HCL hs
  have HCC := Lib.hid hC
  clear hC
  have hn10 := (cvB_true.1 HV.out).1
  have HRL : Hid (∀ i, i < xss.length → (gl xss i).length = xss.length) := Lib.hid (fun i hi => (cvRow_true.1 ((cvB_true.1 HV.out).2 i hi)).1)
  have q1 : (q : Int) < (xss.length : Int) := by omega
  go_wp2
  go_loopw [7, 8] (fun o i wr => ∃ (k : Nat) (ws : Nat → Value), k ≤ xss.length ∧ i = .int .i64 k ∧ SH row w0 wr (ownMP 1 28 o k (oneC ws) :: innP 3 ws C k :: rdSSP (.slice a xss.length ca) vs xss :: I)) (fun _ i _ => xss.length - (intOf i).toNat)
  case atStart => exact ⟨0, _, Nat.zero_le _, rfl, hs⟩
  case round =>
    clear hs
    obtain ⟨k, ws, hk, rfl, hs⟩ := hrel
    obtain ⟨ao, co, rfl, -⟩ := (OwnM.rd hs.p0).form
    by_cases hlt : k < xss.length
    · obtain ⟨b, off, ak, ck, rfl, ek, hc0, hrk⟩ := rowAt (SH.p2 hs : RdSS _ _ _ _) hlt
      have HRK := Lib.hid (HRL.out k hlt)
      rw [HRK.out] at hc0 ek
      have EK2 := Lib.hid ek
      have hc9 := cell_alloc_l (.cells #[] 3) hc0
      clear hrk ek
      by_cases hkf : k = f
      · have HG2 := Lib.hid (show gl C k = ((gl xss k).set q 0) by rw [HG.out, if_pos hkf])
        have e1 : ((k : Int) == (f : Int)) = true := by simp [hkf]
        clear hkf
        go_wp2_with (first | (at_builtin; refine wp_appKX rfl rfl .i64 3 8 Try.underlying28 info_int rfl (hs.ownEmpty .i64 3) rfl (EK2.out ▸ (SH.p3 (hs.ownEmpty .i64 3) : RdSS _ _ _ _).each k hlt) (by rw [HRK.out]; simp; omega) (by rw [HRK.out]; unfold maxLen; simp; omega) ?_; intro v5 w5 hs; rw [List.nil_append] at hs; obtain ⟨a5, c5, rfl, -⟩ := (OwnK.rd hs.p0).form; rw [HRK.out] at hs; rw [HRK.out]; obtain ⟨gR, rfl, -, -, hcR, hfR⟩ := OwnK.at_ hs.p0 hq) | (at_builtin; refine wp_app1MS rfl rfl 28 24 1 (.slice none 0 0) Try.underlying22 info_row rfl (by decide) (fun _ => .slice (some ⟨gR, 0, none⟩) xss.length c5) rfl ((hs.setOwn hq 0).bring1.alloc _) rfl (fun j hj => by obtain rfl : j = 0 := (by omega); exact World.cell?_alloc_at _ _ _ _ (by simp [World.setCell])) (fun j hj => rfl) (by omega) (by unfold maxLen; omega) ?_; intro v6 w6 hs))
        have hs := hs.snocRow rfl HG2.out
        go_roundw
        case rel => exact ⟨k + 1, _, hlt, by go_num, hs⟩
        case measure => simp [intOf]; omega
      · have HG2 := Lib.hid (show gl C k = gl xss k by rw [HG.out, if_neg hkf])
        have e1 : ((k : Int) == (f : Int)) = false := by simp; omega
        clear hkf
        go_wp2_with (first | (at_builtin; refine wp_appKX rfl rfl .i64 3 8 Try.underlying28 info_int rfl (hs.ownEmpty .i64 3) rfl (EK2.out ▸ (SH.p3 (hs.ownEmpty .i64 3) : RdSS _ _ _ _).each k hlt) (by rw [HRK.out]; simp; omega) (by rw [HRK.out]; unfold maxLen; simp; omega) ?_; intro v5 w5 hs; rw [List.nil_append] at hs; obtain ⟨a5, c5, rfl, -⟩ := (OwnK.rd hs.p0).form) | (at_builtin; refine wp_app1MS rfl rfl 28 24 1 (.slice none 0 0) Try.underlying22 info_row rfl (by decide) (fun _ => .slice a5 (gl xss k).length c5) rfl (hs.bring1.alloc _) rfl (fun j hj => by obtain rfl : j = 0 := (by omega); exact World.cell?_alloc_at _ _ _ _ rfl) (fun j hj => rfl) (by omega) (by unfold maxLen; omega) ?_; intro v6 w6 hs))
        have hs := hs.snocRow rfl HG2.out
        go_roundw
        case rel => exact ⟨k + 1, _, hlt, by go_num, hs⟩
        case measure => simp [intOf]; omega
    · obtain rfl : k = xss.length := by omega
      go_wp2
      go_ret
      exact ⟨_, ws, rfl, by rw [HCC.out, HCL.out]; exact hs⟩
end Go.Proofs.Ytdfinlpfkmmpkaa
