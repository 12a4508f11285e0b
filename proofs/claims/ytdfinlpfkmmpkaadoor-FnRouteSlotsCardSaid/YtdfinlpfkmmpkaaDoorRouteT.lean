import Derived.Test.YtdfinlpfkmmpkaaDoorProg
import Derived.Test.YtdfinlpfkmmpkaaDoorRoute
import Derived.Test.YtdfinlpfkmmpkaaDoorRouteS
import Derived.Deep.LoopGhost
namespace Go.Proofs.YtdfinlpfkmmpkaaDoor
open Go.RowKit

/-! NextStation of the reference; RouteTo. -/
theorem implLeastCosts_f (va : Value) (vs : Nat → Value) (xss : List (List Int)) (to : Int) (w : World) (h : RdSS w va vs xss) :
    Calls Tryd.prog 13 #[va, .int .i64 to] w (Ret w fun v w' => OwnI w' w.heap.size 3 v (lcV xss to)) := by
  cases hb : lcB xss to
  · refine (implLeastCosts_n va vs xss to w h hb).mono ?_
    rintro e w' hr
    rw [lcV_none hb]
    exact ⟨_, hr.1, OwnK.nil _ _ _ _, hr.below⟩
  · exact implLeastCosts_c va vs xss to w h hb

theorem lcC_rd (xss : List (List Int)) (q : Nat) {i : Nat} (hi : i < xss.length) : gi (rdL xss q xss.length) i = lcC xss q i := rdL_gi hi
set_option maxRecDepth 100000 in
set_option maxHeartbeats 4000000 in
theorem specNextStation_c (va : Value) (vs : Nat → Value) (xss : List (List Int)) (fr to : Int) (w : World) (h : RdSS w va vs xss) :
    Calls Tryd.prog 18 #[va, .int .i64 fr, .int .i64 to] w (Ret w fun v _ => v = .int .i64 (nsV xss fr to)) := by
  obtain ⟨a, ca, rfl, ml⟩ := h.rows.form
  have hs := SH.start w [rdSSP (.slice a xss.length ca) vs xss] (by simp only [List.forall_mem_cons]; exact ⟨⟨h, rdSSP_wr⟩, by simp⟩)
  clear h
  cases hv : cvB xss
  · have HN : Hid (nsV xss fr to = -1) := Lib.hid (by unfold nsV nsB lcB; rw [hv]; rfl)
    have HV := Lib.hid hv
    clear hv
    go_enter Tryd.func18, Tryd.ntmps18
    go_wp2_with fail
    refine (SH.quiet hs (by repeat' (first | with_reducible exact Below.refl _ _ | with_reducible assumption | with_reducible refine below_drewN ?_ _ | with_reducible refine Below.drew ?_ | with_reducible refine Below.alloc ?_ ?_ _ | with_reducible refine Below.setCell ?_ ?_ _ | go_size)) fun hs => specCostsValid_c _ vs xss _ hs.p0).mono ?_
    rintro e w1 ⟨rfl, hs⟩
    rw [HV.out]
    go_wp2
    go_ret
    exact Ret.mk1 (intv HN.out.symm) hs.done
  have HV := Lib.hid hv
  clear hv
  go_enter Tryd.func18, Tryd.ntmps18
  go_wp2_with fail
  refine (SH.quiet hs (by repeat' (first | with_reducible exact Below.refl _ _ | with_reducible assumption | with_reducible refine below_drewN ?_ _ | with_reducible refine Below.drew ?_ | with_reducible refine Below.alloc ?_ ?_ _ | with_reducible refine Below.setCell ?_ ?_ _ | go_size)) fun hs => specCostsValid_c _ vs xss _ hs.p0).mono ?_
  rintro e w1 ⟨rfl, hs⟩
  rw [HV.out]
  go_wp2_with fail
  refine (l1In_x to 0 ((xss.length : Int) - 1) _).mono ?_
  rintro e w' ⟨rfl, rfl⟩
  cases hi : inB to 0 ((xss.length : Int) - 1)
  · have HN : Hid (nsV xss fr to = -1) := Lib.hid (by unfold nsV nsB lcB; rw [hi]; simp)
    clear hi
    go_wp2
    go_ret
    exact Ret.mk1 (intv HN.out.symm) hs.done
  have hb : lcB xss to = true := by unfold lcB; rw [hi, HV.out]; rfl
  obtain ⟨t0, t1⟩ := inB_true.1 hi
  have HB := Lib.hid hb
  clear hi hb
  go_wp2_with fail
  refine (l1In_x fr 0 ((xss.length : Int) - 1) _).mono ?_
  rintro e w' ⟨rfl, rfl⟩
  cases hi : inB fr 0 ((xss.length : Int) - 1)
  · have HN : Hid (nsV xss fr to = -1) := Lib.hid (by unfold nsV nsB; rw [hi]; simp)
    clear hi
    go_wp2
    go_ret
    exact Ret.mk1 (intv HN.out.symm) hs.done
  have HI := Lib.hid hi
  obtain ⟨f0, f1⟩ := inB_true.1 hi
  clear hi
  obtain ⟨q, rfl⟩ : ∃ q : Nat, to = (q : Int) := ⟨to.toNat, by omega⟩
  obtain ⟨f, rfl⟩ : ∃ f : Nat, fr = (f : Int) := ⟨fr.toNat, by omega⟩
  have hq : q < xss.length := by omega
  have hf : f < xss.length := by omega
  clear f0 f1 t0 t1
  have HN : Hid (nsV xss (f : Int) (q : Int) = naV xss (lcC xss q) f) := Lib.hid (by
    unfold nsV nsB; rw [HB.out, HI.out]; rfl)
  by_cases he : f = q
  · subst he
    have HZ : Hid (nsV xss (f : Int) (f : Int) = -1) := Lib.hid (by
      rw [HN.out]; have := lcC_least HB.out; exact naV_to this)
    go_wp2
    go_ret
    exact Ret.mk1 (intv HZ.out.symm) hs.done
  have he2 : ((f : Int) == (q : Int)) = false := by simp; omega
  have HE := Lib.hid he
  clear he
  go_wp2_with fail
  refine (SH.own hs (by repeat' (first | with_reducible exact Below.refl _ _ | with_reducible assumption | with_reducible refine below_drewN ?_ _ | with_reducible refine Below.drew ?_ | with_reducible refine Below.alloc ?_ ?_ _ | with_reducible refine Below.setCell ?_ ?_ _ | go_size)) fun hs => specCosts_c _ vs xss q _ hs.p0 HV.out hq).mono ?_
  rintro e w3 ⟨v3, rfl, hs⟩
  obtain ⟨ac, cc, rfl, -⟩ := (OwnK.rd hs.p0).form
  rw [rdL_len] at hs ⊢
  obtain ⟨gc, rfl, -, -, -, -⟩ := OwnK.at_ hs.p0 hf
  have HCL : Hid (∀ i, i < xss.length → gi (rdL xss q xss.length) i = lcC xss q i) := Lib.hid (fun i hi => lcC_rd xss q hi)
  have HCB : Hid (∀ i, i < xss.length → lcC xss q i ≤ 1000) := Lib.hid (fun i hi => by have := lcC_le HB.out i hi; simpa using this)
  have HRW : Hid (∀ i, i < xss.length → (gl xss i).length = xss.length ∧ ∀ j, j < xss.length → 0 ≤ gi (gl xss i) j ∧ gi (gl xss i) j ≤ 100) := Lib.hid (fun i hi => by
    have := cvRow_true.1 ((cvB_true.1 HV.out).2 i hi)
    exact ⟨this.1, this.2.2⟩)
  go_wp2
  go_loopw [8] (fun i wr => ∃ k : Nat, k ≤ xss.length ∧ i = .int .i64 k ∧ Hid (∀ i, i < k → naB xss (lcC xss q) f i = false) ∧ SH none w wr [ownP .i64 3 (.slice (some ⟨gc, 0, none⟩) xss.length cc) (rdL xss q xss.length), rdSSP (.slice a xss.length ca) vs xss]) (fun i _ => xss.length - (intOf i).toNat)
  case atStart => exact ⟨0, Nat.zero_le _, rfl, Lib.hid (fun i h => absurd h (Nat.not_lt_zero _)), hs⟩
  case round =>
    clear hs
    obtain ⟨k, hk, rfl, HR, hs⟩ := hrel
    by_cases hlt : k < xss.length
    · obtain ⟨bt, ot, am, cm, e4, -, hc0, hrm⟩ := rowAt (SH.p1 hs : RdSS _ _ _ _) hf
      subst e4
      have hrl := (HRW.out f hf).1
      rw [hrl] at hc0 hrm
      clear hrl
      obtain ⟨br, ob, rfl, hrc⟩ := hrm.at_ hlt
      obtain ⟨g, hge, -, -, hck, -⟩ := OwnK.at_ hs.p0 hlt
      simp only [Option.some.injEq, Addr.mk.injEq, and_true] at hge
      subst hge
      obtain ⟨g, hge, -, -, hcf, -⟩ := OwnK.at_ hs.p0 hf
      simp only [Option.some.injEq, Addr.mk.injEq, and_true] at hge
      subst hge
      rw [HCL.out k hlt] at hck
      rw [HCL.out f hf] at hcf
      have k0 : (0 : Int) ≤ (k : Int) := by omega
      have k1 : (k : Int) < (xss.length : Int) := by omega
      have f0 : (0 : Int) ≤ (f : Int) := by omega
      have f1 : (f : Int) < (xss.length : Int) := by omega
      have hlk1 := ((HRW.out f hf).2 k hlt).1
      have hlk2 := ((HRW.out f hf).2 k hlt).2
      have hck1 := HCB.out k hlt
      have hnb : naB xss (lcC xss q) f k = (decide (0 < gi (gl xss f) k) && decide (0 ≤ lcC xss q k) && decide (gi (gl xss f) k + lcC xss q k = lcC xss q f)) := rfl
      obtain ⟨ck, hgk⟩ : ∃ x, lcC xss q k = x := ⟨_, rfl⟩
      obtain ⟨cf, hgf⟩ : ∃ x, lcC xss q f = x := ⟨_, rfl⟩
      obtain ⟨lk, hgl⟩ : ∃ x, gi (gl xss f) k = x := ⟨_, rfl⟩
      rw [hgl] at hrc hlk1 hlk2
      rw [hgk] at hck hck1
      rw [hgf] at hcf
      rw [hgl, hgk, hgf] at hnb
      have HX := Lib.hid hnb
      clear hnb hrm hgl
      clear hgk hgf
      by_cases q1 : 0 < lk
      · have d1 : decide (0 < lk) = true := decide_eq_true q1
        by_cases q2 : 0 ≤ ck
        · have d2 : decide (0 ≤ ck) = true := decide_eq_true q2
          by_cases q3 : lk + ck = cf
          · have d3 : (lk + ck == cf) = true := by simp [q3]
            have HT : Hid (naV xss (lcC xss q) f = (k : Int)) := Lib.hid (fstV_hit hlt (by rw [HX.out]; simp [q1, q2, q3]) HR.out)
            clear q3
            go_wp2
            go_quiet (fail)
            go_wp2
            go_ret
            exact Ret.mk1 (intv (by rw [HN.out, HT.out])) (hs.drewN _).done
          · have d3 : (lk + ck == cf) = false := by simp [q3]
            have HT : Hid (naB xss (lcC xss q) f k = false) := Lib.hid (by rw [HX.out]; simp [q3])
            clear q3
            go_wp2
            go_quiet (fail)
            go_wp2
            go_roundw
            case rel =>
              refine ⟨k + 1, hlt, by go_num, Lib.hid (fun m hm => ?_), hs.drewN _⟩
              rcases Nat.lt_succ_iff_lt_or_eq.1 hm with h1 | rfl
              · exact HR.out m h1
              · exact HT.out
            case measure => simp [intOf]; omega
        · have d2 : decide (0 ≤ ck) = false := decide_eq_false q2
          have HT : Hid (naB xss (lcC xss q) f k = false) := Lib.hid (by rw [HX.out]; simp [q2])
          go_wp2
          go_quiet (fail)
          go_wp2
          go_roundw
          case rel =>
            refine ⟨k + 1, hlt, by go_num, Lib.hid (fun m hm => ?_), hs.drewN _⟩
            rcases Nat.lt_succ_iff_lt_or_eq.1 hm with h1 | rfl
            · exact HR.out m h1
            · exact HT.out
          case measure => simp [intOf]; omega
      · have d1 : decide (0 < lk) = false := decide_eq_false q1
        have HT : Hid (naB xss (lcC xss q) f k = false) := Lib.hid (by rw [HX.out]; simp [q1])
        go_wp2
        go_quiet (fail)
        go_wp2
        go_roundw
        case rel =>
          refine ⟨k + 1, hlt, by go_num, Lib.hid (fun m hm => ?_), hs.drewN _⟩
          rcases Nat.lt_succ_iff_lt_or_eq.1 hm with h1 | rfl
          · exact HR.out m h1
          · exact HT.out
        case measure => simp [intOf]; omega
    · obtain rfl : k = xss.length := by omega
      have HT := Lib.hid (fstV_none (p := naB xss (lcC xss q) f) HR.out)
      go_wp2
      go_ret
      exact Ret.mk1 (intv (by rw [HN.out]; exact HT.out.symm)) hs.done

/-! RouteTo. -/
structure RtAt (xss : List (List Int)) (q : Nat) (R : List Int) (f s : Nat) (L : List Int) : Prop where
  pre : ∃ p, L = p ++ [(s : Int)] ∧ p ++ rtK (naV xss (lcC xss q)) q f s = R
  lo : 0 ≤ lcC xss q s
  hi : lcC xss q s ≤ (f : Int)
  n : s < xss.length
  len : L.length + f ≤ 1001
  pos : 0 < L.length
theorem RtAt.done {xss : List (List Int)} {q f : Nat} {R L : List Int} (h : RtAt xss q R f q L) : L = R := by
  obtain ⟨p, h1, h2⟩ := h.pre
  rw [rtK_to] at h2
  rw [h1, h2]
theorem RtAt.step {xss : List (List Int)} {q f s : Nat} {R L : List Int} (hD : Least (tt xss) xss.length q (lcC xss q)) (h : RtAt xss q R f s L) (hne : s ≠ q) :
    ∃ j f', f = f' + 1 ∧ naV xss (lcC xss q) s = ((j : Nat) : Int) ∧ RtAt xss q R f' j (L ++ [(j : Int)]) := by
  obtain ⟨j, hj, hjn, hb⟩ := naV_ex hD h.n hne h.lo
  obtain ⟨b1, b2, b3⟩ := naB_true.1 hb
  have hhi := h.hi
  cases f with
  | zero => omega
  | succ f =>
    refine ⟨j, f, rfl, hj, ⟨?_, b2, by omega, hjn, by have := h.len; simp; omega, by simp⟩⟩
    obtain ⟨p, h1, h2⟩ := h.pre
    refine ⟨L, rfl, ?_⟩
    rw [← h2, h1]
    simp only [rtK, if_neg hne]
    rw [hj]; simp
theorem RtAt.start {xss : List (List Int)} {q f : Nat} (hb : lcB xss (q : Int) = true) (hf : f < xss.length) (h0 : 0 ≤ lcC xss q f) (hi : lcC xss q f ≤ 1000) : RtAt xss q (rtV xss (f : Int) (q : Int)) (lcC xss q f).toNat f [(f : Int)] := by
  refine ⟨⟨[], rfl, ?_⟩, h0, by omega, hf, by simp; omega, by simp⟩
  have : rtB xss (f : Int) (q : Int) = true := rtB_true.2 ⟨nsB_true.2 ⟨hb, by omega, by omega⟩, h0⟩
  unfold rtV; rw [if_pos this]; rfl

set_option maxRecDepth 100000 in
set_option maxHeartbeats 4000000 in
theorem implRouteTo_c (va : Value) (vs : Nat → Value) (xss : List (List Int)) (fr to : Int) (w : World) (h : RdSS w va vs xss) :
    Calls Tryd.prog 5 #[va, .int .i64 fr, .int .i64 to] w (Ret w fun v w' => OwnI w' w.heap.size 3 v (rtV xss fr to)) := by
  obtain ⟨a, ca, rfl, ml⟩ := h.rows.form
  have hs := SH.start w [rdSSP (.slice a xss.length ca) vs xss] (by simp only [List.forall_mem_cons]; exact ⟨⟨h, rdSSP_wr⟩, by simp⟩)
  clear h
  cases hb : lcB xss to
  · have HN : Hid (rtV xss fr to = []) := Lib.hid (by unfold rtV rtB nsB; rw [hb]; rfl)
    have HB := Lib.hid hb
    clear hb
    have qn := fun w n c n' c' => eqNil w none n c n' c'
    go_enter Tryd.func5, Tryd.ntmps5
    go_wp2_with fail
    refine (SH.quiet hs (by repeat' (first | with_reducible exact Below.refl _ _ | with_reducible assumption | with_reducible refine below_drewN ?_ _ | with_reducible refine Below.drew ?_ | with_reducible refine Below.alloc ?_ ?_ _ | with_reducible refine Below.setCell ?_ ?_ _ | go_size)) fun hs => implLeastCosts_n _ vs xss _ _ hs.p0 HB.out).mono ?_
    rintro e w1 ⟨rfl, hs⟩
    go_wp2
    go_ret
    exact Ret.mk1 (by rw [HN.out]; exact OwnK.nil _ _ _ _) hs.done
  obtain ⟨hv, t0, t1⟩ := lcB_true.1 hb
  have HB := Lib.hid hb
  have HV := Lib.hid hv
  have HL := Lib.hid (lcV_len hb)
  have HBD := Lib.hid (lcV_bd hb)
  obtain ⟨q, rfl⟩ : ∃ q : Nat, to = (q : Int) := ⟨to.toNat, by omega⟩
  have hq : q < xss.length := by omega
  have HGI : Hid (∀ i, i < xss.length → gi (lcV xss (q : Int)) i = lcC xss q i) := Lib.hid (fun i hi => by have := lcV_gi hb hi; simpa using this)
  have HLS : Hid (Least (tt xss) xss.length q (lcC xss q)) := Lib.hid (lcC_least hb)
  have hn0 : 0 < xss.length := by omega
  clear hv hb t0 t1
  have qn := eqNil
  go_enter Tryd.func5, Tryd.ntmps5
  go_wp2_with fail
  refine (SH.own hs (by repeat' (first | with_reducible exact Below.refl _ _ | with_reducible assumption | with_reducible refine below_drewN ?_ _ | with_reducible refine Below.drew ?_ | with_reducible refine Below.alloc ?_ ?_ _ | with_reducible refine Below.setCell ?_ ?_ _ | go_size)) fun hs => implLeastCosts_c _ vs xss _ _ hs.p0 HB.out).mono ?_
  rintro e w1 ⟨v, rfl, hs⟩
  obtain ⟨ac, cc, rfl, -⟩ := (OwnK.rd hs.p0).form
  rw [HL.out] at hs ⊢
  obtain ⟨g, rfl⟩ := own_some hs.p0 hn0
  go_wp2_with fail
  refine (SH.quiet hs (by repeat' (first | with_reducible exact Below.refl _ _ | with_reducible assumption | with_reducible refine below_drewN ?_ _ | with_reducible refine Below.drew ?_ | with_reducible refine Below.alloc ?_ ?_ _ | with_reducible refine Below.setCell ?_ ?_ _ | go_size)) fun hs => implStationOf_c _ vs xss _ _ hs.p1).mono ?_
  rintro e w2 ⟨rfl, hs⟩
  cases hi : inB fr 0 ((xss.length : Int) - 1)
  · have HN : Hid (rtV xss fr (q : Int) = []) := Lib.hid (by unfold rtV rtB nsB; rw [hi]; simp)
    clear hi
    go_wp2
    go_ret
    exact Ret.mk1 (by rw [HN.out]; exact OwnK.nil _ _ _ _) hs.done
  have HI := Lib.hid hi
  obtain ⟨f0, f1⟩ := inB_true.1 hi
  clear hi
  obtain ⟨f, rfl⟩ : ∃ f : Nat, fr = (f : Int) := ⟨fr.toNat, by omega⟩
  have hf : f < xss.length := by omega
  clear f0 f1
  have f1 : (f : Int) < (xss.length : Int) := by omega
  obtain ⟨g', hge, -, -, hcf, -⟩ := OwnK.at_ hs.p0 hf
  simp only [Option.some.injEq, Addr.mk.injEq, and_true] at hge
  subst hge
  rw [HGI.out f hf] at hcf
  have hfb : lcC xss q f ≤ 1000 := by rw [← HGI.out f hf]; exact HBD.out f hf
  by_cases h0 : lcC xss q f < 0
  · have HN : Hid (rtV xss (f : Int) (q : Int) = []) := Lib.hid (by
      have : rtB xss (f : Int) (q : Int) = false := by
        cases hx : rtB xss (f : Int) (q : Int)
        · rfl
        · have := (rtB_true.1 hx).2; simp at this; omega
      unfold rtV; rw [this]; rfl)
    go_wp2
    go_ret
    exact Ret.mk1 (by rw [HN.out]; exact OwnK.nil _ _ _ _) hs.done
  have HST := Lib.hid (RtAt.start HB.out hf (Int.not_lt.1 h0) hfb)
  go_wp2
  have hs := hs.ownLit .i64 3 [(f : Int)] (by simp [maxLen])
  clear hcf
  generalize hX : w2.heap.size = X at *
  go_loopg [8, 9] (lcC xss q f).toNat (fun kx o st wr => ∃ (F s : Nat) (L : List Int), F ≤ kx ∧ st = .int .i64 s ∧ Hid (RtAt xss q (rtV xss (f : Int) (q : Int)) F s L) ∧ SH none w wr [ownP .i64 3 o L, ownP .i64 3 (.slice (some ⟨g, 0, none⟩) xss.length cc) (lcV xss (q : Int)), rdSSP (.slice a xss.length ca) vs xss])
  case atStart => exact ⟨_, f, [(f : Int)], Nat.le_refl _, rfl, HST, hs⟩
  case round =>
    clear hs
    obtain ⟨F, s, L, hF, rfl, HR, hs⟩ := hrel
    by_cases he : s = q
    · subst he
      go_wp2
      go_ret
      exact Ret.mk1 (by rw [← HR.out.done]; exact SH.ownRet hs) hs.done
    · obtain ⟨j, F', rfl, hj, hst⟩ := HR.out.step HLS.out he
      have HJ := Lib.hid hj
      have HS2 := Lib.hid hst
      have hne : ((s : Int) != (q : Int)) = true := by simp; omega
      have hlen := hst.len
      have hsn := HR.out.n
      have HNA : Hid (naV xss (gi (lcV xss (q : Int))) s = naV xss (lcC xss q) s) := Lib.hid (naV_congr HGI.out hsn)
      clear hj hst he
      go_wp2_with fail
      refine (SH.quiet hs (by repeat' (first | with_reducible exact Below.refl _ _ | with_reducible assumption | with_reducible refine below_drewN ?_ _ | with_reducible refine Below.drew ?_ | with_reducible refine Below.alloc ?_ ?_ _ | with_reducible refine Below.setCell ?_ ?_ _ | go_size)) fun hs => implNextAlong_c _ vs xss _ (lcV xss (q : Int)) s _ hs.p2 (OwnK.rd hs.p1) HL.out hsn HV.out HBD.out).mono ?_
      rintro e w3 ⟨rfl, hs⟩
      rw [HNA.out, HJ.out]
      rw [List.length_append, List.length_singleton] at hlen
      go_wp2_with (at_builtin; refine wp_app1S rfl rfl .i64 3 8 Tryd.underlying26 info_int (j : Int) rfl (hs.alloc _) rfl (World.cell?_alloc_at _ _ _ _ rfl) (by omega) (by unfold maxLen; omega) ?_; intro v9 w9 hs)
      go_roundg F'
      case measure => omega
      case rel => exact ⟨F', j, _, Nat.le_refl _, rfl, HS2, hs⟩
end Go.Proofs.YtdfinlpfkmmpkaaDoor
