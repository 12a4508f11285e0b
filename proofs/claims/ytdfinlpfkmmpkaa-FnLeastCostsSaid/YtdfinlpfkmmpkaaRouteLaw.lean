import Derived.Test.YtdfinlpfkmmpkaaProg
import Derived.Test.YtdfinlpfkmmpkaaLawLib
namespace Go.Proofs.Ytdfinlpfkmmpkaa
open Go.RowKit

set_option maxRecDepth 100000 in
set_option maxHeartbeats 8000000 in
theorem fnLeastCosts_c (vc : Value) (c : List Int) (w : World) (hc : RdB w vc c) (bc : ∀ n ∈ c, (Lit.int .u8 n).wf = true) :
    Calls Try.prog 6 #[vc] w (Ret w fun v _ => v = .bool true) := by
  have hs := SH.add (p := rdP .u8 vc c) (SH.start0 w) (by simp) hc rdP_wr
  obtain ⟨ac, cc, rfl, -⟩ := hc.form
  have Bc := Lib.hid bc
  clear hc bc
  by_cases lc : c.length ≤ 1048576
  case neg =>
    go_enter Try.func6, Try.ntmps6
    go_wp2
    go_ret
    exact Ret.mk1 rfl (Below.refl _ _)
  go_enter Try.func6, Try.ntmps6
  go_wp2_with fail
  refine (DrawLeastCosts_s _ c _ (by first | exact hs | exact (hs).allocP1 _ _ | exact ((hs).allocP1 _ _).allocP1 _ _ | exact (((hs).allocP1 _ _).allocP1 _ _).allocP1 _ _ | exact ((((hs).allocP1 _ _).allocP1 _ _).allocP1 _ _).allocP1 _ _ | exact (hs).drew | exact ((hs).allocP1 _ _).drew | exact (((hs).allocP1 _ _).allocP1 _ _).drew | exact ((((hs).allocP1 _ _).allocP1 _ _).allocP1 _ _).drew | exact (((((hs).allocP1 _ _).allocP1 _ _).allocP1 _ _).allocP1 _ _).drew | exact (hs).drewN _ | exact ((hs).allocP1 _ _).drewN _ | exact (((hs).allocP1 _ _).allocP1 _ _).drewN _ | exact ((((hs).allocP1 _ _).allocP1 _ _).allocP1 _ _).drewN _ | exact (((((hs).allocP1 _ _).allocP1 _ _).allocP1 _ _).allocP1 _ _).drewN _) Bc.out).mono ?_
  rintro e w1 ⟨v1, vs, xss, to, rfl, hR8, hs⟩
  have hs := hs.asSS
  obtain ⟨a1, c1, rfl, -⟩ := (SH.p0 hs : RdSS _ _ _ _).rows.form
  obtain ⟨r81, r82, -⟩ := hR8
  go_wp2_with fail
  refine (SH.own hs (by repeat' (first | with_reducible exact Below.refl _ _ | with_reducible assumption | with_reducible refine below_drewN ?_ _ | with_reducible refine Below.drew ?_ | with_reducible refine Below.alloc ?_ ?_ _ | with_reducible refine Below.setCell ?_ ?_ _ | go_size)) fun hs => implLeastCosts_f _ vs xss to _ hs.p0).mono ?_
  rintro e w2 ⟨v2, rfl, hs⟩
  go_wp2_with fail
  refine (SH.own hs (by repeat' (first | with_reducible exact Below.refl _ _ | with_reducible assumption | with_reducible refine below_drewN ?_ _ | with_reducible refine Below.drew ?_ | with_reducible refine Below.alloc ?_ ?_ _ | with_reducible refine Below.setCell ?_ ?_ _ | go_size)) fun hs => specLeastCosts_c _ vs xss to _ hs.p1).mono ?_
  rintro e w3 ⟨v3, rfl, hs⟩
  go_wp2_with fail
  refine (SH.quiet hs (by repeat' (first | with_reducible exact Below.refl _ _ | with_reducible assumption | with_reducible refine below_drewN ?_ _ | with_reducible refine Below.drew ?_ | with_reducible refine Below.alloc ?_ ?_ _ | with_reducible refine Below.setCell ?_ ?_ _ | go_size)) fun hs => sameInts_c _ _ _ _ _ (OwnK.rd hs.p1) (OwnK.rd hs.p0)).mono ?_
  rintro e w4 ⟨rfl, hs⟩
  rw [show decide (lcV xss to = lcV xss to) = true by simp]
  have hs := hs.drop0
  have hlen := lcV_le xss to
  cases hb : lcB xss to
  case false =>
    obtain ⟨X, hX⟩ : ∃ X, lcV xss to = X := ⟨_, rfl⟩
    have hx0 : X = [] := by rw [← hX]; exact lcV_none hb
    rw [hX] at hs
    subst hx0
    clear hX
    obtain ⟨a2, c2, rfl, -⟩ := (OwnK.rd hs.p0).form
    go_wp2_with fail
    refine (SH.ret hs (by repeat' (first | with_reducible exact Below.refl _ _ | with_reducible assumption | with_reducible refine below_drewN ?_ _ | with_reducible refine Below.drew ?_ | with_reducible refine Below.alloc ?_ ?_ _ | with_reducible refine Below.setCell ?_ ?_ _ | go_size)) fun hs => alive_c _).mono ?_
    rintro e w5 ⟨v, rfl, rfl, hs⟩
    go_wp2
    go_ret
    exact Ret.mk1 rfl (SH.done (by first | exact hs | exact (hs).alloc _ | exact ((hs).alloc _).alloc _ | exact (((hs).alloc _).alloc _).alloc _ | exact ((((hs).alloc _).alloc _).alloc _).alloc _ | exact (hs).drew | exact ((hs).alloc _).drew | exact (((hs).alloc _).alloc _).drew | exact ((((hs).alloc _).alloc _).alloc _).drew | exact (((((hs).alloc _).alloc _).alloc _).alloc _).drew | exact (hs).drewN _ | exact ((hs).alloc _).drewN _ | exact (((hs).alloc _).alloc _).drewN _ | exact ((((hs).alloc _).alloc _).alloc _).drewN _ | exact (((((hs).alloc _).alloc _).alloc _).alloc _).drewN _))
  obtain ⟨hv, t0, t1⟩ := lcB_true.1 hb
  have HRW : Hid (∀ i, i < xss.length → (gl xss i).length = xss.length ∧ ∀ j, j < xss.length → 0 ≤ gi (gl xss i) j ∧ gi (gl xss i) j ≤ 100) := Lib.hid (fun i hi => by
    have := cvRow_true.1 ((cvB_true.1 hv).2 i hi)
    exact ⟨this.1, this.2.2⟩)
  obtain ⟨q, rfl⟩ : ∃ q : Nat, to = (q : Int) := ⟨to.toNat, by omega⟩
  have hq : q < xss.length := by omega
  have HLS : Hid (Least (tt xss) xss.length q (gi (lcV xss (q : Int)))) := Lib.hid (by have := lcV_least hb; simpa using this)
  have HXB := Lib.hid (lcV_bd hb)
  have HXL := Lib.hid (lcV_len hb)
  clear hb hv t0 t1 hlen
  generalize lcV xss (q : Int) = X at *
  obtain ⟨a2, c2, rfl, -⟩ := (OwnK.rd hs.p0).form
  rw [HXL.out] at hs ⊢
  obtain ⟨gx, rfl⟩ := own_some hs.p0 (show 0 < xss.length by omega)
  have hz2 : ((xss.length : Int) == 0) = false := by simp only [beq_eq_false_iff_ne]; omega
  go_wp2
  clear hz2
  go_loopw [6] (fun i wr => ∃ k : Nat, k ≤ xss.length ∧ i = .int .i64 k ∧ SH none w wr [ownP .i64 3 (.slice (some ⟨gx, 0, none⟩) xss.length c2) X, rdSSP (.slice a1 xss.length c1) vs xss, rdP .u8 (.slice ac c.length cc) c]) (fun i _ => xss.length - (intOf i).toNat)
  case atStart => exact ⟨0, Nat.zero_le _, rfl, hs⟩
  case round =>
    clear hs
    obtain ⟨k, hk, rfl, hs⟩ := hrel
    by_cases hlt : k < xss.length
    · have hM : ∃ b : Bool, ((k : Int) == (q : Int) || decide (gi X k < 0)) = b ∧ (b = true ∨ (k ≠ q ∧ 0 ≤ gi X k)) := by
        refine ⟨_, rfl, ?_⟩
        by_cases e1 : k = q
        · left; simp [e1]
        · by_cases e2 : gi X k < 0
          · left; simp [e2]
          · right; exact ⟨e1, by omega⟩
      have hck := own_cell hs.p0 hlt
      have k1 : (k : Int) < (xss.length : Int) := by omega
      have hstart : ∃ (b : Bool), Hid (b = true ∨ (k ≠ q ∧ 0 ≤ gi X k)) ∧ Hid (b = ((k : Int) == (q : Int) || decide (gi X k < 0))) := by obtain ⟨b, h1, h2⟩ := hM; exact ⟨b, Lib.hid h2, Lib.hid h1.symm⟩
      clear hM
      obtain ⟨b, HB1, HB2⟩ := hstart
      clear HB1 HB2 b
      by_cases e1 : k = q
      · have e2 : ((k : Int) == (q : Int)) = true := by simp [e1]
        have HE1 := Lib.hid e1
        clear e1
        go_wp2
        go_loopw [7, 8] (fun mt i wr => ∃ (j : Nat) (b : Bool), j ≤ xss.length ∧ i = .int .i64 j ∧ mt = .bool b ∧ Hid (b = true ∨ (k ≠ q ∧ 0 ≤ gi X k ∧ ∀ m, m < j → ¬ (0 < tt xss k m ∧ 0 ≤ gi X m ∧ gi X k = tt xss k m + gi X m))) ∧ SH none w wr [ownP .i64 3 (.slice (some ⟨gx, 0, none⟩) xss.length c2) X, rdSSP (.slice a1 xss.length c1) vs xss, rdP .u8 (.slice ac c.length cc) c]) (fun _ i _ => xss.length - (intOf i).toNat)
        case atStart => exact ⟨0, _, Nat.zero_le _, rfl, rfl, Lib.hid (.inl rfl), hs⟩
        case round =>
          clear hs
          obtain ⟨j, b, hj, rfl, rfl, HB, hs⟩ := hrel
          by_cases hjl : j < xss.length
          · obtain ⟨bt, ot, am, cm, e4, -, hc0, hrm⟩ := rowAt (SH.p1 hs : RdSS _ _ _ _) hlt
            subst e4
            have hrl := (HRW.out k hlt).1
            rw [hrl] at hc0 hrm
            clear hrl
            obtain ⟨br, ob, rfl, hrc⟩ := hrm.at_ hjl
            have hck := own_cell hs.p0 hlt
            have hcj := own_cell hs.p0 hjl
            have hl0 := ((HRW.out k hlt).2 j hjl).1
            have hl1 := ((HRW.out k hlt).2 j hjl).2
            have hxj := HXB.out j hjl
            have HTT : Hid (tt xss k j = gi (gl xss k) j) := Lib.hid rfl
            have HTRI : Hid (0 < gi (gl xss k) j → 0 ≤ gi X j → 0 ≤ gi X k ∧ gi X k ≤ gi (gl xss k) j + gi X j) := Lib.hid (fun h1 h2 => HLS.out.tri k j hlt hjl h1 h2)
            have HNX : Hid (∀ b2 : Bool, (b2 = true ∨ (b = false ∧ b2 = false ∧ ¬ (0 < gi (gl xss k) j ∧ 0 ≤ gi X j ∧ gi X k = gi (gl xss k) j + gi X j))) → (b2 = true ∨ (k ≠ q ∧ 0 ≤ gi X k ∧ ∀ m, m < j + 1 → ¬ (0 < tt xss k m ∧ 0 ≤ gi X m ∧ gi X k = tt xss k m + gi X m)))) := Lib.hid (fun b2 h => by
              rcases h with h | ⟨h1, h2, h3⟩
              · exact .inl h
              · right
                rcases HB.out with h4 | ⟨h4, h5, h6⟩
                · rw [h1] at h4; cases h4
                · refine ⟨h4, h5, fun m hm => ?_⟩
                  rcases Nat.lt_succ_iff_lt_or_eq.1 hm with h7 | rfl
                  · exact h6 m h7
                  · exact h3)
            obtain ⟨tv, htv⟩ : ∃ x, gi (gl xss k) j = x := ⟨_, rfl⟩
            obtain ⟨cj, hcjv⟩ : ∃ x, gi X j = x := ⟨_, rfl⟩
            obtain ⟨ck, hckv⟩ : ∃ x, gi X k = x := ⟨_, rfl⟩
            rw [htv] at hrc hl0 hl1
            rw [hcjv] at hcj hxj
            rw [hckv] at hck
            rw [htv, hcjv] at HTRI
            rw [hckv] at HTRI
            have HNX2 : Hid (∀ b2 : Bool, (b2 = true ∨ (b = false ∧ b2 = false ∧ ¬ (0 < tv ∧ 0 ≤ cj ∧ ck = tv + cj))) → (b2 = true ∨ (k ≠ q ∧ 0 ≤ gi X k ∧ ∀ m, m < j + 1 → ¬ (0 < tt xss k m ∧ 0 ≤ gi X m ∧ gi X k = tt xss k m + gi X m)))) := Lib.hid (fun b2 h => HNX.out b2 (by rw [htv, hcjv, hckv]; exact h))
            clear hrm HNX htv hcjv hckv HTT
            have j1 : (j : Int) < (xss.length : Int) := by omega
            have k1 : (k : Int) < (xss.length : Int) := by omega
            have j0 : (0 : Int) ≤ (j : Int) := by omega
            have k0 : (0 : Int) ≤ (k : Int) := by omega
            by_cases q1 : tv = 0
            · have HQ1 := Lib.hid q1
              have e1 : (tv == 0) = true := by simp [q1]
              clear q1
              go_wp2
              go_roundw
              case rel => exact ⟨j + 1, _, hjl, by go_num, rfl, Lib.hid (HNX2.out b (by have := HQ1.out; cases hbb : b; { right; exact ⟨rfl, rfl, by omega⟩ }; { left; rfl })), hs⟩
              case measure => simp [intOf]; omega
            · have e1 : (tv == 0) = false := by simp [q1]
              have q1p : 0 < tv := by omega
              by_cases q2 : cj < 0
              · go_wp2
                go_roundw
                case rel => exact ⟨j + 1, _, hjl, by go_num, rfl, Lib.hid (HNX2.out b (by cases hbb : b; { right; exact ⟨rfl, rfl, by omega⟩ }; { left; rfl })), hs⟩
                case measure => simp [intOf]; omega
              · obtain ⟨q3, q4⟩ := HTRI.out q1p (by omega)
                have q5 : ¬ ck < 0 := by omega
                have q6 : ¬ (tv + cj < ck) := by omega
                go_wp2
                go_quiet (fail)
                have hs := hs.drewN nq
                have hck : (wr.drewN nq).cell? ⟨gx, k, none⟩ = _ := hck
                generalize wr.drewN nq = W at *
                cases b
                · by_cases q7 : ck = tv + cj
                  · have e7 : (ck == tv + cj) = true := by simp [q7]
                    have HQ7 := Lib.hid q7
                    clear q7
                    go_wp2
                    go_roundw
                    case rel => exact ⟨j + 1, _, hjl, by go_num, rfl, Lib.hid (HNX2.out true (.inl rfl)), hs⟩
                    case measure => simp [intOf]; omega
                  · have e7 : (ck == tv + cj) = false := by simp [q7]
                    go_wp2
                    go_roundw
                    case rel => exact ⟨j + 1, _, hjl, by go_num, rfl, Lib.hid (HNX2.out false (.inr ⟨rfl, rfl, by omega⟩)), hs⟩
                    case measure => simp [intOf]; omega
                · go_wp2
                  go_roundw
                  case rel => exact ⟨j + 1, _, hjl, by go_num, rfl, Lib.hid (HNX2.out true (.inl rfl)), hs⟩
                  case measure => simp [intOf]; omega
          · obtain rfl : j = xss.length := by omega
            have hbt : b = true := by
              rcases HB.out with h | ⟨h1, h2, h3⟩
              · exact h
              · exfalso
                obtain ⟨m, hm, h4, h5, h6⟩ := HLS.out.sup k hlt h1 h2
                exact h3 m hm ⟨h4, h5, h6⟩
            subst hbt
            go_wp2
            go_roundw
            case rel => exact ⟨k + 1, hlt, by go_num, hs⟩
            case measure => simp [intOf]; omega
      · have e2 : ((k : Int) == (q : Int)) = false := by simp; omega
        have HE1 := Lib.hid e1
        clear e1
        by_cases e3 : gi X k < 0
        · go_wp2
          go_loopw [7, 8] (fun mt i wr => ∃ (j : Nat) (b : Bool), j ≤ xss.length ∧ i = .int .i64 j ∧ mt = .bool b ∧ Hid (b = true ∨ (k ≠ q ∧ 0 ≤ gi X k ∧ ∀ m, m < j → ¬ (0 < tt xss k m ∧ 0 ≤ gi X m ∧ gi X k = tt xss k m + gi X m))) ∧ SH none w wr [ownP .i64 3 (.slice (some ⟨gx, 0, none⟩) xss.length c2) X, rdSSP (.slice a1 xss.length c1) vs xss, rdP .u8 (.slice ac c.length cc) c]) (fun _ i _ => xss.length - (intOf i).toNat)
          case atStart => exact ⟨0, _, Nat.zero_le _, rfl, rfl, Lib.hid (.inl rfl), hs⟩
          case round =>
            clear hs
            obtain ⟨j, b, hj, rfl, rfl, HB, hs⟩ := hrel
            by_cases hjl : j < xss.length
            · obtain ⟨bt, ot, am, cm, e4, -, hc0, hrm⟩ := rowAt (SH.p1 hs : RdSS _ _ _ _) hlt
              subst e4
              have hrl := (HRW.out k hlt).1
              rw [hrl] at hc0 hrm
              clear hrl
              obtain ⟨br, ob, rfl, hrc⟩ := hrm.at_ hjl
              have hck := own_cell hs.p0 hlt
              have hcj := own_cell hs.p0 hjl
              have hl0 := ((HRW.out k hlt).2 j hjl).1
              have hl1 := ((HRW.out k hlt).2 j hjl).2
              have hxj := HXB.out j hjl
              have HTT : Hid (tt xss k j = gi (gl xss k) j) := Lib.hid rfl
              have HTRI : Hid (0 < gi (gl xss k) j → 0 ≤ gi X j → 0 ≤ gi X k ∧ gi X k ≤ gi (gl xss k) j + gi X j) := Lib.hid (fun h1 h2 => HLS.out.tri k j hlt hjl h1 h2)
              have HNX : Hid (∀ b2 : Bool, (b2 = true ∨ (b = false ∧ b2 = false ∧ ¬ (0 < gi (gl xss k) j ∧ 0 ≤ gi X j ∧ gi X k = gi (gl xss k) j + gi X j))) → (b2 = true ∨ (k ≠ q ∧ 0 ≤ gi X k ∧ ∀ m, m < j + 1 → ¬ (0 < tt xss k m ∧ 0 ≤ gi X m ∧ gi X k = tt xss k m + gi X m)))) := Lib.hid (fun b2 h => by
                rcases h with h | ⟨h1, h2, h3⟩
                · exact .inl h
                · right
                  rcases HB.out with h4 | ⟨h4, h5, h6⟩
                  · rw [h1] at h4; cases h4
                  · refine ⟨h4, h5, fun m hm => ?_⟩
                    rcases Nat.lt_succ_iff_lt_or_eq.1 hm with h7 | rfl
                    · exact h6 m h7
                    · exact h3)
              obtain ⟨tv, htv⟩ : ∃ x, gi (gl xss k) j = x := ⟨_, rfl⟩
              obtain ⟨cj, hcjv⟩ : ∃ x, gi X j = x := ⟨_, rfl⟩
              obtain ⟨ck, hckv⟩ : ∃ x, gi X k = x := ⟨_, rfl⟩
              rw [htv] at hrc hl0 hl1
              rw [hcjv] at hcj hxj
              rw [hckv] at hck
              rw [htv, hcjv] at HTRI
              rw [hckv] at HTRI
              have HNX2 : Hid (∀ b2 : Bool, (b2 = true ∨ (b = false ∧ b2 = false ∧ ¬ (0 < tv ∧ 0 ≤ cj ∧ ck = tv + cj))) → (b2 = true ∨ (k ≠ q ∧ 0 ≤ gi X k ∧ ∀ m, m < j + 1 → ¬ (0 < tt xss k m ∧ 0 ≤ gi X m ∧ gi X k = tt xss k m + gi X m)))) := Lib.hid (fun b2 h => HNX.out b2 (by rw [htv, hcjv, hckv]; exact h))
              clear hrm HNX htv hcjv hckv HTT
              have j1 : (j : Int) < (xss.length : Int) := by omega
              have k1 : (k : Int) < (xss.length : Int) := by omega
              have j0 : (0 : Int) ≤ (j : Int) := by omega
              have k0 : (0 : Int) ≤ (k : Int) := by omega
              by_cases q1 : tv = 0
              · have HQ1 := Lib.hid q1
                have e1 : (tv == 0) = true := by simp [q1]
                clear q1
                go_wp2
                go_roundw
                case rel => exact ⟨j + 1, _, hjl, by go_num, rfl, Lib.hid (HNX2.out b (by have := HQ1.out; cases hbb : b; { right; exact ⟨rfl, rfl, by omega⟩ }; { left; rfl })), hs⟩
                case measure => simp [intOf]; omega
              · have e1 : (tv == 0) = false := by simp [q1]
                have q1p : 0 < tv := by omega
                by_cases q2 : cj < 0
                · go_wp2
                  go_roundw
                  case rel => exact ⟨j + 1, _, hjl, by go_num, rfl, Lib.hid (HNX2.out b (by cases hbb : b; { right; exact ⟨rfl, rfl, by omega⟩ }; { left; rfl })), hs⟩
                  case measure => simp [intOf]; omega
                · obtain ⟨q3, q4⟩ := HTRI.out q1p (by omega)
                  have q5 : ¬ ck < 0 := by omega
                  have q6 : ¬ (tv + cj < ck) := by omega
                  go_wp2
                  go_quiet (fail)
                  have hs := hs.drewN nq
                  have hck : (wr.drewN nq).cell? ⟨gx, k, none⟩ = _ := hck
                  generalize wr.drewN nq = W at *
                  cases b
                  · by_cases q7 : ck = tv + cj
                    · have e7 : (ck == tv + cj) = true := by simp [q7]
                      have HQ7 := Lib.hid q7
                      clear q7
                      go_wp2
                      go_roundw
                      case rel => exact ⟨j + 1, _, hjl, by go_num, rfl, Lib.hid (HNX2.out true (.inl rfl)), hs⟩
                      case measure => simp [intOf]; omega
                    · have e7 : (ck == tv + cj) = false := by simp [q7]
                      go_wp2
                      go_roundw
                      case rel => exact ⟨j + 1, _, hjl, by go_num, rfl, Lib.hid (HNX2.out false (.inr ⟨rfl, rfl, by omega⟩)), hs⟩
                      case measure => simp [intOf]; omega
                  · go_wp2
                    go_roundw
                    case rel => exact ⟨j + 1, _, hjl, by go_num, rfl, Lib.hid (HNX2.out true (.inl rfl)), hs⟩
                    case measure => simp [intOf]; omega
            · obtain rfl : j = xss.length := by omega
              have hbt : b = true := by
                rcases HB.out with h | ⟨h1, h2, h3⟩
                · exact h
                · exfalso
                  obtain ⟨m, hm, h4, h5, h6⟩ := HLS.out.sup k hlt h1 h2
                  exact h3 m hm ⟨h4, h5, h6⟩
              subst hbt
              go_wp2
              go_roundw
              case rel => exact ⟨k + 1, hlt, by go_num, hs⟩
              case measure => simp [intOf]; omega
        · have HE3 := Lib.hid (Int.not_lt.1 e3)
          go_wp2
          go_loopw [7, 8] (fun mt i wr => ∃ (j : Nat) (b : Bool), j ≤ xss.length ∧ i = .int .i64 j ∧ mt = .bool b ∧ Hid (b = true ∨ (k ≠ q ∧ 0 ≤ gi X k ∧ ∀ m, m < j → ¬ (0 < tt xss k m ∧ 0 ≤ gi X m ∧ gi X k = tt xss k m + gi X m))) ∧ SH none w wr [ownP .i64 3 (.slice (some ⟨gx, 0, none⟩) xss.length c2) X, rdSSP (.slice a1 xss.length c1) vs xss, rdP .u8 (.slice ac c.length cc) c]) (fun _ i _ => xss.length - (intOf i).toNat)
          case atStart => exact ⟨0, _, Nat.zero_le _, rfl, rfl, Lib.hid (.inr ⟨HE1.out, HE3.out, fun m hm => absurd hm (Nat.not_lt_zero _)⟩), hs⟩
          case round =>
            clear hs
            obtain ⟨j, b, hj, rfl, rfl, HB, hs⟩ := hrel
            by_cases hjl : j < xss.length
            · obtain ⟨bt, ot, am, cm, e4, -, hc0, hrm⟩ := rowAt (SH.p1 hs : RdSS _ _ _ _) hlt
              subst e4
              have hrl := (HRW.out k hlt).1
              rw [hrl] at hc0 hrm
              clear hrl
              obtain ⟨br, ob, rfl, hrc⟩ := hrm.at_ hjl
              have hck := own_cell hs.p0 hlt
              have hcj := own_cell hs.p0 hjl
              have hl0 := ((HRW.out k hlt).2 j hjl).1
              have hl1 := ((HRW.out k hlt).2 j hjl).2
              have hxj := HXB.out j hjl
              have HTT : Hid (tt xss k j = gi (gl xss k) j) := Lib.hid rfl
              have HTRI : Hid (0 < gi (gl xss k) j → 0 ≤ gi X j → 0 ≤ gi X k ∧ gi X k ≤ gi (gl xss k) j + gi X j) := Lib.hid (fun h1 h2 => HLS.out.tri k j hlt hjl h1 h2)
              have HNX : Hid (∀ b2 : Bool, (b2 = true ∨ (b = false ∧ b2 = false ∧ ¬ (0 < gi (gl xss k) j ∧ 0 ≤ gi X j ∧ gi X k = gi (gl xss k) j + gi X j))) → (b2 = true ∨ (k ≠ q ∧ 0 ≤ gi X k ∧ ∀ m, m < j + 1 → ¬ (0 < tt xss k m ∧ 0 ≤ gi X m ∧ gi X k = tt xss k m + gi X m)))) := Lib.hid (fun b2 h => by
                rcases h with h | ⟨h1, h2, h3⟩
                · exact .inl h
                · right
                  rcases HB.out with h4 | ⟨h4, h5, h6⟩
                  · rw [h1] at h4; cases h4
                  · refine ⟨h4, h5, fun m hm => ?_⟩
                    rcases Nat.lt_succ_iff_lt_or_eq.1 hm with h7 | rfl
                    · exact h6 m h7
                    · exact h3)
              obtain ⟨tv, htv⟩ : ∃ x, gi (gl xss k) j = x := ⟨_, rfl⟩
              obtain ⟨cj, hcjv⟩ : ∃ x, gi X j = x := ⟨_, rfl⟩
              obtain ⟨ck, hckv⟩ : ∃ x, gi X k = x := ⟨_, rfl⟩
              rw [htv] at hrc hl0 hl1
              rw [hcjv] at hcj hxj
              rw [hckv] at hck
              rw [htv, hcjv] at HTRI
              rw [hckv] at HTRI
              have HNX2 : Hid (∀ b2 : Bool, (b2 = true ∨ (b = false ∧ b2 = false ∧ ¬ (0 < tv ∧ 0 ≤ cj ∧ ck = tv + cj))) → (b2 = true ∨ (k ≠ q ∧ 0 ≤ gi X k ∧ ∀ m, m < j + 1 → ¬ (0 < tt xss k m ∧ 0 ≤ gi X m ∧ gi X k = tt xss k m + gi X m)))) := Lib.hid (fun b2 h => HNX.out b2 (by rw [htv, hcjv, hckv]; exact h))
              clear hrm HNX htv hcjv hckv HTT
              have j1 : (j : Int) < (xss.length : Int) := by omega
              have k1 : (k : Int) < (xss.length : Int) := by omega
              have j0 : (0 : Int) ≤ (j : Int) := by omega
              have k0 : (0 : Int) ≤ (k : Int) := by omega
              by_cases q1 : tv = 0
              · have HQ1 := Lib.hid q1
                have e1 : (tv == 0) = true := by simp [q1]
                clear q1
                go_wp2
                go_roundw
                case rel => exact ⟨j + 1, _, hjl, by go_num, rfl, Lib.hid (HNX2.out b (by have := HQ1.out; cases hbb : b; { right; exact ⟨rfl, rfl, by omega⟩ }; { left; rfl })), hs⟩
                case measure => simp [intOf]; omega
              · have e1 : (tv == 0) = false := by simp [q1]
                have q1p : 0 < tv := by omega
                by_cases q2 : cj < 0
                · go_wp2
                  go_roundw
                  case rel => exact ⟨j + 1, _, hjl, by go_num, rfl, Lib.hid (HNX2.out b (by cases hbb : b; { right; exact ⟨rfl, rfl, by omega⟩ }; { left; rfl })), hs⟩
                  case measure => simp [intOf]; omega
                · obtain ⟨q3, q4⟩ := HTRI.out q1p (by omega)
                  have q5 : ¬ ck < 0 := by omega
                  have q6 : ¬ (tv + cj < ck) := by omega
                  go_wp2
                  go_quiet (fail)
                  have hs := hs.drewN nq
                  have hck : (wr.drewN nq).cell? ⟨gx, k, none⟩ = _ := hck
                  generalize wr.drewN nq = W at *
                  cases b
                  · by_cases q7 : ck = tv + cj
                    · have e7 : (ck == tv + cj) = true := by simp [q7]
                      have HQ7 := Lib.hid q7
                      clear q7
                      go_wp2
                      go_roundw
                      case rel => exact ⟨j + 1, _, hjl, by go_num, rfl, Lib.hid (HNX2.out true (.inl rfl)), hs⟩
                      case measure => simp [intOf]; omega
                    · have e7 : (ck == tv + cj) = false := by simp [q7]
                      go_wp2
                      go_roundw
                      case rel => exact ⟨j + 1, _, hjl, by go_num, rfl, Lib.hid (HNX2.out false (.inr ⟨rfl, rfl, by omega⟩)), hs⟩
                      case measure => simp [intOf]; omega
                  · go_wp2
                    go_roundw
                    case rel => exact ⟨j + 1, _, hjl, by go_num, rfl, Lib.hid (HNX2.out true (.inl rfl)), hs⟩
                    case measure => simp [intOf]; omega
            · obtain rfl : j = xss.length := by omega
              have hbt : b = true := by
                rcases HB.out with h | ⟨h1, h2, h3⟩
                · exact h
                · exfalso
                  obtain ⟨m, hm, h4, h5, h6⟩ := HLS.out.sup k hlt h1 h2
                  exact h3 m hm ⟨h4, h5, h6⟩
              subst hbt
              go_wp2
              go_roundw
              case rel => exact ⟨k + 1, hlt, by go_num, hs⟩
              case measure => simp [intOf]; omega
    · obtain rfl : k = xss.length := by omega
      have hcq := own_cell hs.p0 hq
      rw [HLS.out.zero] at hcq
      have q1 : (q : Int) < (xss.length : Int) := by omega
      go_wp2
      go_ret
      exact Ret.mk1 rfl (SH.done (by first | exact hs | exact (hs).alloc _ | exact ((hs).alloc _).alloc _ | exact (((hs).alloc _).alloc _).alloc _ | exact ((((hs).alloc _).alloc _).alloc _).alloc _ | exact (hs).drew | exact ((hs).alloc _).drew | exact (((hs).alloc _).alloc _).drew | exact ((((hs).alloc _).alloc _).alloc _).drew | exact (((((hs).alloc _).alloc _).alloc _).alloc _).drew | exact (hs).drewN _ | exact ((hs).alloc _).drewN _ | exact (((hs).alloc _).alloc _).drewN _ | exact ((((hs).alloc _).alloc _).alloc _).drewN _ | exact (((((hs).alloc _).alloc _).alloc _).alloc _).drewN _))
end Go.Proofs.Ytdfinlpfkmmpkaa
