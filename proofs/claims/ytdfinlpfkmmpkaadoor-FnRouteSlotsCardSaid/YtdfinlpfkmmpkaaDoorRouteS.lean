import Derived.Test.YtdfinlpfkmmpkaaDoorProg
import Derived.Test.YtdfinlpfkmmpkaaDoorCostsV
import Derived.Test.YtdfinlpfkmmpkaaDoorApp
import Derived.BigRegion
import Derived.RegionTactic
namespace Go.Proofs.YtdfinlpfkmmpkaaDoor
open Go.RowKit

/-! The reference's rounds. -/
def stL (xss : List (List Int)) (c : Nat → Int) : List Int := (List.range xss.length).map fun i => stJ (tt xss) c i xss.length
theorem stJ_hi {t : Nat → Nat → Int} {n : Nat} {c : Nat → Int} {B : Int} (hB : 0 ≤ B) (hc : ∀ m, m < n → c m ≤ B) {i : Nat} (hi : i < n) (ht : ∀ j, j < n → t i j ≤ 100) : ∀ j, j ≤ n → stJ t c i j ≤ B + 100
  | 0, _ => by have := hc i hi; simp only [stJ]; omega
  | j + 1, hj => by
    have ih := stJ_hi hB hc hi ht j (by omega)
    have h1 := hc j (by omega)
    have h2 := ht j (by omega)
    simp only [stJ]; split <;> omega
theorem rdC_hi {t : Nat → Nat → Int} {n to : Nat} (ht : ∀ i j, i < n → j < n → t i j ≤ 100) : ∀ k i, i < n → rdC t n to k i ≤ 100 * (k : Int)
  | 0, i, _ => by simp only [rdC]; split <;> omega
  | k + 1, i, hi => by
    have := stJ_hi (t := t) (c := rdC t n to k) (B := 100 * (k : Int)) (by omega) (fun m hm => rdC_hi ht k m hm) hi (fun j hj => ht i j hi hj) n (Nat.le_refl _)
    simp only [rdC]; omega
/-- the list behind k rows and j columns of row k -/
def StAt (xss : List (List Int)) (c : Nat → Int) (k j : Nat) (os : List Int) : Prop := os.length = xss.length ∧ ∀ m, m < xss.length → gi os m = if m < k then stJ (tt xss) c m xss.length else if m = k then stJ (tt xss) c k j else c m
theorem StAt.start {xss : List (List Int)} {cs : List Int} (h : cs.length = xss.length) : StAt xss (gi cs) 0 0 cs := ⟨h, fun m _ => by
  rw [if_neg (Nat.not_lt_zero _)]
  split
  · next e => subst e; rfl
  · rfl⟩
theorem StAt.row {xss : List (List Int)} {c : Nat → Int} {k : Nat} {os : List Int} (h : StAt xss c k xss.length os) : StAt xss c (k + 1) 0 os := ⟨h.1, fun m hm => by
  rw [h.2 m hm]
  by_cases h1 : m < k
  · rw [if_pos h1, if_pos (by omega)]
  · rw [if_neg h1]
    by_cases h2 : m = k
    · subst h2; rw [if_pos rfl, if_pos (by omega)]
    · rw [if_neg h2, if_neg (by omega)]
      by_cases h3 : m = k + 1
      · subst h3; rw [if_pos rfl]; rfl
      · rw [if_neg h3]⟩
theorem StAt.at {xss : List (List Int)} {c : Nat → Int} {k j : Nat} {os : List Int} (h : StAt xss c k j os) (hk : k < xss.length) : gi os k = stJ (tt xss) c k j := by
  rw [h.2 k hk, if_neg (Nat.lt_irrefl _), if_pos rfl]
theorem StAt.keep {xss : List (List Int)} {c : Nat → Int} {k j : Nat} {os : List Int} (h : StAt xss c k j os) (hn : ¬ (0 < tt xss k j ∧ 0 ≤ c j ∧ (gi os k < 0 ∨ tt xss k j + c j < gi os k))) (hk : k < xss.length) : StAt xss c k (j + 1) os := ⟨h.1, fun m hm => by
  rw [h.at hk] at hn
  rw [h.2 m hm]
  split
  · rfl
  · split
    · next e => simp only [stJ]; rw [if_neg hn]
    · rfl⟩
theorem StAt.put {xss : List (List Int)} {c : Nat → Int} {k j : Nat} {os : List Int} (h : StAt xss c k j os) (hy : 0 < tt xss k j ∧ 0 ≤ c j ∧ (gi os k < 0 ∨ tt xss k j + c j < gi os k)) (hk : k < xss.length) : StAt xss c k (j + 1) (os.set k (tt xss k j + c j)) := ⟨by rw [List.length_set]; exact h.1, fun m hm => by
  rw [h.at hk] at hy
  rw [gi_set (by rw [h.1]; exact hk)]
  by_cases e : m = k
  · subst e
    rw [if_pos rfl, if_neg (Nat.lt_irrefl _), if_pos rfl]
    simp only [stJ]; rw [if_pos hy]
  · rw [if_neg e, h.2 m hm, if_neg e, if_neg e]⟩
theorem StAt.done {xss : List (List Int)} {c : Nat → Int} {os : List Int} (h : StAt xss c xss.length 0 os) : os = stL xss c := by
  refine gi_ext (by rw [h.1]; simp [stL]) fun i hi => ?_
  rw [h.1] at hi
  rw [h.2 i hi, if_pos hi]
  exact (gi_mapR (c := fun i => stJ (tt xss) c i xss.length) hi).symm

set_option maxRecDepth 100000 in
set_option maxHeartbeats 8000000 in
theorem specStep_c (va : Value) (vs : Nat → Value) (xss : List (List Int)) (vc : Value) (cs : List Int) (w : World) (h : RdSS w va vs xss) (hc : RdI w vc cs) (hl : cs.length = xss.length) (hv : cvB xss = true) (hb : ∀ i, i < xss.length → gi cs i ≤ 100000) :
    Calls Tryd.prog 36 #[va, vc] w (Ret w fun v w' => OwnI w' w.heap.size 3 v (stL xss (gi cs))) := by
  obtain ⟨hn10, hrow⟩ := cvB_true.1 hv
  obtain ⟨a, ca, rfl, ml⟩ := h.rows.form
  obtain ⟨ac, cc, rfl, mc⟩ := hc.form
  have hs := SH.start w [rdSSP (.slice a xss.length ca) vs xss, rdP .i64 (.slice ac cs.length cc) cs] (by simp only [List.forall_mem_cons]; exact ⟨⟨h, rdSSP_wr⟩, ⟨hc, rdP_wr⟩, by simp⟩)
  have HRW := Lib.hid (fun i (hi : i < xss.length) => cvRow_true.1 (hrow i hi))
  have HBD := Lib.hid hb
  have HL := Lib.hid hl
  rw [hl] at hs ⊢
  clear h hc hrow hb mc hl
  go_enter Tryd.func36, Tryd.ntmps36
  go_wp2_with (at_builtin; refine wp_appKX rfl rfl .i64 3 8 Tryd.underlying26 info_int rfl (hs.ownEmpty .i64 3) rfl (hs.ownEmpty .i64 3).p2 (by simp [HL.out]; omega) (by simp [HL.out]; unfold maxLen; omega) ?_; intro v1 w1 hs)
  rw [List.nil_append] at hs
  obtain ⟨a1, c1, rfl, -⟩ := (OwnK.rd hs.p0).form
  rw [HL.out] at hs ⊢
  go_loopw [6] (fun i wr => ∃ (k : Nat) (os : List Int), k ≤ xss.length ∧ i = .int .i64 k ∧ Hid (StAt xss (gi cs) k 0 os) ∧ SH none w wr [ownP .i64 3 (.slice a1 xss.length c1) os, rdSSP (.slice a xss.length ca) vs xss, rdP .i64 (.slice ac xss.length cc) cs]) (fun i _ => xss.length - (intOf i).toNat)
  case atStart => exact ⟨0, cs, Nat.zero_le _, rfl, Lib.hid (StAt.start HL.out), hs⟩
  case round =>
    clear hs
    obtain ⟨k, os, hk, rfl, HO, hs⟩ := hrel
    by_cases hlt : k < xss.length
    · go_wp2
      go_loopw [7] (fun i wr => ∃ (j : Nat) (os : List Int), j ≤ xss.length ∧ i = .int .i64 j ∧ Hid (StAt xss (gi cs) k j os) ∧ SH none w wr [ownP .i64 3 (.slice a1 xss.length c1) os, rdSSP (.slice a xss.length ca) vs xss, rdP .i64 (.slice ac xss.length cc) cs]) (fun i _ => xss.length - (intOf i).toNat)
      case atStart => exact ⟨0, os, Nat.zero_le _, rfl, HO, hs⟩
      case round =>
        clear hs HO
        obtain ⟨j, os, hj, rfl, HO, hs⟩ := hrel
        by_cases hjl : j < xss.length
        · obtain ⟨bt, ot, am, cm, e4, -, hc0, hrm⟩ := rowAt (SH.p1 hs : RdSS _ _ _ _) hlt
          subst e4
          have hrl := (HRW.out k hlt).1
          rw [hrl] at hc0 hrm
          clear hrl
          obtain ⟨br, ob, rfl, hrc⟩ := hrm.at_ hjl
          obtain ⟨g, rfl, -, -, hco, hfo⟩ := OwnK.at_ hs.p0 hlt
          obtain ⟨bc, oc, rfl, hcj⟩ := RdK.at_ hs.p2 hjl
          have k0 : (0 : Int) ≤ (k : Int) := by omega
          have k1 : (k : Int) < (xss.length : Int) := by omega
          have j0 : (0 : Int) ≤ (j : Int) := by omega
          have j1 : (j : Int) < (xss.length : Int) := by omega
          have hl0 := ((HRW.out k hlt).2.2 j hjl).1
          have hl1 := ((HRW.out k hlt).2.2 j hjl).2
          have hcb := HBD.out j hjl
          have HT : Hid (tt xss k j = gi (gl xss k) j) := Lib.hid rfl
          rw [HT.out] at hl0 hl1
          have hkeep : ¬ (0 < gi (gl xss k) j ∧ 0 ≤ gi cs j ∧ (gi os k < 0 ∨ gi (gl xss k) j + gi cs j < gi os k)) → StAt xss (gi cs) k (j + 1) os := fun h => HO.out.keep (by rw [HT.out]; exact h) hlt
          have hput : (0 < gi (gl xss k) j ∧ 0 ≤ gi cs j ∧ (gi os k < 0 ∨ gi (gl xss k) j + gi cs j < gi os k)) → StAt xss (gi cs) k (j + 1) (os.set k (gi (gl xss k) j + gi cs j)) := fun h => by have := HO.out.put (by rw [HT.out]; exact h) hlt; rwa [HT.out] at this
          have HK := Lib.hid hkeep
          have HP := Lib.hid hput
          clear hrm hkeep hput HT
          generalize gi (gl xss k) j = lk at *
          generalize gi cs j = cj at *
          generalize gi os k = ok at *
          by_cases q1 : 0 < lk
          · have d1 : decide (0 < lk) = true := decide_eq_true q1
            by_cases q2 : 0 ≤ cj
            · have d2 : decide (0 ≤ cj) = true := decide_eq_true q2
              by_cases q3 : ok < 0
              · have d3 : decide (ok < 0) = true := decide_eq_true q3
                have HN := Lib.hid (HP.out (by omega))
                go_wp2
                go_quiet (fail)
                have hs := hs.drewN nq
                have c1 : (wr.drewN nq).cell? ⟨bt, ot + k, none⟩ = _ := hc0
                have c2 : (wr.drewN nq).cell? ⟨br, ob + j, none⟩ = _ := hrc
                have c3 : (wr.drewN nq).cell? ⟨g, k, none⟩ = _ := hco
                have c4 : (wr.drewN nq).cell? ⟨bc, oc + j, none⟩ = _ := hcj
                have c5 : (wr.drewN nq).frozen? ⟨g, k, none⟩ = _ := hfo
                clear hc0 hrc hco hcj hfo
                generalize wr.drewN nq = W at *
                go_wp2
                go_region
                all_goals (try go_wp2)
                all_goals go_roundw
                case rel => exact ⟨j + 1, _, hjl, by go_num, HN, (hs.setOwn hlt (lk + cj)).drew⟩
                case measure => simp [intOf]; omega
              · have d3 : decide (ok < 0) = false := decide_eq_false q3
                by_cases q4 : lk + cj < ok
                · have d4 : decide (lk + cj < ok) = true := decide_eq_true q4
                  have HN := Lib.hid (HP.out (by omega))
                  go_wp2
                  go_quiet (fail)
                  have hs := hs.drewN nq
                  have c1 : (wr.drewN nq).cell? ⟨bt, ot + k, none⟩ = _ := hc0
                  have c2 : (wr.drewN nq).cell? ⟨br, ob + j, none⟩ = _ := hrc
                  have c3 : (wr.drewN nq).cell? ⟨g, k, none⟩ = _ := hco
                  have c4 : (wr.drewN nq).cell? ⟨bc, oc + j, none⟩ = _ := hcj
                  have c5 : (wr.drewN nq).frozen? ⟨g, k, none⟩ = _ := hfo
                  clear hc0 hrc hco hcj hfo
                  generalize wr.drewN nq = W at *
                  go_wp2
                  go_region
                  all_goals (try go_wp2)
                  all_goals go_roundw
                  case rel => exact ⟨j + 1, _, hjl, by go_num, HN, (hs.setOwn hlt (lk + cj)).drew⟩
                  case measure => simp [intOf]; omega
                · have d4 : decide (lk + cj < ok) = false := decide_eq_false q4
                  have HN := Lib.hid (HK.out (by omega))
                  go_wp2
                  go_quiet (fail)
                  go_wp2
                  go_roundw
                  case rel => exact ⟨j + 1, os, hjl, by go_num, HN, hs.drewN _⟩
                  case measure => simp [intOf]; omega
            · have d2 : decide (0 ≤ cj) = false := decide_eq_false q2
              have HN := Lib.hid (HK.out (by omega))
              go_wp2
              go_quiet (fail)
              go_wp2
              go_roundw
              case rel => exact ⟨j + 1, os, hjl, by go_num, HN, hs.drewN _⟩
              case measure => simp [intOf]; omega
          · have d1 : decide (0 < lk) = false := decide_eq_false q1
            have HN := Lib.hid (HK.out (by omega))
            go_wp2
            go_quiet (fail)
            go_wp2
            go_roundw
            case rel => exact ⟨j + 1, os, hjl, by go_num, HN, hs.drewN _⟩
            case measure => simp [intOf]; omega
        · obtain rfl : j = xss.length := by omega
          go_wp2
          go_roundw
          case rel => exact ⟨k + 1, os, hlt, by go_num, Lib.hid HO.out.row, hs⟩
          case measure => simp [intOf]; omega
    · obtain rfl : k = xss.length := by omega
      go_wp2
      go_ret
      exact Ret.mk1 (by rw [← HO.out.done]; exact SH.ownRet hs) hs.done

def rdL (xss : List (List Int)) (q k : Nat) : List Int := (List.range xss.length).map (rdC (tt xss) xss.length q k)
theorem rdL_len (xss : List (List Int)) (q k : Nat) : (rdL xss q k).length = xss.length := by simp [rdL]
theorem rdL_gi {xss : List (List Int)} {q k i : Nat} (hi : i < xss.length) : gi (rdL xss q k) i = rdC (tt xss) xss.length q k i := gi_mapR hi
theorem stJ_congr {t : Nat → Nat → Int} {n i : Nat} {c c' : Nat → Int} (hi : i < n) (h : ∀ m, m < n → c m = c' m) : ∀ j, j ≤ n → stJ t c i j = stJ t c' i j
  | 0, _ => h i hi
  | j + 1, hj => by
    have ih := stJ_congr (t := t) hi h j (by omega)
    simp only [stJ, ih, h j (by omega)]
theorem rdL_step (xss : List (List Int)) (q k : Nat) : stL xss (gi (rdL xss q k)) = rdL xss q (k + 1) := by
  refine gi_ext (by simp [stL, rdL]) fun i hi => ?_
  have hi' : i < xss.length := by simpa [stL] using hi
  rw [rdL_gi hi']
  show gi ((List.range xss.length).map fun i => stJ (tt xss) (gi (rdL xss q k)) i xss.length) i = _
  rw [gi_mapR (c := fun i => stJ (tt xss) (gi (rdL xss q k)) i xss.length) hi']
  exact stJ_congr hi' (fun m hm => rdL_gi hm) _ (Nat.le_refl _)
theorem rdL_zero {xss : List (List Int)} {q : Nat} (hq : q < xss.length) : (List.replicate xss.length (-1 : Int)).set q 0 = rdL xss q 0 := by
  refine gi_ext (by simp [rdL]) fun i hi => ?_
  have hi' : i < xss.length := by simpa using hi
  rw [gi_set (by simpa using hq), rdL_gi hi']
  simp only [rdC]
  split
  · rfl
  · simp [gi, hi']
theorem rep_snoc (k : Nat) (x : Int) : List.replicate k x ++ [x] = List.replicate (k + 1) x := by
  rw [List.replicate_succ']

set_option maxRecDepth 100000 in
set_option maxHeartbeats 4000000 in
theorem specCosts_c (va : Value) (vs : Nat → Value) (xss : List (List Int)) (q : Nat) (w : World) (h : RdSS w va vs xss) (hv : cvB xss = true) (hq : q < xss.length) :
    Calls Tryd.prog 29 #[va, .int .i64 q] w (Ret w fun v w' => OwnI w' w.heap.size 3 v (rdL xss q xss.length)) := by
  obtain ⟨hn10, hrow⟩ := cvB_true.1 hv
  obtain ⟨a, ca, rfl, ml⟩ := h.rows.form
  have hs := SH.start w [rdSSP (.slice a xss.length ca) vs xss] (by simp only [List.forall_mem_cons]; exact ⟨⟨h, rdSSP_wr⟩, by simp⟩)
  have HV := Lib.hid hv
  have HTT : Hid (∀ i j, i < xss.length → j < xss.length → tt xss i j ≤ 100) := Lib.hid (fun i j hi hj => ((cvRow_true.1 (hrow i hi)).2.2 j hj).2)
  clear h hv hrow
  go_enter Tryd.func29, Tryd.ntmps29
  go_wp2
  have hs := hs.ownEmpty .i64 3
  go_loopw [5, 6] (fun o i wr => ∃ k : Nat, k ≤ xss.length ∧ i = .int .i64 k ∧ SH none w wr [ownP .i64 3 o (List.replicate k (-1)), rdSSP (.slice a xss.length ca) vs xss]) (fun _ i _ => xss.length - (intOf i).toNat)
  case atStart => exact ⟨0, Nat.zero_le _, rfl, hs⟩
  case round =>
    clear hs
    obtain ⟨k, hk, rfl, hs⟩ := hrel
    by_cases hlt : k < xss.length
    · go_wp2_with (at_builtin; refine wp_app1S rfl rfl .i64 3 8 Tryd.underlying26 info_int (-1) rfl (hs.alloc _) rfl (World.cell?_alloc_at _ _ _ _ rfl) (by simp; omega) (by simp; unfold maxLen; omega) ?_; intro v2 w2 hs)
      rw [rep_snoc] at hs
      go_roundw
      case rel => exact ⟨k + 1, hlt, by go_num, hs⟩
      case measure => simp [intOf]; omega
    · obtain rfl : k = xss.length := by omega
      obtain ⟨ao, co, rfl, -⟩ := (OwnK.rd hs.p0).form
      rw [List.length_replicate] at hs ⊢
      obtain ⟨g, rfl, -, -, hco, hfo⟩ := OwnK.at_ hs.p0 hq
      have q1 : (q : Int) < (xss.length : Int) := by omega
      go_wp2
      have hs := hs.setOwn hq 0
      rw [rdL_zero hq] at hs
      clear hco hfo
      go_loopw [5, 7] (fun o i wr => ∃ k : Nat, k ≤ xss.length ∧ i = .int .i64 k ∧ SH none w wr [ownP .i64 3 o (rdL xss q k), rdSSP (.slice a xss.length ca) vs xss]) (fun _ i _ => xss.length - (intOf i).toNat)
      case atStart => exact ⟨0, Nat.zero_le _, rfl, hs⟩
      case round =>
        clear hs
        obtain ⟨k, hk, rfl, hs⟩ := hrel
        by_cases hlt : k < xss.length
        · go_wp2_with fail
          refine (SH.own hs (by repeat' (first | with_reducible exact Below.refl _ _ | with_reducible assumption | with_reducible refine below_drewN ?_ _ | with_reducible refine Below.drew ?_ | with_reducible refine Below.alloc ?_ ?_ _ | with_reducible refine Below.setCell ?_ ?_ _ | go_size)) fun hs => specStep_c _ vs xss _ (rdL xss q k) _ hs.p1 (OwnK.rd hs.p0) (rdL_len _ _ _) HV.out (fun i hi => by rw [rdL_gi hi]; have := rdC_hi (to := q) HTT.out k i hi; omega)).mono ?_
          rintro e w3 ⟨v3, rfl, hs⟩
          rw [rdL_step] at hs
          have hs := hs.drop1
          go_wp2
          go_roundw
          case rel => exact ⟨k + 1, hlt, by go_num, hs⟩
          case measure => simp [intOf]; omega
        · obtain rfl : k = xss.length := by omega
          go_wp2
          go_ret
          exact Ret.mk1 (SH.ownRet hs) hs.done

theorem lcV_rd {xss : List (List Int)} {q : Nat} (h : lcB xss (q : Int) = true) : lcV xss (q : Int) = rdL xss q xss.length := by
  unfold lcV lcC rdL; rw [if_pos h]; simp
end Go.Proofs.YtdfinlpfkmmpkaaDoor
