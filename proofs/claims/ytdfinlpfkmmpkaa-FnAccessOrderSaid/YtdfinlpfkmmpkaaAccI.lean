import Derived.Test.YtdfinlpfkmmpkaaProg
import Derived.Test.YtdfinlpfkmmpkaaAccS
import Derived.Deep.LoopGhost
namespace Go.Proofs.Ytdfinlpfkmmpkaa
open Go.RowKit

/-! The program's AccessRun. -/
theorem act_mem {n : Nat} {σ : Nat → Sd} {x : Sn} (h : x ∈ actS n σ) : ∃ k, k < n ∧ (σ k).o < 0 ∧ x = rcS σ k := by
  obtain ⟨k, hk, rfl⟩ := List.mem_map.1 h
  rw [List.mem_filter, List.mem_range] at hk
  exact ⟨k, hk.1, by simpa using hk.2, rfl⟩
theorem mem_act {n : Nat} {σ : Nat → Sd} {k : Nat} (hk : k < n) (ho : (σ k).o < 0) : rcS σ k ∈ actS n σ :=
  List.mem_map.2 ⟨k, by rw [List.mem_filter, List.mem_range]; exact ⟨hk, by simpa using ho⟩, rfl⟩
theorem act_len (n : Nat) (σ : Nat → Sd) : (actS n σ).length ≤ n := by
  unfold actS
  rw [List.length_map]
  exact Nat.le_trans (List.length_filter_le _ _) (by simp)
theorem act_ini (seeds : List Int) : actS seeds.length (iniS seeds) = (List.range seeds.length).map (rcS (iniS seeds)) := by
  unfold actS
  congr 1
  exact List.filter_eq_self.2 (fun k _ => by simp [iniS])
theorem part_eq {G R A : List Sn} {t : Int} (hp : (G ++ R).Perm A) (hG : ∀ x ∈ G, x.1 = t) (hR : ∀ x ∈ R, x.1 ≠ t) : G.Perm (A.filter fun x => decide (x.1 = t)) ∧ R.Perm (A.filter fun x => !decide (x.1 = t)) := by
  have e1 : (G ++ R).filter (fun x => decide (x.1 = t)) = G := by
    rw [List.filter_append, List.filter_eq_self.2 (fun x hx => by simpa using hG x hx), List.filter_eq_nil_iff.2 (fun x hx => by simpa using hR x hx), List.append_nil]
  have e2 : (G ++ R).filter (fun x => !decide (x.1 = t)) = R := by
    have g1 : G.filter (fun x => !decide (x.1 = t)) = [] := List.filter_eq_nil_iff.2 (fun x hx => by simpa using hG x hx)
    have g2 : R.filter (fun x => !decide (x.1 = t)) = R := List.filter_eq_self.2 (fun x hx => by simpa using hR x hx)
    rw [List.filter_append, g1, g2, List.nil_append]
  have h1 := hp.filter (fun x => decide (x.1 = t))
  have h2 := hp.filter (fun x => !decide (x.1 = t))
  rw [e1] at h1
  rw [e2] at h2
  exact ⟨h1, h2⟩
/-- the step, alone: the queue and the result -/
theorem step_one {n : Nat} {σ : Nat → Sd} {t : Int} {G R : List Sn} (ht : 0 ≤ t) (hp : (G ++ R).Perm (actS n σ)) (hG : ∀ x ∈ G, x.1 = t) (hR : ∀ x ∈ R, x.1 ≠ t) (h1 : G.length = 1) :
    ∃ k, k < n ∧ G = [rcS σ k] ∧ R.Perm (actS n (stpS n t σ)) ∧ (lst Sd.o n σ).set k t = lst Sd.o n (stpS n t σ) := by
  obtain ⟨p1, p2⟩ := part_eq hp hG hR
  rw [act_due] at p1
  have hl : (grpS n σ t).length = 1 := by rw [← h1, p1.length_eq, List.length_map]
  obtain ⟨k, hk⟩ := List.length_eq_one_iff.1 hl
  have hd : dueS n σ t k = true := mem_grpS.1 (by rw [hk]; simp)
  rw [hk] at p1
  have hkn := (dueS_true.1 hd).1
  refine ⟨k, hkn, List.perm_singleton.1 p1, by rw [act_single ht hl]; exact p2, ?_⟩
  have := lst_set (p := Sd.o) (σ := σ) (σ' := stpS n t σ) hkn (fun j hj => by
    unfold stpS
    split
    · next hdj => exact absurd (grp_one hl hdj hd) hj
    · rfl)
  rw [← this]
  congr 1
  unfold stpS; rw [if_pos hd, if_pos hl]
theorem step_many {n : Nat} {σ : Nat → Sd} {t : Int} {G R : List Sn} (hp : (G ++ R).Perm (actS n σ)) (hG : ∀ x ∈ G, x.1 = t) (hR : ∀ x ∈ R, x.1 ≠ t) (h1 : G.length ≠ 1) :
    (G.map (frS t) ++ R).Perm (actS n (stpS n t σ)) ∧ lst Sd.o n σ = lst Sd.o n (stpS n t σ) := by
  obtain ⟨p1, p2⟩ := part_eq hp hG hR
  rw [act_due] at p1
  have hl : (grpS n σ t).length ≠ 1 := by rw [show (grpS n σ t).length = G.length by rw [p1.length_eq, List.length_map]]; exact h1
  refine ⟨?_, lst_same (fun j hj => ?_)⟩
  · rw [act_multi hl]
    have h2 := hp.map (fun x => if x.1 = t then frS t x else x)
    rw [List.map_append] at h2
    rw [show G.map (fun x => if x.1 = t then frS t x else x) = G.map (frS t) from List.map_congr_left (fun x hx => if_pos (hG x hx)), show R.map (fun x => if x.1 = t then frS t x else x) = R from (List.map_congr_left (fun x hx => if_neg (hR x hx))).trans (List.map_id' _)] at h2
    exact h2
  · unfold stpS
    split
    · first | rfl | (rw [if_neg hl]; rfl)
    · rfl
theorem iniS_heap (seeds : List Int) (n : Nat) : ∀ k, k < n → keyK keyS ((List.range n).map (rcS (iniS seeds))) k = 0 := fun k hk => by
  show keyS (ht ((List.range n).map (rcS (iniS seeds))) k) = 0
  unfold ht
  simp [hk, rcS, iniS, keyS]

set_option maxRecDepth 100000 in
set_option maxHeartbeats 8000000 in
theorem implAccessRun_c (va : Value) (seeds : List Int) (w : World) (h : RdI w va seeds) :
    Calls Try.prog 36 #[va] w (Ret w fun v w' => OwnI w' w.heap.size 3 v (acV seeds)) := by
  obtain ⟨a, ca, rfl, ml⟩ := h.form
  have hs := SH.start w [rdP .i64 (.slice a seeds.length ca) seeds] (by simp only [List.forall_mem_cons]; exact ⟨⟨h, rdP_wr⟩, by simp⟩)
  clear h
  by_cases hl : 8 < seeds.length
  · have HN := Lib.hid (acV_no (acB_long hl))
    go_enter Try.func36, Try.ntmps36
    go_wp2
    go_ret
    exact Ret.mk1 (by rw [HN.out]; exact OwnK.nil _ _ _ _) hs.done
  have HNO : Hid (∀ k, k < seeds.length → inB (gi seeds k) 0 2047 = false → acV seeds = []) := Lib.hid (fun k hk hb => acV_no (acB_bad hk hb))
  have HYES : Hid ((∀ k, k < seeds.length → inB (gi seeds k) 0 2047 = true) → acB seeds = true) := Lib.hid (fun h => acB_true.2 ⟨by omega, fun k hk => inB_true.1 (h k hk)⟩)
  have HACT := Lib.hid (act_ini seeds)
  have HOINI := Lib.hid (lst_ini seeds).2.2.2
  have HOK : Hid (acB seeds = true → ∀ t : Nat, OkS seeds.length (t : Int) (runS seeds.length (iniS seeds) t)) := Lib.hid (fun h => OkS.run h)
  have HAC : Hid (acB seeds = true → acV seeds = lst Sd.o seeds.length (runS seeds.length (iniS seeds) 400)) := Lib.hid (fun h => by unfold acV; rw [if_pos h]; rfl)
  generalize hn : seeds.length = n at *
  go_enter Try.func36, Try.ntmps36
  go_wp2_with (first | (at_make; refine wp_make0M rfl rfl w.heap.size 64 32 4 _ Try.underlying62 infS (hcC encS []) n rfl rfl rfl (by omega) (by unfold maxLen; omega) (Nat.le_refl _) ?_; intro w1 hown hg hsz) | (at_make; refine wp_makeK rfl rfl .i64 _ 3 8 Try.underlying28 info_int n rfl rfl rfl rfl (by omega) (by unfold maxLen; omega) (Nat.le_refl _) ?_; intro w3 hown3 hg3 hsz3))
  have hs := (((hs.pushOwnM (below_of_grown hg) hown).allocP #[.slice (some ⟨w.heap.size, 0, none⟩) 0 n] 62).pushOwn (below_of_grown hg3) hown3).push2
  clear hown hg hsz hown3 hg3 hsz3
  rw [show (w1.alloc (.cells #[.slice (some ⟨w.heap.size, 0, none⟩) 0 n] 62)).heap.size = w1.heap.size + 1 from by simp] at hs
  obtain ⟨aD, cD, hE, -⟩ := (OwnK.rd hs.p2).form
  rw [hE, List.length_replicate] at hs
  rw [hE, List.length_replicate]
  clear hE
  generalize w1.heap.size = B at *
  go_loopw [22] (fun i wr => ∃ (k : Nat) (cs : List Int) (v : Value), k ≤ n ∧ i = .int .i64 k ∧ Hid (∀ j, j < k → inB (gi seeds j) 0 2047 = true) ∧ Hid (cs.length = n ∧ ∀ j, j < k → gi cs j = -1) ∧
    SH none w wr [blkP B #[v] 62, ownMP 4 64 v k (hcC encS ((List.range k).map (rcS (iniS seeds)))), ownP .i64 3 (.slice aD n cD) cs, rdP .i64 (.slice a n ca) seeds]) (fun i _ => n - (intOf i).toNat)
  case atStart => exact ⟨0, _, _, Nat.zero_le _, rfl, Lib.hid (fun j h => absurd h (Nat.not_lt_zero _)), Lib.hid ⟨by simp, fun j h => absurd h (Nat.not_lt_zero _)⟩, hs⟩
  case round =>
    clear hs
    obtain ⟨k, cs, v, hk, rfl, HV, HCS, hs⟩ := hrel
    by_cases hlt : k < n
    · obtain ⟨b, o, rfl, hc⟩ := RdK.at_ hs.p3 hlt
      obtain ⟨gD, rfl, -, -, -, -⟩ := OwnK.at_ hs.p2 hlt
      obtain ⟨c0, f0⟩ := blk0 hs.p0
      obtain ⟨av, cv, rfl, -⟩ := (OwnM.rd hs.p1).form
      have k1 : (k : Int) < (n : Int) := by omega
      go_wp2_with fail
      refine (seedValid_x (gi seeds k) _).mono ?_
      rintro e w' ⟨rfl, rfl⟩
      cases hb : inB (gi seeds k) 0 2047
      · have HN := Lib.hid (HNO.out k hlt hb)
        clear hb
        go_wp2
        go_ret
        exact Ret.mk1 (by rw [HN.out]; exact OwnK.nil _ _ _ _) hs.done
      have HB := Lib.hid hb
      clear hb
      have HSN : Hid ((List.range (k + 1)).map (rcS (iniS seeds)) = (List.range k).map (rcS (iniS seeds)) ++ [(0, (k : Int), gi seeds k, 0)]) := Lib.hid (by rw [List.range_succ, List.map_append]; rfl)
      obtain ⟨c9, f9⟩ := blk0 (hs.alloc (.cells #[.int .i64 0, .int .i64 k, .int .i64 (gi seeds k), .int .i64 0] 64)).p0
      go_wp2_with (at_builtin; refine wp_app1MS rfl rfl 64 32 4 (.agg #[.int .i64 0, .int .i64 0, .int .i64 0, .int .i64 0]) Try.underlying62 infS rfl (by decide) (encS (0, (k : Int), gi seeds k, 0)) rfl (hs.bring1.alloc _) rfl (fun i hi => by have : i = 0 ∨ i = 1 ∨ i = 2 ∨ i = 3 := (by omega); rcases this with rfl | rfl | rfl | rfl <;> exact World.cell?_alloc_at _ _ _ _ rfl) (fun i hi => oneES _ i) (by omega) (by unfold maxLen; omega) ?_; intro v2 w2 hs; obtain ⟨c2, f2⟩ := blk0 hs.p1; obtain ⟨a2, k2, rfl, -⟩ := (OwnM.rd hs.p0).form; have hs := hs.bring1.setBlk 0 (.slice a2 (k + 1) k2); obtain ⟨g3, hge, -, -, hcD, hfD⟩ := OwnK.at_ hs.p2 hlt; cases hge)
      have hs := (hs.bring2.setOwn hlt (-1)).push2
      have hs := (hs.bring1.congrM (c' := hcC encS ((List.range (k + 1)).map (rcS (iniS seeds)))) (fun i j hi _ => by rw [HSN.out]; exact hcS_snoc _ _ k i j (by simp) hi)).bring1
      go_roundw
      case rel =>
        refine ⟨k + 1, _, _, hlt, by go_num, Lib.hid (fun j hj => ?_), Lib.hid ⟨by rw [List.length_set]; exact HCS.out.1, fun j hj => ?_⟩, hs⟩
        · rcases Nat.lt_succ_iff_lt_or_eq.1 hj with h1 | rfl
          · exact HV.out j h1
          · exact HB.out
        · rw [gi_set (by rw [HCS.out.1]; exact hlt)]
          split
          · rfl
          · exact HCS.out.2 j (by omega)
      case measure => simp [intOf]; omega
    · obtain rfl : k = n := by omega
      have hac := HYES.out HV.out
      have HOK2 := Lib.hid (HOK.out hac)
      have HAC2 := Lib.hid (HAC.out hac)
      have hcs : cs = lst Sd.o k (iniS seeds) := by
        rw [HOINI.out]
        refine gi_ext (by rw [HCS.out.1]; simp) fun i hi => ?_
        rw [HCS.out.1] at hi
        rw [HCS.out.2 i hi]
        simp [gi, hi]
      rw [hcs] at hs
      have HQ0 : Hid ((actS k (iniS seeds)).length = k) := Lib.hid (by rw [HACT.out]; simp)
      rw [← HACT.out] at hs
      have HH0 : Hid (HeapK (keyK keyS (actS k (iniS seeds))) k) := Lib.hid (by
        rw [HACT.out]
        intro i h0 hi
        rw [iniS_heap seeds k i hi, iniS_heap seeds k _ (by omega)]
        exact Int.le_refl _)
      clear hac hcs HCS HYES HNO HOK HAC
      go_wp2
      go_loopg [] 401 (fun kx wr => ∃ (τ : Nat) (Q : List Sn) (v : Value), τ ≤ 400 ∧ 401 - τ ≤ kx ∧ Hid (Q.Perm (actS k (runS k (iniS seeds) τ))) ∧ Hid (HeapK (keyK keyS Q) Q.length) ∧
        SH none w wr [blkP B #[v] 62, ownMP 4 64 v Q.length (hcC encS Q), ownP .i64 3 (.slice aD k cD) (lst Sd.o k (runS k (iniS seeds) τ)), rdP .i64 (.slice a k ca) seeds])
      case atStart => exact ⟨0, actS k (iniS seeds), v, by omega, by omega, Lib.hid (List.Perm.refl _), by rw [HQ0.out]; exact HH0, by rw [HQ0.out]; exact hs⟩
      case round =>
        clear hs HQ0 HH0
        obtain ⟨τ, Q, v, hτ, hkx, HQ, HH, hs⟩ := hrel
        have HOKs := Lib.hid (HOK2.out τ)
        have HEND : Hid ((∀ x ∈ Q, 400 ≤ x.1) → acV seeds = lst Sd.o k (runS k (iniS seeds) τ)) := Lib.hid (fun h => by
          rw [HAC2.out]
          have := runS_skip (n := k) (σ := iniS seeds) (400 - τ) τ (fun m hm ho => by
            have h1 := h _ (HQ.out.mem_iff.2 (mem_act hm ho))
            have h2 : (rcS (runS k (iniS seeds) τ) m).1 = (runS k (iniS seeds) τ m).w := rfl
            omega)
          rw [show τ + (400 - τ) = 400 by omega] at this
          rw [this])
        have HSK : Hid (∀ S : Nat, τ ≤ S → (∀ x ∈ Q, (S : Int) ≤ x.1) → runS k (iniS seeds) S = runS k (iniS seeds) τ) := Lib.hid (fun S hS h => by
          have := runS_skip (n := k) (σ := iniS seeds) (S - τ) τ (fun m hm ho => by
            have h1 := h _ (HQ.out.mem_iff.2 (mem_act hm ho))
            have h2 : (rcS (runS k (iniS seeds) τ) m).1 = (runS k (iniS seeds) τ m).w := rfl
            omega)
          rw [show τ + (S - τ) = S by omega] at this
          exact this)
        have hQl : Q.length ≤ 8 := by rw [HQ.out.length_eq]; have := act_len k (runS k (iniS seeds) τ); omega
        have HLO : Hid (∀ x ∈ Q, (τ : Int) ≤ x.1) := Lib.hid (fun x hx => by
          obtain ⟨m, hm, ho, rfl⟩ := act_mem (HQ.out.mem_iff.1 hx)
          exact HOKs.out.a m hm ho)
        generalize runS k (iniS seeds) τ = σ at *
        obtain ⟨c0, -⟩ := blk0 hs.p0
        obtain ⟨av, cv, rfl, -⟩ := (OwnM.rd hs.p1).form
        by_cases hz : Q.length = 0
        · obtain rfl : Q = [] := List.eq_nil_of_length_eq_zero hz
          have HF := Lib.hid (HEND.out (fun x hx => by cases hx))
          go_wp2
          go_ret
          exact Ret.mk1 (by rw [HF.out]; exact SH.ownRet hs.drop0.drop0) hs.done
        have hmin : ∀ x ∈ Q, (ht Q 0).1 ≤ x.1 := fun x hx => by
          obtain ⟨m, hm, rfl⟩ := ht_ex hx
          exact HH.out.min m hm
        have hm0 : ht Q 0 ∈ Q := ht_mem (by omega)
        obtain ⟨gq, rfl, -, hcq, -⟩ := OwnM.at_ hs.p1 (i := 0) (by omega)
        have hc1 : _ = some (Value.int .i64 (ht Q 0).1) := hcq 0 (by decide)
        rw [show 0 * 4 + 0 = 0 from rfl] at hc1
        have hlo0 := HLO.out _ hm0
        clear hcq
        obtain ⟨s0, hs0⟩ : ∃ x, (ht Q 0).1 = x := ⟨_, rfl⟩
        rw [hs0] at hc1 hlo0 hmin
        clear hs0
        have HMIN := Lib.hid hmin
        have hQ0 : (0 : Int) < (Q.length : Int) := by omega
        clear hmin hm0
        by_cases h400 : s0 < 400
        case neg =>
          have HF := Lib.hid (HEND.out (fun x hx => by have := HMIN.out x hx; omega))
          go_wp2
          go_ret
          exact Ret.mk1 (by rw [HF.out]; exact SH.ownRet hs.drop0.drop0) hs.done
        obtain ⟨S, rfl⟩ : ∃ S : Nat, s0 = (S : Int) := ⟨s0.toNat, by omega⟩
        have hS1 : τ ≤ S := by omega
        have hS2 : S < 400 := by omega
        have HRS := Lib.hid (HSK.out S hS1 HMIN.out)
        go_wp2
        have hs := (hs.ownNilM 4 64 (hcC encS [])).push2
        clear hc1 c0 hz hQ0
        go_loopg [8] (Q.length + 1) (fun kx g wr => ∃ (G R : List Sn) (v2 : Value), R.length + 1 ≤ kx ∧ G.length + R.length = Q.length ∧ Hid ((G ++ R).Perm Q) ∧ Hid (∀ x ∈ G, x.1 = (S : Int)) ∧ Hid (HeapK (keyK keyS R) R.length) ∧
          SH none w wr [blkP B #[v2] 62, ownMP 4 64 v2 R.length (hcC encS R), ownMP 4 64 g G.length (hcC encS G), ownP .i64 3 (.slice aD k cD) (lst Sd.o k (σ)), rdP .i64 (.slice a k ca) seeds])
        case atStart => exact ⟨[], Q, _, Nat.le_refl _, by simp, Lib.hid (List.Perm.refl _), Lib.hid (fun x hx => by cases hx), HH, hs⟩
        case round =>
          clear hs
          obtain ⟨G, R, v2, hR1, hGRl, HGR, HG, HHR, hs⟩ := hrel
          obtain ⟨c0, -⟩ := blk0 hs.p0
          obtain ⟨av, cv, rfl, -⟩ := (OwnM.rd hs.p1).form
          by_cases hz : R.length = 0
          · obtain rfl : R = [] := List.eq_nil_of_length_eq_zero hz
            have HR : Hid (∀ x ∈ ([] : List Sn), x.1 ≠ (S : Int)) := Lib.hid (fun x hx => by cases hx)
            obtain ⟨R, hR0⟩ : ∃ R : List Sn, R = [] := ⟨_, rfl⟩
            rw [← hR0] at hs HR HHR HGR hGRl hz c0 hR1
            have HR0 := Lib.hid hR0
            clear hR0
            have hpA : (G ++ R).Perm (actS k σ) := HGR.out.trans HQ.out
            have HRS2 : Hid (runS k (iniS seeds) (S + 1) = stpS k (S : Int) σ) := Lib.hid (by rw [← HRS.out]; rfl)
            by_cases g1 : G.length = 1
            · obtain ⟨kk, hkk, hGe, hRp, hset⟩ := step_one (t := (S : Int)) (by omega) hpA HG.out HR.out g1
              subst hGe
              have HRP := Lib.hid hRp
              have HSET := Lib.hid hset
              obtain ⟨ag, cg, rfl, -⟩ := (OwnM.rd hs.p2).form
              obtain ⟨gg, rfl, -, hcg, -⟩ := OwnM.at_ hs.p2 (i := 0) (by simp)
              have hc1 : _ = some (Value.int .i64 (kk : Int)) := hcg 1 (by decide)
              rw [show 0 * 4 + 1 = 1 from rfl] at hc1
              obtain ⟨gD, rfl, -, -, hcD, hfD⟩ := OwnK.at_ hs.p3 hkk
              have kk1 : (kk : Int) < (k : Int) := by omega
              have kk0 : (0 : Int) ≤ (kk : Int) := by omega
              clear hcg hpA g1 hset hRp
              go_wp2
              go_roundg (400 - S)
              case measure => omega
              case rel =>
                have h2 := (hs.bring3.setOwn hkk (S : Int)).drop3
                rw [HSET.out, ← HRS2.out] at h2
                exact ⟨S + 1, R, .slice av R.length cv, by omega, by omega, by rw [HRS2.out]; exact HRP, HHR, h2.push2⟩
            · obtain ⟨hRp, hset⟩ := step_many (t := (S : Int)) hpA HG.out HR.out g1
              have HRP := Lib.hid hRp
              have HSET := Lib.hid hset
              have HBND : Hid (∀ x ∈ G, 0 ≤ x.2.2.1 ∧ x.2.2.1 ≤ 2047 ∧ 0 ≤ x.2.2.2 ∧ x.2.2.2 ≤ 400) := Lib.hid (fun x hx => by
                obtain ⟨m, hm, -, rfl⟩ := act_mem (hpA.mem_iff.1 (List.mem_append_left _ hx))
                have h1 := HOKs.out.s m hm
                have h2 := HOKs.out.f m hm
                exact ⟨h1.1, h1.2, h2.1, by show (σ m).f ≤ 400; omega⟩)
              obtain ⟨ag, cg, rfl, -⟩ := (OwnM.rd hs.p2).form
              have e1 : ((G.length : Int) == 1) = false := by simp; omega
              generalize hgn : G.length = gn at *
              have HGN := Lib.hid hgn
              clear hpA hset hRp g1 hgn
              go_wp2
              clear c0
              go_loopw [83] (fun ii wr => ∃ (q : Nat) (Q2 : List Sn) (v2 : Value), q ≤ gn ∧ ii = .int .i64 q ∧ Q2.length = q + R.length ∧ Hid (Q2.Perm ((G.take q).map (frS (S : Int)) ++ R)) ∧ Hid (HeapK (keyK keyS Q2) Q2.length) ∧
                SH none w wr [blkP B #[v2] 62, ownMP 4 64 v2 Q2.length (hcC encS Q2), ownMP 4 64 (.slice ag gn cg) gn (hcC encS G), ownP .i64 3 (.slice aD k cD) (lst Sd.o k (σ)), rdP .i64 (.slice a k ca) seeds]) (fun ii _ => gn - (intOf ii).toNat)
              case atStart => exact ⟨0, R, .slice av R.length cv, Nat.zero_le _, rfl, by omega, Lib.hid (by simp), HHR, hs⟩
              case round =>
                clear hs
                obtain ⟨q, Q2, v2, hq, rfl, hQ2, HQ2, HHQ, hs⟩ := hrel
                by_cases hql : q < gn
                · have hxm : ht G q ∈ G := ht_mem (by rw [HGN.out]; exact hql)
                  have hx1 := HG.out _ hxm
                  obtain ⟨b0, b1, b2, b3⟩ := HBND.out _ hxm
                  have HTK : Hid ((G.take (q + 1)).map (frS (S : Int)) = (G.take q).map (frS (S : Int)) ++ [frS (S : Int) (ht G q)]) := Lib.hid (by
                    rw [List.take_succ_eq_append_getElem (by rw [HGN.out]; exact hql), List.map_append, ht_get (by rw [HGN.out]; exact hql)]; rfl)
                  obtain ⟨gg, rfl, -, hcg, -⟩ := OwnM.at_ hs.p2 hql
                  have d0 : _ = some (Value.int .i64 (ht G q).1) := hcg 0 (by decide)
                  have d1 : _ = some (Value.int .i64 (ht G q).2.1) := hcg 1 (by decide)
                  have d2 : _ = some (Value.int .i64 (ht G q).2.2.1) := hcg 2 (by decide)
                  have d3 : _ = some (Value.int .i64 (ht G q).2.2.2) := hcg 3 (by decide)
                  rw [Nat.add_zero] at d0
                  clear hcg hxm
                  obtain ⟨x, hx⟩ : ∃ x, ht G q = x := ⟨_, rfl⟩
                  rw [hx] at d0 d1 d2 d3 hx1 b0 b1 b2 b3 HTK
                  clear hx
                  obtain ⟨x1, x2, x3, x4⟩ := x
                  obtain rfl : x1 = (S : Int) := hx1
                  dsimp only at d0 d1 d2 d3 b0 b1 b2 b3
                  have hs2 := hs.allocP (celS ((S : Int), x2, x3, x4)) 64
                  go_wp2_with fail
                  refine (fail_s wr.heap.size ((S : Int), x2, x3, x4) _ hs2 b0 b1 b2 (by dsimp only; omega) (by dsimp only; omega) (by dsimp only; omega)).mono ?_
                  rintro e w6 ⟨rfl, hs⟩
                  clear d0 d1 d2 d3 hs2
                  generalize wr.heap.size = NB at *
                  obtain ⟨d0, d1, d2, d3, -⟩ := blk4 hs.p0
                  go_wp2_with fail
                  refine (hPushS B v2 Q2 Q2.length (frS (S : Int) ((S : Int), x2, x3, x4)) _ hs.drop0 rfl (by omega) HHQ.out).mono ?_
                  rintro e w7 ⟨rfl, v7, Q7, hp7, hh7, hs⟩
                  have HP7 := Lib.hid hp7
                  have HH7 := Lib.hid hh7
                  have hl7 : Q7.length = Q2.length + 1 := by rw [hp7.length_eq]; rfl
                  clear hp7 hh7 d0 d1 d2 d3
                  rw [← hl7] at hs HH7
                  go_wp2
                  go_roundw
                  case rel =>
                    refine ⟨q + 1, Q7, v7, hql, by go_num, by omega, Lib.hid ?_, HH7, hs⟩
                    rw [HTK.out]
                    refine HP7.out.trans ((HQ2.out.cons _).trans ?_)
                    rw [List.append_assoc]
                    exact (List.perm_middle).symm
                  case measure => simp [intOf]; omega
                · obtain rfl : q = gn := by omega
                  have hfull : G.take q = G := by rw [← HGN.out, List.take_length]
                  have HQ3 : Hid (Q2.Perm (actS k (stpS k (S : Int) σ))) := Lib.hid (by have := HQ2.out; rw [hfull] at this; exact this.trans HRP.out)
                  clear hfull
                  go_wp2
                  go_roundg (400 - S)
                  case measure => omega
                  case rel =>
                    rw [HSET.out, ← HRS2.out] at hs
                    exact ⟨S + 1, Q2, v2, by omega, by omega, by rw [HRS2.out]; exact HQ3, HHQ, hs.drop2⟩
          · have hmin : ∀ x ∈ R, (ht R 0).1 ≤ x.1 := fun x hx => by
              obtain ⟨m, hm, rfl⟩ := ht_ex hx
              exact HHR.out.min m hm
            have hm0 : ht R 0 ∈ R := ht_mem (by omega)
            obtain ⟨gq, rfl, -, hcq, -⟩ := OwnM.at_ hs.p1 (i := 0) (by omega)
            have hc1 : _ = some (Value.int .i64 (ht R 0).1) := hcq 0 (by decide)
            rw [show 0 * 4 + 0 = 0 from rfl] at hc1
            have hge : (S : Int) ≤ (ht R 0).1 := HMIN.out _ (HGR.out.mem_iff.1 (List.mem_append_right _ hm0))
            clear hcq
            obtain ⟨r0, hr0⟩ : ∃ x, (ht R 0).1 = x := ⟨_, rfl⟩
            have HEX := Lib.hid (And.intro hm0 hr0)
            rw [hr0] at hc1 hge hmin
            clear hr0 hm0
            have HMR := Lib.hid hmin
            have hR0 : (0 : Int) < (R.length : Int) := by omega
            clear hmin
            by_cases hrS : r0 = (S : Int)
            · obtain ⟨M, hM⟩ : ∃ M, R.length = M + 1 := ⟨R.length - 1, by omega⟩
              rw [hM] at hs c0 HHR
              have HM := Lib.hid hM
              have e1 : (r0 == (S : Int)) = true := by simp [hrS]
              have hM8 : M ≤ 8 := by omega
              have hG8 : G.length ≤ 8 := by omega
              rw [hM] at hR0
              obtain ⟨ag, cg, rfl, -⟩ := (OwnM.rd hs.p2).form
              have HRS0 := Lib.hid hrS
              clear hM hz hrS
              go_wp2_with fail
              refine (hPopS B _ R M _ hs HM.out (by omega) HHR.out).mono ?_
              rintro e w5 ⟨x, rfl, v5, ys, hp5, hyl, hmn5, hh5, hs⟩
              have HP5 := Lib.hid hp5
              have HYL := Lib.hid hyl
              have HH5 := Lib.hid hh5
              have HX1 : Hid (x.1 = (S : Int)) := Lib.hid (by
                have h1 := HMR.out x (hp5.mem_iff.1 (by simp))
                have h2 := hmn5 _ HEX.out.1
                have h3 : keyS x = x.1 := rfl
                have h4 : keyS (ht R 0) = (ht R 0).1 := rfl
                have h5 := HEX.out.2
                have h6 := HRS0.out
                omega)
              have ta := assertS x
              dsimp only [aggS] at ta ⊢
              clear hp5 hyl hmn5 hh5 c0 hc1
              go_wp2_with (at_builtin; refine wp_app1MS rfl rfl 64 32 4 (.agg #[.int .i64 0, .int .i64 0, .int .i64 0, .int .i64 0]) Try.underlying61 infS rfl (by decide) (encS x) rfl (hs.bring2.alloc _) rfl (fun i hi => by have : i = 0 ∨ i = 1 ∨ i = 2 ∨ i = 3 := (by omega); rcases this with rfl | rfl | rfl | rfl <;> exact World.cell?_alloc_at _ _ _ _ rfl) (fun i hi => oneES _ i) (by omega) (by unfold maxLen; omega) ?_; intro v6 w6 hs)
              have hs := (hs.congrM (c' := hcC encS (G ++ [x])) (fun i j hi _ => hcS_snoc _ _ G.length i j rfl hi)).push2
              go_roundg (M + 1)
              case measure => have := HM.out; omega
              case rel =>
                have hl := HYL.out
                refine ⟨G ++ [x], ys, v5, by omega, by rw [List.length_append, List.length_singleton]; have := HM.out; omega, Lib.hid ?_, Lib.hid (fun y hy => ?_), by rw [HYL.out]; exact HH5, ?_⟩
                · rw [List.append_assoc]
                  exact (HP5.out.append_left G).trans HGR.out
                · rcases List.mem_append.1 hy with h1 | h1
                  · exact HG.out y h1
                  · rw [List.mem_singleton] at h1; rw [h1]; exact HX1.out
                · rw [HYL.out, List.length_append, List.length_singleton]; exact hs
            · have HR : Hid (∀ x ∈ R, x.1 ≠ (S : Int)) := Lib.hid (fun x hx => by have := HMR.out x hx; omega)
              have e1 : (r0 == (S : Int)) = false := by simp [hrS]
              clear hrS
              have hpA : (G ++ R).Perm (actS k σ) := HGR.out.trans HQ.out
              have HRS2 : Hid (runS k (iniS seeds) (S + 1) = stpS k (S : Int) σ) := Lib.hid (by rw [← HRS.out]; rfl)
              by_cases g1 : G.length = 1
              · obtain ⟨kk, hkk, hGe, hRp, hset⟩ := step_one (t := (S : Int)) (by omega) hpA HG.out HR.out g1
                subst hGe
                have HRP := Lib.hid hRp
                have HSET := Lib.hid hset
                obtain ⟨ag, cg, rfl, -⟩ := (OwnM.rd hs.p2).form
                obtain ⟨gg, rfl, -, hcg, -⟩ := OwnM.at_ hs.p2 (i := 0) (by simp)
                have hc1 : _ = some (Value.int .i64 (kk : Int)) := hcg 1 (by decide)
                rw [show 0 * 4 + 1 = 1 from rfl] at hc1
                obtain ⟨gD, rfl, -, -, hcD, hfD⟩ := OwnK.at_ hs.p3 hkk
                have kk1 : (kk : Int) < (k : Int) := by omega
                have kk0 : (0 : Int) ≤ (kk : Int) := by omega
                clear hcg hpA g1 hset hRp
                go_wp2
                go_roundg (400 - S)
                case measure => omega
                case rel =>
                  have h2 := (hs.bring3.setOwn hkk (S : Int)).drop3
                  rw [HSET.out, ← HRS2.out] at h2
                  exact ⟨S + 1, R, .slice (some ⟨gq, 0, none⟩) R.length cv, by omega, by omega, by rw [HRS2.out]; exact HRP, HHR, h2.push2⟩
              · obtain ⟨hRp, hset⟩ := step_many (t := (S : Int)) hpA HG.out HR.out g1
                have HRP := Lib.hid hRp
                have HSET := Lib.hid hset
                have HBND : Hid (∀ x ∈ G, 0 ≤ x.2.2.1 ∧ x.2.2.1 ≤ 2047 ∧ 0 ≤ x.2.2.2 ∧ x.2.2.2 ≤ 400) := Lib.hid (fun x hx => by
                  obtain ⟨m, hm, -, rfl⟩ := act_mem (hpA.mem_iff.1 (List.mem_append_left _ hx))
                  have h1 := HOKs.out.s m hm
                  have h2 := HOKs.out.f m hm
                  exact ⟨h1.1, h1.2, h2.1, by show (σ m).f ≤ 400; omega⟩)
                obtain ⟨ag, cg, rfl, -⟩ := (OwnM.rd hs.p2).form
                have e9 : ((G.length : Int) == 1) = false := by simp; omega
                generalize hgn : G.length = gn at *
                have HGN := Lib.hid hgn
                clear hpA hset hRp g1 hgn
                go_wp2
                clear c0
                go_loopw [83] (fun ii wr => ∃ (q : Nat) (Q2 : List Sn) (v2 : Value), q ≤ gn ∧ ii = .int .i64 q ∧ Q2.length = q + R.length ∧ Hid (Q2.Perm ((G.take q).map (frS (S : Int)) ++ R)) ∧ Hid (HeapK (keyK keyS Q2) Q2.length) ∧
                  SH none w wr [blkP B #[v2] 62, ownMP 4 64 v2 Q2.length (hcC encS Q2), ownMP 4 64 (.slice ag gn cg) gn (hcC encS G), ownP .i64 3 (.slice aD k cD) (lst Sd.o k (σ)), rdP .i64 (.slice a k ca) seeds]) (fun ii _ => gn - (intOf ii).toNat)
                case atStart => exact ⟨0, R, .slice (some ⟨gq, 0, none⟩) R.length cv, Nat.zero_le _, rfl, by omega, Lib.hid (by simp), HHR, hs⟩
                case round =>
                  clear hs
                  obtain ⟨q, Q2, v2, hq, rfl, hQ2, HQ2, HHQ, hs⟩ := hrel
                  by_cases hql : q < gn
                  · have hxm : ht G q ∈ G := ht_mem (by rw [HGN.out]; exact hql)
                    have hx1 := HG.out _ hxm
                    obtain ⟨b0, b1, b2, b3⟩ := HBND.out _ hxm
                    have HTK : Hid ((G.take (q + 1)).map (frS (S : Int)) = (G.take q).map (frS (S : Int)) ++ [frS (S : Int) (ht G q)]) := Lib.hid (by
                      rw [List.take_succ_eq_append_getElem (by rw [HGN.out]; exact hql), List.map_append, ht_get (by rw [HGN.out]; exact hql)]; rfl)
                    obtain ⟨gg, rfl, -, hcg, -⟩ := OwnM.at_ hs.p2 hql
                    have d0 : _ = some (Value.int .i64 (ht G q).1) := hcg 0 (by decide)
                    have d1 : _ = some (Value.int .i64 (ht G q).2.1) := hcg 1 (by decide)
                    have d2 : _ = some (Value.int .i64 (ht G q).2.2.1) := hcg 2 (by decide)
                    have d3 : _ = some (Value.int .i64 (ht G q).2.2.2) := hcg 3 (by decide)
                    rw [Nat.add_zero] at d0
                    clear hcg hxm
                    obtain ⟨x, hx⟩ : ∃ x, ht G q = x := ⟨_, rfl⟩
                    rw [hx] at d0 d1 d2 d3 hx1 b0 b1 b2 b3 HTK
                    clear hx
                    obtain ⟨x1, x2, x3, x4⟩ := x
                    obtain rfl : x1 = (S : Int) := hx1
                    dsimp only at d0 d1 d2 d3 b0 b1 b2 b3
                    have hs2 := hs.allocP (celS ((S : Int), x2, x3, x4)) 64
                    go_wp2_with fail
                    refine (fail_s wr.heap.size ((S : Int), x2, x3, x4) _ hs2 b0 b1 b2 (by dsimp only; omega) (by dsimp only; omega) (by dsimp only; omega)).mono ?_
                    rintro e w6 ⟨rfl, hs⟩
                    clear d0 d1 d2 d3 hs2
                    generalize wr.heap.size = NB at *
                    obtain ⟨d0, d1, d2, d3, -⟩ := blk4 hs.p0
                    go_wp2_with fail
                    refine (hPushS B v2 Q2 Q2.length (frS (S : Int) ((S : Int), x2, x3, x4)) _ hs.drop0 rfl (by omega) HHQ.out).mono ?_
                    rintro e w7 ⟨rfl, v7, Q7, hp7, hh7, hs⟩
                    have HP7 := Lib.hid hp7
                    have HH7 := Lib.hid hh7
                    have hl7 : Q7.length = Q2.length + 1 := by rw [hp7.length_eq]; rfl
                    clear hp7 hh7 d0 d1 d2 d3
                    rw [← hl7] at hs HH7
                    go_wp2
                    go_roundw
                    case rel =>
                      refine ⟨q + 1, Q7, v7, hql, by go_num, by omega, Lib.hid ?_, HH7, hs⟩
                      rw [HTK.out]
                      refine HP7.out.trans ((HQ2.out.cons _).trans ?_)
                      rw [List.append_assoc]
                      exact (List.perm_middle).symm
                    case measure => simp [intOf]; omega
                  · obtain rfl : q = gn := by omega
                    have hfull : G.take q = G := by rw [← HGN.out, List.take_length]
                    have HQ3 : Hid (Q2.Perm (actS k (stpS k (S : Int) σ))) := Lib.hid (by have := HQ2.out; rw [hfull] at this; exact this.trans HRP.out)
                    clear hfull
                    go_wp2
                    go_roundg (400 - S)
                    case measure => omega
                    case rel =>
                      rw [HSET.out, ← HRS2.out] at hs
                      exact ⟨S + 1, Q2, v2, by omega, by omega, by rw [HRS2.out]; exact HQ3, HHQ, hs.drop2⟩
end Go.Proofs.Ytdfinlpfkmmpkaa
