import Derived.Test.YtdfinlpfkmmpkaaProg
import Derived.Test.YtdfinlpfkmmpkaaAcc
import Derived.Test.YtdfinlpfkmmpkaaSym
import Derived.Test.YtdfinlpfkmmpkaaApp
import Derived.Test.YtdfinlpfkmmpkaaBlk
import Derived.StillTailTactics
namespace Go.Proofs.Ytdfinlpfkmmpkaa
open Go.RowKit

/-! The reference's AccessRun. -/
def lst (p : Sd → Int) (n : Nat) (σ : Nat → Sd) : List Int := (List.range n).map fun k => p (σ k)
theorem lst_len (p : Sd → Int) (n : Nat) (σ : Nat → Sd) : (lst p n σ).length = n := by simp [lst]
theorem lst_gi {p : Sd → Int} {n : Nat} {σ : Nat → Sd} {k : Nat} (h : k < n) : gi (lst p n σ) k = p (σ k) := by simp [gi, lst, h]
theorem lst_set {p : Sd → Int} {n : Nat} {σ σ' : Nat → Sd} {k : Nat} (hk : k < n) (h : ∀ j, j ≠ k → σ' j = σ j) : (lst p n σ).set k (p (σ' k)) = lst p n σ' := by
  refine gi_ext (by simp [lst]) fun j hj => ?_
  rw [List.length_set, lst_len] at hj
  rw [gi_set (by rw [lst_len]; exact hk), lst_gi (σ := σ') hj]
  split
  · next e => subst e; rfl
  · next e => rw [lst_gi hj, h j e]
theorem lst_same {p : Sd → Int} {n : Nat} {σ σ' : Nat → Sd} (h : ∀ j, j < n → p (σ' j) = p (σ j)) : lst p n σ = lst p n σ' := by
  unfold lst
  apply List.map_congr_left
  intro j hj
  exact (h j (List.mem_range.1 hj)).symm
theorem lst_ini (seeds : List Int) : lst Sd.s seeds.length (iniS seeds) = seeds ∧ lst Sd.w seeds.length (iniS seeds) = List.replicate seeds.length 0 ∧ lst Sd.f seeds.length (iniS seeds) = List.replicate seeds.length 0 ∧ lst Sd.o seeds.length (iniS seeds) = List.replicate seeds.length (-1) := by
  refine ⟨gi_ext (lst_len _ _ _) fun i hi => ?_, gi_ext (by simp [lst]) fun i hi => ?_, gi_ext (by simp [lst]) fun i hi => ?_, gi_ext (by simp [lst]) fun i hi => ?_⟩
  all_goals
    rw [lst_len] at hi
    rw [lst_gi hi]
    simp [iniS, gi, hi]
def updS (n : Nat) (t : Int) (σ : Nat → Sd) (i : Nat) : Nat → Sd := fun k => if k ∈ (grpS n σ t).take i then stpS n t σ k else σ k
theorem updS_zero (n : Nat) (t : Int) (σ : Nat → Sd) : updS n t σ 0 = σ := by funext k; simp [updS]
theorem updS_done (n : Nat) (t : Int) (σ : Nat → Sd) : updS n t σ (grpS n σ t).length = stpS n t σ := by
  funext k
  unfold updS
  rw [List.take_length]
  split
  · rfl
  · next h =>
    unfold stpS
    rw [if_neg (fun hd => h (mem_grpS.2 hd))]
theorem grp_nodup (n : Nat) (σ : Nat → Sd) (t : Int) : (grpS n σ t).Nodup := List.nodup_range.filter _
theorem updS_new {n : Nat} {t : Int} {σ : Nat → Sd} {i k : Nat} (hk : (grpS n σ t)[i]? = some k) : dueS n σ t k = true ∧ updS n t σ i k = σ k ∧ updS n t σ (i + 1) k = stpS n t σ k ∧ ∀ j, j ≠ k → updS n t σ (i + 1) j = updS n t σ i j := by
  obtain ⟨hi, hk'⟩ := List.getElem?_eq_some_iff.1 hk
  have hm : k ∈ grpS n σ t := hk' ▸ List.getElem_mem hi
  have ht : (grpS n σ t).take (i + 1) = (grpS n σ t).take i ++ [k] := by rw [List.take_add_one, hk]; rfl
  have hn : k ∉ (grpS n σ t).take i := by
    have hnd : ((grpS n σ t).take (i + 1)).Nodup := (grp_nodup n σ t).sublist (List.take_sublist _ _)
    rw [ht, List.nodup_append] at hnd
    exact fun h => hnd.2.2 k h k (by simp) rfl
  refine ⟨mem_grpS.1 hm, by unfold updS; rw [if_neg hn], by unfold updS; rw [if_pos (by rw [ht]; simp)], fun j hj => ?_⟩
  unfold updS
  rw [ht]
  simp [hj]
def gI (n : Nat) (σ : Nat → Sd) (t : Int) (k : Nat) : List Int := ((List.range k).filter (dueS n σ t)).map fun (k : Nat) => (k : Int)
theorem gI_all (n : Nat) (σ : Nat → Sd) (t : Int) : gI n σ t n = (grpS n σ t).map fun (k : Nat) => (k : Int) := rfl
theorem gI_yes {n : Nat} {σ : Nat → Sd} {t : Int} {k : Nat} (h : dueS n σ t k = true) : gI n σ t (k + 1) = gI n σ t k ++ [(k : Int)] := by simp [gI, List.range_succ, List.filter_append, h]
theorem gI_no {n : Nat} {σ : Nat → Sd} {t : Int} {k : Nat} (h : ¬ dueS n σ t k = true) : gI n σ t (k + 1) = gI n σ t k := by simp [gI, List.range_succ, List.filter_append, h]
theorem gI_le (n : Nat) (σ : Nat → Sd) (t : Int) (k : Nat) : (gI n σ t k).length ≤ k := by
  unfold gI
  rw [List.length_map]
  exact Nat.le_trans (List.length_filter_le _ _) (by simp)
theorem gI_gi {n : Nat} {σ : Nat → Sd} {t : Int} {i : Nat} (hi : i < (grpS n σ t).length) : ∃ k : Nat, (grpS n σ t)[i]? = some k ∧ gi (gI n σ t n) i = (k : Int) ∧ k < n := by
  refine ⟨(grpS n σ t)[i], List.getElem?_eq_getElem hi, ?_, ?_⟩
  · rw [gI_all]; simp [gi, hi]
  · exact (dueS_true.1 (mem_grpS.1 (List.getElem_mem hi))).1
theorem acV_no {seeds : List Int} (h : acB seeds = false) : acV seeds = [] := by simp [acV, h]
theorem acB_long {seeds : List Int} (h : 8 < seeds.length) : acB seeds = false := by
  cases hb : acB seeds
  · rfl
  · have := (acB_true.1 hb).1; omega
theorem acB_bad {seeds : List Int} {k : Nat} (hk : k < seeds.length) (h : inB (gi seeds k) 0 2047 = false) : acB seeds = false := by
  cases hb : acB seeds
  · rfl
  · exact absurd ((acB_true.1 hb).2 k hk) (inB_false.1 h)

set_option maxRecDepth 100000 in
set_option maxHeartbeats 8000000 in
theorem specAccessRun_c (va : Value) (seeds : List Int) (w : World) (h : RdI w va seeds) :
    Calls Try.prog 37 #[va] w (Ret w fun v w' => OwnI w' w.heap.size 3 v (acV seeds)) := by
  obtain ⟨a, ca, rfl, ml⟩ := h.form
  have hs := SH.start w [rdP .i64 (.slice a seeds.length ca) seeds] (by simp only [List.forall_mem_cons]; exact ⟨⟨h, rdP_wr⟩, by simp⟩)
  clear h
  by_cases hl : 8 < seeds.length
  · have HN := Lib.hid (acV_no (acB_long hl))
    go_enter Try.func37, Try.ntmps37
    go_wp2
    have hs := hs.ownEmpty .i64 3
    go_ret
    exact Ret.mk1 (by rw [HN.out]; exact SH.ownRet hs) hs.done
  go_enter Try.func37, Try.ntmps37
  go_wp2
  go_loopw [3] (fun i wr => ∃ k : Nat, k ≤ seeds.length ∧ i = .int .i64 k ∧ Hid (∀ j, j < k → inB (gi seeds j) 0 2047 = true) ∧ SH none w wr [rdP .i64 (.slice a seeds.length ca) seeds]) (fun i _ => seeds.length - (intOf i).toNat)
  case atStart => exact ⟨0, Nat.zero_le _, rfl, Lib.hid (fun j h => absurd h (Nat.not_lt_zero _)), hs⟩
  case round =>
    clear hs
    obtain ⟨k, hk, rfl, HV, hs⟩ := hrel
    by_cases hlt : k < seeds.length
    · obtain ⟨b, o, rfl, hc⟩ := RdK.at_ hs.p0 hlt
      go_wp2_with fail
      refine (l1In_x (gi seeds k) 0 2047 _).mono ?_
      rintro e w' ⟨rfl, rfl⟩
      cases hb : inB (gi seeds k) 0 2047
      · have HN := Lib.hid (acV_no (acB_bad hlt hb))
        clear hb
        go_wp2
        have hs := hs.ownEmpty .i64 3
        go_ret
        exact Ret.mk1 (by rw [HN.out]; exact SH.ownRet hs) hs.done
      · have HB := Lib.hid hb
        clear hb
        go_wp2
        go_roundw
        case rel =>
          refine ⟨k + 1, hlt, by go_num, Lib.hid (fun j hj => ?_), hs⟩
          rcases Nat.lt_succ_iff_lt_or_eq.1 hj with h1 | rfl
          · exact HV.out j h1
          · exact HB.out
        case measure => simp [intOf]; omega
    · obtain rfl : k = seeds.length := by omega
      have hac : acB seeds = true := acB_true.2 ⟨by omega, fun k hk => inB_true.1 (HV.out k hk)⟩
      have HOK : Hid (∀ t : Nat, OkS seeds.length (t : Int) (runS seeds.length (iniS seeds) t)) := Lib.hid (OkS.run hac)
      have HAC : Hid (acV seeds = outL seeds.length (runS seeds.length (iniS seeds) 400)) := Lib.hid (by unfold acV; rw [if_pos hac])
      have HINI := Lib.hid (lst_ini seeds)
      clear hac
      generalize hn : seeds.length = n at *
      go_wp2_with (first | (at_builtin; refine wp_appKX rfl rfl .i64 3 8 Try.underlying28 info_int rfl (hs.ownEmpty .i64 3) rfl (hs.ownEmpty .i64 3).p1 (by rw [hn]; simp; omega) (by rw [hn]; unfold maxLen; simp; omega) ?_; intro v1 w1 hs; rw [List.nil_append] at hs; obtain ⟨aN, cN, rfl, -⟩ := (OwnK.rd hs.p0).form) | (at_make; refine wp_makeK rfl rfl .i64 _ 3 8 Try.underlying28 info_int n rfl rfl rfl rfl (by omega) (by unfold maxLen; omega) (Nat.le_refl _) ?_; intro w3 hown hg hsz; have hs := hs.pushOwn (below_of_grown hg) hown; clear hown hg hsz))
      rw [hn] at hs
      obtain ⟨aF, cF, hE, -⟩ := (OwnK.rd hs.p0).form
      rw [hE, List.length_replicate] at hs
      rw [hE, List.length_replicate]
      clear hE
      obtain ⟨aW, cW, hE, -⟩ := (OwnK.rd hs.p1).form
      rw [hE, List.length_replicate] at hs
      rw [hE, List.length_replicate]
      clear hE
      have hs2 : SH none w w3 [ownP .i64 3 (.slice aF n cF) (lst Sd.f n (iniS seeds)), ownP .i64 3 (.slice aW n cW) (lst Sd.w n (iniS seeds)), ownP .i64 3 (.slice aN n cN) (lst Sd.s n (iniS seeds)), rdP .i64 (.slice a n ca) seeds] := by
        rw [HINI.out.2.2.1, HINI.out.2.1, HINI.out.1]; exact hs
      have hs := hs2.ownEmpty .i64 3
      clear hs2
      go_loopw [7, 8] (fun o i wr => ∃ k : Nat, k ≤ n ∧ i = .int .i64 k ∧ SH none w wr [ownP .i64 3 o (List.replicate k (-1)), ownP .i64 3 (.slice aF n cF) (lst Sd.f n (iniS seeds)), ownP .i64 3 (.slice aW n cW) (lst Sd.w n (iniS seeds)), ownP .i64 3 (.slice aN n cN) (lst Sd.s n (iniS seeds)), rdP .i64 (.slice a n ca) seeds]) (fun _ i _ => n - (intOf i).toNat)
      case atStart => exact ⟨0, Nat.zero_le _, rfl, hs⟩
      case round =>
        clear hs
        obtain ⟨k, hk, rfl, hs⟩ := hrel
        by_cases hlt : k < n
        · go_wp2_with (at_builtin; refine wp_app1S rfl rfl .i64 3 8 Try.underlying28 info_int (-1) rfl (hs.alloc _) rfl (World.cell?_alloc_at _ _ _ _ rfl) (by simp; omega) (by simp; unfold maxLen; omega) ?_; intro v2 w2 hs)
          rw [show List.replicate k (-1 : Int) ++ [-1] = List.replicate (k + 1) (-1) from by rw [List.replicate_succ']] at hs
          go_roundw
          case rel => exact ⟨k + 1, hlt, by go_num, hs⟩
          case measure => simp [intOf]; omega
        · obtain rfl : k = n := by omega
          obtain ⟨aO, cO, rfl, -⟩ := (OwnK.rd hs.p0).form
          rw [List.length_replicate] at hs ⊢
          rw [← HINI.out.2.2.2] at hs
          go_wp2
          go_loopw [9] (fun i wr => ∃ t : Nat, t ≤ 400 ∧ i = .int .i64 t ∧ SH none w wr [ownP .i64 3 (.slice aO k cO) (lst Sd.o k (runS k (iniS seeds) t)), ownP .i64 3 (.slice aF k cF) (lst Sd.f k (runS k (iniS seeds) t)), ownP .i64 3 (.slice aW k cW) (lst Sd.w k (runS k (iniS seeds) t)), ownP .i64 3 (.slice aN k cN) (lst Sd.s k (runS k (iniS seeds) t)), rdP .i64 (.slice a k ca) seeds]) (fun i _ => 400 - (intOf i).toNat)
          case atStart => exact ⟨0, by omega, rfl, hs⟩
          case round =>
            clear hs
            obtain ⟨t, ht, rfl, hs⟩ := hrel
            by_cases htl : t < 400
            case neg =>
              obtain rfl : t = 400 := by omega
              go_wp2
              go_ret
              exact Ret.mk1 (by rw [HAC.out]; exact SH.ownRet hs) hs.done
            have hok := HOK.out t
            have HST : Hid (stpS k (t : Int) (runS k (iniS seeds) t) = runS k (iniS seeds) (t + 1)) := Lib.hid rfl
            generalize runS k (iniS seeds) t = σ at *
            have HO := Lib.hid hok
            clear hok
            go_wp2
            rw [decide_eq_true (show (t : Int) < 400 by omega)]
            have hs := hs.ownEmpty .i64 3
            go_loopw [10, 11] (fun o i wr => ∃ j : Nat, j ≤ k ∧ i = .int .i64 j ∧ SH none w wr [ownP .i64 3 o (gI k σ t j), ownP .i64 3 (.slice aO k cO) (lst Sd.o k (σ)), ownP .i64 3 (.slice aF k cF) (lst Sd.f k (σ)), ownP .i64 3 (.slice aW k cW) (lst Sd.w k (σ)), ownP .i64 3 (.slice aN k cN) (lst Sd.s k (σ)), rdP .i64 (.slice a k ca) seeds]) (fun _ i _ => k - (intOf i).toNat)
            case atStart => exact ⟨0, Nat.zero_le _, rfl, hs⟩
            case round =>
              clear hs
              obtain ⟨j, hj, rfl, hs⟩ := hrel
              have HGL := Lib.hid (gI_le k σ t j)
              by_cases hjl : j < k
              · obtain ⟨gO, rfl, -, -, hco, -⟩ := OwnK.at_ hs.p1 hjl
                obtain ⟨gW, rfl, -, -, hcw, -⟩ := OwnK.at_ hs.p3 hjl
                rw [lst_gi hjl] at hco hcw
                have j1 : (j : Int) < (k : Int) := by omega
                by_cases q1 : (σ j).o < 0
                · by_cases q2 : (σ j).w = (t : Int)
                  · have HD := Lib.hid (gI_yes (dueS_true.2 ⟨hjl, q1, q2⟩))
                    have e2 : ((σ j).w == (t : Int)) = true := by simp [q2]
                    clear q2
                    go_wp2_with (at_builtin; refine wp_app1S rfl rfl .i64 3 8 Try.underlying28 info_int (j : Int) rfl (hs.alloc _) rfl (World.cell?_alloc_at _ _ _ _ rfl) (by have := HGL.out; omega) (by have := HGL.out; unfold maxLen; omega) ?_; intro v2 w2 hs)
                    rw [← HD.out] at hs
                    go_roundw
                    case rel => exact ⟨j + 1, hjl, by go_num, hs⟩
                    case measure => simp [intOf]; omega
                  · have HD := Lib.hid (gI_no (n := k) (σ := σ) (t := (t : Int)) (k := j) (fun h => q2 (dueS_true.1 h).2.2))
                    have e2 : ((σ j).w == (t : Int)) = false := by simp [q2]
                    clear q2
                    rw [← HD.out] at hs
                    go_wp2
                    go_roundw
                    case rel => exact ⟨j + 1, hjl, by go_num, hs⟩
                    case measure => simp [intOf]; omega
                · have HD := Lib.hid (gI_no (n := k) (σ := σ) (t := (t : Int)) (k := j) (fun h => q1 (dueS_true.1 h).2.1))
                  rw [← HD.out] at hs
                  go_wp2
                  go_roundw
                  case rel => exact ⟨j + 1, hjl, by go_num, hs⟩
                  case measure => simp [intOf]; omega
              · obtain rfl : j = k := by omega
                have HUD := Lib.hid (updS_done j (t : Int) σ)
                have hgl : (gI j σ t j).length = (grpS j σ t).length := by rw [gI_all, List.length_map]
                have hlb : (grpS j σ t).length ≤ j := by rw [← hgl]; exact HGL.out
                obtain ⟨aG, cG, rfl, -⟩ := (OwnK.rd hs.p0).form
                rw [hgl] at hs ⊢
                have hs0 : SH none w wr [ownP .i64 3 (.slice aG (grpS j σ t).length cG) (gI j σ t j), ownP .i64 3 (.slice aO j cO) (lst Sd.o j (updS j t σ 0)), ownP .i64 3 (.slice aF j cF) (lst Sd.f j (updS j t σ 0)), ownP .i64 3 (.slice aW j cW) (lst Sd.w j (updS j t σ 0)), ownP .i64 3 (.slice aN j cN) (lst Sd.s j (updS j t σ 0)), rdP .i64 (.slice a j ca) seeds] := by rw [updS_zero]; exact hs
                clear hs hgl
                generalize hgn : (grpS j σ t).length = gn at *
                go_wp2
                go_loopw [12] (fun i wr => ∃ q : Nat, q ≤ gn ∧ i = .int .i64 q ∧ SH none w wr [ownP .i64 3 (.slice aG gn cG) (gI j σ t j), ownP .i64 3 (.slice aO j cO) (lst Sd.o j (updS j t σ q)), ownP .i64 3 (.slice aF j cF) (lst Sd.f j (updS j t σ q)), ownP .i64 3 (.slice aW j cW) (lst Sd.w j (updS j t σ q)), ownP .i64 3 (.slice aN j cN) (lst Sd.s j (updS j t σ q)), rdP .i64 (.slice a j ca) seeds]) (fun i _ => gn - (intOf i).toNat)
                case atStart => exact ⟨0, Nat.zero_le _, rfl, hs0⟩
                case round =>
                  clear hs0
                  obtain ⟨q, hq, rfl, hs⟩ := hrel
                  by_cases hql : q < gn
                  · obtain ⟨kk, hkk, hgi, hkn⟩ := gI_gi (n := j) (σ := σ) (t := (t : Int)) (i := q) (by rw [hgn]; exact hql)
                    obtain ⟨hd, hu0, hu1, hu2⟩ := updS_new hkk
                    have HK := Lib.hid hkk
                    clear hkk
                    obtain ⟨hs0, hs1⟩ := HO.out.s kk hkn
                    obtain ⟨hf0, hf1⟩ := HO.out.f kk hkn
                    obtain ⟨gG, rfl, -, -, hcG, -⟩ := OwnK.at_ hs.p0 hql
                    obtain ⟨gO, rfl, -, -, hcO, hfO⟩ := OwnK.at_ hs.p1 hkn
                    rw [hgi] at hcG
                    have kk0 : (0 : Int) ≤ (kk : Int) := by omega
                    have kk1 : (kk : Int) < (j : Int) := by omega
                    have q1 : (q : Int) < (gn : Int) := by omega
                    by_cases h1 : gn = 1
                    · have hst : stpS j (t : Int) σ kk = { σ kk with o := (t : Int) } := by
                        unfold stpS; rw [if_pos hd, if_pos (by rw [hgn]; exact h1)]
                      have HLo : Hid ((lst Sd.o j (updS j t σ q)).set kk (t : Int) = lst Sd.o j (updS j t σ (q + 1))) := Lib.hid (by
                        have := lst_set (p := Sd.o) hkn hu2
                        rw [hu1, hst] at this; exact this)
                      have hsame : ∀ (p : Sd → Int), (∀ x : Sd, p { x with o := (t : Int) } = p x) → lst p j (updS j t σ q) = lst p j (updS j t σ (q + 1)) := fun p hp => lst_same (fun m hm => by
                        by_cases e : m = kk
                        · subst e; rw [hu1, hu0, hst]; exact hp _
                        · rw [hu2 m e])
                      have HLf := Lib.hid (hsame Sd.f (fun _ => rfl))
                      have HLw := Lib.hid (hsame Sd.w (fun _ => rfl))
                      have HLs := Lib.hid (hsame Sd.s (fun _ => rfl))
                      have e1 : ((gn : Int) == 1) = true := by simp [h1]
                      have H1 := Lib.hid h1
                      clear hsame hst h1 hu0 hu1 hu2 hd hgi
                      go_wp2
                      go_roundw
                      case rel =>
                        have h2 := (hs.bring1.setOwn hkn (t : Int)).bring1
                        rw [HLo.out, HLf.out, HLw.out, HLs.out] at h2
                        exact ⟨q + 1, hql, by go_num, h2⟩
                      case measure => simp [intOf]; omega
                    · have hst : stpS j (t : Int) σ kk = flS t (σ kk) := by
                        unfold stpS; rw [if_pos hd, if_neg (by rw [hgn]; exact h1)]
                      have HLf : Hid ((lst Sd.f j (updS j t σ q)).set kk ((σ kk).f + 1) = lst Sd.f j (updS j t σ (q + 1))) := Lib.hid (by
                        have := lst_set (p := Sd.f) hkn hu2
                        rw [hu1, hst] at this; exact this)
                      have HLs : Hid ((lst Sd.s j (updS j t σ q)).set kk (nxS (σ kk).s) = lst Sd.s j (updS j t σ (q + 1))) := Lib.hid (by
                        have := lst_set (p := Sd.s) hkn hu2
                        rw [hu1, hst] at this; exact this)
                      have HLw : Hid ((lst Sd.w j (updS j t σ q)).set kk ((t : Int) + (1 + bkS (nxS (σ kk).s) (min ((σ kk).f + 1) 100))) = lst Sd.w j (updS j t σ (q + 1))) := Lib.hid (by
                        have := lst_set (p := Sd.w) hkn hu2
                        rw [hu1, hst] at this; exact this)
                      have HLo : Hid (lst Sd.o j (updS j t σ q) = lst Sd.o j (updS j t σ (q + 1))) := Lib.hid (lst_same (fun m hm => by
                        by_cases e : m = kk
                        · subst e; rw [hu1, hu0, hst]; rfl
                        · rw [hu2 m e]))
                      have HF : Hid (gi (lst Sd.f j (updS j t σ q)) kk = (σ kk).f ∧ gi (lst Sd.s j (updS j t σ q)) kk = (σ kk).s) := Lib.hid ⟨by rw [lst_gi hkn, hu0], by rw [lst_gi hkn, hu0]⟩
                      have e1 : ((gn : Int) == 1) = false := by simp; omega
                      have hbk := bkS_bd (s := nxS (σ kk).s) (a := min ((σ kk).f + 1) 100) nxS_bd.1 (by omega)
                      obtain ⟨hn0, hn1⟩ := nxS_bd (s := (σ kk).s)
                      obtain ⟨gF, rfl, -, -, hcF, hfF⟩ := OwnK.at_ hs.p2 hkn
                      obtain ⟨gW, rfl, -, -, hcW, hfW⟩ := OwnK.at_ hs.p3 hkn
                      obtain ⟨gN, rfl, -, -, hcN, hfN⟩ := OwnK.at_ hs.p4 hkn
                      rw [HF.out.1] at hcF
                      have hx1 := hs.bring2.setOwn hkn ((σ kk).f + 1)
                      obtain ⟨g2, he2, -, -, hcN1, hfN1⟩ := OwnK.at_ hx1.p4 hkn
                      cases he2
                      rw [HF.out.2] at hcN1
                      clear hst hu0 hu1 hu2 hd hgi hcO hfO
                      obtain ⟨sv, hsv⟩ : ∃ x, (σ kk).s = x := ⟨_, rfl⟩
                      obtain ⟨fv, hfv⟩ : ∃ x, (σ kk).f = x := ⟨_, rfl⟩
                      rw [hsv] at hs0 hs1 hcN1 HLs HLw hbk hn0 hn1
                      rw [hfv] at hf0 hf1 hcF HLf HLw hbk hx1 hcN1 hfN1
                      clear hsv hfv
                      go_wp2_with fail
                      refine (specNextSeed_x sv _ hs0 hs1).mono ?_
                      rintro e w' ⟨rfl, rfl⟩
                      go_wp2
                      have hx2 := hx1.bring4.setOwn hkn (nxS sv)
                      have hl1 : kk < (lst Sd.f j (updS j t σ q)).length := by rw [lst_len]; exact hkn
                      have hl2 : kk < (lst Sd.s j (updS j t σ q)).length := by rw [lst_len]; exact hkn
                      clear hcF hcW hcN hfF hfW hfN hcN1 hfN1 hcG hx1 hs
                      generalize (wr.setCell ⟨gF, kk, none⟩ (.int .i64 (fv + 1))).setCell ⟨gN, kk, none⟩ (.int .i64 (nxS sv)) = W2 at *
                      obtain ⟨g2, he2, -, -, hcN, -⟩ := OwnK.at_ hx2.p0 hkn
                      cases he2
                      obtain ⟨g2, he2, -, -, hcF, -⟩ := OwnK.at_ hx2.p1 hkn
                      cases he2
                      obtain ⟨g2, he2, -, -, hcW, hfW⟩ := OwnK.at_ hx2.p4 hkn
                      cases he2
                      rw [gi_set hl2, if_pos rfl] at hcN
                      rw [gi_set hl1, if_pos rfl] at hcF
                      clear hl1 hl2
                      by_cases hfm : fv + 1 ≤ 100
                      · have HM : Hid (min (fv + 1) 100 = fv + 1) := Lib.hid (by omega)
                        rw [HM.out] at hbk HLw
                        obtain ⟨hbk0, hbk1⟩ := hbk
                        have hnl : ¬ (100 < fv + 1) := by omega
                        refine wp_region_still_tail 16 (by kernel_rfl) (by kernel_rfl) ?_
                        simp only [List.take_succ_cons, List.take_zero, List.drop_succ_cons, List.drop_zero]
                        repeat still_step
                        still_call (specBackoff_x (nxS sv) (fv + 1) _ hn0 hn1 (by omega) (by omega))
                        repeat still_step
                        refine wpStill_nil ?_
                        change wpList _ _ _ _ _ W2.drew
                        go_wp2
                        go_roundw
                        case rel =>
                          have hx3 := (hx2.bring4.setOwn hkn ((t : Int) + (1 + bkS (nxS sv) (fv + 1)))).drew
                          have hx4 := (hx3.bring4.bring4.bring4).push2
                          rw [HLo.out, HLf.out, HLs.out, HLw.out] at hx4
                          refine ⟨q + 1, hql, by go_num, ?_⟩
                          rw [show (t : Int) + 1 + bkS (nxS sv) (fv + 1) = (t : Int) + (1 + bkS (nxS sv) (fv + 1)) by omega]
                          exact hx4
                        case measure => simp [intOf]; omega
                      · have HM : Hid (min (fv + 1) 100 = 100) := Lib.hid (by omega)
                        rw [HM.out] at hbk HLw
                        obtain ⟨hbk0, hbk1⟩ := hbk
                        have hnl : 100 < fv + 1 := by omega
                        refine wp_region_still_tail 16 (by kernel_rfl) (by kernel_rfl) ?_
                        simp only [List.take_succ_cons, List.take_zero, List.drop_succ_cons, List.drop_zero]
                        repeat still_step
                        still_call (specBackoff_x (nxS sv) (100) _ hn0 hn1 (by omega) (by omega))
                        repeat still_step
                        refine wpStill_nil ?_
                        change wpList _ _ _ _ _ W2.drew
                        go_wp2
                        go_roundw
                        case rel =>
                          have hx3 := (hx2.bring4.setOwn hkn ((t : Int) + (1 + bkS (nxS sv) (100)))).drew
                          have hx4 := (hx3.bring4.bring4.bring4).push2
                          rw [HLo.out, HLf.out, HLs.out, HLw.out] at hx4
                          refine ⟨q + 1, hql, by go_num, ?_⟩
                          rw [show (t : Int) + 1 + bkS (nxS sv) (100) = (t : Int) + (1 + bkS (nxS sv) (100)) by omega]
                          exact hx4
                        case measure => simp [intOf]; omega
                  · obtain rfl : q = gn := by omega
                    rw [HUD.out, HST.out] at hs
                    go_wp2
                    go_roundw
                    case rel => exact ⟨t + 1, by omega, by go_num, hs.drop0⟩
                    case measure => simp [intOf]; omega
end Go.Proofs.Ytdfinlpfkmmpkaa
