import Derived.Test.YtmhlnelnjnhcoaaProg
import Derived.Test.YtmhlnelnjnhcoaaLib
import Derived.Test.YtmhlnelnjnhcoaaMem
import Derived.Test.YtmhlnelnjnhcoaaSym
import Derived.Test.YtmhlnelnjnhcoaaDraw
import Derived.Test.YtmhlnelnjnhcoaaInts
import Derived.Test.YtmhlnelnjnhcoaaBlk
import Derived.Test.YtmhlnelnjnhcoaaFrag
import Derived.Test.YtmhlnelnjnhcoaaSplit
import Derived.Test.YtmhlnelnjnhcoaaIdx
import Derived.Test.YtmhlnelnjnhcoaaJoin
import Derived.Test.YtmhlnelnjnhcoaaMiss
import Derived.Test.YtmhlnelnjnhcoaaSplitEx
import Derived.Test.YtmhlnelnjnhcoaaJoinEx
import Derived.Test.YtmhlnelnjnhcoaaDrawFrag
import Derived.Test.YtmhlnelnjnhcoaaJoinLaw
namespace Go.Proofs.Ytmhlnelnjnhcoaa
open Go.RowKit

theorem missK_mem {fs : List Frag} {m : Int} : ∀ {N : Nat} {n : Int}, n ∈ missK fs m N → ∃ p : Nat, n = (p : Int) ∧ p < N ∧ hasP fs m p = false
  | 0, _, h => by simp [missK] at h
  | N + 1, n, h => by
    unfold missK at h
    split at h
    · obtain ⟨p, h1, h2, h3⟩ := missK_mem h
      exact ⟨p, h1, by omega, h3⟩
    · next hN =>
      rcases List.mem_append.1 h with h | h
      · obtain ⟨p, h1, h2, h3⟩ := missK_mem h
        exact ⟨p, h1, by omega, h3⟩
      · rw [List.mem_singleton] at h
        exact ⟨N, h, by omega, by simpa using hN⟩
theorem missK_asc (fs : List Frag) (m : Int) : ∀ N, (missK fs m N).Pairwise (· < ·)
  | 0 => by simp [missK]
  | N + 1 => by
    unfold missK
    split
    · exact missK_asc fs m N
    · refine List.pairwise_append.2 ⟨missK_asc fs m N, by simp, fun a ha b hb => ?_⟩
      rw [List.mem_singleton] at hb
      obtain ⟨p, h1, h2, h3⟩ := missK_mem ha
      omega
theorem missF_get {fs : List Frag} {m : Int} {k : Nat} (h : k < (missF fs m).length) : ∃ p : Nat, gi (missF fs m) k = (p : Int) ∧ p < 50 ∧ hasP fs m p = false := by
  have e : gi (missF fs m) k = (missF fs m)[k] := by simp [gi, h]
  rw [e]
  obtain ⟨p, h1, h2, h3⟩ := missK_mem (List.getElem_mem h)
  exact ⟨p, h1, Nat.lt_of_lt_of_le h2 (lastT_le fs m 50), h3⟩
theorem missF_asc {fs : List Frag} {m : Int} {k : Nat} (h : k + 1 < (missF fs m).length) : gi (missF fs m) k < gi (missF fs m) (k + 1) := by
  have e1 : gi (missF fs m) k = (missF fs m)[k] := by simp [gi, show k < (missF fs m).length by omega]
  have e2 : gi (missF fs m) (k + 1) = (missF fs m)[k + 1] := by simp [gi, h]
  rw [e1, e2]
  exact List.pairwise_iff_getElem.1 (missK_asc fs m (lastT fs m 50)) k (k + 1) (Nat.lt_of_succ_lt h) h (Nat.lt_succ_self k)
theorem joinF_has {fs : List Frag} {m : Int} (h : (joinF fs m).2 = true) : hasP fs m 0 = true := by
  unfold joinF joinK at h
  unfold hasP lookB
  cases e : look fs m ((0 : Nat) : Int) fs.length with
  | none => rw [e] at h; cases h
  | some i => rfl
theorem miss_first {fs : List Frag} {m : Int} (h : (joinF fs m).2 = true) (hl : 0 < (missF fs m).length) : 0 < gi (missF fs m) 0 := by
  obtain ⟨p, h1, h2, h3⟩ := missF_get hl
  rcases Nat.eq_zero_or_pos p with rfl | hp
  · rw [joinF_has h] at h3; cases h3
  · omega
theorem miss_none {fs : List Frag} {m : Int} {k j : Nat} (hk : k < (missF fs m).length) (hj : j < fs.length) (hm : (fr fs j).m = m) : (fr fs j).p ≠ gi (missF fs m) k := by
  intro h
  obtain ⟨p, h1, h2, h3⟩ := missF_get hk
  rw [hasP_of hj hm (by rw [h, h1])] at h3; cases h3

set_option maxRecDepth 100000 in
set_option maxHeartbeats 4000000 in
theorem fnMissingParts_c (vc : Value) (c : List Int) (w : World) (hc : RdB w vc c) (bc : ∀ n ∈ c, (Lit.int .u8 n).wf = true) :
    Calls Try.prog 8 #[vc] w (Ret w fun v _ => v = .bool true) := by
  have hs := SH.add (p := rdP .u8 vc c) (SH.start0 w) (by simp) hc rdP_wr
  obtain ⟨ac, cc, rfl, -⟩ := hc.form
  have Bc := Lib.hid bc
  clear hc bc
  by_cases lc : c.length ≤ 1048576
  case neg =>
    go_enter Try.func8, Try.ntmps8
    go_wp2
    go_ret
    exact Ret.mk1 rfl (Below.refl _ _)
  go_enter Try.func8, Try.ntmps8
  go_wp2_with fail
  refine (drawMiss_s _ c _ (by first | exact hs | exact (hs).allocP1 _ _ | exact ((hs).allocP1 _ _).allocP1 _ _ | exact (((hs).allocP1 _ _).allocP1 _ _).allocP1 _ _ | exact ((((hs).allocP1 _ _).allocP1 _ _).allocP1 _ _).allocP1 _ _ | exact (hs).drew | exact ((hs).allocP1 _ _).drew | exact (((hs).allocP1 _ _).allocP1 _ _).drew | exact ((((hs).allocP1 _ _).allocP1 _ _).allocP1 _ _).drew | exact (((((hs).allocP1 _ _).allocP1 _ _).allocP1 _ _).allocP1 _ _).drew | exact (hs).drewN _ | exact ((hs).allocP1 _ _).drewN _ | exact (((hs).allocP1 _ _).allocP1 _ _).drewN _ | exact ((((hs).allocP1 _ _).allocP1 _ _).allocP1 _ _).drewN _ | exact (((((hs).allocP1 _ _).allocP1 _ _).allocP1 _ _).allocP1 _ _).drewN _) Bc.out).mono ?_
  rintro e w1 ⟨v0, z, rfl, vs, fs, hfl, hg, z0, z1, hs⟩
  have HG := Lib.hid hg
  have HL := Lib.hid (lenF_good hg (by omega))
  have HW := Lib.hid (goodF_wf hg)
  clear hg
  have hzw : wfI z := wfOf (by omega) (by omega)
  have hjl := missF_len fs z
  have HGET := Lib.hid (fun (k : Nat) (h : k < (missF fs z).length) => missF_get h)
  have HASC := Lib.hid (fun (k : Nat) (h : k + 1 < (missF fs z).length) => missF_asc h)
  have HNO := Lib.hid (fun (k j : Nat) (h : k < (missF fs z).length) (hj : j < fs.length) (hm : (fr fs j).m = z) => miss_none h hj hm)
  have HFST := Lib.hid (fun (h : (joinF fs z).2 = true) (hl : 0 < (missF fs z).length) => miss_first h hl)
  obtain ⟨J, hJ⟩ : ∃ J, missF fs z = J := ⟨_, rfl⟩
  have HJ := Lib.hid hJ
  rw [hJ] at hjl HGET HASC HNO HFST
  clear hJ
  obtain ⟨a1, c1, rfl, -⟩ := (OwnM.rd hs.p0).form
  go_wp2_with fail
  refine (SH.own hs (by repeat' (first | with_reducible exact Below.refl _ _ | with_reducible assumption | with_reducible refine below_drewN ?_ _ | with_reducible refine Below.drew ?_ | with_reducible refine Below.alloc ?_ ?_ _ | with_reducible refine Below.setCell ?_ ?_ _ | go_size)) fun hs => implMiss_c _ _ fs z _ (rd_of_rdInn hs) HW.out hzw HL.out.1).mono ?_
  rintro e w2 ⟨o0, rfl, hs⟩
  rw [HJ.out] at hs
  go_wp2_with fail
  refine (SH.own hs (by repeat' (first | with_reducible exact Below.refl _ _ | with_reducible assumption | with_reducible refine below_drewN ?_ _ | with_reducible refine Below.drew ?_ | with_reducible refine Below.alloc ?_ ?_ _ | with_reducible refine Below.setCell ?_ ?_ _ | go_size)) fun hs => specMiss_c _ _ fs z _ (rd_of_rdInn hs.drop0)).mono ?_
  rintro e w3 ⟨w0, rfl, hs⟩
  rw [HJ.out] at hs
  go_wp2_with fail
  refine (SH.quiet hs (by repeat' (first | with_reducible exact Below.refl _ _ | with_reducible assumption | with_reducible refine below_drewN ?_ _ | with_reducible refine Below.drew ?_ | with_reducible refine Below.alloc ?_ ?_ _ | with_reducible refine Below.setCell ?_ ?_ _ | go_size)) fun hs => sameInts_c _ _ _ _ _ (OwnK.rd hs.p1) (OwnK.rd hs.p0)).mono ?_
  rintro e w4 ⟨rfl, hs⟩
  rw [show decide (J = J) = true by simp]
  have hs := hs.drop0
  obtain ⟨aO, cO, rfl, -⟩ := (OwnK.rd hs.p0).form
  go_wp2
  go_loopw [6] (fun i wr => ∃ k : Nat, k ≤ J.length ∧ i = .int .i64 k ∧ SH none w wr [ownP .i64 3 (.slice aO J.length cO) J, ownMP 4 34 (.slice a1 fs.length c1) fs.length (frC fs vs), rdInn vs fs, rdP .u8 (.slice ac c.length cc) c]) (fun i _ => J.length - (intOf i).toNat)
  case atStart => exact ⟨0, Nat.zero_le _, rfl, hs⟩
  case round =>
    clear hs
    obtain ⟨k, hk, rfl, hs⟩ := hrel
    by_cases hlt : k < J.length
    · obtain ⟨pk, hpk, hpk2, -⟩ := HGET.out k hlt
      obtain ⟨bo, oo, rfl, hck⟩ := (OwnK.rd hs.p0).at_ hlt
      rw [hpk] at hck
      have f1 : decide ((pk : Int) < 0) = false := by simp
      have f2 : decide ((pk : Int) ≥ 50) = false := by simp; omega
      cases k with
      | zero =>
        rw [Nat.add_zero] at hck
        have i3 : (0 : Int) < (J.length : Int) := by omega
        go_wp2
        go_quiet (fail)
        have hs := hs.drewN nq
        generalize wr.drewN nq = W at *
        clear hck
        go_wp2
        go_loopw [7] (fun i w2 => ∃ j : Nat, j ≤ fs.length ∧ i = .int .i64 j ∧ SH none w w2 [ownP .i64 3 (.slice (some ⟨bo, oo, none⟩) J.length cO) J, ownMP 4 34 (.slice a1 fs.length c1) fs.length (frC fs vs), rdInn vs fs, rdP .u8 (.slice ac c.length cc) c]) (fun i _ => fs.length - (intOf i).toNat)
        case atStart => exact ⟨0, Nat.zero_le _, rfl, hs⟩
        case round =>
          clear hs
          obtain ⟨j, hj, rfl, hs⟩ := hrel
          by_cases hjl : j < fs.length
          · obtain ⟨b3, o3, e3, hck⟩ := (OwnK.rd hs.p0).at_ (i := 0) (by omega)
            cases e3
            rw [hpk] at hck
            rw [Nat.add_zero] at hck
            obtain ⟨bL, oL, rfl, -⟩ := (OwnM.rd hs.p1).at_ hjl
            obtain ⟨av, cv, hvk, -⟩ := (SH.p2 hs : ∀ i, i < fs.length → RdB _ (vs i) (fr fs i).d) j hjl |>.form
            obtain ⟨hj0, hj1, hj2, hj3⟩ := frag_cellsV hvk (OwnM.rd hs.p1) hjl
            clear hvk hj2 hj3
            have j0 : (0 : Int) ≤ (j : Int) := by omega
            have j1 : (j : Int) < (fs.length : Int) := by omega
            by_cases hm : (fr fs j).m = z
            · have em : ((fr fs j).m == z) = true := by simpa using hm
              have ep : ((fr fs j).p == (pk : Int)) = false := by have h := HNO.out 0 j hlt hjl hm; rw [hpk] at h; simpa using h
              clear hm
              go_wp2
              go_quiet (fail)
              go_wp2
              go_roundw
              case rel => exact ⟨j + 1, hjl, by go_num, (by first | exact hs | exact (hs).alloc _ | exact ((hs).alloc _).alloc _ | exact (((hs).alloc _).alloc _).alloc _ | exact ((((hs).alloc _).alloc _).alloc _).alloc _ | exact (hs).drew | exact ((hs).alloc _).drew | exact (((hs).alloc _).alloc _).drew | exact ((((hs).alloc _).alloc _).alloc _).drew | exact (((((hs).alloc _).alloc _).alloc _).alloc _).drew | exact (hs).drewN _ | exact ((hs).alloc _).drewN _ | exact (((hs).alloc _).alloc _).drewN _ | exact ((((hs).alloc _).alloc _).alloc _).drewN _ | exact (((((hs).alloc _).alloc _).alloc _).alloc _).drewN _)⟩
              case measure => simp [intOf]; omega
            · have em : ((fr fs j).m == z) = false := by simpa using hm
              clear hm
              go_wp2
              go_quiet (fail)
              go_wp2
              go_roundw
              case rel => exact ⟨j + 1, hjl, by go_num, (by first | exact hs | exact (hs).alloc _ | exact ((hs).alloc _).alloc _ | exact (((hs).alloc _).alloc _).alloc _ | exact ((((hs).alloc _).alloc _).alloc _).alloc _ | exact (hs).drew | exact ((hs).alloc _).drew | exact (((hs).alloc _).alloc _).drew | exact ((((hs).alloc _).alloc _).alloc _).drew | exact (((((hs).alloc _).alloc _).alloc _).alloc _).drew | exact (hs).drewN _ | exact ((hs).alloc _).drewN _ | exact (((hs).alloc _).alloc _).drewN _ | exact ((((hs).alloc _).alloc _).alloc _).drewN _ | exact (((((hs).alloc _).alloc _).alloc _).alloc _).drewN _)⟩
              case measure => simp [intOf]; omega
          · obtain rfl : j = fs.length := by omega
            go_wp2
            go_roundw
            case rel => exact ⟨0 + 1, hlt, by go_num, hs⟩
            case measure => simp [intOf]; omega
      | succ q =>
        obtain ⟨pq, hpq, -, -⟩ := HGET.out q (by omega)
        have hasc := HASC.out q hlt
        rw [hpk, hpq] at hasc
        obtain ⟨b2, o2, e2, hcq⟩ := (OwnK.rd hs.p0).at_ (i := q) (by omega)
        cases e2
        rw [hpq] at hcq
        have f3 : decide ((pq : Int) ≥ (pk : Int)) = false := by simp; omega
        have f4 : IntKind.i64.wrap ((q : Int) + 1 - 1) = (q : Int) := by rw [Int.add_sub_cancel]; exact IntWalk.i64_in _ (by omega)
        have f5 : decide ((q : Int) + 1 > 0) = true := by rw [decide_eq_true_eq]; omega
        have f6 : ((q : Int) + 1).toNat = q + 1 := by omega
        have i0 : (0 : Int) ≤ (q : Int) := by omega
        have i1 : (q : Int) < (J.length : Int) := by omega
        have i2 : (0 : Int) ≤ (q : Int) + 1 := by omega
        have i3 : (q : Int) + 1 < (J.length : Int) := by omega
        go_wp2
        go_quiet (fail)
        have hs := hs.drewN nq
        generalize wr.drewN nq = W at *
        clear hck
        go_wp2
        go_loopw [7] (fun i w2 => ∃ j : Nat, j ≤ fs.length ∧ i = .int .i64 j ∧ SH none w w2 [ownP .i64 3 (.slice (some ⟨bo, oo, none⟩) J.length cO) J, ownMP 4 34 (.slice a1 fs.length c1) fs.length (frC fs vs), rdInn vs fs, rdP .u8 (.slice ac c.length cc) c]) (fun i _ => fs.length - (intOf i).toNat)
        case atStart => exact ⟨0, Nat.zero_le _, rfl, hs⟩
        case round =>
          clear hs
          obtain ⟨j, hj, rfl, hs⟩ := hrel
          by_cases hjl : j < fs.length
          · obtain ⟨b3, o3, e3, hck⟩ := (OwnK.rd hs.p0).at_ (i := (q + 1)) (by omega)
            cases e3
            rw [hpk] at hck
            obtain ⟨bL, oL, rfl, -⟩ := (OwnM.rd hs.p1).at_ hjl
            obtain ⟨av, cv, hvk, -⟩ := (SH.p2 hs : ∀ i, i < fs.length → RdB _ (vs i) (fr fs i).d) j hjl |>.form
            obtain ⟨hj0, hj1, hj2, hj3⟩ := frag_cellsV hvk (OwnM.rd hs.p1) hjl
            clear hvk hj2 hj3
            have j0 : (0 : Int) ≤ (j : Int) := by omega
            have j1 : (j : Int) < (fs.length : Int) := by omega
            by_cases hm : (fr fs j).m = z
            · have em : ((fr fs j).m == z) = true := by simpa using hm
              have ep : ((fr fs j).p == (pk : Int)) = false := by have h := HNO.out (q + 1) j hlt hjl hm; rw [hpk] at h; simpa using h
              clear hm
              go_wp2
              go_quiet (fail)
              go_wp2
              go_roundw
              case rel => exact ⟨j + 1, hjl, by go_num, (by first | exact hs | exact (hs).alloc _ | exact ((hs).alloc _).alloc _ | exact (((hs).alloc _).alloc _).alloc _ | exact ((((hs).alloc _).alloc _).alloc _).alloc _ | exact (hs).drew | exact ((hs).alloc _).drew | exact (((hs).alloc _).alloc _).drew | exact ((((hs).alloc _).alloc _).alloc _).drew | exact (((((hs).alloc _).alloc _).alloc _).alloc _).drew | exact (hs).drewN _ | exact ((hs).alloc _).drewN _ | exact (((hs).alloc _).alloc _).drewN _ | exact ((((hs).alloc _).alloc _).alloc _).drewN _ | exact (((((hs).alloc _).alloc _).alloc _).alloc _).drewN _)⟩
              case measure => simp [intOf]; omega
            · have em : ((fr fs j).m == z) = false := by simpa using hm
              clear hm
              go_wp2
              go_quiet (fail)
              go_wp2
              go_roundw
              case rel => exact ⟨j + 1, hjl, by go_num, (by first | exact hs | exact (hs).alloc _ | exact ((hs).alloc _).alloc _ | exact (((hs).alloc _).alloc _).alloc _ | exact ((((hs).alloc _).alloc _).alloc _).alloc _ | exact (hs).drew | exact ((hs).alloc _).drew | exact (((hs).alloc _).alloc _).drew | exact ((((hs).alloc _).alloc _).alloc _).drew | exact (((((hs).alloc _).alloc _).alloc _).alloc _).drew | exact (hs).drewN _ | exact ((hs).alloc _).drewN _ | exact (((hs).alloc _).alloc _).drewN _ | exact ((((hs).alloc _).alloc _).alloc _).drewN _ | exact (((((hs).alloc _).alloc _).alloc _).alloc _).drewN _)⟩
              case measure => simp [intOf]; omega
          · obtain rfl : j = fs.length := by omega
            go_wp2
            go_roundw
            case rel => exact ⟨(q + 1) + 1, hlt, by go_num, hs⟩
            case measure => simp [intOf]; omega
    · obtain rfl : k = J.length := by omega
      obtain ⟨D, b, hD⟩ : ∃ D b, joinF fs z = (D, b) := ⟨_, _, rfl⟩
      have HD := Lib.hid hD
      clear hD
      go_wp2_with fail
      refine (SH.ownT (xs := (joinF fs z).1) (b := (joinF fs z).2) hs (by repeat' (first | with_reducible exact Below.refl _ _ | with_reducible assumption | with_reducible refine below_drewN ?_ _ | with_reducible refine Below.drew ?_ | with_reducible refine Below.alloc ?_ ?_ _ | with_reducible refine Below.setCell ?_ ?_ _ | go_size)) fun hs => implJoin_c _ _ fs z _ (rd_of_rdInn hs.drop0) HW.out hzw HL.out).mono ?_
      rintro e w5 ⟨d0, rfl, hs⟩
      rw [HD.out] at hs
      rw [HD.out]
      cases b
      · go_wp2_with fail
        refine (SH.ret hs (by repeat' (first | with_reducible exact Below.refl _ _ | with_reducible assumption | with_reducible refine below_drewN ?_ _ | with_reducible refine Below.drew ?_ | with_reducible refine Below.alloc ?_ ?_ _ | with_reducible refine Below.setCell ?_ ?_ _ | go_size)) fun hs => alive_c _).mono ?_
        rintro e w6 ⟨v, rfl, rfl, hs⟩
        go_wp2
        go_ret
        exact Ret.mk1 rfl (SH.done (by first | exact hs | exact (hs).alloc _ | exact ((hs).alloc _).alloc _ | exact (((hs).alloc _).alloc _).alloc _ | exact ((((hs).alloc _).alloc _).alloc _).alloc _ | exact (hs).drew | exact ((hs).alloc _).drew | exact (((hs).alloc _).alloc _).drew | exact ((((hs).alloc _).alloc _).alloc _).drew | exact (((((hs).alloc _).alloc _).alloc _).alloc _).drew | exact (hs).drewN _ | exact ((hs).alloc _).drewN _ | exact (((hs).alloc _).alloc _).drewN _ | exact ((((hs).alloc _).alloc _).alloc _).drewN _ | exact (((((hs).alloc _).alloc _).alloc _).alloc _).drewN _))
      · by_cases hz : J.length = 0
        · obtain rfl := List.eq_nil_of_length_eq_zero hz
          clear hz
          go_wp2_with fail
          refine (SH.ret hs (by repeat' (first | with_reducible exact Below.refl _ _ | with_reducible assumption | with_reducible refine below_drewN ?_ _ | with_reducible refine Below.drew ?_ | with_reducible refine Below.alloc ?_ ?_ _ | with_reducible refine Below.setCell ?_ ?_ _ | go_size)) fun hs => alive_c _).mono ?_
          rintro e w6 ⟨v, rfl, rfl, hs⟩
          go_wp2
          go_ret
          exact Ret.mk1 rfl (SH.done (by first | exact hs | exact (hs).alloc _ | exact ((hs).alloc _).alloc _ | exact (((hs).alloc _).alloc _).alloc _ | exact ((((hs).alloc _).alloc _).alloc _).alloc _ | exact (hs).drew | exact ((hs).alloc _).drew | exact (((hs).alloc _).alloc _).drew | exact ((((hs).alloc _).alloc _).alloc _).drew | exact (((((hs).alloc _).alloc _).alloc _).alloc _).drew | exact (hs).drewN _ | exact ((hs).alloc _).drewN _ | exact (((hs).alloc _).alloc _).drewN _ | exact ((((hs).alloc _).alloc _).alloc _).drewN _ | exact (((((hs).alloc _).alloc _).alloc _).alloc _).drewN _))
        · have hfst := HFST.out (by rw [HD.out]) (by omega)
          obtain ⟨bo, oo, rfl, hck⟩ := (OwnK.rd hs.p1).at_ (i := 0) (by omega)
          rw [Nat.add_zero] at hck
          have hz2 : ((J.length : Int) == 0) = false := by rw [beq_eq_false_iff_ne]; omega
          obtain ⟨y, hy⟩ : ∃ y, gi J 0 = y := ⟨_, rfl⟩
          rw [hy] at hck hfst
          have hz1 : (0 : Int) < (J.length : Int) := by omega
          clear hz
          go_wp2_with fail
          refine (SH.ret hs (by repeat' (first | with_reducible exact Below.refl _ _ | with_reducible assumption | with_reducible refine below_drewN ?_ _ | with_reducible refine Below.drew ?_ | with_reducible refine Below.alloc ?_ ?_ _ | with_reducible refine Below.setCell ?_ ?_ _ | go_size)) fun hs => alive_c _).mono ?_
          rintro e w6 ⟨v, rfl, rfl, hs⟩
          go_wp2
          go_ret
          exact Ret.mk1 rfl (SH.done (by first | exact hs | exact (hs).alloc _ | exact ((hs).alloc _).alloc _ | exact (((hs).alloc _).alloc _).alloc _ | exact ((((hs).alloc _).alloc _).alloc _).alloc _ | exact (hs).drew | exact ((hs).alloc _).drew | exact (((hs).alloc _).alloc _).drew | exact ((((hs).alloc _).alloc _).alloc _).drew | exact (((((hs).alloc _).alloc _).alloc _).alloc _).drew | exact (hs).drewN _ | exact ((hs).alloc _).drewN _ | exact (((hs).alloc _).alloc _).drewN _ | exact ((((hs).alloc _).alloc _).alloc _).drewN _ | exact (((((hs).alloc _).alloc _).alloc _).alloc _).drewN _))
end Go.Proofs.Ytmhlnelnjnhcoaa
