import Derived.Test.YtdfinlpfkmmpkaaProg
import Derived.Test.YtdfinlpfkmmpkaaLawLib
import Derived.Test.YtdfinlpfkmmpkaaCut
import Derived.Deep.RegionHeld3
import Derived.Deep.RegionWith
import Derived.BigRegion
namespace Go.Proofs.Ytdfinlpfkmmpkaa
open Go.RowKit

def mxI (a b : Int) : Int := if a < b then b else a
def evR (xss : List (List Int)) (i j : Nat) : List Int := (List.range j).map fun m => mxI (tt xss i m) (tt xss m i)
def evL (xss : List (List Int)) : List (List Int) := (List.range xss.length).map fun i => evR xss i xss.length
theorem evL_len (xss : List (List Int)) : (evL xss).length = xss.length := by simp [evL]
theorem evR_len (xss : List (List Int)) (i j : Nat) : (evR xss i j).length = j := by simp [evR]
theorem evR_succ (xss : List (List Int)) (i j : Nat) : evR xss i (j + 1) = evR xss i j ++ [mxI (tt xss i j) (tt xss j i)] := by simp [evR, List.range_succ]
theorem gl_evL {xss : List (List Int)} {i : Nat} (h : i < xss.length) : gl (evL xss) i = evR xss i xss.length := by simp [gl, evL, h]
theorem tt_evL {xss : List (List Int)} {i j : Nat} (hi : i < xss.length) (hj : j < xss.length) : tt (evL xss) i j = mxI (tt xss i j) (tt xss j i) := by
  unfold tt
  rw [gl_evL hi]
  exact gi_mapR (c := fun m => mxI (tt xss i m) (tt xss m i)) hj
theorem evL_valid {xss : List (List Int)} (h : cvB xss = true) : cvB (evL xss) = true := by
  obtain ⟨h1, h2⟩ := cvB_true.1 h
  refine cvB_true.2 ⟨by rw [evL_len]; exact h1, fun i hi => ?_⟩
  rw [evL_len] at hi
  obtain ⟨r1, r2, r3⟩ := cvRow_true.1 (h2 i hi)
  refine cvRow_true.2 ⟨by rw [gl_evL hi, evR_len, evL_len], by rw [tt_evL hi hi, r2]; rfl, fun j hj => ?_⟩
  rw [evL_len] at hj
  obtain ⟨-, -, s3⟩ := cvRow_true.1 (h2 j hj)
  rw [tt_evL hi hj]
  have a1 := r3 j hj
  have a2 := s3 i hi
  unfold mxI; split <;> omega
theorem ev_back {xss : List (List Int)} {p q : Nat} (hv : cvB xss = true) (hp : p < xss.length) (hq : q < xss.length) : gi (lcV (evL xss) (p : Int)) q = gi (lcV (evL xss) (q : Int)) p := by
  have h1 := evL_valid hv
  have hbp : lcB (evL xss) (p : Int) = true := lcB_true.2 ⟨h1, by omega, by rw [evL_len]; omega⟩
  have hbq : lcB (evL xss) (q : Int) = true := lcB_true.2 ⟨h1, by omega, by rw [evL_len]; omega⟩
  have hp2 := lcV_least hbp
  have hq2 := lcV_least hbq
  rw [evL_len] at hp2 hq2
  refine least_back (fun i j hi hj => ?_) hq2 hp2 hq hp
  rw [tt_evL hi hj, tt_evL hj hi]; unfold mxI; split <;> split <;> omega
theorem evCells {w : World} {bt ot n cap b1 o1 c1 b2 o2 c2 k j : Nat} {vs : Nat → Value} {xss : List (List Int)} (h : RdSS w (.slice (some ⟨bt, ot, none⟩) n cap) vs xss) (hk : k < xss.length) (hj : j < xss.length) (hl : ∀ i, i < xss.length → (gl xss i).length = n)
    (ek : vs k = .slice (some ⟨b1, o1, none⟩) n c1) (ej : vs j = .slice (some ⟨b2, o2, none⟩) n c2) (hkn : k < n) (hjn : j < n) :
    w.cell? ⟨bt, ot + k, none⟩ = some (.slice (some ⟨b1, o1, none⟩) n c1) ∧ w.cell? ⟨b1, o1 + j, none⟩ = some (.int .i64 (tt xss k j)) ∧ w.cell? ⟨bt, ot + j, none⟩ = some (.slice (some ⟨b2, o2, none⟩) n c2) ∧ w.cell? ⟨b2, o2 + k, none⟩ = some (.int .i64 (tt xss j k)) := by
  obtain ⟨x1, x2, x3, x4, e1, e2, e3, e4⟩ := rowAt h hk
  cases e1
  rw [e2, hl k hk] at ek
  rw [hl k hk] at e3 e4
  cases ek
  obtain ⟨y1, y2, y3, y4, f1, f2, f3, f4⟩ := rowAt h hj
  cases f1
  rw [f2, hl j hj] at ej
  rw [hl j hj] at f3 f4
  cases ej
  obtain ⟨z1, z2, g1, g2⟩ := e4.at_ hjn
  cases g1
  obtain ⟨u1, u2, g3, g4⟩ := f4.at_ hkn
  cases g3
  exact ⟨e3, g2, f3, g4⟩
theorem rowForm {w : World} {v : Value} {vs : Nat → Value} {xss : List (List Int)} {n i : Nat} (h : RdSS w v vs xss) (hi : i < xss.length) (hl : (gl xss i).length = n) (hn : 0 < n) : ∃ b o c, vs i = .slice (some ⟨b, o, none⟩) n c := by
  have hr := h.each i hi
  obtain ⟨a, c, e, -⟩ := hr.form
  rw [e] at hr
  rw [hl] at hr e
  obtain ⟨b, o, rfl, -⟩ := hr.at_ hn
  exact ⟨b, o, c, e⟩

set_option maxRecDepth 100000 in
set_option maxHeartbeats 8000000 in
theorem fnRouteBack_c (vc : Value) (c : List Int) (w : World) (hc : RdB w vc c) (bc : ∀ n ∈ c, (Lit.int .u8 n).wf = true) :
    Calls Try.prog 7 #[vc] w (Ret w fun v _ => v = .bool true) := by
  have hs := SH.add (p := rdP .u8 vc c) (SH.start0 w) (by simp) hc rdP_wr
  obtain ⟨ac, cc, rfl, -⟩ := hc.form
  have Bc := Lib.hid bc
  clear hc bc
  by_cases lc : c.length ≤ 1048576
  case neg =>
    go_enter Try.func7, Try.ntmps7
    go_wp2
    go_ret
    exact Ret.mk1 rfl (Below.refl _ _)
  go_enter Try.func7, Try.ntmps7
  go_wp2_with fail
  refine (DrawLeastCosts_s _ c _ (by first | exact hs | exact (hs).allocP1 _ _ | exact ((hs).allocP1 _ _).allocP1 _ _ | exact (((hs).allocP1 _ _).allocP1 _ _).allocP1 _ _ | exact ((((hs).allocP1 _ _).allocP1 _ _).allocP1 _ _).allocP1 _ _ | exact (hs).drew | exact ((hs).allocP1 _ _).drew | exact (((hs).allocP1 _ _).allocP1 _ _).drew | exact ((((hs).allocP1 _ _).allocP1 _ _).allocP1 _ _).drew | exact (((((hs).allocP1 _ _).allocP1 _ _).allocP1 _ _).allocP1 _ _).drew | exact (hs).drewN _ | exact ((hs).allocP1 _ _).drewN _ | exact (((hs).allocP1 _ _).allocP1 _ _).drewN _ | exact ((((hs).allocP1 _ _).allocP1 _ _).allocP1 _ _).drewN _ | exact (((((hs).allocP1 _ _).allocP1 _ _).allocP1 _ _).allocP1 _ _).drewN _) Bc.out).mono ?_
  rintro e w1 ⟨v1, vs, xss, to, rfl, hR8, hs⟩
  have hs := hs.asSS
  obtain ⟨a1, c1, rfl, -⟩ := (SH.p0 hs : RdSS _ _ _ _).rows.form
  obtain ⟨r81, r82, -⟩ := hR8
  go_wp2_with fail
  refine (SH.own hs (by repeat' (first | with_reducible exact Below.refl _ _ | with_reducible assumption | with_reducible refine below_drewN ?_ _ | with_reducible refine Below.drew ?_ | with_reducible refine Below.alloc ?_ ?_ _ | with_reducible refine Below.setCell ?_ ?_ _ | go_size)) fun hs => implLeastCosts_f _ vs xss to _ hs.p0).mono ?_
  rintro e w2 ⟨v2, rfl, hs⟩
  go_wp2_with fail
  refine (SH.own hs (by repeat' (first | with_reducible exact Below.refl _ _ | with_reducible assumption | with_reducible refine below_drewN ?_ _ | with_reducible refine Below.drew ?_ | with_reducible refine Below.alloc ?_ ?_ _ | with_reducible refine Below.setCell ?_ ?_ _ | go_size)) fun hs => specLeastCosts_c _ vs xss to _ hs.p1).mono ?_
  rintro e w3 ⟨v3, rfl, hs⟩
  go_wp2_with fail
  refine (SH.quiet hs (by repeat' (first | with_reducible exact Below.refl _ _ | with_reducible assumption | with_reducible refine below_drewN ?_ _ | with_reducible refine Below.drew ?_ | with_reducible refine Below.alloc ?_ ?_ _ | with_reducible refine Below.setCell ?_ ?_ _ | go_size)) fun hs => sameInts_c _ _ _ _ _ (OwnK.rd hs.p1) (OwnK.rd hs.p0)).mono ?_
  rintro e w4 ⟨rfl, hs⟩
  rw [show decide (lcV xss to = lcV xss to) = true by simp]
  have hs := hs.drop0
  have hlen := lcV_le xss to
  cases hb : lcB xss to
  case false =>
    obtain ⟨X, hX⟩ : ∃ X, lcV xss to = X := ⟨_, rfl⟩
    have hx0 : X = [] := by rw [← hX]; exact lcV_none hb
    rw [hX] at hs
    subst hx0
    clear hX
    obtain ⟨a2, c2, rfl, -⟩ := (OwnK.rd hs.p0).form
    go_wp2_with fail
    refine (SH.ret hs (by repeat' (first | with_reducible exact Below.refl _ _ | with_reducible assumption | with_reducible refine below_drewN ?_ _ | with_reducible refine Below.drew ?_ | with_reducible refine Below.alloc ?_ ?_ _ | with_reducible refine Below.setCell ?_ ?_ _ | go_size)) fun hs => alive_c _).mono ?_
    rintro e w5 ⟨v, rfl, rfl, hs⟩
    go_wp2
    go_ret
    exact Ret.mk1 rfl (SH.done (by first | exact hs | exact (hs).alloc _ | exact ((hs).alloc _).alloc _ | exact (((hs).alloc _).alloc _).alloc _ | exact ((((hs).alloc _).alloc _).alloc _).alloc _ | exact (hs).drew | exact ((hs).alloc _).drew | exact (((hs).alloc _).alloc _).drew | exact ((((hs).alloc _).alloc _).alloc _).drew | exact (((((hs).alloc _).alloc _).alloc _).alloc _).drew | exact (hs).drewN _ | exact ((hs).alloc _).drewN _ | exact (((hs).alloc _).alloc _).drewN _ | exact ((((hs).alloc _).alloc _).alloc _).drewN _ | exact (((((hs).alloc _).alloc _).alloc _).alloc _).drewN _))
  obtain ⟨hv, t0, t1⟩ := lcB_true.1 hb
  have HRW : Hid (∀ i, i < xss.length → (gl xss i).length = xss.length ∧ ∀ j, j < xss.length → 0 ≤ gi (gl xss i) j ∧ gi (gl xss i) j ≤ 100) := Lib.hid (fun i hi => by
    have := cvRow_true.1 ((cvB_true.1 hv).2 i hi)
    exact ⟨this.1, this.2.2⟩)
  obtain ⟨q, rfl⟩ : ∃ q : Nat, to = (q : Int) := ⟨to.toNat, by omega⟩
  have hq : q < xss.length := by omega
  have HLS : Hid (Least (tt xss) xss.length q (gi (lcV xss (q : Int)))) := Lib.hid (by have := lcV_least hb; simpa using this)
  have HXB := Lib.hid (lcV_bd hb)
  have HXL := Lib.hid (lcV_len hb)
  have HV := Lib.hid hv
  have hn10 := (cvB_true.1 hv).1
  clear hb hv t0 t1 hlen
  obtain ⟨a2, c2, rfl, -⟩ := (OwnK.rd hs.p0).form
  rw [HXL.out] at hs ⊢
  have hs := hs.drop0
  obtain ⟨bt, ot, -, -, rfl, -, -, -⟩ := rowAt (SH.p0 hs : RdSS _ _ _ _) hq
  have hz2 : ((xss.length : Int) == 0) = false := by simp only [beq_eq_false_iff_ne]; omega
  go_wp2
  clear hz2
  have hs := ((hs.inn0 3 (fun _ => undef) (evL xss)).ownEmptyM 1 (by decide) 28 (oneC fun _ => undef))
  go_loopw [6, 7] (fun o i wr => ∃ (k : Nat) (ws : Nat → Value), k ≤ xss.length ∧ i = .int .i64 k ∧ SH none w wr [ownMP 1 28 o k (oneC ws), innP 3 ws (evL xss) k, rdSSP (.slice (some ⟨bt, ot, none⟩) xss.length c1) vs xss, rdP .u8 (.slice ac c.length cc) c]) (fun _ i _ => xss.length - (intOf i).toNat)
  case atStart => exact ⟨0, _, Nat.zero_le _, rfl, hs⟩
  case round =>
    clear hs
    obtain ⟨k, ws, hk, rfl, hs⟩ := hrel
    obtain ⟨ao, co, rfl, -⟩ := (OwnM.rd hs.p0).form
    by_cases hlt : k < xss.length
    · go_wp2
      try rw [decide_eq_true hlt]
      have hs := hs.ownEmpty .i64 3
      go_loopw [8, 9] (fun o i wr => ∃ j : Nat, j ≤ xss.length ∧ i = .int .i64 j ∧ SH none w wr [ownP .i64 3 o (evR xss k j), ownMP 1 28 (.slice ao k co) k (oneC ws), innP 3 ws (evL xss) k, rdSSP (.slice (some ⟨bt, ot, none⟩) xss.length c1) vs xss, rdP .u8 (.slice ac c.length cc) c]) (fun _ i _ => xss.length - (intOf i).toNat)
      case atStart => exact ⟨0, Nat.zero_le _, rfl, hs⟩
      case round =>
        clear hs
        obtain ⟨j, hj, rfl, hs⟩ := hrel
        obtain ⟨ar, cr, rfl, -⟩ := (OwnK.rd hs.p0).form
        by_cases hjl : j < xss.length
        · have HRL : Hid (∀ i, i < xss.length → (gl xss i).length = xss.length) := Lib.hid (fun i hi => (HRW.out i hi).1)
          obtain ⟨b1, o1, d1, ek⟩ := rowForm (SH.p3 hs : RdSS _ _ _ _) hlt (HRL.out k hlt) (by omega)
          obtain ⟨b2, o2, d2, ej⟩ := rowForm (SH.p3 hs : RdSS _ _ _ _) hjl (HRL.out j hjl) (by omega)
          have HC : Hid (∀ wx, RdSS wx (.slice (some ⟨bt, ot, none⟩) xss.length c1) vs xss → wx.cell? ⟨bt, ot + k, none⟩ = some (.slice (some ⟨b1, o1, none⟩) xss.length d1) ∧ wx.cell? ⟨b1, o1 + j, none⟩ = some (.int .i64 (tt xss k j)) ∧ wx.cell? ⟨bt, ot + j, none⟩ = some (.slice (some ⟨b2, o2, none⟩) xss.length d2) ∧ wx.cell? ⟨b2, o2 + k, none⟩ = some (.int .i64 (tt xss j k))) := Lib.hid (fun wx h => evCells h hlt hjl HRL.out ek ej hlt hjl)
          have i0 : (0 : Int) ≤ (k : Int) := by omega
          have i1 : (k : Int) < (xss.length : Int) := by omega
          have j0 : (0 : Int) ≤ (j : Int) := by omega
          have j1 : (j : Int) < (xss.length : Int) := by omega
          have HEL := Lib.hid (evR_len xss k j)
          clear ek ej
          rw [HEL.out]
          rw [HEL.out] at hs
          go_wp2
          go_region_held3 (fun wx => wx.cell? ⟨bt, ot + k, none⟩ = some (.slice (some ⟨b1, o1, none⟩) xss.length d1) ∧ wx.cell? ⟨b1, o1 + j, none⟩ = some (.int .i64 (tt xss k j)) ∧ wx.cell? ⟨bt, ot + j, none⟩ = some (.slice (some ⟨b2, o2, none⟩) xss.length d2) ∧ wx.cell? ⟨b2, o2 + k, none⟩ = some (.int .i64 (tt xss j k))) (first | exact HC.out _ hs.drew.p3 | exact HC.out _ (hs.drew.alloc _).p3 | exact HC.out _ hs2.p3) (first | (refine step_app1S rfl rfl .i64 3 8 Try.underlying28 info_int (mxI (tt xss k j) (tt xss j k)) rfl (hs.drew.alloc _) rfl (World.cell?_alloc_at _ _ _ _ rfl) (by rw [HEL.out]; omega) (by rw [HEL.out]; unfold maxLen; omega) ?_; intro v2 w2 hs2))
          rw [← evR_succ] at hs2
          go_wp2
          go_roundw
          case rel => exact ⟨j + 1, hjl, by go_num, hs2⟩
          case measure => simp [intOf]; omega
        · obtain rfl : j = xss.length := by omega
          rw [evR_len] at hs ⊢
          go_wp2_with (at_builtin; refine wp_app1MS rfl rfl 28 24 1 (.slice none 0 0) Try.underlying22 info_row rfl (by decide) (fun _ => .slice ar xss.length cr) rfl (hs.bring1.alloc _) rfl (fun j hj => by obtain rfl : j = 0 := (by omega); exact World.cell?_alloc_at _ _ _ _ rfl) (fun j hj => rfl) (by omega) (by unfold maxLen; omega) ?_; intro v9 w9 hs)
          have hs := hs.snocRow rfl (gl_evL hlt)
          go_roundw
          case rel => exact ⟨k + 1, _, hlt, by go_num, hs⟩
          case measure => simp [intOf]; omega
    · obtain rfl : k = xss.length := by omega
      have HEVL := Lib.hid (evL_len xss)
      have HBK : Hid (∀ p, p < xss.length → gi (lcV (evL xss) (p : Int)) q = gi (lcV (evL xss) (q : Int)) p) := Lib.hid (fun p hp => ev_back HV.out hp hq)
      have HLL : Hid (∀ p : Nat, p < xss.length → (lcV (evL xss) (p : Int)).length = xss.length) := Lib.hid (fun p hp => by rw [lcV_len (lcB_true.2 ⟨evL_valid HV.out, by omega, by rw [evL_len]; omega⟩), evL_len])
      have hs2 : SH none w wr (rdSSP (.slice ao xss.length co) ws (evL xss) :: [rdSSP (.slice (some ⟨bt, ot, none⟩) xss.length c1) vs xss, rdP .u8 (.slice ac c.length cc) c]) := by
        have h0 := hs
        rw [← HEVL.out] at h0
        have h1 := SH.asSS (xss := evL xss) (by simpa only [HEVL.out] using hs)
        exact h1
      clear hs
      go_wp2_with fail
      refine (SH.own hs2 (by repeat' (first | with_reducible exact Below.refl _ _ | with_reducible assumption | with_reducible refine below_drewN ?_ _ | with_reducible refine Below.drew ?_ | with_reducible refine Below.alloc ?_ ?_ _ | with_reducible refine Below.setCell ?_ ?_ _ | go_size)) fun hs => implLeastCosts_f _ ws (evL xss) (q : Int) _ hs.p0).mono ?_
      rintro e w21 ⟨vt, rfl, hs⟩
      obtain ⟨aT, cT, rfl, -⟩ := (OwnK.rd hs.p0).form
      rw [HLL.out q hq] at hs ⊢
      obtain ⟨gT, rfl⟩ := own_some hs.p0 (show 0 < xss.length by omega)
      go_wp2
      go_loopw [11] (fun i wr => ∃ p : Nat, p ≤ xss.length ∧ i = .int .i64 p ∧ SH none w wr [ownP .i64 3 (.slice (some ⟨gT, 0, none⟩) xss.length cT) (lcV (evL xss) (q : Int)), rdSSP (.slice ao xss.length co) ws (evL xss), rdSSP (.slice (some ⟨bt, ot, none⟩) xss.length c1) vs xss, rdP .u8 (.slice ac c.length cc) c]) (fun i _ => xss.length - (intOf i).toNat)
      case atStart => exact ⟨0, Nat.zero_le _, rfl, hs⟩
      case round =>
        clear hs
        obtain ⟨p, hp, rfl, hs⟩ := hrel
        by_cases hpl : p < xss.length
        · have hcT := own_cell hs.p0 hpl
          have p0 : (0 : Int) ≤ (p : Int) := by omega
          have p1 : (p : Int) < (xss.length : Int) := by omega
          have q0 : (0 : Int) ≤ (q : Int) := by omega
          have q1 : (q : Int) < (xss.length : Int) := by omega
          have hne : (gi (lcV (evL xss) (q : Int)) p != gi (lcV (evL xss) (q : Int)) p) = false := bne_self_eq_false _
          go_wp2
          go_region_with (go_at_call 19; refine (SH.own hs.drew (Below.refl _ _) fun hs => implLeastCosts_f _ ws (evL xss) (p : Int) _ hs.p1).mono ?_; rintro e w5 ⟨v5, rfl, hs5⟩; obtain ⟨a5, c5, rfl, -⟩ := (OwnK.rd hs5.p0).form; rw [HLL.out p hpl] at hs5 ⊢; obtain ⟨g5, rfl⟩ := own_some hs5.p0 (show 0 < xss.length by omega); have hc5 := own_cell hs5.p0 hq; rw [HBK.out p hpl] at hc5; have hcT5 := own_cell hs5.p1 hpl)
          all_goals go_wp2
          all_goals go_roundw
          all_goals first | exact ⟨p + 1, hpl, by go_num, hs5.drop0⟩ | (simp [intOf]; omega)
        · go_wp2
          go_ret
          exact Ret.mk1 rfl (SH.done (by first | exact hs | exact (hs).alloc _ | exact ((hs).alloc _).alloc _ | exact (((hs).alloc _).alloc _).alloc _ | exact ((((hs).alloc _).alloc _).alloc _).alloc _ | exact (hs).drew | exact ((hs).alloc _).drew | exact (((hs).alloc _).alloc _).drew | exact ((((hs).alloc _).alloc _).alloc _).drew | exact (((((hs).alloc _).alloc _).alloc _).alloc _).drew | exact (hs).drewN _ | exact ((hs).alloc _).drewN _ | exact (((hs).alloc _).alloc _).drewN _ | exact ((((hs).alloc _).alloc _).alloc _).drewN _ | exact (((((hs).alloc _).alloc _).alloc _).alloc _).drewN _))
end Go.Proofs.Ytdfinlpfkmmpkaa
