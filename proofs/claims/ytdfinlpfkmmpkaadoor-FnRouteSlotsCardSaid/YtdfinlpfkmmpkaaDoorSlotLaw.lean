import Derived.Test.YtdfinlpfkmmpkaaDoorProg
import Derived.Test.YtdfinlpfkmmpkaaDoorSlots3
import Derived.Test.YtdfinlpfkmmpkaaDoorRouteT
import Derived.Test.YtdfinlpfkmmpkaaDoorRouteU
import Derived.Test.YtdfinlpfkmmpkaaDoorDrawCosts
import Derived.Test.YtdfinlpfkmmpkaaDoorLawLib
import Derived.Test.YtdfinlpfkmmpkaaDoorRtLaw
namespace Go.Proofs.YtdfinlpfkmmpkaaDoor
open Go.RowKit

def cfT (xss : List (List Int)) (i j : Nat) : Bool := decide (0 < tt xss i j) || decide (0 < tt xss j i)
theorem cfT_sym (xss : List (List Int)) (i j : Nat) : cfT xss i j = cfT xss j i := by unfold cfT; exact Bool.or_comm _ _
theorem cfT_diag {xss : List (List Int)} (h : cvB xss = true) {i : Nat} (hi : i < xss.length) : cfT xss i i = false := by
  have := (cvRow_true.1 ((cvB_true.1 h).2 i hi)).2.1
  simp [cfT, this]
theorem rtV_step {xss : List (List Int)} {fr to : Int} (h : rtV xss fr to ≠ []) : cvB xss = true ∧ RtStep xss (lcC xss to.toNat) (rtV xss fr to) := by
  by_cases hb : rtB xss fr to = true
  · obtain ⟨h1, h2⟩ := rtB_true.1 hb
    obtain ⟨h3, h4, h5⟩ := nsB_true.1 h1
    unfold rtV
    rw [if_pos hb]
    exact ⟨(lcB_true.1 h3).1, (rtK_ok (lcC_least h3) _ fr.toNat (by omega) h2 (by omega)).step⟩
  · exact absurd (by unfold rtV; rw [if_neg hb]) h
/-- rows of Bools that are only read -/
def rdRowsP (vs : Nat → Value) (T : Nat → Nat → Bool) (k n : Nat) : Part where
  says w := ∀ i, i < k → RdM 1 w (vs i) n (fun j _ => .bool (T i j))
  on g := ∃ i, i < k ∧ (vs i).ownBlock = some g ∧ 0 < n
  wr _ := False
  sub _ h := h.elim
  lt w h g hg := by
    obtain ⟨i, hi, hg, hn⟩ := hg
    have hr := h i hi
    obtain ⟨a, c, hv, -⟩ := hr.form
    rw [hv] at hr hg
    obtain ⟨b, off, rfl, hc⟩ := hr.at_ hn
    have := cell_lt (hc 0 (by decide))
    simp only [Value.ownBlock, Option.some.injEq] at hg
    subst hg; exact this
  keep w w' h hk := by
    rcases Nat.eq_zero_or_pos n with rfl | hn
    · intro i hi
      obtain ⟨ad, cp, hv, hl, hm, -⟩ := h i hi
      exact ⟨ad, cp, hv, hl, hm, fun i hi => absurd hi (Nat.not_lt_zero _)⟩
    · exact fun i hi => (h i hi).keep (by decide) fun g e _ => hk g ⟨i, hi, e, hn⟩
theorem SH.rows0 {row : Option Nat} {w0 w : World} {I : List Part} (h : SH row w0 w I) (vs : Nat → Value) (T : Nat → Nat → Bool) (n : Nat) : SH row w0 w (rdRowsP vs T 0 n :: I) :=
  h.push (Below.refl _ _) (fun i hi => absurd hi (Nat.not_lt_zero _)) (fun g ⟨i, hi, _⟩ => absurd hi (Nat.not_lt_zero _))
theorem SH.rows1 {row : Option Nat} {w0 w : World} {I : List Part} {t : TypeId} {v : Value} {vs : Nat → Value} {T : Nat → Nat → Bool} {k n : Nat} (h : SH row w0 w (ownMP 1 t v n (fun j _ => .bool (T k j)) :: rdRowsP vs T k n :: I)) :
    SH row w0 w (rdRowsP (updV vs k v) T (k + 1) n :: I) := by
  refine h.merge2 (fun i hi => ?_) (fun g hg => ?_) (fun g hg => hg.elim)
  · by_cases e : i = k
    · subst e; rw [updV_eq]; exact OwnM.rd h.p0
    · rw [updV_ne e]; exact h.p1 i (by omega)
  · obtain ⟨i, hi, hg, hn⟩ := hg
    by_cases e : i = k
    · subst e; rw [updV_eq] at hg; exact .inl hg
    · rw [updV_ne e] at hg; exact .inr ⟨i, by omega, hg, hn⟩
theorem info_bool : (Tryd.prog.info? 4).map (fun i => (i.zero, i.size, i.bytes)) = some (some (.bool false), 1, 1) := by kernel_rfl
theorem info_bools : (Tryd.prog.info? 31).map (fun i => (i.zero, i.size, i.bytes)) = some (some (.slice none 0 0), 1, 24) := by kernel_rfl
theorem bool_upd {T : Nat → Nat → Bool} {k q : Nat} {x : Bool} (h : T k q = x) (i j : Nat) : updC (fun j _ => .bool (T k j)) q (fun _ => .bool x) i j = (fun j _ => Value.bool (T k j)) i j := by
  unfold updC
  by_cases e : i = q
  · subst e; simp [h]
  · simp [e]
theorem row_upd {ws : Nat → Value} {k : Nat} {v : Value} (i j : Nat) : updC (oneC ws) k (fun _ => v) i j = oneC (updV ws k v) i j := by
  unfold updC oneC updV
  by_cases e : i = k
  · subst e; simp
  · simp [e]

set_option maxRecDepth 100000 in
set_option maxHeartbeats 8000000 in
theorem fnRouteSlots_c (vc : Value) (c : List Int) (w : World) (hc : RdB w vc c) (bc : ∀ n ∈ c, (Lit.int .u8 n).wf = true)
    (_ : RdK .u8 w (.slice (some ⟨0, 0, none⟩) 32 32) [0, 1, 28, 2, 29, 14, 24, 3, 30, 22, 20, 15, 25, 17, 4, 8, 31, 27, 13, 23, 21, 19, 16, 7, 26, 12, 18, 6, 11, 5, 10, 9])
    (hg : RdK .u8 w (.slice (some ⟨1, 0, none⟩) 64 64) dbL) :
    Calls Tryd.prog 3 #[vc] w (Ret w fun v _ => v = .bool true) := by
  obtain ⟨ac, cc, rfl, -⟩ := hc.form
  have hs := SH.start w [rdP .u8 (.slice ac c.length cc) c, rdP .u8 (.slice (some ⟨1, 0, none⟩) 64 64) dbL] (by simp only [List.forall_mem_cons]; exact ⟨⟨hc, rdP_wr⟩, ⟨hg, rdP_wr⟩, by simp⟩)
  have Bc := Lib.hid bc
  clear hc bc hg
  by_cases lc : c.length ≤ 1048576
  case neg =>
    go_enter Tryd.func3, Tryd.ntmps3
    go_wp2
    go_ret
    exact Ret.mk1 rfl (Below.refl _ _)
  go_enter Tryd.func3, Tryd.ntmps3
  go_wp2_with fail
  refine (DrawRouteTo_s _ c _ (by first | exact hs | exact (hs).allocP1 _ _ | exact ((hs).allocP1 _ _).allocP1 _ _ | exact (((hs).allocP1 _ _).allocP1 _ _).allocP1 _ _ | exact ((((hs).allocP1 _ _).allocP1 _ _).allocP1 _ _).allocP1 _ _ | exact (hs).drew | exact ((hs).allocP1 _ _).drew | exact (((hs).allocP1 _ _).allocP1 _ _).drew | exact ((((hs).allocP1 _ _).allocP1 _ _).allocP1 _ _).drew | exact (((((hs).allocP1 _ _).allocP1 _ _).allocP1 _ _).allocP1 _ _).drew | exact (hs).drewN _ | exact ((hs).allocP1 _ _).drewN _ | exact (((hs).allocP1 _ _).allocP1 _ _).drewN _ | exact ((((hs).allocP1 _ _).allocP1 _ _).allocP1 _ _).drewN _ | exact (((((hs).allocP1 _ _).allocP1 _ _).allocP1 _ _).allocP1 _ _).drewN _) Bc.out).mono ?_
  rintro e w1 ⟨v1, vs, xss, fr, to, rfl, hR8, hs⟩
  have hs := hs.asSS
  obtain ⟨a1, c1, rfl, -⟩ := (SH.p0 hs : RdSS _ _ _ _).rows.form
  obtain ⟨r81, r82, -⟩ := hR8
  go_wp2_with fail
  refine (SH.own hs (by repeat' (first | with_reducible exact Below.refl _ _ | with_reducible assumption | with_reducible refine below_drewN ?_ _ | with_reducible refine Below.drew ?_ | with_reducible refine Below.alloc ?_ ?_ _ | with_reducible refine Below.setCell ?_ ?_ _ | go_size)) fun hs => implRouteTo_c _ vs xss fr to _ hs.p0).mono ?_
  rintro e w2 ⟨v2, rfl, hs⟩
  go_wp2_with fail
  refine (SH.own hs (by repeat' (first | with_reducible exact Below.refl _ _ | with_reducible assumption | with_reducible refine below_drewN ?_ _ | with_reducible refine Below.drew ?_ | with_reducible refine Below.alloc ?_ ?_ _ | with_reducible refine Below.setCell ?_ ?_ _ | go_size)) fun hs => specRouteTo_c _ vs xss fr to _ hs.p1).mono ?_
  rintro e w3 ⟨v3, rfl, hs⟩
  go_wp2_with fail
  refine (SH.quiet hs (by repeat' (first | with_reducible exact Below.refl _ _ | with_reducible assumption | with_reducible refine below_drewN ?_ _ | with_reducible refine Below.drew ?_ | with_reducible refine Below.alloc ?_ ?_ _ | with_reducible refine Below.setCell ?_ ?_ _ | go_size)) fun hs => sameInts_c _ _ _ _ _ (OwnK.rd hs.p1) (OwnK.rd hs.p0)).mono ?_
  rintro e w4 ⟨rfl, hs⟩
  rw [show decide (rtV xss fr to = rtV xss fr to) = true by simp]
  have hs := hs.drop0
  have hrl := rtV_len xss fr to
  have HST : Hid (rtV xss fr to ≠ [] → cvB xss = true ∧ RtStep xss (lcC xss to.toNat) (rtV xss fr to)) := Lib.hid rtV_step
  generalize rtV xss fr to = L at *
  obtain ⟨a3, c3, rfl, -⟩ := (OwnK.rd hs.p0).form
  by_cases hz : L.length = 0
  · have ez : ((L.length : Int) == 0) = true := by rw [beq_iff_eq]; omega
    have HZ := Lib.hid hz
    clear hz
    go_wp2_with fail
    refine (SH.ret hs (by repeat' (first | with_reducible exact Below.refl _ _ | with_reducible assumption | with_reducible refine below_drewN ?_ _ | with_reducible refine Below.drew ?_ | with_reducible refine Below.alloc ?_ ?_ _ | with_reducible refine Below.setCell ?_ ?_ _ | go_size)) fun hs => alive_c _).mono ?_
    rintro e w5 ⟨v, rfl, rfl, hs⟩
    go_wp2
    go_ret
    exact Ret.mk1 rfl (SH.done (by first | exact hs | exact (hs).alloc _ | exact ((hs).alloc _).alloc _ | exact (((hs).alloc _).alloc _).alloc _ | exact ((((hs).alloc _).alloc _).alloc _).alloc _ | exact (hs).drew | exact ((hs).alloc _).drew | exact (((hs).alloc _).alloc _).drew | exact ((((hs).alloc _).alloc _).alloc _).drew | exact (((((hs).alloc _).alloc _).alloc _).alloc _).drew | exact (hs).drewN _ | exact ((hs).alloc _).drewN _ | exact (((hs).alloc _).alloc _).drewN _ | exact ((((hs).alloc _).alloc _).alloc _).drewN _ | exact (((((hs).alloc _).alloc _).alloc _).alloc _).drewN _))
  have ez : ((L.length : Int) == 0) = false := by rw [beq_eq_false_iff_ne]; omega
  obtain ⟨hcv, hstp⟩ := HST.out (fun e => hz (by rw [e]; rfl))
  have HCV := Lib.hid hcv
  have HSTP := Lib.hid hstp
  have HSY : Hid (∀ i j, i < xss.length → j < xss.length → cfT xss i j = cfT xss j i) := Lib.hid fun i j _ _ => cfT_sym xss i j
  have HDG : Hid (∀ i, i < xss.length → cfT xss i i = false) := Lib.hid fun i hi => cfT_diag HCV.out hi
  have HRL : Hid (∀ i, i < xss.length → (gl xss i).length = xss.length) := Lib.hid fun i hi => (cvRow_true.1 ((cvB_true.1 HCV.out).2 i hi)).1
  clear hcv hstp hz HST
  go_wp2_with fail
  have hs := (hs.ownEmptyM 1 (by decide) 31 (oneC (fun _ => undef))).rows0 (fun _ => undef) (cfT xss) xss.length
  go_loopw [7, 8, 9, 10] (fun o i _ _ wr => ∃ (k : Nat) (ws : Nat → Value), k ≤ xss.length ∧ i = .int .i64 k ∧ SH none w wr [rdRowsP ws (cfT xss) k xss.length, ownMP 1 31 o k (oneC ws), ownP .i64 3 (.slice a3 L.length c3) L, rdSSP (.slice a1 xss.length c1) vs xss, rdP .u8 (.slice ac c.length cc) c, rdP .u8 (.slice (some ⟨1, 0, none⟩) 64 64) dbL]) (fun _ i _ _ _ => xss.length - (intOf i).toNat)
  case atStart => exact ⟨0, _, Nat.zero_le _, rfl, hs⟩
  case round =>
    clear hs
    obtain ⟨k, ws, hk, rfl, hs⟩ := hrel
    obtain ⟨ao, co, rfl, -⟩ := (OwnM.rd hs.p1).form
    by_cases hlt : k < xss.length
    · have i1 : (k : Int) < (xss.length : Int) := by omega
      go_wp2_with fail
      have hs := hs.ownEmptyM 1 (by decide) 4 (fun j _ => .bool (cfT xss k j))
      go_loopw [9, 10] (fun o i wr => ∃ q : Nat, q ≤ xss.length ∧ i = .int .i64 q ∧ SH none w wr [ownMP 1 4 o q (fun j _ => .bool (cfT xss k j)), rdRowsP ws (cfT xss) k xss.length, ownMP 1 31 (.slice ao k co) k (oneC ws), ownP .i64 3 (.slice a3 L.length c3) L, rdSSP (.slice a1 xss.length c1) vs xss, rdP .u8 (.slice ac c.length cc) c, rdP .u8 (.slice (some ⟨1, 0, none⟩) 64 64) dbL]) (fun _ i _ => xss.length - (intOf i).toNat)
      case atStart => exact ⟨0, Nat.zero_le _, rfl, hs⟩
      case round =>
        clear hs
        obtain ⟨q, hq, rfl, hs⟩ := hrel
        obtain ⟨ar, cr, rfl, -⟩ := (OwnM.rd hs.p0).form
        by_cases hql : q < xss.length
        · have hss : RdSS wr (.slice a1 xss.length c1) vs xss := hs.p4
          obtain ⟨b, off, rfl, hck⟩ := hss.rows.at_ hlt
          obtain ⟨b', off', e, hcq⟩ := hss.rows.at_ hql
          cases e
          have hk0 := hck 0 (by decide)
          have hq0 := hcq 0 (by decide)
          simp only [oneC, Nat.mul_one, Nat.add_zero] at hk0 hq0
          have hrk := hss.each k hlt
          have hrq := hss.each q hql
          obtain ⟨ak, ck, hvk, -⟩ := hrk.form
          obtain ⟨aq, cq, hvq, -⟩ := hrq.form
          rw [HRL.out k hlt] at hvk
          rw [HRL.out q hql] at hvq
          rw [hvk] at hrk hk0
          rw [hvq] at hrq hq0
          obtain ⟨bk, ok, rfl, hxk⟩ := hrk.at_ hql
          obtain ⟨bq, oq, rfl, hxq⟩ := hrq.at_ hlt
          have hxk2 : wr.cell? ⟨bk, ok + q, none⟩ = some (.int .i64 (tt xss k q)) := hxk
          have hxq2 : wr.cell? ⟨bq, oq + k, none⟩ = some (.int .i64 (tt xss q k)) := hxq
          have HT : Hid (cfT xss k q = (decide (0 < tt xss k q) || decide (0 < tt xss q k))) := Lib.hid rfl
          have i2 : (q : Int) < (xss.length : Int) := by omega
          obtain ⟨x, hx⟩ : ∃ x, tt xss k q = x := ⟨_, rfl⟩
          obtain ⟨y, hy⟩ : ∃ y, tt xss q k = y := ⟨_, rfl⟩
          rw [hx] at hxk2 HT
          rw [hy] at hxq2 HT
          clear hck hcq hrk hrq hvk hvq hxk hxq hx hy hss
          by_cases h1 : 0 < x
          · have g1 : decide (x > 0) = true := decide_eq_true h1
            have HT1 : Hid (cfT xss k q = true) := Lib.hid (by rw [HT.out, decide_eq_true h1]; rfl)
            clear h1
            go_wp2_with (at_builtin; refine wp_app1MS rfl rfl 4 1 1 (.bool false) Tryd.underlying31 info_bool rfl (by decide) (fun _ => .bool true) rfl (hs.alloc _) rfl (fun j hj => by obtain rfl : j = 0 := (by omega); exact World.cell?_alloc_at _ _ _ _ rfl) (fun j hj => rfl) (by omega) (by unfold maxLen; omega) ?_; intro v9 w9 hs)
            have hs := hs.congrM (fun i j _ _ => bool_upd HT1.out i j)
            go_roundw
            case rel => exact ⟨q + 1, hql, by go_num, hs⟩
            case measure => simp [intOf]; omega
          · have g1 : decide (x > 0) = false := decide_eq_false h1
            by_cases h2 : 0 < y
            · have g2 : decide (y > 0) = true := decide_eq_true h2
              have HT1 : Hid (cfT xss k q = true) := Lib.hid (by rw [HT.out, decide_eq_true h2]; simp)
              clear h1 h2
              go_wp2_with (at_builtin; refine wp_app1MS rfl rfl 4 1 1 (.bool false) Tryd.underlying31 info_bool rfl (by decide) (fun _ => .bool true) rfl (hs.alloc _) rfl (fun j hj => by obtain rfl : j = 0 := (by omega); exact World.cell?_alloc_at _ _ _ _ rfl) (fun j hj => rfl) (by omega) (by unfold maxLen; omega) ?_; intro v9 w9 hs)
              have hs := hs.congrM (fun i j _ _ => bool_upd HT1.out i j)
              go_roundw
              case rel => exact ⟨q + 1, hql, by go_num, hs⟩
              case measure => simp [intOf]; omega
            · have g2 : decide (y > 0) = false := decide_eq_false h2
              have HT1 : Hid (cfT xss k q = false) := Lib.hid (by rw [HT.out, decide_eq_false h1, decide_eq_false h2]; rfl)
              clear h1 h2
              go_wp2_with (at_builtin; refine wp_app1MS rfl rfl 4 1 1 (.bool false) Tryd.underlying31 info_bool rfl (by decide) (fun _ => .bool false) rfl (hs.alloc _) rfl (fun j hj => by obtain rfl : j = 0 := (by omega); exact World.cell?_alloc_at _ _ _ _ rfl) (fun j hj => rfl) (by omega) (by unfold maxLen; omega) ?_; intro v9 w9 hs)
              have hs := hs.congrM (fun i j _ _ => bool_upd HT1.out i j)
              go_roundw
              case rel => exact ⟨q + 1, hql, by go_num, hs⟩
              case measure => simp [intOf]; omega
        · obtain rfl : q = xss.length := by omega
          have hs := hs.rows1.bring1
          go_wp2_with (at_builtin; refine wp_app1MS rfl rfl 31 24 1 (.slice none 0 0) Tryd.underlying30 info_bools rfl (by decide) (fun _ => .slice ar xss.length cr) rfl (hs.alloc _) rfl (fun j hj => by obtain rfl : j = 0 := (by omega); exact World.cell?_alloc_at _ _ _ _ rfl) (fun j hj => rfl) (by omega) (by unfold maxLen; omega) ?_; intro v9 w9 hs)
          have hs := hs.congrM (fun i j _ _ => row_upd (ws := ws) i j)
          go_roundw
          case rel => exact ⟨k + 1, _, hlt, by go_num, hs.bring1⟩
          case measure => simp [intOf]; omega
    · obtain rfl : k = xss.length := by omega
      have HRT : Hid (∀ W, SH none w W [rdRowsP ws (cfT xss) xss.length xss.length, ownMP 1 31 (.slice ao xss.length co) xss.length (oneC ws), ownP .i64 3 (.slice a3 L.length c3) L, rdSSP (.slice a1 xss.length c1) vs xss, rdP .u8 (.slice ac c.length cc) c, rdP .u8 (.slice (some ⟨1, 0, none⟩) 64 64) dbL] → RdT W (.slice ao xss.length co) ws (cfT xss) xss.length) := Lib.hid fun W h => ⟨OwnM.rd h.p1, h.p0⟩
      go_wp2_with fail
      refine (SH.own hs (by repeat' (first | with_reducible exact Below.refl _ _ | with_reducible assumption | with_reducible refine below_drewN ?_ _ | with_reducible refine Below.drew ?_ | with_reducible refine Below.alloc ?_ ?_ _ | with_reducible refine Below.setCell ?_ ?_ _ | go_size)) fun hs => greedy_c _ ws (cfT xss) xss.length _ (HRT.out _ hs) (by omega) HSY.out HDG.out hs.p5).mono ?_
      rintro e w5 ⟨v5, rfl, hs⟩
      have HGL := Lib.hid (grdS_len (cfT xss) xss.length xss.length)
      have HGB : Hid (∀ i, i < xss.length → 0 ≤ gi (grdS (cfT xss) xss.length xss.length) i ∧ gi (grdS (cfT xss) xss.length xss.length) i ≤ 9) := Lib.hid fun i hi => by have := grdS_bd (cfT xss) xss.length xss.length (by omega) i hi; omega
      have HGN : Hid (∀ i j, i < xss.length → j < xss.length → cfT xss i j = true → gi (grdS (cfT xss) xss.length xss.length) i ≠ gi (grdS (cfT xss) xss.length xss.length) j) := Lib.hid fun i j hi hj h => grdS_ne2 (by omega) HSY.out HDG.out hi hj h
      generalize grdS (cfT xss) xss.length xss.length = G at *
      obtain ⟨aG, cG, rfl, -⟩ := (OwnK.rd hs.p0).form
      rw [HGL.out] at hs ⊢
      have e2 : ((xss.length : Int) != (xss.length : Int)) = false := bne_self_eq_false _
      go_wp2_with fail
      go_loopw [12] (fun i wr => ∃ q : Nat, i = .int .i64 q ∧ q ≤ L.length ∧ SH none w wr [ownP .i64 3 (.slice aG xss.length cG) G, rdRowsP ws (cfT xss) xss.length xss.length, ownMP 1 31 (.slice ao xss.length co) xss.length (oneC ws), ownP .i64 3 (.slice a3 L.length c3) L, rdSSP (.slice a1 xss.length c1) vs xss, rdP .u8 (.slice ac c.length cc) c, rdP .u8 (.slice (some ⟨1, 0, none⟩) 64 64) dbL]) (fun i _ => L.length + 1 - (intOf i).toNat)
      case atStart => exact ⟨0, rfl, Nat.zero_le _, hs⟩
      case round =>
        clear hs
        obtain ⟨q, rfl, hq, hs⟩ := hrel
        by_cases hql : q + 1 < L.length
        · obtain ⟨i, j, e1, e3, hi, hj, ht, -⟩ := HSTP.out q hql
          have hT : cfT xss i j = true := by unfold cfT; rw [decide_eq_true ht]; rfl
          have hne := HGN.out i j hi hj hT
          obtain ⟨bL, oL, rfl, hc1⟩ := (OwnK.rd hs.p3).at_ (i := q) (by omega)
          obtain ⟨b', o', e, hc2⟩ := (OwnK.rd hs.p3).at_ (i := q + 1) hql
          cases e
          obtain ⟨bG, oG, rfl, hg1⟩ := (OwnK.rd hs.p0).at_ hi
          obtain ⟨b', o', e, hg2⟩ := (OwnK.rd hs.p0).at_ hj
          cases e
          rw [e1] at hc1
          rw [e3] at hc2
          have hneb : (gi G i == gi G j) = false := by rw [beq_eq_false_iff_ne]; exact hne
          generalize gi G i = x at *
          generalize gi G j = y at *
          have i1 : (i : Int) < (xss.length : Int) := by omega
          have i2 : (j : Int) < (xss.length : Int) := by omega
          have i3 : (q : Int) < (L.length : Int) := by omega
          have i4 : (q : Int) + 1 < (L.length : Int) := by omega
          have htn : ((q : Int) + 1).toNat = q + 1 := by omega
          clear ht hT hne e1 e3
          go_wp2
          go_quiet (fail)
          have hs := hs.drewN nq
          go_wp2
          go_roundw
          case rel => exact ⟨q + 1, by go_num, by omega, hs⟩
          case measure => simp [intOf]; omega
        · have hnl : ¬ (q : Int) + 1 < (L.length : Int) := by omega
          have hrdt : ∀ W, SH none w W [ownP .i64 3 (.slice aG xss.length cG) G, rdRowsP ws (cfT xss) xss.length xss.length, ownMP 1 31 (.slice ao xss.length co) xss.length (oneC ws), ownP .i64 3 (.slice a3 L.length c3) L, rdSSP (.slice a1 xss.length c1) vs xss, rdP .u8 (.slice ac c.length cc) c, rdP .u8 (.slice (some ⟨1, 0, none⟩) 64 64) dbL] → RdT W (.slice ao xss.length co) ws (cfT xss) xss.length := fun W h => HRT.out W h.drop0
          have HRD := Lib.hid hrdt
          clear hrdt
          go_wp2_with fail
          refine (SH.quiet hs (by repeat' (first | with_reducible exact Below.refl _ _ | with_reducible assumption | with_reducible refine below_drewN ?_ _ | with_reducible refine Below.drew ?_ | with_reducible refine Below.alloc ?_ ?_ _ | with_reducible refine Below.setCell ?_ ?_ _ | go_size)) fun hs => slotsValid_c _ _ ws (cfT xss) xss.length G _ (HRD.out _ hs) (OwnK.rd hs.p0) (by omega) HSY.out HDG.out HGL.out HGB.out (fun i j hi hj h => (HGN.out i j hi hj h).symm)).mono ?_
          rintro e w6 ⟨rfl, hs⟩
          go_wp2
          go_ret
          exact Ret.mk1 rfl (SH.done (by first | exact hs | exact (hs).alloc _ | exact ((hs).alloc _).alloc _ | exact (((hs).alloc _).alloc _).alloc _ | exact ((((hs).alloc _).alloc _).alloc _).alloc _ | exact (hs).drew | exact ((hs).alloc _).drew | exact (((hs).alloc _).alloc _).drew | exact ((((hs).alloc _).alloc _).alloc _).drew | exact (((((hs).alloc _).alloc _).alloc _).alloc _).drew | exact (hs).drewN _ | exact ((hs).alloc _).drewN _ | exact (((hs).alloc _).alloc _).drewN _ | exact ((((hs).alloc _).alloc _).alloc _).drewN _ | exact (((((hs).alloc _).alloc _).alloc _).alloc _).drewN _))
end Go.Proofs.YtdfinlpfkmmpkaaDoor
