import Derived.Test.YtdfinlpfkmmpkaaDoorProg
import Derived.Test.YtdfinlpfkmmpkaaDoorCostsV
import Derived.Test.YtdfinlpfkmmpkaaDoorHeap2
import Derived.Deep.LoopGhost
namespace Go.Proofs.YtdfinlpfkmmpkaaDoor
open Go.RowKit

/-! The program's LeastCosts. -/
theorem cell_alloc_l {W : World} {a : Addr} {v : Value} (o : Obj) (h : W.cell? a = some v) : (W.alloc o).cell? a = some v := (((Below.refl W.heap.size W).alloc (Nat.le_refl _) o).cell (cell_lt h)).trans h
theorem SH.litC {row : Option Nat} {w0 w : World} {I : List Part} (h : SH row w0 w I) (t : TypeId) (x : Int × Int) : SH row w0 (w.alloc (.cells #[.int .i64 x.1, .int .i64 x.2] t)) (ownMP 2 t (.slice (some ⟨w.heap.size, 0, none⟩) 1 1) 1 (hcC encC [x]) :: I) :=
  h.pushOwnM ((Below.refl _ _).alloc (Nat.le_refl _) _) (by
    have := World.ownsRow_lit (base := w.heap.size) (e := t) (size := 2) w #[.int .i64 x.1, .int .i64 x.2] 1 (Nat.le_refl _) (by simp [maxLen]) (by simp)
    exact this)
theorem blk2 {w : World} {B : Nat} {x y : Value} {t : TypeId} (h : w.heap[B]? = some (.cells #[x, y] t (0, 0))) : w.cell? ⟨B, 0, none⟩ = some x ∧ w.cell? ⟨B, 1, none⟩ = some y := by
  constructor <;> simp [World.cell?, h]
theorem setN_none {c : Nat → Int} : ∀ {n : Nat}, (∀ i, i < n → c i = -1) → setN c n = 0
  | 0, _ => rfl
  | n + 1, h => by
    have ih := setN_none (c := c) (n := n) fun i hi => h i (by omega)
    have h1 := h n (by omega)
    unfold setN at *
    simp only [cntP, ih, h1]
    decide
theorem Dj.start2 {t : Nat → Nat → Int} {n to : Nat} {c : Nat → Int} (hto : to < n) (s : Nat) (hc : ∀ i, i < n → c i = -1) : Dj t n to c [((to : Int), (0 : Int))] s n := by
  refine ⟨fun i hi => by rw [hc i hi]; decide, fun q hq => ?_, .inr ⟨by rw [hc to hto]; decide, by simp⟩, fun i j hi hj _ h => by rw [hc j hj] at h; exact absurd h (by decide), fun i hi _ h => by rw [hc i hi] at h; exact absurd h (by decide), fun i hi h => by rw [hc i hi] at h; exact absurd h (by decide), fun i hi h => by rw [hc i hi] at h; exact absurd h (by decide), fun q hq => ?_⟩
  · simp only [List.mem_singleton] at hq; subst hq
    exact ⟨to, hto, rfl, .inl ⟨rfl, rfl⟩⟩
  · simp only [List.mem_singleton] at hq; subst hq
    simp only; omega
structure MQ (n s L kx : Nat) : Prop where
  m : (n - s) * (n + 1) + L ≤ kx
  l : L ≤ 1 + s * n
  s : s ≤ n
  n : n ≤ 10
theorem MQ.le {n s L kx : Nat} (h : MQ n s L kx) : L ≤ 101 := by
  have := Nat.mul_le_mul (Nat.le_trans h.s h.n) h.n
  have := h.l; omega
theorem MQ.skip {n s L kx : Nat} (h : MQ n s (L + 1) kx) : 0 < kx ∧ MQ n s L (kx - 1) := by
  have := h.m; have := h.l
  exact ⟨by omega, by omega, by omega, h.s, h.n⟩
theorem MQ.step {n s L kx M : Nat} (h : MQ n s (L + 1) kx) (hs : s + 1 ≤ n) (hM : M ≤ L + n) : 0 < kx ∧ MQ n (s + 1) M (kx - 1) := by
  have h1 := h.m; have h2 := h.l
  have e : n - s = (n - (s + 1)) + 1 := by omega
  rw [e, Nat.add_mul] at h1
  refine ⟨by omega, by omega, ?_, hs, h.n⟩
  rw [Nat.add_mul]; omega
theorem upN_set {cs : List Int} {i : Nat} (hi : i < cs.length) (d : Int) : gi (cs.set i d) = upN (gi cs) i d := funext fun j => by rw [gi_set hi]; rfl
theorem perm_mem {x : Int × Int} {ys xs : List (Int × Int)} (h : (x :: ys).Perm xs) : ∀ r, r ∈ xs ↔ r = x ∨ r ∈ ys := fun r => by rw [← h.mem_iff, List.mem_cons]

set_option maxRecDepth 100000 in
set_option maxHeartbeats 4000000 in
theorem implLeastCosts_c (va : Value) (vs : Nat → Value) (xss : List (List Int)) (to : Int) (w : World) (h : RdSS w va vs xss) (hb : lcB xss to = true) :
    Calls Tryd.prog 13 #[va, .int .i64 to] w (Ret w fun v w' => OwnI w' w.heap.size 3 v (lcV xss to)) := by
  obtain ⟨hv, t0, t1⟩ := lcB_true.1 hb
  have hin : inB to 0 ((xss.length : Int) - 1) = true := inB_true.2 ⟨t0, t1⟩
  have hn10 := (cvB_true.1 hv).1
  obtain ⟨q, rfl⟩ : ∃ q : Nat, to = (q : Int) := ⟨to.toNat, by omega⟩
  have hq : q < xss.length := by omega
  obtain ⟨a, ca, rfl, ml⟩ := h.rows.form
  have hs := SH.start w [rdSSP (.slice a xss.length ca) vs xss] (by simp only [List.forall_mem_cons]; exact ⟨⟨h, rdSSP_wr⟩, by simp⟩)
  have HV := Lib.hid hv
  have HB := Lib.hid hb
  have HIN := Lib.hid hin
  have HFIN : Hid (∀ cs : List Int, cs.length = xss.length → Least (tt xss) xss.length q (gi cs) → cs = lcV xss (q : Int)) := Lib.hid (fun cs h1 h2 => lcV_of hb h1 (by simpa using h2))
  have HTT : Hid (∀ i j, i < xss.length → j < xss.length → tt xss i j ≤ 100 ∧ 0 ≤ tt xss i j) := Lib.hid (fun i j hi hj => ⟨((cvRow_true.1 ((cvB_true.1 hv).2 i hi)).2.2 j hj).2, ((cvRow_true.1 ((cvB_true.1 hv).2 i hi)).2.2 j hj).1⟩)
  have HRL : Hid (∀ i, i < xss.length → (gl xss i).length = xss.length) := Lib.hid (fun i hi => (cvRow_true.1 ((cvB_true.1 hv).2 i hi)).1)
  clear h hv hb hin t0 t1
  generalize hN : xss.length = n at *
  go_enter Tryd.func13, Tryd.ntmps13
  go_wp2_with fail
  refine (SH.quiet hs (by repeat' (first | with_reducible exact Below.refl _ _ | with_reducible assumption | with_reducible refine below_drewN ?_ _ | with_reducible refine Below.drew ?_ | with_reducible refine Below.alloc ?_ ?_ _ | with_reducible refine Below.setCell ?_ ?_ _ | go_size)) fun hs => implCostsValid_c _ vs xss _ hs.p0).mono ?_
  rintro e w1 ⟨rfl, hs⟩
  rw [HV.out]
  go_wp2_with fail
  refine (SH.quiet hs (by repeat' (first | with_reducible exact Below.refl _ _ | with_reducible assumption | with_reducible refine below_drewN ?_ _ | with_reducible refine Below.drew ?_ | with_reducible refine Below.alloc ?_ ?_ _ | with_reducible refine Below.setCell ?_ ?_ _ | go_size)) fun hs => implStationOf_c _ vs xss _ _ hs.p0).mono ?_
  rintro e w2 ⟨rfl, hs⟩
  rw [hN, HIN.out]
  go_wp2_with (at_make; refine wp_makeK rfl rfl .i64 _ 3 8 Tryd.underlying26 info_int n rfl rfl rfl rfl (by omega) (by unfold maxLen; omega) (Nat.le_refl _) ?_; intro w3 hown hg hsz)
  have hs := hs.pushOwn (below_of_grown hg) hown
  clear hown hg hsz
  generalize w2.heap.size = G at *
  go_loopw [26] (fun i wr => ∃ (k : Nat) (cs : List Int), k ≤ n ∧ i = .int .i64 k ∧ Hid (cs.length = n) ∧ Hid (∀ j, j < k → gi cs j = -1) ∧ SH none w wr [ownP .i64 3 (.slice (some ⟨G, 0, none⟩) n n) cs, rdSSP (.slice a n ca) vs xss]) (fun i _ => n - (intOf i).toNat)
  case atStart => exact ⟨0, _, Nat.zero_le _, rfl, Lib.hid (by simp), Lib.hid (fun j h => absurd h (Nat.not_lt_zero _)), hs⟩
  case round =>
    clear hs
    obtain ⟨k, cs, hk, rfl, HL, HC, hs⟩ := hrel
    by_cases hlt : k < n
    · obtain ⟨g, hge, -, -, hc, hf⟩ := OwnK.at_ hs.p0 hlt
      simp only [Option.some.injEq, Addr.mk.injEq, and_true] at hge
      subst hge
      go_wp2
      go_roundw
      case rel =>
        refine ⟨k + 1, _, hlt, by go_num, Lib.hid (by rw [List.length_set]; exact HL.out), Lib.hid (fun j hj => ?_), hs.setOwn hlt (-1)⟩
        rw [gi_set (by rw [HL.out]; exact hlt)]
        split
        · rfl
        · exact HC.out j (by omega)
      case measure => simp [intOf]; omega
    · obtain rfl : k = n := by omega
      go_wp2
      have hs := (hs.litC 57 ((q : Int), 0)).allocP #[.slice (some ⟨wr.heap.size, 0, none⟩) 1 1] 59
      rw [show (wr.alloc (.cells #[.int .i64 ((q : Int), (0 : Int)).1, .int .i64 ((q : Int), (0 : Int)).2] 57)).heap.size = wr.heap.size + 1 from by simp] at hs
      dsimp only at hs
      generalize wr.heap.size = B0 at *
      generalize B0 + 1 = B at *
      go_loopg [] (k * (k + 1) + 1) (fun kx wr => ∃ (K : Nat) (cs : List Int) (Q : List (Int × Int)) (v : Value), K ≤ kx ∧ Hid (cs.length = k) ∧ Hid (Dj (tt xss) k q (gi cs) Q 0 k) ∧ Hid (HeapK (keyK keyC Q) Q.length) ∧ Hid (MQ k (setN (gi cs) k) Q.length K) ∧
        SH none w wr [blkP B #[v] 59, ownMP 2 57 v Q.length (hcC encC Q), ownP .i64 3 (.slice (some ⟨G, 0, none⟩) k k) cs, rdSSP (.slice a k ca) vs xss])
      case atStart =>
        refine ⟨_, cs, [((q : Int), 0)], _, Nat.le_refl _, HL, Lib.hid (Dj.start2 hq 0 HC.out), Lib.hid (fun i h0 h1 => by simp at h1; omega), Lib.hid ?_, hs⟩
        rw [setN_none HC.out]
        exact ⟨by simp, by simp, Nat.zero_le _, hn10⟩
      case round =>
        clear hs HL HC
        obtain ⟨K, cs, Q, v, hK, HL, HD, HH, HM, hs⟩ := hrel
        obtain ⟨c0, -⟩ := blk0 hs.p0
        obtain ⟨av, cv, rfl, -⟩ := (OwnM.rd hs.p1).form
        have hQ := HM.out.le
        by_cases hz : Q.length = 0
        · obtain rfl : Q = [] := List.eq_nil_of_length_eq_zero hz
          go_wp2
          go_ret
          exact Ret.mk1 (by rw [← HFIN.out cs HL.out HD.out.finish]; exact SH.ownRet (hs.drop0.drop0)) hs.done
        · obtain ⟨L, hLQ⟩ : ∃ L, Q.length = L + 1 := ⟨Q.length - 1, by omega⟩
          rw [hLQ] at hs HM HH c0
          have HLQ := Lib.hid hLQ
          have hL1 : L ≤ 100 := by omega
          clear hz hLQ hQ
          go_wp2_with fail
          refine (hPopC B _ Q L _ hs HLQ.out (by omega) HH.out).mono ?_
          rintro e w3 ⟨x, rfl, v3, ys, hp, hyl, hmin, hh, hs⟩
          obtain ⟨i, hi, hxi, -⟩ := HD.out.ent x (hp.mem_iff.1 (by simp))
          obtain ⟨x1, x2⟩ := x
          obtain rfl : x1 = (i : Int) := hxi
          have HP := Lib.hid hp
          have HMIN := Lib.hid hmin
          have HH2 := Lib.hid hh
          have HYL := Lib.hid hyl
          have hx2 : Hid (x2 ≤ 100 * (setN (gi cs) k : Int)) := Lib.hid (HD.out.bndQ ((i : Int), x2) (hp.mem_iff.1 (by simp)))
          clear hp hmin hh hyl c0
          have ta := assertC ((i : Int), x2)
          dsimp only [aggC] at ta ⊢
          have hsN := hs.allocP #[.int .i64 i, .int .i64 x2] 57
          obtain ⟨g, hge, -, -, hci, hfi⟩ := OwnK.at_ hsN.p3 hi
          simp only [Option.some.injEq, Addr.mk.injEq, and_true] at hge
          subst hge
          have i1 : (i : Int) < (k : Int) := by omega
          by_cases h0 : 0 ≤ gi cs i
          · go_wp2
            go_roundg (K - 1)
            case measure => have := HM.out.skip.1; omega
            case rel =>
              refine ⟨_, cs, ys, v3, Nat.le_refl _, HL, Lib.hid (HD.out.skip (perm_mem HP.out) rfl h0), by rw [HYL.out]; exact HH2, by rw [HYL.out]; exact Lib.hid HM.out.skip.2, ?_⟩
              rw [HYL.out]
              exact hs.alloc _
          · obtain ⟨D1, -, hx0, htop⟩ := HD.out.settle (perm_mem HP.out) HMIN.out rfl (Int.not_le.1 h0)
            rw [← upN_set (cs := cs) (i := i) (by rw [HL.out]; exact hi)] at D1 htop
            have hii : gi (cs.set i x2) i = x2 := by rw [upN_set (by rw [HL.out]; exact hi), upN_eq]
            have hset : setN (gi (cs.set i x2)) k = setN (gi cs) k + 1 := by rw [upN_set (by rw [HL.out]; exact hi)]; exact setN_up hi (Int.not_le.1 h0) hx0
            have HST : Hid (setN (gi cs) k + 1 ≤ k) := Lib.hid (by rw [← hset]; exact cntP_le _ _)
            have hxb : x2 ≤ 1000 := by have h1 := hx2.out; have h2 := HST.out; omega
            have hx0' : 0 ≤ x2 := hx0
            have HTOP : Hid (∀ j, j < k → gi (cs.set i x2) j ≤ gi (cs.set i x2) i) := Lib.hid (fun j hj => by rw [hii]; exact htop j hj)
            have HD1 := Lib.hid D1
            have HII := Lib.hid hii
            have HSET := Lib.hid hset
            have HL2 : Hid ((cs.set i x2).length = k) := Lib.hid (by rw [List.length_set]; exact HL.out)
            clear D1 hx0 htop hii hset
            go_wp2
            have hs := (((hsN.bring3.setOwn hi x2).bring2).bring3).bring1
            clear hsN hci hfi ta h0
            generalize cs.set i x2 = cs2 at *
            generalize w3.heap.size = NB at *
            go_loopw [56] (fun im wq => ∃ (m : Nat) (Q2 : List (Int × Int)) (v : Value), m ≤ k ∧ im = .int .i64 m ∧ Q2.length ≤ L + m ∧ Hid (Dj (tt xss) k q (gi cs2) Q2 i m) ∧ Hid (HeapK (keyK keyC Q2) Q2.length) ∧
              SH none w wq [blkP B #[v] 59, ownMP 2 57 v Q2.length (hcC encC Q2), ownP .i64 3 (.slice (some ⟨G, 0, none⟩) k k) cs2, blkP NB #[.int .i64 i, .int .i64 x2] 57, rdSSP (.slice a k ca) vs xss]) (fun im _ => k - (intOf im).toNat)
            case atStart => exact ⟨0, ys, v3, Nat.zero_le _, rfl, by rw [HYL.out]; omega, HD1, by rw [HYL.out]; exact HH2, by rw [HYL.out]; exact hs⟩
            case round =>
              clear hs HD1
              obtain ⟨m, Q2, v, hm, rfl, hQ2, HDm, HHm, hs⟩ := hrel
              by_cases hlt : m < k
              · obtain ⟨bt, ot, am, cm, e4, -, hc0, hrm⟩ := rowAt (SH.p4 hs : RdSS _ _ _ _) (k := m) (by omega)
                subst e4
                have hrl := HRL.out m hlt
                rw [hrl] at hc0 hrm
                clear hrl
                obtain ⟨br, ob, rfl, hrc⟩ := hrm.at_ hi
                obtain ⟨g, hge, -, -, hcm, -⟩ := OwnK.at_ hs.p2 hlt
                simp only [Option.some.injEq, Addr.mk.injEq, and_true] at hge
                subst hge
                obtain ⟨b0, b1⟩ := blk2 hs.p3
                have i0 : (0 : Int) ≤ (i : Int) := by omega
                have m1 : (m : Int) < (k : Int) := by omega
                have hl0 : 0 ≤ gi (gl xss m) i ∧ gi (gl xss m) i ≤ 100 := ⟨(HTT.out m i hlt hi).2, (HTT.out m i hlt hi).1⟩
                obtain ⟨hl0, hl1⟩ := hl0
                have HTM : Hid (tt xss m i = gi (gl xss m) i) := Lib.hid rfl
                clear hrm
                by_cases q1 : 0 < gi (gl xss m) i
                · by_cases q2 : gi cs2 m < 0
                  · have HQ := Lib.hid (And.intro q1 q2)
                    go_wp2_with fail
                    refine (hPushC B v Q2 Q2.length ((m : Int), x2 + gi (gl xss m) i) _ hs rfl (by omega) HHm.out).mono ?_
                    rintro e w5 ⟨rfl, v5, ys5, hp5, hh5, hs⟩
                    have HP5 := Lib.hid hp5
                    have HH5 := Lib.hid hh5
                    clear hp5 hh5 hc0 hrc hcm b0 b1
                    go_wp2
                    go_roundw
                    case rel =>
                      have hl5 : ys5.length = Q2.length + 1 := by rw [HP5.out.length_eq]; rfl
                      refine ⟨m + 1, ys5, v5, hlt, by go_num, by omega, Lib.hid ?_, by rw [hl5]; exact HH5, by rw [hl5]; exact hs⟩
                      refine HDm.out.push hlt hi (by rw [HII.out]; exact hx0') HTOP.out (by rw [HTM.out]; exact q1) (by rw [HTM.out]; exact hl1) q2 (fun r => ?_)
                      rw [HP5.out.mem_iff, List.mem_cons, HII.out, HTM.out]
                    case measure => simp [intOf]; omega
                  · have HQ := Lib.hid q2
                    go_wp2
                    go_roundw
                    case rel => exact ⟨m + 1, Q2, v, hlt, by go_num, by omega, Lib.hid (HDm.out.next hlt HTOP.out (fun h => HQ.out h.2)), HHm, hs⟩
                    case measure => simp [intOf]; omega
                · have HQ := Lib.hid q1
                  go_wp2
                  go_roundw
                  case rel => exact ⟨m + 1, Q2, v, hlt, by go_num, by omega, Lib.hid (HDm.out.next hlt HTOP.out (fun h => HQ.out (by rw [← HTM.out]; exact h.1))), HHm, hs⟩
                  case measure => simp [intOf]; omega
              · obtain rfl : m = k := by omega
                go_wp2
                go_roundg (K - 1)
                case measure => have := (HM.out.step (M := L) HST.out (by omega)).1; omega
                case rel =>
                  refine ⟨_, cs2, Q2, v, Nat.le_refl _, HL2, Lib.hid (HDm.out.any 0), HHm, ?_, (hs.bring3.drop0)⟩
                  rw [HSET.out]
                  exact Lib.hid (HM.out.step HST.out hQ2).2
end Go.Proofs.YtdfinlpfkmmpkaaDoor
