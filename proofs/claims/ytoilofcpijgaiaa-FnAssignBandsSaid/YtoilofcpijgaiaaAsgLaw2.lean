import Derived.Test.YtoilofcpijgaiaaProg
import Derived.Test.YtoilofcpijgaiaaSym
import Derived.Test.YtoilofcpijgaiaaInts
import Derived.Test.YtoilofcpijgaiaaPair
import Derived.Test.YtoilofcpijgaiaaBand
import Derived.Test.YtoilofcpijgaiaaBlk
import Derived.Test.YtoilofcpijgaiaaAsg
import Derived.Test.YtoilofcpijgaiaaDrawBand
import Derived.Test.YtoilofcpijgaiaaBandFull
namespace Go.Proofs.Ytoilofcpijgaiaa
open Go.RowKit

set_option maxRecDepth 100000 in
set_option maxHeartbeats 4000000 in
theorem DrawAssignBands_s (va : Value) (cs : List Int) (w : World) {row : Option Nat} {w0 : World} {I : List Part} (hs : SH row w0 w (rdP .u8 va cs :: I)) (hb : ∀ n ∈ cs, (Lit.int .u8 n).wf = true) :
    Calls Try.prog 47 #[va] w (fun e w' => ∃ (v v' : Value) (fs : List (Int × Int)) (ws : List Int), e = .returned (.tuple #[v, v']) ∧ fs.length ≤ 6 ∧ ws.length ≤ 8 ∧ SH row w0 w' (bandP v fs :: ownP .i64 3 v' ws :: rdP .u8 va cs :: I)) := by
  have HB := Lib.hid hb
  clear hb
  go_enter Try.func47, Try.ntmps47
  go_wp2_with fail
  refine (open_s va cs _ (by first | exact hs | exact (hs).allocP1 _ _ | exact ((hs).allocP1 _ _).allocP1 _ _ | exact (((hs).allocP1 _ _).allocP1 _ _).allocP1 _ _ | exact ((((hs).allocP1 _ _).allocP1 _ _).allocP1 _ _).allocP1 _ _ | exact (hs).drew | exact ((hs).allocP1 _ _).drew | exact (((hs).allocP1 _ _).allocP1 _ _).drew | exact ((((hs).allocP1 _ _).allocP1 _ _).allocP1 _ _).drew | exact (((((hs).allocP1 _ _).allocP1 _ _).allocP1 _ _).allocP1 _ _).drew | exact (hs).drewN _ | exact ((hs).allocP1 _ _).drewN _ | exact (((hs).allocP1 _ _).allocP1 _ _).drewN _ | exact ((((hs).allocP1 _ _).allocP1 _ _).allocP1 _ _).drewN _ | exact (((((hs).allocP1 _ _).allocP1 _ _).allocP1 _ _).allocP1 _ _).drewN _) HB.out).mono ?_
  rintro e w1 ⟨g, sv, bs, rfl, hs⟩
  go_wp2_with fail
  refine (l20Bands_s g 0 12 _ (by first | exact hs | exact (hs).allocP1 _ _ | exact ((hs).allocP1 _ _).allocP1 _ _ | exact (((hs).allocP1 _ _).allocP1 _ _).allocP1 _ _ | exact ((((hs).allocP1 _ _).allocP1 _ _).allocP1 _ _).allocP1 _ _ | exact (hs).drew | exact ((hs).allocP1 _ _).drew | exact (((hs).allocP1 _ _).allocP1 _ _).drew | exact ((((hs).allocP1 _ _).allocP1 _ _).allocP1 _ _).drew | exact (((((hs).allocP1 _ _).allocP1 _ _).allocP1 _ _).allocP1 _ _).drew | exact (hs).drewN _ | exact ((hs).allocP1 _ _).drewN _ | exact (((hs).allocP1 _ _).allocP1 _ _).drewN _ | exact ((((hs).allocP1 _ _).allocP1 _ _).allocP1 _ _).drewN _ | exact (((((hs).allocP1 _ _).allocP1 _ _).allocP1 _ _).allocP1 _ _).drewN _) (by decide) (by decide)).mono ?_
  rintro e w2 ⟨v, fs, rfl, hfl, hx, hs⟩
  clear hx
  have hs := hs.bring1
  go_wp2_with fail
  refine (pick_s g _ 9 _ ⟨(hs.ownEmpty .i64 3).bring1, by omega⟩ (by decide)).mono ?_
  rintro e w3 ⟨c0, rfl, c0_0, c0_a, -, hs⟩
  have c0_1 := c0_a (by decide)
  clear c0_a
  go_wp2_with fail
  go_loopw [6, 7] (fun o i wr => ∃ (q : Int) (ws : List Int), 0 ≤ q ∧ i = .int .i64 q ∧ (ws.length : Int) + q ≤ 8 ∧ SH row w0 wr (rdrP g (62 + 2 * ws.length) sv bs :: ownP .i64 3 o ws :: bandP v fs :: rdP .u8 va cs :: I)) (fun _ i _ => (intOf i).toNat)
  case atStart => exact ⟨c0, [], c0_0, rfl, by simp; omega, rdrP_mono hs (by decide)⟩
  case round =>
    obtain ⟨q, ws, q0, rfl, hlen, hs⟩ := hrel
    obtain ⟨ao, co, rfl, -⟩ := (OwnK.rd hs.p1).form
    by_cases hq : 0 < q
    · go_wp2_with fail
      refine (pick_s g _ 6 _ (by first | exact ⟨hs, by omega⟩ | exact ⟨(hs).allocP1 _ _, by omega⟩ | exact ⟨((hs).allocP1 _ _).allocP1 _ _, by omega⟩ | exact ⟨(((hs).allocP1 _ _).allocP1 _ _).allocP1 _ _, by omega⟩ | exact ⟨((((hs).allocP1 _ _).allocP1 _ _).allocP1 _ _).allocP1 _ _, by omega⟩ | exact ⟨(hs).drew, by omega⟩ | exact ⟨((hs).allocP1 _ _).drew, by omega⟩ | exact ⟨(((hs).allocP1 _ _).allocP1 _ _).drew, by omega⟩ | exact ⟨((((hs).allocP1 _ _).allocP1 _ _).allocP1 _ _).drew, by omega⟩ | exact ⟨(((((hs).allocP1 _ _).allocP1 _ _).allocP1 _ _).allocP1 _ _).drew, by omega⟩ | exact ⟨(hs).drewN _, by omega⟩ | exact ⟨((hs).allocP1 _ _).drewN _, by omega⟩ | exact ⟨(((hs).allocP1 _ _).allocP1 _ _).drewN _, by omega⟩ | exact ⟨((((hs).allocP1 _ _).allocP1 _ _).allocP1 _ _).drewN _, by omega⟩ | exact ⟨(((((hs).allocP1 _ _).allocP1 _ _).allocP1 _ _).allocP1 _ _).drewN _, by omega⟩) (by decide)).mono ?_
      rintro e w4 ⟨x, rfl, x_0, x_a, -, hs⟩
      have x_1 := x_a (by decide)
      clear x_a
      go_wp2_with (at_builtin; refine wp_app1S rfl rfl .i64 3 8 Try.underlying23 info_int (1 + x) rfl (hs.bring1.alloc _) rfl (World.cell?_alloc_at _ _ _ _ rfl) (by omega) (by unfold maxLen; omega) ?_; intro v9 w9 hs)
      go_wp2
      go_roundw
      case rel => exact ⟨q - 1, _, by omega, by go_num, by simp; omega, rdrP_mono hs.bring1 (by simp; omega)⟩
      case measure => simp [intOf]; omega
    · rcases Nat.eq_zero_or_pos ws.length with hz | hz
      · have hz2 : ws.length ≤ 0 := by omega
        clear hz
        go_wp2
        go_ret2
        first | exact ⟨_, _, fs, ws, rfl, hfl, by omega, hs.drop0.bring1⟩ | exact ⟨_, _, rfl, fs, hfl, ws, by omega, hs.drop0.bring1⟩
      go_wp2_with fail
      refine (odd_s g _ 14 _ (by first | exact ⟨hs, by omega⟩ | exact ⟨(hs).allocP1 _ _, by omega⟩ | exact ⟨((hs).allocP1 _ _).allocP1 _ _, by omega⟩ | exact ⟨(((hs).allocP1 _ _).allocP1 _ _).allocP1 _ _, by omega⟩ | exact ⟨((((hs).allocP1 _ _).allocP1 _ _).allocP1 _ _).allocP1 _ _, by omega⟩ | exact ⟨(hs).drew, by omega⟩ | exact ⟨((hs).allocP1 _ _).drew, by omega⟩ | exact ⟨(((hs).allocP1 _ _).allocP1 _ _).drew, by omega⟩ | exact ⟨((((hs).allocP1 _ _).allocP1 _ _).allocP1 _ _).drew, by omega⟩ | exact ⟨(((((hs).allocP1 _ _).allocP1 _ _).allocP1 _ _).allocP1 _ _).drew, by omega⟩ | exact ⟨(hs).drewN _, by omega⟩ | exact ⟨((hs).allocP1 _ _).drewN _, by omega⟩ | exact ⟨(((hs).allocP1 _ _).allocP1 _ _).drewN _, by omega⟩ | exact ⟨((((hs).allocP1 _ _).allocP1 _ _).allocP1 _ _).drewN _, by omega⟩ | exact ⟨(((((hs).allocP1 _ _).allocP1 _ _).allocP1 _ _).allocP1 _ _).drewN _, by omega⟩) (by decide)).mono ?_
      rintro e w4 ⟨od, rfl, -, hs⟩
      cases od
      · go_wp2
        go_ret2
        exact ⟨_, _, fs, ws, rfl, hfl, by omega, hs.drop0.bring1⟩
      · go_wp2_with fail
        refine (pick_s g _ (ws.length : Int) _ (by first | exact ⟨hs, by omega⟩ | exact ⟨(hs).allocP1 _ _, by omega⟩ | exact ⟨((hs).allocP1 _ _).allocP1 _ _, by omega⟩ | exact ⟨(((hs).allocP1 _ _).allocP1 _ _).allocP1 _ _, by omega⟩ | exact ⟨((((hs).allocP1 _ _).allocP1 _ _).allocP1 _ _).allocP1 _ _, by omega⟩ | exact ⟨(hs).drew, by omega⟩ | exact ⟨((hs).allocP1 _ _).drew, by omega⟩ | exact ⟨(((hs).allocP1 _ _).allocP1 _ _).drew, by omega⟩ | exact ⟨((((hs).allocP1 _ _).allocP1 _ _).allocP1 _ _).drew, by omega⟩ | exact ⟨(((((hs).allocP1 _ _).allocP1 _ _).allocP1 _ _).allocP1 _ _).drew, by omega⟩ | exact ⟨(hs).drewN _, by omega⟩ | exact ⟨((hs).allocP1 _ _).drewN _, by omega⟩ | exact ⟨(((hs).allocP1 _ _).allocP1 _ _).drewN _, by omega⟩ | exact ⟨((((hs).allocP1 _ _).allocP1 _ _).allocP1 _ _).drewN _, by omega⟩ | exact ⟨(((((hs).allocP1 _ _).allocP1 _ _).allocP1 _ _).allocP1 _ _).drewN _, by omega⟩) (by omega)).mono ?_
        rintro e w5 ⟨p, rfl, p_0, p_a, -, hs⟩
        have p_1 := p_a (by omega)
        clear p_a
        obtain ⟨pp, rfl⟩ : ∃ q : Nat, p = (q : Int) := ⟨p.toNat, by omega⟩
        have hpl : pp < ws.length := by omega
        clear p_0 p_1
        go_wp2_with fail
        refine (pick_s g _ 2 _ ⟨hs.allocP1 _ _, by omega⟩ (by decide)).mono ?_
        rintro e w6 ⟨z, rfl, z_0, z_a, -, hs⟩
        have z_1 := z_a (by decide)
        clear z_a
        have hb := hs.p1
        have hc0 := blk_cell hb 0
        have hc1 := blk_cell hb 1
        clear hb
        obtain ⟨go, rfl, -, hgl, hgc, hgf⟩ := OwnK.at_ hs.p2 hpl
        have hne : ¬ go = w5.heap.size := fun e => (hs.apart12 go).1 e rfl
        have hne' : ¬ w5.heap.size = go := fun e => hne e.symm
        obtain rfl | rfl : z = 0 ∨ z = 1 := by omega
        all_goals
          go_wp2
          go_ret2
          exact ⟨_, _, fs, _, rfl, hfl, by rw [List.length_set]; omega, (hs.bring2.setOwn hpl _).drop1.drop1.bring1⟩

/-! The law. -/
theorem outK_at {fs : List (Int × Int)} {ws : List Int} : ∀ n k, k < n → bF (outK fs ws n) k = (asgB fs (nxK fs ws k) (gi ws k)).1 ∧ bL (outK fs ws n) k = (asgB fs (nxK fs ws k) (gi ws k)).2
  | 0, k, h => by omega
  | n + 1, k, h => by
    have hl := length_outK fs ws n
    simp only [outK]
    rcases Nat.lt_succ_iff_lt_or_eq.1 h with h1 | rfl
    · have ih := outK_at (fs := fs) (ws := ws) n k h1
      rw [bF_snoc (by omega), bL_snoc (by omega), hl, if_neg (by omega), if_neg (by omega)]
      exact ih
    · rw [bF_snoc (by omega), bL_snoc (by omega), hl, if_pos rfl, if_pos rfl]
      exact ⟨rfl, rfl⟩
theorem bands_lt {fs : List (Int × Int)} (h : bvTo fs fs.length) : ∀ d i, i + d + 1 < fs.length → bL fs i < bF fs (i + d + 1)
  | 0, i, hi => by
    have := h (i + 1) hi
    simp only [bvAt, Bool.and_eq_true, decide_eq_true_eq, Bool.or_eq_true] at this
    have := this.2
    simp at this
    simpa using this
  | d + 1, i, hi => by
    have ih := bands_lt h d i (by omega)
    have h1 := bvTo_bd h (show i + d + 1 < fs.length by omega)
    have h2 := bands_lt h 0 (i + d + 1) (by omega)
    simp only [Nat.add_zero] at h2
    have e : i + (d + 1) + 1 = i + d + 1 + 1 := by omega
    rw [e]; omega
theorem bands_lt' {fs : List (Int × Int)} (h : bvTo fs fs.length) {i j : Nat} (hij : i < j) (hj : j < fs.length) : bL fs i < bF fs j := by
  have := bands_lt h (j - i - 1) i (by omega)
  rwa [show i + (j - i - 1) + 1 = j by omega] at this
theorem nx_step {fs : List (Int × Int)} {nx : List Int} {wd : Int} (hl : nx.length = fs.length) (hw : 1 ≤ wd) (i : Nat) : gi nx i ≤ gi (asgN fs nx wd) i := by
  unfold asgN
  split
  · next hf =>
    rw [gi_set (by omega)]
    split
    · next e => subst e; omega
    · exact Int.le_refl _
  · exact Int.le_refl _
theorem nx_mono {fs : List (Int × Int)} {ws : List Int} {n : Nat} (hw : ∀ i, i < n → 1 ≤ gi ws i) : ∀ d j i, j + d ≤ n → gi (nxK fs ws j) i ≤ gi (nxK fs ws (j + d)) i
  | 0, j, i, _ => Int.le_refl _
  | d + 1, j, i, h => by
    have ih := nx_mono (fs := fs) hw d j i (by omega)
    have := nx_step (fs := fs) (length_nxK fs ws (j + d)) (hw (j + d) (by omega)) i
    rw [← Nat.add_assoc]
    simp only [nxK]; omega
/-- what is assigned: in its band, behind what was assigned before -/
theorem asgB_facts {fs : List (Int × Int)} {ws : List Int} {n k : Nat} (hv : bvTo fs fs.length) (hw : ∀ i, i < n → 1 ≤ gi ws i) (hk : k < n) (hf : fit fs (nxK fs ws k) (gi ws k) < fs.length) :
    (asgB fs (nxK fs ws k) (gi ws k)).1 = gi (nxK fs ws k) (fit fs (nxK fs ws k) (gi ws k)) ∧ (asgB fs (nxK fs ws k) (gi ws k)).2 = gi (nxK fs ws k) (fit fs (nxK fs ws k) (gi ws k)) + gi ws k - 1 ∧
      bF fs (fit fs (nxK fs ws k) (gi ws k)) ≤ (asgB fs (nxK fs ws k) (gi ws k)).1 ∧ (asgB fs (nxK fs ws k) (gi ws k)).2 ≤ bL fs (fit fs (nxK fs ws k) (gi ws k)) ∧
      gi (nxK fs ws (k + 1)) (fit fs (nxK fs ws k) (gi ws k)) = (asgB fs (nxK fs ws k) (gi ws k)).2 + 1 := by
  have h1 := asgB_fit (nx := nxK fs ws k) (wd := gi ws k) rfl hf
  have h2 := (fit_spec fs (nxK fs ws k) (gi ws k)).2.1 hf
  have h3 := (nxOK_K hv k (fun i hi => hw i (by omega))).2 _ hf
  have h4 : nxK fs ws (k + 1) = _ := asgN_fit (nx := nxK fs ws k) (wd := gi ws k) rfl hf
  rw [h1, h4, gi_set (by rw [length_nxK]; exact hf), if_pos rfl]
  exact ⟨rfl, rfl, (show bF fs _ ≤ gi (nxK fs ws k) _ by omega), (show gi (nxK fs ws k) _ + gi ws k - 1 ≤ bL fs _ by omega), (show gi (nxK fs ws k) _ + gi ws k = gi (nxK fs ws k) _ + gi ws k - 1 + 1 by omega)⟩
theorem asg_apart {fs : List (Int × Int)} {ws : List Int} {n j k : Nat} (hv : bvTo fs fs.length) (hw : ∀ i, i < n → 1 ≤ gi ws i) (hjk : j < k) (hk : k < n)
    (h1 : (asgB fs (nxK fs ws k) (gi ws k)).1 ≤ (asgB fs (nxK fs ws k) (gi ws k)).2) (h2 : (asgB fs (nxK fs ws j) (gi ws j)).1 ≤ (asgB fs (nxK fs ws j) (gi ws j)).2)
    (h3 : (asgB fs (nxK fs ws k) (gi ws k)).1 ≤ (asgB fs (nxK fs ws j) (gi ws j)).2) (h4 : (asgB fs (nxK fs ws j) (gi ws j)).1 ≤ (asgB fs (nxK fs ws k) (gi ws k)).2) : False := by
  have fk : fit fs (nxK fs ws k) (gi ws k) < fs.length := by
    rcases Nat.lt_or_ge (fit fs (nxK fs ws k) (gi ws k)) fs.length with h | h
    · exact h
    · have e : fit fs (nxK fs ws k) (gi ws k) = fs.length := by have := (fit_spec fs (nxK fs ws k) (gi ws k)).1; omega
      rw [asgB_none e] at h1; simp at h1
  have fj : fit fs (nxK fs ws j) (gi ws j) < fs.length := by
    rcases Nat.lt_or_ge (fit fs (nxK fs ws j) (gi ws j)) fs.length with h | h
    · exact h
    · have e : fit fs (nxK fs ws j) (gi ws j) = fs.length := by have := (fit_spec fs (nxK fs ws j) (gi ws j)).1; omega
      rw [asgB_none e] at h2; simp at h2
  obtain ⟨k1, k2, k3, k4, k5⟩ := asgB_facts hv hw hk fk
  obtain ⟨j1, j2, j3, j4, j5⟩ := asgB_facts hv hw (show j < n by omega) fj
  rcases Nat.lt_trichotomy (fit fs (nxK fs ws j) (gi ws j)) (fit fs (nxK fs ws k) (gi ws k)) with h | h | h
  · have := bands_lt' hv h fk; omega
  · have hm := nx_mono (fs := fs) hw (k - (j + 1)) (j + 1) (fit fs (nxK fs ws j) (gi ws j)) (by omega)
    rw [show j + 1 + (k - (j + 1)) = k by omega, j5, h, ← k1] at hm
    omega
  · have := bands_lt' hv h fj; omega
/-- what is left of every band -/
def lfL (fs : List (Int × Int)) (nx : List Int) : List Int := (List.range fs.length).map fun i => bL fs i - gi nx i + 1
theorem length_lfL (fs : List (Int × Int)) (nx : List Int) : (lfL fs nx).length = fs.length := by simp [lfL]
theorem gi_lfL {fs : List (Int × Int)} {nx : List Int} {i : Nat} (h : i < fs.length) : gi (lfL fs nx) i = bL fs i - gi nx i + 1 := by simp [gi, lfL, h]
/-- the same, behind the first j bands of a round -/
def lfJ (fs : List (Int × Int)) (nx : List Int) (wd : Int) (j : Nat) : List Int := if fit fs nx wd < j then lfL fs (asgN fs nx wd) else lfL fs nx
theorem gi_lfJ {fs : List (Int × Int)} {nx : List Int} {wd : Int} {j : Nat} (hl : nx.length = fs.length) (h : j < fs.length) : gi (lfJ fs nx wd j) j = bL fs j - gi nx j + 1 := by
  unfold lfJ
  split
  · next hf =>
    rw [gi_lfL h]
    unfold asgN
    rw [if_pos (by omega), gi_set (by omega), if_neg (by omega)]
  · exact gi_lfL h
theorem lfJ_step {fs : List (Int × Int)} {nx : List Int} {wd : Int} {j : Nat} (h : fit fs nx wd ≠ j) : lfJ fs nx wd (j + 1) = lfJ fs nx wd j := by
  unfold lfJ
  by_cases e : fit fs nx wd < j
  · rw [if_pos e, if_pos (by omega)]
  · rw [if_neg e, if_neg (by omega)]
theorem lfJ_at {fs : List (Int × Int)} {nx : List Int} {wd : Int} {j : Nat} (hl : nx.length = fs.length) (h : fit fs nx wd = j) (hj : j < fs.length) : (lfJ fs nx wd j).set j (bL fs j - gi nx j + 1 - wd) = lfJ fs nx wd (j + 1) := by
  have e1 : lfJ fs nx wd j = lfL fs nx := if_neg (by omega)
  have e2 : lfJ fs nx wd (j + 1) = lfL fs (asgN fs nx wd) := if_pos (by omega)
  rw [e1, e2]
  refine gi_ext (by rw [List.length_set, length_lfL, length_lfL]) fun i hi => ?_
  rw [List.length_set, length_lfL] at hi
  rw [gi_set (by rw [length_lfL]; exact hj), gi_lfL hi, gi_lfL hi, asgN_fit h hj, gi_set (by omega)]
  by_cases e : i = j
  · subst e; rw [if_pos rfl, if_pos rfl]; omega
  · rw [if_neg e, if_neg e]
theorem length_lfJ (fs : List (Int × Int)) (nx : List Int) (wd : Int) (j : Nat) : (lfJ fs nx wd j).length = fs.length := by unfold lfJ; split <;> exact length_lfL _ _

set_option maxRecDepth 100000 in
set_option maxHeartbeats 4000000 in
theorem fnAssignBands_c (vc : Value) (c : List Int) (w : World) (hc : RdB w vc c) (bc : ∀ n ∈ c, (Lit.int .u8 n).wf = true) :
    Calls Try.prog 12 #[vc] w (Ret w fun v _ => v = .bool true) := by
  have hs := SH.add (p := rdP .u8 vc c) (SH.start0 w) (by simp) hc rdP_wr
  obtain ⟨ac, cc, rfl, -⟩ := hc.form
  have Bc := Lib.hid bc
  clear hc bc
  by_cases lc : c.length ≤ 1048576
  case neg =>
    go_enter Try.func12, Try.ntmps12
    go_wp2
    go_ret
    exact Ret.mk1 rfl (Below.refl _ _)
  go_enter Try.func12, Try.ntmps12
  go_wp2_with fail
  refine (DrawAssignBands_s _ c _ (by first | exact hs | exact (hs).allocP1 _ _ | exact ((hs).allocP1 _ _).allocP1 _ _ | exact (((hs).allocP1 _ _).allocP1 _ _).allocP1 _ _ | exact ((((hs).allocP1 _ _).allocP1 _ _).allocP1 _ _).allocP1 _ _ | exact (hs).drew | exact ((hs).allocP1 _ _).drew | exact (((hs).allocP1 _ _).allocP1 _ _).drew | exact ((((hs).allocP1 _ _).allocP1 _ _).allocP1 _ _).drew | exact (((((hs).allocP1 _ _).allocP1 _ _).allocP1 _ _).allocP1 _ _).drew | exact (hs).drewN _ | exact ((hs).allocP1 _ _).drewN _ | exact (((hs).allocP1 _ _).allocP1 _ _).drewN _ | exact ((((hs).allocP1 _ _).allocP1 _ _).allocP1 _ _).drewN _ | exact (((((hs).allocP1 _ _).allocP1 _ _).allocP1 _ _).allocP1 _ _).drewN _) Bc.out).mono ?_
  rintro e w1 ⟨v1, v2, fs, ws, rfl, hfl, hwl, hs⟩
  obtain ⟨a1, c1, rfl, -⟩ := (OwnM.rd hs.p0).form
  obtain ⟨a2, c2, rfl, -⟩ := (OwnK.rd hs.p1).form
  go_wp2_with fail
  refine (SH.ownM hs (by repeat' (first | with_reducible exact Below.refl _ _ | with_reducible assumption | with_reducible refine below_drewN ?_ _ | with_reducible refine Below.drew ?_ | with_reducible refine Below.alloc ?_ ?_ _ | with_reducible refine Below.setCell ?_ ?_ _ | go_size)) fun hs => implAssignBands_c _ fs _ ws _ (OwnM.rd hs.p0) (OwnK.rd hs.p1)).mono ?_
  rintro e w2 ⟨v3, rfl, hs⟩
  go_wp2_with fail
  refine (SH.ownM hs (by repeat' (first | with_reducible exact Below.refl _ _ | with_reducible assumption | with_reducible refine below_drewN ?_ _ | with_reducible refine Below.drew ?_ | with_reducible refine Below.alloc ?_ ?_ _ | with_reducible refine Below.setCell ?_ ?_ _ | go_size)) fun hs => specAssignBands_c _ fs _ ws _ (OwnM.rd hs.p1) (OwnK.rd hs.p2)).mono ?_
  rintro e w3 ⟨v4, rfl, hs⟩
  go_wp2_with fail
  refine (SH.quiet hs (by repeat' (first | with_reducible exact Below.refl _ _ | with_reducible assumption | with_reducible refine below_drewN ?_ _ | with_reducible refine Below.drew ?_ | with_reducible refine Below.alloc ?_ ?_ _ | with_reducible refine Below.setCell ?_ ?_ _ | go_size)) fun hs => sameBands_c _ _ (asgV fs ws) _ (OwnM.rd hs.p1) (OwnM.rd hs.p0)).mono ?_
  rintro e w4 ⟨rfl, hs⟩
  have hs := hs.drop0
  by_cases hz : asgV fs ws = []
  · rw [hz] at hs
    have hs : SH none w _ (ownMP 2 _ v3 0 (bC []) :: _) := hs
    obtain ⟨a3, c3, rfl, -⟩ := (OwnM.rd hs.p0).form
    clear hz
    rcases Nat.eq_zero_or_pos ws.length with hw0 | hw0
    · have e1 : ((0 : Int) != (ws.length : Int)) = false := by rw [hw0]; rfl
      have HW0 := Lib.hid hw0
      clear hw0
      go_wp2_with fail
      refine (SH.ret hs (by repeat' (first | with_reducible exact Below.refl _ _ | with_reducible assumption | with_reducible refine below_drewN ?_ _ | with_reducible refine Below.drew ?_ | with_reducible refine Below.alloc ?_ ?_ _ | with_reducible refine Below.setCell ?_ ?_ _ | go_size)) fun hs => alive_c _).mono ?_
      rintro e w5 ⟨v, rfl, rfl, hs⟩
      go_wp2
      go_ret
      exact Ret.mk1 rfl (SH.done (by first | exact hs | exact (hs).alloc _ | exact ((hs).alloc _).alloc _ | exact (((hs).alloc _).alloc _).alloc _ | exact ((((hs).alloc _).alloc _).alloc _).alloc _ | exact (hs).drew | exact ((hs).alloc _).drew | exact (((hs).alloc _).alloc _).drew | exact ((((hs).alloc _).alloc _).alloc _).drew | exact (((((hs).alloc _).alloc _).alloc _).alloc _).drew | exact (hs).drewN _ | exact ((hs).alloc _).drewN _ | exact (((hs).alloc _).alloc _).drewN _ | exact ((((hs).alloc _).alloc _).alloc _).drewN _ | exact (((((hs).alloc _).alloc _).alloc _).alloc _).drewN _))
    · have e1 : ((0 : Int) != (ws.length : Int)) = true := by simp; omega
      have HW0 := Lib.hid hw0
      clear hw0
      go_wp2_with fail
      refine (SH.ret hs (by repeat' (first | with_reducible exact Below.refl _ _ | with_reducible assumption | with_reducible refine below_drewN ?_ _ | with_reducible refine Below.drew ?_ | with_reducible refine Below.alloc ?_ ?_ _ | with_reducible refine Below.setCell ?_ ?_ _ | go_size)) fun hs => alive_c _).mono ?_
      rintro e w5 ⟨v, rfl, rfl, hs⟩
      go_wp2
      go_ret
      exact Ret.mk1 rfl (SH.done (by first | exact hs | exact (hs).alloc _ | exact ((hs).alloc _).alloc _ | exact (((hs).alloc _).alloc _).alloc _ | exact ((((hs).alloc _).alloc _).alloc _).alloc _ | exact (hs).drew | exact ((hs).alloc _).drew | exact (((hs).alloc _).alloc _).drew | exact ((((hs).alloc _).alloc _).alloc _).drew | exact (((((hs).alloc _).alloc _).alloc _).alloc _).drew | exact (hs).drewN _ | exact ((hs).alloc _).drewN _ | exact (((hs).alloc _).alloc _).drewN _ | exact ((((hs).alloc _).alloc _).alloc _).drewN _ | exact (((((hs).alloc _).alloc _).alloc _).alloc _).drewN _))
  obtain ⟨hbv, hwd⟩ : bvB fs = true ∧ wdB ws = true := by
    cases h1 : bvB fs
    · exact absurd (asgV_bad h1) hz
    cases h2 : wdB ws
    · exact absurd (asgV_wd h2) hz
    exact ⟨rfl, rfl⟩
  have hasg := asgV_ok hbv hwd
  rw [hasg] at hs hz
  have hs : SH none w _ (ownMP 2 _ v3 (outK fs ws ws.length).length (bC (outK fs ws ws.length)) :: _) := hs
  rw [length_outK] at hs
  have hw1 : 0 < ws.length := by
    rcases Nat.eq_zero_or_pos ws.length with h | h
    · exfalso; apply hz; rw [h]; rfl
    · exact h
  have HV := Lib.hid (bvB_true.1 hbv).2
  have HW := Lib.hid (show ∀ i, i < ws.length → 1 ≤ gi ws i ∧ gi ws i ≤ 64 from fun i hi => inB_true.1 ((wdB_true.1 hwd).2 i hi))
  have HW1 := Lib.hid (show ∀ i, i < ws.length → 1 ≤ gi ws i from fun i hi => (HW.out i hi).1)
  have HOUT := Lib.hid (fun k (h : k < ws.length) => outK_at (fs := fs) (ws := ws) ws.length k h)
  obtain ⟨O, hO⟩ : ∃ O, outK fs ws ws.length = O := ⟨_, rfl⟩
  rw [hO] at hs HOUT
  clear hO hasg hz hbv hwd
  obtain ⟨a3, c3, rfl, -⟩ := (OwnM.rd hs.p0).form
  have e1 : ((ws.length : Int) != (ws.length : Int)) = false := bne_self_eq_false _
  have e2 : ((ws.length : Int) == 0) = false := by simp only [beq_eq_false_iff_ne]; omega
  go_wp2_with fail
  clear e1 e2
  have hs := hs.ownEmpty .i64 3
  go_loopw [6, 7] (fun o i wr => ∃ (k : Nat) (xs : List Int), k ≤ fs.length ∧ i = .int .i64 k ∧ xs.length = k ∧ Hid (∀ i, i < k → gi xs i = wdAt fs i) ∧ SH none w wr [ownP .i64 3 o xs, ownMP 2 47 (.slice a3 ws.length c3) ws.length (bC O), bandP (.slice a1 fs.length c1) fs, ownP .i64 3 (.slice a2 ws.length c2) ws, rdP .u8 (.slice ac c.length cc) c]) (fun _ i _ => fs.length - (intOf i).toNat)
  case atStart => exact ⟨0, [], Nat.zero_le _, rfl, rfl, Lib.hid (fun i h => absurd h (Nat.not_lt_zero _)), hs⟩
  case round =>
    obtain ⟨k, xs, hk, rfl, hxl, HX, hs⟩ := hrel
    have HXL := Lib.hid hxl
    clear hxl
    by_cases hlt : k < fs.length
    · obtain ⟨ba, oa, rfl, hca⟩ := (OwnM.rd hs.p2).at_ hlt
      have hc0 : wr.cell? ⟨ba, oa + k * 2, none⟩ = some (.int .i64 (bF fs k)) := hca 0 (by decide)
      have hc1 : wr.cell? ⟨ba, oa + k * 2 + 1, none⟩ = some (.int .i64 (bL fs k)) := hca 1 (by decide)
      clear hca
      obtain ⟨q1, q2, q3⟩ := bvTo_bd HV.out hlt
      have i0 : (0 : Int) ≤ (k : Int) := by omega
      have i1 : (k : Int) < (fs.length : Int) := by omega
      have s1 : IntKind.i64.wrap (bL fs k - bF fs k) = bL fs k - bF fs k := IntWalk.i64_in _ (by omega)
      have s2 : IntKind.i64.wrap (bL fs k - bF fs k + 1) = bL fs k - bF fs k + 1 := IntWalk.i64_in _ (by omega)
      obtain ⟨ao, co, rfl, -⟩ := (OwnK.rd hs.p0).form
      have hsq := hs.bring2.bring1
      clear hs
      go_wp2
      have hsq : SH none w wr [ownP .i64 3 (.slice ao xs.length co) xs, bandP (.slice (some ⟨ba, oa, none⟩) fs.length c1) fs, ownMP 2 47 (.slice a3 ws.length c3) ws.length (bC O), ownP .i64 3 (.slice a2 ws.length c2) ws, rdP .u8 (.slice ac c.length cc) c] := hsq
      go_region_held3 (fun wx => SH none w wx [bandP (.slice (some ⟨ba, oa, none⟩) fs.length c1) fs, ownMP 2 47 (.slice a3 ws.length c3) ws.length (bC O), ownP .i64 3 (.slice a2 ws.length c2) ws, rdP .u8 (.slice ac c.length cc) c] ∧ wx.cell? ⟨ba, oa + k * 2, none⟩ = some (.int .i64 (bF fs k)) ∧ wx.cell? ⟨ba, oa + k * 2 + 1, none⟩ = some (.int .i64 (bL fs k))) (first | exact ⟨hsq.drew.drop0, band_cells hsq.drew.drop0 hlt⟩ | exact ⟨(hsq.drew.alloc _).drop0, band_cells (hsq.drew.alloc _).drop0 hlt⟩ | exact ⟨hs2.drop0, band_cells hs2.drop0 hlt⟩) (first | (refine step_app1S rfl rfl .i64 3 8 Try.underlying23 info_int (bL fs k - bF fs k + 1) rfl (hsq.drew.alloc _) rfl (World.cell?_alloc_at _ _ _ _ rfl) (by rw [HXL.out]; omega) (by rw [HXL.out]; unfold maxLen; omega) ?_; intro v2 w2 hs2))
      have hs := hs2.bring2.bring1
      clear hs2 hc0 hc1 hsq
      go_wp2
      go_roundw
      case rel =>
        refine ⟨k + 1, _, hlt, by go_num, by simp [HXL.out], Lib.hid ?_, hs⟩
        intro i hi
        rcases Nat.lt_succ_iff_lt_or_eq.1 hi with h1 | rfl
        · rw [gi_append_left (by rw [HXL.out]; exact h1)]; exact HX.out i h1
        · rw [← HXL.out, gi_append_at, HXL.out]; rfl
      case measure => simp [intOf]; omega
    · obtain rfl : k = fs.length := by omega
      have hxs : xs = lfL fs (nxK fs ws 0) := gi_ext (by rw [HXL.out, length_lfL]) (fun i hi => by
        have hi2 : i < fs.length := by rw [← HXL.out]; exact hi
        rw [HX.out i hi2, gi_lfL hi2, nxK, gi_nx0 hi2]; rfl)
      subst hxs
      clear HX HXL hlt hk
      obtain ⟨a6, c6, rfl, -⟩ := (OwnK.rd hs.p0).form
      rw [length_lfL] at *
      go_wp2
      go_loopw [8, 9, 10, 11, 12] (fun i _ _ _ _ wr => ∃ k : Nat, k ≤ ws.length ∧ i = .int .i64 k ∧ SH none w wr [ownP .i64 3 (.slice a6 fs.length c6) (lfL fs (nxK fs ws k)), ownMP 2 47 (.slice a3 ws.length c3) ws.length (bC O), bandP (.slice a1 fs.length c1) fs, ownP .i64 3 (.slice a2 ws.length c2) ws, rdP .u8 (.slice ac c.length cc) c]) (fun i _ _ _ _ _ => ws.length - (intOf i).toNat)
      case atStart => exact ⟨0, Nat.zero_le _, rfl, hs⟩
      case round =>
        obtain ⟨k, hk, rfl, hs⟩ := hrel
        by_cases hlt : k < ws.length
        · obtain ⟨wd, hwd⟩ : ∃ wd, gi ws k = wd := ⟨_, rfl⟩
          obtain ⟨nx, hnx⟩ : ∃ nx, nxK fs ws k = nx := ⟨_, rfl⟩
          have HWD := Lib.hid hwd
          have HNX := Lib.hid hnx
          have hOK : nxOK fs nx := by rw [← hnx]; exact nxOK_K HV.out k (fun i hi => HW1.out i (by omega))
          have HOK := Lib.hid hOK
          obtain ⟨wd1, wd2⟩ := HW.out k hlt
          rw [hwd] at wd1 wd2
          rw [hnx] at hs
          obtain ⟨hx, hy⟩ := HOUT.out k hlt
          rw [hnx, hwd] at hx hy
          obtain ⟨bo, oo, rfl, hoc⟩ := (OwnM.rd hs.p1).at_ hlt
          obtain ⟨x, hxE⟩ : ∃ x, bF O k = x := ⟨_, rfl⟩
          obtain ⟨y, hyE⟩ : ∃ y, bL O k = y := ⟨_, rfl⟩
          have ho0 : wr.cell? ⟨bo, oo + k * 2, none⟩ = some (.int .i64 x) := by rw [← hxE]; exact hoc 0 (by decide)
          have ho1 : wr.cell? ⟨bo, oo + k * 2 + 1, none⟩ = some (.int .i64 y) := by rw [← hyE]; exact hoc 1 (by decide)
          clear hoc
          have HXE := Lib.hid hxE
          have HYE := Lib.hid hyE
          rw [hxE] at hx
          rw [hyE] at hy
          clear hxE hyE hwd hnx hOK
          have hs := hs.allocP #[.int .i64 x, .int .i64 y] 47
          rcases Nat.lt_or_ge (fit fs nx wd) fs.length with hf | hf
          · have hB0 := asgB_fit (nx := nx) (wd := wd) rfl hf
            rw [hB0] at hx hy
            simp only at hx hy
            have HX := Lib.hid (show x = (asgB fs nx wd).1 by rw [hB0, hx])
            have HY := Lib.hid (show y = (asgB fs nx wd).2 by rw [hB0, hy])
            obtain ⟨f, hfE⟩ : ∃ f, fit fs nx wd = f := ⟨_, rfl⟩
            obtain ⟨g1, g2⟩ := HOK.out.2 (fit fs nx wd) hf
            have g3 := (fit_spec fs nx wd).2.1 hf
            obtain ⟨g4, g5, g6⟩ := bvTo_bd HV.out hf
            rw [hfE] at hx hy hf g1 g2 g3 g4 g5 g6
            have HF := Lib.hid hfE
            have hxy : x ≤ y := by omega
            have hnx1 : lfL fs (asgN fs nx wd) = lfL fs (nxK fs ws (k + 1)) := by rw [nxK, HNX.out, HWD.out]
            have HN1 := Lib.hid hnx1
            have x0 : 0 ≤ x ∧ x ≤ 64 ∧ -1 ≤ y ∧ y ≤ 64 := by omega
            have hx1 : x ≤ gi nx f ∧ gi nx f ≤ x := by omega
            have hy1 : y ≤ gi nx f + wd - 1 ∧ gi nx f + wd - 1 ≤ y := by omega
            clear hx hy
            have e0 : decide (y < x) = false := by simpa using hxy
            have hj0 : lfJ fs nx wd 0 = lfL fs nx := if_neg (Nat.not_lt_zero _)
            clear hnx1 hfE hB0
            go_wp2
            generalize hB : wr.heap.size = B at *
            go_loopw [10, 11] (fun ins i wr => ∃ j : Nat, j ≤ fs.length ∧ i = .int .i64 j ∧ ins = .bool (decide (f < j)) ∧ SH none w wr [blkP B #[.int .i64 x, .int .i64 y] 47, ownP .i64 3 (.slice a6 fs.length c6) (lfJ fs nx wd j), ownMP 2 47 (.slice (some ⟨bo, oo, none⟩) ws.length c3) ws.length (bC O), bandP (.slice a1 fs.length c1) fs, ownP .i64 3 (.slice a2 ws.length c2) ws, rdP .u8 (.slice ac c.length cc) c]) (fun _ i _ => fs.length - (intOf i).toNat)
            case atStart => exact ⟨0, Nat.zero_le _, rfl, by first | rfl | (simp; done), by rw [hj0]; exact hs⟩
            case round =>
              obtain ⟨j, hj, rfl, rfl, hs⟩ := hrel
              by_cases hjl : j < fs.length
              · have hb := (show wr.heap[B]? = _ from hs.p0)
                have b0 := blk_cell hb 0
                have b1 := blk_cell hb 1
                clear hb
                obtain ⟨gN, rfl, -, -, hn0, hnf⟩ := OwnK.at_ hs.p1 hjl
                rw [gi_lfJ HOK.out.1 hjl] at hn0
                obtain ⟨ba, oa, rfl, hca⟩ := (OwnM.rd hs.p3).at_ hjl
                have hc0 : wr.cell? ⟨ba, oa + j * 2, none⟩ = some (.int .i64 (bF fs j)) := hca 0 (by decide)
                have hc1 : wr.cell? ⟨ba, oa + j * 2 + 1, none⟩ = some (.int .i64 (bL fs j)) := hca 1 (by decide)
                clear hca
                obtain ⟨bw, ow, rfl, hwc⟩ := (OwnK.rd hs.p4).at_ hlt
                rw [HWD.out] at hwc
                obtain ⟨r1, r2⟩ := HOK.out.2 j hjl
                obtain ⟨r3, r4, r5⟩ := bvTo_bd HV.out hjl
                obtain ⟨v, hv⟩ : ∃ v, gi nx j = v := ⟨_, rfl⟩
                rw [hv] at hn0 r1 r2
                have i0 : (0 : Int) ≤ (j : Int) := by omega
                have i1 : (j : Int) < (fs.length : Int) := by omega
                have i2 : (0 : Int) ≤ (k : Int) := by omega
                have i3 : (k : Int) < (ws.length : Int) := by omega
                have e1 : decide (x ≤ y) = true := by simpa using hxy
                by_cases hjf : j = f
                · subst hjf
                  have e2 : decide (bF fs j ≤ x) = true := by have : bF fs j ≤ x := (by omega); simpa using this
                  have e3 : decide (y ≤ bL fs j) = true := by have : y ≤ bL fs j := (by omega); simpa using this
                  have s1 : IntKind.i64.wrap (bL fs j - v + 1 - wd) = bL fs j - v + 1 - wd := IntWalk.i64_in _ (by omega)
                  have hset := lfJ_at (wd := wd) HOK.out.1 HF.out hjl
                  rw [hv] at hset
                  have HSET := Lib.hid hset
                  clear hset
                  go_wp2
                  go_quiet (fail)
                  have hs := hs.drewN nq
                  generalize wr.drewN nq = W at *
                  clear hn0 hnf hc0 hc1 hwc b0 b1
                  obtain ⟨gN', he, -, -, hn0, hnf⟩ := OwnK.at_ hs.p1 hjl
                  simp only [Option.some.injEq, Addr.mk.injEq, and_true] at he
                  subst he
                  rw [gi_lfJ HOK.out.1 hjl, hv] at hn0
                  obtain ⟨bw', ow', he, hwc⟩ := (OwnK.rd hs.p4).at_ hlt
                  simp only [Option.some.injEq, Addr.mk.injEq, and_true] at he
                  obtain ⟨rfl, rfl⟩ := he
                  rw [HWD.out] at hwc
                  have hb := (show W.heap[B]? = _ from hs.p0)
                  have b0 := blk_cell hb 0
                  have b1 := blk_cell hb 1
                  clear hb
                  have hne : ¬ gN = B := fun e => (hs.apart01 B).1 rfl (by rw [e]; rfl)
                  have hne2 : ¬ B = gN := fun e => hne e.symm
                  go_wp2
                  refine wp_region_still_tail 12 (by kernel_rfl) (by kernel_rfl) ?_
                  simp only [List.take_succ_cons, List.take_zero, List.drop_succ_cons, List.drop_zero]
                  repeat still_step
                  refine wpStill_nil ?_
                  change wpList _ _ _ _ _ (World.drew _)
                  go_wp2
                  go_quiet (fail)
                  go_wp2
                  go_roundw
                  case rel =>
                    refine ⟨j + 1, hjl, by go_num, boolv (by simp), ?_⟩
                    rw [← HSET.out]
                    first | exact ((hs.bring1.setOwn hjl _).bring1).drewN _ | exact (((hs.bring1.setOwn hjl _).bring1).drew).drewN _ | exact ((hs.drew.bring1.setOwn hjl _).bring1).drewN _
                  case measure => simp [intOf]; omega
                · have hst := lfJ_step (fs := fs) (nx := nx) (wd := wd) (j := j) (by rw [HF.out]; exact fun e => hjf e.symm)
                  have HST := Lib.hid hst
                  have hdec : decide (f < j + 1) = decide (f < j) := by by_cases h : f < j <;> simp [h] <;> omega
                  have HDEC := Lib.hid hdec
                  clear hst hdec
                  rcases Nat.lt_or_ge j f with hlt2 | hlt2
                  · have hbl := bands_lt' HV.out hlt2 hf
                    have e2 : decide (bF fs j ≤ x) = true := by have : bF fs j ≤ x := (by omega); simpa using this
                    have e3 : decide (y ≤ bL fs j) = false := by have : ¬ y ≤ bL fs j := (by omega); simpa using this
                    clear hbl hv
                    go_wp2
                    go_quiet (fail)
                    go_wp2
                    go_quiet (fail)
                    go_wp2
                    go_roundw
                    case rel => exact ⟨j + 1, hjl, by go_num, boolv HDEC.out.symm, by rw [HST.out]; exact (by first | exact hs | exact (hs).alloc _ | exact ((hs).alloc _).alloc _ | exact (((hs).alloc _).alloc _).alloc _ | exact ((((hs).alloc _).alloc _).alloc _).alloc _ | exact (hs).drew | exact ((hs).alloc _).drew | exact (((hs).alloc _).alloc _).drew | exact ((((hs).alloc _).alloc _).alloc _).drew | exact (((((hs).alloc _).alloc _).alloc _).alloc _).drew | exact (hs).drewN _ | exact ((hs).alloc _).drewN _ | exact (((hs).alloc _).alloc _).drewN _ | exact ((((hs).alloc _).alloc _).alloc _).drewN _ | exact (((((hs).alloc _).alloc _).alloc _).alloc _).drewN _)⟩
                    case measure => simp [intOf]; omega
                  · have hbl := bands_lt' HV.out (show f < j by omega) hjl
                    have e2 : decide (bF fs j ≤ x) = false := by have : ¬ bF fs j ≤ x := (by omega); simpa using this
                    clear hbl hv
                    go_wp2
                    go_quiet (fail)
                    go_wp2
                    go_quiet (fail)
                    go_wp2
                    go_roundw
                    case rel => exact ⟨j + 1, hjl, by go_num, boolv HDEC.out.symm, by rw [HST.out]; exact (by first | exact hs | exact (hs).alloc _ | exact ((hs).alloc _).alloc _ | exact (((hs).alloc _).alloc _).alloc _ | exact ((((hs).alloc _).alloc _).alloc _).alloc _ | exact (hs).drew | exact ((hs).alloc _).drew | exact (((hs).alloc _).alloc _).drew | exact ((((hs).alloc _).alloc _).alloc _).drew | exact (((((hs).alloc _).alloc _).alloc _).alloc _).drew | exact (hs).drewN _ | exact ((hs).alloc _).drewN _ | exact (((hs).alloc _).alloc _).drewN _ | exact ((((hs).alloc _).alloc _).alloc _).drewN _ | exact (((((hs).alloc _).alloc _).alloc _).alloc _).drewN _)⟩
                    case measure => simp [intOf]; omega
              · obtain rfl : j = fs.length := by omega
                have hd : decide (f < fs.length) = true := by simpa using hf
                rw [hd]
                have hj1 : lfJ fs nx wd fs.length = lfL fs (nxK fs ws (k + 1)) := by unfold lfJ; rw [if_pos (by rw [HF.out]; exact hf)]; exact HN1.out
                rw [hj1] at hs
                clear hd hj1
                go_wp2
                go_loopw [12] (fun i wr => ∃ j : Nat, j ≤ k ∧ i = .int .i64 j ∧ SH none w wr [blkP B #[.int .i64 x, .int .i64 y] 47, ownP .i64 3 (.slice a6 fs.length c6) (lfL fs (nxK fs ws (k + 1))), ownMP 2 47 (.slice (some ⟨bo, oo, none⟩) ws.length c3) ws.length (bC O), bandP (.slice a1 fs.length c1) fs, ownP .i64 3 (.slice a2 ws.length c2) ws, rdP .u8 (.slice ac c.length cc) c]) (fun i _ => k - (intOf i).toNat)
                case atStart => exact ⟨0, Nat.zero_le _, rfl, hs⟩
                case round =>
                  obtain ⟨j, hj, rfl, hs⟩ := hrel
                  have hb := (show wr.heap[B]? = _ from hs.p0)
                  have b0 := blk_cell hb 0
                  have b1 := blk_cell hb 1
                  clear hb
                  by_cases hjl : j < k
                  · obtain ⟨bq, oq, he, hoc⟩ := (OwnM.rd hs.p2).at_ (show j < ws.length by omega)
                    simp only [Option.some.injEq, Addr.mk.injEq, and_true] at he
                    obtain ⟨rfl, rfl⟩ := he
                    obtain ⟨x', hx'⟩ : ∃ z, bF O j = z := ⟨_, rfl⟩
                    obtain ⟨y', hy'⟩ : ∃ z, bL O j = z := ⟨_, rfl⟩
                    have ho0 : wr.cell? ⟨bo, oo + j * 2, none⟩ = some (.int .i64 x') := by rw [← hx']; exact hoc 0 (by decide)
                    have ho1 : wr.cell? ⟨bo, oo + j * 2 + 1, none⟩ = some (.int .i64 y') := by rw [← hy']; exact hoc 1 (by decide)
                    clear hoc
                    have i0 : (0 : Int) ≤ (j : Int) := by omega
                    have i1 : (j : Int) < (ws.length : Int) := by omega
                    have e1 : decide (x ≤ y) = true := by simpa using hxy
                    have hap : ¬ (x' ≤ y' ∧ x ≤ y' ∧ x' ≤ y) := by
                      rintro ⟨c2, c3, c4⟩
                      obtain ⟨p1, p2⟩ := HOUT.out j (by omega)
                      refine asg_apart HV.out HW1.out hjl hlt ?_ ?_ ?_ ?_
                      · rw [HNX.out, HWD.out, ← HX.out, ← HY.out]; exact hxy
                      · rw [← p1, ← p2, hx', hy']; exact c2
                      · rw [HNX.out, HWD.out, ← HX.out, ← p2, hy']; exact c3
                      · rw [← p1, HNX.out, HWD.out, ← HY.out, hx']; exact c4
                    clear hx' hy'
                    by_cases c2 : x' ≤ y'
                    · have e2 : decide (x' ≤ y') = true := by simpa using c2
                      by_cases c3 : x ≤ y'
                      · have e3 : decide (x ≤ y') = true := by simpa using c3
                        have e4 : decide (x' ≤ y) = false := by have : ¬ x' ≤ y := (fun c4 => hap ⟨c2, c3, c4⟩); simpa using this
                        clear c2 c3 hap hxy
                        go_wp2
                        go_quiet (fail)
                        go_wp2
                        go_roundw
                        case rel => exact ⟨j + 1, hjl, by go_num, (by first | exact hs | exact (hs).alloc _ | exact ((hs).alloc _).alloc _ | exact (((hs).alloc _).alloc _).alloc _ | exact ((((hs).alloc _).alloc _).alloc _).alloc _ | exact (hs).drew | exact ((hs).alloc _).drew | exact (((hs).alloc _).alloc _).drew | exact ((((hs).alloc _).alloc _).alloc _).drew | exact (((((hs).alloc _).alloc _).alloc _).alloc _).drew | exact (hs).drewN _ | exact ((hs).alloc _).drewN _ | exact (((hs).alloc _).alloc _).drewN _ | exact ((((hs).alloc _).alloc _).alloc _).drewN _ | exact (((((hs).alloc _).alloc _).alloc _).alloc _).drewN _)⟩
                        case measure => simp [intOf]; omega
                      · have e3 : decide (x ≤ y') = false := by simpa using c3
                        clear c2 c3 hap hxy
                        go_wp2
                        go_quiet (fail)
                        go_wp2
                        go_roundw
                        case rel => exact ⟨j + 1, hjl, by go_num, (by first | exact hs | exact (hs).alloc _ | exact ((hs).alloc _).alloc _ | exact (((hs).alloc _).alloc _).alloc _ | exact ((((hs).alloc _).alloc _).alloc _).alloc _ | exact (hs).drew | exact ((hs).alloc _).drew | exact (((hs).alloc _).alloc _).drew | exact ((((hs).alloc _).alloc _).alloc _).drew | exact (((((hs).alloc _).alloc _).alloc _).alloc _).drew | exact (hs).drewN _ | exact ((hs).alloc _).drewN _ | exact (((hs).alloc _).alloc _).drewN _ | exact ((((hs).alloc _).alloc _).alloc _).drewN _ | exact (((((hs).alloc _).alloc _).alloc _).alloc _).drewN _)⟩
                        case measure => simp [intOf]; omega
                    · have e2 : decide (x' ≤ y') = false := by simpa using c2
                      clear c2 hap hxy
                      go_wp2
                      go_quiet (fail)
                      go_wp2
                      go_roundw
                      case rel => exact ⟨j + 1, hjl, by go_num, (by first | exact hs | exact (hs).alloc _ | exact ((hs).alloc _).alloc _ | exact (((hs).alloc _).alloc _).alloc _ | exact ((((hs).alloc _).alloc _).alloc _).alloc _ | exact (hs).drew | exact ((hs).alloc _).drew | exact (((hs).alloc _).alloc _).drew | exact ((((hs).alloc _).alloc _).alloc _).drew | exact (((((hs).alloc _).alloc _).alloc _).alloc _).drew | exact (hs).drewN _ | exact ((hs).alloc _).drewN _ | exact (((hs).alloc _).alloc _).drewN _ | exact ((((hs).alloc _).alloc _).alloc _).drewN _ | exact (((((hs).alloc _).alloc _).alloc _).alloc _).drewN _)⟩
                      case measure => simp [intOf]; omega
                  · obtain ⟨bw, ow, rfl, hwc⟩ := (OwnK.rd hs.p4).at_ hlt
                    rw [HWD.out] at hwc
                    have i2 : (0 : Int) ≤ (k : Int) := by omega
                    have i3 : (k : Int) < (ws.length : Int) := by omega
                    have e1 : decide (x ≤ y) = true := by simpa using hxy
                    have e2 : decide (y < x) = false := by simpa using hxy
                    have s1 : IntKind.i64.wrap (y - x) = y - x := IntWalk.i64_in _ (by omega)
                    have s2 : IntKind.i64.wrap (y - x + 1) = y - x + 1 := IntWalk.i64_in _ (by omega)
                    have e3 : (y - x + 1 != wd) = false := by have : y - x + 1 = wd := (by omega); rw [this]; exact bne_self_eq_false _
                    have hs := hs.drop0
                    go_wp2
                    go_quiet (fail)
                    go_wp2
                    go_roundw
                    case rel => exact ⟨k + 1, hlt, by go_num, (by first | exact hs | exact (hs).alloc _ | exact ((hs).alloc _).alloc _ | exact (((hs).alloc _).alloc _).alloc _ | exact ((((hs).alloc _).alloc _).alloc _).alloc _ | exact (hs).drew | exact ((hs).alloc _).drew | exact (((hs).alloc _).alloc _).drew | exact ((((hs).alloc _).alloc _).alloc _).drew | exact (((((hs).alloc _).alloc _).alloc _).alloc _).drew | exact (hs).drewN _ | exact ((hs).alloc _).drewN _ | exact (((hs).alloc _).alloc _).drewN _ | exact ((((hs).alloc _).alloc _).alloc _).drewN _ | exact (((((hs).alloc _).alloc _).alloc _).alloc _).drewN _)⟩
                    case measure => simp [intOf]; omega
          · have hfe : fit fs nx wd = fs.length := by have := (fit_spec fs nx wd).1; omega
            rw [asgB_none hfe] at hx hy
            simp only at hx hy
            subst hx hy
            have hfit := (fit_spec fs nx wd).2.2
            rw [hfe] at hfit
            have HFIT := Lib.hid hfit
            have hnx1 : lfL fs nx = lfL fs (nxK fs ws (k + 1)) := by rw [nxK, HNX.out, HWD.out, asgN_none hfe]
            have HN1 := Lib.hid hnx1
            have hjc : ∀ j, j ≤ fs.length → lfJ fs nx wd j = lfL fs nx := fun j hj => if_neg (by omega)
            have HJC := Lib.hid hjc
            clear hnx1 hfit hjc hf
            have hs := (show SH none w _ (blkP _ _ _ :: ownP .i64 3 _ (lfJ fs nx wd 0) :: _) from by rw [HJC.out 0 (Nat.zero_le _)]; exact hs)
            go_wp2
            generalize hB : wr.heap.size = B at *
            go_loopw [10, 11] (fun ins i wr => ∃ j : Nat, j ≤ fs.length ∧ i = .int .i64 j ∧ ins = .bool true ∧ SH none w wr [blkP B #[.int .i64 0, .int .i64 (-1)] 47, ownP .i64 3 (.slice a6 fs.length c6) (lfJ fs nx wd j), ownMP 2 47 (.slice (some ⟨bo, oo, none⟩) ws.length c3) ws.length (bC O), bandP (.slice a1 fs.length c1) fs, ownP .i64 3 (.slice a2 ws.length c2) ws, rdP .u8 (.slice ac c.length cc) c]) (fun _ i _ => fs.length - (intOf i).toNat)
            case atStart => exact ⟨0, Nat.zero_le _, rfl, rfl, hs⟩
            case round =>
              obtain ⟨j, hj, rfl, rfl, hs⟩ := hrel
              by_cases hjl : j < fs.length
              · have hb := (show wr.heap[B]? = _ from hs.p0)
                have b0 := blk_cell hb 0
                have b1 := blk_cell hb 1
                clear hb
                obtain ⟨gN, rfl, -, -, hn0, hnf⟩ := OwnK.at_ hs.p1 hjl
                rw [gi_lfJ HOK.out.1 hjl] at hn0
                obtain ⟨ba, oa, rfl, hca⟩ := (OwnM.rd hs.p3).at_ hjl
                have hc0 : wr.cell? ⟨ba, oa + j * 2, none⟩ = some (.int .i64 (bF fs j)) := hca 0 (by decide)
                have hc1 : wr.cell? ⟨ba, oa + j * 2 + 1, none⟩ = some (.int .i64 (bL fs j)) := hca 1 (by decide)
                clear hca
                obtain ⟨bw, ow, rfl, hwc⟩ := (OwnK.rd hs.p4).at_ hlt
                rw [HWD.out] at hwc
                obtain ⟨r1, r2⟩ := HOK.out.2 j hjl
                obtain ⟨r3, r4, r5⟩ := bvTo_bd HV.out hjl
                obtain ⟨v, hv⟩ : ∃ v, gi nx j = v := ⟨_, rfl⟩
                rw [hv] at hn0 r1 r2
                have i0 : (0 : Int) ≤ (j : Int) := by omega
                have i1 : (j : Int) < (fs.length : Int) := by omega
                have i2 : (0 : Int) ≤ (k : Int) := by omega
                have i3 : (k : Int) < (ws.length : Int) := by omega
                have hlow := HFIT.out j hjl
                rw [hv] at hlow
                have e1 : decide ((0 : Int) ≤ -1) = false := rfl
                have e2 : decide (wd ≤ bL fs j - v + 1) = false := by have : ¬ wd ≤ bL fs j - v + 1 := (by omega); simpa using this
                have HST := Lib.hid (show lfJ fs nx wd (j + 1) = lfJ fs nx wd j by rw [HJC.out _ hjl, HJC.out _ (by omega)])
                clear hv hlow
                go_wp2
                go_quiet (fail)
                go_wp2
                go_quiet (fail)
                go_wp2
                go_roundw
                case rel => exact ⟨j + 1, hjl, by go_num, rfl, by rw [HST.out]; exact (by first | exact hs | exact (hs).alloc _ | exact ((hs).alloc _).alloc _ | exact (((hs).alloc _).alloc _).alloc _ | exact ((((hs).alloc _).alloc _).alloc _).alloc _ | exact (hs).drew | exact ((hs).alloc _).drew | exact (((hs).alloc _).alloc _).drew | exact ((((hs).alloc _).alloc _).alloc _).drew | exact (((((hs).alloc _).alloc _).alloc _).alloc _).drew | exact (hs).drewN _ | exact ((hs).alloc _).drewN _ | exact (((hs).alloc _).alloc _).drewN _ | exact ((((hs).alloc _).alloc _).alloc _).drewN _ | exact (((((hs).alloc _).alloc _).alloc _).alloc _).drewN _)⟩
                case measure => simp [intOf]; omega
              · obtain rfl : j = fs.length := by omega
                rw [HJC.out _ (Nat.le_refl _), HN1.out] at hs
                go_wp2
                go_loopw [12] (fun i wr => ∃ j : Nat, j ≤ k ∧ i = .int .i64 j ∧ SH none w wr [blkP B #[.int .i64 0, .int .i64 (-1)] 47, ownP .i64 3 (.slice a6 fs.length c6) (lfL fs (nxK fs ws (k + 1))), ownMP 2 47 (.slice (some ⟨bo, oo, none⟩) ws.length c3) ws.length (bC O), bandP (.slice a1 fs.length c1) fs, ownP .i64 3 (.slice a2 ws.length c2) ws, rdP .u8 (.slice ac c.length cc) c]) (fun i _ => k - (intOf i).toNat)
                case atStart => exact ⟨0, Nat.zero_le _, rfl, hs⟩
                case round =>
                  obtain ⟨j, hj, rfl, hs⟩ := hrel
                  have hb := (show wr.heap[B]? = _ from hs.p0)
                  have b0 := blk_cell hb 0
                  have b1 := blk_cell hb 1
                  clear hb
                  by_cases hjl : j < k
                  · obtain ⟨bq, oq, he, hoc⟩ := (OwnM.rd hs.p2).at_ (show j < ws.length by omega)
                    simp only [Option.some.injEq, Addr.mk.injEq, and_true] at he
                    obtain ⟨rfl, rfl⟩ := he
                    obtain ⟨x', hx'⟩ : ∃ z, bF O j = z := ⟨_, rfl⟩
                    obtain ⟨y', hy'⟩ : ∃ z, bL O j = z := ⟨_, rfl⟩
                    have ho0 : wr.cell? ⟨bo, oo + j * 2, none⟩ = some (.int .i64 x') := by rw [← hx']; exact hoc 0 (by decide)
                    have ho1 : wr.cell? ⟨bo, oo + j * 2 + 1, none⟩ = some (.int .i64 y') := by rw [← hy']; exact hoc 1 (by decide)
                    clear hoc
                    have i0 : (0 : Int) ≤ (j : Int) := by omega
                    have i1 : (j : Int) < (ws.length : Int) := by omega
                    have e1 : decide ((0 : Int) ≤ -1) = false := rfl
                    clear hx' hy'
                    go_wp2
                    go_quiet (fail)
                    go_wp2
                    go_roundw
                    case rel => exact ⟨j + 1, hjl, by go_num, (by first | exact hs | exact (hs).alloc _ | exact ((hs).alloc _).alloc _ | exact (((hs).alloc _).alloc _).alloc _ | exact ((((hs).alloc _).alloc _).alloc _).alloc _ | exact (hs).drew | exact ((hs).alloc _).drew | exact (((hs).alloc _).alloc _).drew | exact ((((hs).alloc _).alloc _).alloc _).drew | exact (((((hs).alloc _).alloc _).alloc _).alloc _).drew | exact (hs).drewN _ | exact ((hs).alloc _).drewN _ | exact (((hs).alloc _).alloc _).drewN _ | exact ((((hs).alloc _).alloc _).alloc _).drewN _ | exact (((((hs).alloc _).alloc _).alloc _).alloc _).drewN _)⟩
                    case measure => simp [intOf]; omega
                  · obtain ⟨bw, ow, rfl, hwc⟩ := (OwnK.rd hs.p4).at_ hlt
                    rw [HWD.out] at hwc
                    have i2 : (0 : Int) ≤ (k : Int) := by omega
                    have i3 : (k : Int) < (ws.length : Int) := by omega
                    have hs := hs.drop0
                    go_wp2
                    go_quiet (fail)
                    go_wp2
                    go_roundw
                    case rel => exact ⟨k + 1, hlt, by go_num, (by first | exact hs | exact (hs).alloc _ | exact ((hs).alloc _).alloc _ | exact (((hs).alloc _).alloc _).alloc _ | exact ((((hs).alloc _).alloc _).alloc _).alloc _ | exact (hs).drew | exact ((hs).alloc _).drew | exact (((hs).alloc _).alloc _).drew | exact ((((hs).alloc _).alloc _).alloc _).drew | exact (((((hs).alloc _).alloc _).alloc _).alloc _).drew | exact (hs).drewN _ | exact ((hs).alloc _).drewN _ | exact (((hs).alloc _).alloc _).drewN _ | exact ((((hs).alloc _).alloc _).alloc _).drewN _ | exact (((((hs).alloc _).alloc _).alloc _).alloc _).drewN _)⟩
                    case measure => simp [intOf]; omega
        · go_wp2
          go_ret
          exact Ret.mk1 rfl (SH.done (by first | exact hs | exact (hs).alloc _ | exact ((hs).alloc _).alloc _ | exact (((hs).alloc _).alloc _).alloc _ | exact ((((hs).alloc _).alloc _).alloc _).alloc _ | exact (hs).drew | exact ((hs).alloc _).drew | exact (((hs).alloc _).alloc _).drew | exact ((((hs).alloc _).alloc _).alloc _).drew | exact (((((hs).alloc _).alloc _).alloc _).alloc _).drew | exact (hs).drewN _ | exact ((hs).alloc _).drewN _ | exact (((hs).alloc _).alloc _).drewN _ | exact ((((hs).alloc _).alloc _).alloc _).drewN _ | exact (((((hs).alloc _).alloc _).alloc _).alloc _).drewN _))

end Go.Proofs.Ytoilofcpijgaiaa
