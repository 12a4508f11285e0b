import Derived.Test.YtoilofcpijgaiaaProg
import Derived.Test.YtoilofcpijgaiaaLib
import Derived.Test.YtoilofcpijgaiaaMem
import Derived.Test.YtoilofcpijgaiaaNum
import Derived.Test.YtoilofcpijgaiaaSym
import Derived.Test.YtoilofcpijgaiaaInts
import Derived.Test.YtoilofcpijgaiaaApp
import Derived.Test.YtoilofcpijgaiaaBlk
import Derived.Test.YtoilofcpijgaiaaBand
import Derived.StillTailTactics
namespace Go.Proofs.Ytoilofcpijgaiaa
open Go.RowKit

/-! AssignBands: what is left of every free band begins at 'nx'. -/
/-- the first band in which a width has room, from k on; the number of bands if there is none -/
def fitTo (fs : List (Int × Int)) (nx : List Int) (wd : Int) : Nat → Nat
  | 0 => fs.length
  | k + 1 => if gi nx (fs.length - (k + 1)) + wd - 1 ≤ bL fs (fs.length - (k + 1)) then fs.length - (k + 1) else fitTo fs nx wd k
def fit (fs : List (Int × Int)) (nx : List Int) (wd : Int) : Nat := fitTo fs nx wd fs.length
theorem fitTo_spec (fs : List (Int × Int)) (nx : List Int) (wd : Int) : ∀ k, k ≤ fs.length → fs.length - k ≤ fitTo fs nx wd k ∧ fitTo fs nx wd k ≤ fs.length ∧ (fitTo fs nx wd k < fs.length → gi nx (fitTo fs nx wd k) + wd - 1 ≤ bL fs (fitTo fs nx wd k)) ∧ ∀ j, fs.length - k ≤ j → j < fitTo fs nx wd k → bL fs j < gi nx j + wd - 1
  | 0, _ => by simp only [fitTo]; exact ⟨by omega, Nat.le_refl _, fun h => absurd h (Nat.lt_irrefl _), fun j h1 h2 => by omega⟩
  | k + 1, hk => by
    have ih := fitTo_spec fs nx wd k (by omega)
    simp only [fitTo]
    by_cases h : gi nx (fs.length - (k + 1)) + wd - 1 ≤ bL fs (fs.length - (k + 1))
    · rw [if_pos h]
      exact ⟨Nat.le_refl _, by omega, fun _ => h, fun j h1 h2 => by omega⟩
    · rw [if_neg h]
      refine ⟨by omega, ih.2.1, ih.2.2.1, fun j h1 h2 => ?_⟩
      by_cases e : j = fs.length - (k + 1)
      · subst e; omega
      · exact ih.2.2.2 j (by omega) h2
theorem fit_spec (fs : List (Int × Int)) (nx : List Int) (wd : Int) : fit fs nx wd ≤ fs.length ∧ (fit fs nx wd < fs.length → gi nx (fit fs nx wd) + wd - 1 ≤ bL fs (fit fs nx wd)) ∧ ∀ j, j < fit fs nx wd → bL fs j < gi nx j + wd - 1 := by
  have h := fitTo_spec fs nx wd fs.length (Nat.le_refl _)
  exact ⟨h.2.1, h.2.2.1, fun j hj => h.2.2.2 j (by omega) hj⟩
/-- an index at which it fits, the ones ahead of it not, is the one -/
theorem fit_eq {fs : List (Int × Int)} {nx : List Int} {wd : Int} {i : Nat} (hi : i < fs.length) (h : gi nx i + wd - 1 ≤ bL fs i) (hb : ∀ j, j < i → bL fs j < gi nx j + wd - 1) : fit fs nx wd = i := by
  obtain ⟨h1, h2, h3⟩ := fit_spec fs nx wd
  rcases Nat.lt_trichotomy (fit fs nx wd) i with h4 | h4 | h4
  · have := h2 (by omega); have := hb _ h4; omega
  · exact h4
  · have := h3 i h4; omega
theorem fit_none {fs : List (Int × Int)} {nx : List Int} {wd : Int} (hb : ∀ j, j < fs.length → bL fs j < gi nx j + wd - 1) : fit fs nx wd = fs.length := by
  obtain ⟨h1, h2, h3⟩ := fit_spec fs nx wd
  rcases Nat.lt_or_ge (fit fs nx wd) fs.length with h4 | h4
  · have := h2 h4; have := hb _ h4; omega
  · omega
/-- the band that is assigned, and what is left -/
def asgB (fs : List (Int × Int)) (nx : List Int) (wd : Int) : Int × Int := if fit fs nx wd < fs.length then (gi nx (fit fs nx wd), gi nx (fit fs nx wd) + wd - 1) else (0, -1)
def asgN (fs : List (Int × Int)) (nx : List Int) (wd : Int) : List Int := if fit fs nx wd < fs.length then nx.set (fit fs nx wd) (gi nx (fit fs nx wd) + wd) else nx
theorem asgB_fit {fs : List (Int × Int)} {nx : List Int} {wd : Int} {i : Nat} (h : fit fs nx wd = i) (hi : i < fs.length) : asgB fs nx wd = (gi nx i, gi nx i + wd - 1) := by unfold asgB; rw [h, if_pos hi]
theorem asgN_fit {fs : List (Int × Int)} {nx : List Int} {wd : Int} {i : Nat} (h : fit fs nx wd = i) (hi : i < fs.length) : asgN fs nx wd = nx.set i (gi nx i + wd) := by unfold asgN; rw [h, if_pos hi]
theorem asgB_none {fs : List (Int × Int)} {nx : List Int} {wd : Int} (h : fit fs nx wd = fs.length) : asgB fs nx wd = (0, -1) := by unfold asgB; rw [h, if_neg (Nat.lt_irrefl _)]
theorem asgN_none {fs : List (Int × Int)} {nx : List Int} {wd : Int} (h : fit fs nx wd = fs.length) : asgN fs nx wd = nx := by unfold asgN; rw [h, if_neg (Nat.lt_irrefl _)]
def nx0 (fs : List (Int × Int)) : List Int := fs.map Prod.fst
theorem length_nx0 (fs : List (Int × Int)) : (nx0 fs).length = fs.length := by simp [nx0]
theorem gi_nx0 {fs : List (Int × Int)} {i : Nat} (h : i < fs.length) : gi (nx0 fs) i = bF fs i := by simp [nx0, gi, bF, h]
/-- behind the first k widths -/
def nxK (fs : List (Int × Int)) (ws : List Int) : Nat → List Int
  | 0 => nx0 fs
  | k + 1 => asgN fs (nxK fs ws k) (gi ws k)
def outK (fs : List (Int × Int)) (ws : List Int) : Nat → List (Int × Int)
  | 0 => []
  | k + 1 => outK fs ws k ++ [asgB fs (nxK fs ws k) (gi ws k)]
theorem length_outK (fs : List (Int × Int)) (ws : List Int) : ∀ k, (outK fs ws k).length = k
  | 0 => rfl
  | k + 1 => by simp [outK, length_outK fs ws k]
theorem length_asgN (fs : List (Int × Int)) (nx : List Int) (wd : Int) : (asgN fs nx wd).length = nx.length := by unfold asgN; split <;> simp
theorem length_nxK (fs : List (Int × Int)) (ws : List Int) : ∀ k, (nxK fs ws k).length = fs.length
  | 0 => length_nx0 fs
  | k + 1 => by rw [nxK, length_asgN, length_nxK fs ws k]
/-- the widths -/
def wdB (ws : List Int) : Bool := decide (ws.length ≤ 64) && ws.all fun x => inB x 1 64
theorem wdB_true {ws : List Int} : wdB ws = true ↔ ws.length ≤ 64 ∧ ∀ i, i < ws.length → inB (gi ws i) 1 64 = true := by
  unfold wdB
  rw [Bool.and_eq_true, decide_eq_true_eq, List.all_eq_true]
  refine and_congr Iff.rfl ⟨fun h i hi => h _ (by rw [gi_lt hi]; exact List.getElem_mem hi), fun h x hx => ?_⟩
  obtain ⟨i, hi, rfl⟩ := List.getElem_of_mem hx
  have := h i hi
  rwa [gi_lt hi] at this
theorem wdB_bad {ws : List Int} {i : Nat} (hi : i < ws.length) (h : inB (gi ws i) 1 64 = false) : wdB ws = false := by
  cases hb : wdB ws
  · rfl
  · have := (wdB_true.1 hb).2 i hi
    rw [h] at this; exact this.symm
theorem wdB_long {ws : List Int} (h : 64 < ws.length) : wdB ws = false := by
  cases hb : wdB ws
  · rfl
  · have := (wdB_true.1 hb).1; omega
/-- what AssignBands returns -/
def asgV (fs : List (Int × Int)) (ws : List Int) : List (Int × Int) := if bvB fs && wdB ws then outK fs ws ws.length else []
theorem asgV_bad {fs : List (Int × Int)} {ws : List Int} (h : bvB fs = false) : asgV fs ws = [] := by simp [asgV, h]
theorem asgV_wd {fs : List (Int × Int)} {ws : List Int} (h : wdB ws = false) : asgV fs ws = [] := by simp [asgV, h]
theorem asgV_ok {fs : List (Int × Int)} {ws : List Int} (h : bvB fs = true) (h2 : wdB ws = true) : asgV fs ws = outK fs ws ws.length := by simp [asgV, h, h2]

/-- where the numbers lie -/
def nxOK (fs : List (Int × Int)) (nx : List Int) : Prop := nx.length = fs.length ∧ ∀ i, i < fs.length → bF fs i ≤ gi nx i ∧ gi nx i ≤ bL fs i + 1
theorem bvTo_bd {fs : List (Int × Int)} {n : Nat} (h : bvTo fs n) {i : Nat} (hi : i < n) : 0 ≤ bF fs i ∧ bF fs i ≤ bL fs i ∧ bL fs i ≤ 63 := by
  have := h i hi
  simp only [bvAt, Bool.and_eq_true, decide_eq_true_eq] at this
  exact this.1
theorem nxOK_0 {fs : List (Int × Int)} (h : bvTo fs fs.length) : nxOK fs (nx0 fs) :=
  ⟨length_nx0 fs, fun i hi => by rw [gi_nx0 hi]; have := bvTo_bd h hi; omega⟩
theorem nxOK_step {fs : List (Int × Int)} {nx : List Int} {wd : Int} (h : nxOK fs nx) (hw : 1 ≤ wd) : nxOK fs (asgN fs nx wd) := by
  obtain ⟨h1, h2, h3⟩ := fit_spec fs nx wd
  unfold asgN
  split
  · next hf =>
    have := h2 hf
    refine ⟨by rw [List.length_set]; exact h.1, fun i hi => ?_⟩
    rw [gi_set (by rw [h.1]; exact hf)]
    have := h.2 i hi
    split
    · next e => subst e; omega
    · exact this
  · exact h
theorem nxOK_K {fs : List (Int × Int)} {ws : List Int} (h : bvTo fs fs.length) : ∀ k, (∀ i, i < k → 1 ≤ gi ws i) → nxOK fs (nxK fs ws k)
  | 0, _ => nxOK_0 h
  | k + 1, hw => nxOK_step (nxOK_K h k fun i hi => hw i (by omega)) (hw k (by omega))

/-- what is left, as bands -/
def lfC (fs : List (Int × Int)) (nx : List Int) (i j : Nat) : Value := .int .i64 (if j = 0 then gi nx i else bL fs i)
theorem outK_snoc {fs : List (Int × Int)} {ws : List Int} {k : Nat} {x y : Int} (h : asgB fs (nxK fs ws k) (gi ws k) = (x, y)) (i j : Nat) (hi : i < k + 1) : updC (bC (outK fs ws k)) k (rowB x y) i j = bC (outK fs ws (k + 1)) i j := by
  have hl := length_outK fs ws k
  unfold updC bC bF bL rowB
  simp only [outK, h]
  by_cases e : i = k
  · subst e
    simp [List.getD, hl]
  · rw [if_neg e]; simp only [List.getD, List.getElem?_append_left (show i < (outK fs ws k).length by omega)]
theorem size_c (x y : Int) (w : World) (h0 : -1000000 ≤ x) (h1 : x ≤ 1000000) (h2 : -1000000 ≤ y) (h3 : y ≤ 1000000) :
    Calls Try.prog 61 #[.agg #[.int .i64 x, .int .i64 y]] w (Ret w fun v _ => v = .int .i64 (y - x + 1)) := by
  go_enter Try.func61, Try.ntmps61
  go_wp2
  go_ret
  exact Ret.mk1 rfl (by go_grown)

set_option maxRecDepth 100000 in
set_option maxHeartbeats 4000000 in
theorem implAssignBands_c (va : Value) (fs : List (Int × Int)) (vb : Value) (ws : List Int) (w : World) (ha : RdBand w va fs) (hb : RdI w vb ws) :
    Calls Try.prog 46 #[va, vb] w (Ret w fun v w' => OwnBand w' w.heap.size v (asgV fs ws)) := by
  obtain ⟨a, ca, rfl, ma⟩ := ha.form
  obtain ⟨b, cb, rfl, mb⟩ := hb.form
  have hs := SH.start w [rdMP 2 (.slice a fs.length ca) fs.length (bC fs), rdP .i64 (.slice b ws.length cb) ws] (by simp only [List.forall_mem_cons]; exact ⟨⟨⟨ha, by decide⟩, rdMP_wr⟩, ⟨hb, rdP_wr⟩, by simp⟩)
  clear ha hb
  go_enter Try.func46, Try.ntmps46
  go_wp2_with fail
  refine (SH.ret hs (by repeat' (first | with_reducible exact Below.refl _ _ | with_reducible assumption | with_reducible refine below_drewN ?_ _ | with_reducible refine Below.drew ?_ | with_reducible refine Below.alloc ?_ ?_ _ | with_reducible refine Below.setCell ?_ ?_ _ | go_size)) fun hs => implBandsValid_c _ fs _ hs.p0.1).mono ?_
  rintro e w1 ⟨v, rfl, rfl, hs⟩
  cases hbv : bvB fs
  · go_wp2
    go_ret
    exact Ret.mk1 (by rw [asgV_bad hbv]; exact OwnM.nil 2 _ _ _ _) hs.done
  by_cases hwl : 64 < ws.length
  · go_wp2
    go_ret
    exact Ret.mk1 (by rw [asgV_wd (wdB_long hwl)]; exact OwnM.nil 2 _ _ _ _) hs.done
  obtain ⟨hfl, hval⟩ := bvB_true.1 hbv
  have HV := Lib.hid hval
  have HBV := Lib.hid hbv
  clear hval hbv
  go_wp2_with (first | (at_builtin; refine wp_appMX rfl rfl 47 16 2 (.agg #[.int .i64 0, .int .i64 0]) Try.underlying43 info_band rfl (by decide) rfl (hs.ownEmptyM 2 (by decide) _ (fun _ _ => undef)) rfl (((Below.refl _ _).alloc (Nat.le_refl _) _ |> fun hb => (hs.p0.1 : RdM 2 _ _ _ _).below (by decide) hb)) (fun i j hi hj => by unfold bC; rfl) (by omega) (by unfold maxLen; omega) ?_; intro v2 w2 hs) | (at_make; refine wp_make0M rfl rfl w2.heap.size 47 16 2 _ Try.underlying43 info_band (bC (outK fs ws 0)) ws.length rfl rfl rfl (by omega) (by unfold maxLen; omega) (Nat.le_refl _) ?_; intro w3 hown hg hsz))
  rw [Nat.zero_add] at hs
  have hs := hs.congrM (c' := lfC fs (nxK fs ws 0)) (fun i j hi hj => by simp only [catC, Nat.not_lt_zero, if_false, Nat.sub_zero, lfC, bC, nxK, gi_nx0 hi])
  obtain ⟨aL, cL, rfl, -⟩ := (OwnM.rd hs.p0).form
  have hs := hs.pushOwnM (below_of_grown hg) hown
  clear hown hg hsz
  go_loopw [6, 8, 9, 10, 11, 28] (fun o _ _ _ _ i wr => ∃ k : Nat, k ≤ ws.length ∧ i = .int .i64 k ∧ Hid (∀ i, i < k → inB (gi ws i) 1 64 = true) ∧ SH none w wr [ownMP 2 47 o k (bC (outK fs ws k)), ownMP 2 47 (.slice aL fs.length cL) fs.length (lfC fs (nxK fs ws k)), rdMP 2 (.slice a fs.length ca) fs.length (bC fs), rdP .i64 (.slice b ws.length cb) ws]) (fun _ _ _ _ _ i _ => ws.length - (intOf i).toNat)
  case atStart => exact ⟨0, Nat.zero_le _, rfl, Lib.hid (fun i h => absurd h (Nat.not_lt_zero _)), hs⟩
  case round =>
    obtain ⟨k, hk, rfl, HW, hs⟩ := hrel
    by_cases hlt : k < ws.length
    · obtain ⟨bw, ow, rfl, hwc⟩ := hs.p3.at_ hlt
      obtain ⟨wd, hwd⟩ : ∃ wd, gi ws k = wd := ⟨_, rfl⟩
      have HWD := Lib.hid hwd
      rw [hwd] at hwc
      clear hwd
      cases hin : inB wd 1 64
      · have hbad : wdB ws = false := wdB_bad hlt (by rw [HWD.out]; exact hin)
        have hin2 := inB_false.1 hin
        rcases Int.lt_or_le wd 1 with h1 | h1
        all_goals
          go_wp2
          go_ret
          exact Ret.mk1 (by rw [asgV_wd hbad]; exact OwnM.nil 2 _ _ _ _) hs.done
      obtain ⟨wd1, wd2⟩ := inB_true.1 hin
      have HW2 : Hid (∀ i, i < k + 1 → inB (gi ws i) 1 64 = true) := Lib.hid (fun i hi => by
        rcases Nat.lt_succ_iff_lt_or_eq.1 hi with h1 | rfl
        · exact HW.out i h1
        · rw [HWD.out]; exact hin)
      obtain ⟨nx, hnx⟩ : ∃ nx, nxK fs ws k = nx := ⟨_, rfl⟩
      have hOK : nxOK fs nx := by rw [← hnx]; exact nxOK_K HV.out k (fun i hi => (inB_true.1 (HW.out i hi)).1)
      have HNX := Lib.hid hnx
      have HOK := Lib.hid hOK
      rw [hnx] at hs
      clear hnx hOK hin
      go_wp2
      have hs := hs.allocP #[.int .i64 0, .int .i64 (-1)] 47
      generalize hB : wr.heap.size = B at *
      go_loopw [10, 11, 41] (fun _ _ i wr => ∃ j : Nat, j ≤ fs.length ∧ i = .int .i64 j ∧ Hid (∀ i, i < j → bL fs i < gi nx i + wd - 1) ∧ SH none w wr [blkP B #[.int .i64 0, .int .i64 (-1)] 47, ownMP 2 47 u6 k (bC (outK fs ws k)), ownMP 2 47 (.slice aL fs.length cL) fs.length (lfC fs nx), rdMP 2 (.slice a fs.length ca) fs.length (bC fs), rdP .i64 (.slice (some ⟨bw, ow, none⟩) ws.length cb) ws]) (fun _ _ i _ => fs.length - (intOf i).toNat)
      case atStart => exact ⟨0, Nat.zero_le _, rfl, Lib.hid (fun i h => absurd h (Nat.not_lt_zero _)), hs⟩
      case round =>
        obtain ⟨j, hj, rfl, HB, hs⟩ := hrel
        by_cases hjl : j < fs.length
        · obtain ⟨gL, rfl, -, hgc, hgf⟩ := OwnM.at_ hs.p2 hjl
          have hc0 : wr.cell? ⟨gL, j * 2, none⟩ = some (.int .i64 (gi nx j)) := hgc 0 (by decide)
          have hc1 : wr.cell? ⟨gL, j * 2 + 1, none⟩ = some (.int .i64 (bL fs j)) := hgc 1 (by decide)
          clear hgc hgf
          obtain ⟨q1, q2⟩ := HOK.out.2 j hjl
          obtain ⟨q3, q4, q5⟩ := bvTo_bd HV.out hjl
          have hne : ¬ gL = B := fun e => (hs.apart02 B).1 rfl (by rw [e]; rfl)
          have hne2 : ¬ B = gL := fun e => hne e.symm
          go_wp2_with fail
          refine (SH.ret (hs.allocP #[.int .i64 (gi nx j), .int .i64 (bL fs j)] 47) (Below.refl _ _) fun hs => size_c (gi nx j) (bL fs j) _ (by omega) (by omega) (by omega) (by omega)).mono ?_
          rintro e w4 ⟨v, rfl, rfl, hs⟩
          clear hc0 hc1
          obtain ⟨gL', heL, -, hgc, hgf⟩ := OwnM.at_ hs.p3 hjl
          simp only [Option.some.injEq, Addr.mk.injEq, and_true] at heL
          subst heL
          have hc0 : w4.cell? ⟨gL, j * 2, none⟩ = some (.int .i64 (gi nx j)) := hgc 0 (by decide)
          have hf0 := hgf (j * 2)
          clear hgc hgf
          have hb : w4.heap[wr.heap.size]? = _ := hs.p0
          have d0 := blk_cell hb 0
          have d1 := blk_cell hb 1
          have hb2 : w4.heap[B]? = _ := hs.p1
          have b0 := blk_cell hb2 0
          have b1 := blk_cell hb2 1
          have bf0 := blk_frozen hb2 0
          have bf1 := blk_frozen hb2 1
          clear hb hb2
          have hs := hs.drop0
          by_cases hfit : gi nx j + wd - 1 ≤ bL fs j
          · have hge : wd ≤ bL fs j - gi nx j + 1 := by omega
            have e2 : fit fs nx wd = j := fit_eq hjl hfit HB.out
            have e3 : asgB fs (nxK fs ws k) (gi ws k) = (gi nx j, gi nx j + wd - 1) := by rw [HNX.out, HWD.out]; exact asgB_fit e2 hjl
            have e4 : nxK fs ws (k + 1) = nx.set j (gi nx j + wd) := by rw [nxK, HNX.out, HWD.out]; exact asgN_fit e2 hjl
            go_wp2_with (at_builtin; refine wp_app1MS rfl rfl 47 16 2 (.agg #[.int .i64 0, .int .i64 0]) Try.underlying43 info_band rfl (by decide) (rowB (gi nx j) (gi nx j + wd - 1)) rfl ((((hs.setBlk 0 _).setBlk 1 _).bring2.setOwnM (j := 0) hjl (by decide) _).bring2.alloc _) rfl (fun j hj => by have : j = 0 ∨ j = 1 := (by omega); rcases this with rfl | rfl <;> exact World.cell?_alloc_at _ _ _ _ (by simp)) (fun j hj => by unfold rowB; rfl) (by omega) (by unfold maxLen; omega) ?_; intro v9 w9 hs)
            have hs := (hs.drop2).congrM (c' := bC (outK fs ws (k + 1))) (fun i q hi hq => outK_snoc e3 i q hi)
            have hs := (hs.bring1.congrM (c' := lfC fs (nxK fs ws (k + 1))) (fun i q hi hq => by
              rw [e4]; unfold updC lfC
              rw [gi_set (by rw [HOK.out.1]; exact hjl)]
              by_cases ei : i = j
              · subst ei
                by_cases eq : q = 0 <;> simp [eq]
              · simp [ei])).bring1
            go_wp2
            go_roundw
            case rel => exact ⟨k + 1, hlt, by go_num, HW2, hs⟩
            case measure => simp [intOf]; omega
          · have hge : ¬ wd ≤ bL fs j - gi nx j + 1 := by omega
            have HB2 : Hid (∀ i, i < j + 1 → bL fs i < gi nx i + wd - 1) := Lib.hid (fun i hi => by
              rcases Nat.lt_succ_iff_lt_or_eq.1 hi with h1 | rfl
              · exact HB.out i h1
              · omega)
            go_wp2
            go_roundw
            case rel => exact ⟨j + 1, hjl, by go_num, HB2, hs⟩
            case measure => simp [intOf]; omega
        · obtain rfl : j = fs.length := by omega
          have e2 : fit fs nx wd = fs.length := fit_none HB.out
          have e3 : asgB fs (nxK fs ws k) (gi ws k) = (0, -1) := by rw [HNX.out, HWD.out]; exact asgB_none e2
          have e4 : nxK fs ws (k + 1) = nx := by rw [nxK, HNX.out, HWD.out]; exact asgN_none e2
          have hb2 : wr.heap[B]? = _ := hs.p0
          have b0 := blk_cell hb2 0
          have b1 := blk_cell hb2 1
          clear hb2
          go_wp2_with (at_builtin; refine wp_app1MS rfl rfl 47 16 2 (.agg #[.int .i64 0, .int .i64 0]) Try.underlying43 info_band rfl (by decide) (rowB 0 (-1)) rfl (hs.bring1.alloc _) rfl (fun j hj => by have : j = 0 ∨ j = 1 := (by omega); rcases this with rfl | rfl <;> exact World.cell?_alloc_at _ _ _ _ (by simp)) (fun j hj => by unfold rowB; rfl) (by omega) (by unfold maxLen; omega) ?_; intro v9 w9 hs)
          have hs := (hs.drop1).congrM (c' := bC (outK fs ws (k + 1))) (fun i q hi hq => outK_snoc e3 i q hi)
          rw [← e4] at hs
          go_wp2
          go_roundw
          case rel => exact ⟨k + 1, hlt, by go_num, HW2, hs⟩
          case measure => simp [intOf]; omega
    · obtain rfl : k = ws.length := by omega
      go_wp2
      go_ret
      refine Ret.mk1 ?_ hs.done
      have e := asgV_ok HBV.out (wdB_true.2 ⟨by omega, HW.out⟩)
      show OwnM 2 _ _ _ _ (asgV fs ws).length (bC (asgV fs ws))
      rw [e, length_outK]
      exact SH.ownRetM hs

set_option maxRecDepth 100000 in
set_option maxHeartbeats 4000000 in
theorem specAssignBands_c (va : Value) (fs : List (Int × Int)) (vb : Value) (ws : List Int) (w : World) (ha : RdBand w va fs) (hb : RdI w vb ws) :
    Calls Try.prog 44 #[va, vb] w (Ret w fun v w' => OwnBand w' w.heap.size v (asgV fs ws)) := by
  obtain ⟨a, ca, rfl, ma⟩ := ha.form
  obtain ⟨b, cb, rfl, mb⟩ := hb.form
  have hs := SH.start w [rdMP 2 (.slice a fs.length ca) fs.length (bC fs), rdP .i64 (.slice b ws.length cb) ws] (by simp only [List.forall_mem_cons]; exact ⟨⟨⟨ha, by decide⟩, rdMP_wr⟩, ⟨hb, rdP_wr⟩, by simp⟩)
  clear ha hb
  go_enter Try.func44, Try.ntmps44
  go_wp2_with fail
  have hs := hs.ownEmptyM 2 (by decide) 47 (bC [])
  refine (SH.quiet hs (Below.refl _ _) fun hs => specBandsValid_c _ fs _ hs.p1.1).mono ?_
  rintro e w1 ⟨rfl, hs⟩
  cases hbv : bvB fs
  · go_wp2
    go_ret
    exact Ret.mk1 (by rw [asgV_bad hbv]; exact SH.ownRetM (hs.congrM (c' := bC []) (fun i j h => absurd h (Nat.not_lt_zero _)))) hs.done
  by_cases hwl : 64 < ws.length
  · go_wp2
    go_ret
    exact Ret.mk1 (by rw [asgV_wd (wdB_long hwl)]; exact SH.ownRetM (hs.congrM (c' := bC []) (fun i j h => absurd h (Nat.not_lt_zero _)))) hs.done
  obtain ⟨hfl, hval⟩ := bvB_true.1 hbv
  have HV := Lib.hid hval
  have HBV := Lib.hid hbv
  clear hval hbv
  go_wp2
  have hs := hs.ownEmpty .i64 3
  go_loopw [6, 7] (fun o i wr => ∃ (k : Nat) (xs : List Int), k ≤ fs.length ∧ i = .int .i64 k ∧ xs.length = k ∧ Hid (∀ i, i < k → gi xs i = bF fs i) ∧ SH none w wr [ownP .i64 3 o xs, ownMP 2 47 (.slice (some ⟨w.heap.size, 0, none⟩) 0 0) 0 (bC []), rdMP 2 (.slice a fs.length ca) fs.length (bC fs), rdP .i64 (.slice b ws.length cb) ws]) (fun _ i _ => fs.length - (intOf i).toNat)
  case atStart => exact ⟨0, [], Nat.zero_le _, rfl, rfl, Lib.hid (fun i h => absurd h (Nat.not_lt_zero _)), hs⟩
  case round =>
    obtain ⟨k, xs, hk, rfl, hxl, HX, hs⟩ := hrel
    have HXL := Lib.hid hxl
    clear hxl
    by_cases hlt : k < fs.length
    · obtain ⟨bw, ow, rfl, hc⟩ := hs.p2.1.at_ hlt
      have hc0 : wr.cell? ⟨bw, ow + k * 2, none⟩ = some (.int .i64 (bF fs k)) := hc 0 (by decide)
      clear hc
      go_wp2_with (at_builtin; refine wp_app1S rfl rfl .i64 3 8 Try.underlying23 info_int (bF fs k) rfl (hs.alloc _) rfl (World.cell?_alloc_at _ _ _ _ rfl) (by rw [HXL.out]; omega) (by rw [HXL.out]; unfold maxLen; omega) ?_; intro v9 w9 hs)
      clear hc0
      go_wp2
      go_roundw
      case rel =>
        refine ⟨k + 1, _, hlt, by go_num, by simp [HXL.out], Lib.hid ?_, hs⟩
        intro i hi
        by_cases e : i = k
        · subst e; rw [← HXL.out]; rw [gi_append_at, HXL.out]
        · rw [gi_append_left (by rw [HXL.out]; omega)]; exact HX.out i (by omega)
      case measure => simp [intOf]; omega
    · obtain rfl : k = fs.length := by omega
      have hxs : xs = nxK fs ws 0 := gi_ext (by rw [HXL.out, length_nxK]) (fun i hi => by rw [HX.out i (by rw [← HXL.out]; exact hi), nxK, gi_nx0 (by rw [← HXL.out]; exact hi)])
      subst hxs
      have hs := hs.bring1
      clear HX HXL
      obtain ⟨aN, cN, rfl, -⟩ := (OwnK.rd hs.p1).form
      rw [length_nxK] at *
      have hs := hs.congrM (c' := bC (outK fs ws 0)) (fun i j h => absurd h (Nat.not_lt_zero _))
      go_wp2
      go_loopw [5, 8, 9, 10] (fun o i _ _ wr => ∃ k : Nat, k ≤ ws.length ∧ i = .int .i64 k ∧ Hid (∀ i, i < k → inB (gi ws i) 1 64 = true) ∧ SH none w wr [ownMP 2 47 o k (bC (outK fs ws k)), ownP .i64 3 (.slice aN fs.length cN) (nxK fs ws k), rdMP 2 (.slice a fs.length ca) fs.length (bC fs), rdP .i64 (.slice b ws.length cb) ws]) (fun _ i _ _ _ => ws.length - (intOf i).toNat)
      case atStart => exact ⟨0, Nat.zero_le _, rfl, Lib.hid (fun i h => absurd h (Nat.not_lt_zero _)), hs⟩
      case round =>
        obtain ⟨k, hk, rfl, HW, hs⟩ := hrel
        by_cases hlt : k < ws.length
        · obtain ⟨bw, ow, rfl, hwc⟩ := hs.p3.at_ hlt
          obtain ⟨wd, hwd⟩ : ∃ wd, gi ws k = wd := ⟨_, rfl⟩
          have HWD := Lib.hid hwd
          rw [hwd] at hwc
          clear hwd
          go_wp2_with fail
          refine (SH.quiet hs (by repeat' (first | with_reducible exact Below.refl _ _ | with_reducible assumption | with_reducible refine below_drewN ?_ _ | with_reducible refine Below.drew ?_ | with_reducible refine Below.alloc ?_ ?_ _ | with_reducible refine Below.setCell ?_ ?_ _ | go_size)) fun hs => l1In_c wd 1 64 _).mono ?_
          rintro e w2 ⟨rfl, hs⟩
          clear hwc
          cases hin : inB wd 1 64
          · have hbad : wdB ws = false := wdB_bad hlt (by rw [HWD.out]; exact hin)
            have hs := hs.ownEmptyM 2 (by decide) 47 (bC [])
            go_wp2
            go_ret
            exact Ret.mk1 (by rw [asgV_wd hbad]; exact SH.ownRetM hs) hs.done
          obtain ⟨wd1, wd2⟩ := inB_true.1 hin
          have HW2 : Hid (∀ i, i < k + 1 → inB (gi ws i) 1 64 = true) := Lib.hid (fun i hi => by
            rcases Nat.lt_succ_iff_lt_or_eq.1 hi with h1 | rfl
            · exact HW.out i h1
            · rw [HWD.out]; exact hin)
          obtain ⟨nx, hnx⟩ : ∃ nx, nxK fs ws k = nx := ⟨_, rfl⟩
          have hOK : nxOK fs nx := by rw [← hnx]; exact nxOK_K HV.out k (fun i hi => (inB_true.1 (HW.out i hi)).1)
          have HNX := Lib.hid hnx
          have HOK := Lib.hid hOK
          rw [hnx] at hs
          clear hnx hOK hin
          go_wp2
          have hs := hs.allocP #[.int .i64 0, .int .i64 (-1)] 47
          generalize hB : w2.heap.size = B at *
          go_loopw [10] (fun i wr => ∃ j : Nat, j ≤ fs.length ∧ i = .int .i64 j ∧ Hid (∀ i, i < j → bL fs i < gi nx i + wd - 1) ∧ SH none w wr [blkP B #[.int .i64 0, .int .i64 (-1)] 47, ownMP 2 47 u5 k (bC (outK fs ws k)), ownP .i64 3 (.slice aN fs.length cN) nx, rdMP 2 (.slice a fs.length ca) fs.length (bC fs), rdP .i64 (.slice (some ⟨bw, ow, none⟩) ws.length cb) ws]) (fun i _ => fs.length - (intOf i).toNat)
          case atStart => exact ⟨0, Nat.zero_le _, rfl, Lib.hid (fun i h => absurd h (Nat.not_lt_zero _)), hs⟩
          case round =>
            obtain ⟨j, hj, rfl, HB, hs⟩ := hrel
            by_cases hjl : j < fs.length
            · obtain ⟨gN, rfl, -, -, hn0, hnf⟩ := OwnK.at_ hs.p2 hjl
              obtain ⟨ba, oa, rfl, hca⟩ := hs.p3.1.at_ hjl
              obtain ⟨bw', ow', he, hwc⟩ := hs.p4.at_ hlt
              simp only [Option.some.injEq, Addr.mk.injEq, and_true] at he
              obtain ⟨rfl, rfl⟩ := he
              rw [HWD.out] at hwc
              have hc1 : wr.cell? ⟨ba, oa + j * 2 + 1, none⟩ = some (.int .i64 (bL fs j)) := hca 1 (by decide)
              clear hca
              obtain ⟨q1, q2⟩ := HOK.out.2 j hjl
              obtain ⟨q3, q4, q5⟩ := bvTo_bd HV.out hjl
              have hne : ¬ gN = B := fun e => (hs.apart02 B).1 rfl (by rw [e]; rfl)
              have hne2 : ¬ B = gN := fun e => hne e.symm
              have hneW : ¬ bw = B := fun e => ((hs.drop1.drop1.drop1.apart01) B).1 rfl ⟨by rw [e]; rfl, by omega⟩
              have hneW2 : ¬ B = bw := fun e => hneW e.symm
              have hb2 : wr.heap[B]? = _ := hs.p0
              have b0 := blk_cell hb2 0
              have b1 := blk_cell hb2 1
              have bf0 := blk_frozen hb2 0
              have bf1 := blk_frozen hb2 1
              clear hb2
              obtain ⟨x, hx⟩ : ∃ x, gi nx j = x := ⟨_, rfl⟩
              rw [hx] at hn0 q1 q2
              have i0 : (0 : Int) ≤ (j : Int) := by omega
              have i1 : (j : Int) < (fs.length : Int) := by omega
              have i2 : (0 : Int) ≤ (k : Int) := by omega
              have i3 : (k : Int) < (ws.length : Int) := by omega
              have s1 : IntKind.i64.wrap (x + wd) = x + wd := IntWalk.i64_in _ (by omega)
              have s2 : IntKind.i64.wrap (x + wd - 1) = x + wd - 1 := IntWalk.i64_in _ (by omega)
              by_cases hfit : x + wd - 1 ≤ bL fs j
              · have hge : decide (x + wd - 1 ≤ bL fs j) = true := by simpa using hfit
                have e2 : fit fs nx wd = j := fit_eq hjl (by rw [hx]; exact hfit) HB.out
                have e3 : asgB fs (nxK fs ws k) (gi ws k) = (x, x + wd - 1) := by rw [HNX.out, HWD.out, ← hx]; exact asgB_fit e2 hjl
                have e4 : nxK fs ws (k + 1) = nx.set j (x + wd) := by rw [nxK, HNX.out, HWD.out, ← hx]; exact asgN_fit e2 hjl
                have E3 := Lib.hid e3
                have E4 := Lib.hid e4
                clear e2 e3 e4
                go_wp2
                go_quiet (fail)
                have hs := hs.drewN nq
                generalize wr.drewN nq = W at *
                clear hn0 hwc hc1 b0 b1 bf0 bf1 hnf
                obtain ⟨gN', he, -, -, hn0, hnf⟩ := OwnK.at_ hs.p2 hjl
                simp only [Option.some.injEq, Addr.mk.injEq, and_true] at he
                subst he
                rw [hx] at hn0
                obtain ⟨bw', ow', he, hwc⟩ := hs.p4.at_ hlt
                simp only [Option.some.injEq, Addr.mk.injEq, and_true] at he
                obtain ⟨rfl, rfl⟩ := he
                rw [HWD.out] at hwc
                have hb2 : W.heap[B]? = _ := hs.p0
                have b0 := blk_cell hb2 0
                have b1 := blk_cell hb2 1
                have bf0 := blk_frozen hb2 0
                have bf1 := blk_frozen hb2 1
                clear hb2
                go_wp2
                refine wp_region_still_tail 14 (by kernel_rfl) (by kernel_rfl) ?_
                simp only [List.take_succ_cons, List.take_zero, List.drop_succ_cons, List.drop_zero]
                repeat still_step
                refine wpStill_nil ?_
                change wpList _ _ _ _ _ (World.drew _)
                go_wp2
                have hs := ((hs.setBlk 0 (.int .i64 x)).setBlk 1 (.int .i64 (x + wd - 1))).drew
                generalize hW2 : ((W.setCell ⟨B, 0, none⟩ (.int .i64 x)).setCell ⟨B, 1, none⟩ (.int .i64 (x + wd - 1))).drew = W2 at *
                clear hn0 hwc hnf b0 b1 bf0 bf1
                obtain ⟨gN', he, -, -, hn0, hnf⟩ := OwnK.at_ hs.p2 hjl
                simp only [Option.some.injEq, Addr.mk.injEq, and_true] at he
                subst he
                rw [hx] at hn0
                obtain ⟨bw', ow', he, hwc⟩ := hs.p4.at_ hlt
                simp only [Option.some.injEq, Addr.mk.injEq, and_true] at he
                obtain ⟨rfl, rfl⟩ := he
                rw [HWD.out] at hwc
                have hb2 : W2.heap[B]? = _ := hs.p0
                have b0 : W2.cell? ⟨B, 0, none⟩ = some (.int .i64 x) := blk_cell hb2 0
                have b1 : W2.cell? ⟨B, 1, none⟩ = some (.int .i64 (x + wd - 1)) := blk_cell hb2 1
                clear hb2 hW2
                refine wp_region_still_tail 12 (by kernel_rfl) (by kernel_rfl) ?_
                simp only [List.take_succ_cons, List.take_zero, List.drop_succ_cons, List.drop_zero]
                repeat still_step
                refine wpStill_nil ?_
                change wpList _ _ _ _ _ (World.drew _)
                go_wp2_with (at_builtin; refine wp_app1MS rfl rfl 47 16 2 (.agg #[.int .i64 0, .int .i64 0]) Try.underlying43 info_band rfl (by decide) (rowB x (x + wd - 1)) rfl ((hs.drew.bring2.setOwn hjl _).bring2.alloc _) rfl (fun j hj => by have : j = 0 ∨ j = 1 := (by omega); rcases this with rfl | rfl <;> exact World.cell?_alloc_at _ _ _ _ (by simp)) (fun j hj => by unfold rowB; rfl) (by omega) (by unfold maxLen; omega) ?_; intro v9 w9 hs)
                have hs := (hs.drop2).congrM (c' := bC (outK fs ws (k + 1))) (fun i q hi hq => outK_snoc E3.out i q hi)
                rw [← E4.out] at hs
                go_wp2
                go_roundw
                case rel => exact ⟨k + 1, hlt, by go_num, HW2, hs⟩
                case measure => simp [intOf]; omega
              · have hge : decide (x + wd - 1 ≤ bL fs j) = false := by simpa using hfit
                have HB2 : Hid (∀ i, i < j + 1 → bL fs i < gi nx i + wd - 1) := Lib.hid (fun i hi => by
                  rcases Nat.lt_succ_iff_lt_or_eq.1 hi with h1 | rfl
                  · exact HB.out i h1
                  · rw [hx]; omega)
                clear hx
                go_wp2
                go_quiet (fail)
                go_wp2
                go_roundw
                case rel => exact ⟨j + 1, hjl, by go_num, HB2, (by first | exact hs | exact (hs).alloc _ | exact ((hs).alloc _).alloc _ | exact (((hs).alloc _).alloc _).alloc _ | exact ((((hs).alloc _).alloc _).alloc _).alloc _ | exact (hs).drew | exact ((hs).alloc _).drew | exact (((hs).alloc _).alloc _).drew | exact ((((hs).alloc _).alloc _).alloc _).drew | exact (((((hs).alloc _).alloc _).alloc _).alloc _).drew | exact (hs).drewN _ | exact ((hs).alloc _).drewN _ | exact (((hs).alloc _).alloc _).drewN _ | exact ((((hs).alloc _).alloc _).alloc _).drewN _ | exact (((((hs).alloc _).alloc _).alloc _).alloc _).drewN _)⟩
                case measure => simp [intOf]; omega
            · obtain rfl : j = fs.length := by omega
              have e2 : fit fs nx wd = fs.length := fit_none HB.out
              have e3 : asgB fs (nxK fs ws k) (gi ws k) = (0, -1) := by rw [HNX.out, HWD.out]; exact asgB_none e2
              have e4 : nxK fs ws (k + 1) = nx := by rw [nxK, HNX.out, HWD.out]; exact asgN_none e2
              have hb2 : wr.heap[B]? = _ := hs.p0
              have b0 := blk_cell hb2 0
              have b1 := blk_cell hb2 1
              clear hb2
              go_wp2_with (at_builtin; refine wp_app1MS rfl rfl 47 16 2 (.agg #[.int .i64 0, .int .i64 0]) Try.underlying43 info_band rfl (by decide) (rowB 0 (-1)) rfl (hs.bring1.alloc _) rfl (fun j hj => by have : j = 0 ∨ j = 1 := (by omega); rcases this with rfl | rfl <;> exact World.cell?_alloc_at _ _ _ _ (by simp)) (fun j hj => by unfold rowB; rfl) (by omega) (by unfold maxLen; omega) ?_; intro v9 w9 hs)
              have hs := (hs.drop1).congrM (c' := bC (outK fs ws (k + 1))) (fun i q hi hq => outK_snoc e3 i q hi)
              rw [← e4] at hs
              go_wp2
              go_roundw
              case rel => exact ⟨k + 1, hlt, by go_num, HW2, hs⟩
              case measure => simp [intOf]; omega
        · obtain rfl : k = ws.length := by omega
          go_wp2
          go_ret
          refine Ret.mk1 ?_ hs.done
          have e := asgV_ok HBV.out (wdB_true.2 ⟨by omega, HW.out⟩)
          show OwnM 2 _ _ _ _ (asgV fs ws).length (bC (asgV fs ws))
          rw [e, length_outK]
          exact SH.ownRetM hs

end Go.Proofs.Ytoilofcpijgaiaa
