import Derived.Test.YtoilofcpijgaiaaProg
import Derived.Test.YtoilofcpijgaiaaLib
import Derived.Test.YtoilofcpijgaiaaMem
import Derived.Test.YtoilofcpijgaiaaNum
import Derived.Test.YtoilofcpijgaiaaSym
import Derived.Test.YtoilofcpijgaiaaInts
import Derived.Test.YtoilofcpijgaiaaApp
import Derived.Test.YtoilofcpijgaiaaBlk
import Derived.Test.YtoilofcpijgaiaaBand
import Derived.Test.YtoilofcpijgaiaaAsg
import Derived.RangeFuncNested
import Derived.RangeFuncBound
import Derived.RangeFuncCalls
import Derived.RangeFuncLeaves
import Derived.Shelf.Abstract
import Derived.Shelf.RegionOpen
import Derived.WalkKit
import Derived.OwnWalkIn
import Derived.TacticsInMore
import Derived.LoopNIn
import Derived.LoopIn
import Derived.Sort.QuietIn
import Derived.Maps.AppendAt
namespace Go.Proofs.Ytoilofcpijgaiaa
open Go.RowKit Go.Shelf

attribute [local go_sem] Oper.semAt_some

/-! FreeBands: channels below a threshold, side by side. -/
def qt (xs : List Int) (th : Int) (k : Nat) : Bool := decide (k < xs.length) && decide (gi xs k < th)
/-- where the range that ends ahead of k begins -/
def frF (xs : List Int) (th : Int) : Nat → Nat
  | 0 => 0
  | k + 1 => if qt xs th k then frF xs th k else k + 1
/-- the ranges that have ended ahead of k -/
def rgs (xs : List Int) (th : Int) : Nat → List (Int × Int)
  | 0 => []
  | k + 1 => if qt xs th k = false ∧ frF xs th k < k then rgs xs th k ++ [((frF xs th k : Int), (k : Int) - 1)] else rgs xs th k
def wideB (wd : Int) (p : Int × Int) : Bool := decide (wd ≤ p.2 - p.1 + 1)
def frV (xs : List Int) (th wd : Int) : List (Int × Int) := if decide (xs.length ≤ 64) && inB wd 1 64 then (rgs xs th (xs.length + 1)).filter (wideB wd) else []
theorem frF_le (xs : List Int) (th : Int) : ∀ k, frF xs th k ≤ k
  | 0 => Nat.le_refl _
  | k + 1 => by have := frF_le xs th k; simp only [frF]; split <;> omega
theorem length_rgs (xs : List Int) (th : Int) : ∀ k, (rgs xs th k).length ≤ k
  | 0 => Nat.le_refl _
  | k + 1 => by have := length_rgs xs th k; simp only [rgs]; split <;> simp <;> omega
theorem rgs_quiet {xs : List Int} {th : Int} {k : Nat} (h : qt xs th k = true) : rgs xs th (k + 1) = rgs xs th k ∧ frF xs th (k + 1) = frF xs th k := by
  constructor
  · simp [rgs, h]
  · simp [frF, h]
theorem rgs_loud {xs : List Int} {th : Int} {k : Nat} (h : qt xs th k = false) (hk : frF xs th k < k) : rgs xs th (k + 1) = rgs xs th k ++ [((frF xs th k : Int), (k : Int) - 1)] ∧ frF xs th (k + 1) = k + 1 := by
  constructor
  · simp [rgs, h, hk]
  · simp [frF, h]
theorem rgs_none {xs : List Int} {th : Int} {k : Nat} (h : qt xs th k = false) (hk : frF xs th k = k) : rgs xs th (k + 1) = rgs xs th k ∧ frF xs th (k + 1) = k + 1 := by
  constructor
  · simp [rgs, h, hk]
  · simp [frF, h]
theorem qt_true {xs : List Int} {th : Int} {k : Nat} (h1 : k < xs.length) (h2 : gi xs k < th) : qt xs th k = true := by simp [qt, h1, h2]
theorem qt_false {xs : List Int} {th : Int} {k : Nat} (h2 : k < xs.length → th ≤ gi xs k) : qt xs th k = false := by
  cases h : qt xs th k
  · rfl
  · simp only [qt, Bool.and_eq_true, decide_eq_true_eq] at h
    have := h2 h.1; omega

/-- what a round keeps -/
def KpQ (n₀ b1 b2 : Nat) (A B : World) : Prop := Below n₀ A B ∧ B.heap[b1]? = A.heap[b1]? ∧ B.heap[b2]? = A.heap[b2]?
theorem KpQ.trans {n₀ b1 b2 : Nat} {A B C : World} (h : KpQ n₀ b1 b2 A B) (k : KpQ n₀ b1 b2 B C) : KpQ n₀ b1 b2 A C := ⟨h.1.trans k.1, k.2.1.trans h.2.1, k.2.2.trans h.2.2⟩

theorem rgs_mem {xs : List Int} {th : Int} : ∀ {k : Nat} {p : Int × Int}, p ∈ rgs xs th k → 0 ≤ p.1 ∧ p.1 ≤ p.2 ∧ p.2 < k
  | 0, p, h => by simp [rgs] at h
  | k + 1, p, h => by
    simp only [rgs] at h
    split at h
    · next hq =>
      rcases List.mem_append.1 h with h | h
      · have := rgs_mem h; omega
      · simp only [List.mem_singleton] at h
        subst h
        dsimp only
        omega
    · have := rgs_mem h; omega
/-- as the machine reckons it -/
def wideW (wd : Int) (p : Int × Int) : Bool := decide (wd ≤ wrap64 (wrap64 (p.2 - p.1) + 1))
theorem wideW_eq {wd : Int} {p : Int × Int} (h1 : 0 ≤ p.1) (h2 : p.1 ≤ p.2) (h3 : p.2 < 1000) : wideW wd p = wideB wd p := by
  unfold wideW wideB
  have e : wrap64 (wrap64 (p.2 - p.1) + 1) = p.2 - p.1 + 1 := by unfold wrap64; omega
  rw [e]
theorem frV_ok {xs : List Int} {th wd : Int} (hl : xs.length ≤ 64) (h : inB wd 1 64 = true) : frV xs th wd = (rgs xs th (xs.length + 1)).filter (wideW wd) := by
  unfold frV
  rw [if_pos (by simp [hl, h])]
  exact List.filter_congr fun p hp => by
    have := rgs_mem hp
    exact (wideW_eq this.1 this.2.1 (by omega)).symm
theorem sizeW_c (x y : Int) (w : World) :
    Calls Try.prog 61 #[.agg #[.int .i64 x, .int .i64 y]] w (Ret w fun v _ => v = .int .i64 (wrap64 (wrap64 (y - x) + 1))) := by
  go_enter Try.func61, Try.ntmps61
  go_wp2
  go_ret
  exact Ret.mk1 rfl (by go_grown)
def encB (x : Int × Int) : Array Value := #[.agg #[.int .i64 x.1, .int .i64 x.2]]
set_option maxRecDepth 100000 in
set_option maxHeartbeats 4000000 in
theorem quiet1_in (n : Nat) (hn : 1 ≤ n) (l b1 b2 : Nat) (w w1 : World) (va : Value) (xs : List Int) (th : Int) (hx : RdI w va xs) (hl : xs.length ≤ 64) (hb1 : b1 < w1.heap.size) (hb2 : b2 < w1.heap.size) (hw1 : Below w.heap.size w w1)
    (c1 : Boxed w1 b1 23 va) (c2 : Boxed w1 b2 3 (.int .i64 th)) (J Jx : List (Int × Int) → World → Prop) (W : World) (hW : Below w1.heap.size w1 W) (hJ : AbidesFrom W.heap.size J)
    (hY : ∀ pre x W', J pre W' → pre.length < 65 → YieldAt Fence.wide (n - 1) Try.prog l (encB x) W' fun e W'' =>
      (e = .returned (.bool true) ∧ J (pre ++ [x]) W'' ∧ KpQ w.heap.size b1 b2 W' W'') ∨ (e = .returned (.bool false) ∧ Jx (pre ++ [x]) W''))
    (h0 : J [] W) :
    CallsIn Fence.wide n Try.prog 65 #[.func (.yield l) #[] #[], .pointer (some ⟨b1, 0, none⟩), .pointer (some ⟨b2, 0, none⟩)] W fun e W' => (∃ v, e = .returned v) ∧
      ((∃ ys, ys = rgs xs th (xs.length + 1) ∧ J ys W') ∨ (∃ pre, True ∧ Jx pre W')) := by
  obtain ⟨a, ca, rfl, ma⟩ := hx.form
  have HX := Lib.hid hx
  have hK0 : KpQ w.heap.size b1 b2 W W := ⟨Below.refl _ _, rfl, rfl⟩
  have hB0 : Boxed W b1 23 (.slice a xs.length ca) ∧ Boxed W b2 3 (.int .i64 th) := ⟨(hW.block b1 hb1).trans c1, (hW.block b2 hb2).trans c2⟩
  have hWW : Below w.heap.size w W := hw1.trans (hW.mono hw1.size)
  clear hx c1 c2 hb1 hb2 hw1 hW hK0
  have HY := Lib.hid hY
  have HJ := Lib.hid hJ
  clear hY hJ
  refine callsIn_of_wp Try.func65 rfl trivial ?_ rfl
  simp only [Try.ntmps65, List.size_toArray, List.length_cons, List.length_nil, Nat.reduceAdd, Nat.reduceSub, Array.replicate_succ, Array.replicate_zero, List.push_toArray, List.append_toArray, List.nil_append, List.cons_append]
  gi_wp2
  gi_loopw [4] (fun i wr => ∃ k : Nat, k ≤ xs.length + 1 ∧ i = .int .i64 k ∧ Hid (frF xs th k = k) ∧ J (rgs xs th k) wr ∧ (Boxed wr b1 23 (.slice a xs.length ca) ∧ Boxed wr b2 3 (.int .i64 th)) ∧ Below w.heap.size w wr ∧ W.heap.size ≤ wr.heap.size) (fun i _ => xs.length + 1 - (intOf i).toNat)
  case atStart => exact ⟨0, Nat.zero_le _, rfl, Lib.hid rfl, h0, hB0, hWW, Nat.le_refl _⟩
  case round =>
    obtain ⟨k, hk, rfl, HF, hJk, hBk, hWk, hsz⟩ := hrel
    have d1 := hBk.1.cell
    have d2 := hBk.2.cell
    by_cases hlt : k < xs.length
    · gi_wp2
      gi_loopw [4] (fun i wr' => ∃ m : Nat, k ≤ m ∧ m ≤ xs.length ∧ i = .int .i64 m ∧ Hid (frF xs th m = k) ∧ Hid (rgs xs th m = rgs xs th k) ∧ J (rgs xs th k) wr' ∧ (Boxed wr' b1 23 (.slice a xs.length ca) ∧ Boxed wr' b2 3 (.int .i64 th)) ∧ Below w.heap.size w wr' ∧ W.heap.size ≤ wr'.heap.size) (fun i _ => xs.length - (intOf i).toNat)
      case atStart => exact ⟨k, Nat.le_refl _, by omega, rfl, HF, Lib.hid rfl, hJk, hBk, hWk, hsz⟩
      case round =>
        clear hJk hBk hWk hsz d1 d2
        obtain ⟨m, hkm, hm, rfl, HF2, HR2, hJm, hBm, hWm, hsz⟩ := hrel
        have d1 := hBm.1.cell
        have d2 := hBm.2.cell
        by_cases hml : m < xs.length
        · obtain ⟨b, off, rfl, hc⟩ := (HX.out.below hWm).at_ hml
          have i0 : (0 : Int) ≤ (m : Int) := by omega
          have i1 : (m : Int) < (xs.length : Int) := by omega
          by_cases hq : gi xs m < th
          · have q1 := rgs_quiet (qt_true hml hq)
            gi_wp2
            gi_quiet (fail)
            gi_wp2
            go_roundw
            case rel => exact ⟨m + 1, by omega, by omega, by go_num, Lib.hid (q1.2.trans HF2.out), Lib.hid (q1.1.trans HR2.out), HJ.out _ _ _ none hJm (grown_of_below (below_drewN (Below.refl _ _) _) _) (fun _ h => by cases h), hBm, below_drewN hWm _, hsz⟩
            case measure => simp [intOf]; omega
          · have q0 : qt xs th m = false := qt_false (fun _ => by omega)
            have Q0 := Lib.hid q0
            clear q0
            gi_wp2
            gi_quiet (fail)
            by_cases hkm2 : k < m
            · obtain ⟨fn, tmps, assign, body, hy, hR⟩ := HY.out (rgs xs th k) ((k : Int), (m : Int) - 1) (wr.drewN nq) (HJ.out _ _ _ none hJm (grown_of_below (below_drewN (Below.refl _ _) _) _) (fun _ h => by cases h)) (by have := length_rgs xs th k; omega)
              dsimp only [encB] at hy
              have q1 := rgs_loud Q0.out (by rw [HF2.out]; exact hkm2)
              rw [HR2.out, HF2.out] at q1
              have Q1 := Lib.hid q1
              have HS := Lib.hid hsz
              have HB := Lib.hid hBm
              have HW := Lib.hid hWm
              clear q1 hsz hBm hWm hJm
              gi_wp2
              refine hR.mono ?_
              rintro e W3 (⟨rfl, hJ3, hk3⟩ | ⟨rfl, hJx3⟩)
              · gi_wp2
                go_roundw
                case rel => exact ⟨m + 1, by omega, by go_num, Lib.hid Q1.out.2, by rw [Q1.out.1]; exact hJ3, ⟨hk3.2.1.trans HB.out.1, hk3.2.2.trans HB.out.2⟩, (below_drewN HW.out _).trans hk3.1, Nat.le_trans HS.out (Nat.le_trans (below_drewN (Below.refl 0 _) _).size hk3.1.size)⟩
                case measure => simp [intOf]; omega
              · gi_wp2
                refine bodyPost_ret (results_none rfl _ _ _) rfl ?_
                exact ⟨⟨_, rfl⟩, .inr ⟨_, trivial, hJx3⟩⟩
            · obtain rfl : k = m := by omega
              have q1 := rgs_none Q0.out HF2.out
              have Q1 := Lib.hid q1
              clear q1
              gi_wp2
              refine ⟨fun _ h => (by cases h), ?_⟩
              gi_wp2
              go_roundw
              case rel => exact ⟨k + 1, by omega, by go_num, Lib.hid Q1.out.2, by rw [Q1.out.1]; exact HJ.out _ _ _ none hJm (grown_of_below (below_drewN (Below.refl _ _) _) _) (fun _ h => by cases h), hBm, below_drewN hWm _, hsz⟩
              case measure => simp [intOf]; omega
        · have q0 : qt xs th m = false := qt_false (fun h => absurd h hml)
          have Q0 := Lib.hid q0
          clear q0
          gi_wp2
          gi_quiet (fail)
          have hkm2 : k < m := by omega
          obtain ⟨fn, tmps, assign, body, hy, hR⟩ := HY.out (rgs xs th k) ((k : Int), (m : Int) - 1) (wr.drewN nq) (HJ.out _ _ _ none hJm (grown_of_below (below_drewN (Below.refl _ _) _) _) (fun _ h => by cases h)) (by have := length_rgs xs th k; omega)
          dsimp only [encB] at hy
          have q1 := rgs_loud Q0.out (by rw [HF2.out]; exact hkm2)
          rw [HR2.out, HF2.out] at q1
          have Q1 := Lib.hid q1
          have HS := Lib.hid hsz
          have HB := Lib.hid hBm
          have HW := Lib.hid hWm
          clear q1 hsz hBm hWm hJm
          gi_wp2
          refine hR.mono ?_
          rintro e W3 (⟨rfl, hJ3, hk3⟩ | ⟨rfl, hJx3⟩)
          · gi_wp2
            go_roundw
            case rel => exact ⟨m + 1, by omega, by go_num, Lib.hid Q1.out.2, by rw [Q1.out.1]; exact hJ3, ⟨hk3.2.1.trans HB.out.1, hk3.2.2.trans HB.out.2⟩, (below_drewN HW.out _).trans hk3.1, Nat.le_trans HS.out (Nat.le_trans (below_drewN (Below.refl 0 _) _).size hk3.1.size)⟩
            case measure => simp [intOf]; omega
          · gi_wp2
            refine bodyPost_ret (results_none rfl _ _ _) rfl ?_
            exact ⟨⟨_, rfl⟩, .inr ⟨_, trivial, hJx3⟩⟩
    · have e : rgs xs th k = rgs xs th (xs.length + 1) := by
        rcases Nat.lt_or_ge xs.length k with h | h
        · obtain rfl : k = xs.length + 1 := by omega
          rfl
        · obtain rfl : k = xs.length := by omega
          exact (rgs_none (qt_false (fun h => absurd h hlt)) HF.out).1.symm
      have E := Lib.hid e
      clear e
      gi_wp2
      go_end0
      exact ⟨⟨_, rfl⟩, .inl ⟨_, E.out, hJk⟩⟩

theorem quiet_stops (n : Nat) (hn : 1 ≤ n) (b1 b2 : Nat) (w w1 : World) (va : Value) (xs : List Int) (th : Int) (hx : RdI w va xs) (hl : xs.length ≤ 64) (hb1 : b1 < w1.heap.size) (hb2 : b2 < w1.heap.size) (hw1 : Below w.heap.size w w1)
    (c1 : Boxed w1 b1 23 va) (c2 : Boxed w1 b2 3 (.int .i64 th)) :
    SeqStopsK Fence.wide n Try.prog 65 #[.pointer (some ⟨b1, 0, none⟩), .pointer (some ⟨b2, 0, none⟩)] encB (KpQ w.heap.size b1 b2) (fun ys => ys = rgs xs th (xs.length + 1)) (fun _ => True) 65 w1 := fun l J Jx W hW hJ _ hY h0 =>
  quiet1_in n hn l b1 b2 w w1 va xs th hx hl hb1 hb2 hw1 c1 c2 J Jx W hW hJ hY h0

set_option maxHeartbeats 1000000 in
theorem quiet_in (n : Nat) (a : Option Addr) (len cap : Nat) (th : Int) (w : World) :
    CallsIn Fence.wide n Try.prog 60 #[.slice a len cap, .int .i64 th] w fun e w' => e = .returned (.func (.func 65) #[] #[.pointer (some ⟨w.heap.size, 0, none⟩), .pointer (some ⟨w.heap.size + 1, 0, none⟩)]) ∧ w' = (w.alloc (.cells #[.slice a len cap] 23)).alloc (.cells #[.int .i64 th] 3) := by
  refine callsIn_of_wp Try.func60 rfl trivial ?_ rfl
  simp only [Try.ntmps60, List.size_toArray, List.length_cons, List.length_nil, Nat.reduceAdd, Nat.reduceSub, Array.replicate_succ, Array.replicate_zero, List.push_toArray, List.append_toArray, List.nil_append, List.cons_append]
  gi_wp2
  go_ret
  exact ⟨rfl, rfl⟩

theorem fl_hit {wd : Int} {x : Int × Int} {pre : List (Int × Int)} (h : wideW wd x = true) : (pre ++ [x]).filter (wideW wd) = pre.filter (wideW wd) ++ [x] := by simp [List.filter_append, h]
theorem fl_miss {wd : Int} {x : Int × Int} {pre : List (Int × Int)} (h : wideW wd x = false) : (pre ++ [x]).filter (wideW wd) = pre.filter (wideW wd) := by simp [List.filter_append, h]
theorem cell_two_new (w : World) (x y : Value) (t : TypeId) : ∀ j u, [x, y][j]? = some u → (w.alloc (.cells #[x, y] t)).cell? ((⟨w.heap.size, 0, none⟩ : Addr).add j) = some u := by
  intro j u hj
  match j, hj with
  | 0, hj => simp at hj; subst hj; rw [addr_add]; exact World.cell?_alloc_at _ _ _ _ (by simp)
  | 1, hj => simp at hj; subst hj; rw [addr_add]; exact World.cell?_alloc_at _ _ _ _ (by simp)
  | (n + 2), hj => simp at hj
theorem flat_snoc (L : List (Int × Int)) (x : Int × Int) : flatC 2 L.length (bC L) ++ [Value.int .i64 x.1, Value.int .i64 x.2] = flatC 2 (L ++ [x]).length (bC (L ++ [x])) := by
  have h := flatC_snoc (m := 2) (n := L.length) (c := bC L) (r := rowB x.1 x.2)
  have e : (List.range 2).map (rowB x.1 x.2) = [Value.int .i64 x.1, Value.int .i64 x.2] := rfl
  rw [e] at h
  rw [← h, List.length_append, List.length_singleton]
  unfold flatC
  refine List.map_congr_left fun q hq => ?_
  have hq' : q < (L.length + 1) * 2 := List.mem_range.1 hq
  unfold updC bC rowB bF bL
  by_cases hi : q / 2 = L.length
  · simp [hi, List.getD]
  · simp only [if_neg hi, List.getD, List.getElem?_append_left (show q / 2 < L.length by omega)]

set_option maxRecDepth 100000 in
set_option maxHeartbeats 4000000 in
theorem implFreeBands_c (va : Value) (xs : List Int) (th wd : Int) (w : World) (hx : RdI w va xs) :
    Calls Try.prog 37 #[va, .int .i64 th, .int .i64 wd] w (Ret w fun v w' => OwnBand w' w.heap.size v (frV xs th wd)) := by
  obtain ⟨a, ca, rfl, ma⟩ := hx.form
  have HX := Lib.hid hx
  clear hx
  refine (callsIn_wide (n := 6)).1 ?_
  refine callsIn_of_wp_marks Try.func37 rfl trivial ?_ rfl
  simp only [Try.ntmps37, List.size_toArray, List.length_cons, List.length_nil, Nat.reduceAdd, Nat.reduceSub, Array.replicate_succ, Array.replicate_zero, List.push_toArray, List.append_toArray, List.nil_append, List.cons_append]
  by_cases hl : 64 < xs.length
  · gi_wp2
    refine ⟨_, results_tmp rfl _ _ _, Ret.mk1 ?_ (by go_grown)⟩
    rw [show frV xs th wd = [] by simp [frV, show ¬ xs.length ≤ 64 by omega]]
    exact OwnM.nil 2 _ _ _ _
  cases hin : inB wd 1 64
  · have hin2 := inB_false.1 hin
    rcases Int.lt_or_le wd 1 with h1 | h1
    all_goals
      gi_wp2
      refine ⟨_, results_tmp rfl _ _ _, Ret.mk1 ?_ (by go_grown)⟩
      rw [show frV xs th wd = [] by simp [frV, hin]]
      exact OwnM.nil 2 _ _ _ _
  obtain ⟨wd1, wd2⟩ := inB_true.1 hin
  gi_wp2_with (refine ⟨trivial, ?_⟩; gi_at_call 60; refine (quiet_in _ _ _ _ _ _).mono ?_; rintro e w' ⟨rfl, rfl⟩)
  have bW := (((Boxed.new w 3 (.int .i64 wd)).alloc (.cells #[.slice none 0 0] 43)).alloc (.cells #[.slice a xs.length ca] 23)).alloc (.cells #[.int .i64 th] 3)
  have bO := ((Boxed.new (w.alloc (.cells #[.int .i64 wd] 3)) 43 (.slice none 0 0)).alloc (.cells #[.slice a xs.length ca] 23)).alloc (.cells #[.int .i64 th] 3)
  have bS := (Boxed.new ((w.alloc (.cells #[.int .i64 wd] 3)).alloc (.cells #[.slice none 0 0] 43)) 23 (.slice a xs.length ca)).alloc (.cells #[.int .i64 th] 3)
  have bT := Boxed.new (((w.alloc (.cells #[.int .i64 wd] 3)).alloc (.cells #[.slice none 0 0] 43)).alloc (.cells #[.slice a xs.length ca] 23)) 3 (.int .i64 th)
  have hB0 : Below w.heap.size w ((((w.alloc (.cells #[.int .i64 wd] 3)).alloc (.cells #[.slice none 0 0] 43)).alloc (.cells #[.slice a xs.length ca] 23)).alloc (.cells #[.int .i64 th] 3)) := ((((Below.refl _ w).alloc (Nat.le_refl _) _).alloc (by simp) _).alloc (by simp; omega) _).alloc (by simp; omega) _
  have hsz : ((((w.alloc (.cells #[.int .i64 wd] 3)).alloc (.cells #[.slice none 0 0] 43)).alloc (.cells #[.slice a xs.length ca] 23)).alloc (.cells #[.int .i64 th] 3)).heap.size = w.heap.size + 4 := by simp
  simp only [World.size_alloc, Nat.add_assoc, Nat.reduceAdd] at bW bO bS bT ⊢
  obtain ⟨W0, hW0⟩ : ∃ W0, (((w.alloc (.cells #[.int .i64 wd] 3)).alloc (.cells #[.slice none 0 0] 43)).alloc (.cells #[.slice a xs.length ca] 23)).alloc (.cells #[.int .i64 th] 3) = W0 := ⟨_, rfl⟩
  rw [hW0] at bW bO bS bT hB0 hsz ⊢
  clear hW0
  obtain ⟨i0, hi, hz0, hz1, hz2⟩ := info_parts info_band
  refine wpIn_rangeFunc_ownH rfl (by decide) (gf := 65) (lb := #[.pointer (some ⟨w.heap.size + 2, 0, none⟩), .pointer (some ⟨w.heap.size + 3, 0, none⟩)]) rfl trivial (enters_of Try.func65 (by kernel_rfl) rfl)
    (quiet_stops _ (by decide) (w.heap.size + 2) (w.heap.size + 3) w W0 (.slice a xs.length ca) xs th HX.out (by omega) (by omega) (by omega) hB0 bS bT) (fun h k => h.trans k) (fun W l o o' hl ho hc1 hc2 => ⟨belowK_b (by omega) W l o o' hl ho hc1 hc2, World.putObj_heap_other (by omega), World.putObj_heap_other (by omega)⟩) (Below.refl _ _) (fun _ => rfl)
    (fun (pre : List (Int × Int)) W => ((∃ v, Boxed W (w.heap.size + 1) 43 v ∧ W.ownsRow w.heap.size 47 2 v (pre.filter (wideW wd)).length (flatC 2 (pre.filter (wideW wd)).length (bC (pre.filter (wideW wd)))) ∧ True) ∧ (Boxed W w.heap.size 3 (.int .i64 wd) ∧ Boxed W (w.heap.size + 2) 23 (.slice a xs.length ca) ∧ Boxed W (w.heap.size + 3) 3 (.int .i64 th))) ∧ Below w.heap.size w W)
    (fun _ _ _ => False)
    (OwnFrom.and (OwnFrom.and (Own.from (holdsRow_own w.heap.size (w.heap.size + 1) 43 47 2 (fun (pre : List (Int × Int)) => (pre.filter (wideW wd)).length) (fun (pre : List (Int × Int)) => flatC 2 (pre.filter (wideW wd)).length (bC (pre.filter (wideW wd)))) (fun _ _ => True)) _) (OwnFrom.and (Own.from (boxed_own _ _ _) _) (OwnFrom.and (Own.from (boxed_own _ _ _) _) (Own.from (boxed_own _ _ _) _)))) (ownFrom_below (Nat.le_refl _) (by omega)))
    (fun _ _ _ _ _ hs _ _ => hs)
    ⟨⟨⟨_, bO, World.ownsRow_nil _ _ _ _, trivial⟩, bW, bS, bT⟩, hB0⟩
    (fun x a' W => ∃ Bx, w.heap.size + 3 < Bx ∧ W.heap[Bx]? = some (.cells #[.int .i64 x.1, .int .i64 x.2] 47 (0, 0)) ∧ a' = { tmps := #[Value.slice a xs.length ca, Value.int IntKind.i64 th, Value.int IntKind.i64 wd, undef, undef, Value.pointer (some ⟨w.heap.size, 0, none⟩), Value.slice none 0 0, Value.pointer (some ⟨w.heap.size + 1, 0, none⟩), .pointer (some ⟨Bx, 0, none⟩), Value.slice a xs.length ca, Value.int IntKind.i64 ↑xs.length, Value.bool (decide (64 < (xs.length : Int))), Value.bool (decide (64 < (xs.length : Int))), Value.int IntKind.i64 wd, Value.bool (decide (wd < 1)), Value.bool (decide (64 < (xs.length : Int)) || decide (wd < 1)), Value.bool (decide (64 < (xs.length : Int)) || decide (wd < 1)), Value.int IntKind.i64 wd, Value.bool (decide (64 < wd)), Value.bool (decide (64 < (xs.length : Int)) || decide (wd < 1) || decide (64 < wd)), Value.slice a xs.length ca, Value.int IntKind.i64 th, .func (.func 65) #[] #[.pointer (some ⟨w.heap.size + 2, 0, none⟩), .pointer (some ⟨w.heap.size + 3, 0, none⟩)], .agg #[.int .i64 x.1, .int .i64 x.2], undef, undef, undef, undef, undef, undef, undef, undef, undef], defers := [] })
    (fun x a' _ X Y row hs hg hr => by
      obtain ⟨Bx, h1, h2, h3⟩ := hs
      refine ⟨Bx, h1, (hg.block Bx (blk_lt h2) fun e => ?_).trans h2, h3⟩
      obtain ⟨-, o, ho, hc⟩ := hr Bx e.symm
      rw [h2] at ho; cases ho; cases hc)
    ?assign ?body ?done ?stop
  case assign =>
    rintro l pre x W K ⟨⟨⟨v1, bO1, hr1, -⟩, bW1, bS1, bT1⟩, hB1⟩ hK
    dsimp only [encB]
    gi_wp2
    exact hK _ _ ((KeepsOthers.alloc _ _).from _) ⟨(Below.refl _ W).alloc hB1.size _, Below.heap_alloc W _ _ bS1.lt, Below.heap_alloc W _ _ bT1.lt⟩ ⟨⟨⟨_, bO1.alloc _, hr1.alloc _, trivial⟩, bW1.alloc _, bS1.alloc _, bT1.alloc _⟩, hB1.alloc hB1.size _⟩ ⟨W.heap.size, bT1.lt, World.alloc_heap_new W _, rfl⟩
  case body =>
    rintro l pre x a' W hl2 ⟨r, hr⟩ ⟨⟨⟨v1, bO1, hr1, -⟩, bW1, bS1, bT1⟩, hB1⟩ ⟨Bx, hBx, bX, rfl⟩ hlt
    have hcx0 := blk_cell bX 0
    have hcx1 := blk_cell bX 1
    have hcO := bO1.cell
    have hcW := bW1.cell
    have hmx : Try.prog.follows .mixedOrders = true := by kernel_rfl
    gi_wp2
    gi_region_with_o (refine ⟨trivial, ?_⟩; gi_at_call 61; refine (CallsIn.inRound l (callsIn_wide.2 (sizeW_c x.1 x.2 _))).mono ?_; rintro e w' ⟨v, rfl, rfl, hbz⟩; have hcW' := (hbz.cell (p := ⟨w.heap.size, 0, none⟩) bW1.lt).trans hcW; have bO2 : Boxed w' (w.heap.size + 1) 43 v1 := (hbz.block _ bO1.lt).trans bO1; have bS2 : Boxed w' (w.heap.size + 2) 23 (.slice a xs.length ca) := (hbz.block _ bS1.lt).trans bS1; have bT2 : Boxed w' (w.heap.size + 3) 3 (.int .i64 th) := (hbz.block _ bT1.lt).trans bT1; have bW2 : Boxed w' w.heap.size 3 (.int .i64 wd) := (hbz.block _ bW1.lt).trans bW1; have bX2 : w'.heap[Bx]? = some (.cells #[.int .i64 x.1, .int .i64 x.2] 47 (0, 0)) := (hbz.block _ (blk_lt bX)).trans bX; have hr2 : OwnM 2 w' w.heap.size 47 v1 _ _ := OwnM.keep hr1 (fun g e hlt => hbz.block g hlt); have hB2 : Below W.heap.size W w' := ⟨hbz.os, hbz.tape, hbz.output, hbz.size, hbz.block⟩)
    all_goals
      have d0 := blk_cell bX2 0
      have d1 := blk_cell bX2 1
      have dO := bO2.cell
      have hBn := hB2.mono hB1.size
      have hsz2 := Nat.le_trans hB1.size hB2.size
      have hko : KeepsOthers W w' := KeepsOthers.of_grownBy (grown_of_below hB2 none) (fun j o e _ => by cases e)
      have hpl : (pre.filter (wideW wd)).length ≤ pre.length := List.length_filter_le _ _
      gi_wp2_with (gi_at_builtin; refine wpListIn_append_own _ rfl _ _ 43 rfl w.heap.size 47 i0 (.agg #[.int .i64 0, .int .i64 0]) 2 16 Try.underlying43 hi hz0 hz1 hz2 rfl (by decide) _ _ _ rfl (OwnM.alloc hr2 _) ⟨w'.heap.size, 0, none⟩ 1 1 [.int .i64 x.1, .int .i64 x.2] rfl rfl (cell_two_new _ _ _ _) (by simp [Value.oneCell']) (by unfold maxLen; omega) (by omega) (by simp; omega) ?_; intro v' w1 hown' hgrow _; obtain ⟨g', cap', rfl⟩ := ownsRow_succ hown'; obtain ⟨hv1, hv2, hr3, hk2, hb2⟩ := bO2.appended (by decide) hr2 hsz2 (by omega) hown' hgrow; have hc1 := hv1.cell; have hf1 := hv1.frozen; have bS3 := ((bS2.alloc _).kept hgrow (bS2.not_row (by decide) hr2)).other (show w.heap.size + 2 ≠ w.heap.size + 1 by omega) (.slice (some ⟨g', 0, none⟩) ((pre.filter (wideW wd)).length + 1) cap'); have bT3 := ((bT2.alloc _).kept hgrow (bT2.not_row (by decide) hr2)).other (show w.heap.size + 3 ≠ w.heap.size + 1 by omega) (.slice (some ⟨g', 0, none⟩) ((pre.filter (wideW wd)).length + 1) cap'); have bW3 := ((bW2.alloc _).kept hgrow (bW2.not_row (by decide) hr2)).other (show w.heap.size ≠ w.heap.size + 1 by omega) (.slice (some ⟨g', 0, none⟩) ((pre.filter (wideW wd)).length + 1) cap'))
    all_goals first
      | (have hx : wd ≤ wrap64 (wrap64 (x.2 - x.1) + 1) := by assumption
         have hw : wideW wd x = true := decide_eq_true hx
         exact ⟨(hko.trans hk2).from _, ⟨hBn.trans hb2, bS3.trans bS1.symm, bT3.trans bT1.symm⟩, ⟨⟨_, hv2, by rw [fl_hit hw]; rw [← flat_snoc, List.length_append]; exact hr3, trivial⟩, bW3, bS3, bT3⟩, hB1.trans (hBn.trans hb2)⟩)
      | (have hx : wrap64 (wrap64 (x.2 - x.1) + 1) < wd := by assumption
         have hw : wideW wd x = false := decide_eq_false (by omega)
         exact ⟨hko.from _, ⟨hBn, bS2.trans bS1.symm, bT2.trans bT1.symm⟩, ⟨⟨_, bO2, by rw [fl_miss hw]; exact hr2, trivial⟩, bW2, bS2, bT2⟩, hB1.trans hBn⟩)
  case done =>
    rintro D ys W hD rfl ⟨⟨⟨v1, bO1, hr1, -⟩, bW1, bS1, bT1⟩, hB1⟩ hK
    have hcO := bO1.cell
    gi_wp2
    refine ⟨by simp, .inl ⟨_, _, rfl, run_takeDeferred hK, ?_⟩⟩
    refine ⟨_, results_tmp rfl _ _ _, Ret.mk1 ?_ (hB1.trans (belowK_b (w := w) (Nat.le_refl _) W D _ _ (by omega) hK rfl rfl))⟩
    show World.ownsRow _ _ _ _ _ _ _
    rw [frV_ok (by omega) hin]
    exact ownsRow_putObj hr1 _ hK rfl
  case stop =>
    rintro D c pre W _ _ h _
    exact h.elim
end Go.Proofs.Ytoilofcpijgaiaa
