import Derived.Test.YtdfinlpfkmmpkaaProg
import Derived.Test.YtdfinlpfkmmpkaaHeap
namespace Go.Proofs.Ytdfinlpfkmmpkaa
open Go.RowKit

variable {row : Option Nat} {w0 w w' : World} {I : List Part}
def encS (p : Int × Int × Int × Int) (j : Nat) : Value := if j = 0 then .int .i64 p.1 else if j = 1 then .int .i64 p.2.1 else if j = 2 then .int .i64 p.2.2.1 else .int .i64 p.2.2.2
def keyS (p : Int × Int × Int × Int) : Int := p.1
def aggS (p : Int × Int × Int × Int) : Value := .agg #[.int .i64 p.1, .int .i64 p.2.1, .int .i64 p.2.2.1, .int .i64 p.2.2.2]
theorem viaSLen (a : Addr) (w : World) : (method 197 65 (.pointer (some a)) "Len").run Try.prog w = ((loadVar 62 a) >>= fun v => pure (85, v)).run Try.prog w := by kernel_rfl
theorem viaSLess (a : Addr) (w : World) : (method 197 65 (.pointer (some a)) "Less").run Try.prog w = ((loadVar 62 a) >>= fun v => pure (86, v)).run Try.prog w := by kernel_rfl
theorem viaSSwap (a : Addr) (w : World) : (method 197 65 (.pointer (some a)) "Swap").run Try.prog w = ((loadVar 62 a) >>= fun v => pure (87, v)).run Try.prog w := by kernel_rfl
theorem loadS {w : World} {B : Nat} {v : Value} (h : w.cell? ⟨B, 0, none⟩ = some v) : (loadVar 62 ⟨B, 0, none⟩).run Try.prog w = .ok v w := by
  simp [loadVar, isAgg, go_sem, Try.underlying62, h]
theorem findSLen {w : World} {B : Nat} {v : Value} (h : w.cell? ⟨B, 0, none⟩ = some v) : (method 197 65 (.pointer (some ⟨B, 0, none⟩)) "Len").run Try.prog w = .ok (85, v) w := by
  rw [viaSLen]; simp [loadVar, isAgg, go_sem, Try.underlying62, h]
theorem findSLess {w : World} {B : Nat} {v : Value} (h : w.cell? ⟨B, 0, none⟩ = some v) : (method 197 65 (.pointer (some ⟨B, 0, none⟩)) "Less").run Try.prog w = .ok (86, v) w := by
  rw [viaSLess]; simp [loadVar, isAgg, go_sem, Try.underlying62, h]
theorem findSSwap {w : World} {B : Nat} {v : Value} (h : w.cell? ⟨B, 0, none⟩ = some v) : (method 197 65 (.pointer (some ⟨B, 0, none⟩)) "Swap").run Try.prog w = .ok (87, v) w := by
  rw [viaSSwap]; simp [loadVar, isAgg, go_sem, Try.underlying62, h]
theorem findSPush (a : Addr) (w : World) : (method 197 65 (.pointer (some a)) "Push").run Try.prog w = .ok (89, .pointer (some a)) w := by kernel_rfl
theorem findSPop (a : Addr) (w : World) : (method 197 65 (.pointer (some a)) "Pop").run Try.prog w = .ok (88, .pointer (some a)) w := by kernel_rfl
theorem lenS (v : Value) (n : Nat) (c : Nat → Nat → Value) (w : World) (h : RdM 4 w v n c) :
    Calls Try.prog 85 #[v] w (RetQ w (.int .i64 n)) := by
  obtain ⟨a, ca, rfl, ma⟩ := h.form
  clear h
  go_enter Try.func85, Try.ntmps85
  go_wp2
  go_ret
  exact RetQ.mkS rfl (SameW.refl _)
theorem lessS (v : Value) (xs : List (Int × Int × Int × Int)) (n i j : Nat) (w : World) (h : RdM 4 w v n (hcC encS xs)) (hi : i < n) (hj : j < n) :
    Calls Try.prog 86 #[v, .int .i64 i, .int .i64 j] w (RetQ w (.bool (decide (keyK keyS xs i < keyK keyS xs j)))) := by
  obtain ⟨a, ca, rfl, ma⟩ := h.form
  obtain ⟨b, off, rfl, h1⟩ := h.at_ hi
  obtain ⟨b', off', he, h2⟩ := h.at_ hj
  simp only [Option.some.injEq, Addr.mk.injEq, and_true] at he
  obtain ⟨rfl, rfl⟩ := he
  have c1 : w.cell? ⟨b, off + i * 4, none⟩ = some (.int .i64 (keyK keyS xs i)) := h1 0 (by decide)
  have c2 : w.cell? ⟨b, off + j * 4, none⟩ = some (.int .i64 (keyK keyS xs j)) := h2 0 (by decide)
  have i0 : (0 : Int) ≤ (i : Int) := by omega
  have i1 : (i : Int) < (n : Int) := by omega
  have j0 : (0 : Int) ≤ (j : Int) := by omega
  have j1 : (j : Int) < (n : Int) := by omega
  clear h h1 h2
  go_enter Try.func86, Try.ntmps86
  go_wp2
  go_quiet (fail)
  go_wp2
  go_ret
  exact RetQ.mkS rfl ⟨nq, rfl⟩
set_option maxHeartbeats 4000000 in
theorem swapS (v : Value) (xs : List (Int × Int × Int × Int)) (n i j : Nat) (w : World) (hs : SH row w0 w (ownMP 4 64 v n (hcC encS xs) :: I)) (hn : xs.length = n) (hi : i < n) (hj : j < n) :
    Calls Try.prog 87 #[v, .int .i64 i, .int .i64 j] w (fun e w' => e = .returned (.tuple #[]) ∧ SH row w0 w' (ownMP 4 64 v n (hcC encS (swL xs i j)) :: I)) := by
  have h : OwnM 4 w 0 _ v _ _ := hs.p0
  obtain ⟨a, ca, rfl, ma⟩ := h.rd.form
  obtain ⟨b, rfl, -, h1, f1⟩ := h.at_ hi
  obtain ⟨b', he, -, h2, f2⟩ := h.at_ hj
  simp only [Option.some.injEq, Addr.mk.injEq, and_true] at he
  subst he
  have c0 : w.cell? ⟨b, i * 4, none⟩ = some (.int .i64 (ht xs i).1) := h1 0 (by decide)
  have d0 : w.cell? ⟨b, j * 4, none⟩ = some (.int .i64 (ht xs j).1) := h2 0 (by decide)
  have c1 : w.cell? ⟨b, i * 4 + 1, none⟩ = some (.int .i64 (ht xs i).2.1) := h1 1 (by decide)
  have d1 : w.cell? ⟨b, j * 4 + 1, none⟩ = some (.int .i64 (ht xs j).2.1) := h2 1 (by decide)
  have c2 : w.cell? ⟨b, i * 4 + 2, none⟩ = some (.int .i64 (ht xs i).2.2.1) := h1 2 (by decide)
  have d2 : w.cell? ⟨b, j * 4 + 2, none⟩ = some (.int .i64 (ht xs j).2.2.1) := h2 2 (by decide)
  have c3 : w.cell? ⟨b, i * 4 + 3, none⟩ = some (.int .i64 (ht xs i).2.2.2) := h1 3 (by decide)
  have d3 : w.cell? ⟨b, j * 4 + 3, none⟩ = some (.int .i64 (ht xs j).2.2.2) := h2 3 (by decide)
  have i0 : (0 : Int) ≤ (i : Int) := by omega
  have i1 : (i : Int) < (n : Int) := by omega
  have j0 : (0 : Int) ≤ (j : Int) := by omega
  have j1 : (j : Int) < (n : Int) := by omega
  have fi0 := f1 (i * 4)
  have fj0 := f1 (j * 4)
  have fi1 := f1 (i * 4 + 1)
  have fj1 := f1 (j * 4 + 1)
  have fi2 := f1 (i * 4 + 2)
  have fj2 := f1 (j * 4 + 2)
  have fi3 := f1 (i * 4 + 3)
  have fj3 := f1 (j * 4 + 3)
  have HS := Lib.hid hs
  clear h h1 h2 hs
  obtain ⟨u00, e00⟩ := cell?_setCell_some (w := w) (p := ⟨b, i * 4, none⟩) (x := .int .i64 (ht xs j).1) (q := ⟨b, j * 4, none⟩) d0
  obtain ⟨u10, e10⟩ := cell?_setCell_some (w := w) (p := ⟨b, i * 4, none⟩) (x := .int .i64 (ht xs j).1) (q := ⟨b, j * 4 + 1, none⟩) d1
  obtain ⟨u11, e11⟩ := cell?_setCell_some (w := (w.setCell ⟨b, i * 4, none⟩ (.int .i64 (ht xs j).1))) (p := ⟨b, i * 4 + 1, none⟩) (x := .int .i64 (ht xs j).2.1) (q := ⟨b, j * 4 + 1, none⟩) e10
  obtain ⟨u20, e20⟩ := cell?_setCell_some (w := w) (p := ⟨b, i * 4, none⟩) (x := .int .i64 (ht xs j).1) (q := ⟨b, j * 4 + 2, none⟩) d2
  obtain ⟨u21, e21⟩ := cell?_setCell_some (w := (w.setCell ⟨b, i * 4, none⟩ (.int .i64 (ht xs j).1))) (p := ⟨b, i * 4 + 1, none⟩) (x := .int .i64 (ht xs j).2.1) (q := ⟨b, j * 4 + 2, none⟩) e20
  obtain ⟨u22, e22⟩ := cell?_setCell_some (w := ((w.setCell ⟨b, i * 4, none⟩ (.int .i64 (ht xs j).1)).setCell ⟨b, i * 4 + 1, none⟩ (.int .i64 (ht xs j).2.1))) (p := ⟨b, i * 4 + 2, none⟩) (x := .int .i64 (ht xs j).2.2.1) (q := ⟨b, j * 4 + 2, none⟩) e21
  obtain ⟨u30, e30⟩ := cell?_setCell_some (w := w) (p := ⟨b, i * 4, none⟩) (x := .int .i64 (ht xs j).1) (q := ⟨b, j * 4 + 3, none⟩) d3
  obtain ⟨u31, e31⟩ := cell?_setCell_some (w := (w.setCell ⟨b, i * 4, none⟩ (.int .i64 (ht xs j).1))) (p := ⟨b, i * 4 + 1, none⟩) (x := .int .i64 (ht xs j).2.1) (q := ⟨b, j * 4 + 3, none⟩) e30
  obtain ⟨u32, e32⟩ := cell?_setCell_some (w := ((w.setCell ⟨b, i * 4, none⟩ (.int .i64 (ht xs j).1)).setCell ⟨b, i * 4 + 1, none⟩ (.int .i64 (ht xs j).2.1))) (p := ⟨b, i * 4 + 2, none⟩) (x := .int .i64 (ht xs j).2.2.1) (q := ⟨b, j * 4 + 3, none⟩) e31
  obtain ⟨u33, e33⟩ := cell?_setCell_some (w := (((w.setCell ⟨b, i * 4, none⟩ (.int .i64 (ht xs j).1)).setCell ⟨b, i * 4 + 1, none⟩ (.int .i64 (ht xs j).2.1)).setCell ⟨b, i * 4 + 2, none⟩ (.int .i64 (ht xs j).2.2.1))) (p := ⟨b, i * 4 + 3, none⟩) (x := .int .i64 (ht xs j).2.2.2) (q := ⟨b, j * 4 + 3, none⟩) e32
  go_enter Try.func87, Try.ntmps87
  go_wp2
  go_region
  all_goals (try go_wp2)
  all_goals go_end0
  all_goals refine ⟨rfl, SH.congrM (SH.drew (((((((((HS.out).setOwnM (i := i) (j := 0) (by omega) (by decide) (.int .i64 (ht xs j).1)).setOwnM (i := i) (j := 1) (by omega) (by decide) (.int .i64 (ht xs j).2.1)).setOwnM (i := i) (j := 2) (by omega) (by decide) (.int .i64 (ht xs j).2.2.1)).setOwnM (i := i) (j := 3) (by omega) (by decide) (.int .i64 (ht xs j).2.2.2)).setOwnM (i := j) (j := 0) (by omega) (by decide) (.int .i64 (ht xs i).1)).setOwnM (i := j) (j := 1) (by omega) (by decide) (.int .i64 (ht xs i).2.1)).setOwnM (i := j) (j := 2) (by omega) (by decide) (.int .i64 (ht xs i).2.2.1)).setOwnM (i := j) (j := 3) (by omega) (by decide) (.int .i64 (ht xs i).2.2.2))) (fun i2 j2 hi2 hj2 => ?_)⟩
  all_goals
    have hsw := ht_sw (xs := xs) (i := i) (j := j) (m := i2) (by omega) (by omega)
    simp only [hcC, hsw, updC, encS]
    have hj3 : j2 = 0 ∨ j2 = 1 ∨ j2 = 2 ∨ j2 = 3 := by omega
    by_cases q1 : i2 = j
    · subst q1
      by_cases q2 : i2 = i
      · subst q2
        rcases hj3 with rfl | rfl | rfl | rfl <;> simp
      · rcases hj3 with rfl | rfl | rfl | rfl <;> simp [q2]
    · by_cases q2 : i2 = i
      · subst q2
        rcases hj3 with rfl | rfl | rfl | rfl <;> simp [q1]
      · rcases hj3 with rfl | rfl | rfl | rfl <;> simp [q1, q2]
theorem infS : (Try.prog.info? 64).map (fun i => (i.zero, i.size, i.bytes)) = some (some (.agg #[.int .i64 0, .int .i64 0, .int .i64 0, .int .i64 0]), 4, 32) := by kernel_rfl
theorem oneES (x : Int × Int × Int × Int) (j : Nat) : (encS x j).oneCell' = true := by unfold encS; repeat' (first | rfl | split)
theorem assertS (x : Int × Int × Int × Int) (w : World) : (Instr.typeAssert (.iface 64 (.agg #[.int .i64 x.1, .int .i64 x.2.1, .int .i64 x.2.2.1, .int .i64 x.2.2.2])) 20 64 false).run Try.prog w = .ok (.agg #[.int .i64 x.1, .int .i64 x.2.1, .int .i64 x.2.2.1, .int .i64 x.2.2.2]) w := by kernel_rfl
theorem hcS_snoc (xs : List (Int × Int × Int × Int)) (x : Int × Int × Int × Int) (n i j : Nat) (hn : xs.length = n) (hi : i < n + 1) : updC (hcC encS xs) n (encS x) i j = hcC encS (xs ++ [x]) i j := by
  unfold updC hcC
  rw [ht_appL (by omega), hn]
  split <;> rfl
set_option maxHeartbeats 4000000 in
theorem pushMS (B : Nat) (v : Value) (xs : List (Int × Int × Int × Int)) (n : Nat) (x : Int × Int × Int × Int) (w : World) (hs : SH row w0 w (blkP B #[v] 62 :: ownMP 4 64 v n (hcC encS xs) :: I)) (hn : xs.length = n) (hb : n ≤ 1000000) :
    Calls Try.prog 89 #[.pointer (some ⟨B, 0, none⟩), .iface 64 (aggS x)] w (fun e w' => e = .returned (.tuple #[]) ∧ ∃ v', SH row w0 w' (blkP B #[v'] 62 :: ownMP 4 64 v' (n + 1) (hcC encS (xs ++ [x])) :: I)) := by
  obtain ⟨c0, f0⟩ := blk0 hs.p0
  obtain ⟨a, ca, rfl, ma⟩ := (OwnM.rd hs.p1).form
  have ta := assertS x
  obtain ⟨c1, f1⟩ := blk0 (hs.alloc (.cells #[.int .i64 x.1, .int .i64 x.2.1, .int .i64 x.2.2.1, .int .i64 x.2.2.2] 64)).p0
  unfold aggS
  go_enter Try.func89, Try.ntmps89
  go_wp2
  go_region_law (first | (refine step_app1MS rfl rfl 64 32 4 (.agg #[.int .i64 0, .int .i64 0, .int .i64 0, .int .i64 0]) Try.underlying62 infS rfl (by decide) (encS x) rfl (hs.bring1.drew.alloc _) rfl (fun i hi => by have : i = 0 ∨ i = 1 ∨ i = 2 ∨ i = 3 := (by omega); rcases this with rfl | rfl | rfl | rfl <;> exact World.cell?_alloc_at _ _ _ _ rfl) (fun i hi => oneES x i) (by omega) (by unfold maxLen; omega) ?_; intro v2 w2 hs2; obtain ⟨c2, f2⟩ := blk0 hs2.p1; obtain ⟨a2, k2, rfl, -⟩ := (OwnM.rd hs2.p0).form))
  all_goals (try go_wp2)
  all_goals go_end0
  all_goals
    have hs3 := ((hs2.congrM (c' := hcC encS (xs ++ [x])) (fun i j hi _ => hcS_snoc xs x n i j hn hi)).bring1).setBlk 0 (.slice a2 (n + 1) k2)
    first | exact ⟨rfl, _, hs3⟩ | exact ⟨rfl, _, hs3.drew⟩
set_option maxHeartbeats 4000000 in
theorem popMS (B : Nat) (v : Value) (xs : List (Int × Int × Int × Int)) (n : Nat) (w : World) (hs : SH row w0 w (blkP B #[v] 62 :: ownMP 4 64 v (n + 1) (hcC encS xs) :: I)) (hn : xs.length = n + 1) (hb : n ≤ 1000000) :
    Calls Try.prog 88 #[.pointer (some ⟨B, 0, none⟩)] w (fun e w' => e = .returned (.iface 64 (aggS (ht xs n))) ∧ ∃ v', SH row w0 w' (blkP B #[v'] 62 :: ownMP 4 64 v' n (hcC encS (xs.take n)) :: I)) := by
  obtain ⟨c0, f0⟩ := blk0 hs.p0
  have h : OwnM 4 w 0 _ v _ _ := hs.p1
  obtain ⟨a, ca, rfl, ma⟩ := h.rd.form
  have hcap : n + 1 ≤ ca ∧ ca ≤ maxLen := by
    obtain ⟨a', cap', e', q1, q2, _⟩ := h.rd
    simp only [Value.slice.injEq] at e'
    obtain ⟨-, -, rfl⟩ := e'
    exact ⟨q1, q2⟩
  obtain ⟨hcap, hcm⟩ := hcap
  unfold maxLen at hcm
  obtain ⟨b, rfl, -, h1, -⟩ := h.at_ (i := n) (by omega)
  obtain ⟨k0, g0⟩ := blk0 (hs.alloc (.cells #[.int .i64 0, .int .i64 0, .int .i64 0, .int .i64 0] 64)).p0
  have hk := (OwnM.rd (hs.alloc (.cells #[.int .i64 0, .int .i64 0, .int .i64 0, .int .i64 0] 64)).p1).at_ (i := n) (by omega)
  obtain ⟨b2, o2, he2, hk⟩ := hk
  simp only [Option.some.injEq, Addr.mk.injEq, and_true] at he2
  obtain ⟨rfl, rfl⟩ := he2
  have k1 : (w.alloc (.cells #[.int .i64 0, .int .i64 0, .int .i64 0, .int .i64 0] 64)).cell? ⟨b, n * 4, none⟩ = some (.int .i64 (ht xs n).1) := by have := hk 0 (by decide); rw [Nat.zero_add] at this; exact this
  have k2 : (w.alloc (.cells #[.int .i64 0, .int .i64 0, .int .i64 0, .int .i64 0] 64)).cell? ⟨b, n * 4 + 1, none⟩ = some (.int .i64 (ht xs n).2.1) := by have := hk 1 (by decide); rw [Nat.zero_add] at this; exact this
  have k3 : (w.alloc (.cells #[.int .i64 0, .int .i64 0, .int .i64 0, .int .i64 0] 64)).cell? ⟨b, n * 4 + 2, none⟩ = some (.int .i64 (ht xs n).2.2.1) := by have := hk 2 (by decide); rw [Nat.zero_add] at this; exact this
  have k4 : (w.alloc (.cells #[.int .i64 0, .int .i64 0, .int .i64 0, .int .i64 0] 64)).cell? ⟨b, n * 4 + 3, none⟩ = some (.int .i64 (ht xs n).2.2.2) := by have := hk 3 (by decide); rw [Nat.zero_add] at this; exact this
  clear hk
  have c1 : w.cell? ⟨b, n * 4, none⟩ = some (.int .i64 (ht xs n).1) := h1 0 (by decide)
  have c2 : w.cell? ⟨b, n * 4 + 1, none⟩ = some (.int .i64 (ht xs n).2.1) := h1 1 (by decide)
  have c3 : w.cell? ⟨b, n * 4 + 2, none⟩ = some (.int .i64 (ht xs n).2.2.1) := h1 2 (by decide)
  have c4 : w.cell? ⟨b, n * 4 + 3, none⟩ = some (.int .i64 (ht xs n).2.2.2) := h1 3 (by decide)
  have hw : IntKind.i64.wrap (n : Int) = n := wrap_small (by omega) (by omega)
  have n0 : (0 : Int) ≤ (n : Int) := by omega
  have n1 : (n : Int) < (n : Int) + 1 := by omega
  clear h1 h
  unfold aggS
  go_enter Try.func88, Try.ntmps88
  go_wp2
  go_region
  have hs1 := (hs.allocP #[.int .i64 (ht xs n).1, .int .i64 (ht xs n).2.1, .int .i64 (ht xs n).2.2.1, .int .i64 (ht xs n).2.2.2] 64).drew
  generalize hW : (w.alloc (.cells #[.int .i64 (ht xs n).1, .int .i64 (ht xs n).2.1, .int .i64 (ht xs n).2.2.1, .int .i64 (ht xs n).2.2.2] 64)).drew = W at *
  generalize hG : w.heap.size = G at *
  obtain ⟨c9, f9⟩ := blk0 hs1.p1
  have hGB : ¬ G = B := fun e => ((hs1.apart01) G).1 (rfl : G = G) (show G = B from e)
  have hBG : ¬ B = G := fun e => hGB e.symm
  have hp : W.heap[G]? = some (.cells #[.int .i64 (ht xs n).1, .int .i64 (ht xs n).2.1, .int .i64 (ht xs n).2.2.1, .int .i64 (ht xs n).2.2.2] 64 (0, 0)) := hs1.p0
  have b0 : W.cell? ⟨G, 0, none⟩ = some (.int .i64 (ht xs n).1) := by simp [World.cell?, hp]
  have b1 : W.cell? ⟨G, 1, none⟩ = some (.int .i64 (ht xs n).2.1) := by simp [World.cell?, hp]
  have b2 : W.cell? ⟨G, 2, none⟩ = some (.int .i64 (ht xs n).2.2.1) := by simp [World.cell?, hp]
  have b3 : W.cell? ⟨G, 3, none⟩ = some (.int .i64 (ht xs n).2.2.2) := by simp [World.cell?, hp]
  clear hp c0 f0
  have ca1 : (n : Int) ≤ (ca : Int) := by omega
  have ca2 : ¬ ca = 0 := by omega
  have ca3 : (0 : Int) ≤ (ca : Int) := by omega
  go_wp2
  go_region
  all_goals (try go_wp2)
  all_goals go_ret
  all_goals
    exact ⟨rfl, _, ((((hs1.drop0.bring1.cutM (k := n) (by omega)).congrM (c' := hcC encS (xs.take n)) (fun i j hi _ => by unfold hcC; rw [ht_take hi])).bring1).setBlk 0 (.slice (some ⟨b, 0, none⟩) n ca)).drew⟩

end Go.Proofs.Ytdfinlpfkmmpkaa
