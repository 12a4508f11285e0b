import Derived.Test.YtdfinlpfkmmpkaaDoorProg
import Derived.Test.YtdfinlpfkmmpkaaDoorLib
import Derived.Test.YtdfinlpfkmmpkaaDoorMem
import Derived.Test.YtdfinlpfkmmpkaaDoorNum
import Derived.Test.YtdfinlpfkmmpkaaDoorSym
import Derived.Test.YtdfinlpfkmmpkaaDoorApp
import Derived.Test.YtdfinlpfkmmpkaaDoorBlk
import Derived.Test.YtdfinlpfkmmpkaaDoorHeapPl
import Derived.BigRegion
import Derived.Deep.RegionLaw
import Derived.RegionTactic
namespace Go.Proofs.YtdfinlpfkmmpkaaDoor
open Go.RowKit

/-! container/heap at the program's queues. -/
section
variable {P : Program} {row : Option Nat} {w0 w : World} {I : List Part} {ops : Array Oper} {o : Oper} {a : Act} {Q : Exit → Act → World → Prop}
theorem step_app1MS {K : Act → World → Prop} {E : Prop} (hgd : o.guard = none) {s x : Operand} {t : TypeId}
    (ho : o.op = .call { callee := .builtin .append, args := #[s, x], argTypes := #[t, t] })
    (e bytes m : Nat) (z : Value) (h1 : P.underlying t = some (.slice e)) (hinfo : (P.info? e).map (fun i => (i.zero, i.size, i.bytes)) = some (some z, m, bytes)) (hzm : z.cells.size = m) (hm : 0 < m)
    {v : Value} {n : Nat} {f : Nat → Nat → Value} (r : Nat → Value) (hs : a.eval s = v) (hown : SH row w0 w (ownMP m e v n f :: I))
    {b' : Nat} {c : Nat} (hx : a.eval x = .slice (some ⟨b', 0, none⟩) 1 c) (hcell : ∀ j, j < m → w.cell? ⟨b', j, none⟩ = some (r j)) (h1c : ∀ j, j < m → (r j).oneCell' = true)
    (hbytes : (n + 1) * bytes ≤ 140737488355328) (h63 : n + 1 ≤ maxLen)
    (h : ∀ v' w', SH row w0 w' (ownMP m e v' (n + 1) (updC f n r) :: I) → K (a.put o.dst v') w') :
    if Region.wanted o (yielded ops a.tmps) = true then Oper.wp P o a w K Q else E := by
  have hw : Region.wanted o (yielded ops a.tmps) = true := by simp [Region.wanted, hgd]
  rw [if_pos hw]
  obtain ⟨i, h2, h3, h4, h5⟩ := info_parts hinfo
  have hO : OwnM m w 0 e v n f := hown.p0
  obtain ⟨v', w', r1, r2, r3, -, r5⟩ := run_append_own_at (P := P) (w := w) 0 t o.type e i z m bytes h1 h2 h3 h4 h5 hzm hm v n (flatC m n f) hO ⟨b', 0, none⟩ 1 c ((List.range m).map r) (by simp)
    (fun j u hj => by
      rw [List.getElem?_map] at hj
      rcases Nat.lt_or_ge j m with h | h
      · simp [h] at hj; subst hj
        have e1 : (⟨b', 0, none⟩ : Addr).add j = ⟨b', j, none⟩ := by
          unfold Addr.add; split
          · next e => subst e; rfl
          · simp
        rw [e1]; exact hcell j h
      · simp [h] at hj) (fun u hu => by
      rw [List.mem_map] at hu
      obtain ⟨j, hj, rfl⟩ := hu
      exact h1c j (List.mem_range.1 hj)) h63 hbytes (Nat.zero_le _)
  refine Go.Lib.wp_append_run w s x t t ho _ _ hs hx v' w' r1 (h v' w' ?_)
  have hO' : OwnM m w' 0 e v' (n + 1) (updC f n r) := by unfold OwnM; rw [flatC_snoc]; exact r2
  have hl : ∀ g, v'.ownBlock = some g → v.ownBlock = some g ∨ w.heap.size ≤ g := by
    intro g hg
    rcases r5 with e | e
    · exact .inl (e ▸ hg)
    · rw [e] at hg; right; have := Option.some.inj hg; omega
  exact hown.write (q := ownMP m e v' (n + 1) (updC f n r)) r3 (fun g e => e) hO' hl hl
end
theorem OwnM.cut {m : Nat} {w : World} {base : Nat} {t : TypeId} {a : Option Addr} {n cap : Nat} {c : Nat → Nat → Value} (h : OwnM m w base t (.slice a n cap) n c) {k : Nat} (hk : k ≤ n) : OwnM m w base t (.slice a k cap) k c := by
  obtain ⟨h1, h2⟩ := h
  refine ⟨by rw [flatC_length], ?_⟩
  rcases h2 with ⟨h2, h3⟩ | ⟨g, cp, cur, h2, h3, h4, h5, h6, h7, h8⟩
  · left
    obtain ⟨rfl, rfl, rfl⟩ := Value.slice.inj h2
    obtain rfl : k = 0 := by omega
    exact ⟨rfl, rfl⟩
  · right
    obtain ⟨rfl, -, rfl⟩ := Value.slice.inj h2
    refine ⟨g, cap, cur, rfl, h3, h4, by omega, h6, h7, ?_⟩
    have e : flatC m k c = (flatC m n c).take (k * m) := by
      apply List.ext_getElem?
      intro q
      rw [List.getElem?_take]
      rcases Nat.eq_zero_or_pos m with rfl | hm
      · simp [flatC]
      by_cases hq : q < k * m
      · rw [if_pos hq]
        obtain ⟨i, j, hj, rfl⟩ : ∃ i j, j < m ∧ q = i * m + j := ⟨q / m, q % m, Nat.mod_lt _ hm, by rw [Nat.mul_comm]; exact (Nat.div_add_mod q m).symm⟩
        have hi : i < k := by
          rcases Nat.lt_or_ge i k with h | h
          · exact h
          · have := Nat.mul_le_mul_right m h; omega
        rw [flatC_get hi hj, flatC_get (by omega) hj]
      · rw [if_neg hq, List.getElem?_eq_none (by rw [flatC_length]; omega)]
    rw [e, ← h8, List.take_take]
    congr 1
    have := Nat.mul_le_mul_right m hk
    omega
theorem SH.cutM {row : Option Nat} {w0 w : World} {I : List Part} {m : Nat} {t : TypeId} {a : Option Addr} {n cap k : Nat} {c : Nat → Nat → Value} (h : SH row w0 w (ownMP m t (.slice a n cap) n c :: I)) (hk : k ≤ n) : SH row w0 w (ownMP m t (.slice a k cap) k c :: I) :=
  h.as (q := ownMP m t (.slice a k cap) k c) (OwnM.cut h.p0 hk) (fun _ e => by cases a <;> exact e) (fun _ e => by cases a <;> exact e)

/-- the cells of a list of elements -/
def hcC {α : Type} [Inhabited α] (enc : α → Nat → Value) (xs : List α) : Nat → Nat → Value := fun i j => enc (ht xs i) j
abbrev keyK {α : Type} [Inhabited α] (key : α → Int) (xs : List α) : Nat → Int := fun i => key (ht xs i)
theorem ht_appL {α : Type} [Inhabited α] {xs : List α} {x : α} {i : Nat} (h : i < xs.length + 1) : ht (xs ++ [x]) i = if i = xs.length then x else ht xs i := by
  by_cases e : i = xs.length
  · subst e; rw [if_pos rfl, ht_last]
  · rw [if_neg e, ht_app (by omega)]
variable {row : Option Nat} {w0 w w' : World} {I : List Part}
theorem wrap_small {n : Int} (h0 : -9223372036854775808 ≤ n) (h1 : n ≤ 9223372036854775807) : IntKind.i64.wrap n = n := by
  unfold IntKind.wrap
  simp [IntKind.signed, IntKind.bits]
  omega
theorem blk0 {B : Nat} {v : Value} {t : TypeId} (h : w.heap[B]? = some (.cells #[v] t (0, 0))) : w.cell? ⟨B, 0, none⟩ = some v ∧ w.frozen? ⟨B, 0, none⟩ = false := by
  constructor
  · simp [World.cell?, h]
  · simp [World.frozen?, h]

def encC (p : Int × Int) (j : Nat) : Value := if j = 0 then .int .i64 p.1 else .int .i64 p.2
def keyC (p : Int × Int) : Int := p.2
def aggC (p : Int × Int) : Value := .agg #[.int .i64 p.1, .int .i64 p.2]
theorem viaCLen (a : Addr) (w : World) : (method 196 61 (.pointer (some a)) "Len").run Tryd.prog w = ((loadVar 59 a) >>= fun v => pure (54, v)).run Tryd.prog w := by kernel_rfl
theorem viaCLess (a : Addr) (w : World) : (method 196 61 (.pointer (some a)) "Less").run Tryd.prog w = ((loadVar 59 a) >>= fun v => pure (55, v)).run Tryd.prog w := by kernel_rfl
theorem viaCSwap (a : Addr) (w : World) : (method 196 61 (.pointer (some a)) "Swap").run Tryd.prog w = ((loadVar 59 a) >>= fun v => pure (56, v)).run Tryd.prog w := by kernel_rfl
theorem loadC {w : World} {B : Nat} {v : Value} (h : w.cell? ⟨B, 0, none⟩ = some v) : (loadVar 59 ⟨B, 0, none⟩).run Tryd.prog w = .ok v w := by
  simp [loadVar, isAgg, go_sem, Tryd.underlying59, h]
theorem findCLen {w : World} {B : Nat} {v : Value} (h : w.cell? ⟨B, 0, none⟩ = some v) : (method 196 61 (.pointer (some ⟨B, 0, none⟩)) "Len").run Tryd.prog w = .ok (54, v) w := by
  rw [viaCLen]; simp [loadVar, isAgg, go_sem, Tryd.underlying59, h]
theorem findCLess {w : World} {B : Nat} {v : Value} (h : w.cell? ⟨B, 0, none⟩ = some v) : (method 196 61 (.pointer (some ⟨B, 0, none⟩)) "Less").run Tryd.prog w = .ok (55, v) w := by
  rw [viaCLess]; simp [loadVar, isAgg, go_sem, Tryd.underlying59, h]
theorem findCSwap {w : World} {B : Nat} {v : Value} (h : w.cell? ⟨B, 0, none⟩ = some v) : (method 196 61 (.pointer (some ⟨B, 0, none⟩)) "Swap").run Tryd.prog w = .ok (56, v) w := by
  rw [viaCSwap]; simp [loadVar, isAgg, go_sem, Tryd.underlying59, h]
theorem findCPush (a : Addr) (w : World) : (method 196 61 (.pointer (some a)) "Push").run Tryd.prog w = .ok (58, .pointer (some a)) w := by kernel_rfl
theorem findCPop (a : Addr) (w : World) : (method 196 61 (.pointer (some a)) "Pop").run Tryd.prog w = .ok (57, .pointer (some a)) w := by kernel_rfl
theorem lenC (v : Value) (n : Nat) (c : Nat → Nat → Value) (w : World) (h : RdM 2 w v n c) :
    Calls Tryd.prog 54 #[v] w (RetQ w (.int .i64 n)) := by
  obtain ⟨a, ca, rfl, ma⟩ := h.form
  clear h
  go_enter Tryd.func54, Tryd.ntmps54
  go_wp2
  go_ret
  exact RetQ.mkS rfl (SameW.refl _)
theorem lessC (v : Value) (xs : List (Int × Int)) (n i j : Nat) (w : World) (h : RdM 2 w v n (hcC encC xs)) (hi : i < n) (hj : j < n) :
    Calls Tryd.prog 55 #[v, .int .i64 i, .int .i64 j] w (RetQ w (.bool (decide (keyK keyC xs i < keyK keyC xs j)))) := by
  obtain ⟨a, ca, rfl, ma⟩ := h.form
  obtain ⟨b, off, rfl, h1⟩ := h.at_ hi
  obtain ⟨b', off', he, h2⟩ := h.at_ hj
  simp only [Option.some.injEq, Addr.mk.injEq, and_true] at he
  obtain ⟨rfl, rfl⟩ := he
  have c1 : w.cell? ⟨b, off + i * 2 + 1, none⟩ = some (.int .i64 (keyK keyC xs i)) := h1 1 (by decide)
  have c2 : w.cell? ⟨b, off + j * 2 + 1, none⟩ = some (.int .i64 (keyK keyC xs j)) := h2 1 (by decide)
  have i0 : (0 : Int) ≤ (i : Int) := by omega
  have i1 : (i : Int) < (n : Int) := by omega
  have j0 : (0 : Int) ≤ (j : Int) := by omega
  have j1 : (j : Int) < (n : Int) := by omega
  clear h h1 h2
  go_enter Tryd.func55, Tryd.ntmps55
  go_wp2
  go_quiet (fail)
  go_wp2
  go_ret
  exact RetQ.mkS rfl ⟨nq, rfl⟩
set_option maxHeartbeats 4000000 in
theorem swapC (v : Value) (xs : List (Int × Int)) (n i j : Nat) (w : World) (hs : SH row w0 w (ownMP 2 57 v n (hcC encC xs) :: I)) (hn : xs.length = n) (hi : i < n) (hj : j < n) :
    Calls Tryd.prog 56 #[v, .int .i64 i, .int .i64 j] w (fun e w' => e = .returned (.tuple #[]) ∧ SH row w0 w' (ownMP 2 57 v n (hcC encC (swL xs i j)) :: I)) := by
  have h : OwnM 2 w 0 _ v _ _ := hs.p0
  obtain ⟨a, ca, rfl, ma⟩ := h.rd.form
  obtain ⟨b, rfl, -, h1, f1⟩ := h.at_ hi
  obtain ⟨b', he, -, h2, f2⟩ := h.at_ hj
  simp only [Option.some.injEq, Addr.mk.injEq, and_true] at he
  subst he
  have c0 : w.cell? ⟨b, i * 2, none⟩ = some (.int .i64 (ht xs i).1) := h1 0 (by decide)
  have d0 : w.cell? ⟨b, j * 2, none⟩ = some (.int .i64 (ht xs j).1) := h2 0 (by decide)
  have c1 : w.cell? ⟨b, i * 2 + 1, none⟩ = some (.int .i64 (ht xs i).2) := h1 1 (by decide)
  have d1 : w.cell? ⟨b, j * 2 + 1, none⟩ = some (.int .i64 (ht xs j).2) := h2 1 (by decide)
  have i0 : (0 : Int) ≤ (i : Int) := by omega
  have i1 : (i : Int) < (n : Int) := by omega
  have j0 : (0 : Int) ≤ (j : Int) := by omega
  have j1 : (j : Int) < (n : Int) := by omega
  have fi0 := f1 (i * 2)
  have fj0 := f1 (j * 2)
  have fi1 := f1 (i * 2 + 1)
  have fj1 := f1 (j * 2 + 1)
  have HS := Lib.hid hs
  clear h h1 h2 hs
  obtain ⟨u00, e00⟩ := cell?_setCell_some (w := w) (p := ⟨b, i * 2, none⟩) (x := .int .i64 (ht xs j).1) (q := ⟨b, j * 2, none⟩) d0
  obtain ⟨u10, e10⟩ := cell?_setCell_some (w := w) (p := ⟨b, i * 2, none⟩) (x := .int .i64 (ht xs j).1) (q := ⟨b, j * 2 + 1, none⟩) d1
  obtain ⟨u11, e11⟩ := cell?_setCell_some (w := (w.setCell ⟨b, i * 2, none⟩ (.int .i64 (ht xs j).1))) (p := ⟨b, i * 2 + 1, none⟩) (x := .int .i64 (ht xs j).2) (q := ⟨b, j * 2 + 1, none⟩) e10
  go_enter Tryd.func56, Tryd.ntmps56
  go_wp2
  go_region
  all_goals (try go_wp2)
  all_goals go_end0
  all_goals refine ⟨rfl, SH.congrM (SH.drew (((((HS.out).setOwnM (i := i) (j := 0) (by omega) (by decide) (.int .i64 (ht xs j).1)).setOwnM (i := i) (j := 1) (by omega) (by decide) (.int .i64 (ht xs j).2)).setOwnM (i := j) (j := 0) (by omega) (by decide) (.int .i64 (ht xs i).1)).setOwnM (i := j) (j := 1) (by omega) (by decide) (.int .i64 (ht xs i).2))) (fun i2 j2 hi2 hj2 => ?_)⟩
  all_goals
    have hsw := ht_sw (xs := xs) (i := i) (j := j) (m := i2) (by omega) (by omega)
    simp only [hcC, hsw, updC, encC]
    have hj3 : j2 = 0 ∨ j2 = 1 := by omega
    by_cases q1 : i2 = j
    · subst q1
      by_cases q2 : i2 = i
      · subst q2
        rcases hj3 with rfl | rfl <;> simp
      · rcases hj3 with rfl | rfl <;> simp [q2]
    · by_cases q2 : i2 = i
      · subst q2
        rcases hj3 with rfl | rfl <;> simp [q1]
      · rcases hj3 with rfl | rfl <;> simp [q1, q2]
theorem infC : (Tryd.prog.info? 57).map (fun i => (i.zero, i.size, i.bytes)) = some (some (.agg #[.int .i64 0, .int .i64 0]), 2, 16) := by kernel_rfl
theorem oneEC (x : Int × Int) (j : Nat) : (encC x j).oneCell' = true := by unfold encC; repeat' (first | rfl | split)
theorem assertC (x : Int × Int) (w : World) : (Instr.typeAssert (.iface 57 (.agg #[.int .i64 x.1, .int .i64 x.2])) 20 57 false).run Tryd.prog w = .ok (.agg #[.int .i64 x.1, .int .i64 x.2]) w := by kernel_rfl
theorem hcC_snoc (xs : List (Int × Int)) (x : Int × Int) (n i j : Nat) (hn : xs.length = n) (hi : i < n + 1) : updC (hcC encC xs) n (encC x) i j = hcC encC (xs ++ [x]) i j := by
  unfold updC hcC
  rw [ht_appL (by omega), hn]
  split <;> rfl
set_option maxHeartbeats 4000000 in
theorem pushMC (B : Nat) (v : Value) (xs : List (Int × Int)) (n : Nat) (x : Int × Int) (w : World) (hs : SH row w0 w (blkP B #[v] 59 :: ownMP 2 57 v n (hcC encC xs) :: I)) (hn : xs.length = n) (hb : n ≤ 1000000) :
    Calls Tryd.prog 58 #[.pointer (some ⟨B, 0, none⟩), .iface 57 (aggC x)] w (fun e w' => e = .returned (.tuple #[]) ∧ ∃ v', SH row w0 w' (blkP B #[v'] 59 :: ownMP 2 57 v' (n + 1) (hcC encC (xs ++ [x])) :: I)) := by
  obtain ⟨c0, f0⟩ := blk0 hs.p0
  obtain ⟨a, ca, rfl, ma⟩ := (OwnM.rd hs.p1).form
  have ta := assertC x
  obtain ⟨c1, f1⟩ := blk0 (hs.alloc (.cells #[.int .i64 x.1, .int .i64 x.2] 57)).p0
  unfold aggC
  go_enter Tryd.func58, Tryd.ntmps58
  go_wp2
  go_region_law (first | (refine step_app1MS rfl rfl 57 16 2 (.agg #[.int .i64 0, .int .i64 0]) Tryd.underlying59 infC rfl (by decide) (encC x) rfl (hs.bring1.drew.alloc _) rfl (fun i hi => by have : i = 0 ∨ i = 1 := (by omega); rcases this with rfl | rfl <;> exact World.cell?_alloc_at _ _ _ _ rfl) (fun i hi => oneEC x i) (by omega) (by unfold maxLen; omega) ?_; intro v2 w2 hs2; obtain ⟨c2, f2⟩ := blk0 hs2.p1; obtain ⟨a2, k2, rfl, -⟩ := (OwnM.rd hs2.p0).form))
  all_goals (try go_wp2)
  all_goals go_end0
  all_goals
    have hs3 := ((hs2.congrM (c' := hcC encC (xs ++ [x])) (fun i j hi _ => hcC_snoc xs x n i j hn hi)).bring1).setBlk 0 (.slice a2 (n + 1) k2)
    first | exact ⟨rfl, _, hs3⟩ | exact ⟨rfl, _, hs3.drew⟩
set_option maxHeartbeats 4000000 in
theorem popMC (B : Nat) (v : Value) (xs : List (Int × Int)) (n : Nat) (w : World) (hs : SH row w0 w (blkP B #[v] 59 :: ownMP 2 57 v (n + 1) (hcC encC xs) :: I)) (hn : xs.length = n + 1) (hb : n ≤ 1000000) :
    Calls Tryd.prog 57 #[.pointer (some ⟨B, 0, none⟩)] w (fun e w' => e = .returned (.iface 57 (aggC (ht xs n))) ∧ ∃ v', SH row w0 w' (blkP B #[v'] 59 :: ownMP 2 57 v' n (hcC encC (xs.take n)) :: I)) := by
  obtain ⟨c0, f0⟩ := blk0 hs.p0
  have h : OwnM 2 w 0 _ v _ _ := hs.p1
  obtain ⟨a, ca, rfl, ma⟩ := h.rd.form
  have hcap : n + 1 ≤ ca ∧ ca ≤ maxLen := by
    obtain ⟨a', cap', e', q1, q2, _⟩ := h.rd
    simp only [Value.slice.injEq] at e'
    obtain ⟨-, -, rfl⟩ := e'
    exact ⟨q1, q2⟩
  obtain ⟨hcap, hcm⟩ := hcap
  unfold maxLen at hcm
  obtain ⟨b, rfl, -, h1, -⟩ := h.at_ (i := n) (by omega)
  obtain ⟨k0, g0⟩ := blk0 (hs.alloc (.cells #[.int .i64 0, .int .i64 0] 57)).p0
  have hk := (OwnM.rd (hs.alloc (.cells #[.int .i64 0, .int .i64 0] 57)).p1).at_ (i := n) (by omega)
  obtain ⟨b2, o2, he2, hk⟩ := hk
  simp only [Option.some.injEq, Addr.mk.injEq, and_true] at he2
  obtain ⟨rfl, rfl⟩ := he2
  have k1 : (w.alloc (.cells #[.int .i64 0, .int .i64 0] 57)).cell? ⟨b, n * 2, none⟩ = some (.int .i64 (ht xs n).1) := by have := hk 0 (by decide); rw [Nat.zero_add] at this; exact this
  have k2 : (w.alloc (.cells #[.int .i64 0, .int .i64 0] 57)).cell? ⟨b, n * 2 + 1, none⟩ = some (.int .i64 (ht xs n).2) := by have := hk 1 (by decide); rw [Nat.zero_add] at this; exact this
  clear hk
  have c1 : w.cell? ⟨b, n * 2, none⟩ = some (.int .i64 (ht xs n).1) := h1 0 (by decide)
  have c2 : w.cell? ⟨b, n * 2 + 1, none⟩ = some (.int .i64 (ht xs n).2) := h1 1 (by decide)
  have hw : IntKind.i64.wrap (n : Int) = n := wrap_small (by omega) (by omega)
  have n0 : (0 : Int) ≤ (n : Int) := by omega
  have n1 : (n : Int) < (n : Int) + 1 := by omega
  clear h1 h
  unfold aggC
  go_enter Tryd.func57, Tryd.ntmps57
  go_wp2
  go_region
  have hs1 := (hs.allocP #[.int .i64 (ht xs n).1, .int .i64 (ht xs n).2] 57).drew
  generalize hW : (w.alloc (.cells #[.int .i64 (ht xs n).1, .int .i64 (ht xs n).2] 57)).drew = W at *
  generalize hG : w.heap.size = G at *
  obtain ⟨c9, f9⟩ := blk0 hs1.p1
  have hGB : ¬ G = B := fun e => ((hs1.apart01) G).1 (rfl : G = G) (show G = B from e)
  have hBG : ¬ B = G := fun e => hGB e.symm
  have hp : W.heap[G]? = some (.cells #[.int .i64 (ht xs n).1, .int .i64 (ht xs n).2] 57 (0, 0)) := hs1.p0
  have b0 : W.cell? ⟨G, 0, none⟩ = some (.int .i64 (ht xs n).1) := by simp [World.cell?, hp]
  have b1 : W.cell? ⟨G, 1, none⟩ = some (.int .i64 (ht xs n).2) := by simp [World.cell?, hp]
  clear hp c0 f0
  have ca1 : (n : Int) ≤ (ca : Int) := by omega
  have ca2 : ¬ ca = 0 := by omega
  have ca3 : (0 : Int) ≤ (ca : Int) := by omega
  go_wp2
  go_region
  all_goals (try go_wp2)
  all_goals go_ret
  all_goals
    exact ⟨rfl, _, ((((hs1.drop0.bring1.cutM (k := n) (by omega)).congrM (c' := hcC encC (xs.take n)) (fun i j hi _ => by unfold hcC; rw [ht_take hi])).bring1).setBlk 0 (.slice (some ⟨b, 0, none⟩) n ca)).drew⟩

end Go.Proofs.YtdfinlpfkmmpkaaDoor
