import Derived.WalkKit
import Derived.ProofKit
import Derived.Deep.QuietTactic
import Derived.BigQuiet
import Derived.LoopTactic
import Derived.Below
import Derived.OwnWalk
import Derived.Outline
import Derived.Handy
import Derived.Deep.RegionWith
import Derived.Deep.RegionHeld3
import Derived.WalkSmall
import Derived.Lib.Hide
namespace Go.Proofs.YtjgafkoboolclaaDoor
open Go.RowKit

/-! Numbers of a list, by index. -/
def gi (xs : List Int) (i : Nat) : Int := xs.getD i 0

theorem gi_lt {xs : List Int} {i : Nat} (h : i < xs.length) : gi xs i = xs[i] := by simp [gi, h]

theorem gi_ext {xs ys : List Int} (hl : xs.length = ys.length) (h : ∀ i, i < xs.length → gi xs i = gi ys i) : xs = ys := by
  apply List.ext_getElem hl
  intro i h1 h2
  have := h i h1
  simpa [gi, h1, h2] using this

theorem gi_map {xs : List Int} {k : IntKind} {i : Nat} (h : i < xs.length) : (xs.map (Value.int k))[i]? = some (.int k (gi xs i)) := by
  simp [gi, h]

theorem gi_set {xs : List Int} {i j : Nat} {x : Int} (h : i < xs.length) : gi (xs.set i x) j = if j = i then x else gi xs j := by
  unfold gi
  by_cases e : j = i
  · subst e; simp [h]
  · have : i ≠ j := fun h => e h.symm
    simp [e, this]

theorem gi_append_left {xs ys : List Int} {i : Nat} (h : i < xs.length) : gi (xs ++ ys) i = gi xs i := by
  simp [gi, List.getElem?_append_left h]

theorem gi_append_at {xs : List Int} {x : Int} : gi (xs ++ [x]) xs.length = x := by simp [gi]

theorem ext_take_succ {xs : List Int} {k : Nat} (h : k < xs.length) : xs.take (k + 1) = xs.take k ++ [gi xs k] := by
  rw [gi_lt h, List.take_succ_eq_append_getElem h]

/-! What a call comes to. -/
/-- It only reads: the value, and the world but for draws. -/
def RetQ (w : World) (v : Value) (e : Ending) (w' : World) : Prop := e = .returned v ∧ ∃ n, w' = w.drewN n
theorem RetQ.mk0 {w : World} {v v' : Value} (h : v' = v) : RetQ w v (.returned v') w := ⟨by rw [h], 0, rfl⟩
theorem RetQ.mk1 {w w' : World} {v v' : Value} (h : v' = v) (hw : ∃ n, w' = w.drewN n) : RetQ w v (.returned v') w' := ⟨by rw [h], hw⟩

theorem drewN_add (w : World) (n m : Nat) : (w.drewN n).drewN m = w.drewN (n + m) := by
  simp [World.drewN, Nat.add_assoc]

theorem intv {k : IntKind} {a b : Int} (h : a = b) : Value.int k a = Value.int k b := by rw [h]
theorem boolv {a b : Bool} (h : a = b) : Value.bool a = Value.bool b := by rw [h]

theorem tup2 {a b a' b' : Value} (h : a = a') (k : b = b') : Value.tuple #[a, b] = Value.tuple #[a', b'] := by rw [h, k]
theorem tup3 {a b c a' b' c' : Value} (h : a = a') (k : b = b') (l : c = c') : Value.tuple #[a, b, c] = Value.tuple #[a', b', c'] := by rw [h, k, l]
theorem below_undrew {B : Nat} {w w' : World} (h : Below B w.drew w') : Below B w w' := ⟨h.os, h.tape, h.output, h.size, h.block⟩
theorem below_undrewN {B n : Nat} {w w' : World} (h : Below B (w.drewN n) w') : Below B w w' := ⟨h.os, h.tape, h.output, h.size, h.block⟩

/-- the world but for draws -/
def SameW (w w' : World) : Prop := ∃ n, w' = w.drewN n
theorem SameW.refl (w : World) : SameW w w := ⟨0, rfl⟩
theorem SameW.trans {a b c : World} (h : SameW a b) (k : SameW b c) : SameW a c := by
  obtain ⟨n, rfl⟩ := h; obtain ⟨m, rfl⟩ := k; exact ⟨_, drewN_add _ _ _⟩
theorem SameW.drewN {a b : World} (h : SameW a b) (n : Nat) : SameW a (b.drewN n) := h.trans ⟨n, rfl⟩
theorem SameW.drew {a b : World} (h : SameW a b) : SameW a b.drew := h.trans ⟨1, rfl⟩
theorem SameW.below {a b : World} (h : SameW a b) : Below a.heap.size a b := by
  obtain ⟨n, rfl⟩ := h; exact below_drewN (Below.refl _ _) n
theorem RetQ.same {w : World} {v : Value} {e : Ending} {w' : World} (h : RetQ w v e w') : e = .returned v ∧ SameW w w' := h
theorem RetQ.mkS {w w' : World} {v v' : Value} (h : v' = v) (hw : SameW w w') : RetQ w v (.returned v') w' := ⟨by rw [h], hw⟩
/-- a quiet callee in a region that draws its order -/
theorem quiet_of {P : Program} {f : FuncId} {args : Array Value} {w : World} {n : Nat} {v : Value} (h : Calls P f args (w.drewN n) (RetQ (w.drewN n) v)) :
    Calls P f args (w.drewN n) fun e w'' => e = .returned v ∧ ∃ m, w'' = w.drewN m :=
  h.mono fun _ _ ⟨he, m, hm⟩ => ⟨he, n + m, by rw [hm, drewN_add]⟩

/-- It may make memory; nothing that was there has turned. -/
def Ret (w : World) (R : Value → World → Prop) (e : Ending) (w' : World) : Prop := ∃ v, e = .returned v ∧ R v w' ∧ Below w.heap.size w w'
theorem Ret.mk1 {w w' : World} {R : Value → World → Prop} {v : Value} (h : R v w') (hb : Below w.heap.size w w') : Ret w R (.returned v) w' := ⟨v, rfl, h, hb⟩

theorem RetQ.below {w w' : World} {v : Value} {e : Ending} (h : RetQ w v e w') : Below w.heap.size w w' := by
  obtain ⟨_, n, rfl⟩ := h; exact below_drewN (Below.refl _ _) n

/-! Slices of integers that are read. -/
/-- 'v' reads as the numbers 'xs', of kind k. -/
def RdK (k : IntKind) (w : World) (v : Value) (xs : List Int) : Prop :=
  ∃ a cap, v = .slice a xs.length cap ∧ xs.length ≤ cap ∧ cap ≤ maxLen ∧ ∀ i, i < xs.length → ∃ b off, a = some ⟨b, off, none⟩ ∧ w.cell? ⟨b, off + i, none⟩ = some (.int k (gi xs i))
abbrev RdI := RdK .i64
abbrev RdB := RdK .u8

theorem cell_lt {w : World} {a : Addr} {v : Value} (h : w.cell? a = some v) : a.block < w.heap.size := by
  unfold World.cell? at h
  rcases Nat.lt_or_ge a.block w.heap.size with h' | h'
  · exact h'
  · simp [Array.getElem?_eq_none h'] at h

theorem RdK.keep {k : IntKind} {w w' : World} {v : Value} {xs : List Int} (h : RdK k w v xs)
    (hk : ∀ g, v.ownBlock = some g → g < w.heap.size → w'.heap[g]? = w.heap[g]?) : RdK k w' v xs := by
  obtain ⟨a, cap, rfl, hl, hm, hc⟩ := h
  refine ⟨a, cap, rfl, hl, hm, fun i hi => ?_⟩
  obtain ⟨b, off, rfl, hcell⟩ := hc i hi
  refine ⟨b, off, rfl, ?_⟩
  rw [← hcell]
  exact World.cell?_of_block (w := w) (hk b rfl (cell_lt hcell))

theorem RdK.below {k : IntKind} {w w' : World} {v : Value} {xs : List Int} (h : RdK k w v xs) (hb : Below w.heap.size w w') : RdK k w' v xs :=
  h.keep fun g _ hg => hb.block g hg

theorem RdK.drewN {k : IntKind} {w : World} {v : Value} {xs : List Int} (h : RdK k w v xs) (n : Nat) : RdK k (w.drewN n) v xs :=
  h.keep fun _ _ _ => rfl

theorem RdK.grown {k : IntKind} {w w' : World} {v : Value} {xs : List Int} {row : Option Nat} (h : RdK k w v xs) (hg : w.grownBy w' row) (hne : ∀ g, v.ownBlock = some g → some g ≠ row) : RdK k w' v xs :=
  h.keep fun g e hg' => hg.block g hg' (hne g e)

/-- The address and the cell at an index. -/
theorem RdK.at_ {k : IntKind} {w : World} {a : Option Addr} {n cap : Nat} {xs : List Int} (h : RdK k w (.slice a n cap) xs) {i : Nat} (hi : i < n) :
    ∃ b off, a = some ⟨b, off, none⟩ ∧ w.cell? ⟨b, off + i, none⟩ = some (.int k (gi xs i)) := by
  obtain ⟨a', cap', e, _, _, hc⟩ := h
  simp only [Value.slice.injEq] at e
  obtain ⟨rfl, rfl, rfl⟩ := e
  exact hc i hi

theorem RdK.form {k : IntKind} {w : World} {v : Value} {xs : List Int} (h : RdK k w v xs) : ∃ a cap, v = .slice a xs.length cap ∧ xs.length ≤ 9223372036854775807 := by
  obtain ⟨a, cap, e, hl, hm, _⟩ := h
  exact ⟨a, cap, e, by unfold maxLen at hm; omega⟩

/-- The capacity too. -/
theorem RdK.form' {k : IntKind} {w : World} {v : Value} {xs : List Int} (h : RdK k w v xs) : ∃ a cap, v = .slice a xs.length cap ∧ xs.length ≤ cap ∧ cap ≤ 9223372036854775807 := by
  obtain ⟨a, cap, e, hl, hm, _⟩ := h
  exact ⟨a, cap, e, hl, by unfold maxLen at hm; omega⟩

theorem RdK.ofNil {k : IntKind} (w : World) : RdK k w (.slice none 0 0) [] := ⟨none, 0, rfl, Nat.le_refl _, Nat.zero_le _, fun i h => absurd h (by simp)⟩

/-- What the form of the claims tells of a slice of integers that came in. -/
theorem RdK.ofRow {k : IntKind} {w : World} {x : Addr} {len cap : Nat} {zs : List Int} (hl : len ≤ cap) (hm : cap ≤ maxLen) (hz : zs.length = cap)
    (hc : ∀ i, i < zs.length → w.cell? (x.add i) = some (.int k (zs.getD i 0))) : RdK k w (.slice (some x) len cap) (zs.take len) := by
  have hlen : (zs.take len).length = len := by simp; omega
  refine ⟨some x, cap, by rw [hlen], by omega, hm, fun i hi => ?_⟩
  obtain ⟨b, off, spot⟩ := x
  have h0 := hc 0 (by omega)
  have hs : spot = none := by
    cases spot with
    | none => rfl
    | some q => simp only [Addr.add, if_true, World.cell?] at h0; split at h0 <;> simp at h0
  subst hs
  refine ⟨b, off, rfl, ?_⟩
  have h1 := hc i (by omega)
  have e1 : (⟨b, off, none⟩ : Addr).add i = ⟨b, off + i, none⟩ := by
    unfold Addr.add; split
    · next e => subst e; rfl
    · rfl
  rw [e1] at h1
  rw [h1, hlen] at *
  simp [gi, List.getElem?_take, hi]

/-- The same, a nil slice too. -/
theorem RdK.ofIs {k : IntKind} {w : World} {a : Option Addr} {len cap : Nat} {zs : List Int}
    (h : (a = none ∧ len = 0 ∧ cap = 0 ∧ zs = []) ∨ ∃ x, a = some x ∧ len ≤ cap ∧ cap ≤ maxLen ∧ zs.length = cap ∧ (∀ i, i < zs.length → w.cell? (x.add i) = some (.int k (zs.getD i 0))) ∧ ∀ n ∈ zs, (Lit.int k n).wf = true) :
    ∃ xs, RdK k w (.slice a len cap) xs ∧ ∀ n ∈ xs, (Lit.int k n).wf = true := by
  rcases h with ⟨rfl, rfl, rfl, rfl⟩ | ⟨x, rfl, hl, hm, hz, hc, hw⟩
  · exact ⟨[], RdK.ofNil w, by simp⟩
  · exact ⟨_, RdK.ofRow hl hm hz hc, fun n hn => hw n (List.mem_of_mem_take hn)⟩

theorem Ret.isTrue {w : World} {e : Ending} {w' : World} (h : Ret w (fun v _ => v = .bool true) e w') : e = .returned (.bool true) ∧ Below w.heap.size w w' := by
  obtain ⟨v, rfl, rfl, hb⟩ := h; exact ⟨rfl, hb⟩

/-- The head of a slice. -/
theorem RdK.take {k : IntKind} {w : World} {a : Option Addr} {n cap : Nat} {xs : List Int} (h : RdK k w (.slice a n cap) xs) {m : Nat} (hm : m ≤ n) : RdK k w (.slice a m cap) (xs.take m) := by
  obtain ⟨a', cap', e, hl, hx, hc⟩ := h
  simp only [Value.slice.injEq] at e
  obtain ⟨rfl, rfl, rfl⟩ := e
  have hlen : (xs.take m).length = m := by simp; omega
  refine ⟨a, cap, by rw [hlen], by omega, hx, fun i hi => ?_⟩
  obtain ⟨b, off, ha, hcell⟩ := hc i (by omega)
  refine ⟨b, off, ha, ?_⟩
  rw [hcell, hlen] at *
  simp [gi, List.getElem?_take, hi]

/-! Slices of integers that the call owns: they may be written, and appended to. -/
def OwnK (k : IntKind) (w : World) (base : Nat) (e : TypeId) (v : Value) (xs : List Int) : Prop :=
  w.ownsRow base e 1 v xs.length (xs.map (Value.int k))
abbrev OwnI := OwnK .i64
abbrev OwnB := OwnK .u8

theorem OwnK.rd {k : IntKind} {w : World} {base : Nat} {e : TypeId} {v : Value} {xs : List Int} (h : OwnK k w base e v xs) : RdK k w v xs := by
  have h0 := h
  obtain ⟨_, ⟨rfl, hn⟩ | ⟨g, cap, cur, rfl, _, hh, hcap, hm, _, _⟩⟩ := h
  · obtain rfl : xs = [] := List.eq_nil_of_length_eq_zero hn
    exact RdK.ofNil w
  · refine ⟨_, cap, rfl, hcap, hm, fun i hi => ⟨g, 0, rfl, ?_⟩⟩
    rw [World.ownsRow.cellAt h0 _ (by omega), Nat.zero_add, gi_map hi]

theorem OwnK.base {k : IntKind} {w : World} {base : Nat} {e : TypeId} {v : Value} {xs : List Int} (h : OwnK k w base e v xs) : ∀ g, v.ownBlock = some g → base ≤ g ∧ g < w.heap.size :=
  World.ownsRow.lt h

theorem OwnK.mono {k : IntKind} {w : World} {base base' : Nat} {e : TypeId} {v : Value} {xs : List Int} (h : OwnK k w base e v xs) (hb : base' ≤ base) : OwnK k w base' e v xs := by
  obtain ⟨h1, h2⟩ := h
  refine ⟨h1, ?_⟩
  rcases h2 with h2 | ⟨g, cap, cur, hv, hg, hh, r⟩
  · exact .inl h2
  · exact .inr ⟨g, cap, cur, hv, Nat.le_trans hb hg, hh, r⟩

theorem OwnK.keep {k : IntKind} {w w' : World} {base : Nat} {e : TypeId} {v : Value} {xs : List Int} (h : OwnK k w base e v xs)
    (hk : ∀ g, v.ownBlock = some g → g < w.heap.size → w'.heap[g]? = w.heap[g]?) : OwnK k w' base e v xs := by
  have hlt := h.base
  obtain ⟨h1, h2⟩ := h
  refine ⟨h1, ?_⟩
  rcases h2 with h2 | ⟨g, cap, cur, rfl, hg, hh, r⟩
  · exact .inl h2
  · exact .inr ⟨g, cap, cur, rfl, hg, by rw [hk g rfl (hlt g rfl).2]; exact hh, r⟩

theorem OwnK.below {k : IntKind} {w w' : World} {base : Nat} {e : TypeId} {v : Value} {xs : List Int} (h : OwnK k w base e v xs) (hb : Below w.heap.size w w') : OwnK k w' base e v xs :=
  h.keep fun g _ hg => hb.block g hg

theorem OwnK.grown {k : IntKind} {w w' : World} {base : Nat} {e : TypeId} {v : Value} {xs : List Int} {row : Option Nat} (h : OwnK k w base e v xs) (hg : w.grownBy w' row) (hne : ∀ g, v.ownBlock = some g → some g ≠ row) : OwnK k w' base e v xs :=
  h.keep fun g e hg' => hg.block g hg' (hne g e)

theorem OwnK.nil (k : IntKind) (w : World) (base : Nat) (e : TypeId) : OwnK k w base e (.slice none 0 0) [] := World.ownsRow_nil w base e 1

/-- A cell that may be written, in an owned row. -/
theorem OwnK.at_ {k : IntKind} {w : World} {base : Nat} {e : TypeId} {a : Option Addr} {n cap : Nat} {xs : List Int} (h : OwnK k w base e (.slice a n cap) xs) {i : Nat} (hi : i < n) :
    ∃ g, a = some ⟨g, 0, none⟩ ∧ base ≤ g ∧ g < w.heap.size ∧ w.cell? ⟨g, i, none⟩ = some (.int k (gi xs i)) ∧ w.frozen? ⟨g, i, none⟩ = false := by
  have hr := h.rd
  have hlt := h.base
  have h0 := h
  obtain ⟨a', cap', e', _, _, hc⟩ := hr
  simp only [Value.slice.injEq] at e'
  obtain ⟨rfl, rfl, rfl⟩ := e'
  obtain ⟨h1, h2⟩ := h
  rcases h2 with ⟨h2, h3⟩ | ⟨g, cap', cur, hv, hg, hh, r⟩
  · omega
  · simp only [Value.slice.injEq] at hv
    obtain ⟨rfl, _, rfl⟩ := hv
    obtain ⟨b, off, hb, hcell⟩ := hc i hi
    simp only [Option.some.injEq, Addr.mk.injEq] at hb
    obtain ⟨rfl, rfl, _⟩ := hb
    exact ⟨g, rfl, hg, (hlt g rfl).2, by simpa using hcell, World.ownsRow.frozenAt h0 i⟩

theorem OwnK.set {k : IntKind} {w : World} {base : Nat} {e : TypeId} {g n cap : Nat} {xs : List Int} (h : OwnK k w base e (.slice (some ⟨g, 0, none⟩) n cap) xs) {i : Nat} (hi : i < n) (x : Int) :
    OwnK k (w.setCell ⟨g, i, none⟩ (.int k x)) base e (.slice (some ⟨g, 0, none⟩) n cap) (xs.set i x) := by
  obtain ⟨a', cap', e', _⟩ := h.rd
  simp only [Value.slice.injEq] at e'
  obtain ⟨_, rfl, _⟩ := e'
  have := (World.ownsRow.stored h i (.int k x)).1
  simpa [OwnK, List.map_set] using this

theorem OwnK.size {k : IntKind} {w : World} {base : Nat} {e : TypeId} {a : Option Addr} {n cap : Nat} {xs : List Int} (h : OwnK k w base e (.slice a n cap) xs) : n = xs.length := by
  obtain ⟨a', cap', e', _⟩ := h.rd
  simp only [Value.slice.injEq] at e'
  exact e'.2.1

theorem OwnK.alloc {k : IntKind} {w : World} {base : Nat} {e : TypeId} {v : Value} {xs : List Int} (h : OwnK k w base e v xs) (o : Obj) : OwnK k (w.alloc o) base e v xs := World.ownsRow.alloc h o

theorem OwnK.drew {k : IntKind} {w : World} {base : Nat} {e : TypeId} {v : Value} {xs : List Int} (h : OwnK k w base e v xs) : OwnK k w.drew base e v xs := h
theorem OwnK.empty (k : IntKind) (w : World) (base : Nat) (e : TypeId) (hb : base ≤ w.heap.size) : OwnK k (w.alloc (.cells #[] e)) base e (.slice (some ⟨w.heap.size, 0, none⟩) 0 0) [] := by
  have := World.ownsRow_lit (base := base) (e := e) (size := 1) w #[] 0 hb (by decide) (by simp)
  simpa [OwnK] using this

/-- Behind an append to a row of the call's own, from its new cell. -/
theorem below_app {B : Nat} {a w w' : World} {o : Obj} {row : Option Nat} (h : Below B a w) (hB : B ≤ w.heap.size) (hg : (w.alloc o).grownBy w' row) (hr : ∀ k, row = some k → B ≤ k) : Below B a w' :=
  (h.alloc hB o).grown hg (by simp; omega) hr
theorem below_app_drew {B : Nat} {a w w' : World} {o : Obj} {row : Option Nat} (h : Below B a w) (hB : B ≤ w.heap.size) (hg : ((w.alloc o).drew).grownBy w' row) (hr : ∀ k, row = some k → B ≤ k) : Below B a w' :=
  (h.alloc hB o).drew.grown hg (by simp; omega) hr

theorem app_cell_drew {w w' : World} {o : Obj} {row : Option Nat} {a : Addr} {v : Value} {B : Nat} (hg : ((w.alloc o).drew).grownBy w' row) (h : w.cell? a = some v) (hB : a.block < B) (hr : ∀ g, row = some g → B ≤ g ∧ g < w.heap.size) : w'.cell? a = some v := by
  have hl := cell_lt h
  have h1 : ((w.alloc o).drew).cell? a = some v := (World.cell?_alloc_lt _ _ _ hl).trans h
  rw [← h1]
  refine World.cell?_of_block (w := (w.alloc o).drew) (hg.block a.block (by simp; omega) ?_)
  intro e
  have := hr a.block e.symm
  omega

theorem madeInts (k : IntKind) (n : Nat) : (madeCells (Value.int k 0).cells (n * 1)).toList = (List.replicate n (0 : Int)).map (Value.int k) := by
  rw [Nat.mul_one]; simp [Value.cells, toList_madeCells_one]

section
variable {P : Program} {w : World} {ops : Array Oper} {rest : List Oper} {o : Oper} {a : Act} {Q : Exit → Act → World → Prop}

/-- 'make([]T, n)' -/
theorem wp_makeK (hg : o.guard = none) {l c : Operand} {t : TypeId} (hop : o.op = Op.makeSlice t l c) (k : IntKind)
    (base : Nat) (e bytes : Nat) (h1 : P.underlying t = some (.slice e)) (hinfo : (P.info? e).map (fun i => (i.zero, i.size, i.bytes)) = some (some (.int k 0), 1, bytes))
    {kl kc : IntKind} {L C : Int} (n : Nat) (hl : a.eval l = .int kl L) (hc : a.eval c = .int kc C) (hL : L = (n : Int)) (hC : C = (n : Int)) (b2 : bytes * n ≤ 281474976710656) (b3 : n ≤ maxLen) (b4 : base ≤ w.heap.size)
    (hK : ∀ w', OwnK k w' base e (.slice (some ⟨w.heap.size, 0, none⟩) n n) (List.replicate n 0) → w.grownBy w' none → w.heap.size < w'.heap.size → wpList P ops Q rest (a.put o.dst (.slice (some ⟨w.heap.size, 0, none⟩) n n)) w') :
    wpList P ops Q (o :: rest) a w := by
  obtain ⟨i, h2, h3, h4, h5⟩ := info_parts hinfo
  refine wpList_make_full w hg l c t hop base e i (.int k 0) 1 h1 h2 h3 h4 kl kc L C n hl hc hL hC (h5 ▸ b2) b3 b4 (fun w' r1 r2 => ?_)
  have ho : OwnK k w' base e (.slice (some ⟨w.heap.size, 0, none⟩) n n) (List.replicate n 0) := by
    unfold OwnK; rw [List.length_replicate, ← madeInts]; exact r1
  exact hK w' ho r2 (ho.base _ rfl).2

/-- 'make([]T, 0, n)' -/
theorem wp_make0K (hg : o.guard = none) {l c : Operand} {t : TypeId} (hop : o.op = Op.makeSlice t l c) (k : IntKind)
    (base : Nat) (e bytes : Nat) (h1 : P.underlying t = some (.slice e)) (hinfo : (P.info? e).map (fun i => (i.zero, i.size, i.bytes)) = some (some (.int k 0), 1, bytes))
    {kl kc : IntKind} {C : Int} (n : Nat) (hl : a.eval l = .int kl 0) (hc : a.eval c = .int kc C) (hC : C = (n : Int)) (b2 : bytes * n ≤ 281474976710656) (b3 : n ≤ maxLen) (b4 : base ≤ w.heap.size)
    (hK : ∀ w', OwnK k w' base e (.slice (some ⟨w.heap.size, 0, none⟩) 0 n) [] → w.grownBy w' none → w.heap.size < w'.heap.size → wpList P ops Q rest (a.put o.dst (.slice (some ⟨w.heap.size, 0, none⟩) 0 n)) w') :
    wpList P ops Q (o :: rest) a w := by
  obtain ⟨i, h2, h3, h4, h5⟩ := info_parts hinfo
  refine wpList_make_own w hg l c t hop base e i (.int k 0) 1 h1 h2 h3 h4 kl kc C n hl hc hC (h5 ▸ b2) b3 b4 (fun w' r1 r2 => ?_)
  have ho : OwnK k w' base e (.slice (some ⟨w.heap.size, 0, none⟩) 0 n) [] := r1
  exact hK w' ho r2 (ho.base _ rfl).2

/-- 'append(s, x)': one number, from its new cell. -/
theorem wp_app1K (hgd : o.guard = none) {s x : Operand} {t : TypeId}
    (ho : o.op = .call { callee := .builtin .append, args := #[s, x], argTypes := #[t, t] }) (k : IntKind)
    (base : Nat) (e bytes : Nat) (h1 : P.underlying t = some (.slice e)) (hinfo : (P.info? e).map (fun i => (i.zero, i.size, i.bytes)) = some (some (.int k 0), 1, bytes))
    (v : Value) (xs : List Int) (y : Int) (hs : a.eval s = v) (hown : OwnK k w base e v xs)
    {ad : Addr} {c : Nat} (hx : a.eval x = .slice (some ad) 1 c) (hcell : w.cell? ad = some (.int k y))
    (hbytes : (xs.length + 1) * bytes ≤ 140737488355328) (h63 : xs.length + 1 ≤ maxLen) (hbase : base ≤ w.heap.size)
    (h : ∀ v' w', OwnK k w' base e v' (xs ++ [y]) → w.grownBy w' v.ownBlock → wpList P ops Q rest (a.put o.dst v') w') : wpList P ops Q (o :: rest) a w := by
  obtain ⟨i, h2, h3, h4, h5⟩ := info_parts hinfo
  refine wpList_append_own w hgd s x t ho base e i (.int k 0) 1 bytes h1 h2 h3 h4 h5 rfl (by decide) v xs.length (xs.map (Value.int k)) hs hown ad 1 c [.int k y] hx rfl ?_ ?_ h63 hbytes hbase ?_
  · intro j u hj
    cases j with
    | zero => simp at hj; subst hj; exact hcell
    | succ j => simp at hj
  · intro u hu; simp at hu; subst hu; rfl
  · intro v' w' h1' h2' _
    refine h v' w' ?_ h2'
    unfold OwnK
    simpa using h1'
/-- 'make([]T, n)' under a guard that holds -/
theorem wp_makeK_g (hw : Region.wanted o (yielded ops a.tmps) = true) {l c : Operand} {t : TypeId} (hop : o.op = Op.makeSlice t l c) (k : IntKind)
    (base : Nat) (e bytes : Nat) (h1 : P.underlying t = some (.slice e)) (hinfo : (P.info? e).map (fun i => (i.zero, i.size, i.bytes)) = some (some (.int k 0), 1, bytes))
    {kl kc : IntKind} {L C : Int} (n : Nat) (hl : a.eval l = .int kl L) (hc : a.eval c = .int kc C) (hL : L = (n : Int)) (hC : C = (n : Int)) (b2 : bytes * n ≤ 281474976710656) (b3 : n ≤ maxLen) (b4 : base ≤ w.heap.size)
    (hK : ∀ w', OwnK k w' base e (.slice (some ⟨w.heap.size, 0, none⟩) n n) (List.replicate n 0) → w.grownBy w' none → w.heap.size < w'.heap.size → wpList P ops Q rest (a.put o.dst (.slice (some ⟨w.heap.size, 0, none⟩) n n)) w') :
    wpList P ops Q (o :: rest) a w := by
  obtain ⟨i, h2, h3, h4, h5⟩ := info_parts hinfo
  subst hL hC
  obtain ⟨w', hrun, r1, r2⟩ := run_make_full (P := P) w base t e i (.int k 0) 1 h1 h2 h3 h4 kl kc n (h5 ▸ b2) b3 b4
  have ho : OwnK k w' base e (.slice (some ⟨w.heap.size, 0, none⟩) n n) (List.replicate n 0) := by
    unfold OwnK; rw [List.length_replicate, ← madeInts]; exact r1
  simp only [wpList, hw, if_true]
  left
  unfold Oper.wp
  simp [execOp, hop, hl, hc, hrun, Result.andThen]
  exact hK w' ho r2 (ho.base _ rfl).2

/-- 'append(s, x)' in a region that draws its order: for go_region_held3. -/
theorem step_app1K {K : Act → World → Prop} {E : Prop} (hgd : o.guard = none) {s x : Operand} {t : TypeId}
    (ho : o.op = .call { callee := .builtin .append, args := #[s, x], argTypes := #[t, t] }) (k : IntKind)
    (base : Nat) (e bytes : Nat) (h1 : P.underlying t = some (.slice e)) (hinfo : (P.info? e).map (fun i => (i.zero, i.size, i.bytes)) = some (some (.int k 0), 1, bytes))
    (v : Value) (xs : List Int) (y : Int) (hs : a.eval s = v) (hown : OwnK k w base e v xs)
    {ad : Addr} {c : Nat} (hx : a.eval x = .slice (some ad) 1 c) (hcell : w.cell? ad = some (.int k y))
    (hbytes : (xs.length + 1) * bytes ≤ 140737488355328) (h63 : xs.length + 1 ≤ maxLen) (hbase : base ≤ w.heap.size)
    (h : ∀ v' w', OwnK k w' base e v' (xs ++ [y]) → w.grownBy w' v.ownBlock → K (a.put o.dst v') w') :
    if Region.wanted o (yielded ops a.tmps) = true then Oper.wp P o a w K Q else E := by
  have hw : Region.wanted o (yielded ops a.tmps) = true := by simp [Region.wanted, hgd]
  rw [if_pos hw]
  obtain ⟨i, h2, h3, h4, h5⟩ := info_parts hinfo
  refine wp_append_own w s x t ho base e i (.int k 0) 1 bytes h1 h2 h3 h4 h5 rfl (by decide) v xs.length (xs.map (Value.int k)) hs hown ad 1 c [.int k y] hx rfl ?_ ?_ h63 hbytes hbase ?_
  · intro j u hj
    cases j with
    | zero => simp at hj; subst hj; exact hcell
    | succ j => simp at hj
  · intro u hu; simp at hu; subst hu; rfl
  · intro v' w' h1' h2' _
    refine h v' w' ?_ h2'
    unfold OwnK
    simpa using h1'
end

end Go.Proofs.YtjgafkoboolclaaDoor
