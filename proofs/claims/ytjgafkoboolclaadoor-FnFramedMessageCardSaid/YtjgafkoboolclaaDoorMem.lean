import Derived.Test.YtjgafkoboolclaaDoorLib
namespace Go.Proofs.YtjgafkoboolclaaDoor
open Go.RowKit

/-! Slices whose elements take m cells each: cell j of element i holds 'c i j'. -/
def RdM (m : Nat) (w : World) (v : Value) (n : Nat) (c : Nat → Nat → Value) : Prop :=
  ∃ a cap, v = .slice a n cap ∧ n ≤ cap ∧ cap ≤ maxLen ∧ ∀ i, i < n → ∃ b off, a = some ⟨b, off, none⟩ ∧ ∀ j, j < m → w.cell? ⟨b, off + i * m + j, none⟩ = some (c i j)

theorem RdM.keep {m : Nat} {w w' : World} {v : Value} {n : Nat} {c : Nat → Nat → Value} (h : RdM m w v n c) (hm : 0 < m)
    (hk : ∀ g, v.ownBlock = some g → g < w.heap.size → w'.heap[g]? = w.heap[g]?) : RdM m w' v n c := by
  obtain ⟨a, cap, rfl, hl, hx, hc⟩ := h
  refine ⟨a, cap, rfl, hl, hx, fun i hi => ?_⟩
  obtain ⟨b, off, rfl, hcell⟩ := hc i hi
  refine ⟨b, off, rfl, fun j hj => ?_⟩
  rw [← hcell j hj]
  exact World.cell?_of_block (w := w) (hk b rfl (cell_lt (hcell 0 hm)))

theorem RdM.below {m : Nat} {w w' : World} {v : Value} {n : Nat} {c : Nat → Nat → Value} (h : RdM m w v n c) (hm : 0 < m) (hb : Below w.heap.size w w') : RdM m w' v n c :=
  h.keep hm fun g _ hg => hb.block g hg

theorem RdM.drewN {m : Nat} {w : World} {v : Value} {n : Nat} {c : Nat → Nat → Value} (h : RdM m w v n c) (hm : 0 < m) (q : Nat) : RdM m (w.drewN q) v n c :=
  h.keep hm fun _ _ _ => rfl

theorem RdM.grown {m : Nat} {w w' : World} {v : Value} {n : Nat} {c : Nat → Nat → Value} {row : Option Nat} (h : RdM m w v n c) (hm : 0 < m) (hg : w.grownBy w' row) (hne : ∀ g, v.ownBlock = some g → some g ≠ row) : RdM m w' v n c :=
  h.keep hm fun g e hg' => hg.block g hg' (hne g e)

theorem RdM.at_ {m : Nat} {w : World} {a : Option Addr} {n n' cap : Nat} {c : Nat → Nat → Value} (h : RdM m w (.slice a n' cap) n c) {i : Nat} (hi : i < n) :
    ∃ b off, a = some ⟨b, off, none⟩ ∧ ∀ j, j < m → w.cell? ⟨b, off + i * m + j, none⟩ = some (c i j) := by
  obtain ⟨a', cap', e, _, _, hc⟩ := h
  simp only [Value.slice.injEq] at e
  obtain ⟨rfl, rfl, rfl⟩ := e
  exact hc i hi

theorem RdM.form {m : Nat} {w : World} {v : Value} {n : Nat} {c : Nat → Nat → Value} (h : RdM m w v n c) : ∃ a cap, v = .slice a n cap ∧ n ≤ 9223372036854775807 := by
  obtain ⟨a, cap, e, hl, hm, _⟩ := h
  exact ⟨a, cap, e, by unfold maxLen at hm; omega⟩

theorem RdM.ofNil (m : Nat) (w : World) (c : Nat → Nat → Value) : RdM m w (.slice none 0 0) 0 c := ⟨none, 0, rfl, Nat.le_refl _, Nat.zero_le _, fun i h => absurd h (by simp)⟩

theorem RdM.congr {m : Nat} {w : World} {v : Value} {n : Nat} {c c' : Nat → Nat → Value} (h : RdM m w v n c) (hc : ∀ i j, i < n → j < m → c i j = c' i j) : RdM m w v n c' := by
  obtain ⟨a, cap, e, hl, hm, k⟩ := h
  refine ⟨a, cap, e, hl, hm, fun i hi => ?_⟩
  obtain ⟨b, off, ha, hk⟩ := k i hi
  exact ⟨b, off, ha, fun j hj => by rw [hk j hj, hc i j hi hj]⟩

/-- the cells, one behind the other -/
def flatC (m n : Nat) (c : Nat → Nat → Value) : List Value := (List.range (n * m)).map fun q => c (q / m) (q % m)

theorem flatC_length (m n : Nat) (c : Nat → Nat → Value) : (flatC m n c).length = n * m := by simp [flatC]

theorem flatC_get {m n : Nat} {c : Nat → Nat → Value} {i j : Nat} (hi : i < n) (hj : j < m) : (flatC m n c)[i * m + j]? = some (c i j) := by
  have hlt : i * m + j < n * m := by
    have : (i + 1) * m ≤ n * m := Nat.mul_le_mul_right m hi
    rw [Nat.add_mul] at this; omega
  have e1 : (i * m + j) / m = i := by rw [Nat.mul_comm, Nat.mul_add_div (by omega)]; simp [Nat.div_eq_of_lt hj]
  have e2 : (i * m + j) % m = j := by rw [Nat.mul_comm, Nat.mul_add_mod]; exact Nat.mod_eq_of_lt hj
  simp [flatC, hlt, e1, e2]

theorem flatC_congr {m n : Nat} {c c' : Nat → Nat → Value} (h : ∀ i j, i < n → j < m → c i j = c' i j) : flatC m n c = flatC m n c' := by
  unfold flatC
  apply List.map_congr_left
  intro q hq
  rw [List.mem_range] at hq
  have hm : 0 < m := by
    rcases Nat.eq_zero_or_pos m with rfl | h
    · simp at hq
    · exact h
  exact h _ _ (Nat.div_lt_of_lt_mul (by rw [Nat.mul_comm]; exact hq)) (Nat.mod_lt _ hm)

/-- c with element i in place of its own -/
def updC (c : Nat → Nat → Value) (i : Nat) (r : Nat → Value) : Nat → Nat → Value := fun i' j => if i' = i then r j else c i' j

theorem flatC_snoc {m n : Nat} {c : Nat → Nat → Value} {r : Nat → Value} : flatC m (n + 1) (updC c n r) = flatC m n c ++ (List.range m).map r := by
  apply List.ext_getElem?
  intro q
  rcases Nat.eq_zero_or_pos m with rfl | hm
  · simp [flatC]
  by_cases hq : q < (n + 1) * m
  · obtain ⟨i, j, hj, rfl⟩ : ∃ i j, j < m ∧ q = i * m + j := ⟨q / m, q % m, Nat.mod_lt _ hm, by rw [Nat.mul_comm]; exact (Nat.div_add_mod q m).symm⟩
    have hi : i < n + 1 := by
      rcases Nat.lt_or_ge i (n + 1) with h | h
      · exact h
      · have := Nat.mul_le_mul_right m h; omega
    rw [flatC_get hi hj]
    by_cases hin : i < n
    · have hlt : i * m + j < n * m := by
        have : (i + 1) * m ≤ n * m := Nat.mul_le_mul_right m hin
        rw [Nat.add_mul] at this; omega
      rw [List.getElem?_append_left (by rw [flatC_length]; exact hlt), flatC_get hin hj]
      simp [updC, Nat.ne_of_lt hin]
    · obtain rfl : i = n := by omega
      rw [List.getElem?_append_right (by rw [flatC_length]; omega), flatC_length]
      simp [updC, hj]
  · rw [List.getElem?_eq_none (by rw [flatC_length]; omega), List.getElem?_eq_none]
    simp [flatC_length, Nat.add_mul] at *; omega

/-- A slice of such elements that the call owns. -/
def OwnM (m : Nat) (w : World) (base : Nat) (e : TypeId) (v : Value) (n : Nat) (c : Nat → Nat → Value) : Prop :=
  w.ownsRow base e m v n (flatC m n c)

theorem OwnM.rd {m : Nat} {w : World} {base : Nat} {e : TypeId} {v : Value} {n : Nat} {c : Nat → Nat → Value} (h : OwnM m w base e v n c) : RdM m w v n c := by
  have h0 := h
  obtain ⟨_, ⟨rfl, hn⟩ | ⟨g, cap, cur, rfl, _, hh, hcap, hm, _, _⟩⟩ := h
  · subst hn; exact RdM.ofNil m w c
  · refine ⟨_, cap, rfl, hcap, hm, fun i hi => ⟨g, 0, rfl, fun j hj => ?_⟩⟩
    have hlt : i * m + j < n * m := by
      have : (i + 1) * m ≤ n * m := Nat.mul_le_mul_right m hi
      rw [Nat.add_mul] at this; omega
    rw [Nat.zero_add, World.ownsRow.cellAt h0 _ hlt, flatC_get hi hj]

theorem OwnM.base {m : Nat} {w : World} {base : Nat} {e : TypeId} {v : Value} {n : Nat} {c : Nat → Nat → Value} (h : OwnM m w base e v n c) : ∀ g, v.ownBlock = some g → base ≤ g ∧ g < w.heap.size :=
  World.ownsRow.lt h

theorem OwnM.mono {m : Nat} {w : World} {base base' : Nat} {e : TypeId} {v : Value} {n : Nat} {c : Nat → Nat → Value} (h : OwnM m w base e v n c) (hb : base' ≤ base) : OwnM m w base' e v n c := by
  obtain ⟨h1, h2⟩ := h
  refine ⟨h1, ?_⟩
  rcases h2 with h2 | ⟨g, cap, cur, hv, hg, hh, r⟩
  · exact .inl h2
  · exact .inr ⟨g, cap, cur, hv, Nat.le_trans hb hg, hh, r⟩

theorem OwnM.keep {m : Nat} {w w' : World} {base : Nat} {e : TypeId} {v : Value} {n : Nat} {c : Nat → Nat → Value} (h : OwnM m w base e v n c)
    (hk : ∀ g, v.ownBlock = some g → g < w.heap.size → w'.heap[g]? = w.heap[g]?) : OwnM m w' base e v n c := by
  have hlt := h.base
  obtain ⟨h1, h2⟩ := h
  refine ⟨h1, ?_⟩
  rcases h2 with h2 | ⟨g, cap, cur, rfl, hg, hh, r⟩
  · exact .inl h2
  · exact .inr ⟨g, cap, cur, rfl, hg, by rw [hk g rfl (hlt g rfl).2]; exact hh, r⟩

theorem OwnM.below {m : Nat} {w w' : World} {base : Nat} {e : TypeId} {v : Value} {n : Nat} {c : Nat → Nat → Value} (h : OwnM m w base e v n c) (hb : Below w.heap.size w w') : OwnM m w' base e v n c :=
  h.keep fun g _ hg => hb.block g hg

theorem OwnM.grown {m : Nat} {w w' : World} {base : Nat} {e : TypeId} {v : Value} {n : Nat} {c : Nat → Nat → Value} {row : Option Nat} (h : OwnM m w base e v n c) (hg : w.grownBy w' row) (hne : ∀ g, v.ownBlock = some g → some g ≠ row) : OwnM m w' base e v n c :=
  h.keep fun g e hg' => hg.block g hg' (hne g e)

theorem OwnM.congr {m : Nat} {w : World} {base : Nat} {e : TypeId} {v : Value} {n : Nat} {c c' : Nat → Nat → Value} (h : OwnM m w base e v n c) (hc : ∀ i j, i < n → j < m → c i j = c' i j) : OwnM m w base e v n c' := by
  unfold OwnM at *; rwa [← flatC_congr hc]

theorem OwnM.nil (m : Nat) (w : World) (base : Nat) (e : TypeId) (c : Nat → Nat → Value) : OwnM m w base e (.slice none 0 0) 0 c := by
  have := World.ownsRow_nil w base e m
  simpa [OwnM, flatC] using this

theorem OwnM.alloc {m : Nat} {w : World} {base : Nat} {e : TypeId} {v : Value} {n : Nat} {c : Nat → Nat → Value} (h : OwnM m w base e v n c) (o : Obj) : OwnM m (w.alloc o) base e v n c := World.ownsRow.alloc h o

theorem OwnM.size {m : Nat} {w : World} {base : Nat} {e : TypeId} {a : Option Addr} {n n' cap : Nat} {c : Nat → Nat → Value} (h : OwnM m w base e (.slice a n' cap) n c) : n' = n := by
  obtain ⟨a', cap', e', _⟩ := h.rd
  simp only [Value.slice.injEq] at e'
  exact e'.2.1

/-- Cells that may be written, in an owned row. -/
theorem OwnM.at_ {m : Nat} {w : World} {base : Nat} {e : TypeId} {a : Option Addr} {n n' cap : Nat} {c : Nat → Nat → Value} (h : OwnM m w base e (.slice a n' cap) n c) {i : Nat} (hi : i < n) :
    ∃ g, a = some ⟨g, 0, none⟩ ∧ base ≤ g ∧ (∀ j, j < m → w.cell? ⟨g, i * m + j, none⟩ = some (c i j)) ∧ ∀ q, w.frozen? ⟨g, q, none⟩ = false := by
  have hs := h.size
  subst hs
  have hr := h.rd
  have h0 := h
  obtain ⟨a', cap', e', _, _, hc⟩ := hr
  simp only [Value.slice.injEq] at e'
  obtain ⟨rfl, _, rfl⟩ := e'
  obtain ⟨h1, h2⟩ := h
  rcases h2 with ⟨h2, h3⟩ | ⟨g, cap', cur, hv, hg, hh, r⟩
  · omega
  · simp only [Value.slice.injEq] at hv
    obtain ⟨rfl, _, rfl⟩ := hv
    obtain ⟨b, off, hb, hcell⟩ := hc i hi
    simp only [Option.some.injEq, Addr.mk.injEq] at hb
    obtain ⟨rfl, rfl, _⟩ := hb
    exact ⟨g, rfl, hg, fun j hj => by simpa using hcell j hj, fun q => World.ownsRow.frozenAt h0 q⟩

/-- one cell of an element is written -/
theorem OwnM.set1 {m : Nat} {w : World} {base : Nat} {e : TypeId} {g n n' cap : Nat} {c : Nat → Nat → Value} (h : OwnM m w base e (.slice (some ⟨g, 0, none⟩) n' cap) n c) {i j : Nat} (_hi : i < n) (hj : j < m) (x : Value) :
    OwnM m (w.setCell ⟨g, i * m + j, none⟩ x) base e (.slice (some ⟨g, 0, none⟩) n' cap) n (updC c i (fun j' => if j' = j then x else c i j')) := by
  have hs := h.size
  subst hs
  have := (World.ownsRow.stored h (i * m + j) x).1
  unfold OwnM
  have e : (flatC m n' c).set (i * m + j) x = flatC m n' (updC c i (fun j' => if j' = j then x else c i j')) := by
    apply List.ext_getElem?
    intro q
    by_cases hq : q < n' * m
    · obtain ⟨i', j', hj', rfl⟩ : ∃ i' j', j' < m ∧ q = i' * m + j' := ⟨q / m, q % m, Nat.mod_lt _ (by omega), by rw [Nat.mul_comm]; exact (Nat.div_add_mod q m).symm⟩
      have hi' : i' < n' := by
        rcases Nat.lt_or_ge i' n' with h | h
        · exact h
        · have := Nat.mul_le_mul_right m h; omega
      rw [flatC_get hi' hj']
      by_cases e1 : i' = i
      · subst e1
        by_cases e2 : j' = j
        · subst e2
          rw [List.getElem?_set_self (by rw [flatC_length]; exact hq)]
          simp [updC]
        · rw [List.getElem?_set_ne (by omega), flatC_get hi' hj']
          simp [updC, e2]
      · rw [List.getElem?_set_ne, flatC_get hi' hj']
        · simp [updC, e1]
        · intro e2
          have h1 : (i * m + j) / m = i := by rw [Nat.mul_comm, Nat.mul_add_div (by omega)]; simp [Nat.div_eq_of_lt hj]
          have h2 : (i' * m + j') / m = i' := by rw [Nat.mul_comm, Nat.mul_add_div (by omega)]; simp [Nat.div_eq_of_lt hj']
          rw [e2, h2] at h1
          exact e1 h1
    · rw [List.getElem?_eq_none (by rw [List.length_set, flatC_length]; omega), List.getElem?_eq_none (by rw [flatC_length]; omega)]
  rwa [← e]

theorem madeM {z : Value} {m n : Nat} (hz : z.cells.size = m) : (madeCells z.cells (n * m)).toList = flatC m n (fun _ j => z.cells[j]!) := by
  subst hz
  simp [madeCells, flatC, List.range_eq_range', Array.toList_range]

section
variable {P : Program} {w : World} {ops : Array Oper} {rest : List Oper} {o : Oper} {a : Act} {Q : Exit → Act → World → Prop}

/-- 'make([]T, n)' -/
theorem wp_makeM (hg : o.guard = none) {l c : Operand} {t : TypeId} (hop : o.op = Op.makeSlice t l c)
    (base : Nat) (e bytes m : Nat) (z : Value) (h1 : P.underlying t = some (.slice e)) (hinfo : (P.info? e).map (fun i => (i.zero, i.size, i.bytes)) = some (some z, m, bytes)) (hzm : z.cells.size = m)
    {kl kc : IntKind} {L C : Int} (n : Nat) (hl : a.eval l = .int kl L) (hc : a.eval c = .int kc C) (hL : L = (n : Int)) (hC : C = (n : Int)) (b2 : bytes * n ≤ 281474976710656) (b3 : n ≤ maxLen) (b4 : base ≤ w.heap.size)
    (hK : ∀ w', OwnM m w' base e (.slice (some ⟨w.heap.size, 0, none⟩) n n) n (fun _ j => z.cells[j]!) → w.grownBy w' none → w.heap.size < w'.heap.size → wpList P ops Q rest (a.put o.dst (.slice (some ⟨w.heap.size, 0, none⟩) n n)) w') :
    wpList P ops Q (o :: rest) a w := by
  obtain ⟨i, h2, h3, h4, h5⟩ := info_parts hinfo
  refine wpList_make_full w hg l c t hop base e i z m h1 h2 h3 h4 kl kc L C n hl hc hL hC (h5 ▸ b2) b3 b4 (fun w' r1 r2 => ?_)
  have ho : OwnM m w' base e (.slice (some ⟨w.heap.size, 0, none⟩) n n) n (fun _ j => z.cells[j]!) := by
    unfold OwnM; rw [← madeM hzm]; exact r1
  exact hK w' ho r2 (ho.base _ rfl).2

/-- 'make([]T, 0, n)' -/
theorem wp_make0M (hg : o.guard = none) {l c : Operand} {t : TypeId} (hop : o.op = Op.makeSlice t l c)
    (base : Nat) (e bytes m : Nat) (z : Value) (h1 : P.underlying t = some (.slice e)) (hinfo : (P.info? e).map (fun i => (i.zero, i.size, i.bytes)) = some (some z, m, bytes)) (f : Nat → Nat → Value)
    {kl kc : IntKind} {C : Int} (n : Nat) (hl : a.eval l = .int kl 0) (hc : a.eval c = .int kc C) (hC : C = (n : Int)) (b2 : bytes * n ≤ 281474976710656) (b3 : n ≤ maxLen) (b4 : base ≤ w.heap.size)
    (hK : ∀ w', OwnM m w' base e (.slice (some ⟨w.heap.size, 0, none⟩) 0 n) 0 f → w.grownBy w' none → w.heap.size < w'.heap.size → wpList P ops Q rest (a.put o.dst (.slice (some ⟨w.heap.size, 0, none⟩) 0 n)) w') :
    wpList P ops Q (o :: rest) a w := by
  obtain ⟨i, h2, h3, h4, h5⟩ := info_parts hinfo
  refine wpList_make_own w hg l c t hop base e i z m h1 h2 h3 h4 kl kc C n hl hc hC (h5 ▸ b2) b3 b4 (fun w' r1 r2 => ?_)
  have ho : OwnM m w' base e (.slice (some ⟨w.heap.size, 0, none⟩) 0 n) 0 f := by
    unfold OwnM; simpa [flatC] using r1
  exact hK w' ho r2 (ho.base _ rfl).2

/-- 'append(s, x)': one element, from its new cells. -/
theorem wp_app1M (hgd : o.guard = none) {s x : Operand} {t : TypeId}
    (ho : o.op = .call { callee := .builtin .append, args := #[s, x], argTypes := #[t, t] })
    (base : Nat) (e bytes m : Nat) (z : Value) (h1 : P.underlying t = some (.slice e)) (hinfo : (P.info? e).map (fun i => (i.zero, i.size, i.bytes)) = some (some z, m, bytes)) (hzm : z.cells.size = m) (hm : 0 < m)
    (v : Value) (n : Nat) (f : Nat → Nat → Value) (r : Nat → Value) (hs : a.eval s = v) (hown : OwnM m w base e v n f)
    {b : Nat} {c : Nat} (hx : a.eval x = .slice (some ⟨b, 0, none⟩) 1 c) (hcell : ∀ j, j < m → w.cell? ⟨b, j, none⟩ = some (r j)) (h1c : ∀ j, j < m → (r j).oneCell' = true)
    (hbytes : (n + 1) * bytes ≤ 140737488355328) (h63 : n + 1 ≤ maxLen) (hbase : base ≤ w.heap.size)
    (h : ∀ v' w', OwnM m w' base e v' (n + 1) (updC f n r) → w.grownBy w' v.ownBlock → wpList P ops Q rest (a.put o.dst v') w') : wpList P ops Q (o :: rest) a w := by
  obtain ⟨i, h2, h3, h4, h5⟩ := info_parts hinfo
  refine wpList_append_own w hgd s x t ho base e i z m bytes h1 h2 h3 h4 h5 hzm hm v n (flatC m n f) hs hown ⟨b, 0, none⟩ 1 c ((List.range m).map r) hx (by simp) ?_ ?_ h63 hbytes hbase ?_
  · intro j u hj
    rw [List.getElem?_map] at hj
    rcases Nat.lt_or_ge j m with h | h
    · simp [h] at hj; subst hj
      have e1 : (⟨b, 0, none⟩ : Addr).add j = ⟨b, j, none⟩ := by
        unfold Addr.add; split
        · next e => subst e; rfl
        · simp
      rw [e1]; exact hcell j h
    · simp [h] at hj
  · intro u hu
    rw [List.mem_map] at hu
    obtain ⟨j, hj, rfl⟩ := hu
    exact h1c j (List.mem_range.1 hj)
  · intro v' w' h1' h2' _
    refine h v' w' ?_ h2'
    unfold OwnM
    rw [flatC_snoc]
    exact h1'
end

end Go.Proofs.YtjgafkoboolclaaDoor
