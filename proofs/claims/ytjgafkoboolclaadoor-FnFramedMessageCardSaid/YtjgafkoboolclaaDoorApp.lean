import Derived.Test.YtjgafkoboolclaaDoorProg
import Derived.Test.YtjgafkoboolclaaDoorSym
import Derived.Deep.Upon
import Derived.Lib.AppendZeros
namespace Go.Proofs.YtjgafkoboolclaaDoor
open Go.RowKit

/-! 'append(s, x...)', of a slice that is read. -/
def catC (n : Nat) (f f' : Nat → Nat → Value) : Nat → Nat → Value := fun i j => if i < n then f i j else f' (i - n) j
theorem flatC_cat {m n n' : Nat} {f f' : Nat → Nat → Value} : flatC m n f ++ flatC m n' f' = flatC m (n + n') (catC n f f') := by
  apply List.ext_getElem?
  intro q
  rcases Nat.eq_zero_or_pos m with rfl | hm
  · simp [flatC]
  by_cases hq : q < (n + n') * m
  · obtain ⟨i, j, hj, rfl⟩ : ∃ i j, j < m ∧ q = i * m + j := ⟨q / m, q % m, Nat.mod_lt _ hm, by rw [Nat.mul_comm]; exact (Nat.div_add_mod q m).symm⟩
    have hi : i < n + n' := by
      rcases Nat.lt_or_ge i (n + n') with h | h
      · exact h
      · have := Nat.mul_le_mul_right m h; omega
    rw [flatC_get hi hj]
    by_cases hin : i < n
    · have hlt : i * m + j < n * m := by
        have : (i + 1) * m ≤ n * m := Nat.mul_le_mul_right m hin
        rw [Nat.add_mul] at this; omega
      rw [List.getElem?_append_left (by rw [flatC_length]; exact hlt), flatC_get hin hj]
      simp [catC, hin]
    · have hge : n * m ≤ i * m + j := by
        have := Nat.mul_le_mul_right m (show n ≤ i by omega); omega
      have e : i * m + j - n * m = (i - n) * m + j := by
        rw [Nat.sub_mul]; have := Nat.mul_le_mul_right m (show n ≤ i by omega); omega
      rw [List.getElem?_append_right (by rw [flatC_length]; exact hge), flatC_length, e, flatC_get (by omega) hj]
      simp [catC, hin]
  · rw [List.getElem?_eq_none (by rw [List.length_append, flatC_length, flatC_length, ← Nat.add_mul]; omega), List.getElem?_eq_none (by rw [flatC_length]; omega)]

variable {row : Option Nat} {w0 w w' : World} {I : List Part}
section
variable {P : Program} {ops : Array Oper} {rest : List Oper} {o : Oper} {a' : Act} {Q : Exit → Act → World → Prop}
theorem addr_add (b off k : Nat) : (⟨b, off, none⟩ : Addr).add k = ⟨b, off + k, none⟩ := by
  unfold Addr.add; split
  · next e => subst e; rfl
  · rfl

theorem wp_appMS (hgd : o.guard = none) {s x : Operand} {t : TypeId}
    (ho : o.op = .call { callee := .builtin .append, args := #[s, x], argTypes := #[t, t] })
    (e bytes m : Nat) (z : Value) (h1 : P.underlying t = some (.slice e)) (hinfo : (P.info? e).map (fun i => (i.zero, i.size, i.bytes)) = some (some z, m, bytes)) (hzm : z.cells.size = m) (hm : 0 < m)
    {v : Value} {n : Nat} {f : Nat → Nat → Value} (hs : a'.eval s = v) (hown : SH row w0 w (ownMP m e v n f :: I))
    {ad : Addr} {n' c : Nat} {f' : Nat → Nat → Value} (hx : a'.eval x = .slice (some ad) n' c) (hrd : RdM m w (.slice (some ad) n' c) n' f') (h1c : ∀ i j, i < n' → j < m → (f' i j).oneCell' = true)
    (hbytes : (n + n') * bytes ≤ 140737488355328) (h63 : n + n' ≤ maxLen)
    (h : ∀ v' w', SH row w0 w' (ownMP m e v' (n + n') (catC n f f') :: I) → wpList P ops Q rest (a'.put o.dst v') w') : wpList P ops Q (o :: rest) a' w := by
  obtain ⟨i, h2, h3, h4, h5⟩ := info_parts hinfo
  refine wpList_append_own_at w hgd s x t ho 0 e i z m bytes h1 h2 h3 h4 h5 hzm hm v n (flatC m n f) hs hown.p0 ad n' c (flatC m n' f') hx (flatC_length _ _ _) ?_ ?_ h63 hbytes (Nat.zero_le _) ?_
  · intro q u hq
    have hlt : q < n' * m := by
      rcases Nat.lt_or_ge q (n' * m) with h | h
      · exact h
      · rw [List.getElem?_eq_none (by rw [flatC_length]; exact h)] at hq; cases hq
    obtain ⟨i, j, hj, rfl⟩ : ∃ i j, j < m ∧ q = i * m + j := ⟨q / m, q % m, Nat.mod_lt _ hm, by rw [Nat.mul_comm]; exact (Nat.div_add_mod q m).symm⟩
    have hi : i < n' := by
      rcases Nat.lt_or_ge i n' with h | h
      · exact h
      · have := Nat.mul_le_mul_right m h; omega
    rw [flatC_get hi hj] at hq
    obtain ⟨b, off, ea, hc⟩ := hrd.at_ hi
    cases ea
    rw [addr_add, ← Nat.add_assoc, hc j hj, hq]
  · intro u hu
    obtain ⟨q, hq, rfl⟩ := List.getElem_of_mem hu
    rw [flatC_length] at hq
    obtain ⟨i, j, hj, rfl⟩ : ∃ i j, j < m ∧ q = i * m + j := ⟨q / m, q % m, Nat.mod_lt _ hm, by rw [Nat.mul_comm]; exact (Nat.div_add_mod q m).symm⟩
    have hi : i < n' := by
      rcases Nat.lt_or_ge i n' with h | h
      · exact h
      · have := Nat.mul_le_mul_right m h; omega
    have := flatC_get (c := f') hi hj
    rw [List.getElem?_eq_getElem (by rw [flatC_length]; exact hq)] at this
    rw [Option.some.inj this]
    exact h1c i j hi hj
  · intro v' w' h1' h2' _ h3'
    have hO : OwnM m w' 0 e v' (n + n') (catC n f f') := by unfold OwnM; rw [← flatC_cat]; exact h1'
    have hl : ∀ g, v'.ownBlock = some g → v.ownBlock = some g ∨ w.heap.size ≤ g := by
      intro g hg
      rcases h3' with e | e
      · exact .inl (e ▸ hg)
      · rw [e] at hg; right; have := Option.some.inj hg; omega
    exact h v' w' (hown.write (q := ownMP m e v' (n + n') (catC n f f')) h2' (fun g e => e) hO hl hl)

theorem wp_appKS (hgd : o.guard = none) {s x : Operand} {t : TypeId}
    (ho : o.op = .call { callee := .builtin .append, args := #[s, x], argTypes := #[t, t] }) (k : IntKind)
    (e bytes : Nat) (h1 : P.underlying t = some (.slice e)) (hinfo : (P.info? e).map (fun i => (i.zero, i.size, i.bytes)) = some (some (.int k 0), 1, bytes))
    {v : Value} {xs ys : List Int} (hs : a'.eval s = v) (hown : SH row w0 w (ownP k e v xs :: I))
    {ad : Addr} {n' c : Nat} (hx : a'.eval x = .slice (some ad) n' c) (hrd : RdK k w (.slice (some ad) n' c) ys)
    (hbytes : (xs.length + ys.length) * bytes ≤ 140737488355328) (h63 : xs.length + ys.length ≤ maxLen)
    (h : ∀ v' w', SH row w0 w' (ownP k e v' (xs ++ ys) :: I) → wpList P ops Q rest (a'.put o.dst v') w') : wpList P ops Q (o :: rest) a' w := by
  obtain ⟨i, h2, h3, h4, h5⟩ := info_parts hinfo
  obtain ⟨a0, c0, ev, -, -, -⟩ := id hrd
  simp only [Value.slice.injEq] at ev
  obtain ⟨-, en, -⟩ := ev
  subst en
  refine wpList_append_own_at w hgd s x t ho 0 e i (.int k 0) 1 bytes h1 h2 h3 h4 h5 rfl (by decide) v xs.length (xs.map (Value.int k)) hs hown.p0 ad ys.length c (ys.map (Value.int k)) hx (by simp) ?_ ?_ h63 hbytes (Nat.zero_le _) ?_
  · intro q u hq
    have hlt : q < ys.length := by
      rcases Nat.lt_or_ge q ys.length with h | h
      · exact h
      · rw [List.getElem?_eq_none (by simpa using h)] at hq; cases hq
    rw [gi_map hlt] at hq
    obtain ⟨b, off, ea, hc⟩ := hrd.at_ hlt
    cases ea
    rw [addr_add, hc, hq]
  · intro u hu
    obtain ⟨y, _, rfl⟩ := List.mem_map.1 hu
    rfl
  · intro v' w' h1' h2' _ h3'
    have hO : OwnK k w' 0 e v' (xs ++ ys) := by unfold OwnK; simpa using h1'
    have hl : ∀ g, v'.ownBlock = some g → v.ownBlock = some g ∨ w.heap.size ≤ g := by
      intro g hg
      rcases h3' with e | e
      · exact .inl (e ▸ hg)
      · rw [e] at hg; right; have := Option.some.inj hg; omega
    exact h v' w' (hown.write (q := ownP k e v' (xs ++ ys)) h2' (fun g e => e) hO hl hl)

/-- the source may be nil or empty -/
theorem wp_appMX (hgd : o.guard = none) {s x : Operand} {t : TypeId}
    (ho : o.op = .call { callee := .builtin .append, args := #[s, x], argTypes := #[t, t] })
    (e bytes m : Nat) (z : Value) (h1 : P.underlying t = some (.slice e)) (hinfo : (P.info? e).map (fun i => (i.zero, i.size, i.bytes)) = some (some z, m, bytes)) (hzm : z.cells.size = m) (hm : 0 < m)
    {v : Value} {n : Nat} {f : Nat → Nat → Value} (hs : a'.eval s = v) (hown : SH row w0 w (ownMP m e v n f :: I))
    {sx : Value} {n' : Nat} {f' : Nat → Nat → Value} (hx : a'.eval x = sx) (hrd : RdM m w sx n' f') (h1c : ∀ i j, i < n' → j < m → (f' i j).oneCell' = true)
    (hbytes : (n + n') * bytes ≤ 140737488355328) (h63 : n + n' ≤ maxLen)
    (h : ∀ v' w', SH row w0 w' (ownMP m e v' (n + n') (catC n f f') :: I) → wpList P ops Q rest (a'.put o.dst v') w') : wpList P ops Q (o :: rest) a' w := by
  obtain ⟨ad, cap, rfl, hl, hmx, hc⟩ := id hrd
  cases ad with
  | none =>
    have hz : n' = 0 := by
      rcases Nat.eq_zero_or_pos n' with h | h
      · exact h
      · obtain ⟨b, off, e, _⟩ := hc 0 h; cases e
    subst hz
    obtain ⟨i, h2, -, -, -⟩ := info_parts hinfo
    have ho1 : OwnM m w 0 e v n f := hown.p0
    obtain ⟨av, cv, rfl, hle, -, -⟩ := ho1.rd
    refine Go.Lib.wpList_append_run w hgd s x t t ho _ _ hs hx _ w (run_append_nothing w t t _ e i h1 h2 av n cv hle _ (Src.ofNil w h1 cap)) (h _ _ ?_)
    exact hown.congrM (c' := catC n f f') (fun i j hi hj => by simp [catC, hi])
  | some ad => exact wp_appMS hgd ho e bytes m z h1 hinfo hzm hm hs hown hx hrd h1c hbytes h63 h

theorem wp_appKX (hgd : o.guard = none) {s x : Operand} {t : TypeId}
    (ho : o.op = .call { callee := .builtin .append, args := #[s, x], argTypes := #[t, t] }) (k : IntKind)
    (e bytes : Nat) (h1 : P.underlying t = some (.slice e)) (hinfo : (P.info? e).map (fun i => (i.zero, i.size, i.bytes)) = some (some (.int k 0), 1, bytes))
    {v : Value} {xs ys : List Int} (hs : a'.eval s = v) (hown : SH row w0 w (ownP k e v xs :: I))
    {sx : Value} (hx : a'.eval x = sx) (hrd : RdK k w sx ys)
    (hbytes : (xs.length + ys.length) * bytes ≤ 140737488355328) (h63 : xs.length + ys.length ≤ maxLen)
    (h : ∀ v' w', SH row w0 w' (ownP k e v' (xs ++ ys) :: I) → wpList P ops Q rest (a'.put o.dst v') w') : wpList P ops Q (o :: rest) a' w := by
  obtain ⟨ad, cap, rfl, hl, hmx, hc⟩ := id hrd
  cases ad with
  | none =>
    have hz : ys = [] := by
      rcases Nat.eq_zero_or_pos ys.length with h | h
      · exact List.eq_nil_of_length_eq_zero h
      · obtain ⟨b, off, e, _⟩ := hc 0 h; cases e
    subst hz
    obtain ⟨i, h2, -, -, -⟩ := info_parts hinfo
    have ho1 : OwnK k w 0 e v xs := hown.p0
    obtain ⟨av, cv, rfl, hle, -, -⟩ := ho1.rd
    refine Go.Lib.wpList_append_run w hgd s x t t ho _ _ hs hx _ w (run_append_nothing w t t _ e i h1 h2 av xs.length cv hle _ (Src.ofNil w h1 cap)) (h _ _ ?_)
    rw [List.append_nil]; exact hown
  | some ad => exact wp_appKS hgd ho k e bytes h1 hinfo hs hown hx hrd hbytes h63 h
end
end Go.Proofs.YtjgafkoboolclaaDoor
