import Derived.Test.YtoilofcpijgaiaaProg
import Derived.Test.YtoilofcpijgaiaaSym
import Derived.Test.YtoilofcpijgaiaaInts
import Derived.Test.YtoilofcpijgaiaaPair
import Derived.Test.YtoilofcpijgaiaaBand
import Derived.Test.YtoilofcpijgaiaaApp
import Derived.Test.YtoilofcpijgaiaaBlk
import Derived.Test.YtoilofcpijgaiaaAsg
import Derived.Test.YtoilofcpijgaiaaDrawBand
namespace Go.Proofs.Ytoilofcpijgaiaa
open Go.RowKit

theorem DrawBandsValid_s (va : Value) (cs : List Int) (w : World) {row : Option Nat} {w0 : World} {I : List Part} (hs : SH row w0 w (rdP .u8 va cs :: I)) (hb : ∀ n ∈ cs, (Lit.int .u8 n).wf = true) :
    Calls Try.prog 33 #[va] w (fun e w' => ∃ v xs, e = .returned v ∧ xs.length ≤ 6 ∧ inBd xs (-2) 1000 ∧ SH row w0 w' (bandP v xs :: rdP .u8 va cs :: I)) := by
  have HB := Lib.hid hb
  clear hb
  go_enter Try.func33, Try.ntmps33
  go_wp2_with fail
  refine (open_s va cs _ (by first | exact hs | exact (hs).allocP1 _ _ | exact ((hs).allocP1 _ _).allocP1 _ _ | exact (((hs).allocP1 _ _).allocP1 _ _).allocP1 _ _ | exact ((((hs).allocP1 _ _).allocP1 _ _).allocP1 _ _).allocP1 _ _ | exact (hs).drew | exact ((hs).allocP1 _ _).drew | exact (((hs).allocP1 _ _).allocP1 _ _).drew | exact ((((hs).allocP1 _ _).allocP1 _ _).allocP1 _ _).drew | exact (((((hs).allocP1 _ _).allocP1 _ _).allocP1 _ _).allocP1 _ _).drew | exact (hs).drewN _ | exact ((hs).allocP1 _ _).drewN _ | exact (((hs).allocP1 _ _).allocP1 _ _).drewN _ | exact ((((hs).allocP1 _ _).allocP1 _ _).allocP1 _ _).drewN _ | exact (((((hs).allocP1 _ _).allocP1 _ _).allocP1 _ _).allocP1 _ _).drewN _) HB.out).mono ?_
  rintro e w1 ⟨g, sv, bs, rfl, hs⟩
  go_wp2_with fail
  refine (l20Bands_s g 0 2 _ (by first | exact hs | exact (hs).allocP1 _ _ | exact ((hs).allocP1 _ _).allocP1 _ _ | exact (((hs).allocP1 _ _).allocP1 _ _).allocP1 _ _ | exact ((((hs).allocP1 _ _).allocP1 _ _).allocP1 _ _).allocP1 _ _ | exact (hs).drew | exact ((hs).allocP1 _ _).drew | exact (((hs).allocP1 _ _).allocP1 _ _).drew | exact ((((hs).allocP1 _ _).allocP1 _ _).allocP1 _ _).drew | exact (((((hs).allocP1 _ _).allocP1 _ _).allocP1 _ _).allocP1 _ _).drew | exact (hs).drewN _ | exact ((hs).allocP1 _ _).drewN _ | exact (((hs).allocP1 _ _).allocP1 _ _).drewN _ | exact ((((hs).allocP1 _ _).allocP1 _ _).allocP1 _ _).drewN _ | exact (((((hs).allocP1 _ _).allocP1 _ _).allocP1 _ _).allocP1 _ _).drewN _) (by decide) (by decide)).mono ?_
  rintro e w2 ⟨v, xs, rfl, hl, hx, hs⟩
  have HX := Lib.hid hx
  clear hx
  go_wp2
  go_ret
  exact ⟨_, xs, rfl, hl, HX.out, hs.drop1⟩
theorem band_cells {row : Option Nat} {w0 w : World} {I : List Part} {ba oa n c k : Nat} {xs : List (Int × Int)} (h : SH row w0 w (bandP (.slice (some ⟨ba, oa, none⟩) n c) xs :: I)) (hk : k < xs.length) :
    w.cell? ⟨ba, oa + k * 2, none⟩ = some (.int .i64 (bF xs k)) ∧ w.cell? ⟨ba, oa + k * 2 + 1, none⟩ = some (.int .i64 (bL xs k)) := by
  obtain ⟨b, o, e, hc⟩ := (OwnM.rd h.p0).at_ hk
  cases e
  exact ⟨hc 0 (by decide), hc 1 (by decide)⟩

/-- the elements from i on -/
theorem RdM.sub {m : Nat} {w : World} {b off n' n cap : Nat} {c : Nat → Nat → Value} (h : RdM m w (.slice (some ⟨b, off, none⟩) n' cap) n c) {i k : Nat} (hk : i + k ≤ n) : RdM m w (.slice (some ⟨b, off + i * m, none⟩) k (cap - i)) k (fun p j => c (i + p) j) := by
  obtain ⟨ad, cp, hv, hl, hmx, hc⟩ := h
  obtain ⟨rfl, rfl, rfl⟩ := Value.slice.inj hv
  refine ⟨some ⟨b, off + i * m, none⟩, cap - i, rfl, by omega, by omega, fun p hp => ?_⟩
  obtain ⟨b', o', hx, hcell⟩ := hc (i + p) (by omega)
  simp only [Option.some.injEq, Addr.mk.injEq, and_true] at hx
  obtain ⟨rfl, rfl⟩ := hx
  refine ⟨b, off + i * m, rfl, fun j hj => ?_⟩
  rw [← hcell j hj, Nat.add_mul, Nat.add_assoc off]
section
variable {row : Option Nat} {w0 w : World} {I : List Part} {P : Program} {ops : Array Oper} {o : Oper} {a : Act} {Q : Exit → Act → World → Prop}
theorem step_appMG {K : Act → World → Prop} {E : Prop} (hw : Region.wanted o (yielded ops a.tmps) = true) {s x : Operand} {t : TypeId}
    (ho : o.op = .call { callee := .builtin .append, args := #[s, x], argTypes := #[t, t] })
    (e bytes m : Nat) (z : Value) (h1 : P.underlying t = some (.slice e)) (hinfo : (P.info? e).map (fun i => (i.zero, i.size, i.bytes)) = some (some z, m, bytes)) (hzm : z.cells.size = m) (hm : 0 < m)
    {v : Value} {n : Nat} {f : Nat → Nat → Value} (hs : a.eval s = v) (hown : SH row w0 w (ownMP m e v n f :: I))
    {sx : Value} {n' : Nat} {f' : Nat → Nat → Value} (hx : a.eval x = sx) (hrd : RdM m w sx n' f') (h1c : ∀ i j, i < n' → j < m → (f' i j).oneCell' = true)
    (hbytes : (n + n') * bytes ≤ 140737488355328) (h63 : n + n' ≤ maxLen)
    (h : ∀ v' w', SH row w0 w' (ownMP m e v' (n + n') (catC n f f') :: I) → K (a.put o.dst v') w') :
    if Region.wanted o (yielded ops a.tmps) = true then Oper.wp P o a w K Q else E := by
  rw [if_pos hw]
  obtain ⟨i, h2, h3, h4, h5⟩ := info_parts hinfo
  have hO : OwnM m w 0 e v n f := hown.p0
  obtain ⟨ad, cap, rfl, hl, hmx, hc⟩ := id hrd
  cases ad with
  | none =>
    have hz : n' = 0 := by
      rcases Nat.eq_zero_or_pos n' with h | h
      · exact h
      · obtain ⟨b, off, e, _⟩ := hc 0 h; cases e
    subst hz
    obtain ⟨av, cv, rfl, hle, -, -⟩ := hO.rd
    refine Go.Lib.wp_append_run w s x t t ho _ _ hs hx _ w (run_append_nothing w t t _ e i h1 h2 av n cv hle _ (Src.ofNil w h1 cap)) (h _ _ ?_)
    exact hown.congrM (c' := catC n f f') (fun i j hi hj => by simp [catC, hi])
  | some ad =>
    obtain ⟨v', w', r1, r2, r3, -, r5⟩ := run_append_own_at (P := P) (w := w) 0 t o.type e i z m bytes h1 h2 h3 h4 h5 hzm hm v n (flatC m n f) hO ad n' cap (flatC m n' f') (flatC_length _ _ _)
      (fun q u hq => by
        have hlt : q < n' * m := by
          rcases Nat.lt_or_ge q (n' * m) with h | h
          · exact h
          · rw [List.getElem?_eq_none (by rw [flatC_length]; exact h)] at hq; cases hq
        obtain ⟨i, j, hj, rfl⟩ : ∃ i j, j < m ∧ q = i * m + j := ⟨q / m, q % m, Nat.mod_lt _ hm, by rw [Nat.mul_comm]; exact (Nat.div_add_mod q m).symm⟩
        have hi : i < n' := by
          rcases Nat.lt_or_ge i n' with h | h
          · exact h
          · have := Nat.mul_le_mul_right m h; omega
        rw [flatC_get hi hj] at hq
        obtain ⟨b, off, ea, hc2⟩ := hrd.at_ hi
        cases ea
        rw [addr_add, ← Nat.add_assoc, hc2 j hj, hq]) (fun u hu => by
        obtain ⟨q, hq, rfl⟩ := List.getElem_of_mem hu
        rw [flatC_length] at hq
        obtain ⟨i, j, hj, rfl⟩ : ∃ i j, j < m ∧ q = i * m + j := ⟨q / m, q % m, Nat.mod_lt _ hm, by rw [Nat.mul_comm]; exact (Nat.div_add_mod q m).symm⟩
        have hi : i < n' := by
          rcases Nat.lt_or_ge i n' with h | h
          · exact h
          · have := Nat.mul_le_mul_right m h; omega
        have := flatC_get (c := f') hi hj
        rw [List.getElem?_eq_getElem (by rw [flatC_length]; exact hq)] at this
        rw [Option.some.inj this]
        exact h1c i j hi hj) h63 hbytes (Nat.zero_le _)
    refine Go.Lib.wp_append_run w s x t t ho _ _ hs hx v' w' r1 (h v' w' ?_)
    have hO' : OwnM m w' 0 e v' (n + n') (catC n f f') := by unfold OwnM; rw [← flatC_cat]; exact r2
    have hl : ∀ g, v'.ownBlock = some g → v.ownBlock = some g ∨ w.heap.size ≤ g := by
      intro g hg
      rcases r5 with e | e
      · exact .inl (e ▸ hg)
      · rw [e] at hg; right; have := Option.some.inj hg; omega
    exact hown.write (q := ownMP m e v' (n + n') (catC n f f')) r3 (fun g e => e) hO' hl hl
theorem step_app1MG {K : Act → World → Prop} {E : Prop} (hw : Region.wanted o (yielded ops a.tmps) = true) {s x : Operand} {t : TypeId}
    (ho : o.op = .call { callee := .builtin .append, args := #[s, x], argTypes := #[t, t] })
    (e bytes m : Nat) (z : Value) (h1 : P.underlying t = some (.slice e)) (hinfo : (P.info? e).map (fun i => (i.zero, i.size, i.bytes)) = some (some z, m, bytes)) (hzm : z.cells.size = m) (hm : 0 < m)
    {v : Value} {n : Nat} {f : Nat → Nat → Value} (r : Nat → Value) (hs : a.eval s = v) (hown : SH row w0 w (ownMP m e v n f :: I))
    {b' : Nat} {c : Nat} (hx : a.eval x = .slice (some ⟨b', 0, none⟩) 1 c) (hcell : ∀ j, j < m → w.cell? ⟨b', j, none⟩ = some (r j)) (h1c : ∀ j, j < m → (r j).oneCell' = true)
    (hbytes : (n + 1) * bytes ≤ 140737488355328) (h63 : n + 1 ≤ maxLen)
    (h : ∀ v' w', SH row w0 w' (ownMP m e v' (n + 1) (updC f n r) :: I) → K (a.put o.dst v') w') :
    if Region.wanted o (yielded ops a.tmps) = true then Oper.wp P o a w K Q else E := by
  rw [if_pos hw]
  obtain ⟨i, h2, h3, h4, h5⟩ := info_parts hinfo
  have hO : OwnM m w 0 e v n f := hown.p0
  obtain ⟨v', w', r1, r2, r3, -, r5⟩ := run_append_own_at (P := P) (w := w) 0 t o.type e i z m bytes h1 h2 h3 h4 h5 hzm hm v n (flatC m n f) hO ⟨b', 0, none⟩ 1 c ((List.range m).map r) (by simp)
    (fun j u hj => by
      rw [List.getElem?_map] at hj
      rcases Nat.lt_or_ge j m with h | h
      · simp [h] at hj; subst hj
        have e1 : (⟨b', 0, none⟩ : Addr).add j = ⟨b', j, none⟩ := by
          unfold Addr.add; split
          · next e => subst e; rfl
          · simp
        rw [e1]; exact hcell j h
      · simp [h] at hj) (fun u hu => by
      rw [List.mem_map] at hu
      obtain ⟨j, hj, rfl⟩ := hu
      exact h1c j (List.mem_range.1 hj)) h63 hbytes (Nat.zero_le _)
  refine Go.Lib.wp_append_run w s x t t ho _ _ hs hx v' w' r1 (h v' w' ?_)
  have hO' : OwnM m w' 0 e v' (n + 1) (updC f n r) := by unfold OwnM; rw [flatC_snoc]; exact r2
  have hl : ∀ g, v'.ownBlock = some g → v.ownBlock = some g ∨ w.heap.size ≤ g := by
    intro g hg
    rcases r5 with e | e
    · exact .inl (e ▸ hg)
    · rw [e] at hg; right; have := Option.some.inj hg; omega
  exact hown.write (q := ownMP m e v' (n + 1) (updC f n r)) r3 (fun g e => e) hO' hl hl
end
theorem band0 {row : Option Nat} {w0 w : World} {I : List Part} {ba oa n c : Nat} {xs : List (Int × Int)} (h : SH row w0 w (bandP (.slice (some ⟨ba, oa, none⟩) n c) xs :: I)) (hk : 0 < xs.length) :
    w.cell? ⟨ba, oa, none⟩ = some (.int .i64 (bF xs 0)) ∧ w.cell? ⟨ba, oa + 1, none⟩ = some (.int .i64 (bL xs 0)) := by
  have h1 := band_cells h hk
  rw [Nat.zero_mul, Nat.add_zero] at h1
  exact h1
theorem rd_again {w : World} {t : TypeId} {v : Value} {fs : List (Int × Int)} {g : Nat → Nat → Value} (h : OwnM 2 w 0 t v (0 + fs.length + 1) (updC (catC 0 g (bC fs)) (0 + fs.length) (rowB (bF fs 0) (bL fs 0)))) : RdBand w v (fs ++ [(bF fs 0, bL fs 0)]) := by
  have h1 := OwnM.rd h
  unfold RdBand
  rw [show (fs ++ [(bF fs 0, bL fs 0)]).length = 0 + fs.length + 1 by simp]
  refine h1.congr (fun i j hi hj => ?_)
  unfold updC catC
  by_cases e : i = 0 + fs.length
  · rw [if_pos e]
    obtain rfl : i = fs.length := by omega
    unfold rowB bC bF bL
    rw [List.getD_eq_getElem?_getD (l := fs ++ _), List.getElem?_append_right (Nat.le_refl _), Nat.sub_self]; rfl
  · rw [if_neg e, if_neg (Nat.not_lt_zero _), Nat.sub_zero]
    unfold bC bF bL
    rw [List.getD_eq_getElem?_getD (l := fs ++ _), List.getElem?_append_left (by omega), List.getD_eq_getElem?_getD]
theorem SH.litEmpty {row : Option Nat} {w0 w : World} {I : List Part} (h : SH row w0 w I) (c : Array Value) (t : TypeId) (f : Nat → Nat → Value) : SH row w0 ((w.alloc (.cells c t)).alloc (.cells #[] t)) (ownMP 2 t (.slice (some ⟨w.heap.size + 1, 0, none⟩) 0 0) 0 f :: blkP w.heap.size c t :: I) := by
  have h1 := (h.allocP c t).ownEmptyM 2 (by decide) t f
  simp only [World.size_alloc] at h1
  exact h1
theorem wanted_g {c A B : Prop} [Decidable c] (h : c) (ha : A) : if c then A else B := by rw [if_pos h]; exact ha
theorem bvB_tail {f : Int × Int} {t : List (Int × Int)} (h : bvB (f :: t) = true) : bvB t = true := by
  rw [bvB_true] at h ⊢
  refine ⟨by have := h.1; simp at this; omega, fun i hi => ?_⟩
  have h1 := h.2 (i + 1) (by simpa using hi)
  have eF : ∀ j, bF (f :: t) (j + 1) = bF t j := fun j => rfl
  have eL : ∀ j, bL (f :: t) (j + 1) = bL t j := fun j => rfl
  unfold bvAt at h1 ⊢
  rw [eF, eL] at h1
  simp only [Bool.and_eq_true, Bool.or_eq_true, decide_eq_true_eq] at h1 ⊢
  refine ⟨h1.1, ?_⟩
  rcases Nat.eq_zero_or_pos i with h2 | h2
  · exact .inl h2
  · right
    obtain ⟨q, rfl⟩ : ∃ q, i = q + 1 := ⟨i - 1, by omega⟩
    have := h1.2
    rw [show q + 1 + 1 - 1 = q + 1 from rfl, eL] at this
    rw [show q + 1 - 1 = q from rfl]
    omega
theorem bvB_again {f : Int × Int} {t : List (Int × Int)} (h : bvB (f :: t) = true) : bvB ((f :: t) ++ [f]) = false := by
  rw [bvB_true] at h
  have hn : (f :: t).length < ((f :: t) ++ [f]).length := by simp
  refine bvB_bad hn ?_
  cases hb : bvAt ((f :: t) ++ [f]) (f :: t).length
  · rfl
  exfalso
  unfold bvAt at hb
  simp only [Bool.and_eq_true, Bool.or_eq_true, decide_eq_true_eq] at hb
  have eb : ∀ i, i < (f :: t).length → bF ((f :: t) ++ [f]) i = bF (f :: t) i ∧ bL ((f :: t) ++ [f]) i = bL (f :: t) i := fun i hi => by
    unfold bF bL
    rw [List.getD_eq_getElem?_getD, List.getElem?_append_left hi, List.getD_eq_getElem?_getD]; exact ⟨rfl, rfl⟩
  have el : bF ((f :: t) ++ [f]) (f :: t).length = f.1 := by
    unfold bF
    rw [List.getD_eq_getElem?_getD, List.getElem?_append_right (Nat.le_refl _), Nat.sub_self]; rfl
  -- the firsts ascend
  have asc : ∀ i, i < (f :: t).length → f.1 ≤ bL (f :: t) i := by
    intro i
    induction i with
    | zero =>
      intro hi
      have h0 := h.2 0 hi
      unfold bvAt at h0
      simp only [Bool.and_eq_true, decide_eq_true_eq] at h0
      exact h0.1.2.1
    | succ i ih =>
      intro hi
      have h0 := h.2 (i + 1) hi
      have h1 := ih (by omega)
      unfold bvAt at h0
      simp only [Bool.and_eq_true, Bool.or_eq_true, decide_eq_true_eq] at h0
      have h2 := h0.2
      rw [show i + 1 - 1 = i from rfl] at h2
      omega
  have hl : 0 < (f :: t).length := by simp
  have h3 := asc ((f :: t).length - 1) (by omega)
  rw [el, (eb ((f :: t).length - 1) (by omega)).2] at hb
  rcases hb.2 with h4 | h4
  · omega
  · omega
set_option maxRecDepth 100000 in
set_option maxHeartbeats 4000000 in
theorem fnBandsValid_c (vc : Value) (c : List Int) (w : World) (hc : RdB w vc c) (bc : ∀ n ∈ c, (Lit.int .u8 n).wf = true) :
    Calls Try.prog 8 #[vc] w (Ret w fun v _ => v = .bool true) := by
  have hs := SH.add (p := rdP .u8 vc c) (SH.start0 w) (by simp) hc rdP_wr
  obtain ⟨ac, cc, rfl, -⟩ := hc.form
  have Bc := Lib.hid bc
  clear hc bc
  by_cases lc : c.length ≤ 1048576
  case neg =>
    go_enter Try.func8, Try.ntmps8
    go_wp2
    go_ret
    exact Ret.mk1 rfl (Below.refl _ _)
  go_enter Try.func8, Try.ntmps8
  go_wp2_with fail
  refine (DrawBandsValid_s _ c _ (by first | exact hs | exact (hs).allocP1 _ _ | exact ((hs).allocP1 _ _).allocP1 _ _ | exact (((hs).allocP1 _ _).allocP1 _ _).allocP1 _ _ | exact ((((hs).allocP1 _ _).allocP1 _ _).allocP1 _ _).allocP1 _ _ | exact (hs).drew | exact ((hs).allocP1 _ _).drew | exact (((hs).allocP1 _ _).allocP1 _ _).drew | exact ((((hs).allocP1 _ _).allocP1 _ _).allocP1 _ _).drew | exact (((((hs).allocP1 _ _).allocP1 _ _).allocP1 _ _).allocP1 _ _).drew | exact (hs).drewN _ | exact ((hs).allocP1 _ _).drewN _ | exact (((hs).allocP1 _ _).allocP1 _ _).drewN _ | exact ((((hs).allocP1 _ _).allocP1 _ _).allocP1 _ _).drewN _ | exact (((((hs).allocP1 _ _).allocP1 _ _).allocP1 _ _).allocP1 _ _).drewN _) Bc.out).mono ?_
  rintro e w1 ⟨v1, fs, rfl, hl, hx, hs⟩
  obtain ⟨a1, c1, rfl, -⟩ := (OwnM.rd hs.p0).form
  clear hx
  go_wp2_with fail
  refine (SH.ret hs (by repeat' (first | with_reducible exact Below.refl _ _ | with_reducible assumption | with_reducible refine below_drewN ?_ _ | with_reducible refine Below.drew ?_ | with_reducible refine Below.alloc ?_ ?_ _ | with_reducible refine Below.setCell ?_ ?_ _ | go_size)) fun hs => implBandsValid_c _ fs _ (OwnM.rd hs.p0)).mono ?_
  rintro e w2 ⟨v, rfl, rfl, hs⟩
  go_wp2_with fail
  refine (SH.quiet hs (by repeat' (first | with_reducible exact Below.refl _ _ | with_reducible assumption | with_reducible refine below_drewN ?_ _ | with_reducible refine Below.drew ?_ | with_reducible refine Below.alloc ?_ ?_ _ | with_reducible refine Below.setCell ?_ ?_ _ | go_size)) fun hs => specBandsValid_c _ fs _ (OwnM.rd hs.p0)).mono ?_
  rintro e w3 ⟨rfl, hs⟩
  have e0 : (bvB fs != bvB fs) = false := bne_self_eq_false _
  cases hbv : bvB fs
  · rw [hbv] at e0
    go_wp2_with fail
    refine (SH.ret hs (by repeat' (first | with_reducible exact Below.refl _ _ | with_reducible assumption | with_reducible refine below_drewN ?_ _ | with_reducible refine Below.drew ?_ | with_reducible refine Below.alloc ?_ ?_ _ | with_reducible refine Below.setCell ?_ ?_ _ | go_size)) fun hs => alive_c _).mono ?_
    rintro e w4 ⟨v, rfl, rfl, hs⟩
    go_wp2
    go_ret
    exact Ret.mk1 rfl (SH.done (by first | exact hs | exact (hs).alloc _ | exact ((hs).alloc _).alloc _ | exact (((hs).alloc _).alloc _).alloc _ | exact ((((hs).alloc _).alloc _).alloc _).alloc _ | exact (hs).drew | exact ((hs).alloc _).drew | exact (((hs).alloc _).alloc _).drew | exact ((((hs).alloc _).alloc _).alloc _).drew | exact (((((hs).alloc _).alloc _).alloc _).alloc _).drew | exact (hs).drewN _ | exact ((hs).alloc _).drewN _ | exact (((hs).alloc _).alloc _).drewN _ | exact ((((hs).alloc _).alloc _).alloc _).drewN _ | exact (((((hs).alloc _).alloc _).alloc _).alloc _).drewN _))
  · rw [hbv] at e0
    by_cases hz : fs.length = 0
    · have ez : ((fs.length : Int) == 0) = true := by rw [beq_iff_eq]; omega
      clear hz
      go_wp2_with fail
      refine (SH.ret hs (by repeat' (first | with_reducible exact Below.refl _ _ | with_reducible assumption | with_reducible refine below_drewN ?_ _ | with_reducible refine Below.drew ?_ | with_reducible refine Below.alloc ?_ ?_ _ | with_reducible refine Below.setCell ?_ ?_ _ | go_size)) fun hs => alive_c _).mono ?_
      rintro e w4 ⟨v, rfl, rfl, hs⟩
      go_wp2
      go_ret
      exact Ret.mk1 rfl (SH.done (by first | exact hs | exact (hs).alloc _ | exact ((hs).alloc _).alloc _ | exact (((hs).alloc _).alloc _).alloc _ | exact ((((hs).alloc _).alloc _).alloc _).alloc _ | exact (hs).drew | exact ((hs).alloc _).drew | exact (((hs).alloc _).alloc _).drew | exact ((((hs).alloc _).alloc _).alloc _).drew | exact (((((hs).alloc _).alloc _).alloc _).alloc _).drew | exact (hs).drewN _ | exact ((hs).alloc _).drewN _ | exact (((hs).alloc _).alloc _).drewN _ | exact ((((hs).alloc _).alloc _).alloc _).drewN _ | exact (((((hs).alloc _).alloc _).alloc _).alloc _).drewN _))
    · have ez : ((fs.length : Int) == 0) = false := by rw [beq_eq_false_iff_ne]; omega
      have hlt0 : 0 < fs.length := by omega
      clear hz
      obtain ⟨ba, oa, rfl, hca⟩ := (OwnM.rd hs.p0).at_ hlt0
      have hc0 : _ = some (Value.int .i64 (bF fs 0)) := hca 0 (by decide)
      have hc1 : _ = some (Value.int .i64 (bL fs 0)) := hca 1 (by decide)
      rw [Nat.zero_mul, Nat.add_zero] at hc0 hc1
      clear hca
      have HC := Lib.hid (And.intro hc0 hc1)
      have hcap : fs.length ≤ c1 ∧ c1 ≤ 9223372036854775807 := by
        obtain ⟨_, _, hv, h1, h2, -⟩ := OwnM.rd hs.p0
        obtain ⟨-, -, rfl⟩ := Value.slice.inj hv
        exact ⟨h1, h2⟩
      obtain ⟨hcap1, hcap2⟩ := hcap
      have HT : Hid (bvB fs.tail = true) := by
        cases fs with
        | nil => simp at hlt0
        | cons f t => exact bvB_tail hbv
      have HN : Hid (bvB (fs ++ [(bF fs 0, bL fs 0)]) = false) := by
        cases fs with
        | nil => simp at hlt0
        | cons f t => exact bvB_again hbv
      have htl : ∀ p j, bC fs (1 + p) j = bC fs.tail p j := by
        cases fs with
        | nil => simp at hlt0
        | cons f t => intro p j; rw [Nat.add_comm]; rfl
      have HTL := Lib.hid htl
      clear htl hbv e0 ez
      have i0 : (1 : Int) ≤ (fs.length : Int) := by omega
      have i1 : (fs.length : Int) ≤ (c1 : Int) := by omega
      have i2 : (1 : Int) ≤ (c1 : Int) := by omega
      have i3 : (0 : Int) < (fs.length : Int) := by omega
      by_cases hcq : c1 = 1
      · subst hcq
        obtain hn1 : fs.length = 1 := by omega
        have HSUB : Hid (∀ wx, RdBand wx (.slice (some ⟨ba, oa, none⟩) 0 0) fs.tail) := Lib.hid fun wx => by
          have e : fs.tail = [] := List.eq_nil_of_length_eq_zero (by rw [List.length_tail]; omega)
          rw [e]; exact ⟨some ⟨ba, oa, none⟩, 0, rfl, Nat.le_refl _, by unfold maxLen; omega, fun i hi => absurd hi (Nat.not_lt_zero _)⟩
        clear hn1
        go_wp2
        go_region_held3 (fun wx => wx.cell? ⟨ba, oa, none⟩ = some (.int .i64 (bF fs 0)) ∧ wx.cell? ⟨ba, oa + 1, none⟩ = some (.int .i64 (bL fs 0))) (first | with_reducible exact band0 hs5.drop0 hlt0 | with_reducible exact band0 hs4.drop0 hlt0 | with_reducible exact band0 hsA.drop0.drop0 hlt0 | with_reducible exact band0 hsB.drop0 hlt0 | with_reducible exact band0 (hsB.drop0.alloc _) hlt0 | with_reducible exact band0 hs2 hlt0 | with_reducible exact band0 (hs2.alloc _) hlt0 | with_reducible exact band0 ((hs2.alloc _).alloc _) hlt0 | exact HC.out) (first | (go_at_call 34; refine (implBandsValid_c _ (fs ++ [(bF fs 0, bL fs 0)]) _ (rd_again hs4.p0)).mono ?_; rintro e w5 ⟨v, rfl, rfl, hb5⟩; rw [HN.out]; have hs5 := hs4.below hb5) | (go_at_call 34; refine (implBandsValid_c _ fs.tail _ (HSUB.out _)).mono ?_; rintro e w2 ⟨v, rfl, rfl, hb2⟩; rw [HT.out]; have hs2 := hs.below (below_undrew hb2)) | (refine step_app1MG (n := 0 + fs.length) (by rfl) rfl 47 16 2 (.agg #[.int .i64 0, .int .i64 0]) Try.underlying43 info_band rfl (by decide) (rowB (bF fs 0) (bL fs 0)) rfl (hsA) rfl (fun j hj => by have : j = 0 ∨ j = 1 := (by omega); rcases this with rfl | rfl; { exact blk_cell hsA.p1 0 }; { exact blk_cell hsA.p1 1 }) (fun j hj => by unfold rowB; rfl) (by omega) (by unfold maxLen; omega) ?_; intro v4 w4 h4; have hs4 := h4.drop1) | (refine step_app1MG (n := 0 + fs.length) (by rfl) rfl 47 16 2 (.agg #[.int .i64 0, .int .i64 0]) Try.underlying43 info_band rfl (by decide) (rowB (bF fs 0) (bL fs 0)) rfl (hsB.alloc _) rfl (fun j hj => by have : j = 0 ∨ j = 1 := (by omega); rcases this with rfl | rfl <;> exact World.cell?_alloc_at _ _ _ _ (by first | rfl | simp only [World.size_alloc])) (fun j hj => by unfold rowB; rfl) (by omega) (by unfold maxLen; omega) ?_; intro v4 w4 hs4) | (refine step_appMG (n := 0) (n' := fs.length) (f' := bC fs) (by rfl) rfl 47 16 2 (.agg #[.int .i64 0, .int .i64 0]) Try.underlying43 info_band rfl (by decide) rfl (hs2.ownEmptyM 2 (by decide) 47 (fun _ _ => undef)) rfl (RdM.below (OwnM.rd hs2.p0) (by decide) ((Below.refl _ _).alloc (Nat.le_refl _) _)) (fun i j hi hj => by unfold bC; rfl) (by omega) (by unfold maxLen; omega) ?_; intro v3 w3 hsB; try simp only [World.size_alloc] at hsB) | (refine step_appMG (n := 0) (n' := fs.length) (f' := bC fs) (by rfl) rfl 47 16 2 (.agg #[.int .i64 0, .int .i64 0]) Try.underlying43 info_band rfl (by decide) rfl ((hs2.ownEmptyM 2 (by decide) 47 (fun _ _ => undef)).allocP1 #[.int .i64 (bF fs 0), .int .i64 (bL fs 0)] 47) rfl (RdM.below (OwnM.rd hs2.p0) (by decide) (by go_grown)) (fun i j hi hj => by unfold bC; rfl) (by omega) (by unfold maxLen; omega) ?_; intro v3 w3 hsA; try simp only [World.size_alloc] at hsA) | (refine step_appMG (n := 0) (n' := fs.length) (f' := bC fs) (by rfl) rfl 47 16 2 (.agg #[.int .i64 0, .int .i64 0]) Try.underlying43 info_band rfl (by decide) rfl (hs2.litEmpty #[.int .i64 (bF fs 0), .int .i64 (bL fs 0)] 47 (fun _ _ => undef)) rfl (RdM.below (OwnM.rd hs2.p0) (by decide) (by go_grown)) (fun i j hi hj => by unfold bC; rfl) (by omega) (by unfold maxLen; omega) ?_; intro v3 w3 hsA; try simp only [World.size_alloc] at hsA))
        all_goals
          go_wp2
          go_ret
          exact Ret.mk1 rfl hs5.done
      · have hsub := RdM.sub (OwnM.rd hs.p0) (i := 1) (k := fs.length - 1) (by omega)
        have HSUB := Lib.hid (show RdBand _ (.slice (some ⟨ba, oa + 1 * 2, none⟩) (fs.length - 1) (c1 - 1)) fs.tail by
          have e : fs.tail.length = fs.length - 1 := List.length_tail
          unfold RdBand; rw [e]; exact hsub.congr (fun i j _ _ => HTL.out i j))
        rw [Nat.one_mul] at HSUB
        clear hsub
        go_wp2
        go_region_held3 (fun wx => wx.cell? ⟨ba, oa, none⟩ = some (.int .i64 (bF fs 0)) ∧ wx.cell? ⟨ba, oa + 1, none⟩ = some (.int .i64 (bL fs 0))) (first | with_reducible exact band0 hs5.drop0 hlt0 | with_reducible exact band0 hs4.drop0 hlt0 | with_reducible exact band0 hsA.drop0.drop0 hlt0 | with_reducible exact band0 hsB.drop0 hlt0 | with_reducible exact band0 (hsB.drop0.alloc _) hlt0 | with_reducible exact band0 hs2 hlt0 | with_reducible exact band0 (hs2.alloc _) hlt0 | with_reducible exact band0 ((hs2.alloc _).alloc _) hlt0 | exact HC.out) (first | (go_at_call 34; refine (implBandsValid_c _ (fs ++ [(bF fs 0, bL fs 0)]) _ (rd_again hs4.p0)).mono ?_; rintro e w5 ⟨v, rfl, rfl, hb5⟩; rw [HN.out]; have hs5 := hs4.below hb5) | (go_at_call 34; refine (implBandsValid_c _ fs.tail _ (HSUB.out.below (by decide) (Below.refl _ _).drew)).mono ?_; rintro e w2 ⟨v, rfl, rfl, hb2⟩; rw [HT.out]; have hs2 := hs.below (below_undrew hb2)) | (refine step_app1MG (n := 0 + fs.length) (by rfl) rfl 47 16 2 (.agg #[.int .i64 0, .int .i64 0]) Try.underlying43 info_band rfl (by decide) (rowB (bF fs 0) (bL fs 0)) rfl (hsA) rfl (fun j hj => by have : j = 0 ∨ j = 1 := (by omega); rcases this with rfl | rfl; { exact blk_cell hsA.p1 0 }; { exact blk_cell hsA.p1 1 }) (fun j hj => by unfold rowB; rfl) (by omega) (by unfold maxLen; omega) ?_; intro v4 w4 h4; have hs4 := h4.drop1) | (refine step_app1MG (n := 0 + fs.length) (by rfl) rfl 47 16 2 (.agg #[.int .i64 0, .int .i64 0]) Try.underlying43 info_band rfl (by decide) (rowB (bF fs 0) (bL fs 0)) rfl (hsB.alloc _) rfl (fun j hj => by have : j = 0 ∨ j = 1 := (by omega); rcases this with rfl | rfl <;> exact World.cell?_alloc_at _ _ _ _ (by first | rfl | simp only [World.size_alloc])) (fun j hj => by unfold rowB; rfl) (by omega) (by unfold maxLen; omega) ?_; intro v4 w4 hs4) | (refine step_appMG (n := 0) (n' := fs.length) (f' := bC fs) (by rfl) rfl 47 16 2 (.agg #[.int .i64 0, .int .i64 0]) Try.underlying43 info_band rfl (by decide) rfl (hs2.ownEmptyM 2 (by decide) 47 (fun _ _ => undef)) rfl (RdM.below (OwnM.rd hs2.p0) (by decide) ((Below.refl _ _).alloc (Nat.le_refl _) _)) (fun i j hi hj => by unfold bC; rfl) (by omega) (by unfold maxLen; omega) ?_; intro v3 w3 hsB; try simp only [World.size_alloc] at hsB) | (refine step_appMG (n := 0) (n' := fs.length) (f' := bC fs) (by rfl) rfl 47 16 2 (.agg #[.int .i64 0, .int .i64 0]) Try.underlying43 info_band rfl (by decide) rfl ((hs2.ownEmptyM 2 (by decide) 47 (fun _ _ => undef)).allocP1 #[.int .i64 (bF fs 0), .int .i64 (bL fs 0)] 47) rfl (RdM.below (OwnM.rd hs2.p0) (by decide) (by go_grown)) (fun i j hi hj => by unfold bC; rfl) (by omega) (by unfold maxLen; omega) ?_; intro v3 w3 hsA; try simp only [World.size_alloc] at hsA) | (refine step_appMG (n := 0) (n' := fs.length) (f' := bC fs) (by rfl) rfl 47 16 2 (.agg #[.int .i64 0, .int .i64 0]) Try.underlying43 info_band rfl (by decide) rfl (hs2.litEmpty #[.int .i64 (bF fs 0), .int .i64 (bL fs 0)] 47 (fun _ _ => undef)) rfl (RdM.below (OwnM.rd hs2.p0) (by decide) (by go_grown)) (fun i j hi hj => by unfold bC; rfl) (by omega) (by unfold maxLen; omega) ?_; intro v3 w3 hsA; try simp only [World.size_alloc] at hsA))
        all_goals
          go_wp2
          go_ret
          exact Ret.mk1 rfl hs5.done
end Go.Proofs.Ytoilofcpijgaiaa
