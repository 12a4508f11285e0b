import Derived.Test.YtjgafkoboolclaaDoorProg
import Derived.Test.YtjgafkoboolclaaDoorLib
import Derived.Test.YtjgafkoboolclaaDoorMem
import Derived.Test.YtjgafkoboolclaaDoorSym
import Derived.Test.YtjgafkoboolclaaDoorDraw
import Derived.Test.YtjgafkoboolclaaDoorInts
import Derived.Test.YtjgafkoboolclaaDoorBytes
import Derived.Test.YtjgafkoboolclaaDoorApp
import Derived.Test.YtjgafkoboolclaaDoorBlk
import Derived.Test.YtjgafkoboolclaaDoorFrag
import Derived.Test.YtjgafkoboolclaaDoorSplit
import Derived.Test.YtjgafkoboolclaaDoorIdx
import Derived.Test.YtjgafkoboolclaaDoorSplitEx
namespace Go.Proofs.YtjgafkoboolclaaDoor
open Go.RowKit

set_option maxHeartbeats 4000000 in
theorem l20Bytes_s (g m most : Nat) (w : World) {row : Option Nat} {w0 : World} {I : List Part} {sv : Value} {bs : List Int} (hs : SH row w0 w (rdrP g m sv bs :: I)) (hm : m ≤ 1000000000) (hmost : most ≤ 1000) :
    Calls Tryd.prog 43 #[.pointer (some ⟨g, 0, none⟩), .int .i64 most] w (fun e w' => ∃ v, e = .returned v ∧ ∃ xs : List Int, xs.length ≤ most ∧ (∀ n ∈ xs, 0 ≤ n ∧ n ≤ 255) ∧ SH row w0 w' (ownP .u8 5 v xs :: rdrP g (m + 3 * most + 1) sv bs :: I)) := by
  go_enter Tryd.func43, Tryd.ntmps43
  go_wp2_with fail
  refine (pick_s g _ ((most : Int) + 1) _ ⟨(hs.ownEmpty .u8 _).bring1, by omega⟩ (by omega)).mono ?_
  rintro e w1 ⟨c0, rfl, c0_0, c0_a, -, hs⟩
  have c0_1 := c0_a (by omega)
  clear c0_a
  go_wp2_with fail
  go_loopw [5, 6] (fun o i wr => ∃ (q : Int) (xs : List Int), 0 ≤ q ∧ i = .int .i64 q ∧ (xs.length : Int) + q ≤ most ∧ Hid (∀ n ∈ xs, 0 ≤ n ∧ n ≤ 255) ∧ SH row w0 wr (rdrP g (m + 1 + 3 * xs.length) sv bs :: ownP .u8 5 o xs :: I)) (fun _ i _ => (intOf i).toNat)
  case atStart => exact ⟨c0, [], c0_0, rfl, by simp; omega, Lib.hid (by simp), hs⟩
  case round =>
    obtain ⟨q, xs, q0, rfl, hlen, HX, hs⟩ := hrel
    obtain ⟨ao, co, rfl, -⟩ := (OwnK.rd hs.p1).form
    by_cases hq : 0 < q
    · go_wp2_with fail
      refine (pick_s g _ 256 _ (by first | exact ⟨hs, by omega⟩ | exact ⟨(hs).allocP1 _ _, by omega⟩ | exact ⟨((hs).allocP1 _ _).allocP1 _ _, by omega⟩ | exact ⟨(((hs).allocP1 _ _).allocP1 _ _).allocP1 _ _, by omega⟩ | exact ⟨((((hs).allocP1 _ _).allocP1 _ _).allocP1 _ _).allocP1 _ _, by omega⟩ | exact ⟨(hs).drew, by omega⟩ | exact ⟨((hs).allocP1 _ _).drew, by omega⟩ | exact ⟨(((hs).allocP1 _ _).allocP1 _ _).drew, by omega⟩ | exact ⟨((((hs).allocP1 _ _).allocP1 _ _).allocP1 _ _).drew, by omega⟩ | exact ⟨(((((hs).allocP1 _ _).allocP1 _ _).allocP1 _ _).allocP1 _ _).drew, by omega⟩ | exact ⟨(hs).drewN _, by omega⟩ | exact ⟨((hs).allocP1 _ _).drewN _, by omega⟩ | exact ⟨(((hs).allocP1 _ _).allocP1 _ _).drewN _, by omega⟩ | exact ⟨((((hs).allocP1 _ _).allocP1 _ _).allocP1 _ _).drewN _, by omega⟩ | exact ⟨(((((hs).allocP1 _ _).allocP1 _ _).allocP1 _ _).allocP1 _ _).drewN _, by omega⟩) (by decide)).mono ?_
      rintro e w2 ⟨x1, rfl, x1_0, x1_a, -, hs⟩
      have x1_1 := x1_a (by decide)
      clear x1_a
      go_wp2_with fail
      refine (pick_s g _ 256 _ (by first | exact ⟨hs, by omega⟩ | exact ⟨(hs).allocP1 _ _, by omega⟩ | exact ⟨((hs).allocP1 _ _).allocP1 _ _, by omega⟩ | exact ⟨(((hs).allocP1 _ _).allocP1 _ _).allocP1 _ _, by omega⟩ | exact ⟨((((hs).allocP1 _ _).allocP1 _ _).allocP1 _ _).allocP1 _ _, by omega⟩ | exact ⟨(hs).drew, by omega⟩ | exact ⟨((hs).allocP1 _ _).drew, by omega⟩ | exact ⟨(((hs).allocP1 _ _).allocP1 _ _).drew, by omega⟩ | exact ⟨((((hs).allocP1 _ _).allocP1 _ _).allocP1 _ _).drew, by omega⟩ | exact ⟨(((((hs).allocP1 _ _).allocP1 _ _).allocP1 _ _).allocP1 _ _).drew, by omega⟩ | exact ⟨(hs).drewN _, by omega⟩ | exact ⟨((hs).allocP1 _ _).drewN _, by omega⟩ | exact ⟨(((hs).allocP1 _ _).allocP1 _ _).drewN _, by omega⟩ | exact ⟨((((hs).allocP1 _ _).allocP1 _ _).allocP1 _ _).drewN _, by omega⟩ | exact ⟨(((((hs).allocP1 _ _).allocP1 _ _).allocP1 _ _).allocP1 _ _).drewN _, by omega⟩) (by decide)).mono ?_
      rintro e w3 ⟨x2, rfl, x2_0, x2_a, -, hs⟩
      have x2_1 := x2_a (by decide)
      clear x2_a
      go_wp2_with fail
      refine (pick_s g _ 5 _ ⟨hs.allocP1 _ _, by omega⟩ (by decide)).mono ?_
      rintro e w4 ⟨z, rfl, z_0, z_a, -, hs⟩
      have z_1 := z_a (by decide)
      clear z_a
      have hb := hs.p1
      have hc0 := blk_cell hb 0
      have hc1 := blk_cell hb 1
      have hc2 := blk_cell hb 2
      have hc3 := blk_cell hb 3
      have hc4 := blk_cell hb 4
      clear hb
      have hs := hs.drop1
      obtain ⟨y, y0, y1, hy⟩ : ∃ y : Int, 0 ≤ y ∧ y ≤ 255 ∧ w4.cell? ⟨w3.heap.size, z.toNat, none⟩ = some (.int .i64 y) := by
        obtain rfl | rfl | rfl | rfl | rfl : z = 0 ∨ z = 1 ∨ z = 2 ∨ z = 3 ∨ z = 4 := by omega
        · exact ⟨0, by omega, by omega, hc0⟩
        · exact ⟨255, by omega, by omega, hc1⟩
        · exact ⟨126, by omega, by omega, hc2⟩
        · exact ⟨x1, by omega, by omega, hc3⟩
        · exact ⟨x2, by omega, by omega, hc4⟩
      clear hc0 hc1 hc2 hc3 hc4
      have hyw : IntKind.u8.wrap y = y := by simp [IntKind.wrap, IntKind.signed, IntKind.bits]; omega
      go_wp2_with (at_builtin; refine wp_app1S rfl rfl .u8 5 1 Tryd.underlying27 info_byte y rfl (hs.bring1.alloc _) rfl (World.cell?_alloc_at _ _ _ _ rfl) (by omega) (by unfold maxLen; omega) ?_; intro v9 w9 hs)
      go_roundw
      case rel =>
        refine ⟨q - 1, xs ++ [y], by omega, by go_num, by simp; omega, Lib.hid ?_, rdrP_mono hs.bring1 (by simp; omega)⟩
        intro n hn
        rcases List.mem_append.1 hn with h | h
        · exact HX.out n h
        · rw [List.mem_singleton] at h; subst h; exact ⟨y0, y1⟩
      case measure => simp [intOf]; omega
    · go_wp2
      go_ret
      exact ⟨_, rfl, xs, by omega, HX.out, (rdrP_mono hs (by omega)).bring1⟩

/-- rows that are only read -/
def rdInn (vs : Nat → Value) (fs : List Frag) : Part where
  says w := ∀ i, i < fs.length → RdB w (vs i) (fr fs i).d
  on g := ∃ i, i < fs.length ∧ (vs i).ownBlock = some g ∧ 0 < (fr fs i).d.length
  wr _ := False
  sub _ h := h.elim
  lt w h g hg := by obtain ⟨i, hi, hg⟩ := hg; exact (rdP .u8 (vs i) (fr fs i).d).lt w (h i hi) g hg
  keep w w' h hk := fun i hi => (rdP .u8 (vs i) (fr fs i).d).keep w w' (h i hi) (fun g hg => hk g ⟨i, hi, hg.1, hg.2⟩)
section
variable {row : Option Nat} {w0 w w' : World} {I : List Part} {a b q : Part}
theorem SH.bring5 {c d e f : Part} (h : SH row w0 w (a :: b :: c :: d :: e :: f :: I)) : SH row w0 w (f :: a :: b :: c :: d :: e :: I) :=
  h.perm ((List.Perm.cons a ((List.Perm.cons b ((List.Perm.cons c ((List.Perm.cons d (List.Perm.swap ..)).trans (List.Perm.swap ..))).trans (List.Perm.swap ..))).trans (List.Perm.swap ..))).trans (List.Perm.swap ..))
theorem SH.drop5 {c d e f : Part} (h : SH row w0 w (a :: b :: c :: d :: e :: f :: I)) : SH row w0 w (a :: b :: c :: d :: e :: I) := h.sub ((((((List.sublist_cons_self ..).cons_cons _).cons_cons _).cons_cons _).cons_cons _).cons_cons _)
theorem SH.readInn {vs : Nat → Value} {fs : List Frag} (h : SH row w0 w (innB vs (fun i => (fr fs i).d) fs.length :: I)) : SH row w0 w (rdInn vs fs :: I) :=
  h.as (q := rdInn vs fs) (fun i hi => OwnK.rd (h.p0.1 i hi)) (fun g ⟨i, hi, e, _⟩ => ⟨i, hi, e⟩) (fun g h => h.elim)
/-- one more part that is only read, of what two others read -/
theorem SH.addRd2 (h : SH row w0 w (a :: b :: I)) (hq : q.says w) (hqw : ∀ g, ¬ q.wr g) (ha : ∀ g, ¬ a.wr g) (hb : ∀ g, ¬ b.wr g) (hon : ∀ g, q.on g → a.on g ∨ b.on g) : SH row w0 w (q :: a :: b :: I) := by
  have hA := List.pairwise_cons.1 h.apart
  have hB := List.pairwise_cons.1 hA.2
  refine ⟨h.grown, ?_, ?_, List.pairwise_cons.2 ⟨fun r hr g => ⟨fun h1 => absurd h1 (hqw g), fun h1 h2 => ?_⟩, h.apart⟩⟩
  · intro r hr
    rcases List.mem_cons.1 hr with rfl | hr
    · exact hq
    · exact h.says r hr
  · intro r hr g hg
    rcases List.mem_cons.1 hr with rfl | hr
    · exact absurd hg (hqw g)
    · exact h.new r hr g hg
  · rcases List.mem_cons.1 hr with rfl | hr
    · exact ha g h1
    rcases List.mem_cons.1 hr with rfl | hr
    · exact hb g h1
    rcases hon g h2 with h3 | h3
    · exact ((hA.1 r (by simp [hr])) g).2 h1 h3
    · exact ((hB.1 r hr) g).2 h1 h3
theorem SH.noInn (h : SH row w0 w I) (vs : Nat → Value) : SH row w0 w (rdInn vs [] :: I) :=
  h.push (p := rdInn vs []) (Below.refl _ _) (fun i hi => absurd hi (Nat.not_lt_zero _)) (fun g ⟨i, hi, _⟩ => absurd hi (Nat.not_lt_zero _))
end
/-- f at place n of the list -/
def insF (os : List Frag) (n : Nat) (f : Frag) : List Frag := os.take n ++ f :: os.drop n
def insV (ws : Nat → Value) (n : Nat) (v : Value) : Nat → Value := fun i => if i < n then ws i else if i = n then v else ws (i - 1)
theorem length_ins (os : List Frag) (n : Nat) (f : Frag) : (insF os n f).length = os.length + 1 := by simp [insF]; omega
theorem fr_ins {os : List Frag} {n : Nat} {f : Frag} (hn : n ≤ os.length) (i : Nat) : fr (insF os n f) i = if i < n then fr os i else if i = n then f else fr os (i - 1) := by
  unfold fr insF
  rw [List.getD_eq_getElem?_getD, List.getElem?_append, List.length_take, Nat.min_eq_left hn]
  by_cases h1 : i < n
  · rw [if_pos h1, if_pos h1, List.getElem?_take, if_pos h1, List.getD_eq_getElem?_getD]
  · rw [if_neg h1, if_neg h1]
    by_cases h2 : i = n
    · subst h2; simp
    · rw [if_neg h2, show i - n = (i - 1 - n) + 1 by omega, List.getElem?_cons_succ, List.getElem?_drop, show n + (i - 1 - n) = i - 1 by omega, List.getD_eq_getElem?_getD]
theorem frC_ins {os : List Frag} {ws : Nat → Value} {n : Nat} {f : Frag} {v : Value} (hn : n ≤ os.length) (i j : Nat) :
    frC (insF os n f) (insV ws n v) i j = if i < n then frC os ws i j else if i = n then rowF f v j else frC os ws (i - 1) j := by
  unfold frC
  rw [fr_ins hn]
  by_cases h1 : i < n
  · simp only [if_pos h1, insV]
  · by_cases h2 : i = n
    · simp only [if_neg h1, if_pos h2, insV, rowF]
    · simp only [if_neg h1, if_neg h2, insV]
theorem SH.insInn {row : Option Nat} {w0 w : World} {I : List Part} {ws vs : Nat → Value} {os ls : List Frag} {n j : Nat} (h : SH row w0 w (rdInn ws os :: rdInn vs ls :: I)) (hn : n ≤ os.length) (hj : j < ls.length) :
    SH row w0 w (rdInn (insV ws n (vs j)) (insF os n (fr ls j)) :: rdInn vs ls :: I) := by
  have h0 := h.p0
  have h1 := h.p1
  refine (h.addRd2 (q := rdInn (insV ws n (vs j)) (insF os n (fr ls j))) ?_ (fun _ h => h) (fun _ h => h) (fun _ h => h) ?_).drop1
  · intro i hi
    rw [length_ins] at hi
    rw [fr_ins hn]
    unfold insV
    by_cases e1 : i < n
    · rw [if_pos e1, if_pos e1]; exact h0 i (by omega)
    · rw [if_neg e1, if_neg e1]
      by_cases e2 : i = n
      · rw [if_pos e2, if_pos e2]; exact h1 j hj
      · rw [if_neg e2, if_neg e2]; exact h0 (i - 1) (by omega)
  · rintro g ⟨i, hi, hg, hl⟩
    rw [length_ins] at hi
    rw [fr_ins hn] at hl
    unfold insV at hg
    by_cases e1 : i < n
    · rw [if_pos e1] at hg hl; exact .inl ⟨i, by omega, hg, hl⟩
    · rw [if_neg e1] at hg hl
      by_cases e2 : i = n
      · rw [if_pos e2] at hg hl; exact .inr ⟨j, hj, hg, hl⟩
      · rw [if_neg e2] at hg hl; exact .inl ⟨i - 1, by omega, hg, hl⟩
/-- the elements from i on -/
theorem RdM.sub {m : Nat} {w : World} {b off n' n cap : Nat} {c : Nat → Nat → Value} (h : RdM m w (.slice (some ⟨b, off, none⟩) n' cap) n c) {i k : Nat} (hk : i + k ≤ n) : RdM m w (.slice (some ⟨b, off + i * m, none⟩) k (cap - i)) k (fun p j => c (i + p) j) := by
  obtain ⟨ad, cp, hv, hl, hmx, hc⟩ := h
  obtain ⟨rfl, rfl, rfl⟩ := Value.slice.inj hv
  refine ⟨some ⟨b, off + i * m, none⟩, cap - i, rfl, by omega, by omega, fun p hp => ?_⟩
  obtain ⟨b', o', hx, hcell⟩ := hc (i + p) (by omega)
  simp only [Option.some.injEq, Addr.mk.injEq, and_true] at hx
  obtain ⟨rfl, rfl⟩ := hx
  refine ⟨b, off + i * m, rfl, fun j hj => ?_⟩
  rw [← hcell j hj, Nat.add_mul, Nat.add_assoc off]
theorem OwnM.cut {m : Nat} {w : World} {base : Nat} {t : TypeId} {a : Option Addr} {n cap : Nat} {c : Nat → Nat → Value} (h : OwnM m w base t (.slice a n cap) n c) {k : Nat} (hk : k ≤ n) : OwnM m w base t (.slice a k cap) k c := by
  obtain ⟨h1, h2⟩ := h
  refine ⟨by rw [flatC_length], ?_⟩
  rcases h2 with ⟨h2, h3⟩ | ⟨g, cp, cur, h2, h3, h4, h5, h6, h7, h8⟩
  · left
    obtain ⟨rfl, rfl, rfl⟩ := Value.slice.inj h2
    obtain rfl : k = 0 := by omega
    exact ⟨rfl, rfl⟩
  · right
    obtain ⟨rfl, -, rfl⟩ := Value.slice.inj h2
    refine ⟨g, cap, cur, rfl, h3, h4, by omega, h6, h7, ?_⟩
    have e : flatC m k c = (flatC m n c).take (k * m) := by
      apply List.ext_getElem?
      intro q
      rw [List.getElem?_take]
      rcases Nat.eq_zero_or_pos m with rfl | hm
      · simp [flatC]
      by_cases hq : q < k * m
      · rw [if_pos hq]
        obtain ⟨i, j, hj, rfl⟩ : ∃ i j, j < m ∧ q = i * m + j := ⟨q / m, q % m, Nat.mod_lt _ hm, by rw [Nat.mul_comm]; exact (Nat.div_add_mod q m).symm⟩
        have hi : i < k := by
          rcases Nat.lt_or_ge i k with h | h
          · exact h
          · have := Nat.mul_le_mul_right m h; omega
        rw [flatC_get hi hj, flatC_get (by omega) hj]
      · rw [if_neg hq, List.getElem?_eq_none (by rw [flatC_length]; omega)]
    rw [e, ← h8, List.take_take]
    congr 1
    have := Nat.mul_le_mul_right m hk
    omega
theorem SH.cutM {row : Option Nat} {w0 w : World} {I : List Part} {m : Nat} {t : TypeId} {a : Option Addr} {n cap k : Nat} {c : Nat → Nat → Value} (h : SH row w0 w (ownMP m t (.slice a n cap) n c :: I)) (hk : k ≤ n) : SH row w0 w (ownMP m t (.slice a k cap) k c :: I) :=
  h.as (q := ownMP m t (.slice a k cap) k c) (OwnM.cut h.p0 hk) (fun _ e => by cases a <;> exact e) (fun _ e => by cases a <;> exact e)
theorem frag_cells {w : World} {b off n n' cap j : Nat} {fs : List Frag} {vs : Nat → Value} (h : RdM 4 w (.slice (some ⟨b, off, none⟩) n' cap) n (frC fs vs)) (hj : j < n) :
    w.cell? ⟨b, off + j * 4, none⟩ = some (.int .i64 (fr fs j).m) ∧ w.cell? ⟨b, off + j * 4 + 1, none⟩ = some (.int .i64 (fr fs j).p) ∧ w.cell? ⟨b, off + j * 4 + 2, none⟩ = some (.bool (fr fs j).l) ∧ w.cell? ⟨b, off + j * 4 + 3, none⟩ = some (vs j) := by
  obtain ⟨b', o', e, hc⟩ := h.at_ hj
  cases e
  exact ⟨hc 0 (by decide), hc 1 (by decide), hc 2 (by decide), hc 3 (by decide)⟩
section
variable {row : Option Nat} {w0 w : World} {I : List Part} {P : Program} {ops : Array Oper} {o : Oper} {a : Act} {Q : Exit → Act → World → Prop}
theorem step_appMX {K : Act → World → Prop} {E : Prop} (hgd : o.guard = none) {s x : Operand} {t : TypeId}
    (ho : o.op = .call { callee := .builtin .append, args := #[s, x], argTypes := #[t, t] })
    (e bytes m : Nat) (z : Value) (h1 : P.underlying t = some (.slice e)) (hinfo : (P.info? e).map (fun i => (i.zero, i.size, i.bytes)) = some (some z, m, bytes)) (hzm : z.cells.size = m) (hm : 0 < m)
    {v : Value} {n : Nat} {f : Nat → Nat → Value} (hs : a.eval s = v) (hown : SH row w0 w (ownMP m e v n f :: I))
    {sx : Value} {n' : Nat} {f' : Nat → Nat → Value} (hx : a.eval x = sx) (hrd : RdM m w sx n' f') (h1c : ∀ i j, i < n' → j < m → (f' i j).oneCell' = true)
    (hbytes : (n + n') * bytes ≤ 140737488355328) (h63 : n + n' ≤ maxLen)
    (h : ∀ v' w', SH row w0 w' (ownMP m e v' (n + n') (catC n f f') :: I) → K (a.put o.dst v') w') :
    if Region.wanted o (yielded ops a.tmps) = true then Oper.wp P o a w K Q else E := by
  have hw : Region.wanted o (yielded ops a.tmps) = true := by simp [Region.wanted, hgd]
  rw [if_pos hw]
  obtain ⟨i, h2, h3, h4, h5⟩ := info_parts hinfo
  have hO : OwnM m w 0 e v n f := hown.p0
  obtain ⟨ad, cap, rfl, hl, hmx, hc⟩ := id hrd
  cases ad with
  | none =>
    have hz : n' = 0 := by
      rcases Nat.eq_zero_or_pos n' with h | h
      · exact h
      · obtain ⟨b, off, e, _⟩ := hc 0 h; cases e
    subst hz
    obtain ⟨av, cv, rfl, hle, -, -⟩ := hO.rd
    refine Go.Lib.wp_append_run w s x t t ho _ _ hs hx _ w (run_append_nothing w t t _ e i h1 h2 av n cv hle _ (Src.ofNil w h1 cap)) (h _ _ ?_)
    exact hown.congrM (c' := catC n f f') (fun i j hi hj => by simp [catC, hi])
  | some ad =>
    obtain ⟨v', w', r1, r2, r3, -, r5⟩ := run_append_own_at (P := P) (w := w) 0 t o.type e i z m bytes h1 h2 h3 h4 h5 hzm hm v n (flatC m n f) hO ad n' cap (flatC m n' f') (flatC_length _ _ _)
      (fun q u hq => by
        have hlt : q < n' * m := by
          rcases Nat.lt_or_ge q (n' * m) with h | h
          · exact h
          · rw [List.getElem?_eq_none (by rw [flatC_length]; exact h)] at hq; cases hq
        obtain ⟨i, j, hj, rfl⟩ : ∃ i j, j < m ∧ q = i * m + j := ⟨q / m, q % m, Nat.mod_lt _ hm, by rw [Nat.mul_comm]; exact (Nat.div_add_mod q m).symm⟩
        have hi : i < n' := by
          rcases Nat.lt_or_ge i n' with h | h
          · exact h
          · have := Nat.mul_le_mul_right m h; omega
        rw [flatC_get hi hj] at hq
        obtain ⟨b, off, ea, hc2⟩ := hrd.at_ hi
        cases ea
        rw [addr_add, ← Nat.add_assoc, hc2 j hj, hq]) (fun u hu => by
        obtain ⟨q, hq, rfl⟩ := List.getElem_of_mem hu
        rw [flatC_length] at hq
        obtain ⟨i, j, hj, rfl⟩ : ∃ i j, j < m ∧ q = i * m + j := ⟨q / m, q % m, Nat.mod_lt _ hm, by rw [Nat.mul_comm]; exact (Nat.div_add_mod q m).symm⟩
        have hi : i < n' := by
          rcases Nat.lt_or_ge i n' with h | h
          · exact h
          · have := Nat.mul_le_mul_right m h; omega
        have := flatC_get (c := f') hi hj
        rw [List.getElem?_eq_getElem (by rw [flatC_length]; exact hq)] at this
        rw [Option.some.inj this]
        exact h1c i j hi hj) h63 hbytes (Nat.zero_le _)
    refine Go.Lib.wp_append_run w s x t t ho _ _ hs hx v' w' r1 (h v' w' ?_)
    have hO' : OwnM m w' 0 e v' (n + n') (catC n f f') := by unfold OwnM; rw [← flatC_cat]; exact r2
    have hl : ∀ g, v'.ownBlock = some g → v.ownBlock = some g ∨ w.heap.size ≤ g := by
      intro g hg
      rcases r5 with e | e
      · exact .inl (e ▸ hg)
      · rw [e] at hg; right; have := Option.some.inj hg; omega
    exact hown.write (q := ownMP m e v' (n + n') (catC n f f')) r3 (fun g e => e) hO' hl hl
end

theorem rdM_zero (w : World) (x : Option Addr) {c : Nat} (h : c ≤ maxLen) (f : Nat → Nat → Value) : RdM 4 w (.slice x 0 c) 0 f := ⟨x, c, rfl, Nat.zero_le _, h, fun i hi => absurd hi (Nat.not_lt_zero _)⟩
theorem frag_cellsV {w : World} {b off n n' cap j : Nat} {fs : List Frag} {vs : Nat → Value} {x : Value} (hx : vs j = x) (h : RdM 4 w (.slice (some ⟨b, off, none⟩) n' cap) n (frC fs vs)) (hj : j < n) :
    w.cell? ⟨b, off + j * 4, none⟩ = some (.int .i64 (fr fs j).m) ∧ w.cell? ⟨b, off + j * 4 + 1, none⟩ = some (.int .i64 (fr fs j).p) ∧ w.cell? ⟨b, off + j * 4 + 2, none⟩ = some (.bool (fr fs j).l) ∧ w.cell? ⟨b, off + j * 4 + 3, none⟩ = some x := by
  rw [← hx]; exact frag_cells h hj
theorem splitF_small (d : List Int) (m s : Int) : (splitF d m s).length ≤ d.length := by
  unfold splitF
  split
  · next h =>
    obtain ⟨h1, h2, h3, h4, h5, h6⟩ := h
    rw [length_parts]
    rcases Nat.lt_or_ge d.length (numF d s.toNat) with h | h
    · have h7 := (numF_lt (d := d) (s := s.toNat) (k := d.length) (by omega)).1 h
      have : d.length * 1 ≤ d.length * s.toNat := Nat.mul_le_mul_left _ (by omega)
      omega
    · exact h
  · simp
/-- fragments as they are drawn -/
def goodF (fs : List Frag) : Prop := ∀ i, i < fs.length → (0 ≤ (fr fs i).m ∧ (fr fs i).m ≤ 100) ∧ (-1 ≤ (fr fs i).p ∧ (fr fs i).p ≤ 1000) ∧ (fr fs i).d.length ≤ 13 ∧ ∀ x ∈ (fr fs i).d, 0 ≤ x ∧ x ≤ 255
theorem goodF_wf {fs : List Frag} (h : goodF fs) : wfF fs := fun i hi => by
  obtain ⟨h1, h2, -⟩ := h i hi
  exact ⟨wfOf (by omega) (by omega), wfOf (by omega) (by omega)⟩
theorem goodF_split {d : List Int} {m s : Int} (hm : 0 ≤ m ∧ m ≤ 100) (hd : d.length ≤ 13) (hx : ∀ x ∈ d, 0 ≤ x ∧ x ≤ 255) : goodF (splitF d m s) := by
  intro i hi
  have hl := splitF_small d m s
  unfold splitF at hi hl ⊢
  split at hi
  · next h =>
    rw [if_pos h] at hl ⊢
    rw [length_parts] at hi hl
    rw [fr_parts hi]
    refine ⟨hm, ?_, ?_, fun x hx2 => hx x (List.mem_of_mem_drop (List.mem_of_mem_take hx2))⟩
    · simp only [partF]; omega
    · simp only [partF, List.length_take, List.length_drop]; omega
  · simp at hi
theorem goodF_ins {os : List Frag} {f : Frag} {n : Nat} (hn : n ≤ os.length) (h : goodF os) (hf : goodF [f]) : goodF (insF os n f) := by
  intro i hi
  rw [length_ins] at hi
  rw [fr_ins hn]
  split
  · exact h i (by omega)
  · split
    · exact hf 0 (by simp)
    · exact h (i - 1) (by omega)
theorem goodF_one {fs : List Frag} (h : goodF fs) {i : Nat} (hi : i < fs.length) : goodF [fr fs i] := by
  intro j hj
  obtain rfl : j = 0 := by simpa using hj
  exact h i hi
theorem ins_congr {os : List Frag} {ws : Nat → Value} {f : Frag} {v : Value} {q : Nat} (hq : q ≤ os.length) (i j : Nat) :
    catC (q + 1) (updC (frC os ws) q (rowF f v)) (fun p j => frC os ws (q + p) j) i j = frC (insF os q f) (insV ws q v) i j := by
  rw [frC_ins hq]
  simp only [catC, updC]
  by_cases h1 : i < q
  · rw [if_pos (by omega), if_neg (by omega), if_pos h1]
  · by_cases h2 : i = q
    · rw [if_pos (by omega), if_pos h2, if_neg h1, if_pos h2]
    · rw [if_neg (by omega), if_neg h1, if_neg h2, show q + (i - (q + 1)) = i - 1 by omega]
theorem ins_end {os : List Frag} {ws : Nat → Value} {f : Frag} {v : Value} {i : Nat} (hi : i < os.length + 1) (j : Nat) : updC (frC os ws) os.length (rowF f v) i j = frC (insF os os.length f) (insV ws os.length v) i j := by
  rw [frC_ins (Nat.le_refl _)]
  simp only [updC]
  by_cases h1 : i = os.length
  · rw [if_pos h1, if_neg (by omega), if_pos h1]
  · rw [if_neg h1]
    rw [if_pos (by omega)]
theorem SH.litInn {row : Option Nat} {w0 w : World} {I : List Part} {t : TypeId} {v : Value} {f : Frag} (h : SH row w0 w (ownP .u8 t v f.d :: I)) : SH row w0 w (rdInn (fun _ => v) [f] :: I) :=
  h.as (q := rdInn (fun _ => v) [f]) (fun i hi => by
    obtain rfl : i = 0 := by simpa using hi
    exact OwnK.rd h.p0) (fun g ⟨i, _, e, _⟩ => e) (fun g h => h.elim)
theorem SH.nilInn {row : Option Nat} {w0 w : World} {I : List Part} {f : Frag} (h : SH row w0 w I) (hf : f.d = []) : SH row w0 w (rdInn (fun _ => .slice none 0 0) [f] :: I) :=
  h.push (p := rdInn (fun _ => .slice none 0 0) [f]) (Below.refl _ _) (fun i hi => by
    obtain rfl : i = 0 := by simpa using hi
    show RdB w (.slice none 0 0) f.d
    rw [hf]; exact RdK.ofNil w) (fun g ⟨i, _, e, _⟩ => by cases e)
theorem one_cell {f : Frag} {a : Option Addr} {n c j : Nat} (hj : j < 4) : (rowF f (.slice a n c) j).oneCell' = true := by
  have : j = 0 ∨ j = 1 ∨ j = 2 ∨ j = 3 := by omega
  rcases this with rfl | rfl | rfl | rfl <;> rfl
theorem one_frC {fs : List Frag} {vs : Nat → Value} {w : World} (h : ∀ i, i < fs.length → RdB w (vs i) (fr fs i).d) {i j : Nat} (hi : i < fs.length) (hj : j < 4) : (frC fs vs i j).oneCell' = true := by
  obtain ⟨a, c, hv, -⟩ := (h i hi).form
  have : j = 0 ∨ j = 1 ∨ j = 2 ∨ j = 3 := by omega
  rcases this with rfl | rfl | rfl | rfl
  · rfl
  · rfl
  · rfl
  · simp only [frC]; simp; rw [hv]; rfl

end Go.Proofs.YtjgafkoboolclaaDoor
