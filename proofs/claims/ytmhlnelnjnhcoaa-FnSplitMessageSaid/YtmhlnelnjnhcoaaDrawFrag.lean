import Derived.Test.YtmhlnelnjnhcoaaProg
import Derived.Test.YtmhlnelnjnhcoaaLib
import Derived.Test.YtmhlnelnjnhcoaaMem
import Derived.Test.YtmhlnelnjnhcoaaSym
import Derived.Test.YtmhlnelnjnhcoaaDraw
import Derived.Test.YtmhlnelnjnhcoaaInts
import Derived.Test.YtmhlnelnjnhcoaaBytes
import Derived.Test.YtmhlnelnjnhcoaaApp
import Derived.Test.YtmhlnelnjnhcoaaBlk
import Derived.Test.YtmhlnelnjnhcoaaFrag
import Derived.Test.YtmhlnelnjnhcoaaSplit
import Derived.Test.YtmhlnelnjnhcoaaIdx
import Derived.Test.YtmhlnelnjnhcoaaSplitEx
namespace Go.Proofs.Ytmhlnelnjnhcoaa
open Go.RowKit

set_option maxHeartbeats 4000000 in
theorem l20Bytes_s (g m most : Nat) (w : World) {row : Option Nat} {w0 : World} {I : List Part} {sv : Value} {bs : List Int} (hs : SH row w0 w (rdrP g m sv bs :: I)) (hm : m ≤ 1000000000) (hmost : most ≤ 1000) :
    Calls Try.prog 35 #[.pointer (some ⟨g, 0, none⟩), .int .i64 most] w (fun e w' => ∃ v, e = .returned v ∧ ∃ xs : List Int, xs.length ≤ most ∧ (∀ n ∈ xs, 0 ≤ n ∧ n ≤ 255) ∧ SH row w0 w' (ownP .u8 5 v xs :: rdrP g (m + 3 * most + 1) sv bs :: I)) := by
  go_enter Try.func35, Try.ntmps35
  go_wp2_with fail
  refine (pick_s g _ ((most : Int) + 1) _ ⟨(hs.ownEmpty .u8 _).bring1, by omega⟩ (by omega)).mono ?_
  rintro e w1 ⟨c0, rfl, c0_0, c0_a, -, hs⟩
  have c0_1 := c0_a (by omega)
  clear c0_a
  go_wp2_with fail
  go_loopw [5, 6] (fun o i wr => ∃ (q : Int) (xs : List Int), 0 ≤ q ∧ i = .int .i64 q ∧ (xs.length : Int) + q ≤ most ∧ Hid (∀ n ∈ xs, 0 ≤ n ∧ n ≤ 255) ∧ SH row w0 wr (rdrP g (m + 1 + 3 * xs.length) sv bs :: ownP .u8 5 o xs :: I)) (fun _ i _ => (intOf i).toNat)
  case atStart => exact ⟨c0, [], c0_0, rfl, by simp; omega, Lib.hid (by simp), hs⟩
  case round =>
    obtain ⟨q, xs, q0, rfl, hlen, HX, hs⟩ := hrel
    obtain ⟨ao, co, rfl, -⟩ := (OwnK.rd hs.p1).form
    by_cases hq : 0 < q
    · go_wp2_with fail
      refine (pick_s g _ 256 _ (by first | exact ⟨hs, by omega⟩ | exact ⟨(hs).allocP1 _ _, by omega⟩ | exact ⟨((hs).allocP1 _ _).allocP1 _ _, by omega⟩ | exact ⟨(((hs).allocP1 _ _).allocP1 _ _).allocP1 _ _, by omega⟩ | exact ⟨((((hs).allocP1 _ _).allocP1 _ _).allocP1 _ _).allocP1 _ _, by omega⟩ | exact ⟨(hs).drew, by omega⟩ | exact ⟨((hs).allocP1 _ _).drew, by omega⟩ | exact ⟨(((hs).allocP1 _ _).allocP1 _ _).drew, by omega⟩ | exact ⟨((((hs).allocP1 _ _).allocP1 _ _).allocP1 _ _).drew, by omega⟩ | exact ⟨(((((hs).allocP1 _ _).allocP1 _ _).allocP1 _ _).allocP1 _ _).drew, by omega⟩ | exact ⟨(hs).drewN _, by omega⟩ | exact ⟨((hs).allocP1 _ _).drewN _, by omega⟩ | exact ⟨(((hs).allocP1 _ _).allocP1 _ _).drewN _, by omega⟩ | exact ⟨((((hs).allocP1 _ _).allocP1 _ _).allocP1 _ _).drewN _, by omega⟩ | exact ⟨(((((hs).allocP1 _ _).allocP1 _ _).allocP1 _ _).allocP1 _ _).drewN _, by omega⟩) (by decide)).mono ?_
      rintro e w2 ⟨x1, rfl, x1_0, x1_a, -, hs⟩
      have x1_1 := x1_a (by decide)
      clear x1_a
      go_wp2_with fail
      refine (pick_s g _ 256 _ (by first | exact ⟨hs, by omega⟩ | exact ⟨(hs).allocP1 _ _, by omega⟩ | exact ⟨((hs).allocP1 _ _).allocP1 _ _, by omega⟩ | exact ⟨(((hs).allocP1 _ _).allocP1 _ _).allocP1 _ _, by omega⟩ | exact ⟨((((hs).allocP1 _ _).allocP1 _ _).allocP1 _ _).allocP1 _ _, by omega⟩ | exact ⟨(hs).drew, by omega⟩ | exact ⟨((hs).allocP1 _ _).drew, by omega⟩ | exact ⟨(((hs).allocP1 _ _).allocP1 _ _).drew, by omega⟩ | exact ⟨((((hs).allocP1 _ _).allocP1 _ _).allocP1 _ _).drew, by omega⟩ | exact ⟨(((((hs).allocP1 _ _).allocP1 _ _).allocP1 _ _).allocP1 _ _).drew, by omega⟩ | exact ⟨(hs).drewN _, by omega⟩ | exact ⟨((hs).allocP1 _ _).drewN _, by omega⟩ | exact ⟨(((hs).allocP1 _ _).allocP1 _ _).drewN _, by omega⟩ | exact ⟨((((hs).allocP1 _ _).allocP1 _ _).allocP1 _ _).drewN _, by omega⟩ | exact ⟨(((((hs).allocP1 _ _).allocP1 _ _).allocP1 _ _).allocP1 _ _).drewN _, by omega⟩) (by decide)).mono ?_
      rintro e w3 ⟨x2, rfl, x2_0, x2_a, -, hs⟩
      have x2_1 := x2_a (by decide)
      clear x2_a
      go_wp2_with fail
      refine (pick_s g _ 5 _ ⟨hs.allocP1 _ _, by omega⟩ (by decide)).mono ?_
      rintro e w4 ⟨z, rfl, z_0, z_a, -, hs⟩
      have z_1 := z_a (by decide)
      clear z_a
      have hb := hs.p1
      have hc0 := blk_cell hb 0
      have hc1 := blk_cell hb 1
      have hc2 := blk_cell hb 2
      have hc3 := blk_cell hb 3
      have hc4 := blk_cell hb 4
      clear hb
      have hs := hs.drop1
      obtain ⟨y, y0, y1, hy⟩ : ∃ y : Int, 0 ≤ y ∧ y ≤ 255 ∧ w4.cell? ⟨w3.heap.size, z.toNat, none⟩ = some (.int .i64 y) := by
        obtain rfl | rfl | rfl | rfl | rfl : z = 0 ∨ z = 1 ∨ z = 2 ∨ z = 3 ∨ z = 4 := by omega
        · exact ⟨0, by omega, by omega, hc0⟩
        · exact ⟨255, by omega, by omega, hc1⟩
        · exact ⟨126, by omega, by omega, hc2⟩
        · exact ⟨x1, by omega, by omega, hc3⟩
        · exact ⟨x2, by omega, by omega, hc4⟩
      clear hc0 hc1 hc2 hc3 hc4
      have hyw : IntKind.u8.wrap y = y := by simp [IntKind.wrap, IntKind.signed, IntKind.bits]; omega
      go_wp2_with (at_builtin; refine wp_app1S rfl rfl .u8 5 1 Try.underlying22 info_byte y rfl (hs.bring1.alloc _) rfl (World.cell?_alloc_at _ _ _ _ rfl) (by omega) (by unfold maxLen; omega) ?_; intro v9 w9 hs)
      go_roundw
      case rel =>
        refine ⟨q - 1, xs ++ [y], by omega, by go_num, by simp; omega, Lib.hid ?_, rdrP_mono hs.bring1 (by simp; omega)⟩
        intro n hn
        rcases List.mem_append.1 hn with h | h
        · exact HX.out n h
        · rw [List.mem_singleton] at h; subst h; exact ⟨y0, y1⟩
      case measure => simp [intOf]; omega
    · go_wp2
      go_ret
      exact ⟨_, rfl, xs, by omega, HX.out, (rdrP_mono hs (by omega)).bring1⟩

/-- rows that are only read -/
def rdInn (vs : Nat → Value) (fs : List Frag) : Part where
  says w := ∀ i, i < fs.length → RdB w (vs i) (fr fs i).d
  on g := ∃ i, i < fs.length ∧ (vs i).ownBlock = some g ∧ 0 < (fr fs i).d.length
  wr _ := False
  sub _ h := h.elim
  lt w h g hg := by obtain ⟨i, hi, hg⟩ := hg; exact (rdP .u8 (vs i) (fr fs i).d).lt w (h i hi) g hg
  keep w w' h hk := fun i hi => (rdP .u8 (vs i) (fr fs i).d).keep w w' (h i hi) (fun g hg => hk g ⟨i, hi, hg.1, hg.2⟩)
section
variable {row : Option Nat} {w0 w w' : World} {I : List Part} {a b q : Part}
theorem SH.bring5 {c d e f : Part} (h : SH row w0 w (a :: b :: c :: d :: e :: f :: I)) : SH row w0 w (f :: a :: b :: c :: d :: e :: I) :=
  h.perm ((List.Perm.cons a ((List.Perm.cons b ((List.Perm.cons c ((List.Perm.cons d (List.Perm.swap ..)).trans (List.Perm.swap ..))).trans (List.Perm.swap ..))).trans (List.Perm.swap ..))).trans (List.Perm.swap ..))
theorem SH.drop5 {c d e f : Part} (h : SH row w0 w (a :: b :: c :: d :: e :: f :: I)) : SH row w0 w (a :: b :: c :: d :: e :: I) := h.sub ((((((List.sublist_cons_self ..).cons_cons _).cons_cons _).cons_cons _).cons_cons _).cons_cons _)
theorem SH.readInn {vs : Nat → Value} {fs : List Frag} (h : SH row w0 w (innB vs (fun i => (fr fs i).d) fs.length :: I)) : SH row w0 w (rdInn vs fs :: I) :=
  h.as (q := rdInn vs fs) (fun i hi => OwnK.rd (h.p0.1 i hi)) (fun g ⟨i, hi, e, _⟩ => ⟨i, hi, e⟩) (fun g h => h.elim)
/-- one more part that is only read, of what two others read -/
theorem SH.addRd2 (h : SH row w0 w (a :: b :: I)) (hq : q.says w) (hqw : ∀ g, ¬ q.wr g) (ha : ∀ g, ¬ a.wr g) (hb : ∀ g, ¬ b.wr g) (hon : ∀ g, q.on g → a.on g ∨ b.on g) : SH row w0 w (q :: a :: b :: I) := by
  have hA := List.pairwise_cons.1 h.apart
  have hB := List.pairwise_cons.1 hA.2
  refine ⟨h.grown, ?_, ?_, List.pairwise_cons.2 ⟨fun r hr g => ⟨fun h1 => absurd h1 (hqw g), fun h1 h2 => ?_⟩, h.apart⟩⟩
  · intro r hr
    rcases List.mem_cons.1 hr with rfl | hr
    · exact hq
    · exact h.says r hr
  · intro r hr g hg
    rcases List.mem_cons.1 hr with rfl | hr
    · exact absurd hg (hqw g)
    · exact h.new r hr g hg
  · rcases List.mem_cons.1 hr with rfl | hr
    · exact ha g h1
    rcases List.mem_cons.1 hr with rfl | hr
    · exact hb g h1
    rcases hon g h2 with h3 | h3
    · exact ((hA.1 r (by simp [hr])) g).2 h1 h3
    · exact ((hB.1 r hr) g).2 h1 h3
theorem SH.noInn (h : SH row w0 w I) (vs : Nat → Value) : SH row w0 w (rdInn vs [] :: I) :=
  h.push (p := rdInn vs []) (Below.refl _ _) (fun i hi => absurd hi (Nat.not_lt_zero _)) (fun g ⟨i, hi, _⟩ => absurd hi (Nat.not_lt_zero _))
end
/-- f at place n of the list -/
def insF (os : List Frag) (n : Nat) (f : Frag) : List Frag := os.take n ++ f :: os.drop n
def insV (ws : Nat → Value) (n : Nat) (v : Value) : Nat → Value := fun i => if i < n then ws i else if i = n then v else ws (i - 1)
theorem length_ins (os : List Frag) (n : Nat) (f : Frag) : (insF os n f).length = os.length + 1 := by simp [insF]; omega
theorem fr_ins {os : List Frag} {n : Nat} {f : Frag} (hn : n ≤ os.length) (i : Nat) : fr (insF os n f) i = if i < n then fr os i else if i = n then f else fr os (i - 1) := by
  unfold fr insF
  rw [List.getD_eq_getElem?_getD, List.getElem?_append, List.length_take, Nat.min_eq_left hn]
  by_cases h1 : i < n
  · rw [if_pos h1, if_pos h1, List.getElem?_take, if_pos h1, List.getD_eq_getElem?_getD]
  · rw [if_neg h1, if_neg h1]
    by_cases h2 : i = n
    · subst h2; simp
    · rw [if_neg h2, show i - n = (i - 1 - n) + 1 by omega, List.getElem?_cons_succ, List.getElem?_drop, show n + (i - 1 - n) = i - 1 by omega, List.getD_eq_getElem?_getD]
theorem frC_ins {os : List Frag} {ws : Nat → Value} {n : Nat} {f : Frag} {v : Value} (hn : n ≤ os.length) (i j : Nat) :
    frC (insF os n f) (insV ws n v) i j = if i < n then frC os ws i j else if i = n then rowF f v j else frC os ws (i - 1) j := by
  unfold frC
  rw [fr_ins hn]
  by_cases h1 : i < n
  · simp only [if_pos h1, insV]
  · by_cases h2 : i = n
    · simp only [if_neg h1, if_pos h2, insV, rowF]
    · simp only [if_neg h1, if_neg h2, insV]
theorem SH.insInn {row : Option Nat} {w0 w : World} {I : List Part} {ws vs : Nat → Value} {os ls : List Frag} {n j : Nat} (h : SH row w0 w (rdInn ws os :: rdInn vs ls :: I)) (hn : n ≤ os.length) (hj : j < ls.length) :
    SH row w0 w (rdInn (insV ws n (vs j)) (insF os n (fr ls j)) :: rdInn vs ls :: I) := by
  have h0 := h.p0
  have h1 := h.p1
  refine (h.addRd2 (q := rdInn (insV ws n (vs j)) (insF os n (fr ls j))) ?_ (fun _ h => h) (fun _ h => h) (fun _ h => h) ?_).drop1
  · intro i hi
    rw [length_ins] at hi
    rw [fr_ins hn]
    unfold insV
    by_cases e1 : i < n
    · rw [if_pos e1, if_pos e1]; exact h0 i (by omega)
    · rw [if_neg e1, if_neg e1]
      by_cases e2 : i = n
      · rw [if_pos e2, if_pos e2]; exact h1 j hj
      · rw [if_neg e2, if_neg e2]; exact h0 (i - 1) (by omega)
  · rintro g ⟨i, hi, hg, hl⟩
    rw [length_ins] at hi
    rw [fr_ins hn] at hl
    unfold insV at hg
    by_cases e1 : i < n
    · rw [if_pos e1] at hg hl; exact .inl ⟨i, by omega, hg, hl⟩
    · rw [if_neg e1] at hg hl
      by_cases e2 : i = n
      · rw [if_pos e2] at hg hl; exact .inr ⟨j, hj, hg, hl⟩
      · rw [if_neg e2] at hg hl; exact .inl ⟨i - 1, by omega, hg, hl⟩
/-- the elements from i on -/
theorem RdM.sub {m : Nat} {w : World} {b off n' n cap : Nat} {c : Nat → Nat → Value} (h : RdM m w (.slice (some ⟨b, off, none⟩) n' cap) n c) {i k : Nat} (hk : i + k ≤ n) : RdM m w (.slice (some ⟨b, off + i * m, none⟩) k (cap - i)) k (fun p j => c (i + p) j) := by
  obtain ⟨ad, cp, hv, hl, hmx, hc⟩ := h
  obtain ⟨rfl, rfl, rfl⟩ := Value.slice.inj hv
  refine ⟨some ⟨b, off + i * m, none⟩, cap - i, rfl, by omega, by omega, fun p hp => ?_⟩
  obtain ⟨b', o', hx, hcell⟩ := hc (i + p) (by omega)
  simp only [Option.some.injEq, Addr.mk.injEq, and_true] at hx
  obtain ⟨rfl, rfl⟩ := hx
  refine ⟨b, off + i * m, rfl, fun j hj => ?_⟩
  rw [← hcell j hj, Nat.add_mul, Nat.add_assoc off]
theorem OwnM.cut {m : Nat} {w : World} {base : Nat} {t : TypeId} {a : Option Addr} {n cap : Nat} {c : Nat → Nat → Value} (h : OwnM m w base t (.slice a n cap) n c) {k : Nat} (hk : k ≤ n) : OwnM m w base t (.slice a k cap) k c := by
  obtain ⟨h1, h2⟩ := h
  refine ⟨by rw [flatC_length], ?_⟩
  rcases h2 with ⟨h2, h3⟩ | ⟨g, cp, cur, h2, h3, h4, h5, h6, h7, h8⟩
  · left
    obtain ⟨rfl, rfl, rfl⟩ := Value.slice.inj h2
    obtain rfl : k = 0 := by omega
    exact ⟨rfl, rfl⟩
  · right
    obtain ⟨rfl, -, rfl⟩ := Value.slice.inj h2
    refine ⟨g, cap, cur, rfl, h3, h4, by omega, h6, h7, ?_⟩
    have e : flatC m k c = (flatC m n c).take (k * m) := by
      apply List.ext_getElem?
      intro q
      rw [List.getElem?_take]
      rcases Nat.eq_zero_or_pos m with rfl | hm
      · simp [flatC]
      by_cases hq : q < k * m
      · rw [if_pos hq]
        obtain ⟨i, j, hj, rfl⟩ : ∃ i j, j < m ∧ q = i * m + j := ⟨q / m, q % m, Nat.mod_lt _ hm, by rw [Nat.mul_comm]; exact (Nat.div_add_mod q m).symm⟩
        have hi : i < k := by
          rcases Nat.lt_or_ge i k with h | h
          · exact h
          · have := Nat.mul_le_mul_right m h; omega
        rw [flatC_get hi hj, flatC_get (by omega) hj]
      · rw [if_neg hq, List.getElem?_eq_none (by rw [flatC_length]; omega)]
    rw [e, ← h8, List.take_take]
    congr 1
    have := Nat.mul_le_mul_right m hk
    omega
theorem SH.cutM {row : Option Nat} {w0 w : World} {I : List Part} {m : Nat} {t : TypeId} {a : Option Addr} {n cap k : Nat} {c : Nat → Nat → Value} (h : SH row w0 w (ownMP m t (.slice a n cap) n c :: I)) (hk : k ≤ n) : SH row w0 w (ownMP m t (.slice a k cap) k c :: I) :=
  h.as (q := ownMP m t (.slice a k cap) k c) (OwnM.cut h.p0 hk) (fun _ e => by cases a <;> exact e) (fun _ e => by cases a <;> exact e)
theorem frag_cells {w : World} {b off n n' cap j : Nat} {fs : List Frag} {vs : Nat → Value} (h : RdM 4 w (.slice (some ⟨b, off, none⟩) n' cap) n (frC fs vs)) (hj : j < n) :
    w.cell? ⟨b, off + j * 4, none⟩ = some (.int .i64 (fr fs j).m) ∧ w.cell? ⟨b, off + j * 4 + 1, none⟩ = some (.int .i64 (fr fs j).p) ∧ w.cell? ⟨b, off + j * 4 + 2, none⟩ = some (.bool (fr fs j).l) ∧ w.cell? ⟨b, off + j * 4 + 3, none⟩ = some (vs j) := by
  obtain ⟨b', o', e, hc⟩ := h.at_ hj
  cases e
  exact ⟨hc 0 (by decide), hc 1 (by decide), hc 2 (by decide), hc 3 (by decide)⟩
section
variable {row : Option Nat} {w0 w : World} {I : List Part} {P : Program} {ops : Array Oper} {o : Oper} {a : Act} {Q : Exit → Act → World → Prop}
theorem step_appMX {K : Act → World → Prop} {E : Prop} (hgd : o.guard = none) {s x : Operand} {t : TypeId}
    (ho : o.op = .call { callee := .builtin .append, args := #[s, x], argTypes := #[t, t] })
    (e bytes m : Nat) (z : Value) (h1 : P.underlying t = some (.slice e)) (hinfo : (P.info? e).map (fun i => (i.zero, i.size, i.bytes)) = some (some z, m, bytes)) (hzm : z.cells.size = m) (hm : 0 < m)
    {v : Value} {n : Nat} {f : Nat → Nat → Value} (hs : a.eval s = v) (hown : SH row w0 w (ownMP m e v n f :: I))
    {sx : Value} {n' : Nat} {f' : Nat → Nat → Value} (hx : a.eval x = sx) (hrd : RdM m w sx n' f') (h1c : ∀ i j, i < n' → j < m → (f' i j).oneCell' = true)
    (hbytes : (n + n') * bytes ≤ 140737488355328) (h63 : n + n' ≤ maxLen)
    (h : ∀ v' w', SH row w0 w' (ownMP m e v' (n + n') (catC n f f') :: I) → K (a.put o.dst v') w') :
    if Region.wanted o (yielded ops a.tmps) = true then Oper.wp P o a w K Q else E := by
  have hw : Region.wanted o (yielded ops a.tmps) = true := by simp [Region.wanted, hgd]
  rw [if_pos hw]
  obtain ⟨i, h2, h3, h4, h5⟩ := info_parts hinfo
  have hO : OwnM m w 0 e v n f := hown.p0
  obtain ⟨ad, cap, rfl, hl, hmx, hc⟩ := id hrd
  cases ad with
  | none =>
    have hz : n' = 0 := by
      rcases Nat.eq_zero_or_pos n' with h | h
      · exact h
      · obtain ⟨b, off, e, _⟩ := hc 0 h; cases e
    subst hz
    obtain ⟨av, cv, rfl, hle, -, -⟩ := hO.rd
    refine Go.Lib.wp_append_run w s x t t ho _ _ hs hx _ w (run_append_nothing w t t _ e i h1 h2 av n cv hle _ (Src.ofNil w h1 cap)) (h _ _ ?_)
    exact hown.congrM (c' := catC n f f') (fun i j hi hj => by simp [catC, hi])
  | some ad =>
    obtain ⟨v', w', r1, r2, r3, -, r5⟩ := run_append_own_at (P := P) (w := w) 0 t o.type e i z m bytes h1 h2 h3 h4 h5 hzm hm v n (flatC m n f) hO ad n' cap (flatC m n' f') (flatC_length _ _ _)
      (fun q u hq => by
        have hlt : q < n' * m := by
          rcases Nat.lt_or_ge q (n' * m) with h | h
          · exact h
          · rw [List.getElem?_eq_none (by rw [flatC_length]; exact h)] at hq; cases hq
        obtain ⟨i, j, hj, rfl⟩ : ∃ i j, j < m ∧ q = i * m + j := ⟨q / m, q % m, Nat.mod_lt _ hm, by rw [Nat.mul_comm]; exact (Nat.div_add_mod q m).symm⟩
        have hi : i < n' := by
          rcases Nat.lt_or_ge i n' with h | h
          · exact h
          · have := Nat.mul_le_mul_right m h; omega
        rw [flatC_get hi hj] at hq
        obtain ⟨b, off, ea, hc2⟩ := hrd.at_ hi
        cases ea
        rw [addr_add, ← Nat.add_assoc, hc2 j hj, hq]) (fun u hu => by
        obtain ⟨q, hq, rfl⟩ := List.getElem_of_mem hu
        rw [flatC_length] at hq
        obtain ⟨i, j, hj, rfl⟩ : ∃ i j, j < m ∧ q = i * m + j := ⟨q / m, q % m, Nat.mod_lt _ hm, by rw [Nat.mul_comm]; exact (Nat.div_add_mod q m).symm⟩
        have hi : i < n' := by
          rcases Nat.lt_or_ge i n' with h | h
          · exact h
          · have := Nat.mul_le_mul_right m h; omega
        have := flatC_get (c := f') hi hj
        rw [List.getElem?_eq_getElem (by rw [flatC_length]; exact hq)] at this
        rw [Option.some.inj this]
        exact h1c i j hi hj) h63 hbytes (Nat.zero_le _)
    refine Go.Lib.wp_append_run w s x t t ho _ _ hs hx v' w' r1 (h v' w' ?_)
    have hO' : OwnM m w' 0 e v' (n + n') (catC n f f') := by unfold OwnM; rw [← flatC_cat]; exact r2
    have hl : ∀ g, v'.ownBlock = some g → v.ownBlock = some g ∨ w.heap.size ≤ g := by
      intro g hg
      rcases r5 with e | e
      · exact .inl (e ▸ hg)
      · rw [e] at hg; right; have := Option.some.inj hg; omega
    exact hown.write (q := ownMP m e v' (n + n') (catC n f f')) r3 (fun g e => e) hO' hl hl
end

theorem rdM_zero (w : World) (x : Option Addr) {c : Nat} (h : c ≤ maxLen) (f : Nat → Nat → Value) : RdM 4 w (.slice x 0 c) 0 f := ⟨x, c, rfl, Nat.zero_le _, h, fun i hi => absurd hi (Nat.not_lt_zero _)⟩
theorem frag_cellsV {w : World} {b off n n' cap j : Nat} {fs : List Frag} {vs : Nat → Value} {x : Value} (hx : vs j = x) (h : RdM 4 w (.slice (some ⟨b, off, none⟩) n' cap) n (frC fs vs)) (hj : j < n) :
    w.cell? ⟨b, off + j * 4, none⟩ = some (.int .i64 (fr fs j).m) ∧ w.cell? ⟨b, off + j * 4 + 1, none⟩ = some (.int .i64 (fr fs j).p) ∧ w.cell? ⟨b, off + j * 4 + 2, none⟩ = some (.bool (fr fs j).l) ∧ w.cell? ⟨b, off + j * 4 + 3, none⟩ = some x := by
  rw [← hx]; exact frag_cells h hj
theorem splitF_small (d : List Int) (m s : Int) : (splitF d m s).length ≤ d.length := by
  unfold splitF
  split
  · next h =>
    obtain ⟨h1, h2, h3, h4, h5, h6⟩ := h
    rw [length_parts]
    rcases Nat.lt_or_ge d.length (numF d s.toNat) with h | h
    · have h7 := (numF_lt (d := d) (s := s.toNat) (k := d.length) (by omega)).1 h
      have : d.length * 1 ≤ d.length * s.toNat := Nat.mul_le_mul_left _ (by omega)
      omega
    · exact h
  · simp
/-- fragments as they are drawn -/
def goodF (fs : List Frag) : Prop := ∀ i, i < fs.length → (0 ≤ (fr fs i).m ∧ (fr fs i).m ≤ 100) ∧ (-1 ≤ (fr fs i).p ∧ (fr fs i).p ≤ 1000) ∧ (fr fs i).d.length ≤ 13 ∧ ∀ x ∈ (fr fs i).d, 0 ≤ x ∧ x ≤ 255
theorem goodF_wf {fs : List Frag} (h : goodF fs) : wfF fs := fun i hi => by
  obtain ⟨h1, h2, -⟩ := h i hi
  exact ⟨wfOf (by omega) (by omega), wfOf (by omega) (by omega)⟩
theorem goodF_split {d : List Int} {m s : Int} (hm : 0 ≤ m ∧ m ≤ 100) (hd : d.length ≤ 13) (hx : ∀ x ∈ d, 0 ≤ x ∧ x ≤ 255) : goodF (splitF d m s) := by
  intro i hi
  have hl := splitF_small d m s
  unfold splitF at hi hl ⊢
  split at hi
  · next h =>
    rw [if_pos h] at hl ⊢
    rw [length_parts] at hi hl
    rw [fr_parts hi]
    refine ⟨hm, ?_, ?_, fun x hx2 => hx x (List.mem_of_mem_drop (List.mem_of_mem_take hx2))⟩
    · simp only [partF]; omega
    · simp only [partF, List.length_take, List.length_drop]; omega
  · simp at hi
theorem goodF_ins {os : List Frag} {f : Frag} {n : Nat} (hn : n ≤ os.length) (h : goodF os) (hf : goodF [f]) : goodF (insF os n f) := by
  intro i hi
  rw [length_ins] at hi
  rw [fr_ins hn]
  split
  · exact h i (by omega)
  · split
    · exact hf 0 (by simp)
    · exact h (i - 1) (by omega)
theorem goodF_one {fs : List Frag} (h : goodF fs) {i : Nat} (hi : i < fs.length) : goodF [fr fs i] := by
  intro j hj
  obtain rfl : j = 0 := by simpa using hj
  exact h i hi
theorem ins_congr {os : List Frag} {ws : Nat → Value} {f : Frag} {v : Value} {q : Nat} (hq : q ≤ os.length) (i j : Nat) :
    catC (q + 1) (updC (frC os ws) q (rowF f v)) (fun p j => frC os ws (q + p) j) i j = frC (insF os q f) (insV ws q v) i j := by
  rw [frC_ins hq]
  simp only [catC, updC]
  by_cases h1 : i < q
  · rw [if_pos (by omega), if_neg (by omega), if_pos h1]
  · by_cases h2 : i = q
    · rw [if_pos (by omega), if_pos h2, if_neg h1, if_pos h2]
    · rw [if_neg (by omega), if_neg h1, if_neg h2, show q + (i - (q + 1)) = i - 1 by omega]
theorem ins_end {os : List Frag} {ws : Nat → Value} {f : Frag} {v : Value} {i : Nat} (hi : i < os.length + 1) (j : Nat) : updC (frC os ws) os.length (rowF f v) i j = frC (insF os os.length f) (insV ws os.length v) i j := by
  rw [frC_ins (Nat.le_refl _)]
  simp only [updC]
  by_cases h1 : i = os.length
  · rw [if_pos h1, if_neg (by omega), if_pos h1]
  · rw [if_neg h1]
    rw [if_pos (by omega)]
theorem SH.litInn {row : Option Nat} {w0 w : World} {I : List Part} {t : TypeId} {v : Value} {f : Frag} (h : SH row w0 w (ownP .u8 t v f.d :: I)) : SH row w0 w (rdInn (fun _ => v) [f] :: I) :=
  h.as (q := rdInn (fun _ => v) [f]) (fun i hi => by
    obtain rfl : i = 0 := by simpa using hi
    exact OwnK.rd h.p0) (fun g ⟨i, _, e, _⟩ => e) (fun g h => h.elim)
theorem SH.nilInn {row : Option Nat} {w0 w : World} {I : List Part} {f : Frag} (h : SH row w0 w I) (hf : f.d = []) : SH row w0 w (rdInn (fun _ => .slice none 0 0) [f] :: I) :=
  h.push (p := rdInn (fun _ => .slice none 0 0) [f]) (Below.refl _ _) (fun i hi => by
    obtain rfl : i = 0 := by simpa using hi
    show RdB w (.slice none 0 0) f.d
    rw [hf]; exact RdK.ofNil w) (fun g ⟨i, _, e, _⟩ => by cases e)
theorem one_cell {f : Frag} {a : Option Addr} {n c j : Nat} (hj : j < 4) : (rowF f (.slice a n c) j).oneCell' = true := by
  have : j = 0 ∨ j = 1 ∨ j = 2 ∨ j = 3 := by omega
  rcases this with rfl | rfl | rfl | rfl <;> rfl
theorem one_frC {fs : List Frag} {vs : Nat → Value} {w : World} (h : ∀ i, i < fs.length → RdB w (vs i) (fr fs i).d) {i j : Nat} (hi : i < fs.length) (hj : j < 4) : (frC fs vs i j).oneCell' = true := by
  obtain ⟨a, c, hv, -⟩ := (h i hi).form
  have : j = 0 ∨ j = 1 ∨ j = 2 ∨ j = 3 := by omega
  rcases this with rfl | rfl | rfl | rfl
  · rfl
  · rfl
  · rfl
  · simp only [frC]; simp; rw [hv]; rfl

set_option maxHeartbeats 8000000 in
theorem l20Parts_s (g m : Nat) (w : World) {row : Option Nat} {w0 : World} {I : List Part} {sv : Value} {bs : List Int} (hs : SH row w0 w (rdrP g m sv bs :: I)) (hm : m ≤ 1000000) :
    Calls Try.prog 43 #[.pointer (some ⟨g, 0, none⟩)] w (fun e w' => ∃ v, e = .returned v ∧ ∃ (vs : Nat → Value) (fs : List Frag), fs.length ≤ 28 ∧ goodF fs ∧ SH row w0 w' (ownMP 4 34 v fs.length (frC fs vs) :: rdInn vs fs :: rdrP g (m + 150) sv bs :: I)) := by
  go_enter Try.func43, Try.ntmps43
  go_wp2
  have hs := (((hs.noInn (fun _ => undef)).ownEmptyM 4 (by decide) 34 (frC [] (fun _ => undef)))).bring2
  go_loopw [3, 4] (fun o i wr => ∃ (k B cap : Nat) (ws : Nat → Value) (os : List Frag), k ≤ 2 ∧ i = .int .i64 k ∧ o = .slice (some ⟨B, 0, none⟩) os.length cap ∧ os.length ≤ 13 * k ∧ Hid (goodF os) ∧ SH row w0 wr (rdrP g (m + 70 * k) sv bs :: ownMP 4 34 (.slice (some ⟨B, 0, none⟩) os.length cap) os.length (frC os ws) :: rdInn ws os :: I)) (fun _ i _ => 2 - (intOf i).toNat)
  case atStart => exact ⟨0, _, _, _, [], by decide, rfl, rfl, by simp, Lib.hid (fun i hi => absurd hi (Nat.not_lt_zero _)), hs⟩
  case round =>
    obtain ⟨k, B, cap, ws, os, hk, rfl, rfl, hol, HG, hs⟩ := hrel
    by_cases hlt : k < 2
    · have hkw : IntKind.u8.wrap (k : Int) = (k : Int) := by simp [IntKind.wrap, IntKind.signed, IntKind.bits]; omega
      go_wp2_with fail
      refine (l20Bytes_s g _ 12 _ (hs.ownLit .u8 5 [(k : Int)] (by simp [maxLen])).bring1 (by omega) (by decide)).mono ?_
      rintro e w1 ⟨v, rfl, xs, hxl, hxb, hs⟩
      have HXB := Lib.hid hxb
      clear hxb
      go_wp2_with (at_builtin; refine wp_appKX rfl rfl .u8 5 1 Try.underlying22 info_byte rfl hs.bring2 rfl (OwnK.rd hs.p0) (by simp; omega) (by simp [maxLen]; omega) ?_; intro v5 w5 hs)
      have hs := hs.drop1.bring1
      refine (pick_s g _ 5 _ (by first | exact ⟨hs, by omega⟩ | exact ⟨(hs).allocP1 _ _, by omega⟩ | exact ⟨((hs).allocP1 _ _).allocP1 _ _, by omega⟩ | exact ⟨(((hs).allocP1 _ _).allocP1 _ _).allocP1 _ _, by omega⟩ | exact ⟨((((hs).allocP1 _ _).allocP1 _ _).allocP1 _ _).allocP1 _ _, by omega⟩ | exact ⟨(hs).drew, by omega⟩ | exact ⟨((hs).allocP1 _ _).drew, by omega⟩ | exact ⟨(((hs).allocP1 _ _).allocP1 _ _).drew, by omega⟩ | exact ⟨((((hs).allocP1 _ _).allocP1 _ _).allocP1 _ _).drew, by omega⟩ | exact ⟨(((((hs).allocP1 _ _).allocP1 _ _).allocP1 _ _).allocP1 _ _).drew, by omega⟩ | exact ⟨(hs).drewN _, by omega⟩ | exact ⟨((hs).allocP1 _ _).drewN _, by omega⟩ | exact ⟨(((hs).allocP1 _ _).allocP1 _ _).drewN _, by omega⟩ | exact ⟨((((hs).allocP1 _ _).allocP1 _ _).allocP1 _ _).drewN _, by omega⟩ | exact ⟨(((((hs).allocP1 _ _).allocP1 _ _).allocP1 _ _).allocP1 _ _).drewN _, by omega⟩) (by decide)).mono ?_
      rintro e w2 ⟨z, rfl, z_0, z_a, -, hs⟩
      have z_1 := z_a (by decide)
      clear z_a
      obtain ⟨D, hD⟩ : ∃ D, [(k : Int)] ++ xs = D := ⟨_, rfl⟩
      rw [hD] at hs
      have hDl : D.length ≤ 13 := by rw [← hD]; simp; omega
      have HDB : Hid (∀ x ∈ D, 0 ≤ x ∧ x ≤ 255) := by
        rw [← hD]
        intro x hx
        rcases List.mem_append.1 hx with h | h
        · rw [List.mem_singleton] at h; subst h; omega
        · exact HXB.out x h
      have HGL := Lib.hid (goodF_split (d := D) (m := (k : Int)) (s := 1 + z) (by omega) hDl HDB.out)
      have hll := splitF_small D (k : Int) (1 + z)
      go_wp2_with fail
      refine (SH.frag hs (by repeat' (first | with_reducible exact Below.refl _ _ | with_reducible assumption | with_reducible refine below_drewN ?_ _ | with_reducible refine Below.drew ?_ | with_reducible refine Below.alloc ?_ ?_ _ | with_reducible refine Below.setCell ?_ ?_ _ | go_size)) fun hs => specSplit_c _ D (k : Int) (1 + z) _ (OwnK.rd hs.p1)).mono ?_
      rintro e w3 ⟨vL, vs, rfl, hs⟩
      obtain ⟨ls, hls⟩ : ∃ ls, splitF D (k : Int) (1 + z) = ls := ⟨_, rfl⟩
      rw [hls] at hs hll HGL
      clear hls hD HDB HXB
      have hs := hs.drop3.bring1.readInn
      have hs := hs.bring1.bring1.bring4.bring4.bring4
      have hz := z_0
      have hz1 := z_1
      obtain ⟨aL, cL, rfl, -⟩ := (OwnM.rd hs.p4).form
      clear hkw
      go_wp2_with fail
      go_loopw [3, 6] (fun o i wr => ∃ (j B cap : Nat) (ws : Nat → Value) (os : List Frag), j ≤ ls.length ∧ i = .int .i64 j ∧ o = .slice (some ⟨B, 0, none⟩) os.length cap ∧ os.length ≤ 13 * k + j ∧ Hid (goodF os) ∧ SH row w0 wr (rdrP g (m + 70 * k + 38 + 2 * j) sv bs :: ownMP 4 34 (.slice (some ⟨B, 0, none⟩) os.length cap) os.length (frC os ws) :: rdInn ws os :: rdInn vs ls :: ownMP 4 34 (.slice aL ls.length cL) ls.length (frC ls vs) :: I)) (fun _ i _ => ls.length - (intOf i).toNat)
      case atStart => exact ⟨0, B, cap, ws, os, Nat.zero_le _, rfl, rfl, by omega, HG, rdrP_mono hs (by omega)⟩
      case round =>
        clear hs HG hol
        obtain ⟨j, B, cap, ws, os, hj, rfl, rfl, hol, HG, hs⟩ := hrel
        by_cases hjl : j < ls.length
        · go_wp2_with fail
          refine (pick_s g _ 7 _ (by first | exact ⟨hs, by omega⟩ | exact ⟨(hs).allocP1 _ _, by omega⟩ | exact ⟨((hs).allocP1 _ _).allocP1 _ _, by omega⟩ | exact ⟨(((hs).allocP1 _ _).allocP1 _ _).allocP1 _ _, by omega⟩ | exact ⟨((((hs).allocP1 _ _).allocP1 _ _).allocP1 _ _).allocP1 _ _, by omega⟩ | exact ⟨(hs).drew, by omega⟩ | exact ⟨((hs).allocP1 _ _).drew, by omega⟩ | exact ⟨(((hs).allocP1 _ _).allocP1 _ _).drew, by omega⟩ | exact ⟨((((hs).allocP1 _ _).allocP1 _ _).allocP1 _ _).drew, by omega⟩ | exact ⟨(((((hs).allocP1 _ _).allocP1 _ _).allocP1 _ _).allocP1 _ _).drew, by omega⟩ | exact ⟨(hs).drewN _, by omega⟩ | exact ⟨((hs).allocP1 _ _).drewN _, by omega⟩ | exact ⟨(((hs).allocP1 _ _).allocP1 _ _).drewN _, by omega⟩ | exact ⟨((((hs).allocP1 _ _).allocP1 _ _).allocP1 _ _).drewN _, by omega⟩ | exact ⟨(((((hs).allocP1 _ _).allocP1 _ _).allocP1 _ _).allocP1 _ _).drewN _, by omega⟩) (by decide)).mono ?_
          rintro e w4 ⟨p7, rfl, p7_0, p7_a, -, hs⟩
          have p7_1 := p7_a (by decide)
          clear p7_a
          by_cases h7 : 0 < p7
          · go_wp2_with fail
            refine (pick_s g _ ((os.length : Int) + 1) _ (by first | exact ⟨hs, by omega⟩ | exact ⟨(hs).allocP1 _ _, by omega⟩ | exact ⟨((hs).allocP1 _ _).allocP1 _ _, by omega⟩ | exact ⟨(((hs).allocP1 _ _).allocP1 _ _).allocP1 _ _, by omega⟩ | exact ⟨((((hs).allocP1 _ _).allocP1 _ _).allocP1 _ _).allocP1 _ _, by omega⟩ | exact ⟨(hs).drew, by omega⟩ | exact ⟨((hs).allocP1 _ _).drew, by omega⟩ | exact ⟨(((hs).allocP1 _ _).allocP1 _ _).drew, by omega⟩ | exact ⟨((((hs).allocP1 _ _).allocP1 _ _).allocP1 _ _).drew, by omega⟩ | exact ⟨(((((hs).allocP1 _ _).allocP1 _ _).allocP1 _ _).allocP1 _ _).drew, by omega⟩ | exact ⟨(hs).drewN _, by omega⟩ | exact ⟨((hs).allocP1 _ _).drewN _, by omega⟩ | exact ⟨(((hs).allocP1 _ _).allocP1 _ _).drewN _, by omega⟩ | exact ⟨((((hs).allocP1 _ _).allocP1 _ _).allocP1 _ _).drewN _, by omega⟩ | exact ⟨(((((hs).allocP1 _ _).allocP1 _ _).allocP1 _ _).allocP1 _ _).drewN _, by omega⟩) (by omega)).mono ?_
            rintro e w5 ⟨at_, rfl, at__0, at__a, -, hs⟩
            have at__1 := at__a (by omega)
            clear at__a
            obtain ⟨q, rfl⟩ : ∃ q : Nat, at_ = (q : Int) := ⟨at_.toNat, by omega⟩
            have hq : q ≤ os.length := by omega
            have hcap : os.length ≤ cap ∧ cap ≤ 9223372036854775807 := by
              obtain ⟨_, _, hv, h1, h2, -⟩ := OwnM.rd hs.p1
              obtain ⟨-, -, rfl⟩ := Value.slice.inj hv
              exact ⟨h1, h2⟩
            obtain ⟨hcap1, hcap2⟩ := hcap
            obtain ⟨bL, oL, rfl, -⟩ := (OwnM.rd hs.p4).at_ hjl
            obtain ⟨av, cv, hvj, -⟩ := (SH.p3 hs : ∀ i, i < ls.length → RdB _ (vs i) (fr ls i).d) j hjl |>.form
            have HVJ := Lib.hid hvj
            clear hvj
            have HRI := Lib.hid (SH.p2 hs : ∀ i, i < os.length → RdB _ (ws i) (fr os i).d)
            have b0 : (0 : Int) ≤ (q : Int) := by omega
            have b1 : (q : Int) ≤ (os.length : Int) := by omega
            have b2 : (q : Int) ≤ (cap : Int) := by omega
            have j0 : (0 : Int) ≤ (j : Int) := by omega
            have j1 : (j : Int) < (ls.length : Int) := by omega
            clear p7_0 p7_1 z_0 z_1
            by_cases hcq : cap = q
            · obtain rfl : q = os.length := by omega
              subst hcq
              have HTL := Lib.hid (fun (w : World) (x : Option Addr) (c : Nat) (h : c ≤ maxLen) => rdM_zero w x h (frC os ws))
              go_wp2
              have hs := hs.ownEmptyM 4 (by decide) 34 (fun p j => frC os ws (os.length + p) j)
              generalize hT : World.alloc w5 (.cells #[] 34) = wT at *
              obtain ⟨vT, hvT⟩ : ∃ v, Value.slice (some ⟨w5.heap.size, 0, none⟩) 0 0 = v := ⟨_, rfl⟩
              rw [hvT] at hs ⊢
              have hj4 := frag_cellsV HVJ.out (OwnM.rd hs.p5) hjl
              have HJ4 := Lib.hid hj4
              obtain ⟨hj0, hj1c, hj2, hj3⟩ := hj4
              have HRT := Lib.hid (SH.p3 hs : ∀ i, i < os.length → RdB _ (ws i) (fr os i).d)
              have hsq := hs
              clear hs
              go_region_held3 (fun wx => wx.cell? ⟨bL, oL + j * 4, none⟩ = some (.int .i64 (fr ls j).m) ∧ wx.cell? ⟨bL, oL + j * 4 + 1, none⟩ = some (.int .i64 (fr ls j).p) ∧ wx.cell? ⟨bL, oL + j * 4 + 2, none⟩ = some (.bool (fr ls j).l) ∧ wx.cell? ⟨bL, oL + j * 4 + 3, none⟩ = some (.slice av (fr ls j).d.length cv)) (first | exact HJ4.out | exact frag_cellsV HVJ.out (OwnM.rd (hsq.drew.alloc _).p5) hjl | exact frag_cellsV HVJ.out (OwnM.rd hs2.p5) hjl | exact frag_cellsV HVJ.out (OwnM.rd hs3.p5) hjl) (first | (refine step_app1MS rfl rfl 34 48 4 (.agg #[.int .i64 0, .int .i64 0, .bool false, .slice none 0 0]) Try.underlying23 info_frag rfl (by decide) (rowF (fr ls j) (.slice av (fr ls j).d.length cv)) rfl ((hsq.bring2.cutM (k := os.length) (by omega)).drew.alloc _) rfl (fun i hi => by have : i = 0 ∨ i = 1 ∨ i = 2 ∨ i = 3 := (by omega); rcases this with rfl | rfl | rfl | rfl <;> exact World.cell?_alloc_at _ _ _ _ rfl) (fun i hi => one_cell hi) (by omega) (by unfold maxLen; omega) ?_; intro v2 w2 hs2) | (refine step_appMX rfl rfl 34 48 4 (.agg #[.int .i64 0, .int .i64 0, .bool false, .slice none 0 0]) Try.underlying23 info_frag rfl (by decide) rfl hs2 rfl (OwnM.rd hs2.p1) (fun i j2 hi hj2 => one_frC HRT.out (by omega) hj2) (by omega) (by unfold maxLen; omega) ?_; intro v3 w3 hs3))
              obtain ⟨a3, c3, rfl, -⟩ := (OwnM.rd hs3.p0).form
              obtain ⟨B3, hB3, -⟩ := OwnM.at_ hs3.p0 (i := 0) (by omega)
              subst hB3
              have hle : os.length + 1 + 0 = (insF os os.length (fr ls j)).length := by (rw [length_ins]; try omega)
              have hs := hs3.congrM (c' := frC (insF os os.length (fr ls j)) (insV ws os.length (vs j))) (fun i j2 _ _ => by rw [HVJ.out]; exact ins_congr (by omega) i j2)
              rw [hle] at hs ⊢
              clear hs2 hs3 hj0 hj1c hj2 hj3 HJ4 hsq
              have hs := hs.drop1.bring4.bring2.bring2.bring4.bring4
              have hs := hs.insInn (n := os.length) (by omega) hjl
              have hs := hs.bring4.bring2.bring2.bring3.bring4
              go_wp2
              go_roundw
              case rel => exact ⟨j + 1, B3, c3, insV ws os.length (vs j), insF os os.length (fr ls j), hjl, by go_num, rfl, by rw [length_ins]; omega, Lib.hid (goodF_ins (by omega) HG.out (goodF_one HGL.out hjl)), rdrP_mono hs (by omega)⟩
              case measure => simp [intOf]; omega
            · have h3 := RdM.sub (OwnM.rd hs.p1) (i := q) (k := os.length - q) (by omega)
              rw [Nat.zero_add] at h3
              have HTL := Lib.hid h3
              clear h3
              go_wp2_with (at_builtin; refine wp_appMX rfl rfl 34 48 4 (.agg #[.int .i64 0, .int .i64 0, .bool false, .slice none 0 0]) Try.underlying23 info_frag rfl (by decide) rfl (hs.ownEmptyM 4 (by decide) 34 (fun _ _ => undef)) rfl (HTL.out.below (by decide) ((Below.refl _ _).alloc (Nat.le_refl _) _)) (fun i j hi hj => one_frC HRI.out (by omega) hj) (by omega) (by unfold maxLen; omega) ?_; intro vT wT hs)
              have hs := hs.congrM (c' := fun p j => frC os ws (q + p) j) (fun i j hi hj => by simp [catC])
              rw [Nat.zero_add] at hs
              have hj4 := frag_cellsV HVJ.out (OwnM.rd hs.p5) hjl
              have HJ4 := Lib.hid hj4
              obtain ⟨hj0, hj1c, hj2, hj3⟩ := hj4
              have HRT := Lib.hid (SH.p3 hs : ∀ i, i < os.length → RdB _ (ws i) (fr os i).d)
              have hsq := hs
              clear hs
              go_region_held3 (fun wx => wx.cell? ⟨bL, oL + j * 4, none⟩ = some (.int .i64 (fr ls j).m) ∧ wx.cell? ⟨bL, oL + j * 4 + 1, none⟩ = some (.int .i64 (fr ls j).p) ∧ wx.cell? ⟨bL, oL + j * 4 + 2, none⟩ = some (.bool (fr ls j).l) ∧ wx.cell? ⟨bL, oL + j * 4 + 3, none⟩ = some (.slice av (fr ls j).d.length cv)) (first | exact HJ4.out | exact frag_cellsV HVJ.out (OwnM.rd (hsq.drew.alloc _).p5) hjl | exact frag_cellsV HVJ.out (OwnM.rd hs2.p5) hjl | exact frag_cellsV HVJ.out (OwnM.rd hs3.p5) hjl) (first | (refine step_app1MS rfl rfl 34 48 4 (.agg #[.int .i64 0, .int .i64 0, .bool false, .slice none 0 0]) Try.underlying23 info_frag rfl (by decide) (rowF (fr ls j) (.slice av (fr ls j).d.length cv)) rfl ((hsq.bring2.cutM (k := q) (by omega)).drew.alloc _) rfl (fun i hi => by have : i = 0 ∨ i = 1 ∨ i = 2 ∨ i = 3 := (by omega); rcases this with rfl | rfl | rfl | rfl <;> exact World.cell?_alloc_at _ _ _ _ rfl) (fun i hi => one_cell hi) (by omega) (by unfold maxLen; omega) ?_; intro v2 w2 hs2) | (refine step_appMX rfl rfl 34 48 4 (.agg #[.int .i64 0, .int .i64 0, .bool false, .slice none 0 0]) Try.underlying23 info_frag rfl (by decide) rfl hs2 rfl (OwnM.rd hs2.p1) (fun i j2 hi hj2 => one_frC HRT.out (by omega) hj2) (by omega) (by unfold maxLen; omega) ?_; intro v3 w3 hs3))
              obtain ⟨a3, c3, rfl, -⟩ := (OwnM.rd hs3.p0).form
              obtain ⟨B3, hB3, -⟩ := OwnM.at_ hs3.p0 (i := 0) (by omega)
              subst hB3
              have hle : q + 1 + (os.length - q) = (insF os q (fr ls j)).length := by (rw [length_ins]; try omega)
              have hs := hs3.congrM (c' := frC (insF os q (fr ls j)) (insV ws q (vs j))) (fun i j2 _ _ => by rw [HVJ.out]; exact ins_congr (by omega) i j2)
              rw [hle] at hs ⊢
              clear hs2 hs3 hj0 hj1c hj2 hj3 HJ4 hsq
              have hs := hs.drop1.bring4.bring2.bring2.bring4.bring4
              have hs := hs.insInn (n := q) (by omega) hjl
              have hs := hs.bring4.bring2.bring2.bring3.bring4
              go_wp2
              go_roundw
              case rel => exact ⟨j + 1, B3, c3, insV ws q (vs j), insF os q (fr ls j), hjl, by go_num, rfl, by rw [length_ins]; omega, Lib.hid (goodF_ins (by omega) HG.out (goodF_one HGL.out hjl)), rdrP_mono hs (by omega)⟩
              case measure => simp [intOf]; omega
          · have hp0 : ¬ 0 < p7 := h7
            go_wp2
            go_roundw
            case rel => exact ⟨j + 1, B, cap, ws, os, hjl, by go_num, rfl, by omega, HG, rdrP_mono hs (by omega)⟩
            case measure => simp [intOf]; omega
        · obtain rfl : j = ls.length := by omega
          go_wp2
          go_roundw
          case rel => exact ⟨k + 1, B, cap, ws, os, hlt, by go_num, rfl, by omega, HG, rdrP_mono hs.drop3.drop3 (by omega)⟩
          case measure => simp [intOf]; omega
    · obtain rfl : k = 2 := by omega
      have hs := rdrP_mono hs (show m + 70 * 2 ≤ m + 140 by omega)
      have hol2 : os.length ≤ 26 := by omega
      by_cases hn0 : os.length = 0
      · obtain rfl := List.eq_nil_of_length_eq_zero hn0
        clear hn0 hol2 hol
        go_wp2_with fail
        refine (odd_s g _ 12 _ (by first | exact ⟨hs, by omega⟩ | exact ⟨(hs).allocP1 _ _, by omega⟩ | exact ⟨((hs).allocP1 _ _).allocP1 _ _, by omega⟩ | exact ⟨(((hs).allocP1 _ _).allocP1 _ _).allocP1 _ _, by omega⟩ | exact ⟨((((hs).allocP1 _ _).allocP1 _ _).allocP1 _ _).allocP1 _ _, by omega⟩ | exact ⟨(hs).drew, by omega⟩ | exact ⟨((hs).allocP1 _ _).drew, by omega⟩ | exact ⟨(((hs).allocP1 _ _).allocP1 _ _).drew, by omega⟩ | exact ⟨((((hs).allocP1 _ _).allocP1 _ _).allocP1 _ _).drew, by omega⟩ | exact ⟨(((((hs).allocP1 _ _).allocP1 _ _).allocP1 _ _).allocP1 _ _).drew, by omega⟩ | exact ⟨(hs).drewN _, by omega⟩ | exact ⟨((hs).allocP1 _ _).drewN _, by omega⟩ | exact ⟨(((hs).allocP1 _ _).allocP1 _ _).drewN _, by omega⟩ | exact ⟨((((hs).allocP1 _ _).allocP1 _ _).allocP1 _ _).drewN _, by omega⟩ | exact ⟨(((((hs).allocP1 _ _).allocP1 _ _).allocP1 _ _).allocP1 _ _).drewN _, by omega⟩) (by decide)).mono ?_
        rintro e w1 ⟨o12, rfl, -, hs⟩
        cases o12
        · go_wp2
          go_ret
          have hs := (rdrP_mono hs (show _ ≤ m + 150 by omega)).bring2.bring2
          exact ⟨_, rfl, ws, ([] : List Frag), by first | omega | simp, HG.out, hs⟩
        · go_wp2_with fail
          refine (pick_s g _ 3 _ ⟨hs.allocP1 _ _, by omega⟩ (by decide)).mono ?_
          rintro e w2 ⟨z3, rfl, z3_0, z3_a, -, hs⟩
          have z3_1 := z3_a (by decide)
          clear z3_a
          have hb := hs.p1
          have hc0 := blk_cell hb 0
          have hc1 := blk_cell hb 1
          have hc2 := blk_cell hb 2
          clear hb
          have hs := hs.drop1
          obtain ⟨y, y0, y1, hy⟩ : ∃ y : Int, -1 ≤ y ∧ y ≤ 50 ∧ w2.cell? ⟨w1.heap.size, z3.toNat, none⟩ = some (.int .i64 y) := by
            obtain rfl | rfl | rfl : z3 = 0 ∨ z3 = 1 ∨ z3 = 2 := by omega
            · exact ⟨-1, by omega, by omega, hc0⟩
            · exact ⟨50, by omega, by omega, hc1⟩
            · exact ⟨30, by omega, by omega, hc2⟩
          clear hc0 hc1 hc2
          have hs := hs.bring2.bring2
          go_wp2_with (at_builtin; refine wp_app1MS rfl rfl 34 48 4 (.agg #[.int .i64 0, .int .i64 0, .bool false, .slice none 0 0]) Try.underlying23 info_frag rfl (by decide) (rowF ⟨1, y, false, []⟩ (.slice none 0 0)) rfl (hs.alloc _) rfl (fun i hi => by have : i = 0 ∨ i = 1 ∨ i = 2 ∨ i = 3 := (by omega); rcases this with rfl | rfl | rfl | rfl <;> exact World.cell?_alloc_at _ _ _ _ rfl) (fun i hi => one_cell hi) (by first | omega | (simp; done)) (by first | (unfold maxLen; omega) | (simp [maxLen]; done)) ?_; intro v9 w9 hs)
          have hle : ([] : List Frag).length + 1 = (insF ([] : List Frag) ([] : List Frag).length ⟨1, y, false, []⟩).length := by rw [length_ins]
          have hs := hs.congrM (c' := frC (insF ([] : List Frag) ([] : List Frag).length ⟨1, y, false, []⟩) (insV ws ([] : List Frag).length (.slice none 0 0))) (fun i j2 hi _ => ins_end hi j2)
          rw [hle] at hs
          have hs := (hs.nilInn (f := ⟨1, y, false, []⟩) rfl).bring2
          have hs := hs.insInn (n := ([] : List Frag).length) (j := 0) (Nat.le_refl _) (by simp)
          have hs := hs.drop1.bring1.bring2
          have hs : SH row w0 _ (_ :: _ :: rdInn (insV ws ([] : List Frag).length (.slice none 0 0)) (insF ([] : List Frag) ([] : List Frag).length ⟨1, y, false, []⟩) :: I) := hs
          go_ret
          exact ⟨_, rfl, _, _, by rw [length_ins]; first | omega | (simp; done), goodF_ins (Nat.le_refl _) HG.out (fun i hi => by
            obtain rfl : i = 0 := by simpa using hi
            refine ⟨?_, ?_, ?_, ?_⟩ <;> simp [fr] <;> omega), rdrP_mono hs (by omega) |> fun hs => hs.bring2.bring2⟩
      · go_wp2_with fail
        refine (odd_s g _ 6 _ (by first | exact ⟨hs, by omega⟩ | exact ⟨(hs).allocP1 _ _, by omega⟩ | exact ⟨((hs).allocP1 _ _).allocP1 _ _, by omega⟩ | exact ⟨(((hs).allocP1 _ _).allocP1 _ _).allocP1 _ _, by omega⟩ | exact ⟨((((hs).allocP1 _ _).allocP1 _ _).allocP1 _ _).allocP1 _ _, by omega⟩ | exact ⟨(hs).drew, by omega⟩ | exact ⟨((hs).allocP1 _ _).drew, by omega⟩ | exact ⟨(((hs).allocP1 _ _).allocP1 _ _).drew, by omega⟩ | exact ⟨((((hs).allocP1 _ _).allocP1 _ _).allocP1 _ _).drew, by omega⟩ | exact ⟨(((((hs).allocP1 _ _).allocP1 _ _).allocP1 _ _).allocP1 _ _).drew, by omega⟩ | exact ⟨(hs).drewN _, by omega⟩ | exact ⟨((hs).allocP1 _ _).drewN _, by omega⟩ | exact ⟨(((hs).allocP1 _ _).allocP1 _ _).drewN _, by omega⟩ | exact ⟨((((hs).allocP1 _ _).allocP1 _ _).allocP1 _ _).drewN _, by omega⟩ | exact ⟨(((((hs).allocP1 _ _).allocP1 _ _).allocP1 _ _).allocP1 _ _).drewN _, by omega⟩) (by decide)).mono ?_
        rintro e w1 ⟨o6, rfl, -, hs⟩
        cases o6
        · go_wp2_with fail
          refine (odd_s g _ 12 _ (by first | exact ⟨hs, by omega⟩ | exact ⟨(hs).allocP1 _ _, by omega⟩ | exact ⟨((hs).allocP1 _ _).allocP1 _ _, by omega⟩ | exact ⟨(((hs).allocP1 _ _).allocP1 _ _).allocP1 _ _, by omega⟩ | exact ⟨((((hs).allocP1 _ _).allocP1 _ _).allocP1 _ _).allocP1 _ _, by omega⟩ | exact ⟨(hs).drew, by omega⟩ | exact ⟨((hs).allocP1 _ _).drew, by omega⟩ | exact ⟨(((hs).allocP1 _ _).allocP1 _ _).drew, by omega⟩ | exact ⟨((((hs).allocP1 _ _).allocP1 _ _).allocP1 _ _).drew, by omega⟩ | exact ⟨(((((hs).allocP1 _ _).allocP1 _ _).allocP1 _ _).allocP1 _ _).drew, by omega⟩ | exact ⟨(hs).drewN _, by omega⟩ | exact ⟨((hs).allocP1 _ _).drewN _, by omega⟩ | exact ⟨(((hs).allocP1 _ _).allocP1 _ _).drewN _, by omega⟩ | exact ⟨((((hs).allocP1 _ _).allocP1 _ _).allocP1 _ _).drewN _, by omega⟩ | exact ⟨(((((hs).allocP1 _ _).allocP1 _ _).allocP1 _ _).allocP1 _ _).drewN _, by omega⟩) (by decide)).mono ?_
          rintro e w2 ⟨o12, rfl, -, hs⟩
          cases o12
          · go_wp2
            go_ret
            have hs := (rdrP_mono hs (show _ ≤ m + 150 by omega)).bring2.bring2
            exact ⟨_, rfl, ws, os, by first | omega | simp, HG.out, hs⟩
          · go_wp2_with fail
            refine (pick_s g _ 3 _ ⟨hs.allocP1 _ _, by omega⟩ (by decide)).mono ?_
            rintro e w3 ⟨z3, rfl, z3_0, z3_a, -, hs⟩
            have z3_1 := z3_a (by decide)
            clear z3_a
            have hb := hs.p1
            have hc0 := blk_cell hb 0
            have hc1 := blk_cell hb 1
            have hc2 := blk_cell hb 2
            clear hb
            have hs := hs.drop1
            obtain ⟨y, y0, y1, hy⟩ : ∃ y : Int, -1 ≤ y ∧ y ≤ 50 ∧ w3.cell? ⟨w2.heap.size, z3.toNat, none⟩ = some (.int .i64 y) := by
              obtain rfl | rfl | rfl : z3 = 0 ∨ z3 = 1 ∨ z3 = 2 := by omega
              · exact ⟨-1, by omega, by omega, hc0⟩
              · exact ⟨50, by omega, by omega, hc1⟩
              · exact ⟨30, by omega, by omega, hc2⟩
            clear hc0 hc1 hc2
            have hs := hs.bring2.bring2
            go_wp2_with (at_builtin; refine wp_app1MS rfl rfl 34 48 4 (.agg #[.int .i64 0, .int .i64 0, .bool false, .slice none 0 0]) Try.underlying23 info_frag rfl (by decide) (rowF ⟨1, y, false, []⟩ (.slice none 0 0)) rfl (hs.alloc _) rfl (fun i hi => by have : i = 0 ∨ i = 1 ∨ i = 2 ∨ i = 3 := (by omega); rcases this with rfl | rfl | rfl | rfl <;> exact World.cell?_alloc_at _ _ _ _ rfl) (fun i hi => one_cell hi) (by first | omega | (simp; done)) (by first | (unfold maxLen; omega) | (simp [maxLen]; done)) ?_; intro v9 w9 hs)
            have hle : os.length + 1 = (insF os os.length ⟨1, y, false, []⟩).length := by rw [length_ins]
            have hs := hs.congrM (c' := frC (insF os os.length ⟨1, y, false, []⟩) (insV ws os.length (.slice none 0 0))) (fun i j2 hi _ => ins_end hi j2)
            rw [hle] at hs
            have hs := (hs.nilInn (f := ⟨1, y, false, []⟩) rfl).bring2
            have hs := hs.insInn (n := os.length) (j := 0) (Nat.le_refl _) (by simp)
            have hs := hs.drop1.bring1.bring2
            have hs : SH row w0 _ (_ :: _ :: rdInn (insV ws os.length (.slice none 0 0)) (insF os os.length ⟨1, y, false, []⟩) :: I) := hs
            go_ret
            exact ⟨_, rfl, _, _, by rw [length_ins]; first | omega | (simp; done), goodF_ins (Nat.le_refl _) HG.out (fun i hi => by
              obtain rfl : i = 0 := by simpa using hi
              refine ⟨?_, ?_, ?_, ?_⟩ <;> simp [fr] <;> omega), rdrP_mono hs (by omega) |> fun hs => hs.bring2.bring2⟩
        · go_wp2_with fail
          refine (pick_s g _ (os.length : Int) _ (by first | exact ⟨hs, by omega⟩ | exact ⟨(hs).allocP1 _ _, by omega⟩ | exact ⟨((hs).allocP1 _ _).allocP1 _ _, by omega⟩ | exact ⟨(((hs).allocP1 _ _).allocP1 _ _).allocP1 _ _, by omega⟩ | exact ⟨((((hs).allocP1 _ _).allocP1 _ _).allocP1 _ _).allocP1 _ _, by omega⟩ | exact ⟨(hs).drew, by omega⟩ | exact ⟨((hs).allocP1 _ _).drew, by omega⟩ | exact ⟨(((hs).allocP1 _ _).allocP1 _ _).drew, by omega⟩ | exact ⟨((((hs).allocP1 _ _).allocP1 _ _).allocP1 _ _).drew, by omega⟩ | exact ⟨(((((hs).allocP1 _ _).allocP1 _ _).allocP1 _ _).allocP1 _ _).drew, by omega⟩ | exact ⟨(hs).drewN _, by omega⟩ | exact ⟨((hs).allocP1 _ _).drewN _, by omega⟩ | exact ⟨(((hs).allocP1 _ _).allocP1 _ _).drewN _, by omega⟩ | exact ⟨((((hs).allocP1 _ _).allocP1 _ _).allocP1 _ _).drewN _, by omega⟩ | exact ⟨(((((hs).allocP1 _ _).allocP1 _ _).allocP1 _ _).allocP1 _ _).drewN _, by omega⟩) (by omega)).mono ?_
          rintro e w2 ⟨x6, rfl, x6_0, x6_a, -, hs⟩
          have x6_1 := x6_a (by omega)
          clear x6_a
          obtain ⟨q, rfl⟩ : ∃ q : Nat, x6 = (q : Int) := ⟨x6.toNat, by omega⟩
          have hq : q < os.length := by omega
          obtain ⟨av, cv, hvq, -⟩ := (SH.p2 hs : ∀ i, i < os.length → RdB _ (ws i) (fr os i).d) q hq |>.form
          obtain ⟨hj0, hj1, hj2, hj3⟩ := frag_cellsV hvq (OwnM.rd hs.p1) hq
          rw [Nat.zero_add] at hj0 hj1 hj2 hj3
          clear hvq
          have hs := (hs.alloc (.cells #[.int .i64 (fr os q).m, .int .i64 (fr os q).p, .bool (fr os q).l, .slice (some ⟨w2.heap.size + 1, 0, none⟩) 1 1] 34)).ownLit .u8 5 [9] (by simp [maxLen])
          simp only [World.size_alloc] at hs
          have hs := hs.bring1.bring3.bring2.bring3
          go_wp2_with (at_builtin; refine wp_app1MS rfl rfl 34 48 4 (.agg #[.int .i64 0, .int .i64 0, .bool false, .slice none 0 0]) Try.underlying23 info_frag rfl (by decide) (rowF ⟨(fr os q).m, (fr os q).p, (fr os q).l, [9]⟩ (.slice (some ⟨w2.heap.size + 1, 0, none⟩) 1 1)) rfl (hs.alloc _) rfl (fun i hi => by have : i = 0 ∨ i = 1 ∨ i = 2 ∨ i = 3 := (by omega); rcases this with rfl | rfl | rfl | rfl <;> exact World.cell?_alloc_at _ _ _ _ (by simp only [World.size_alloc])) (fun i hi => one_cell hi) (by omega) (by unfold maxLen; omega) ?_; intro v8 w8 hs)
          have hle : os.length + 1 = (insF os os.length ⟨(fr os q).m, (fr os q).p, (fr os q).l, [9]⟩).length := by rw [length_ins]
          have hs := hs.congrM (c' := frC (insF os os.length ⟨(fr os q).m, (fr os q).p, (fr os q).l, [9]⟩) (insV ws os.length (.slice (some ⟨w2.heap.size + 1, 0, none⟩) 1 1))) (fun i j2 hi _ => ins_end hi j2)
          rw [hle] at hs
          have hs : SH row w0 _ (_ :: ownP .u8 _ _ (Frag.d ⟨(fr os q).m, (fr os q).p, (fr os q).l, [9]⟩) :: _) := hs
          have hs := hs.bring1.litInn
          have hs := hs.bring2
          have hs := hs.insInn (n := os.length) (j := 0) (Nat.le_refl _) (by simp)
          have hs := hs.drop1.bring1.bring2
          have hs : SH row w0 _ (_ :: _ :: rdInn (insV ws os.length (.slice (some ⟨w2.heap.size + 1, 0, none⟩) 1 1)) (insF os os.length ⟨(fr os q).m, (fr os q).p, (fr os q).l, [9]⟩) :: I) := hs
          obtain ⟨os2, hos⟩ : ∃ o, insF os os.length ⟨(fr os q).m, (fr os q).p, (fr os q).l, [9]⟩ = o := ⟨_, rfl⟩
          obtain ⟨ws2, hws⟩ : ∃ o, insV ws os.length (.slice (some ⟨w2.heap.size + 1, 0, none⟩) 1 1) = o := ⟨_, rfl⟩
          have HG2 : Hid (goodF os2) := by
            rw [← hos]
            refine goodF_ins (Nat.le_refl _) HG.out (fun i hi => ?_)
            obtain rfl : i = 0 := by simpa using hi
            obtain ⟨g1, g2, g3, g4⟩ := HG.out q hq
            exact ⟨g1, g2, by simp [fr], by simp [fr]⟩
          have hl2 : os2.length ≤ 27 := by rw [← hos, length_ins]; omega
          rw [hos, hws] at hs
          clear hos hws hol hol2 hj0 hj1 hj2 hj3
          go_wp2_with fail
          refine (odd_s g _ 12 _ (by first | exact ⟨hs, by omega⟩ | exact ⟨(hs).allocP1 _ _, by omega⟩ | exact ⟨((hs).allocP1 _ _).allocP1 _ _, by omega⟩ | exact ⟨(((hs).allocP1 _ _).allocP1 _ _).allocP1 _ _, by omega⟩ | exact ⟨((((hs).allocP1 _ _).allocP1 _ _).allocP1 _ _).allocP1 _ _, by omega⟩ | exact ⟨(hs).drew, by omega⟩ | exact ⟨((hs).allocP1 _ _).drew, by omega⟩ | exact ⟨(((hs).allocP1 _ _).allocP1 _ _).drew, by omega⟩ | exact ⟨((((hs).allocP1 _ _).allocP1 _ _).allocP1 _ _).drew, by omega⟩ | exact ⟨(((((hs).allocP1 _ _).allocP1 _ _).allocP1 _ _).allocP1 _ _).drew, by omega⟩ | exact ⟨(hs).drewN _, by omega⟩ | exact ⟨((hs).allocP1 _ _).drewN _, by omega⟩ | exact ⟨(((hs).allocP1 _ _).allocP1 _ _).drewN _, by omega⟩ | exact ⟨((((hs).allocP1 _ _).allocP1 _ _).allocP1 _ _).drewN _, by omega⟩ | exact ⟨(((((hs).allocP1 _ _).allocP1 _ _).allocP1 _ _).allocP1 _ _).drewN _, by omega⟩) (by decide)).mono ?_
          rintro e w3 ⟨o12, rfl, -, hs⟩
          cases o12
          · go_wp2
            go_ret
            have hs := (rdrP_mono hs (show _ ≤ m + 150 by omega)).bring2.bring2
            exact ⟨_, rfl, ws2, os2, by first | omega | simp, HG2.out, hs⟩
          · go_wp2_with fail
            refine (pick_s g _ 3 _ ⟨hs.allocP1 _ _, by omega⟩ (by decide)).mono ?_
            rintro e w4 ⟨z3, rfl, z3_0, z3_a, -, hs⟩
            have z3_1 := z3_a (by decide)
            clear z3_a
            have hb := hs.p1
            have hc0 := blk_cell hb 0
            have hc1 := blk_cell hb 1
            have hc2 := blk_cell hb 2
            clear hb
            have hs := hs.drop1
            obtain ⟨y, y0, y1, hy⟩ : ∃ y : Int, -1 ≤ y ∧ y ≤ 50 ∧ w4.cell? ⟨w3.heap.size, z3.toNat, none⟩ = some (.int .i64 y) := by
              obtain rfl | rfl | rfl : z3 = 0 ∨ z3 = 1 ∨ z3 = 2 := by omega
              · exact ⟨-1, by omega, by omega, hc0⟩
              · exact ⟨50, by omega, by omega, hc1⟩
              · exact ⟨30, by omega, by omega, hc2⟩
            clear hc0 hc1 hc2
            have hs := hs.bring2.bring2
            go_wp2_with (at_builtin; refine wp_app1MS rfl rfl 34 48 4 (.agg #[.int .i64 0, .int .i64 0, .bool false, .slice none 0 0]) Try.underlying23 info_frag rfl (by decide) (rowF ⟨1, y, false, []⟩ (.slice none 0 0)) rfl (hs.alloc _) rfl (fun i hi => by have : i = 0 ∨ i = 1 ∨ i = 2 ∨ i = 3 := (by omega); rcases this with rfl | rfl | rfl | rfl <;> exact World.cell?_alloc_at _ _ _ _ rfl) (fun i hi => one_cell hi) (by first | omega | (simp; done)) (by first | (unfold maxLen; omega) | (simp [maxLen]; done)) ?_; intro v9 w9 hs)
            have hle : os2.length + 1 = (insF os2 os2.length ⟨1, y, false, []⟩).length := by rw [length_ins]
            have hs := hs.congrM (c' := frC (insF os2 os2.length ⟨1, y, false, []⟩) (insV ws2 os2.length (.slice none 0 0))) (fun i j2 hi _ => ins_end hi j2)
            rw [hle] at hs
            have hs := (hs.nilInn (f := ⟨1, y, false, []⟩) rfl).bring2
            have hs := hs.insInn (n := os2.length) (j := 0) (Nat.le_refl _) (by simp)
            have hs := hs.drop1.bring1.bring2
            have hs : SH row w0 _ (_ :: _ :: rdInn (insV ws2 os2.length (.slice none 0 0)) (insF os2 os2.length ⟨1, y, false, []⟩) :: I) := hs
            go_ret
            exact ⟨_, rfl, _, _, by rw [length_ins]; first | omega | (simp; done), goodF_ins (Nat.le_refl _) HG2.out (fun i hi => by
              obtain rfl : i = 0 := by simpa using hi
              refine ⟨?_, ?_, ?_, ?_⟩ <;> simp [fr] <;> omega), rdrP_mono hs (by omega) |> fun hs => hs.bring2.bring2⟩
end Go.Proofs.Ytmhlnelnjnhcoaa
