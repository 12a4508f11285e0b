import Derived.Test.YtjgafkoboolclaaDoorProg
import Derived.Test.YtjgafkoboolclaaDoorLib
import Derived.Test.YtjgafkoboolclaaDoorMem
import Derived.Test.YtjgafkoboolclaaDoorOpen
import Derived.Test.YtjgafkoboolclaaDoorSym
import Derived.Test.YtjgafkoboolclaaDoorInts
import Derived.Test.YtjgafkoboolclaaDoorBlk
namespace Go.Proofs.YtjgafkoboolclaaDoor
open Go.RowKit

/-! Lists of lists of numbers: 'vs i' is the slice of row i. -/
def gl (xss : List (List Int)) (i : Nat) : List Int := xss.getD i []
def oneC (vs : Nat → Value) (i _ : Nat) : Value := vs i
structure RdSS (w : World) (v : Value) (vs : Nat → Value) (xss : List (List Int)) : Prop where
  rows : RdM 1 w v xss.length (oneC vs)
  each : ∀ i, i < xss.length → RdI w (vs i) (gl xss i)
def rdSSP (v : Value) (vs : Nat → Value) (xss : List (List Int)) : Part where
  says w := RdSS w v vs xss
  on g := (v.ownBlock = some g ∧ 0 < xss.length) ∨ ∃ i, i < xss.length ∧ (vs i).ownBlock = some g ∧ 0 < (gl xss i).length
  wr _ := False
  sub _ h := h.elim
  lt w h g hg := by
    rcases hg with hg | ⟨i, hi, hg⟩
    · exact (rdMP 1 v xss.length (oneC vs)).lt w ⟨h.rows, by decide⟩ g hg
    · exact (rdP .i64 (vs i) (gl xss i)).lt w (h.each i hi) g hg
  keep w w' h hk := ⟨((rdMP 1 v xss.length (oneC vs)).keep w w' ⟨h.rows, by decide⟩ (fun g hg => hk g (.inl hg))).1,
    fun i hi => (rdP .i64 (vs i) (gl xss i)).keep w w' (h.each i hi) (fun g hg => hk g (.inr ⟨i, hi, hg.1, hg.2⟩))⟩
theorem rdSSP_wr {v : Value} {vs : Nat → Value} {xss : List (List Int)} : ∀ g, ¬ (rdSSP v vs xss).wr g := fun _ h => h

/-- n rows that the call owns -/
def innP (t : TypeId) (vs : Nat → Value) (xss : List (List Int)) (n : Nat) : Part where
  says w := (∀ i, i < n → OwnK .i64 w 0 t (vs i) (gl xss i)) ∧ ∀ i j g, i < n → j < n → (vs i).ownBlock = some g → (vs j).ownBlock = some g → i = j
  on g := ∃ i, i < n ∧ (vs i).ownBlock = some g
  wr g := ∃ i, i < n ∧ (vs i).ownBlock = some g
  sub _ h := h
  lt w h g hg := by obtain ⟨i, hi, hg⟩ := hg; exact (OwnK.base (h.1 i hi) g hg).2
  keep w w' h hk := ⟨fun i hi => OwnK.keep (h.1 i hi) fun g e _ => hk g ⟨i, hi, e⟩, h.2⟩

variable {row : Option Nat} {w0 w w' : World} {I : List Part} {a b q : Part}
/-- two parts as one -/
theorem SH.merge2 (h : SH row w0 w (a :: b :: I)) (hq : q.says w) (hon : ∀ g, q.on g → a.on g ∨ b.on g) (hwr : ∀ g, q.wr g → a.wr g ∨ b.wr g) : SH row w0 w (q :: I) := by
  have hA := List.pairwise_cons.1 h.apart
  have hB := List.pairwise_cons.1 hA.2
  refine ⟨h.grown, ?_, ?_, ?_⟩
  · intro p hp
    rcases List.mem_cons.1 hp with rfl | hp
    · exact hq
    · exact h.says p (by simp [hp])
  · intro p hp g hg
    rcases List.mem_cons.1 hp with rfl | hp
    · rcases hwr g hg with h1 | h1
      · exact h.new a (by simp) g h1
      · exact h.new b (by simp) g h1
    · exact h.new p (by simp [hp]) g hg
  · refine List.pairwise_cons.2 ⟨fun p hp g => ⟨fun h1 h2 => ?_, fun h1 h2 => ?_⟩, hB.2⟩
    · rcases hwr g h1 with h3 | h3
      · exact ((hA.1 p (by simp [hp])) g).1 h3 h2
      · exact ((hB.1 p hp) g).1 h3 h2
    · rcases hon g h2 with h3 | h3
      · exact ((hA.1 p (by simp [hp])) g).2 h1 h3
      · exact ((hB.1 p hp) g).2 h1 h3

def updV (vs : Nat → Value) (n : Nat) (v : Value) : Nat → Value := fun i => if i = n then v else vs i
theorem updV_eq {vs : Nat → Value} {n : Nat} {v : Value} : updV vs n v n = v := by simp [updV]
theorem updV_ne {vs : Nat → Value} {n i : Nat} {v : Value} (h : ¬ i = n) : updV vs n v i = vs i := by simp [updV, h]
theorem SH.inn0 (h : SH row w0 w I) (t : TypeId) (vs : Nat → Value) (xss : List (List Int)) : SH row w0 w (innP t vs xss 0 :: I) :=
  h.push (Below.refl _ _) ⟨fun i hi => absurd hi (Nat.not_lt_zero _), fun i j g hi => absurd hi (Nat.not_lt_zero _)⟩ (fun g ⟨i, hi, _⟩ => absurd hi (Nat.not_lt_zero _))
/-- one more row -/
theorem SH.pushInn {t : TypeId} {v : Value} {xs : List Int} {vs : Nat → Value} {xss : List (List Int)} {n : Nat} (h : SH row w0 w (ownP .i64 t v xs :: innP t vs xss n :: I)) (hx : gl xss n = xs) :
    SH row w0 w (innP t (updV vs n v) xss (n + 1) :: I) := by
  have hp := h.p1
  have hap := h.apart01
  refine h.merge2 ⟨fun i hi => ?_, fun i j g hi hj h1 h2 => ?_⟩ (fun g ⟨i, hi, hg⟩ => ?_) (fun g ⟨i, hi, hg⟩ => ?_)
  · by_cases e : i = n
    · subst e; rw [updV_eq, hx]; exact h.p0
    · rw [updV_ne e]; exact hp.1 i (by omega)
  · by_cases e1 : i = n
    · by_cases e2 : j = n
      · omega
      · subst e1; rw [updV_eq] at h1; rw [updV_ne e2] at h2
        exact absurd (show (innP t vs xss i).on g from ⟨j, by omega, h2⟩) ((hap g).1 h1)
    · by_cases e2 : j = n
      · subst e2; rw [updV_ne e1] at h1; rw [updV_eq] at h2
        exact absurd (show (innP t vs xss j).on g from ⟨i, by omega, h1⟩) ((hap g).1 h2)
      · rw [updV_ne e1] at h1; rw [updV_ne e2] at h2
        exact hp.2 i j g (by omega) (by omega) h1 h2
  · by_cases e : i = n
    · subst e; rw [updV_eq] at hg; exact .inl hg
    · rw [updV_ne e] at hg; exact .inr ⟨i, by omega, hg⟩
  · by_cases e : i = n
    · subst e; rw [updV_eq] at hg; exact .inl hg
    · rw [updV_ne e] at hg; exact .inr ⟨i, by omega, hg⟩
theorem gl_set {xss : List (List Int)} {i j : Nat} {ys : List Int} (hi : i < xss.length) : gl (xss.set i ys) j = if j = i then ys else gl xss j := by
  unfold gl
  by_cases e : j = i
  · subst e; simp [hi]
  · have : i ≠ j := fun h => e h.symm
    simp [e, this]
/-- a row is written -/
theorem SH.writeInn {t : TypeId} {vs : Nat → Value} {xss : List (List Int)} {n i : Nat} {ys : List Int} (h : SH row w0 w (innP t vs xss n :: I)) (hi : i < n) (hn : n ≤ xss.length)
    (hg : w.grownBy w' (vs i).ownBlock) (ho : OwnK .i64 w' 0 t (vs i) ys) : SH row w0 w' (innP t vs (xss.set i ys) n :: I) := by
  have hp := h.p0
  refine h.write (r := (vs i).ownBlock) hg (fun g e => ⟨i, hi, e⟩) ⟨fun j hj => ?_, hp.2⟩ (fun g h => .inl h) (fun g h => .inl h)
  rw [gl_set (by omega)]
  by_cases e : j = i
  · subst e; rw [if_pos rfl]; exact ho
  · rw [if_neg e]
    refine OwnK.keep (hp.1 j hj) fun g e1 hl => hg.block g hl fun e2 => e (hp.2 j i g hj hi e1 e2.symm)
/-- rows of the call's own, read -/
theorem rd_of_inn {t ti : TypeId} {v : Value} {vs : Nat → Value} {xss : List (List Int)} (h : SH row w0 w (ownMP 1 t v xss.length (oneC vs) :: innP ti vs xss xss.length :: I)) : RdSS w v vs xss :=
  ⟨OwnM.rd h.p0, fun i hi => OwnK.rd (h.p1.1 i hi)⟩

theorem SH.setOwn1M {t : TypeId} {g n n' cap : Nat} {c : Nat → Nat → Value} (h : SH row w0 w (ownMP 1 t (.slice (some ⟨g, 0, none⟩) n' cap) n c :: I)) {i : Nat} (hi : i < n) (x : Value) :
    SH row w0 (w.setCell ⟨g, i, none⟩ x) (ownMP 1 t (.slice (some ⟨g, 0, none⟩) n' cap) n (updC c i (fun _ => x)) :: I) := by
  have h1 := h.setOwnM (j := 0) hi (by decide) x
  rw [Nat.mul_one, Nat.add_zero] at h1
  exact h1.congrM fun i' j hi' hj => by
    obtain rfl : j = 0 := by omega
    simp [updC]
/-- how many numbers the first k rows hold -/
def sumL (xss : List (List Int)) : Nat → Nat
  | 0 => 0
  | k + 1 => sumL xss k + (gl xss k).length
theorem sumL_mono (xss : List (List Int)) (k : Nat) : ∀ d, sumL xss k ≤ sumL xss (k + d)
  | 0 => Nat.le_refl _
  | d + 1 => by have := sumL_mono xss k d; rw [← Nat.add_assoc]; simp only [sumL]; omega
theorem sumL_le {xss : List (List Int)} {k n : Nat} (h : k ≤ n) : sumL xss k ≤ sumL xss n := by
  have := sumL_mono xss k (n - k); rwa [Nat.add_sub_cancel' h] at this
theorem sumL_row {xss : List (List Int)} {i n : Nat} (h : i < n) : (gl xss i).length ≤ sumL xss n := by
  have := sumL_le (xss := xss) (show i + 1 ≤ n from h)
  simp only [sumL] at this; omega

theorem info_row : (Tryd.prog.info? 22).map (fun i => (i.zero, i.size, i.bytes)) = some (some (.slice none 0 0), 1, 24) := by kernel_rfl







open Go.Deep Go.ChangeShapes Go.WideShapes Go.Joins in
theorem openRows {H : Type} {enc : TypeId × Value → H} {w : World} {held : Bool} {r : Reach} {bs : Nat} {v : Value} {d : DataW H} {p : List MemPlace}
    (hv : Value.okWide Tryd.prog w r bs 30 v) (h : DataW.Trod enc Tryd.prog w 0 (fun _ => true) held 30 v d p) : ∃ (vs : Nat → Value) (xss : List (List Int)), RdSS w v vs xss := by
  obtain ⟨n, c, hr, hq⟩ := rdM_of_trod (m := 1) Tryd.underlying30 (by kernel_rfl) (by decide) hv h (fun f => ∃ xs, RdI w (f 0) xs)
    (fun n cs x hx => by
      rcases open_ints Tryd.underlying22 Tryd.underlying3 (by kernel_rfl) hx with ⟨hcs, _⟩ | ⟨y, l, cp, zs, hcs, _, hl, hm, hz, _, hcell, hwz⟩
      · exact ⟨fun _ => .slice none 0 0, ⟨[], RdK.ofNil w⟩, fun j hj => by obtain rfl : j = 0 := (by omega); rw [hcs]; rfl⟩
      · obtain ⟨xs, h1, _⟩ := RdK.ofIs (w := w) (a := some y) (len := l) (cap := cp) (zs := zs) (.inr ⟨_, rfl, hl, hm, by simpa using hz, hcell, hwz⟩)
        exact ⟨fun _ => .slice (some y) l cp, ⟨xs, h1⟩, fun j hj => by obtain rfl : j = 0 := (by omega); rw [hcs]; rfl⟩)
  obtain ⟨g, hg⟩ := Go.Deep.choose_lt hq
  refine ⟨fun i => c i 0, (List.range n).map g, ⟨?_, fun i hi => ?_⟩⟩
  · have e : ((List.range n).map g).length = n := by simp
    rw [e]
    exact hr.congr fun i j hi hj => by obtain rfl : j = 0 := (by omega); rfl
  · have hi' : i < n := by simpa using hi
    have e : gl ((List.range n).map g) i = g i := by simp [gl, hi']
    rw [e]; exact hg i hi'

end Go.Proofs.YtjgafkoboolclaaDoor
