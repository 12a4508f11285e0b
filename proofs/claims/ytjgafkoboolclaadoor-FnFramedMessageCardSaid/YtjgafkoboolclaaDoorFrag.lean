import Derived.Test.YtjgafkoboolclaaDoorProg
import Derived.Test.YtjgafkoboolclaaDoorLib
import Derived.Test.YtjgafkoboolclaaDoorMem
import Derived.Test.YtjgafkoboolclaaDoorOpen
import Derived.Test.YtjgafkoboolclaaDoorSym
import Derived.Test.YtjgafkoboolclaaDoorInts
import Derived.Test.YtjgafkoboolclaaDoorBytes
import Derived.Test.YtjgafkoboolclaaDoorBlk
namespace Go.Proofs.YtjgafkoboolclaaDoor
open Go.RowKit

/-! Lists of fragments: 'vs i' is the slice of the bytes of fragment i. -/
structure Frag where
  m : Int
  p : Int
  l : Bool
  d : List Int
def fr (fs : List Frag) (i : Nat) : Frag := fs.getD i ⟨0, 0, false, []⟩
def frC (fs : List Frag) (vs : Nat → Value) (i j : Nat) : Value := if j = 0 then .int .i64 (fr fs i).m else if j = 1 then .int .i64 (fr fs i).p else if j = 2 then .bool (fr fs i).l else vs i
def wfI (n : Int) : Prop := (Lit.int .i64 n).wf = true
def wfF (fs : List Frag) : Prop := ∀ i, i < fs.length → wfI (fr fs i).m ∧ wfI (fr fs i).p
structure RdF (w : World) (v : Value) (vs : Nat → Value) (fs : List Frag) : Prop where
  rows : RdM 4 w v fs.length (frC fs vs)
  each : ∀ i, i < fs.length → RdB w (vs i) (fr fs i).d
def rdFP (v : Value) (vs : Nat → Value) (fs : List Frag) : Part where
  says w := RdF w v vs fs
  on g := (v.ownBlock = some g ∧ 0 < fs.length) ∨ ∃ i, i < fs.length ∧ (vs i).ownBlock = some g ∧ 0 < (fr fs i).d.length
  wr _ := False
  sub _ h := h.elim
  lt w h g hg := by
    rcases hg with hg | ⟨i, hi, hg⟩
    · exact (rdMP 4 v fs.length (frC fs vs)).lt w ⟨h.rows, by decide⟩ g hg
    · exact (rdP .u8 (vs i) (fr fs i).d).lt w (h.each i hi) g hg
  keep w w' h hk := ⟨((rdMP 4 v fs.length (frC fs vs)).keep w w' ⟨h.rows, by decide⟩ (fun g hg => hk g (.inl hg))).1,
    fun i hi => (rdP .u8 (vs i) (fr fs i).d).keep w w' (h.each i hi) (fun g hg => hk g (.inr ⟨i, hi, hg.1, hg.2⟩))⟩
theorem rdFP_wr {v : Value} {vs : Nat → Value} {fs : List Frag} : ∀ g, ¬ (rdFP v vs fs).wr g := fun _ h => h
theorem RdF.below {w w' : World} {v : Value} {vs : Nat → Value} {fs : List Frag} (h : RdF w v vs fs) (hb : Below w.heap.size w w') : RdF w' v vs fs :=
  ⟨h.rows.below (by decide) hb, fun i hi => (h.each i hi).below hb⟩

/-- n rows of bytes that the call owns -/
def innB (vs : Nat → Value) (ds : Nat → List Int) (n : Nat) : Part where
  says w := (∀ i, i < n → OwnK .u8 w 0 5 (vs i) (ds i)) ∧ ∀ i j g, i < n → j < n → (vs i).ownBlock = some g → (vs j).ownBlock = some g → i = j
  on g := ∃ i, i < n ∧ (vs i).ownBlock = some g
  wr g := ∃ i, i < n ∧ (vs i).ownBlock = some g
  sub _ h := h
  lt w h g hg := by obtain ⟨i, hi, hg⟩ := hg; exact (OwnK.base (h.1 i hi) g hg).2
  keep w w' h hk := ⟨fun i hi => OwnK.keep (h.1 i hi) fun g e _ => hk g ⟨i, hi, e⟩, h.2⟩

variable {row : Option Nat} {w0 w w' : World} {I : List Part} {a b q : Part}
/-- two parts as one -/
theorem SH.merge2F (h : SH row w0 w (a :: b :: I)) (hq : q.says w) (hon : ∀ g, q.on g → a.on g ∨ b.on g) (hwr : ∀ g, q.wr g → a.wr g ∨ b.wr g) : SH row w0 w (q :: I) := by
  have hA := List.pairwise_cons.1 h.apart
  have hB := List.pairwise_cons.1 hA.2
  refine ⟨h.grown, ?_, ?_, ?_⟩
  · intro p hp
    rcases List.mem_cons.1 hp with rfl | hp
    · exact hq
    · exact h.says p (by simp [hp])
  · intro p hp g hg
    rcases List.mem_cons.1 hp with rfl | hp
    · rcases hwr g hg with h1 | h1
      · exact h.new a (by simp) g h1
      · exact h.new b (by simp) g h1
    · exact h.new p (by simp [hp]) g hg
  · refine List.pairwise_cons.2 ⟨fun p hp g => ⟨fun h1 h2 => ?_, fun h1 h2 => ?_⟩, hB.2⟩
    · rcases hwr g h1 with h3 | h3
      · exact ((hA.1 p (by simp [hp])) g).1 h3 h2
      · exact ((hB.1 p hp) g).1 h3 h2
    · rcases hon g h2 with h3 | h3
      · exact ((hA.1 p (by simp [hp])) g).2 h1 h3
      · exact ((hB.1 p hp) g).2 h1 h3

def updVF (vs : Nat → Value) (n : Nat) (v : Value) : Nat → Value := fun i => if i = n then v else vs i
theorem updV_eqF {vs : Nat → Value} {n : Nat} {v : Value} : updVF vs n v n = v := by simp [updVF]
theorem updV_neF {vs : Nat → Value} {n i : Nat} {v : Value} (h : ¬ i = n) : updVF vs n v i = vs i := by simp [updVF, h]
theorem SH.inn0F (h : SH row w0 w I) (vs : Nat → Value) (ds : Nat → List Int) : SH row w0 w (innB vs ds 0 :: I) :=
  h.push (Below.refl _ _) ⟨fun i hi => absurd hi (Nat.not_lt_zero _), fun i j g hi => absurd hi (Nat.not_lt_zero _)⟩ (fun g ⟨i, hi, _⟩ => absurd hi (Nat.not_lt_zero _))
/-- one more row -/
theorem SH.pushInnF {v : Value} {xs : List Int} {vs : Nat → Value} {ds : Nat → List Int} {n : Nat} (h : SH row w0 w (ownP .u8 5 v xs :: innB vs ds n :: I)) (hx : ds n = xs) :
    SH row w0 w (innB (updVF vs n v) ds (n + 1) :: I) := by
  have hp := h.p1
  have hap := h.apart01
  refine h.merge2F ⟨fun i hi => ?_, fun i j g hi hj h1 h2 => ?_⟩ (fun g ⟨i, hi, hg⟩ => ?_) (fun g ⟨i, hi, hg⟩ => ?_)
  · by_cases e : i = n
    · subst e; rw [updV_eqF, hx]; exact h.p0
    · rw [updV_neF e]; exact hp.1 i (by omega)
  · by_cases e1 : i = n
    · by_cases e2 : j = n
      · omega
      · subst e1; rw [updV_eqF] at h1; rw [updV_neF e2] at h2
        exact absurd (show (innB vs ds i).on g from ⟨j, by omega, h2⟩) ((hap g).1 h1)
    · by_cases e2 : j = n
      · subst e2; rw [updV_neF e1] at h1; rw [updV_eqF] at h2
        exact absurd (show (innB vs ds j).on g from ⟨i, by omega, h1⟩) ((hap g).1 h2)
      · rw [updV_neF e1] at h1; rw [updV_neF e2] at h2
        exact hp.2 i j g (by omega) (by omega) h1 h2
  · by_cases e : i = n
    · subst e; rw [updV_eqF] at hg; exact .inl hg
    · rw [updV_neF e] at hg; exact .inr ⟨i, by omega, hg⟩
  · by_cases e : i = n
    · subst e; rw [updV_eqF] at hg; exact .inl hg
    · rw [updV_neF e] at hg; exact .inr ⟨i, by omega, hg⟩
def updD (ds : Nat → List Int) (n : Nat) (v : List Int) : Nat → List Int := fun i => if i = n then v else ds i
/-- a row is written -/
theorem SH.writeInnF {vs : Nat → Value} {ds : Nat → List Int} {n i : Nat} {ys : List Int} (h : SH row w0 w (innB vs ds n :: I)) (hi : i < n)
    (hg : w.grownBy w' (vs i).ownBlock) (ho : OwnK .u8 w' 0 5 (vs i) ys) : SH row w0 w' (innB vs (updD ds i ys) n :: I) := by
  have hp := h.p0
  refine h.write (r := (vs i).ownBlock) hg (fun g e => ⟨i, hi, e⟩) ⟨fun j hj => ?_, hp.2⟩ (fun g h => .inl h) (fun g h => .inl h)
  unfold updD
  by_cases e : j = i
  · subst e; rw [if_pos rfl]; exact ho
  · rw [if_neg e]
    refine OwnK.keep (hp.1 j hj) fun g e1 hl => hg.block g hl fun e2 => e (hp.2 j i g hj hi e1 e2.symm)
theorem SH.congrInn {vs ws : Nat → Value} {ds es : Nat → List Int} {n : Nat} (h : SH row w0 w (innB vs ds n :: I)) (hc : ∀ i, i < n → vs i = ws i ∧ ds i = es i) : SH row w0 w (innB ws es n :: I) :=
  h.as (q := innB ws es n) ⟨fun i hi => by rw [← (hc i hi).1, ← (hc i hi).2]; exact h.p0.1 i hi, fun i j g hi hj h1 h2 => h.p0.2 i j g hi hj (by rw [(hc i hi).1]; exact h1) (by rw [(hc j hj).1]; exact h2)⟩ (fun g ⟨i, hi, hg⟩ => ⟨i, hi, by rw [(hc i hi).1]; exact hg⟩) (fun g ⟨i, hi, hg⟩ => ⟨i, hi, by rw [(hc i hi).1]; exact hg⟩)
/-- rows of the call's own, read -/
theorem rd_of_innF {t : TypeId} {v : Value} {vs : Nat → Value} {fs : List Frag} (h : SH row w0 w (ownMP 4 t v fs.length (frC fs vs) :: innB vs (fun i => (fr fs i).d) fs.length :: I)) : RdF w v vs fs :=
  ⟨OwnM.rd h.p0, fun i hi => OwnK.rd (h.p1.1 i hi)⟩
/-- how many numbers the first k fragments take -/
def sumF (fs : List Frag) : Nat → Nat
  | 0 => 0
  | k + 1 => sumF fs k + (3 + (fr fs k).d.length)
theorem sumF_mono (fs : List Frag) (k : Nat) : ∀ d, sumF fs k ≤ sumF fs (k + d)
  | 0 => Nat.le_refl _
  | d + 1 => by have := sumF_mono fs k d; rw [← Nat.add_assoc]; simp only [sumF]; omega
theorem sumF_le {fs : List Frag} {k n : Nat} (h : k ≤ n) : sumF fs k ≤ sumF fs n := by
  have := sumF_mono fs k (n - k); rwa [Nat.add_sub_cancel' h] at this
theorem sumF_row {fs : List Frag} {i n : Nat} (h : i < n) : (fr fs i).d.length + 3 ≤ sumF fs n := by
  have := sumF_le (fs := fs) (show i + 1 ≤ n from h)
  simp only [sumF] at this; omega

theorem info_frag : (Tryd.prog.info? 39).map (fun i => (i.zero, i.size, i.bytes)) = some (some (.agg #[.int .i64 0, .int .i64 0, .bool false, .slice none 0 0]), 4, 48) := by kernel_rfl








end Go.Proofs.YtjgafkoboolclaaDoor
