import Derived.Test.YtmhlnelnjnhcoaaProg
import Derived.Test.YtmhlnelnjnhcoaaLib
import Derived.Test.YtmhlnelnjnhcoaaMem
import Derived.Test.YtmhlnelnjnhcoaaOpen
import Derived.Test.YtmhlnelnjnhcoaaSym
import Derived.Test.YtmhlnelnjnhcoaaInts
import Derived.Test.YtmhlnelnjnhcoaaBytes
import Derived.Test.YtmhlnelnjnhcoaaBlk
namespace Go.Proofs.Ytmhlnelnjnhcoaa
open Go.RowKit

/-! Lists of fragments: 'vs i' is the slice of the bytes of fragment i. -/
structure Frag where
  m : Int
  p : Int
  l : Bool
  d : List Int
def fr (fs : List Frag) (i : Nat) : Frag := fs.getD i ⟨0, 0, false, []⟩
def frC (fs : List Frag) (vs : Nat → Value) (i j : Nat) : Value := if j = 0 then .int .i64 (fr fs i).m else if j = 1 then .int .i64 (fr fs i).p else if j = 2 then .bool (fr fs i).l else vs i
def wfI (n : Int) : Prop := (Lit.int .i64 n).wf = true
def wfF (fs : List Frag) : Prop := ∀ i, i < fs.length → wfI (fr fs i).m ∧ wfI (fr fs i).p
structure RdF (w : World) (v : Value) (vs : Nat → Value) (fs : List Frag) : Prop where
  rows : RdM 4 w v fs.length (frC fs vs)
  each : ∀ i, i < fs.length → RdB w (vs i) (fr fs i).d
def rdFP (v : Value) (vs : Nat → Value) (fs : List Frag) : Part where
  says w := RdF w v vs fs
  on g := (v.ownBlock = some g ∧ 0 < fs.length) ∨ ∃ i, i < fs.length ∧ (vs i).ownBlock = some g ∧ 0 < (fr fs i).d.length
  wr _ := False
  sub _ h := h.elim
  lt w h g hg := by
    rcases hg with hg | ⟨i, hi, hg⟩
    · exact (rdMP 4 v fs.length (frC fs vs)).lt w ⟨h.rows, by decide⟩ g hg
    · exact (rdP .u8 (vs i) (fr fs i).d).lt w (h.each i hi) g hg
  keep w w' h hk := ⟨((rdMP 4 v fs.length (frC fs vs)).keep w w' ⟨h.rows, by decide⟩ (fun g hg => hk g (.inl hg))).1,
    fun i hi => (rdP .u8 (vs i) (fr fs i).d).keep w w' (h.each i hi) (fun g hg => hk g (.inr ⟨i, hi, hg.1, hg.2⟩))⟩
theorem rdFP_wr {v : Value} {vs : Nat → Value} {fs : List Frag} : ∀ g, ¬ (rdFP v vs fs).wr g := fun _ h => h
theorem RdF.below {w w' : World} {v : Value} {vs : Nat → Value} {fs : List Frag} (h : RdF w v vs fs) (hb : Below w.heap.size w w') : RdF w' v vs fs :=
  ⟨h.rows.below (by decide) hb, fun i hi => (h.each i hi).below hb⟩

/-- n rows of bytes that the call owns -/
def innB (vs : Nat → Value) (ds : Nat → List Int) (n : Nat) : Part where
  says w := (∀ i, i < n → OwnK .u8 w 0 5 (vs i) (ds i)) ∧ ∀ i j g, i < n → j < n → (vs i).ownBlock = some g → (vs j).ownBlock = some g → i = j
  on g := ∃ i, i < n ∧ (vs i).ownBlock = some g
  wr g := ∃ i, i < n ∧ (vs i).ownBlock = some g
  sub _ h := h
  lt w h g hg := by obtain ⟨i, hi, hg⟩ := hg; exact (OwnK.base (h.1 i hi) g hg).2
  keep w w' h hk := ⟨fun i hi => OwnK.keep (h.1 i hi) fun g e _ => hk g ⟨i, hi, e⟩, h.2⟩

variable {row : Option Nat} {w0 w w' : World} {I : List Part} {a b q : Part}
/-- two parts as one -/
theorem SH.merge2 (h : SH row w0 w (a :: b :: I)) (hq : q.says w) (hon : ∀ g, q.on g → a.on g ∨ b.on g) (hwr : ∀ g, q.wr g → a.wr g ∨ b.wr g) : SH row w0 w (q :: I) := by
  have hA := List.pairwise_cons.1 h.apart
  have hB := List.pairwise_cons.1 hA.2
  refine ⟨h.grown, ?_, ?_, ?_⟩
  · intro p hp
    rcases List.mem_cons.1 hp with rfl | hp
    · exact hq
    · exact h.says p (by simp [hp])
  · intro p hp g hg
    rcases List.mem_cons.1 hp with rfl | hp
    · rcases hwr g hg with h1 | h1
      · exact h.new a (by simp) g h1
      · exact h.new b (by simp) g h1
    · exact h.new p (by simp [hp]) g hg
  · refine List.pairwise_cons.2 ⟨fun p hp g => ⟨fun h1 h2 => ?_, fun h1 h2 => ?_⟩, hB.2⟩
    · rcases hwr g h1 with h3 | h3
      · exact ((hA.1 p (by simp [hp])) g).1 h3 h2
      · exact ((hB.1 p hp) g).1 h3 h2
    · rcases hon g h2 with h3 | h3
      · exact ((hA.1 p (by simp [hp])) g).2 h1 h3
      · exact ((hB.1 p hp) g).2 h1 h3

def updV (vs : Nat → Value) (n : Nat) (v : Value) : Nat → Value := fun i => if i = n then v else vs i
theorem updV_eq {vs : Nat → Value} {n : Nat} {v : Value} : updV vs n v n = v := by simp [updV]
theorem updV_ne {vs : Nat → Value} {n i : Nat} {v : Value} (h : ¬ i = n) : updV vs n v i = vs i := by simp [updV, h]
theorem SH.inn0 (h : SH row w0 w I) (vs : Nat → Value) (ds : Nat → List Int) : SH row w0 w (innB vs ds 0 :: I) :=
  h.push (Below.refl _ _) ⟨fun i hi => absurd hi (Nat.not_lt_zero _), fun i j g hi => absurd hi (Nat.not_lt_zero _)⟩ (fun g ⟨i, hi, _⟩ => absurd hi (Nat.not_lt_zero _))
/-- one more row -/
theorem SH.pushInn {v : Value} {xs : List Int} {vs : Nat → Value} {ds : Nat → List Int} {n : Nat} (h : SH row w0 w (ownP .u8 5 v xs :: innB vs ds n :: I)) (hx : ds n = xs) :
    SH row w0 w (innB (updV vs n v) ds (n + 1) :: I) := by
  have hp := h.p1
  have hap := h.apart01
  refine h.merge2 ⟨fun i hi => ?_, fun i j g hi hj h1 h2 => ?_⟩ (fun g ⟨i, hi, hg⟩ => ?_) (fun g ⟨i, hi, hg⟩ => ?_)
  · by_cases e : i = n
    · subst e; rw [updV_eq, hx]; exact h.p0
    · rw [updV_ne e]; exact hp.1 i (by omega)
  · by_cases e1 : i = n
    · by_cases e2 : j = n
      · omega
      · subst e1; rw [updV_eq] at h1; rw [updV_ne e2] at h2
        exact absurd (show (innB vs ds i).on g from ⟨j, by omega, h2⟩) ((hap g).1 h1)
    · by_cases e2 : j = n
      · subst e2; rw [updV_ne e1] at h1; rw [updV_eq] at h2
        exact absurd (show (innB vs ds j).on g from ⟨i, by omega, h1⟩) ((hap g).1 h2)
      · rw [updV_ne e1] at h1; rw [updV_ne e2] at h2
        exact hp.2 i j g (by omega) (by omega) h1 h2
  · by_cases e : i = n
    · subst e; rw [updV_eq] at hg; exact .inl hg
    · rw [updV_ne e] at hg; exact .inr ⟨i, by omega, hg⟩
  · by_cases e : i = n
    · subst e; rw [updV_eq] at hg; exact .inl hg
    · rw [updV_ne e] at hg; exact .inr ⟨i, by omega, hg⟩
def updD (ds : Nat → List Int) (n : Nat) (v : List Int) : Nat → List Int := fun i => if i = n then v else ds i
/-- a row is written -/
theorem SH.writeInn {vs : Nat → Value} {ds : Nat → List Int} {n i : Nat} {ys : List Int} (h : SH row w0 w (innB vs ds n :: I)) (hi : i < n)
    (hg : w.grownBy w' (vs i).ownBlock) (ho : OwnK .u8 w' 0 5 (vs i) ys) : SH row w0 w' (innB vs (updD ds i ys) n :: I) := by
  have hp := h.p0
  refine h.write (r := (vs i).ownBlock) hg (fun g e => ⟨i, hi, e⟩) ⟨fun j hj => ?_, hp.2⟩ (fun g h => .inl h) (fun g h => .inl h)
  unfold updD
  by_cases e : j = i
  · subst e; rw [if_pos rfl]; exact ho
  · rw [if_neg e]
    refine OwnK.keep (hp.1 j hj) fun g e1 hl => hg.block g hl fun e2 => e (hp.2 j i g hj hi e1 e2.symm)
theorem SH.congrInn {vs ws : Nat → Value} {ds es : Nat → List Int} {n : Nat} (h : SH row w0 w (innB vs ds n :: I)) (hc : ∀ i, i < n → vs i = ws i ∧ ds i = es i) : SH row w0 w (innB ws es n :: I) :=
  h.as (q := innB ws es n) ⟨fun i hi => by rw [← (hc i hi).1, ← (hc i hi).2]; exact h.p0.1 i hi, fun i j g hi hj h1 h2 => h.p0.2 i j g hi hj (by rw [(hc i hi).1]; exact h1) (by rw [(hc j hj).1]; exact h2)⟩ (fun g ⟨i, hi, hg⟩ => ⟨i, hi, by rw [(hc i hi).1]; exact hg⟩) (fun g ⟨i, hi, hg⟩ => ⟨i, hi, by rw [(hc i hi).1]; exact hg⟩)
/-- rows of the call's own, read -/
theorem rd_of_inn {t : TypeId} {v : Value} {vs : Nat → Value} {fs : List Frag} (h : SH row w0 w (ownMP 4 t v fs.length (frC fs vs) :: innB vs (fun i => (fr fs i).d) fs.length :: I)) : RdF w v vs fs :=
  ⟨OwnM.rd h.p0, fun i hi => OwnK.rd (h.p1.1 i hi)⟩
/-- how many numbers the first k fragments take -/
def sumF (fs : List Frag) : Nat → Nat
  | 0 => 0
  | k + 1 => sumF fs k + (3 + (fr fs k).d.length)
theorem sumF_mono (fs : List Frag) (k : Nat) : ∀ d, sumF fs k ≤ sumF fs (k + d)
  | 0 => Nat.le_refl _
  | d + 1 => by have := sumF_mono fs k d; rw [← Nat.add_assoc]; simp only [sumF]; omega
theorem sumF_le {fs : List Frag} {k n : Nat} (h : k ≤ n) : sumF fs k ≤ sumF fs n := by
  have := sumF_mono fs k (n - k); rwa [Nat.add_sub_cancel' h] at this
theorem sumF_row {fs : List Frag} {i n : Nat} (h : i < n) : (fr fs i).d.length + 3 ≤ sumF fs n := by
  have := sumF_le (fs := fs) (show i + 1 ≤ n from h)
  simp only [sumF] at this; omega

theorem info_frag : (Try.prog.info? 34).map (fun i => (i.zero, i.size, i.bytes)) = some (some (.agg #[.int .i64 0, .int .i64 0, .bool false, .slice none 0 0]), 4, 48) := by kernel_rfl

set_option maxHeartbeats 1000000 in
theorem toFragment_s (m p : Int) (l : Bool) (v : Value) (d : List Int) (w : World) {row : Option Nat} {w0 : World} {I : List Part} (hs : SH row w0 w I) (hr : RdB w v d) (hl : d.length ≤ 17592186044416) :
    Calls Try.prog 42 #[.agg #[.int .i64 m, .int .i64 p, .bool l, v]] w (fun e w' => ∃ v', e = .returned (.agg #[.int .i64 m, .int .i64 p, .bool l, v']) ∧ SH row w0 w' (ownP .u8 5 v' d :: I)) := by
  obtain ⟨a, ca, rfl, ml⟩ := hr.form
  have HR := Lib.hid hr
  clear hr
  go_enter Try.func42, Try.ntmps42
  go_wp2_with fail
  have hs := ((hs.allocP #[.int .i64 m, .int .i64 p, .bool l, .slice a d.length ca] 63).allocP #[.int .i64 0, .int .i64 0, .bool false, .slice none 0 0] 34).allocP #[.int .i64 m, .int .i64 p, .bool l, .slice none 0 0] 34
  simp only [World.size_alloc] at hs
  refine (SH.own hs (Below.refl _ _) fun hs => toByteS_c _ d _ (HR.out.below (by go_grown)) hl).mono ?_
  rintro e w2 ⟨v, rfl, hs⟩
  have hb1 : w2.heap[w.heap.size + 1 + 1]? = _ := hs.p1
  have hb2 : w2.heap[w.heap.size + 1]? = _ := hs.p2
  have c0 := blk_cell hb1 0
  have c1 := blk_cell hb1 1
  have c2 := blk_cell hb1 2
  have c3 := blk_cell hb1 3
  have f3 := blk_frozen hb1 3
  have g0 := blk_cell hb2 0
  have g1 := blk_cell hb2 1
  have g2 := blk_cell hb2 2
  have g3 := blk_cell hb2 3
  have k0 := blk_frozen hb2 0
  have k1 := blk_frozen hb2 1
  have k2 := blk_frozen hb2 2
  have k3 := blk_frozen hb2 3
  clear hb1 hb2
  obtain ⟨av, cv, rfl, -⟩ := (OwnK.rd hs.p0).form
  have hs := ((((hs.bring1.setBlk 3 (.slice av d.length cv)).bring2.setBlk 0 (.int .i64 m)).setBlk 1 (.int .i64 p)).setBlk 2 (.bool l)).setBlk 3 (.slice av d.length cv)
  have hb := (show (World.setCell _ _ _).heap[w.heap.size + 1]? = _ from hs.p0)
  go_wp2
  generalize World.setCell _ _ _ = W5 at *
  exact bodyPost_ret (results_cell_row rfl _ _ (w.heap.size + 1) 34 _ _ _ rfl hb Try.underlying34 rfl rfl) rfl ⟨_, rfl, hs.drop0.drop0.drop1⟩

set_option maxHeartbeats 1000000 in
theorem toFragmentS_s (va : Value) (vs : Nat → Value) (fs : List Frag) (w : World) {row : Option Nat} {w0 : World} {I : List Part} (hs : SH row w0 w (rdFP va vs fs :: I)) (hn : fs.length ≤ 1048576) (hr : ∀ i, i < fs.length → (fr fs i).d.length ≤ 17592186044416) :
    Calls Try.prog 23 #[va] w (fun e w' => ∃ (v : Value) (ws : Nat → Value), e = .returned v ∧ SH row w0 w' (ownMP 4 34 v fs.length (frC fs ws) :: innB ws (fun i => (fr fs i).d) fs.length :: rdFP va vs fs :: I)) := by
  obtain ⟨a, ca, rfl, ml⟩ := (SH.p0 hs : RdF w va vs fs).rows.form
  have HR := Lib.hid hr
  clear hr
  go_enter Try.func23, Try.ntmps23
  go_wp2_with (at_make; refine wp_makeM rfl rfl w.heap.size 34 48 4 _ Try.underlying23 info_frag rfl fs.length rfl rfl rfl rfl (by omega) (by unfold maxLen; omega) (Nat.le_refl _) ?_; intro w1 hown hg hsz)
  have hs := (hs.pushOwnM (below_of_grown hg) hown).inn0 (fun _ => undef) (fun i => (fr fs i).d)
  clear hown hg hsz
  generalize hB : w.heap.size = B at *
  go_loopw [4] (fun i wr => ∃ (k : Nat) (ws : Nat → Value) (c : Nat → Nat → Value), k ≤ fs.length ∧ i = .int .i64 k ∧ Hid (∀ j q, j < k → q < 4 → c j q = frC fs ws j q) ∧ SH row w0 wr (innB ws (fun i => (fr fs i).d) k :: ownMP 4 34 (.slice (some ⟨B, 0, none⟩) fs.length fs.length) fs.length c :: rdFP (.slice a fs.length ca) vs fs :: I)) (fun i _ => fs.length - (intOf i).toNat)
  case atStart => exact ⟨0, _, _, Nat.zero_le _, rfl, Lib.hid (fun j q h => absurd h (Nat.not_lt_zero _)), hs⟩
  case round =>
    obtain ⟨k, ws, c, hk, rfl, HC, hs⟩ := hrel
    by_cases hlt : k < fs.length
    · obtain ⟨b, off, rfl, hc⟩ := (SH.p2 hs : RdF _ _ _ _).rows.at_ hlt
      have hc0 : wr.cell? ⟨b, off + k * 4, none⟩ = some (.int .i64 (fr fs k).m) := hc 0 (by decide)
      have hc1 : wr.cell? ⟨b, off + k * 4 + 1, none⟩ = some (.int .i64 (fr fs k).p) := hc 1 (by decide)
      have hc2 : wr.cell? ⟨b, off + k * 4 + 2, none⟩ = some (.bool (fr fs k).l) := hc 2 (by decide)
      have hc3 : wr.cell? ⟨b, off + k * 4 + 3, none⟩ = some (vs k) := hc 3 (by decide)
      clear hc
      go_wp2_with fail
      refine (toFragment_s (fr fs k).m (fr fs k).p (fr fs k).l (vs k) (fr fs k).d _ hs ((SH.p2 hs : RdF _ _ _ _).each k hlt) (HR.out k hlt)).mono ?_
      rintro e w2 ⟨v, rfl, hs⟩
      clear hc0 hc1 hc2 hc3
      obtain ⟨av, cv, rfl, -⟩ := (OwnK.rd hs.p0).form
      have hs := (hs.pushInn rfl).bring1
      obtain ⟨g, hge, -, hgc, hgf⟩ := OwnM.at_ hs.p0 hlt
      simp only [Option.some.injEq, Addr.mk.injEq, and_true] at hge
      subst hge
      have hg0 : w2.cell? ⟨B, k * 4, none⟩ = some (c k 0) := hgc 0 (by decide)
      have hg1 : w2.cell? ⟨B, k * 4 + 1, none⟩ = some (c k 1) := hgc 1 (by decide)
      have hg2 : w2.cell? ⟨B, k * 4 + 2, none⟩ = some (c k 2) := hgc 2 (by decide)
      have hg3 : w2.cell? ⟨B, k * 4 + 3, none⟩ = some (c k 3) := hgc 3 (by decide)
      have hf0 := hgf (k * 4)
      have hf1 := hgf (k * 4 + 1)
      have hf2 := hgf (k * 4 + 2)
      have hf3 := hgf (k * 4 + 3)
      clear hgc hgf
      go_wp2
      go_roundw
      case rel =>
        refine ⟨k + 1, _, _, hlt, by go_num, Lib.hid ?_, ((((hs.setOwnM (j := 0) hlt (by decide) _).setOwnM (j := 1) hlt (by decide) _).setOwnM (j := 2) hlt (by decide) _).setOwnM (j := 3) hlt (by decide) _).bring1⟩
        intro j q hj hq
        have hq4 : q = 0 ∨ q = 1 ∨ q = 2 ∨ q = 3 := by omega
        by_cases e : j = k
        · subst e
          rcases hq4 with rfl | rfl | rfl | rfl <;> simp [updC, frC, updV_eq]
        · simp only [updC, if_neg e]
          rw [HC.out j q (by omega) hq]
          simp only [frC, updV_ne e]
      case measure => simp [intOf]; omega
    · obtain rfl : k = fs.length := by omega
      go_wp2
      go_ret
      exact ⟨_, ws, rfl, hs.bring1.congrM (fun i j hi hj => HC.out i j hi hj)⟩

theorem szFragment_c (m p : Int) (lb : Bool) (va : Value) (xs : List Int) (l : Int) (w : World) (h : RdB w va xs) (h0 : 0 ≤ l) (h1 : l ≤ 1048576) :
    Calls Try.prog 40 #[.agg #[.int .i64 m, .int .i64 p, .bool lb, va], .int .i64 l] w (Ret w fun v _ => v = .int .i64 (if (xs.length : Int) ≤ l then l - xs.length else -1)) := by
  obtain ⟨a, ca, rfl, ma⟩ := h.form
  have H := Lib.hid h
  clear h
  go_enter Try.func40, Try.ntmps40
  go_wp2_with fail
  refine (szByteS_c _ xs _ _ (H.out.below (by go_grown)) h0 h1).mono ?_
  rintro e w1 hr
  obtain ⟨rfl, hs1⟩ := hr.same
  have HB := Lib.hid ((show Below w.heap.size w _ from by go_grown).trans (hs1.below.mono (by go_grown)))
  clear hr hs1
  by_cases hl : (xs.length : Int) ≤ l
  · rw [if_pos hl]
    go_wp2
    go_ret
    exact Ret.mk1 rfl HB.out
  · rw [if_neg hl]
    go_wp2
    go_ret
    exact Ret.mk1 rfl HB.out
/-- how many bytes the first k fragments hold -/
def byF (fs : List Frag) (k : Nat) : Int := (sumF fs k : Int) - 3 * (k : Int)
theorem byF_step (fs : List Frag) (k : Nat) : byF fs (k + 1) = byF fs k + ((fr fs k).d.length : Int) := by
  unfold byF; simp only [sumF]; omega
theorem byF_nonneg (fs : List Frag) : ∀ k, 0 ≤ byF fs k
  | 0 => by simp [byF, sumF]
  | k + 1 => by have := byF_nonneg fs k; rw [byF_step]; omega
theorem byF_le {fs : List Frag} {k n : Nat} (h : k ≤ n) : byF fs k ≤ byF fs n := by
  obtain ⟨d, rfl⟩ := Nat.exists_eq_add_of_le h
  clear h
  induction d with
  | zero => exact Int.le_refl _
  | succ d ih => rw [← Nat.add_assoc, byF_step]; omega
theorem byF_row {fs : List Frag} {i n : Nat} (h : i < n) : ((fr fs i).d.length : Int) ≤ byF fs n := by
  have h1 := byF_le (fs := fs) (show i + 1 ≤ n from h)
  have h2 := byF_nonneg fs i
  rw [byF_step] at h1; omega
def szF (fs : List Frag) : Int := if (fs.length : Int) + byF fs fs.length ≤ 1048576 then 1048576 - (fs.length : Int) - byF fs fs.length else -1
theorem szFragmentS_c (va : Value) (vs : Nat → Value) (fs : List Frag) (w : World) (h : RdF w va vs fs) :
    Calls Try.prog 21 #[va, .int .i64 1048576] w (Ret w fun v _ => v = .int .i64 (szF fs)) := by
  obtain ⟨a, ca, rfl, ml⟩ := h.rows.form
  have H := Lib.hid h
  clear h
  have hn0 := byF_nonneg fs fs.length
  by_cases hl : 1048576 < fs.length
  · have hz : szF fs = -1 := by unfold szF; rw [if_neg (by omega)]
    rw [hz]
    go_enter Try.func21, Try.ntmps21
    go_wp2
    go_ret
    exact Ret.mk1 rfl (Below.refl _ _)
  go_enter Try.func21, Try.ntmps21
  go_wp2
  go_loopw [1, 5] (fun l i wr => ∃ k : Nat, k ≤ fs.length ∧ i = .int .i64 k ∧ l = .int .i64 (1048576 - (fs.length : Int) - byF fs k) ∧ (fs.length : Int) + byF fs k ≤ 1048576 ∧ Below w.heap.size w wr) (fun _ i _ => fs.length - (intOf i).toNat)
  case atStart => exact ⟨0, Nat.zero_le _, rfl, by simp [byF, sumF], by simp [byF, sumF]; omega, Below.refl _ _⟩
  case round =>
    obtain ⟨k, hk, rfl, rfl, hsum, hsame⟩ := hrel
    have HS := Lib.hid hsame
    clear hsame
    by_cases hlt : k < fs.length
    · obtain ⟨b, off, rfl, hc⟩ := (H.out.rows.below (by decide) HS.out).at_ hlt
      have hc0 : wr.cell? ⟨b, off + k * 4, none⟩ = some (.int .i64 (fr fs k).m) := hc 0 (by decide)
      have hc1 : wr.cell? ⟨b, off + k * 4 + 1, none⟩ = some (.int .i64 (fr fs k).p) := hc 1 (by decide)
      have hc2 : wr.cell? ⟨b, off + k * 4 + 2, none⟩ = some (.bool (fr fs k).l) := hc 2 (by decide)
      have hc3 : wr.cell? ⟨b, off + k * 4 + 3, none⟩ = some (vs k) := hc 3 (by decide)
      clear hc
      have hrow := byF_row (fs := fs) hlt
      have hstep := byF_step fs k
      have hk0 := byF_nonneg fs k
      go_wp2_with fail
      refine (szFragment_c (fr fs k).m (fr fs k).p (fr fs k).l (vs k) (fr fs k).d _ _ ((H.out.each k hlt).below HS.out) (by omega) (by omega)).mono ?_
      rintro e w1 ⟨v, rfl, rfl, hb1⟩
      have HS1 := Lib.hid (HS.out.trans (hb1.mono HS.out.size))
      clear hb1 hc0 hc1 hc2 hc3
      by_cases hfit : ((fr fs k).d.length : Int) ≤ 1048576 - (fs.length : Int) - byF fs k
      · rw [if_pos hfit]
        go_wp2
        go_roundw
        case rel => exact ⟨k + 1, hlt, by go_num, intv (by omega), by omega, HS1.out⟩
        case measure => simp [intOf]; omega
      · have hz : Hid (szF fs = -1) := by
          unfold Hid szF
          have := byF_le (fs := fs) (show k + 1 ≤ fs.length from hlt)
          rw [if_neg (by omega)]
        rw [if_neg hfit]
        go_wp2
        go_ret
        exact Ret.mk1 (intv hz.out.symm) HS1.out
    · obtain rfl : k = fs.length := by omega
      go_wp2
      go_ret
      exact Ret.mk1 (intv (by unfold szF; rw [if_pos hsum])) HS.out

theorem eqFragment_c (m p : Int) (l : Bool) (va vb : Value) (d : List Int) (w : World) (ha : RdB w va d) (hb : RdB w vb d) :
    Calls Try.prog 33 #[.agg #[.int .i64 m, .int .i64 p, .bool l, va], .agg #[.int .i64 m, .int .i64 p, .bool l, vb]] w (Ret w fun v _ => v = .bool true) := by
  have HA := Lib.hid ha
  have HB := Lib.hid hb
  clear ha hb
  have e0 : (m != m) = false := bne_self_eq_false _
  have e1 : (p != p) = false := bne_self_eq_false _
  have e2 : (l != l) = false := bne_self_eq_false _
  go_enter Try.func33, Try.ntmps33
  go_wp2_with fail
  refine (eqByteS_c va vb d d _ (HA.out.below (by go_grown)) (HB.out.below (by go_grown))).mono ?_
  rintro e w1 hr
  obtain ⟨rfl, hs1⟩ := hr.same
  have HC := Lib.hid ((show Below w.heap.size w _ from by go_grown).trans (hs1.below.mono (by go_grown)))
  have hd : decide (d = d) = true := by simp
  clear hr hs1
  go_wp2
  go_ret
  exact Ret.mk1 rfl HC.out

theorem kept8V {w w' : World} {b o c p : Nat} {x0 x1 x2 x3 y0 y1 y2 y3 : Value} (h : Below w.heap.size w w')
    (H : w.cell? ⟨b, o, none⟩ = some x0 ∧ w.cell? ⟨b, o + 1, none⟩ = some x1 ∧ w.cell? ⟨b, o + 2, none⟩ = some x2 ∧ w.cell? ⟨b, o + 3, none⟩ = some x3 ∧ w.cell? ⟨c, p, none⟩ = some y0 ∧ w.cell? ⟨c, p + 1, none⟩ = some y1 ∧ w.cell? ⟨c, p + 2, none⟩ = some y2 ∧ w.cell? ⟨c, p + 3, none⟩ = some y3) :
    w'.cell? ⟨b, o, none⟩ = some x0 ∧ w'.cell? ⟨b, o + 1, none⟩ = some x1 ∧ w'.cell? ⟨b, o + 2, none⟩ = some x2 ∧ w'.cell? ⟨b, o + 3, none⟩ = some x3 ∧ w'.cell? ⟨c, p, none⟩ = some y0 ∧ w'.cell? ⟨c, p + 1, none⟩ = some y1 ∧ w'.cell? ⟨c, p + 2, none⟩ = some y2 ∧ w'.cell? ⟨c, p + 3, none⟩ = some y3 := by
  obtain ⟨h0, h1, h2, h3, h4, h5, h6, h7⟩ := H
  exact ⟨(h.cell (cell_lt h0)).trans h0, (h.cell (cell_lt h1)).trans h1, (h.cell (cell_lt h2)).trans h2, (h.cell (cell_lt h3)).trans h3, (h.cell (cell_lt h4)).trans h4, (h.cell (cell_lt h5)).trans h5, (h.cell (cell_lt h6)).trans h6, (h.cell (cell_lt h7)).trans h7⟩
set_option maxHeartbeats 1000000 in
theorem eqFragmentS_c (va vb : Value) (vs ws : Nat → Value) (fs : List Frag) (w : World) (ha : RdF w va vs fs) (hb : RdF w vb ws fs) :
    Calls Try.prog 12 #[va, vb] w (Ret w fun v _ => v = .bool true) := by
  obtain ⟨a, ca, rfl, ma⟩ := ha.rows.form
  obtain ⟨b, cb, rfl, mb⟩ := hb.rows.form
  have HA := Lib.hid ha
  have HB := Lib.hid hb
  have hl0 : ((fs.length : Int) != (fs.length : Int)) = false := bne_self_eq_false _
  clear ha hb
  go_enter Try.func12, Try.ntmps12
  go_wp2
  go_loopw [5] (fun i wr => ∃ k : Nat, k ≤ fs.length ∧ i = .int .i64 k ∧ Below w.heap.size w wr) (fun i _ => fs.length - (intOf i).toNat)
  case atStart => exact ⟨0, Nat.zero_le _, rfl, Below.refl _ _⟩
  case round =>
    obtain ⟨k, hk, rfl, hbw⟩ := hrel
    have HS := Lib.hid hbw
    clear hbw
    by_cases hlt : k < fs.length
    · obtain ⟨ba, oa, rfl, hca⟩ := (HA.out.rows.below (by decide) HS.out).at_ hlt
      obtain ⟨bb, ob, rfl, hcb⟩ := (HB.out.rows.below (by decide) HS.out).at_ hlt
      have hS : wr.cell? ⟨ba, oa + k * 4, none⟩ = some (.int .i64 (fr fs k).m) ∧ wr.cell? ⟨ba, oa + k * 4 + 1, none⟩ = some (.int .i64 (fr fs k).p) ∧ wr.cell? ⟨ba, oa + k * 4 + 2, none⟩ = some (.bool (fr fs k).l) ∧ wr.cell? ⟨ba, oa + k * 4 + 3, none⟩ = some (vs k) ∧ wr.cell? ⟨bb, ob + k * 4, none⟩ = some (.int .i64 (fr fs k).m) ∧ wr.cell? ⟨bb, ob + k * 4 + 1, none⟩ = some (.int .i64 (fr fs k).p) ∧ wr.cell? ⟨bb, ob + k * 4 + 2, none⟩ = some (.bool (fr fs k).l) ∧ wr.cell? ⟨bb, ob + k * 4 + 3, none⟩ = some (ws k) := ⟨hca 0 (by decide), hca 1 (by decide), hca 2 (by decide), hca 3 (by decide), hcb 0 (by decide), hcb 1 (by decide), hcb 2 (by decide), hcb 3 (by decide)⟩
      have HC := Lib.hid hS
      obtain ⟨hc0, hc1, hc2, hc3, hc4, hc5, hc6, hc7⟩ := hS
      clear hca hcb
      have HRA := Lib.hid ((HA.out.each k hlt).below HS.out)
      have HRB := Lib.hid ((HB.out.each k hlt).below HS.out)
      go_wp2
      go_region_held3 (fun wx => wx.cell? ⟨ba, oa + k * 4, none⟩ = some (.int .i64 (fr fs k).m) ∧ wx.cell? ⟨ba, oa + k * 4 + 1, none⟩ = some (.int .i64 (fr fs k).p) ∧ wx.cell? ⟨ba, oa + k * 4 + 2, none⟩ = some (.bool (fr fs k).l) ∧ wx.cell? ⟨ba, oa + k * 4 + 3, none⟩ = some (vs k) ∧ wx.cell? ⟨bb, ob + k * 4, none⟩ = some (.int .i64 (fr fs k).m) ∧ wx.cell? ⟨bb, ob + k * 4 + 1, none⟩ = some (.int .i64 (fr fs k).p) ∧ wx.cell? ⟨bb, ob + k * 4 + 2, none⟩ = some (.bool (fr fs k).l) ∧ wx.cell? ⟨bb, ob + k * 4 + 3, none⟩ = some (ws k)) (first | exact HC.out | exact kept8V hb2 HC.out) (first | (go_at_call 33; refine (eqFragment_c _ _ _ _ _ (fr fs k).d _ (HRA.out.below (Below.refl _ _).drew) (HRB.out.below (Below.refl _ _).drew)).mono ?_; rintro e w2 ⟨v, rfl, rfl, hb2⟩))
      have HS2 := Lib.hid (HS.out.trans ((below_undrew hb2).mono HS.out.size))
      clear hb2
      go_wp2
      go_roundw
      case rel => exact ⟨k + 1, hlt, by go_num, HS2.out⟩
      case measure => simp [intOf]; omega
    · go_wp2
      go_ret
      exact Ret.mk1 rfl HS.out

/-- a fragment, marked from k on -/
def mkF (k : Int) (f : Frag) : Frag := ⟨k, k + 1, (k + 1 + 1) % 3 == 0, upFromB (k + 1 + 1 + 1) f.d.length⟩
def upF (k : Int) (fs : List Frag) : List Frag := (List.range fs.length).map fun i => mkF (k + (sumF fs i : Int)) (fr fs i)
theorem length_upF (k : Int) (fs : List Frag) : (upF k fs).length = fs.length := by simp [upF]
theorem fr_upF {k : Int} {fs : List Frag} {i : Nat} (h : i < fs.length) : fr (upF k fs) i = mkF (k + (sumF fs i : Int)) (fr fs i) := by
  show (upF k fs).getD i _ = _
  unfold upF
  rw [List.getD_eq_getElem?_getD, List.getElem?_map, List.getElem?_range h]
  rfl
/-- half marked -/
def mixD (k : Int) (fs : List Frag) (n i : Nat) : List Int := if i < n then (fr (upF k fs) i).d else (fr fs i).d
theorem mixD_step (k : Int) (fs : List Frag) (j i : Nat) (h : j < fs.length) : updD (mixD k fs j) j (upFromB (k + (sumF fs j : Int) + 1 + 1 + 1) (fr fs j).d.length) i = mixD k fs (j + 1) i := by
  unfold updD mixD
  by_cases e : i = j
  · subst e; rw [if_pos rfl, if_pos (by omega), fr_upF h]; rfl
  · rw [if_neg e]
    by_cases e1 : i < j
    · rw [if_pos e1, if_pos (by omega)]
    · rw [if_neg e1, if_neg (by omega)]
set_option maxHeartbeats 1000000 in
theorem markFragmentS_s (t : TypeId) (va : Value) (vs : Nat → Value) (fs : List Frag) (k : Int) (w : World) {row : Option Nat} {w0 : World} {I : List Part} (hs : SH row w0 w (ownMP 4 t va fs.length (frC fs vs) :: innB vs (fun i => (fr fs i).d) fs.length :: I)) (h0 : 0 ≤ k) (h1 : k ≤ 1000000) (hn : sumF fs fs.length ≤ 100000000) :
    Calls Try.prog 15 #[va, .int .i64 k] w (fun e w' => e = .returned (.int .i64 (k + (sumF fs fs.length : Int))) ∧ SH row w0 w' (ownMP 4 t va fs.length (frC (upF k fs) vs) :: innB vs (fun i => (fr (upF k fs) i).d) fs.length :: I)) := by
  obtain ⟨a, ca, rfl, ml⟩ := (OwnM.rd hs.p0).form
  go_enter Try.func15, Try.ntmps15
  go_wp2
  go_loopw [1, 5] (fun q i wr => ∃ (j : Nat) (c : Nat → Nat → Value), j ≤ fs.length ∧ i = .int .i64 j ∧ q = .int .i64 (k + (sumF fs j : Int)) ∧ Hid (∀ i q, q < 4 → c i q = if i < j then frC (upF k fs) vs i q else frC fs vs i q) ∧ SH row w0 wr (innB vs (mixD k fs j) fs.length :: ownMP 4 t (.slice a fs.length ca) fs.length c :: I)) (fun _ i _ => fs.length - (intOf i).toNat)
  case atStart => exact ⟨0, _, Nat.zero_le _, rfl, by simp [sumF], Lib.hid (fun i q hq => by rw [if_neg (Nat.not_lt_zero _)]), hs.bring1.congrInn (fun i hi => ⟨rfl, by unfold mixD; rw [if_neg (Nat.not_lt_zero _)]⟩)⟩
  case round =>
    obtain ⟨j, c, hj, rfl, rfl, HC, hs⟩ := hrel
    have hsl := sumF_le (fs := fs) hj
    by_cases hlt : j < fs.length
    · have hs := hs.bring1
      obtain ⟨g, rfl, -, hgc, hgf⟩ := OwnM.at_ hs.p0 hlt
      have e0 : c j 0 = .int .i64 (fr fs j).m := by rw [HC.out j 0 (by decide), if_neg (by omega)]; rfl
      have e1 : c j 1 = .int .i64 (fr fs j).p := by rw [HC.out j 1 (by decide), if_neg (by omega)]; rfl
      have e2 : c j 2 = .bool (fr fs j).l := by rw [HC.out j 2 (by decide), if_neg (by omega)]; rfl
      have e3 : c j 3 = vs j := by rw [HC.out j 3 (by decide), if_neg (by omega)]; rfl
      have hg0 : wr.cell? ⟨g, j * 4, none⟩ = some (.int .i64 (fr fs j).m) := by rw [← e0]; exact hgc 0 (by decide)
      have hg1 : wr.cell? ⟨g, j * 4 + 1, none⟩ = some (.int .i64 (fr fs j).p) := by rw [← e1]; exact hgc 1 (by decide)
      have hg2 : wr.cell? ⟨g, j * 4 + 2, none⟩ = some (.bool (fr fs j).l) := by rw [← e2]; exact hgc 2 (by decide)
      have hg3 : wr.cell? ⟨g, j * 4 + 3, none⟩ = some (vs j) := by rw [← e3]; exact hgc 3 (by decide)
      have hf0 := hgf (j * 4)
      have hf1 := hgf (j * 4 + 1)
      have hf2 := hgf (j * 4 + 2)
      clear hgc hgf e0 e1 e2 e3
      have hrow := sumF_row (fs := fs) hlt
      have hstep : sumF fs (j + 1) = sumF fs j + (3 + (fr fs j).d.length) := rfl
      have hs := (((hs.setOwnM (j := 0) hlt (by decide) (.int .i64 (k + (sumF fs j : Int)))).setOwnM (j := 1) hlt (by decide) (.int .i64 (k + (sumF fs j : Int) + 1))).setOwnM (j := 2) hlt (by decide) (.bool ((k + (sumF fs j : Int) + 1 + 1) % 3 == 0))).bring1
      have ho := (SH.p0 hs : (∀ i, i < fs.length → OwnK .u8 _ 0 _ _ _) ∧ _).1 j hlt
      rw [show mixD k fs j j = (fr fs j).d by unfold mixD; rw [if_neg (by omega)]] at ho
      have HO := Lib.hid ho
      clear ho
      go_wp2_with fail
      refine (markByteS_c 0 (vs j) (fr fs j).d (k + (sumF fs j : Int) + 1 + 1 + 1) _ HO.out (by omega) (by omega) (by omega)).mono ?_
      rintro e w1 ⟨rfl, ho1, hg1⟩
      have hs := hs.writeInn hlt hg1 ho1
      clear hg0 hg1 hg2 hg3 ho1
      go_wp2
      go_roundw
      case rel =>
        refine ⟨j + 1, _, hlt, by go_num, intv (by omega), Lib.hid ?_, hs.congrInn (fun i hi => ⟨rfl, mixD_step k fs j i hlt⟩)⟩
        intro i q hq
        have hq4 : q = 0 ∨ q = 1 ∨ q = 2 ∨ q = 3 := by omega
        by_cases e : i = j
        · subst e
          rw [if_pos (by omega)]
          rcases hq4 with rfl | rfl | rfl | rfl
          · simp [updC, frC, fr_upF hlt, mkF]
          · simp [updC, frC, fr_upF hlt, mkF]
          · simp [updC, frC, fr_upF hlt, mkF]
          · simp only [updC]; simp; rw [HC.out i 3 (by decide), if_neg (by omega)]; rfl
        · simp only [updC, if_neg e]
          rw [HC.out i q hq]
          by_cases e1 : i < j
          · rw [if_pos e1, if_pos (by omega)]
          · rw [if_neg e1, if_neg (by omega)]
      case measure => simp [intOf]; omega
    · obtain rfl : j = fs.length := by omega
      go_wp2
      go_ret
      exact ⟨rfl, (hs.bring1.congrM (fun i q hi hq => by rw [HC.out i q hq, if_pos hi])).bring1.congrInn (fun i hi => ⟨rfl, by unfold mixD; rw [if_pos hi]⟩) |>.bring1⟩

theorem heldFragmentS_c (va : Value) (vs : Nat → Value) (fs : List Frag) (k : Int) (w : World) (h : RdF w va vs (upF k fs)) (h0 : 0 ≤ k) (h1 : k ≤ 1000000) (hn : sumF fs fs.length ≤ 100000000) :
    Calls Try.prog 16 #[va, .int .i64 k] w (RetQ w (.int .i64 (k + (sumF fs fs.length : Int)))) := by
  obtain ⟨a, ca, rfl, ml⟩ := h.rows.form
  have H := Lib.hid h
  clear h
  rw [length_upF] at *
  go_enter Try.func16, Try.ntmps16
  go_wp2
  go_loopw [1, 5] (fun q i wr => ∃ j : Nat, j ≤ fs.length ∧ i = .int .i64 j ∧ q = .int .i64 (k + (sumF fs j : Int)) ∧ SameW w wr) (fun _ i _ => fs.length - (intOf i).toNat)
  case atStart => exact ⟨0, Nat.zero_le _, rfl, by simp [sumF], SameW.refl _⟩
  case round =>
    obtain ⟨j, hj, rfl, rfl, hsame⟩ := hrel
    have HS := Lib.hid hsame
    clear hsame
    have hsl := sumF_le (fs := fs) hj
    by_cases hlt : j < fs.length
    · obtain ⟨b, off, rfl, hc⟩ := (H.out.rows.below (by decide) HS.out.below).at_ (i := j) (by rw [length_upF]; exact hlt)
      have hfr := fr_upF (k := k) hlt
      have hc0 : wr.cell? ⟨b, off + j * 4, none⟩ = some (.int .i64 (k + (sumF fs j : Int))) := (hc 0 (by decide)).trans (by simp [frC, hfr, mkF])
      have hc1 : wr.cell? ⟨b, off + j * 4 + 1, none⟩ = some (.int .i64 (k + (sumF fs j : Int) + 1)) := (hc 1 (by decide)).trans (by simp [frC, hfr, mkF])
      have hc2 : wr.cell? ⟨b, off + j * 4 + 2, none⟩ = some (.bool ((k + (sumF fs j : Int) + 1 + 1) % 3 == 0)) := (hc 2 (by decide)).trans (by simp [frC, hfr, mkF])
      have hc3 : wr.cell? ⟨b, off + j * 4 + 3, none⟩ = some (vs j) := hc 3 (by decide)
      clear hc
      have hrow := sumF_row (fs := fs) hlt
      have hr := (H.out.each j (by rw [length_upF]; exact hlt)).below HS.out.below
      rw [hfr] at hr
      have HRr := Lib.hid (show RdB wr (vs j) (upFromB (k + (sumF fs j : Int) + 1 + 1 + 1) (fr fs j).d.length) from hr)
      clear hr hfr
      have hstep : sumF fs (j + 1) = sumF fs j + (3 + (fr fs j).d.length) := rfl
      have hb1 : (k + (sumF fs j : Int) != k + (sumF fs j : Int)) = false := bne_self_eq_false _
      have hb2 : (k + (sumF fs j : Int) + 1 != k + (sumF fs j : Int) + 1) = false := bne_self_eq_false _
      have hb3 : (((k + (sumF fs j : Int) + 1 + 1) % 3 == 0) != ((k + (sumF fs j : Int) + 1 + 1) % 3 == 0)) = false := bne_self_eq_false _
      have hb4 : (((k + (sumF fs j : Int) + 1 + 1) % 3 == 0) == ((k + (sumF fs j : Int) + 1 + 1) % 3 == 0)) = true := beq_self_eq_true _
      go_wp2_with fail
      refine (heldByteS_c (vs j) (fr fs j).d.length (k + (sumF fs j : Int) + 1 + 1 + 1) _ HRr.out (by omega) (by omega) (by omega)).mono ?_
      rintro e w1 hr
      obtain ⟨rfl, hs1⟩ := hr.same
      have HS1 := Lib.hid (HS.out.trans hs1)
      clear hr hs1 hc0 hc1 hc2 hc3
      go_wp2
      go_roundw
      case rel => exact ⟨j + 1, hlt, by go_num, intv (by omega), HS1.out⟩
      case measure => simp [intOf]; omega
    · obtain rfl : j = fs.length := by omega
      go_wp2
      go_ret
      exact RetQ.mkS rfl HS.out

open Go.Deep Go.ChangeShapes Go.WideShapes Go.Joins in
theorem openFragments {H : Type} {enc : TypeId × Value → H} {w : World} {held : Bool} {r : Reach} {bs : Nat} {v : Value} {d : DataW H} {p : List MemPlace}
    (hv : Value.okWide Try.prog w r bs 41 v) (h : DataW.Trod enc Try.prog w 0 (fun _ => true) held 41 v d p) : ∃ (vs : Nat → Value) (fs : List Frag), RdF w v vs fs ∧ wfF fs := by
  obtain ⟨n, c, hr, hq⟩ := rdM_of_trod (m := 4) Try.underlying41 (by kernel_rfl) (by decide) hv h (fun f => ∃ q : Frag, f 0 = .int .i64 q.m ∧ f 1 = .int .i64 q.p ∧ f 2 = .bool q.l ∧ RdB w (f 3) q.d ∧ wfI q.m ∧ wfI q.p)
    (fun n cs x hx => by
      obtain ⟨y0, y1, y2, y3, m, _, hl, t0, t1, t2, t3⟩ := trod_struct4 Try.underlying63 hx
      rw [show Try.prog.cellsOf 63 = 4 by kernel_rfl] at hl
      simp only [show Try.prog.cellsOf 3 = 1 by kernel_rfl, show Try.prog.cellsOf 4 = 1 by kernel_rfl, show Try.prog.cellsOf 22 = 1 by kernel_rfl] at t0 t1 t2 t3
      match cs, hl with
      | [v0, v1, v2, v3], _ =>
        simp only [List.drop_zero, List.take_succ_cons, List.take_zero, List.drop_succ_cons] at t0 t1 t2 t3
        obtain ⟨a, e0, _, wa⟩ := DataW.trod_int Try.underlying3 t0
        obtain ⟨b, e1, _, wb⟩ := DataW.trod_int Try.underlying3 t1
        obtain ⟨l, e2, _⟩ := DataW.trod_bool Try.underlying4 t2
        simp only [List.cons.injEq, and_true] at e0 e1 e2
        subst e0 e1 e2
        rcases open_ints Try.underlying22 Try.underlying5 (by kernel_rfl) t3 with ⟨hcs, _⟩ | ⟨y, len, cp, zs, hcs, _, hl, hm, hz, _, hcell, hwz⟩
        · simp only [List.cons.injEq, and_true] at hcs
          subst hcs
          refine ⟨fun j => if j = 0 then .int .i64 a else if j = 1 then .int .i64 b else if j = 2 then .bool l else .slice none 0 0, ⟨⟨a, b, l, []⟩, rfl, rfl, rfl, RdK.ofNil w, wa, wb⟩, fun j hj => ?_⟩
          have : j = 0 ∨ j = 1 ∨ j = 2 ∨ j = 3 := by omega
          rcases this with rfl | rfl | rfl | rfl <;> rfl
        · simp only [List.cons.injEq, and_true] at hcs
          subst hcs
          obtain ⟨xs, h1, _⟩ := RdK.ofIs (w := w) (a := some y) (len := len) (cap := cp) (zs := zs) (.inr ⟨_, rfl, hl, hm, by simpa using hz, hcell, hwz⟩)
          refine ⟨fun j => if j = 0 then .int .i64 a else if j = 1 then .int .i64 b else if j = 2 then .bool l else .slice (some y) len cp, ⟨⟨a, b, l, xs⟩, rfl, rfl, rfl, h1, wa, wb⟩, fun j hj => ?_⟩
          have : j = 0 ∨ j = 1 ∨ j = 2 ∨ j = 3 := by omega
          rcases this with rfl | rfl | rfl | rfl <;> rfl)
  obtain ⟨g, hg⟩ := @Go.Deep.choose_lt Frag ⟨⟨0, 0, false, []⟩⟩ _ _ hq
  refine ⟨fun i => c i 3, (List.range n).map g, ⟨?_, fun i hi => ?_⟩, fun i hi => ?_⟩
  · have e : ((List.range n).map g).length = n := by simp
    rw [e]
    refine hr.congr fun i j hi hj => ?_
    have e1 : fr ((List.range n).map g) i = g i := by simp [fr, hi]
    have : j = 0 ∨ j = 1 ∨ j = 2 ∨ j = 3 := by omega
    obtain ⟨q0, q1, q2, -⟩ := hg i hi
    rcases this with rfl | rfl | rfl | rfl
    · rw [q0]; simp [frC, e1]
    · rw [q1]; simp [frC, e1]
    · rw [q2]; simp [frC, e1]
    · simp [frC]
  · have hi' : i < n := by simpa using hi
    have e : fr ((List.range n).map g) i = g i := by simp [fr, hi']
    rw [e]; exact (hg i hi').2.2.2.1
  · have hi' : i < n := by simpa using hi
    have e : fr ((List.range n).map g) i = g i := by simp [fr, hi']
    rw [e]; exact (hg i hi').2.2.2.2
end Go.Proofs.Ytmhlnelnjnhcoaa
