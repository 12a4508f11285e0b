import Derived.Test.YtdfinlpfkmmpkaaProg
import Derived.Test.YtdfinlpfkmmpkaaLib
import Derived.Test.YtdfinlpfkmmpkaaMem
import Derived.Test.YtdfinlpfkmmpkaaOpen
import Derived.Test.YtdfinlpfkmmpkaaSym
import Derived.Test.YtdfinlpfkmmpkaaInts
import Derived.Test.YtdfinlpfkmmpkaaBlk
namespace Go.Proofs.Ytdfinlpfkmmpkaa
open Go.RowKit

/-! Lists of lists of numbers: 'vs i' is the slice of row i. -/
def gl (xss : List (List Int)) (i : Nat) : List Int := xss.getD i []
def oneC (vs : Nat → Value) (i _ : Nat) : Value := vs i
structure RdSS (w : World) (v : Value) (vs : Nat → Value) (xss : List (List Int)) : Prop where
  rows : RdM 1 w v xss.length (oneC vs)
  each : ∀ i, i < xss.length → RdI w (vs i) (gl xss i)
def rdSSP (v : Value) (vs : Nat → Value) (xss : List (List Int)) : Part where
  says w := RdSS w v vs xss
  on g := (v.ownBlock = some g ∧ 0 < xss.length) ∨ ∃ i, i < xss.length ∧ (vs i).ownBlock = some g ∧ 0 < (gl xss i).length
  wr _ := False
  sub _ h := h.elim
  lt w h g hg := by
    rcases hg with hg | ⟨i, hi, hg⟩
    · exact (rdMP 1 v xss.length (oneC vs)).lt w ⟨h.rows, by decide⟩ g hg
    · exact (rdP .i64 (vs i) (gl xss i)).lt w (h.each i hi) g hg
  keep w w' h hk := ⟨((rdMP 1 v xss.length (oneC vs)).keep w w' ⟨h.rows, by decide⟩ (fun g hg => hk g (.inl hg))).1,
    fun i hi => (rdP .i64 (vs i) (gl xss i)).keep w w' (h.each i hi) (fun g hg => hk g (.inr ⟨i, hi, hg.1, hg.2⟩))⟩
theorem rdSSP_wr {v : Value} {vs : Nat → Value} {xss : List (List Int)} : ∀ g, ¬ (rdSSP v vs xss).wr g := fun _ h => h

/-- n rows that the call owns -/
def innP (t : TypeId) (vs : Nat → Value) (xss : List (List Int)) (n : Nat) : Part where
  says w := (∀ i, i < n → OwnK .i64 w 0 t (vs i) (gl xss i)) ∧ ∀ i j g, i < n → j < n → (vs i).ownBlock = some g → (vs j).ownBlock = some g → i = j
  on g := ∃ i, i < n ∧ (vs i).ownBlock = some g
  wr g := ∃ i, i < n ∧ (vs i).ownBlock = some g
  sub _ h := h
  lt w h g hg := by obtain ⟨i, hi, hg⟩ := hg; exact (OwnK.base (h.1 i hi) g hg).2
  keep w w' h hk := ⟨fun i hi => OwnK.keep (h.1 i hi) fun g e _ => hk g ⟨i, hi, e⟩, h.2⟩

variable {row : Option Nat} {w0 w w' : World} {I : List Part} {a b q : Part}
/-- two parts as one -/
theorem SH.merge2 (h : SH row w0 w (a :: b :: I)) (hq : q.says w) (hon : ∀ g, q.on g → a.on g ∨ b.on g) (hwr : ∀ g, q.wr g → a.wr g ∨ b.wr g) : SH row w0 w (q :: I) := by
  have hA := List.pairwise_cons.1 h.apart
  have hB := List.pairwise_cons.1 hA.2
  refine ⟨h.grown, ?_, ?_, ?_⟩
  · intro p hp
    rcases List.mem_cons.1 hp with rfl | hp
    · exact hq
    · exact h.says p (by simp [hp])
  · intro p hp g hg
    rcases List.mem_cons.1 hp with rfl | hp
    · rcases hwr g hg with h1 | h1
      · exact h.new a (by simp) g h1
      · exact h.new b (by simp) g h1
    · exact h.new p (by simp [hp]) g hg
  · refine List.pairwise_cons.2 ⟨fun p hp g => ⟨fun h1 h2 => ?_, fun h1 h2 => ?_⟩, hB.2⟩
    · rcases hwr g h1 with h3 | h3
      · exact ((hA.1 p (by simp [hp])) g).1 h3 h2
      · exact ((hB.1 p hp) g).1 h3 h2
    · rcases hon g h2 with h3 | h3
      · exact ((hA.1 p (by simp [hp])) g).2 h1 h3
      · exact ((hB.1 p hp) g).2 h1 h3

def updV (vs : Nat → Value) (n : Nat) (v : Value) : Nat → Value := fun i => if i = n then v else vs i
theorem updV_eq {vs : Nat → Value} {n : Nat} {v : Value} : updV vs n v n = v := by simp [updV]
theorem updV_ne {vs : Nat → Value} {n i : Nat} {v : Value} (h : ¬ i = n) : updV vs n v i = vs i := by simp [updV, h]
theorem SH.inn0 (h : SH row w0 w I) (t : TypeId) (vs : Nat → Value) (xss : List (List Int)) : SH row w0 w (innP t vs xss 0 :: I) :=
  h.push (Below.refl _ _) ⟨fun i hi => absurd hi (Nat.not_lt_zero _), fun i j g hi => absurd hi (Nat.not_lt_zero _)⟩ (fun g ⟨i, hi, _⟩ => absurd hi (Nat.not_lt_zero _))
/-- one more row -/
theorem SH.pushInn {t : TypeId} {v : Value} {xs : List Int} {vs : Nat → Value} {xss : List (List Int)} {n : Nat} (h : SH row w0 w (ownP .i64 t v xs :: innP t vs xss n :: I)) (hx : gl xss n = xs) :
    SH row w0 w (innP t (updV vs n v) xss (n + 1) :: I) := by
  have hp := h.p1
  have hap := h.apart01
  refine h.merge2 ⟨fun i hi => ?_, fun i j g hi hj h1 h2 => ?_⟩ (fun g ⟨i, hi, hg⟩ => ?_) (fun g ⟨i, hi, hg⟩ => ?_)
  · by_cases e : i = n
    · subst e; rw [updV_eq, hx]; exact h.p0
    · rw [updV_ne e]; exact hp.1 i (by omega)
  · by_cases e1 : i = n
    · by_cases e2 : j = n
      · omega
      · subst e1; rw [updV_eq] at h1; rw [updV_ne e2] at h2
        exact absurd (show (innP t vs xss i).on g from ⟨j, by omega, h2⟩) ((hap g).1 h1)
    · by_cases e2 : j = n
      · subst e2; rw [updV_ne e1] at h1; rw [updV_eq] at h2
        exact absurd (show (innP t vs xss j).on g from ⟨i, by omega, h1⟩) ((hap g).1 h2)
      · rw [updV_ne e1] at h1; rw [updV_ne e2] at h2
        exact hp.2 i j g (by omega) (by omega) h1 h2
  · by_cases e : i = n
    · subst e; rw [updV_eq] at hg; exact .inl hg
    · rw [updV_ne e] at hg; exact .inr ⟨i, by omega, hg⟩
  · by_cases e : i = n
    · subst e; rw [updV_eq] at hg; exact .inl hg
    · rw [updV_ne e] at hg; exact .inr ⟨i, by omega, hg⟩
theorem gl_set {xss : List (List Int)} {i j : Nat} {ys : List Int} (hi : i < xss.length) : gl (xss.set i ys) j = if j = i then ys else gl xss j := by
  unfold gl
  by_cases e : j = i
  · subst e; simp [hi]
  · have : i ≠ j := fun h => e h.symm
    simp [e, this]
/-- a row is written -/
theorem SH.writeInn {t : TypeId} {vs : Nat → Value} {xss : List (List Int)} {n i : Nat} {ys : List Int} (h : SH row w0 w (innP t vs xss n :: I)) (hi : i < n) (hn : n ≤ xss.length)
    (hg : w.grownBy w' (vs i).ownBlock) (ho : OwnK .i64 w' 0 t (vs i) ys) : SH row w0 w' (innP t vs (xss.set i ys) n :: I) := by
  have hp := h.p0
  refine h.write (r := (vs i).ownBlock) hg (fun g e => ⟨i, hi, e⟩) ⟨fun j hj => ?_, hp.2⟩ (fun g h => .inl h) (fun g h => .inl h)
  rw [gl_set (by omega)]
  by_cases e : j = i
  · subst e; rw [if_pos rfl]; exact ho
  · rw [if_neg e]
    refine OwnK.keep (hp.1 j hj) fun g e1 hl => hg.block g hl fun e2 => e (hp.2 j i g hj hi e1 e2.symm)
/-- rows of the call's own, read -/
theorem rd_of_inn {t ti : TypeId} {v : Value} {vs : Nat → Value} {xss : List (List Int)} (h : SH row w0 w (ownMP 1 t v xss.length (oneC vs) :: innP ti vs xss xss.length :: I)) : RdSS w v vs xss :=
  ⟨OwnM.rd h.p0, fun i hi => OwnK.rd (h.p1.1 i hi)⟩

theorem SH.setOwn1M {t : TypeId} {g n n' cap : Nat} {c : Nat → Nat → Value} (h : SH row w0 w (ownMP 1 t (.slice (some ⟨g, 0, none⟩) n' cap) n c :: I)) {i : Nat} (hi : i < n) (x : Value) :
    SH row w0 (w.setCell ⟨g, i, none⟩ x) (ownMP 1 t (.slice (some ⟨g, 0, none⟩) n' cap) n (updC c i (fun _ => x)) :: I) := by
  have h1 := h.setOwnM (j := 0) hi (by decide) x
  rw [Nat.mul_one, Nat.add_zero] at h1
  exact h1.congrM fun i' j hi' hj => by
    obtain rfl : j = 0 := by omega
    simp [updC]
/-- how many numbers the first k rows hold -/
def sumL (xss : List (List Int)) : Nat → Nat
  | 0 => 0
  | k + 1 => sumL xss k + (gl xss k).length
theorem sumL_mono (xss : List (List Int)) (k : Nat) : ∀ d, sumL xss k ≤ sumL xss (k + d)
  | 0 => Nat.le_refl _
  | d + 1 => by have := sumL_mono xss k d; rw [← Nat.add_assoc]; simp only [sumL]; omega
theorem sumL_le {xss : List (List Int)} {k n : Nat} (h : k ≤ n) : sumL xss k ≤ sumL xss n := by
  have := sumL_mono xss k (n - k); rwa [Nat.add_sub_cancel' h] at this
theorem sumL_row {xss : List (List Int)} {i n : Nat} (h : i < n) : (gl xss i).length ≤ sumL xss n := by
  have := sumL_le (xss := xss) (show i + 1 ≤ n from h)
  simp only [sumL] at this; omega

theorem info_row : (Try.prog.info? 28).map (fun i => (i.zero, i.size, i.bytes)) = some (some (.slice none 0 0), 1, 24) := by kernel_rfl

set_option maxHeartbeats 1000000 in
theorem toIntSS_s (va : Value) (vs : Nat → Value) (xss : List (List Int)) (w : World) {row : Option Nat} {w0 : World} {I : List Part} (hs : SH row w0 w (rdSSP va vs xss :: I)) (hn : xss.length ≤ 1048576) (hr : ∀ i, i < xss.length → (gl xss i).length ≤ 17592186044416) :
    Calls Try.prog 15 #[va] w (fun e w' => ∃ (v : Value) (ws : Nat → Value), e = .returned v ∧ SH row w0 w' (ownMP 1 28 v xss.length (oneC ws) :: innP 3 ws xss xss.length :: rdSSP va vs xss :: I)) := by
  obtain ⟨a, ca, rfl, ml⟩ := (SH.p0 hs : RdSS w va vs xss).rows.form
  have HR := Lib.hid hr
  clear hr
  go_enter Try.func15, Try.ntmps15
  go_wp2_with (at_make; refine wp_makeM rfl rfl w.heap.size 28 24 1 _ Try.underlying22 info_row rfl xss.length rfl rfl rfl rfl (by omega) (by unfold maxLen; omega) (Nat.le_refl _) ?_; intro w1 hown hg hsz)
  have hs := (hs.pushOwnM (below_of_grown hg) hown).inn0 3 (fun _ => undef) xss
  clear hown hg hsz
  generalize hB : w.heap.size = B at *
  go_loopw [4] (fun i wr => ∃ (k : Nat) (ws : Nat → Value) (c : Nat → Nat → Value), k ≤ xss.length ∧ i = .int .i64 k ∧ Hid (∀ j, j < k → c j 0 = ws j) ∧ SH row w0 wr (innP 3 ws xss k :: ownMP 1 28 (.slice (some ⟨B, 0, none⟩) xss.length xss.length) xss.length c :: rdSSP (.slice a xss.length ca) vs xss :: I)) (fun i _ => xss.length - (intOf i).toNat)
  case atStart => exact ⟨0, _, _, Nat.zero_le _, rfl, Lib.hid (fun j h => absurd h (Nat.not_lt_zero _)), hs⟩
  case round =>
    obtain ⟨k, ws, c, hk, rfl, HC, hs⟩ := hrel
    by_cases hlt : k < xss.length
    · obtain ⟨b, off, rfl, hc⟩ := (SH.p2 hs : RdSS _ _ _ _).rows.at_ hlt
      have hc0 : wr.cell? ⟨b, off + k, none⟩ = some (vs k) := by simpa [oneC] using hc 0 (by decide)
      clear hc
      go_wp2_with fail
      refine (SH.own hs (by repeat' (first | with_reducible exact Below.refl _ _ | with_reducible assumption | with_reducible refine below_drewN ?_ _ | with_reducible refine Below.drew ?_ | with_reducible refine Below.alloc ?_ ?_ _ | with_reducible refine Below.setCell ?_ ?_ _ | go_size)) fun hs => toIntS_c (vs k) (gl xss k) _ ((SH.p2 hs : RdSS _ _ _ _).each k hlt) (HR.out k hlt)).mono ?_
      rintro e w2 ⟨v, rfl, hs⟩
      clear hc0
      obtain ⟨av, cv, rfl, -⟩ := (OwnK.rd hs.p0).form
      have hs := (hs.pushInn rfl).bring1
      obtain ⟨g, hge, -, hgc, hgf⟩ := OwnM.at_ hs.p0 hlt
      simp only [Option.some.injEq, Addr.mk.injEq, and_true] at hge
      subst hge
      have hg0 : w2.cell? ⟨B, k, none⟩ = some (c k 0) := by simpa using hgc 0 (by decide)
      have hf0 := hgf k
      clear hgc hgf
      go_wp2
      go_roundw
      case rel =>
        refine ⟨k + 1, _, _, hlt, by go_num, Lib.hid ?_, (hs.setOwn1M hlt _).bring1⟩
        intro j hj
        by_cases e : j = k
        · subst e; simp [updC, updV_eq]
        · rw [updV_ne e]; simp only [updC, if_neg e]; exact HC.out j (by omega)
      case measure => simp [intOf]; omega
    · obtain rfl : k = xss.length := by omega
      go_wp2
      go_ret
      refine ⟨_, ws, rfl, hs.bring1.congrM (fun i j hi hj => ?_)⟩
      obtain rfl : j = 0 := by omega
      exact HC.out i hi

theorem szIntS_c (va : Value) (xs : List Int) (l : Int) (w : World) (h : RdI w va xs) (h0 : 0 ≤ l) (h1 : l ≤ 1048576) :
    Calls Try.prog 38 #[va, .int .i64 l] w (RetQ w (.int .i64 (if (xs.length : Int) ≤ l then l - xs.length else -1))) := by
  obtain ⟨a, ca, rfl, ma⟩ := h.form
  clear h
  by_cases hl : (xs.length : Int) ≤ l
  · rw [if_pos hl]
    go_enter Try.func38, Try.ntmps38
    go_wp2
    go_ret
    exact RetQ.mkS rfl (SameW.refl _)
  · rw [if_neg hl]
    go_enter Try.func38, Try.ntmps38
    go_wp2
    go_ret
    exact RetQ.mkS rfl (SameW.refl _)

def szV (xss : List (List Int)) : Int := if xss.length + sumL xss xss.length ≤ 1048576 then 1048576 - (xss.length : Int) - (sumL xss xss.length : Int) else -1
theorem szIntSS_c (va : Value) (vs : Nat → Value) (xss : List (List Int)) (w : World) (h : RdSS w va vs xss) :
    Calls Try.prog 13 #[va, .int .i64 1048576] w (RetQ w (.int .i64 (szV xss))) := by
  obtain ⟨a, ca, rfl, ml⟩ := h.rows.form
  have H := Lib.hid h
  clear h
  by_cases hl : 1048576 < xss.length
  · have hz : szV xss = -1 := by unfold szV; rw [if_neg (by omega)]
    rw [hz]
    go_enter Try.func13, Try.ntmps13
    go_wp2
    go_ret
    exact RetQ.mkS rfl (SameW.refl _)
  go_enter Try.func13, Try.ntmps13
  go_wp2
  go_loopw [1, 5] (fun l i wr => ∃ k : Nat, k ≤ xss.length ∧ i = .int .i64 k ∧ l = .int .i64 (1048576 - (xss.length : Int) - (sumL xss k : Int)) ∧ xss.length + sumL xss k ≤ 1048576 ∧ SameW w wr) (fun _ i _ => xss.length - (intOf i).toNat)
  case atStart => exact ⟨0, Nat.zero_le _, rfl, by simp [sumL], by simp [sumL]; omega, SameW.refl _⟩
  case round =>
    obtain ⟨k, hk, rfl, rfl, hsum, hsame⟩ := hrel
    have HS := Lib.hid hsame
    clear hsame
    by_cases hlt : k < xss.length
    · obtain ⟨b, off, rfl, hc⟩ := (H.out.rows.below (by decide) HS.out.below).at_ hlt
      have hc0 : wr.cell? ⟨b, off + k, none⟩ = some (vs k) := by simpa [oneC] using hc 0 (by decide)
      clear hc
      have hrow := sumL_row (xss := xss) hlt
      have hstep : sumL xss (k + 1) = sumL xss k + (gl xss k).length := rfl
      go_wp2_with fail
      refine (szIntS_c (vs k) (gl xss k) _ _ ((H.out.each k hlt).below HS.out.below) (by omega) (by omega)).mono ?_
      rintro e w1 hr
      obtain ⟨rfl, hs1⟩ := hr.same
      have HS1 := Lib.hid (HS.out.trans hs1)
      clear hr hs1 hc0
      by_cases hfit : ((gl xss k).length : Int) ≤ 1048576 - (xss.length : Int) - (sumL xss k : Int)
      · rw [if_pos hfit]
        go_wp2
        go_roundw
        case rel => exact ⟨k + 1, hlt, by go_num, intv (by omega), by omega, HS1.out⟩
        case measure => simp [intOf]; omega
      · have hz : Hid (szV xss = -1) := by
          unfold Hid szV
          have := sumL_le (xss := xss) (show k + 1 ≤ xss.length from hlt)
          rw [if_neg (by omega)]
        rw [if_neg hfit]
        go_wp2
        go_ret
        exact RetQ.mkS (intv hz.out.symm) HS1.out
    · obtain rfl : k = xss.length := by omega
      go_wp2
      go_ret
      exact RetQ.mkS (intv (by unfold szV; rw [if_pos hsum])) HS.out

theorem eqIntSS_c (va vb : Value) (vs ws : Nat → Value) (xss : List (List Int)) (w : World) (ha : RdSS w va vs xss) (hb : RdSS w vb ws xss) :
    Calls Try.prog 17 #[va, vb] w (RetQ w (.bool true)) := by
  obtain ⟨a, ca, rfl, ma⟩ := ha.rows.form
  obtain ⟨b, cb, rfl, mb⟩ := hb.rows.form
  have HA := Lib.hid ha
  have HB := Lib.hid hb
  have hl0 : ((xss.length : Int) != (xss.length : Int)) = false := bne_self_eq_false _
  clear ha hb
  go_enter Try.func17, Try.ntmps17
  go_wp2
  go_loopw [5] (fun i wr => ∃ k : Nat, k ≤ xss.length ∧ i = .int .i64 k ∧ SameW w wr) (fun i _ => xss.length - (intOf i).toNat)
  case atStart => exact ⟨0, Nat.zero_le _, rfl, SameW.refl _⟩
  case round =>
    obtain ⟨k, hk, rfl, hsame⟩ := hrel
    have HS := Lib.hid hsame
    clear hsame
    by_cases hlt : k < xss.length
    · obtain ⟨ba, oa, rfl, hca⟩ := (HA.out.rows.below (by decide) HS.out.below).at_ hlt
      obtain ⟨bb, ob, rfl, hcb⟩ := (HB.out.rows.below (by decide) HS.out.below).at_ hlt
      have hc0 : wr.cell? ⟨ba, oa + k, none⟩ = some (vs k) := by simpa [oneC] using hca 0 (by decide)
      have hd0 : wr.cell? ⟨bb, ob + k, none⟩ = some (ws k) := by simpa [oneC] using hcb 0 (by decide)
      clear hca hcb
      have HRA := Lib.hid ((HA.out.each k hlt).below HS.out.below)
      have HRB := Lib.hid ((HB.out.each k hlt).below HS.out.below)
      have i0 : (0 : Int) ≤ (k : Int) := by omega
      have i1 : (k : Int) < (xss.length : Int) := by omega
      have hde : decide (gl xss k = gl xss k) = true := by simp
      go_wp2
      go_quiet ((go_at_call 20; exact quiet_of (eqIntS_c _ _ (gl xss k) (gl xss k) _ (RdK.drewN HRA.out _) (RdK.drewN HRB.out _))))
      go_wp2
      go_roundw
      case rel => exact ⟨k + 1, hlt, by go_num, HS.out.drewN _⟩
      case measure => simp [intOf]; omega
    · go_wp2
      go_ret
      exact RetQ.mkS rfl HS.out

/-- the rows, marked from k on -/
def upSS (k : Int) (xss : List (List Int)) (n : Nat) : List (List Int) := (List.range xss.length).map fun i => if i < n then upFrom (k + (sumL xss i : Int)) (gl xss i).length else gl xss i
theorem length_upSS (k : Int) (xss : List (List Int)) (n : Nat) : (upSS k xss n).length = xss.length := by simp [upSS]
theorem gl_upSS {k : Int} {xss : List (List Int)} {n i : Nat} (h : i < xss.length) : gl (upSS k xss n) i = if i < n then upFrom (k + (sumL xss i : Int)) (gl xss i).length else gl xss i := by
  show (upSS k xss n).getD i [] = _
  unfold upSS
  rw [List.getD_eq_getElem?_getD, List.getElem?_map, List.getElem?_range h]
  rfl
theorem gl_ext {xs ys : List (List Int)} (hl : xs.length = ys.length) (h : ∀ i, i < xs.length → gl xs i = gl ys i) : xs = ys := by
  apply List.ext_getElem hl
  intro i h1 h2
  have := h i h1
  simpa [gl, h1, h2] using this
theorem upSS_set {k : Int} {xss : List (List Int)} {n : Nat} (h : n < xss.length) : (upSS k xss n).set n (upFrom (k + (sumL xss n : Int)) (gl xss n).length) = upSS k xss (n + 1) := by
  refine gl_ext (by simp [upSS]) fun i hi => ?_
  rw [List.length_set, length_upSS] at hi
  rw [gl_set (by rw [length_upSS]; exact h), gl_upSS hi, gl_upSS hi]
  by_cases e : i = n
  · subst e; simp
  · rw [if_neg e]
    by_cases e1 : i < n
    · rw [if_pos e1, if_pos (by omega)]
    · rw [if_neg e1, if_neg (by omega)]
theorem upSS_zero (k : Int) (xss : List (List Int)) : upSS k xss 0 = xss :=
  gl_ext (length_upSS _ _ _) fun i hi => by rw [length_upSS] at hi; rw [gl_upSS hi, if_neg (Nat.not_lt_zero _)]
set_option maxHeartbeats 1000000 in
theorem markIntSS_s (t : TypeId) (va : Value) (vs : Nat → Value) (xss : List (List Int)) (k : Int) (w : World) {row : Option Nat} {w0 : World} {I : List Part} (hs : SH row w0 w (ownMP 1 t va xss.length (oneC vs) :: innP 3 vs xss xss.length :: I)) (h0 : 0 ≤ k) (h1 : k ≤ 1000000) (hn : sumL xss xss.length ≤ 100000000) :
    Calls Try.prog 21 #[va, .int .i64 k] w (fun e w' => e = .returned (.int .i64 (k + (sumL xss xss.length : Int))) ∧ SH row w0 w' (ownMP 1 t va xss.length (oneC vs) :: innP 3 vs (upSS k xss xss.length) xss.length :: I)) := by
  obtain ⟨a, ca, rfl, ml⟩ := (OwnM.rd hs.p0).form
  go_enter Try.func21, Try.ntmps21
  go_wp2
  go_loopw [1, 5] (fun q i wr => ∃ j : Nat, j ≤ xss.length ∧ i = .int .i64 j ∧ q = .int .i64 (k + (sumL xss j : Int)) ∧ SH row w0 wr (innP 3 vs (upSS k xss j) xss.length :: ownMP 1 t (.slice a xss.length ca) xss.length (oneC vs) :: I)) (fun _ i _ => xss.length - (intOf i).toNat)
  case atStart => exact ⟨0, Nat.zero_le _, rfl, by simp [sumL], by rw [upSS_zero]; exact hs.bring1⟩
  case round =>
    obtain ⟨j, hj, rfl, rfl, hs⟩ := hrel
    have hsl := sumL_le (xss := xss) hj
    by_cases hlt : j < xss.length
    · obtain ⟨b, off, rfl, hc⟩ := (OwnM.rd hs.p1).at_ hlt
      have hc0 : wr.cell? ⟨b, off + j, none⟩ = some (vs j) := by simpa [oneC] using hc 0 (by decide)
      clear hc
      have hrow := sumL_row (xss := xss) hlt
      have hg : gl (upSS k xss j) j = gl xss j := by rw [gl_upSS hlt, if_neg (by omega)]
      have ho := (SH.p0 hs : (∀ i, i < xss.length → OwnK .i64 _ 0 _ _ _) ∧ _).1 j hlt
      rw [hg] at ho
      have HO := Lib.hid ho
      clear ho
      go_wp2_with fail
      refine (markIntS_c 0 (vs j) (gl xss j) (k + (sumL xss j : Int)) _ HO.out (by omega) (by omega) (by omega)).mono ?_
      rintro e w1 ⟨rfl, ho1, hg1⟩
      have hs := hs.writeInn hlt (by rw [length_upSS]; exact Nat.le_refl _) hg1 ho1
      rw [upSS_set hlt] at hs
      clear hc0 ho1 hg1
      have hstep : sumL xss (j + 1) = sumL xss j + (gl xss j).length := rfl
      go_wp2
      go_roundw
      case rel => exact ⟨j + 1, hlt, by go_num, intv (by omega), hs⟩
      case measure => simp [intOf]; omega
    · obtain rfl : j = xss.length := by omega
      go_wp2
      go_ret
      exact ⟨rfl, hs.bring1⟩


open Go.Deep Go.ChangeShapes Go.WideShapes Go.Joins in
theorem openRows {H : Type} {enc : TypeId × Value → H} {w : World} {held : Bool} {r : Reach} {bs : Nat} {v : Value} {d : DataW H} {p : List MemPlace}
    (hv : Value.okWide Try.prog w r bs 22 v) (h : DataW.Trod enc Try.prog w 0 (fun _ => true) held 22 v d p) : ∃ (vs : Nat → Value) (xss : List (List Int)), RdSS w v vs xss := by
  obtain ⟨n, c, hr, hq⟩ := rdM_of_trod (m := 1) Try.underlying22 (by kernel_rfl) (by decide) hv h (fun f => ∃ xs, RdI w (f 0) xs)
    (fun n cs x hx => by
      rcases open_ints Try.underlying28 Try.underlying3 (by kernel_rfl) hx with ⟨hcs, _⟩ | ⟨y, l, cp, zs, hcs, _, hl, hm, hz, _, hcell, hwz⟩
      · exact ⟨fun _ => .slice none 0 0, ⟨[], RdK.ofNil w⟩, fun j hj => by obtain rfl : j = 0 := (by omega); rw [hcs]; rfl⟩
      · obtain ⟨xs, h1, _⟩ := RdK.ofIs (w := w) (a := some y) (len := l) (cap := cp) (zs := zs) (.inr ⟨_, rfl, hl, hm, by simpa using hz, hcell, hwz⟩)
        exact ⟨fun _ => .slice (some y) l cp, ⟨xs, h1⟩, fun j hj => by obtain rfl : j = 0 := (by omega); rw [hcs]; rfl⟩)
  obtain ⟨g, hg⟩ := Go.Deep.choose_lt hq
  refine ⟨fun i => c i 0, (List.range n).map g, ⟨?_, fun i hi => ?_⟩⟩
  · have e : ((List.range n).map g).length = n := by simp
    rw [e]
    exact hr.congr fun i j hi hj => by obtain rfl : j = 0 := (by omega); rfl
  · have hi' : i < n := by simpa using hi
    have e : gl ((List.range n).map g) i = g i := by simp [gl, hi']
    rw [e]; exact hg i hi'

end Go.Proofs.Ytdfinlpfkmmpkaa
