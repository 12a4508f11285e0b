import Derived.Test.YtmhlnelnjnhcoaaProg
import Derived.Test.YtmhlnelnjnhcoaaLib
import Derived.Test.YtmhlnelnjnhcoaaMem
import Derived.Test.YtmhlnelnjnhcoaaSym
import Derived.Test.YtmhlnelnjnhcoaaDraw
import Derived.Test.YtmhlnelnjnhcoaaInts
import Derived.Test.YtmhlnelnjnhcoaaBytes
import Derived.Test.YtmhlnelnjnhcoaaApp
import Derived.Test.YtmhlnelnjnhcoaaBlk
import Derived.Test.YtmhlnelnjnhcoaaFrag
import Derived.Test.YtmhlnelnjnhcoaaSplit
import Derived.Test.YtmhlnelnjnhcoaaIdx
import Derived.Test.YtmhlnelnjnhcoaaJoin
import Derived.Test.YtmhlnelnjnhcoaaMiss
import Derived.Test.YtmhlnelnjnhcoaaSplitEx
import Derived.Test.YtmhlnelnjnhcoaaJoinEx
import Derived.Test.YtmhlnelnjnhcoaaDrawFrag
import Derived.Laws.BytesArg
namespace Go.Proofs.Ytmhlnelnjnhcoaa
open Go.RowKit

/-! Joined again: what is joined depends on what is found alone. -/
def isP (m p : Int) (f : Frag) : Bool := decide (f.m = m ∧ f.p = p)
theorem fr_get {fs : List Frag} {n : Nat} (h : n < fs.length) : fs[n]? = some (fr fs n) := by simp [fr, h]
theorem look_find {fs : List Frag} {m p : Int} : ∀ {n : Nat}, n ≤ fs.length → (look fs m p n).map (fr fs) = (fs.take n).find? (isP m p)
  | 0, _ => by simp [look]
  | n + 1, h => by
    have ih := look_find (fs := fs) (m := m) (p := p) (n := n) (by omega)
    rw [List.take_add_one, fr_get (by omega), List.find?_append, ← ih]
    cases hl : look fs m p n with
    | some i => rw [look_step hl]; simp
    | none =>
      rw [look_step0 hl]
      by_cases e : (fr fs n).m = m ∧ (fr fs n).p = p
      · rw [if_pos e]; simp [isP, e]
      · rw [if_neg e]; simp [isP, e]
def joinG (fd : Int → Option Frag) : Nat → Nat → List Int → List Int × Bool
  | 0, _, _ => ([], false)
  | n + 1, k, acc => match fd (k : Int) with
    | none => ([], false)
    | some f => if f.l then (acc ++ f.d, true) else joinG fd n (k + 1) (acc ++ f.d)
theorem joinK_G (fs : List Frag) (m : Int) : ∀ n k acc, joinK fs m n k acc = joinG (fun p => fs.find? (isP m p)) n k acc
  | 0, _, _ => rfl
  | n + 1, k, acc => by
    have hf := look_find (fs := fs) (m := m) (p := (k : Int)) (Nat.le_refl _)
    rw [List.take_length] at hf
    unfold joinK joinG
    rw [← hf]
    cases look fs m (k : Int) fs.length with
    | none => rfl
    | some i => simp only [Option.map_some]; rw [joinK_G fs m n]
theorem joinF_same {fs gs : List Frag} {m : Int} (h : ∀ p, fs.find? (isP m p) = gs.find? (isP m p)) : joinF fs m = joinF gs m := by
  unfold joinF
  rw [joinK_G, joinK_G]
  congr 1
  funext p
  exact h p
theorem joinF_twice (fs : List Frag) (m : Int) : joinF (fs ++ fs) m = joinF fs m :=
  joinF_same fun p => by rw [List.find?_append, Option.or_self]
theorem joinF_own (fs : List Frag) (m : Int) : joinF (fs.filter fun f => f.m == m) m = joinF fs m :=
  joinF_same fun p => by
    rw [List.find?_filter]
    congr 1
    funext f
    simp only [isP]
    by_cases h : f.m = m <;> simp [h]
theorem joinK_no {fs : List Frag} {m : Int} : ∀ {n k acc}, (joinK fs m n k acc).2 = false → (joinK fs m n k acc).1 = []
  | 0, _, _, _ => rfl
  | n + 1, k, acc, h => by
    unfold joinK at h ⊢
    cases hl : look fs m (k : Int) fs.length with
    | none => rfl
    | some i =>
      rw [hl] at h
      simp only [] at h ⊢
      split at h
      · cases h
      · next e => rw [if_neg e]; exact joinK_no h
theorem insF_end (os : List Frag) (f : Frag) : insF os os.length f = os ++ [f] := by simp [insF]
theorem fr_cat {fs gs : List Frag} {i : Nat} : fr (fs ++ gs) i = if i < fs.length then fr fs i else fr gs (i - fs.length) := by
  unfold fr
  rw [List.getD_eq_getElem?_getD, List.getElem?_append]
  split <;> rw [List.getD_eq_getElem?_getD]
def catV (vs ws : Nat → Value) (n : Nat) : Nat → Value := fun i => if i < n then vs i else ws (i - n)
theorem frC_cat {fs gs : List Frag} {vs ws : Nat → Value} (i j : Nat) : catC fs.length (frC fs vs) (frC gs ws) i j = frC (fs ++ gs) (catV vs ws fs.length) i j := by
  unfold catC frC catV
  rw [fr_cat]
  by_cases h : i < fs.length <;> simp only [h, if_true, if_false]
theorem goodF_cat {fs gs : List Frag} (h : goodF fs) (h2 : goodF gs) : goodF (fs ++ gs) := by
  intro i hi
  rw [fr_cat]
  rw [List.length_append] at hi
  split
  · exact h i (by omega)
  · exact h2 _ (by omega)
theorem goodF_mem {fs : List Frag} : goodF fs ↔ ∀ f ∈ fs, (0 ≤ f.m ∧ f.m ≤ 100) ∧ (-1 ≤ f.p ∧ f.p ≤ 1000) ∧ f.d.length ≤ 13 ∧ ∀ x ∈ f.d, 0 ≤ x ∧ x ≤ 255 := by
  constructor
  · intro h f hf
    obtain ⟨i, hi, rfl⟩ := List.getElem_of_mem hf
    have := h i hi
    rwa [show fr fs i = fs[i] by simp [fr, hi]] at this
  · intro h i hi
    have e : fr fs i = fs[i] := by simp [fr, hi]
    rw [e]; exact h _ (List.getElem_mem hi)
theorem lenF_good {fs : List Frag} (h : goodF fs) (hl : fs.length ≤ 1000) : lenF fs := ⟨by omega, fun i hi => by have := (h i hi).2.2.1; omega⟩
theorem filter_step {fs : List Frag} {p : Frag → Bool} {k : Nat} (h : k < fs.length) : (fs.take (k + 1)).filter p = if p (fr fs k) then (fs.take k).filter p ++ [fr fs k] else (fs.take k).filter p := by
  rw [List.take_add_one, fr_get h, List.filter_append]
  by_cases e : p (fr fs k) <;> simp [e]

section
variable {row : Option Nat} {w0 w : World} {I : List Part}
theorem rd_of_rdInn {t : TypeId} {v : Value} {vs : Nat → Value} {fs : List Frag} (h : SH row w0 w (ownMP 4 t v fs.length (frC fs vs) :: rdInn vs fs :: I)) : RdF w v vs fs :=
  ⟨OwnM.rd h.p0, fun i hi => (h.p1 : ∀ i, i < fs.length → RdB w (vs i) (fr fs i).d) i hi⟩
end
theorem conv_rd {w : World} {v : Value} {xs : List Int} (h : RdB w v xs) : (convert 22 9 v).run Try.prog w = .ok (.string (strOfNums xs)) w := by
  obtain ⟨a, c, rfl, hl, hm, hc⟩ := h
  cases a with
  | none =>
    have hz : xs = [] := by
      rcases Nat.eq_zero_or_pos xs.length with h | h
      · exact List.eq_nil_of_length_eq_zero h
      · obtain ⟨b, off, e, _⟩ := hc 0 h; cases e
    subst hz
    exact run_convert_bytes_nil w 22 5 Try.underlying22 Try.underlying5 _ _ 9 Try.underlying9
  | some ad =>
    rcases Nat.eq_zero_or_pos xs.length with h | h
    · have hz := List.eq_nil_of_length_eq_zero h
      subst hz
      have hl0 : (loadCells ad 0).run Try.prog w = .ok #[] w := run_loadCells_list (P := Try.prog) w ad [] (fun j v hj => by simp at hj)
      rw [run_convert_bytes_string w 22 9 5 _ _ c Try.underlying22 Try.underlying5 Try.underlying9]
      have := run_bytesToString (P := Try.prog) w ad 0 c [] (by simpa using hl0)
      exact this.trans (by rfl)
    · obtain ⟨b, off, e, _⟩ := hc 0 h
      cases e
      exact run_convert_bytes_arg w 22 5 Try.underlying22 Try.underlying5 b off _ c xs rfl (fun i hi => by
        obtain ⟨b', o', e, hcell⟩ := hc i hi
        cases e
        exact hcell) 9 Try.underlying9

set_option maxHeartbeats 4000000 in
theorem drawJoin_s (va : Value) (cs : List Int) (w : World) {row : Option Nat} {w0 : World} {I : List Part} (hs : SH row w0 w (rdP .u8 va cs :: I)) (hb : ∀ n ∈ cs, (Lit.int .u8 n).wf = true) :
    Calls Try.prog 25 #[va] w (fun e w' => ∃ (v : Value) (z : Int), e = .returned (.tuple #[v, .int .i64 z]) ∧ ∃ (vs : Nat → Value) (fs : List Frag), fs.length ≤ 28 ∧ goodF fs ∧ 0 ≤ z ∧ z ≤ 2 ∧ SH row w0 w' (ownMP 4 34 v fs.length (frC fs vs) :: rdInn vs fs :: rdP .u8 va cs :: I)) := by
  have HB := Lib.hid hb
  clear hb
  go_enter Try.func25, Try.ntmps25
  go_wp2_with fail
  refine (open_s va cs _ (by first | exact hs | exact (hs).allocP1 _ _ | exact ((hs).allocP1 _ _).allocP1 _ _ | exact (((hs).allocP1 _ _).allocP1 _ _).allocP1 _ _ | exact ((((hs).allocP1 _ _).allocP1 _ _).allocP1 _ _).allocP1 _ _ | exact (hs).drew | exact ((hs).allocP1 _ _).drew | exact (((hs).allocP1 _ _).allocP1 _ _).drew | exact ((((hs).allocP1 _ _).allocP1 _ _).allocP1 _ _).drew | exact (((((hs).allocP1 _ _).allocP1 _ _).allocP1 _ _).allocP1 _ _).drew | exact (hs).drewN _ | exact ((hs).allocP1 _ _).drewN _ | exact (((hs).allocP1 _ _).allocP1 _ _).drewN _ | exact ((((hs).allocP1 _ _).allocP1 _ _).allocP1 _ _).drewN _ | exact (((((hs).allocP1 _ _).allocP1 _ _).allocP1 _ _).allocP1 _ _).drewN _) HB.out).mono ?_
  rintro e w1 ⟨g, sv, bs, rfl, hs⟩
  go_wp2_with fail
  refine (l20Parts_s g _ _ (by first | exact hs | exact (hs).allocP1 _ _ | exact ((hs).allocP1 _ _).allocP1 _ _ | exact (((hs).allocP1 _ _).allocP1 _ _).allocP1 _ _ | exact ((((hs).allocP1 _ _).allocP1 _ _).allocP1 _ _).allocP1 _ _ | exact (hs).drew | exact ((hs).allocP1 _ _).drew | exact (((hs).allocP1 _ _).allocP1 _ _).drew | exact ((((hs).allocP1 _ _).allocP1 _ _).allocP1 _ _).drew | exact (((((hs).allocP1 _ _).allocP1 _ _).allocP1 _ _).allocP1 _ _).drew | exact (hs).drewN _ | exact ((hs).allocP1 _ _).drewN _ | exact (((hs).allocP1 _ _).allocP1 _ _).drewN _ | exact ((((hs).allocP1 _ _).allocP1 _ _).allocP1 _ _).drewN _ | exact (((((hs).allocP1 _ _).allocP1 _ _).allocP1 _ _).allocP1 _ _).drewN _) (by omega)).mono ?_
  rintro e w2 ⟨v, rfl, vs, fs, hl, hg, hs⟩
  have HG := Lib.hid hg
  clear hg
  have hs := hs.bring2
  go_wp2_with fail
  refine (pick_s g _ 2 _ (by first | exact ⟨hs, by omega⟩ | exact ⟨(hs).allocP1 _ _, by omega⟩ | exact ⟨((hs).allocP1 _ _).allocP1 _ _, by omega⟩ | exact ⟨(((hs).allocP1 _ _).allocP1 _ _).allocP1 _ _, by omega⟩ | exact ⟨((((hs).allocP1 _ _).allocP1 _ _).allocP1 _ _).allocP1 _ _, by omega⟩ | exact ⟨(hs).drew, by omega⟩ | exact ⟨((hs).allocP1 _ _).drew, by omega⟩ | exact ⟨(((hs).allocP1 _ _).allocP1 _ _).drew, by omega⟩ | exact ⟨((((hs).allocP1 _ _).allocP1 _ _).allocP1 _ _).drew, by omega⟩ | exact ⟨(((((hs).allocP1 _ _).allocP1 _ _).allocP1 _ _).allocP1 _ _).drew, by omega⟩ | exact ⟨(hs).drewN _, by omega⟩ | exact ⟨((hs).allocP1 _ _).drewN _, by omega⟩ | exact ⟨(((hs).allocP1 _ _).allocP1 _ _).drewN _, by omega⟩ | exact ⟨((((hs).allocP1 _ _).allocP1 _ _).allocP1 _ _).drewN _, by omega⟩ | exact ⟨(((((hs).allocP1 _ _).allocP1 _ _).allocP1 _ _).allocP1 _ _).drewN _, by omega⟩) (by decide)).mono ?_
  rintro e w3 ⟨m0, rfl, m0_0, m0_a, -, hs⟩
  have m0_1 := m0_a (by decide)
  clear m0_a
  go_wp2_with fail
  refine (pick_s g _ 9 _ (by first | exact ⟨hs, by omega⟩ | exact ⟨(hs).allocP1 _ _, by omega⟩ | exact ⟨((hs).allocP1 _ _).allocP1 _ _, by omega⟩ | exact ⟨(((hs).allocP1 _ _).allocP1 _ _).allocP1 _ _, by omega⟩ | exact ⟨((((hs).allocP1 _ _).allocP1 _ _).allocP1 _ _).allocP1 _ _, by omega⟩ | exact ⟨(hs).drew, by omega⟩ | exact ⟨((hs).allocP1 _ _).drew, by omega⟩ | exact ⟨(((hs).allocP1 _ _).allocP1 _ _).drew, by omega⟩ | exact ⟨((((hs).allocP1 _ _).allocP1 _ _).allocP1 _ _).drew, by omega⟩ | exact ⟨(((((hs).allocP1 _ _).allocP1 _ _).allocP1 _ _).allocP1 _ _).drew, by omega⟩ | exact ⟨(hs).drewN _, by omega⟩ | exact ⟨((hs).allocP1 _ _).drewN _, by omega⟩ | exact ⟨(((hs).allocP1 _ _).allocP1 _ _).drewN _, by omega⟩ | exact ⟨((((hs).allocP1 _ _).allocP1 _ _).allocP1 _ _).drewN _, by omega⟩ | exact ⟨(((((hs).allocP1 _ _).allocP1 _ _).allocP1 _ _).allocP1 _ _).drewN _, by omega⟩) (by decide)).mono ?_
  rintro e w4 ⟨m8, rfl, m8_0, m8_a, -, hs⟩
  have m8_1 := m8_a (by decide)
  clear m8_a
  have hq : 0 ≤ m8 / 8 ∧ m8 / 8 ≤ 1 := by omega
  obtain ⟨hq0, hq1⟩ := hq
  go_wp2
  go_ret2
  exact ⟨_, _, rfl, vs, fs, hl, HG.out, by omega, by omega, hs.drop0⟩
theorem drawMiss_s (va : Value) (cs : List Int) (w : World) {row : Option Nat} {w0 : World} {I : List Part} (hs : SH row w0 w (rdP .u8 va cs :: I)) (hb : ∀ n ∈ cs, (Lit.int .u8 n).wf = true) :
    Calls Try.prog 30 #[va] w (fun e w' => ∃ (v : Value) (z : Int), e = .returned (.tuple #[v, .int .i64 z]) ∧ ∃ (vs : Nat → Value) (fs : List Frag), fs.length ≤ 28 ∧ goodF fs ∧ 0 ≤ z ∧ z ≤ 2 ∧ SH row w0 w' (ownMP 4 34 v fs.length (frC fs vs) :: rdInn vs fs :: rdP .u8 va cs :: I)) := by
  have HB := Lib.hid hb
  clear hb
  go_enter Try.func30, Try.ntmps30
  go_wp2_with fail
  refine (drawJoin_s va cs _ (by first | exact hs | exact (hs).allocP1 _ _ | exact ((hs).allocP1 _ _).allocP1 _ _ | exact (((hs).allocP1 _ _).allocP1 _ _).allocP1 _ _ | exact ((((hs).allocP1 _ _).allocP1 _ _).allocP1 _ _).allocP1 _ _ | exact (hs).drew | exact ((hs).allocP1 _ _).drew | exact (((hs).allocP1 _ _).allocP1 _ _).drew | exact ((((hs).allocP1 _ _).allocP1 _ _).allocP1 _ _).drew | exact (((((hs).allocP1 _ _).allocP1 _ _).allocP1 _ _).allocP1 _ _).drew | exact (hs).drewN _ | exact ((hs).allocP1 _ _).drewN _ | exact (((hs).allocP1 _ _).allocP1 _ _).drewN _ | exact ((((hs).allocP1 _ _).allocP1 _ _).allocP1 _ _).drewN _ | exact (((((hs).allocP1 _ _).allocP1 _ _).allocP1 _ _).allocP1 _ _).drewN _) HB.out).mono ?_
  rintro e w1 ⟨v, z, rfl, vs, fs, hl, hg, z0, z1, hs⟩
  have HG := Lib.hid hg
  clear hg
  go_wp2
  go_ret2
  exact ⟨_, _, rfl, vs, fs, hl, HG.out, z0, z1, hs⟩
set_option maxRecDepth 100000 in
set_option maxHeartbeats 4000000 in
theorem fnJoinFragments_c (vc : Value) (c : List Int) (w : World) (hc : RdB w vc c) (bc : ∀ n ∈ c, (Lit.int .u8 n).wf = true) :
    Calls Try.prog 6 #[vc] w (Ret w fun v _ => v = .bool true) := by
  have hs := SH.add (p := rdP .u8 vc c) (SH.start0 w) (by simp) hc rdP_wr
  obtain ⟨ac, cc, rfl, -⟩ := hc.form
  have Bc := Lib.hid bc
  clear hc bc
  by_cases lc : c.length ≤ 1048576
  case neg =>
    go_enter Try.func6, Try.ntmps6
    go_wp2
    go_ret
    exact Ret.mk1 rfl (Below.refl _ _)
  go_enter Try.func6, Try.ntmps6
  have hBc := Bc
  go_wp2_with fail
  refine (drawJoin_s _ c _ (by first | exact hs | exact (hs).allocP1 _ _ | exact ((hs).allocP1 _ _).allocP1 _ _ | exact (((hs).allocP1 _ _).allocP1 _ _).allocP1 _ _ | exact ((((hs).allocP1 _ _).allocP1 _ _).allocP1 _ _).allocP1 _ _ | exact (hs).drew | exact ((hs).allocP1 _ _).drew | exact (((hs).allocP1 _ _).allocP1 _ _).drew | exact ((((hs).allocP1 _ _).allocP1 _ _).allocP1 _ _).drew | exact (((((hs).allocP1 _ _).allocP1 _ _).allocP1 _ _).allocP1 _ _).drew | exact (hs).drewN _ | exact ((hs).allocP1 _ _).drewN _ | exact (((hs).allocP1 _ _).allocP1 _ _).drewN _ | exact ((((hs).allocP1 _ _).allocP1 _ _).allocP1 _ _).drewN _ | exact (((((hs).allocP1 _ _).allocP1 _ _).allocP1 _ _).allocP1 _ _).drewN _) Bc.out).mono ?_
  rintro e w1 ⟨v0, z, rfl, vs, fs, hfl, hg, z0, z1, hs⟩
  have HG := Lib.hid hg
  have HL := Lib.hid (lenF_good hg (by omega))
  have HW := Lib.hid (goodF_wf hg)
  clear hg
  have hzw : wfI z := wfOf (by omega) (by omega)
  obtain ⟨J, b, hJ⟩ : ∃ J b, joinF fs z = (J, b) := ⟨_, _, rfl⟩
  have HJ := Lib.hid hJ
  have hjl := joinF_len HL.out z
  rw [hJ] at hjl
  have hno : b = false → J = [] := fun h => by have h2 := joinK_no (fs := fs) (m := z) (n := 50) (k := 0) (acc := []); unfold joinF at hJ; rw [hJ] at h2; exact h2 h
  clear hJ
  obtain ⟨a1, c1, rfl, -⟩ := (OwnM.rd hs.p0).form
  go_wp2_with fail
  refine (SH.ownT (xs := (joinF fs z).1) (b := (joinF fs z).2) hs (by repeat' (first | with_reducible exact Below.refl _ _ | with_reducible assumption | with_reducible refine below_drewN ?_ _ | with_reducible refine Below.drew ?_ | with_reducible refine Below.alloc ?_ ?_ _ | with_reducible refine Below.setCell ?_ ?_ _ | go_size)) fun hs => implJoin_c _ _ fs z _ (rd_of_rdInn hs) HW.out hzw HL.out).mono ?_
  rintro e w2 ⟨d0, rfl, hs⟩
  rw [HJ.out] at hs
  rw [HJ.out]
  go_wp2_with fail
  refine (SH.ownT (xs := (joinF fs z).1) (b := (joinF fs z).2) hs (by repeat' (first | with_reducible exact Below.refl _ _ | with_reducible assumption | with_reducible refine below_drewN ?_ _ | with_reducible refine Below.drew ?_ | with_reducible refine Below.alloc ?_ ?_ _ | with_reducible refine Below.setCell ?_ ?_ _ | go_size)) fun hs => specJoin_c _ _ fs z _ (rd_of_rdInn hs.drop0) HL.out).mono ?_
  rintro e w3 ⟨w0, rfl, hs⟩
  rw [HJ.out] at hs
  rw [HJ.out]
  have hc1 := conv_rd (OwnK.rd hs.p0)
  have hc2 := conv_rd (OwnK.rd hs.p1)
  obtain ⟨S, hS⟩ : ∃ S, strOfNums J = S := ⟨_, rfl⟩
  rw [hS] at hc1 hc2
  have HS := Lib.hid hS
  clear hS
  have e0 : (b != b) = false := bne_self_eq_false _
  obtain ⟨aD, cD, rfl, -⟩ := (OwnK.rd hs.p1).form
  have e3 : (!b && decide ((J.length : Int) > 0)) = false := by cases b; { rw [hno rfl]; rfl }; { rfl }
  cases b
  · obtain rfl := hno rfl
    simp only [List.length_nil] at hc1 hc2
    have hs := hs.drop0
    go_wp2
    clear hc1 hc2 e3 hno
    have hs := hs.ownEmptyM 4 (by decide) 34 (frC [] (fun _ => undef))
    go_loopw [9, 10] (fun o i wr => ∃ (k : Nat) (os : List Frag) (ws : Nat → Value), k ≤ fs.length ∧ i = .int .i64 k ∧ Hid (os = (fs.take k).filter fun f => f.m == z) ∧ os.length ≤ k ∧ Hid (∀ i, i < os.length → ∃ j, j < fs.length ∧ ws i = vs j ∧ fr os i = fr fs j) ∧ SH none w wr [ownMP 4 34 o os.length (frC os ws), ownP .u8 5 (.slice aD ([] : List Int).length cD) ([] : List Int), ownMP 4 34 (.slice a1 fs.length c1) fs.length (frC fs vs), rdInn vs fs, rdP .u8 (.slice ac c.length cc) c]) (fun _ i _ => fs.length - (intOf i).toNat)
    case atStart => exact ⟨0, [], _, Nat.zero_le _, rfl, Lib.hid (by simp), Nat.le_refl _, Lib.hid (fun i h => absurd h (Nat.not_lt_zero _)), hs⟩
    case round =>
      clear hs
      obtain ⟨k, os, ws, hk, rfl, HO, hol, HM, hs⟩ := hrel
      by_cases hlt : k < fs.length
      · obtain ⟨bL, oL, rfl, -⟩ := (OwnM.rd hs.p2).at_ hlt
        obtain ⟨av, cv, hvk, -⟩ := (SH.p3 hs : ∀ i, i < fs.length → RdB _ (vs i) (fr fs i).d) k hlt |>.form
        have HVK := Lib.hid hvk
        obtain ⟨hj0, hj1, hj2, hj3⟩ := frag_cellsV hvk (OwnM.rd hs.p2) hlt
        clear hvk
        by_cases hm : (fr fs k).m = z
        · have em : ((fr fs k).m == z) = true := by simpa using hm
          clear hm
          go_wp2_with (at_builtin; refine wp_app1MS rfl rfl 34 48 4 (.agg #[.int .i64 0, .int .i64 0, .bool false, .slice none 0 0]) Try.underlying23 info_frag rfl (by decide) (rowF (fr fs k) (.slice av (fr fs k).d.length cv)) rfl (hs.alloc _) rfl (fun i hi => by have : i = 0 ∨ i = 1 ∨ i = 2 ∨ i = 3 := (by omega); rcases this with rfl | rfl | rfl | rfl <;> exact World.cell?_alloc_at _ _ _ _ rfl) (fun i hi => one_cell hi) (by omega) (by unfold maxLen; omega) ?_; intro v9 w9 hs)
          have hs := hs.congrM (c' := frC (insF os os.length (fr fs k)) (insV ws os.length (vs k))) (fun i j2 hi _ => by rw [HVK.out]; exact ins_end hi j2)
          rw [insF_end, show os.length + 1 = (os ++ [fr fs k]).length by simp] at hs
          go_roundw
          case rel =>
            refine ⟨k + 1, os ++ [fr fs k], insV ws os.length (vs k), hlt, by go_num, Lib.hid ?_, by simp; omega, Lib.hid ?_, hs⟩
            · rw [filter_step hlt, if_pos em, HO.out]
            · intro i hi
              rw [fr_cat]
              unfold insV
              by_cases h1 : i < os.length
              · rw [if_pos h1, if_pos h1]; exact HM.out i h1
              · have h2 : i = os.length := by simp at hi; omega
                subst h2
                rw [if_neg h1, if_neg h1, if_pos rfl]
                exact ⟨k, hlt, rfl, by rw [Nat.sub_self]; rfl⟩
          case measure => simp [intOf]; omega
        · have em : ((fr fs k).m == z) = false := by simpa using hm
          clear hm
          go_wp2
          go_roundw
          case rel => exact ⟨k + 1, os, ws, hlt, by go_num, Lib.hid (by rw [filter_step hlt, em]; exact HO.out), by omega, HM, hs⟩
          case measure => simp [intOf]; omega
      · obtain rfl : k = fs.length := by omega
        have HO2 : Hid (os = fs.filter fun f => f.m == z) := by have h := HO.out; rw [List.take_length] at h; exact h
        have HJO : Hid (joinF os z = joinF fs z) := by unfold Hid; rw [HO2.out]; exact joinF_own fs z
        have HGO : Hid (goodF os) := by
          rw [HO2.out, goodF_mem]
          exact fun f hf => goodF_mem.1 HG.out f (List.mem_filter.1 hf).1
        have HRI := Lib.hid (SH.p3 hs : ∀ i, i < fs.length → RdB _ (vs i) (fr fs i).d)
        go_wp2_with (first | (at_builtin; refine wp_appMX rfl rfl 34 48 4 (.agg #[.int .i64 0, .int .i64 0, .bool false, .slice none 0 0]) Try.underlying23 info_frag rfl (by decide) rfl hsA rfl (OwnM.rd hsA.p3) (fun i j hi hj => one_frC HRI.out hi hj) (by omega) (by unfold maxLen; omega) ?_; intro v8 w8 hsB) | (at_builtin; refine wp_appMX rfl rfl 34 48 4 (.agg #[.int .i64 0, .int .i64 0, .bool false, .slice none 0 0]) Try.underlying23 info_frag rfl (by decide) rfl (hs.ownEmptyM 4 (by decide) 34 (fun _ _ => undef)) rfl ((OwnM.rd hs.p2).below (by decide) ((Below.refl _ _).alloc (Nat.le_refl _) _)) (fun i j hi hj => one_frC HRI.out hi hj) (by omega) (by unfold maxLen; omega) ?_; intro v7 w7 hsA))
        have hs := hsB.congrM (c' := frC (fs ++ fs) (catV vs vs fs.length)) (fun i j _ _ => by rw [← frC_cat]; simp [catC])
        rw [show 0 + fs.length + fs.length = (fs ++ fs).length by simp] at hs
        clear hsA hsB
        have hRd : RdF _ _ (catV vs vs fs.length) (fs ++ fs) := ⟨OwnM.rd hs.p0, fun i hi => by
          have h4 := (SH.p4 hs : ∀ i, i < fs.length → RdB _ (vs i) (fr fs i).d)
          rw [List.length_append] at hi
          rw [fr_cat]; unfold catV
          by_cases h1 : i < fs.length
          · rw [if_pos h1, if_pos h1]; exact h4 i h1
          · rw [if_neg h1, if_neg h1]; exact h4 _ (by omega)⟩
        have HRd := Lib.hid hRd
        clear hRd
        refine (SH.ownT (xs := (joinF (fs ++ fs) z).1) (b := (joinF (fs ++ fs) z).2) hs (by repeat' (first | with_reducible exact Below.refl _ _ | with_reducible assumption | with_reducible refine below_drewN ?_ _ | with_reducible refine Below.drew ?_ | with_reducible refine Below.alloc ?_ ?_ _ | with_reducible refine Below.setCell ?_ ?_ _ | go_size)) fun hs => implJoin_c _ _ (fs ++ fs) z _ (HRd.out.below (by repeat' (first | with_reducible exact Below.refl _ _ | with_reducible assumption | with_reducible refine below_drewN ?_ _ | with_reducible refine Below.drew ?_ | with_reducible refine Below.alloc ?_ ?_ _ | with_reducible refine Below.setCell ?_ ?_ _ | go_size))) (goodF_wf (goodF_cat HG.out HG.out)) hzw (lenF_good (goodF_cat HG.out HG.out) (by simp; omega))).mono ?_
        rintro e w21 ⟨vA, rfl, hs⟩
        rw [joinF_twice, HJ.out] at hs
        rw [joinF_twice, HJ.out]
        have HRO : Hid (RdF _ _ ws os) := Lib.hid ⟨OwnM.rd hs.p2, fun i hi => by
          obtain ⟨j, hj, e1, e2⟩ := HM.out i hi
          rw [e1, e2]
          exact (SH.p5 hs : ∀ i, i < fs.length → RdB _ (vs i) (fr fs i).d) j hj⟩
        go_wp2_with fail
        refine (SH.ownT (xs := (joinF os z).1) (b := (joinF os z).2) hs (by repeat' (first | with_reducible exact Below.refl _ _ | with_reducible assumption | with_reducible refine below_drewN ?_ _ | with_reducible refine Below.drew ?_ | with_reducible refine Below.alloc ?_ ?_ _ | with_reducible refine Below.setCell ?_ ?_ _ | go_size)) fun hs => implJoin_c _ _ os z _ (HRO.out.below (by repeat' (first | with_reducible exact Below.refl _ _ | with_reducible assumption | with_reducible refine below_drewN ?_ _ | with_reducible refine Below.drew ?_ | with_reducible refine Below.alloc ?_ ?_ _ | with_reducible refine Below.setCell ?_ ?_ _ | go_size))) (goodF_wf HGO.out) hzw (lenF_good HGO.out (by omega))).mono ?_
        rintro e w22 ⟨vB, rfl, hs⟩
        rw [HJO.out, HJ.out] at hs
        rw [HJO.out, HJ.out]
        have hc1 := conv_rd (OwnK.rd hs.p0)
        have hc2 := conv_rd (OwnK.rd hs.p1)
        have hc3 := conv_rd (OwnK.rd hs.p4)
        rw [HS.out] at hc1 hc2 hc3
        simp only [List.length_nil] at hc3
        go_wp2_with fail
        refine (SH.ret hs (by repeat' (first | with_reducible exact Below.refl _ _ | with_reducible assumption | with_reducible refine below_drewN ?_ _ | with_reducible refine Below.drew ?_ | with_reducible refine Below.alloc ?_ ?_ _ | with_reducible refine Below.setCell ?_ ?_ _ | go_size)) fun hs => alive_c _).mono ?_
        rintro e w23 ⟨v, rfl, rfl, hs⟩
        go_wp2
        go_ret
        exact Ret.mk1 rfl (SH.done (by first | exact hs | exact (hs).alloc _ | exact ((hs).alloc _).alloc _ | exact (((hs).alloc _).alloc _).alloc _ | exact ((((hs).alloc _).alloc _).alloc _).alloc _ | exact (hs).drew | exact ((hs).alloc _).drew | exact (((hs).alloc _).alloc _).drew | exact ((((hs).alloc _).alloc _).alloc _).drew | exact (((((hs).alloc _).alloc _).alloc _).alloc _).drew | exact (hs).drewN _ | exact ((hs).alloc _).drewN _ | exact (((hs).alloc _).alloc _).drewN _ | exact ((((hs).alloc _).alloc _).alloc _).drewN _ | exact (((((hs).alloc _).alloc _).alloc _).alloc _).drewN _))
  · have hs := hs.drop0
    go_wp2
    clear hc1 hc2 e3 hno
    have hs := hs.ownEmptyM 4 (by decide) 34 (frC [] (fun _ => undef))
    go_loopw [9, 10] (fun o i wr => ∃ (k : Nat) (os : List Frag) (ws : Nat → Value), k ≤ fs.length ∧ i = .int .i64 k ∧ Hid (os = (fs.take k).filter fun f => f.m == z) ∧ os.length ≤ k ∧ Hid (∀ i, i < os.length → ∃ j, j < fs.length ∧ ws i = vs j ∧ fr os i = fr fs j) ∧ SH none w wr [ownMP 4 34 o os.length (frC os ws), ownP .u8 5 (.slice aD (J).length cD) (J), ownMP 4 34 (.slice a1 fs.length c1) fs.length (frC fs vs), rdInn vs fs, rdP .u8 (.slice ac c.length cc) c]) (fun _ i _ => fs.length - (intOf i).toNat)
    case atStart => exact ⟨0, [], _, Nat.zero_le _, rfl, Lib.hid (by simp), Nat.le_refl _, Lib.hid (fun i h => absurd h (Nat.not_lt_zero _)), hs⟩
    case round =>
      clear hs
      obtain ⟨k, os, ws, hk, rfl, HO, hol, HM, hs⟩ := hrel
      by_cases hlt : k < fs.length
      · obtain ⟨bL, oL, rfl, -⟩ := (OwnM.rd hs.p2).at_ hlt
        obtain ⟨av, cv, hvk, -⟩ := (SH.p3 hs : ∀ i, i < fs.length → RdB _ (vs i) (fr fs i).d) k hlt |>.form
        have HVK := Lib.hid hvk
        obtain ⟨hj0, hj1, hj2, hj3⟩ := frag_cellsV hvk (OwnM.rd hs.p2) hlt
        clear hvk
        by_cases hm : (fr fs k).m = z
        · have em : ((fr fs k).m == z) = true := by simpa using hm
          clear hm
          go_wp2_with (at_builtin; refine wp_app1MS rfl rfl 34 48 4 (.agg #[.int .i64 0, .int .i64 0, .bool false, .slice none 0 0]) Try.underlying23 info_frag rfl (by decide) (rowF (fr fs k) (.slice av (fr fs k).d.length cv)) rfl (hs.alloc _) rfl (fun i hi => by have : i = 0 ∨ i = 1 ∨ i = 2 ∨ i = 3 := (by omega); rcases this with rfl | rfl | rfl | rfl <;> exact World.cell?_alloc_at _ _ _ _ rfl) (fun i hi => one_cell hi) (by omega) (by unfold maxLen; omega) ?_; intro v9 w9 hs)
          have hs := hs.congrM (c' := frC (insF os os.length (fr fs k)) (insV ws os.length (vs k))) (fun i j2 hi _ => by rw [HVK.out]; exact ins_end hi j2)
          rw [insF_end, show os.length + 1 = (os ++ [fr fs k]).length by simp] at hs
          go_roundw
          case rel =>
            refine ⟨k + 1, os ++ [fr fs k], insV ws os.length (vs k), hlt, by go_num, Lib.hid ?_, by simp; omega, Lib.hid ?_, hs⟩
            · rw [filter_step hlt, if_pos em, HO.out]
            · intro i hi
              rw [fr_cat]
              unfold insV
              by_cases h1 : i < os.length
              · rw [if_pos h1, if_pos h1]; exact HM.out i h1
              · have h2 : i = os.length := by simp at hi; omega
                subst h2
                rw [if_neg h1, if_neg h1, if_pos rfl]
                exact ⟨k, hlt, rfl, by rw [Nat.sub_self]; rfl⟩
          case measure => simp [intOf]; omega
        · have em : ((fr fs k).m == z) = false := by simpa using hm
          clear hm
          go_wp2
          go_roundw
          case rel => exact ⟨k + 1, os, ws, hlt, by go_num, Lib.hid (by rw [filter_step hlt, em]; exact HO.out), by omega, HM, hs⟩
          case measure => simp [intOf]; omega
      · obtain rfl : k = fs.length := by omega
        have HO2 : Hid (os = fs.filter fun f => f.m == z) := by have h := HO.out; rw [List.take_length] at h; exact h
        have HJO : Hid (joinF os z = joinF fs z) := by unfold Hid; rw [HO2.out]; exact joinF_own fs z
        have HGO : Hid (goodF os) := by
          rw [HO2.out, goodF_mem]
          exact fun f hf => goodF_mem.1 HG.out f (List.mem_filter.1 hf).1
        have HRI := Lib.hid (SH.p3 hs : ∀ i, i < fs.length → RdB _ (vs i) (fr fs i).d)
        go_wp2_with (first | (at_builtin; refine wp_appMX rfl rfl 34 48 4 (.agg #[.int .i64 0, .int .i64 0, .bool false, .slice none 0 0]) Try.underlying23 info_frag rfl (by decide) rfl hsA rfl (OwnM.rd hsA.p3) (fun i j hi hj => one_frC HRI.out hi hj) (by omega) (by unfold maxLen; omega) ?_; intro v8 w8 hsB) | (at_builtin; refine wp_appMX rfl rfl 34 48 4 (.agg #[.int .i64 0, .int .i64 0, .bool false, .slice none 0 0]) Try.underlying23 info_frag rfl (by decide) rfl (hs.ownEmptyM 4 (by decide) 34 (fun _ _ => undef)) rfl ((OwnM.rd hs.p2).below (by decide) ((Below.refl _ _).alloc (Nat.le_refl _) _)) (fun i j hi hj => one_frC HRI.out hi hj) (by omega) (by unfold maxLen; omega) ?_; intro v7 w7 hsA))
        have hs := hsB.congrM (c' := frC (fs ++ fs) (catV vs vs fs.length)) (fun i j _ _ => by rw [← frC_cat]; simp [catC])
        rw [show 0 + fs.length + fs.length = (fs ++ fs).length by simp] at hs
        clear hsA hsB
        have hRd : RdF _ _ (catV vs vs fs.length) (fs ++ fs) := ⟨OwnM.rd hs.p0, fun i hi => by
          have h4 := (SH.p4 hs : ∀ i, i < fs.length → RdB _ (vs i) (fr fs i).d)
          rw [List.length_append] at hi
          rw [fr_cat]; unfold catV
          by_cases h1 : i < fs.length
          · rw [if_pos h1, if_pos h1]; exact h4 i h1
          · rw [if_neg h1, if_neg h1]; exact h4 _ (by omega)⟩
        have HRd := Lib.hid hRd
        clear hRd
        refine (SH.ownT (xs := (joinF (fs ++ fs) z).1) (b := (joinF (fs ++ fs) z).2) hs (by repeat' (first | with_reducible exact Below.refl _ _ | with_reducible assumption | with_reducible refine below_drewN ?_ _ | with_reducible refine Below.drew ?_ | with_reducible refine Below.alloc ?_ ?_ _ | with_reducible refine Below.setCell ?_ ?_ _ | go_size)) fun hs => implJoin_c _ _ (fs ++ fs) z _ (HRd.out.below (by repeat' (first | with_reducible exact Below.refl _ _ | with_reducible assumption | with_reducible refine below_drewN ?_ _ | with_reducible refine Below.drew ?_ | with_reducible refine Below.alloc ?_ ?_ _ | with_reducible refine Below.setCell ?_ ?_ _ | go_size))) (goodF_wf (goodF_cat HG.out HG.out)) hzw (lenF_good (goodF_cat HG.out HG.out) (by simp; omega))).mono ?_
        rintro e w21 ⟨vA, rfl, hs⟩
        rw [joinF_twice, HJ.out] at hs
        rw [joinF_twice, HJ.out]
        have HRO : Hid (RdF _ _ ws os) := Lib.hid ⟨OwnM.rd hs.p2, fun i hi => by
          obtain ⟨j, hj, e1, e2⟩ := HM.out i hi
          rw [e1, e2]
          exact (SH.p5 hs : ∀ i, i < fs.length → RdB _ (vs i) (fr fs i).d) j hj⟩
        go_wp2_with fail
        refine (SH.ownT (xs := (joinF os z).1) (b := (joinF os z).2) hs (by repeat' (first | with_reducible exact Below.refl _ _ | with_reducible assumption | with_reducible refine below_drewN ?_ _ | with_reducible refine Below.drew ?_ | with_reducible refine Below.alloc ?_ ?_ _ | with_reducible refine Below.setCell ?_ ?_ _ | go_size)) fun hs => implJoin_c _ _ os z _ (HRO.out.below (by repeat' (first | with_reducible exact Below.refl _ _ | with_reducible assumption | with_reducible refine below_drewN ?_ _ | with_reducible refine Below.drew ?_ | with_reducible refine Below.alloc ?_ ?_ _ | with_reducible refine Below.setCell ?_ ?_ _ | go_size))) (goodF_wf HGO.out) hzw (lenF_good HGO.out (by omega))).mono ?_
        rintro e w22 ⟨vB, rfl, hs⟩
        rw [HJO.out, HJ.out] at hs
        rw [HJO.out, HJ.out]
        have hc1 := conv_rd (OwnK.rd hs.p0)
        have hc2 := conv_rd (OwnK.rd hs.p1)
        have hc3 := conv_rd (OwnK.rd hs.p4)
        rw [HS.out] at hc1 hc2 hc3
        go_wp2_with fail
        refine (SH.ret hs (by repeat' (first | with_reducible exact Below.refl _ _ | with_reducible assumption | with_reducible refine below_drewN ?_ _ | with_reducible refine Below.drew ?_ | with_reducible refine Below.alloc ?_ ?_ _ | with_reducible refine Below.setCell ?_ ?_ _ | go_size)) fun hs => alive_c _).mono ?_
        rintro e w23 ⟨v, rfl, rfl, hs⟩
        go_wp2
        go_ret
        exact Ret.mk1 rfl (SH.done (by first | exact hs | exact (hs).alloc _ | exact ((hs).alloc _).alloc _ | exact (((hs).alloc _).alloc _).alloc _ | exact ((((hs).alloc _).alloc _).alloc _).alloc _ | exact (hs).drew | exact ((hs).alloc _).drew | exact (((hs).alloc _).alloc _).drew | exact ((((hs).alloc _).alloc _).alloc _).drew | exact (((((hs).alloc _).alloc _).alloc _).alloc _).drew | exact (hs).drewN _ | exact ((hs).alloc _).drewN _ | exact (((hs).alloc _).alloc _).drewN _ | exact ((((hs).alloc _).alloc _).alloc _).drewN _ | exact (((((hs).alloc _).alloc _).alloc _).alloc _).drewN _))
end Go.Proofs.Ytmhlnelnjnhcoaa
