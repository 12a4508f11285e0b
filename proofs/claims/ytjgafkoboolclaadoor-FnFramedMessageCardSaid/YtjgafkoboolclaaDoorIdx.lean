import Derived.Test.YtjgafkoboolclaaDoorProg
import Derived.Test.YtjgafkoboolclaaDoorLib
import Derived.Test.YtjgafkoboolclaaDoorMem
import Derived.Test.YtjgafkoboolclaaDoorSym
import Derived.Test.YtjgafkoboolclaaDoorInts
import Derived.Test.YtjgafkoboolclaaDoorFrag
import Derived.Test.YtjgafkoboolclaaDoorSplit
import Derived.WideKeyArgs
import Derived.DeepKeys4
import Derived.MapViews
import Derived.Maps.Own
import Derived.Maps.OwnOps
import Derived.Maps.OwnSet
import Derived.Maps.Views
import Derived.Maps.Keyed
namespace Go.Proofs.YtjgafkoboolclaaDoor
open Go.RowKit Go.Maps

/-! The index of the first fragment of a part: a map with keys of two numbers. -/
abbrev kT : TypeId := 63
abbrev mT : TypeId := 59
theorem laidX : laidOutB Tryd.prog = true := by kernel_rfl
theorem keyedX : Keyed Tryd.prog kT := Keyed.of_law (deep_law_laid laidX (m := 2) (by omega) (show (kT : TypeId) < Tryd.prog.types.size from of_decide_eq_true (by kernel_rfl)) (by kernel_rfl) (by rw [show Tryd.prog.underlying kT = _ from Tryd.underlying63]))
def pK (m p : Int) : Value := .agg #[.int .i64 m, .int .i64 p]
def kl (m p : Int) : Lit := .string (keyBytes [.int .i64 m, .int .i64 p])
theorem kl_key {m p : Int} (hm : (Lit.int .i64 m).wf = true) (hp : (Lit.int .i64 p).wf = true) : keyOf Tryd.prog kT (pK m p) = some (kl m p) := by
  have hc : Tryd.prog.cellsOf kT = 2 := by kernel_rfl
  have hi : Tryd.prog.cellsOf 3 = 1 := by kernel_rfl
  have hty : Tryd.prog.keyType kT = true := by kernel_rfl
  have hf : (pK m p).formed Tryd.prog kT = true := by simp [pK, Value.formed, show Tryd.prog.underlying kT = _ from Tryd.underlying63, hc]
  obtain ⟨d, hd⟩ : ∃ d, Tryd.prog.types.size = d + 1 := by
    have h1 : (kT : TypeId) < Tryd.prog.types.size := of_decide_eq_true (by kernel_rfl)
    exact ⟨Tryd.prog.types.size - 1, by have : 0 < Tryd.prog.types.size := Nat.lt_of_le_of_lt (Nat.zero_le _) h1; omega⟩
  have hl : Tryd.prog.keyLits (Tryd.prog.types.size + 1) kT [.int .i64 m, .int .i64 p] = some [.int .i64 m, .int .i64 p] := by
    rw [hd]
    simp only [Program.keyLits, show Tryd.prog.underlying kT = _ from Tryd.underlying63]
    simp [hc, hi, Tryd.underlying3, hm, hp, Program.keyLits]
  unfold keyOf
  rw [show Tryd.prog.underlying kT = _ from Tryd.underlying63]
  simp only [hty, hf, Bool.and_self, if_true]
  rw [show (pK m p).cells.toList = [.int .i64 m, .int .i64 p] from rfl, hl]
  rfl
theorem kl_inj {m p m' p' : Int} (h1 : wfI m) (h2 : wfI p) (h3 : wfI m') (h4 : wfI p') (h : kl m p = kl m' p') : m = m' ∧ p = p' := by
  have a := kl_key h1 h2
  have b := kl_key h3 h4
  rw [← h] at b
  have := keyedX.inj a b
  simpa [pK] using this

/-- the first of the fragments ahead of n with this message and part -/
def look (fs : List Frag) (m p : Int) : Nat → Option Nat
  | 0 => none
  | n + 1 => match look fs m p n with
    | some i => some i
    | none => if (fr fs n).m = m ∧ (fr fs n).p = p then some n else none
theorem look_some {fs : List Frag} {m p : Int} : ∀ {n i : Nat}, look fs m p n = some i → i < n ∧ (fr fs i).m = m ∧ (fr fs i).p = p
  | 0, _, h => by cases h
  | n + 1, i, h => by
    unfold look at h
    split at h
    · next j hj =>
      cases h
      have := look_some hj
      exact ⟨by omega, this.2⟩
    · split at h
      · next e => cases h; exact ⟨by omega, e⟩
      · cases h
theorem look_none {fs : List Frag} {m p : Int} : ∀ {n : Nat}, look fs m p n = none → ∀ i, i < n → ¬ ((fr fs i).m = m ∧ (fr fs i).p = p)
  | 0, _, i, h => absurd h (Nat.not_lt_zero _)
  | n + 1, h, i, hi => by
    unfold look at h
    split at h
    · cases h
    · next hn =>
      split at h
      · cases h
      · next e =>
        rcases Nat.lt_succ_iff_lt_or_eq.1 hi with h1 | rfl
        · exact look_none hn i h1
        · exact e
theorem look_step {fs : List Frag} {m p : Int} {n i : Nat} (h : look fs m p n = some i) : look fs m p (n + 1) = some i := by simp only [look, h]
theorem look_step0 {fs : List Frag} {m p : Int} {n : Nat} (h : look fs m p n = none) : look fs m p (n + 1) = if (fr fs n).m = m ∧ (fr fs n).p = p then some n else none := by simp only [look, h]
/-- what a look-up gives: the number, or 0 -/
def lookV (fs : List Frag) (m p : Int) (n : Nat) : Int := match look fs m p n with | some i => (i : Int) | none => 0
def lookB (fs : List Frag) (m p : Int) (n : Nat) : Bool := (look fs m p n).isSome

theorem wfOf {n : Int} (h0 : -9223372036854775808 ≤ n) (h1 : n ≤ 9223372036854775807) : (Lit.int .i64 n).wf = true := by
  simp only [Lit.wf, IntKind.min, IntKind.max, IntKind.signed, IntKind.bits, Bool.and_eq_true, decide_eq_true_eq]
  simp
  omega
theorem wfNat (n : Nat) (h : n ≤ 4000000) : (Lit.int .i64 (n : Int)).wf = true := wfOf (by omega) (by omega)
abbrev DU := DataW Unit
def nat64 (i : Nat) : DU := .lit (.int .i64 (i : Int))
/-- block g holds the index of the first n fragments -/
def Idx (w : World) (g n : Nat) (fs : List Frag) : Prop :=
  ∃ D : DU, w.ownsMap Tryd.prog kT (plainElem (H := Unit) Tryd.prog 3) g n D ∧ n ≤ fs.length ∧ ∀ m p, wfI m → wfI p →
    (look fs m p n = none → Maps.has D (kl m p) = false) ∧ ∀ i, look fs m p n = some i → Maps.has D (kl m p) = true ∧ ∀ z, D.atKey (kl m p) z = nat64 i
theorem Idx.heap {w w' : World} {g n : Nat} {fs : List Frag} (h : Idx w g n fs) (hh : w'.heap[g]? = w.heap[g]?) : Idx w' g n fs := by
  obtain ⟨D, ⟨es, clock, hb, r⟩, h2⟩ := h
  exact ⟨D, ⟨es, clock, hh.trans hb, r⟩, h2⟩
def idxP (g n : Nat) (fs : List Frag) : Part where
  says w := Idx w g n fs
  on q := q = g
  wr q := q = g
  sub _ h := h
  lt w h q hq := by subst hq; exact h.choose_spec.1.lt
  keep w w' h hk := h.heap (hk g rfl)
theorem Idx.made (w : World) (fs : List Frag) : Idx (w.alloc (.map #[] 0)) w.heap.size 0 fs :=
  ⟨.map [], World.ownsMap_made w _ _ _, Nat.zero_le _, fun m p _ _ => ⟨fun _ => rfl, fun i h => by cases h⟩⟩
theorem Idx.skip {w : World} {g n : Nat} {fs : List Frag} (h : Idx w g n fs) (hn : n < fs.length) (hb : lookB fs (fr fs n).m (fr fs n).p n = true) : Idx w g (n + 1) fs := by
  obtain ⟨D, h1, _, h2⟩ := h
  refine ⟨D, h1.mono (Nat.le_succ _), hn, fun m p hm hp => ⟨fun h => ?_, fun i h => ?_⟩⟩
  · refine (h2 m p hm hp).1 ?_
    cases e : look fs m p n with
    | none => rfl
    | some i => rw [look_step e] at h; cases h
  · cases e : look fs m p n with
    | none =>
      rw [look_step0 e] at h
      split at h
      · next e1 =>
        obtain ⟨rfl, rfl⟩ := e1
        rw [lookB, e] at hb; cases hb
      · cases h
    | some j =>
      rw [look_step e] at h; cases h
      exact (h2 m p hm hp).2 _ e
theorem Idx.put {w' : World} {g n : Nat} {fs : List Frag} (hw : wfF fs) (hn : n < fs.length) (D : DU) (h1 : ∀ m p, wfI m → wfI p →
    (look fs m p n = none → Maps.has D (kl m p) = false) ∧ ∀ i, look fs m p n = some i → Maps.has D (kl m p) = true ∧ ∀ z, D.atKey (kl m p) z = nat64 i)
    (hmap : Maps.IsMap D) (h2 : w'.ownsMap Tryd.prog kT (plainElem (H := Unit) Tryd.prog 3) g (n + 1) (D.put (kl (fr fs n).m (fr fs n).p) (nat64 n))) (hb : lookB fs (fr fs n).m (fr fs n).p n = false) : Idx w' g (n + 1) fs := by
  have hno : look fs (fr fs n).m (fr fs n).p n = none := by
    cases e : look fs (fr fs n).m (fr fs n).p n with
    | none => rfl
    | some i => rw [lookB, e] at hb; cases hb
  have hwn := hw n hn
  have hkey := keyedX.key (kl_key hwn.1 hwn.2)
  refine ⟨_, h2, hn, fun m p hm hp => ?_⟩
  by_cases e : (fr fs n).m = m ∧ (fr fs n).p = p
  · obtain ⟨rfl, rfl⟩ := e
    refine ⟨fun h => ?_, fun i h => ?_⟩
    · rw [look_step0 hno, if_pos ⟨rfl, rfl⟩] at h; cases h
    · rw [look_step0 hno, if_pos ⟨rfl, rfl⟩] at h; cases h
      exact ⟨has_put_same hmap hkey _, fun z => atKey_put_same hmap hkey _ _⟩
  · have hne : kl m p ≠ kl (fr fs n).m (fr fs n).p := fun h => e (by
      obtain ⟨a, b⟩ := kl_inj hm hp hwn.1 hwn.2 h
      exact ⟨a.symm, b.symm⟩)
    have hl : look fs m p (n + 1) = look fs m p n := by
      cases e2 : look fs m p n with
      | none => rw [look_step0 e2, if_neg e]
      | some i => exact look_step e2
    rw [hl]
    refine ⟨fun h => ?_, fun i h => ?_⟩
    · rw [has_put_other hne]; exact (h1 m p hm hp).1 h
    · rw [has_put_other hne]
      exact ⟨((h1 m p hm hp).2 i h).1, fun z => by rw [atKey_put_other hne]; exact ((h1 m p hm hp).2 i h).2 z⟩

section
variable {w : World} {ops : Array Oper} {rest : List Oper} {o : Oper} {a : Act} {Q : Exit → Act → World → Prop}
theorem zeroX (w : World) : (zeroValue 3).run Tryd.prog w = .ok (.int .i64 0) w := by kernel_rfl
/-- 'i, ok := parts[partKey{m, p}]' -/
theorem wp_lookIdx (hg : o.guard = none) (m x : Operand) (hop : o.op = Op.lookup mT m x true) {g n : Nat} {fs : List Frag} (hidx : Idx w g n fs)
    (hm : a.eval m = .map (some g)) (M P : Int) (hx : a.eval x = pK M P) (h1 : wfI M) (h2 : wfI P)
    (hK : wpList Tryd.prog ops Q rest (a.put o.dst (.tuple #[.int .i64 (lookV fs M P n), .bool (lookB fs M P n)])) w) : wpList Tryd.prog ops Q (o :: rest) a w := by
  obtain ⟨D, ho, -, hD⟩ := hidx
  refine wpList_lookup_own_ok_int w hg m x mT hop kT 3 .i64 keyedX Tryd.underlying59 Tryd.underlying3 (zeroX w) g n D hm ho (pK M P) (kl M P) hx (kl_key h1 h2) ?_
  intro c hc _
  have hh := hD M P h1 h2
  have e1 : lookV fs M P n = c ∧ lookB fs M P n = Maps.has D (kl M P) := by
    cases e : look fs M P n with
    | none =>
      have hno := hh.1 e
      rw [atKey_of_not_has hno] at hc
      refine ⟨?_, by rw [lookB, e, hno]; rfl⟩
      unfold lookV; rw [e]
      injection hc with hc; injection hc
    | some i =>
      obtain ⟨hy, hat⟩ := hh.2 i e
      rw [hat] at hc
      refine ⟨?_, by rw [lookB, e, hy]; rfl⟩
      unfold lookV; rw [e]
      injection hc with hc; injection hc
  rw [e1.1, e1.2] at hK
  exact hK
/-- 'parts[key] = i' -/
theorem wp_putIdx {row : Option Nat} {w0 : World} {I : List Part} (hg : o.guard = none) (m x v : Operand) (hop : o.op = Op.mapUpdate mT m x v) {g n : Nat} {fs : List Frag} (hs : SH row w0 w (idxP g n fs :: I)) (hw : wfF fs) (hn : n < fs.length) (hl : fs.length ≤ 4000000)
    (hm : a.eval m = .map (some g)) (hx : a.eval x = pK (fr fs n).m (fr fs n).p) (hv : a.eval v = .int .i64 (n : Int)) (hb : lookB fs (fr fs n).m (fr fs n).p n = false)
    (hK : ∀ w', SH row w0 w' (idxP g (n + 1) fs :: I) → wpList Tryd.prog ops Q rest (a.put o.dst undef) w') : wpList Tryd.prog ops Q (o :: rest) a w := by
  have hidx : Idx w g n fs := hs.p0
  obtain ⟨D, ho, -, hD⟩ := hidx
  have hwn := hw n hn
  refine wpList_mapUpdate_in w hg m x v mT hop kT 3 keyedX Tryd.underlying59 (plainElem (H := Unit) Tryd.prog 3) g n D hm ho (by unfold maxLen; omega) _ _ (kl (fr fs n).m (fr fs n).p) hx hv (kl_key hwn.1 hwn.2) (nat64 n) [] (plainElem_int Tryd.underlying3 (wfNat n (by omega))) ?_
  intro w' h1 h2
  refine hK w' (hs.write (q := idxP g (n + 1) fs) h2.grown (fun q e => by cases e; rfl) (Idx.put hw hn D hD ho.isMap h1 hb) (fun q h => .inl h) (fun q h => .inl h))
end

theorem run_makeX (w : World) (n : Nat) : (Instr.makeMap mT (some (.int .i64 (n : Int)))).run Tryd.prog w = .ok (.map (some w.heap.size)) (w.alloc (.map #[] 0)) := by
  have hu := run_underlying (P := Tryd.prog) (w := w) Tryd.underlying59
  simp [Instr.makeMap, hu, Result.andThen, asInt, asIntOf]
theorem SH.idx {w0 w : World} {row : Option Nat} {I : List Part} (hs : SH row w0 w I) (fs : List Frag) : SH row w0 (w.alloc (.map #[] 0)) (idxP w.heap.size 0 fs :: I) :=
  hs.push ((Below.refl _ _).alloc (Nat.le_refl _) _) (Idx.made w fs) (fun g e => by cases e; exact Nat.le_refl _)

set_option maxHeartbeats 1000000 in
theorem implParts_c (va : Value) (vs : Nat → Value) (fs : List Frag) (w : World) (h : RdF w va vs fs) (hw : wfF fs) (hl : fs.length ≤ 4000000) :
    Calls Tryd.prog 46 #[va] w (fun e w' => ∃ g, e = .returned (.map (some g)) ∧ SH none w w' [idxP g fs.length fs]) := by
  obtain ⟨a, ca, rfl, ml⟩ := h.rows.form
  have hs := SH.start w [rdFP (.slice a fs.length ca) vs fs] (by simp only [List.forall_mem_cons]; exact ⟨⟨h, rdFP_wr⟩, by simp⟩)
  have HW := Lib.hid hw
  clear h hw
  have hmm := run_makeX w fs.length
  go_enter Tryd.func46, Tryd.ntmps46
  go_wp2
  have hs := hs.idx fs
  generalize hB : w.heap.size = B at *
  go_loopw [14] (fun i wr => ∃ k : Nat, k ≤ fs.length ∧ i = .int .i64 k ∧ SH none w wr [idxP B k fs, rdFP (.slice a fs.length ca) vs fs]) (fun i _ => fs.length - (intOf i).toNat)
  case atStart => exact ⟨0, Nat.zero_le _, rfl, hs⟩
  case round =>
    obtain ⟨k, hk, rfl, hs⟩ := hrel
    by_cases hlt : k < fs.length
    · obtain ⟨b, off, rfl, hc⟩ := (SH.p1 hs : RdF _ _ _ _).rows.at_ hlt
      have hc0 : wr.cell? ⟨b, off + k * 4, none⟩ = some (.int .i64 (fr fs k).m) := hc 0 (by decide)
      have hc1 : wr.cell? ⟨b, off + k * 4 + 1, none⟩ = some (.int .i64 (fr fs k).p) := hc 1 (by decide)
      have hc2 : wr.cell? ⟨b, off + k * 4 + 2, none⟩ = some (.bool (fr fs k).l) := hc 2 (by decide)
      obtain ⟨ad, cd, hvk, -⟩ := ((SH.p1 hs : RdF _ _ _ _).each k hlt).form
      have hc3 : wr.cell? ⟨b, off + k * 4 + 3, none⟩ = some (.slice ad (fr fs k).d.length cd) := by rw [← hvk]; exact hc 3 (by decide)
      clear hc hvk
      have hwk := HW.out k hlt
      obtain ⟨hw1, hw2⟩ := hwk
      obtain ⟨V, hV⟩ : ∃ V, lookV fs (fr fs k).m (fr fs k).p k = V := ⟨_, rfl⟩
      cases hb : lookB fs (fr fs k).m (fr fs k).p k
      · go_wp2_with (first | (at_lookup; refine wp_lookIdx rfl _ _ rfl ((hs.alloc _).alloc _).p0 rfl (fr fs k).m (fr fs k).p rfl hw1 hw2 ?_; rw [hV, hb]) | (at_mapUpdate; refine wp_putIdx rfl _ _ _ rfl ((hs.alloc _).alloc _) HW.out hlt hl rfl rfl rfl hb ?_; intro w3 hs3))
        go_roundw
        case rel => exact ⟨k + 1, hlt, by go_num, hs3⟩
        case measure => simp [intOf]; omega
      · go_wp2_with (at_lookup; refine wp_lookIdx rfl _ _ rfl ((hs.alloc _).alloc _).p0 rfl (fr fs k).m (fr fs k).p rfl hw1 hw2 ?_; rw [hV, hb])
        go_roundw
        case rel => exact ⟨k + 1, hlt, by go_num, ((hs.alloc _).alloc _).as (Idx.skip (SH.p0 ((hs.alloc _).alloc _)) hlt hb) (fun _ h => h) (fun _ h => h)⟩
        case measure => simp [intOf]; omega
    · obtain rfl : k = fs.length := by omega
      go_wp2
      go_ret
      exact ⟨_, rfl, hs.drop1⟩
end Go.Proofs.YtjgafkoboolclaaDoor
