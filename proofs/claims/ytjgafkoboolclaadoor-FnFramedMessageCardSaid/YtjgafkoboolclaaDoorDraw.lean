import Derived.Test.YtjgafkoboolclaaDoorProg
import Derived.Test.YtjgafkoboolclaaDoorSym
import Derived.Orders
import Derived.Great.BuildSlice
import Derived.Tactics
namespace Go.Proofs.YtjgafkoboolclaaDoor
open Go.RowKit

/-! A region that draws its order, step by step: what each operation leaves, whatever order is drawn. -/
/-- a new block of n numbers in lo..hi -/
def litP (B n : Nat) (lo hi : Int) : Part where
  says w := ∃ (c : Array Value) (t : TypeId), w.heap[B]? = some (.cells c t (0, 0)) ∧ ∀ i, i < n → ∃ x : Int, c[i]? = some (.int .i64 x) ∧ lo ≤ x ∧ x ≤ hi
  on g := g = B
  wr g := g = B
  sub _ h := h
  lt w h g hg := by obtain ⟨c, t, h, _⟩ := h; subst hg; exact blk_lt h
  keep w w' h hk := by obtain ⟨c, t, h, h2⟩ := h; exact ⟨c, t, by rw [hk B rfl]; exact h, h2⟩

/-- what is known of a temporary -/
inductive AV where
  | any | int (lo hi : Int) | val (v : Value) | lit (n : Nat) (lo hi : Int) | adr (lo hi : Int)
def AV.ok (L : List Part) : AV → Value → Prop
  | .any, _ => True
  | .int lo hi, v => ∃ n, v = .int .i64 n ∧ lo ≤ n ∧ n ≤ hi
  | .val x, v => v = x
  | .lit n lo hi, v => ∃ B, v = .slice (some ⟨B, 0, none⟩) n n ∧ litP B n lo hi ∈ L
  | .adr lo hi, v => ∃ B q n, q < n ∧ v = .pointer (some ⟨B, q, none⟩) ∧ litP B n lo hi ∈ L
theorem AV.ok.mono {L L' : List Part} {A : AV} {v : Value} (h : A.ok L v) (hL : ∀ p ∈ L, p ∈ L') : A.ok L' v := by
  cases A with
  | any => trivial
  | int lo hi => exact h
  | val x => exact h
  | lit n lo hi => obtain ⟨B, e, hm⟩ := h; exact ⟨B, e, hL _ hm⟩
  | adr lo hi => obtain ⟨B, q, n, hq, e, hm⟩ := h; exact ⟨B, q, n, hq, e, hL _ hm⟩

section
variable {P : Program} {ops : Array Oper} {Q : Exit → Act → World → Prop} {row : Option Nat} {w0 : World} {I : List Part} {g : Nat} {sv : Value} {bs : List Int} {A : Nat → AV}

/-- what one operation does, its operands being as told -/
def StepOK (P : Program) (Q : Exit → Act → World → Prop) (row : Option Nat) (w0 : World) (I : List Part) (g : Nat) (sv : Value) (bs : List Int) (A : Nat → AV) (R : List Nat) (o : Oper) : Prop :=
  ∀ (L : List Part) (m : Nat) (a : Act) (w : World), SH row w0 w (rdrP g m sv bs :: (L ++ I)) → m ≤ 1099511627776 → (∀ t ∈ R, (A t).ok L (a.tmps.getD t undef)) →
    ∀ K : Act → World → Prop, (∀ v L' w', SH row w0 w' (rdrP g (m + 1) sv bs :: (L' ++ L ++ I)) → (∀ d, o.dst = some d → (A d).ok (L' ++ L) v) → K (a.put o.dst v) w') → o.wp P a w K Q

def unl (listed : Array Bool) : Nat → Nat
  | 0 => 0
  | k + 1 => unl listed k + if listed.getD k true then 0 else 1
theorem unl_set_ge {listed : Array Bool} {i : Nat} : ∀ k, k ≤ i → unl (listed.setIfInBounds i true) k = unl listed k
  | 0, _ => rfl
  | k + 1, h => by
    have ih := unl_set_ge (listed := listed) k (by omega : k ≤ i)
    simp only [unl, ih, getD_set_ne (listed := listed) (i := i) (j := k) true (by omega)]
theorem unl_set {listed : Array Bool} {i : Nat} (hi : listed.getD i true = false) : ∀ k, i < k → unl (listed.setIfInBounds i true) k + 1 = unl listed k
  | 0, h => by omega
  | k + 1, h => by
    have hlt : i < listed.size := by
      rcases Nat.lt_or_ge i listed.size with h' | h'
      · exact h'
      · simp [Array.getElem?_eq_none h'] at hi
    rcases Nat.lt_succ_iff_lt_or_eq.1 h with h1 | rfl
    · have ih := unl_set hi k h1
      simp only [unl, getD_set_ne (listed := listed) (i := i) (j := k) true (by omega)]
      omega
    · simp only [unl, unl_set_ge (listed := listed) (i := i) i (Nat.le_refl _), hi]
      simp [hlt]
theorem unl_zero {listed : Array Bool} : ∀ k, unl listed k = 0 → ∀ j, j < k → listed.getD j true = true
  | 0, _, j, h => by omega
  | k + 1, h, j, hj => by
    simp only [unl] at h
    rcases Nat.lt_succ_iff_lt_or_eq.1 hj with h1 | rfl
    · exact unl_zero k (by omega) j h1
    · cases e : listed.getD j true
      · rw [e] at h; simp at h
      · rfl
theorem unl_rep (n : Nat) : ∀ k, k ≤ n → unl (Array.replicate n false) k = k
  | 0, _ => rfl
  | k + 1, h => by simp only [unl, unl_rep n k (by omega)]; simp [show k < n by omega]

def isDst (ops : Array Oper) (t : Nat) : Bool := ops.any fun o => o.dst == some t
/-- the side conditions, as a Bool: no guards; an operation waits only for earlier ones, and for all that makes what it reads -/
def drawChk (ops : Array Oper) (R : Array (List Nat)) : Bool :=
  (List.range ops.size).all fun j =>
    match ops[j]? with
    | none => true
    | some o => o.guard.isNone && o.after.all (fun e => !Region.binds .any e || decide (e.on < j)) &&
      (R.getD j []).all fun t => (List.range ops.size).all fun k => match ops[k]? with
        | none => true
        | some o' => !(o'.dst == some t) || o.after.any fun e => e.on == k && Region.binds .any e

theorem getD_put {a : Act} {d : Option Nat} {v : Value} {t : Nat} (h : d ≠ some t) : (a.put d v).tmps.getD t undef = a.tmps.getD t undef := by
  cases d with
  | none => rfl
  | some d =>
    have : d ≠ t := fun e => h (by rw [e])
    simp [Act.put, Array.getElem?_setIfInBounds_ne this]
theorem getD_put_self {a : Act} {d : Nat} {v : Value} (h : d < a.tmps.size) : (a.put (some d) v).tmps.getD d undef = v := by
  simp [Act.put, h]

/-- the state in the midst of the region -/
structure Mid (ops : Array Oper) (row : Option Nat) (w0 : World) (I : List Part) (g : Nat) (sv : Value) (bs : List Int) (A : Nat → AV) (a0 : Act) (m : Nat) (listed : Array Bool) (a : Act) (w : World) : Prop where
  sh : ∃ L, SH row w0 w (rdrP g m sv bs :: (L ++ I)) ∧ ∀ t, t < a0.tmps.size → isDst ops t = true → (∀ k o, ops[k]? = some o → o.dst = some t → listed.getD k false = true) → (A t).ok L (a.tmps.getD t undef)
  old : ∀ t, isDst ops t = false → a.tmps.getD t undef = a0.tmps.getD t undef
  size : a.tmps.size = a0.tmps.size
  defers : a.defers = a0.defers
  ls : listed.size = ops.size

theorem isDst_of {k : Nat} {o : Oper} {t : Nat} (h : ops[k]? = some o) (hd : o.dst = some t) : isDst ops t = true := by
  unfold isDst
  rw [Array.any_eq_true']
  obtain ⟨hlt, e⟩ := Array.getElem?_eq_some_iff.1 h
  exact ⟨o, e ▸ Array.getElem_mem hlt, by simp [hd]⟩

theorem any_of_mid {R : Array (List Nat)} {a0 : Act} {M : Nat} (hchk : drawChk ops R = true) (hdst : ∀ (o : Oper) t, o ∈ ops → o.dst = some t → t < a0.tmps.size)
    (hA : ∀ t, isDst ops t = false → (A t).ok [] (a0.tmps.getD t undef)) (hR : ∀ k, ∀ t ∈ R.getD k [], t < a0.tmps.size)
    (hstep : ∀ k o, ops[k]? = some o → StepOK P Q row w0 I g sv bs A (R.getD k []) o) (hM : M ≤ 1099511627776)
    (hQ : ∀ a w, Mid ops row w0 I g sv bs A a0 M (Array.replicate ops.size true) a w → Q .normal a w) :
    ∀ (fuel m : Nat) (listed : Array Bool) (a : Act) (w : World), Mid ops row w0 I g sv bs A a0 m listed a w → unl listed ops.size ≤ fuel → m + fuel ≤ M → wpAny P .any ops Q fuel listed a w := by
  have hall : ∀ k o, ops[k]? = some o → o.guard.isNone = true ∧ (∀ e ∈ o.after, Region.binds .any e = true → e.on < k) ∧ ∀ t ∈ R.getD k [], ∀ k' o', ops[k']? = some o' → o'.dst = some t → ∃ e ∈ o.after, e.on = k' ∧ Region.binds .any e = true := by
    intro k o ho
    have hlt : k < ops.size := (Array.getElem?_eq_some_iff.1 ho).1
    have h := List.all_eq_true.1 hchk k (List.mem_range.2 hlt)
    simp only [ho, Bool.and_eq_true] at h
    obtain ⟨⟨h1, h2⟩, h3⟩ := h
    refine ⟨h1, fun e he hb => ?_, fun t ht k' o' ho' hd => ?_⟩
    · have := Array.all_eq_true'.1 h2 e he
      rw [hb] at this
      simpa using this
    · have hlt' : k' < ops.size := (Array.getElem?_eq_some_iff.1 ho').1
      have h4 := List.all_eq_true.1 (List.all_eq_true.1 h3 t ht) k' (List.mem_range.2 hlt')
      simp only [ho', hd, beq_self_eq_true, Bool.not_true, Bool.false_or] at h4
      rw [Array.any_eq_true'] at h4
      obtain ⟨e, he, h5⟩ := h4
      simp only [Bool.and_eq_true, beq_iff_eq] at h5
      exact ⟨e, he, h5.1, h5.2⟩
  have hdone : ∀ (m : Nat) (listed : Array Bool) (a : Act) (w : World), Mid ops row w0 I g sv bs A a0 m listed a w → m ≤ M → Region.ready .any ops listed = [] → Q .normal a w := by
    intro m listed a w hmid hm hr
    have hl : ∀ j, j < ops.size → listed.getD j true = true := by
      intro j
      induction j using Nat.strongRecOn with
      | _ j ih =>
        intro hj
        cases e : listed.getD j true with
        | true => rfl
        | false =>
          exfalso
          have : j ∈ Region.ready .any ops listed := mem_ready.2 ⟨e, ops[j], by simp [hj], fun e' he' hb' => by
            have h1 := (hall j ops[j] (by simp [hj])).2.1 e' he' hb'
            have h2 := ih e'.on h1 (by omega)
            have h3 : e'.on < listed.size := by rw [hmid.ls]; omega
            simp [h3] at h2 ⊢; exact h2⟩
          rw [hr] at this; cases this
    have : listed = Array.replicate ops.size true := by
      apply Array.ext
      · simp [hmid.ls]
      · intro i h1 h2
        have h3 := hl i (by rw [← hmid.ls]; exact h1)
        simp [h1] at h3
        simp [h3]
    subst this
    refine hQ a w { hmid with sh := ?_ }
    obtain ⟨L, hs, hv⟩ := hmid.sh
    exact ⟨L, rdrP_mono hs hm, hv⟩
  intro fuel
  induction fuel with
  | zero =>
    intro m listed a w hmid hu hm
    have hz := unl_zero ops.size (Nat.le_zero.1 hu)
    have hr : Region.ready .any ops listed = [] := by
      apply List.eq_nil_iff_forall_not_mem.2
      intro j hj
      obtain ⟨h1, o, ho, _⟩ := mem_ready.1 hj
      rw [hz j (Array.getElem?_eq_some_iff.1 ho).1] at h1
      cases h1
    exact ⟨hr, hdone m listed a w hmid (by omega) hr⟩
  | succ fuel ih =>
    intro m listed a w hmid hu hm
    refine ⟨fun hr => hdone m listed a w hmid (by omega) hr, fun i hi => ?_⟩
    obtain ⟨hun, o, ho, hbefore⟩ := mem_ready.1 hi
    obtain ⟨hg, hafter, hreads⟩ := hall i o ho
    have hilt : i < ops.size := (Array.getElem?_eq_some_iff.1 ho).1
    have hwant : Region.wanted o (yielded ops a.tmps) = true := by
      cases hgd : o.guard with
      | none => simp [Region.wanted, hgd]
      | some q => rw [hgd] at hg; cases hg
    unfold wpOp
    simp only [ho, hwant, if_true]
    left
    obtain ⟨L, hs, hv⟩ := hmid.sh
    refine hstep i o ho L m a w hs (by omega) ?_ _ ?_
    · intro t ht
      by_cases hd : isDst ops t = true
      · refine hv t (hR i t ht) hd fun k o' ho' hd' => ?_
        obtain ⟨e, he, h1, h2⟩ := hreads t ht k o' ho' hd'
        rw [← h1]; exact hbefore e he h2
      · have hd : isDst ops t = false := by simpa using hd
        rw [hmid.old t hd]
        exact (hA t hd).mono (by simp)
    · intro v L' w' hs' hv'
      refine ih (m + 1) _ _ _ ?_ ?_ (by omega)
      · refine ⟨⟨L' ++ L, by simpa using hs', fun t htl hd hk => ?_⟩, fun t hd => ?_, ?_, ?_, ?_⟩
        · by_cases hod : o.dst = some t
          · rw [hod, getD_put_self (by rw [hmid.size]; exact htl)]
            exact hv' t hod
          · rw [getD_put hod]
            refine (hv t htl hd fun k o' ho' hd' => ?_).mono (fun p hp => by simp [hp])
            have h1 := hk k o' ho' hd'
            by_cases hki : i = k
            · subst hki
              rw [ho] at ho'; cases ho'
              exact absurd hd' hod
            · rwa [getD_set_ne false hki] at h1
        · rw [getD_put, hmid.old t hd]
          intro hod
          rw [isDst_of ho hod] at hd; cases hd
        · cases hd : o.dst with
          | none => simpa [Act.put] using hmid.size
          | some d => simpa [Act.put] using hmid.size
        · cases hd : o.dst with
          | none => simpa [Act.put] using hmid.defers
          | some d => simpa [Act.put] using hmid.defers
        · simpa using hmid.ls
      · have := unl_set hun ops.size hilt
        omega

/-- **A region that draws**: behind it every temporary that it makes is as told, in every order. -/
theorem wp_region_mid {R : Array (List Nat)} {a0 : Act} {w : World} {m : Nat} {id : Nat} (hmo : P.follows .mixedOrders = true) (hchk : drawChk ops R = true) (hdst : ∀ (o : Oper) t, o ∈ ops → o.dst = some t → t < a0.tmps.size)
    (hA : ∀ t, isDst ops t = false → (A t).ok [] (a0.tmps.getD t undef)) (hR : ∀ k, ∀ t ∈ R.getD k [], t < a0.tmps.size)
    (hs : SH row w0 w (rdrP g m sv bs :: I)) (hm : m + ops.size ≤ 1099511627776)
    (hstep : ∀ k o, ops[k]? = some o → StepOK P Q row w0 I g sv bs A (R.getD k []) o)
    (hQ : ∀ a w', (∃ L, ∀ t, t < a0.tmps.size → isDst ops t = true → (A t).ok L (a.tmps.getD t undef)) → (∀ t, isDst ops t = false → a.tmps.getD t undef = a0.tmps.getD t undef) → a.tmps.size = a0.tmps.size → a.defers = a0.defers →
      SH row w0 w' (rdrP g (m + ops.size) sv bs :: I) → Q .normal a w') : (Code.region id ops true).wp P Q a0 w := by
  refine wp_region_any hmo (any_of_mid (M := m + ops.size) hchk hdst hA hR hstep hm ?_ ops.size m _ a0 _ ?_ ?_ (Nat.le_refl _))
  · intro a w' hmid
    obtain ⟨L, hs', hv⟩ := hmid.sh
    refine hQ a w' ⟨L, fun t htl hd => hv t htl hd fun k o ho _ => ?_⟩ hmid.old hmid.size hmid.defers (hs'.sub (List.Sublist.cons_cons _ (List.sublist_append_right _ _)))
    simp [(Array.getElem?_eq_some_iff.1 ho).1]
  · refine ⟨⟨[], hs.drew, fun t htl hd hk => ?_⟩, fun _ _ => rfl, rfl, rfl, by simp⟩
    exfalso
    unfold isDst at hd
    rw [Array.any_eq_true'] at hd
    obtain ⟨o, ho, h1⟩ := hd
    obtain ⟨k, hk1, rfl⟩ := Array.mem_iff_getElem.1 ho
    have := hk k ops[k] (by simp [hk1]) (by simpa using h1)
    simp [hk1] at this
  · rw [unl_rep _ _ (Nat.le_refl _)]; exact Nat.le_refl _
end


/-! The operations. -/
section
variable {Q : Exit → Act → World → Prop} {row : Option Nat} {w0 : World} {I : List Part} {g : Nat} {sv : Value} {bs : List Int} {A : Nat → AV} {R : List Nat} {o : Oper}

def opOK (R : List Nat) (A : Nat → AV) (x : Operand) (E : AV) : Prop := ∀ (L : List Part) (a : Act), (∀ t ∈ R, (A t).ok L (a.tmps.getD t undef)) → E.ok L (a.eval x)
theorem opOK_tmp {t : Nat} {E : AV} (hA : A t = E) (ht : R.contains t = true) : opOK R A (.tmp t) E := fun L a h => hA ▸ h t (by simpa using ht)
theorem opOK_const {v : Value} : opOK R A (.const v) (.val v) := fun _ _ _ => rfl
theorem opOK_int {n : Int} : opOK R A (.const (.int .i64 n)) (.int n n) := fun _ _ _ => ⟨n, rfl, Int.le_refl _, Int.le_refl _⟩
theorem opOK_ptr {t : Nat} {v : Value} {E : AV} (h : opOK R A (.tmp t) (.val v)) (hE : ∀ L, E.ok L v) : opOK R A (.tmp t) E := fun L a hr => by have : a.eval (.tmp t) = v := h L a hr; rw [this]; exact hE L
theorem opOK_wide {x : Operand} {lo hi lo' hi' : Int} (h : opOK R A x (.int lo hi)) (h1 : lo' ≤ lo) (h2 : hi ≤ hi') : opOK R A x (.int lo' hi') :=
  fun L a hr => by obtain ⟨n, e, a1, a2⟩ := h L a hr; exact ⟨n, e, by omega, by omega⟩

/-- an operation that gives a value and leaves the world as it is -/
theorem step_value (d : Nat) (hd : o.dst = some d) (h : ∀ (L : List Part) (m : Nat) (a : Act) (w : World), SH row w0 w (rdrP g m sv bs :: (L ++ I)) → (∀ t ∈ R, (A t).ok L (a.tmps.getD t undef)) → ∃ v, (execOp a.eval o).run Tryd.prog w = .ok (.value v) w ∧ (A d).ok L v) :
    StepOK Tryd.prog Q row w0 I g sv bs A R o := by
  intro L m a w hs hm hr K hK
  obtain ⟨v, h1, h2⟩ := h L m a w hs hr
  unfold Oper.wp
  rw [h1]
  refine hK v [] w (rdrP_mono hs (by omega)) fun d' hd' => ?_
  rw [hd] at hd'
  cases hd'
  exact h2

theorem ok_move {x : Operand} (d : Nat) (hd : o.dst = some d) (ho : o.op = .move x ∨ o.op = .assign x) (hx : opOK R A x (A d)) : StepOK Tryd.prog Q row w0 I g sv bs A R o :=
  step_value d hd fun L m a w _ hr => ⟨a.eval x, by rcases ho with ho | ho <;> simp [execOp, ho], hx L a hr⟩

theorem int_add (x y : Int) (w : World) {a : Act} {X Y : Operand} (ho : o.op = .binOp .add 3 X Y 3) (hx : a.eval X = .int .i64 x) (hy : a.eval Y = .int .i64 y) (h0 : -9223372036854775808 ≤ x + y) (h1 : x + y ≤ 9223372036854775807) :
    (execOp a.eval o).run Tryd.prog w = .ok (.value (.int .i64 (x + y))) w := by
  have e : IntKind.i64.wrap (x + y) = x + y := IntWalk.i64_in _ (by omega)
  have : (binOp .add 3 (.int .i64 x) (.int .i64 y)).run Tryd.prog w = .ok (.int .i64 (IntKind.i64.wrap (x + y))) w := by kernel_rfl
  simp [execOp, ho, hx, hy, this, e, eqGuard]
theorem int_sub (x y : Int) (w : World) {a : Act} {X Y : Operand} (ho : o.op = .binOp .sub 3 X Y 3) (hx : a.eval X = .int .i64 x) (hy : a.eval Y = .int .i64 y) (h0 : -9223372036854775808 ≤ x - y) (h1 : x - y ≤ 9223372036854775807) :
    (execOp a.eval o).run Tryd.prog w = .ok (.value (.int .i64 (x - y))) w := by
  have e : IntKind.i64.wrap (x - y) = x - y := IntWalk.i64_in _ (by omega)
  have : (binOp .sub 3 (.int .i64 x) (.int .i64 y)).run Tryd.prog w = .ok (.int .i64 (IntKind.i64.wrap (x - y))) w := by kernel_rfl
  simp [execOp, ho, hx, hy, this, e, eqGuard]
theorem int_mul (x y : Int) (w : World) {a : Act} {X Y : Operand} (ho : o.op = .binOp .mul 3 X Y 3) (hx : a.eval X = .int .i64 x) (hy : a.eval Y = .int .i64 y) (h0 : -9223372036854775808 ≤ x * y) (h1 : x * y ≤ 9223372036854775807) :
    (execOp a.eval o).run Tryd.prog w = .ok (.value (.int .i64 (x * y))) w := by
  have e : IntKind.i64.wrap (x * y) = x * y := IntWalk.i64_in _ (by omega)
  have : (binOp .mul 3 (.int .i64 x) (.int .i64 y)).run Tryd.prog w = .ok (.int .i64 (IntKind.i64.wrap (x * y))) w := by kernel_rfl
  simp [execOp, ho, hx, hy, this, e, eqGuard]
theorem int_quo (x y : Int) (w : World) {a : Act} {X Y : Operand} (ho : o.op = .binOp .quo 3 X Y 3) (hx : a.eval X = .int .i64 x) (hy : a.eval Y = .int .i64 y) (h0 : 0 ≤ x) (h2 : x ≤ 9223372036854775807) (h1 : 1 ≤ y) :
    (execOp a.eval o).run Tryd.prog w = .ok (.value (.int .i64 (x / y))) w := by
  have b := Int.ediv_nonneg h0 (by omega : 0 ≤ y)
  have b2 := Int.ediv_le_self y h0
  have e : IntKind.i64.wrap (x.tdiv y) = x / y := by rw [Int.tdiv_eq_ediv_of_nonneg h0]; exact IntWalk.i64_in _ (by omega)
  have hy0 : (y == 0) = false := by simp; omega
  have : (binOp .quo 3 (.int .i64 x) (.int .i64 y)).run Tryd.prog w = .ok (.int .i64 (IntKind.i64.wrap (x.tdiv y))) w := by
    have hu : (underlying 3).run Tryd.prog w = .ok (.int .i64) w := by kernel_rfl
    simp [binOp, hu, hy0, go_sem]
    omega
  simp [execOp, ho, hx, hy, this, e, eqGuard]

theorem ok_add {X Y : Operand} (x0 x1 y0 y1 lo hi : Int) (d : Nat) (hd : o.dst = some d) (ho : o.op = .binOp .add 3 X Y 3) (hX : opOK R A X (.int x0 x1)) (hY : opOK R A Y (.int y0 y1)) (hA : A d = .int lo hi)
    (h : lo ≤ x0 + y0 ∧ x1 + y1 ≤ hi ∧ -9223372036854775808 ≤ lo ∧ hi ≤ 9223372036854775807) : StepOK Tryd.prog Q row w0 I g sv bs A R o :=
  step_value d hd fun L m a w _ hr => by
    obtain ⟨x, ex, a1, a2⟩ := hX L a hr; obtain ⟨y, ey, b1, b2⟩ := hY L a hr
    exact ⟨_, int_add x y w ho ex ey (by omega) (by omega), by rw [hA]; exact ⟨_, rfl, by omega, by omega⟩⟩
theorem ok_sub {X Y : Operand} (x0 x1 y0 y1 lo hi : Int) (d : Nat) (hd : o.dst = some d) (ho : o.op = .binOp .sub 3 X Y 3) (hX : opOK R A X (.int x0 x1)) (hY : opOK R A Y (.int y0 y1)) (hA : A d = .int lo hi)
    (h : lo ≤ x0 - y1 ∧ x1 - y0 ≤ hi ∧ -9223372036854775808 ≤ lo ∧ hi ≤ 9223372036854775807) : StepOK Tryd.prog Q row w0 I g sv bs A R o :=
  step_value d hd fun L m a w _ hr => by
    obtain ⟨x, ex, a1, a2⟩ := hX L a hr; obtain ⟨y, ey, b1, b2⟩ := hY L a hr
    exact ⟨_, int_sub x y w ho ex ey (by omega) (by omega), by rw [hA]; exact ⟨_, rfl, by omega, by omega⟩⟩
/-- times a constant that is not negative -/
theorem ok_mulc {X : Operand} (x0 x1 k lo hi : Int) (d : Nat) (hd : o.dst = some d) (ho : o.op = .binOp .mul 3 X (.const (.int .i64 k)) 3) (hX : opOK R A X (.int x0 x1)) (hA : A d = .int lo hi) (hk : 0 ≤ k)
    (h : lo ≤ x0 * k ∧ x1 * k ≤ hi ∧ -9223372036854775808 ≤ lo ∧ hi ≤ 9223372036854775807) : StepOK Tryd.prog Q row w0 I g sv bs A R o :=
  step_value d hd fun L m a w _ hr => by
    obtain ⟨x, ex, a1, a2⟩ := hX L a hr
    have m1 := Int.mul_le_mul_of_nonneg_right a1 hk
    have m2 := Int.mul_le_mul_of_nonneg_right a2 hk
    exact ⟨_, int_mul x k w ho ex rfl (by omega) (by omega), by rw [hA]; exact ⟨_, rfl, by omega, by omega⟩⟩
/-- divided by a constant -/
theorem ok_quoc {X : Operand} (x1 k hi : Int) (d : Nat) (hd : o.dst = some d) (ho : o.op = .binOp .quo 3 X (.const (.int .i64 k)) 3) (hX : opOK R A X (.int 0 x1)) (hA : A d = .int 0 hi) (hk : 1 ≤ k)
    (h : x1 / k ≤ hi ∧ x1 ≤ 9223372036854775807) : StepOK Tryd.prog Q row w0 I g sv bs A R o :=
  step_value d hd fun L m a w _ hr => by
    obtain ⟨x, ex, a1, a2⟩ := hX L a hr
    have m1 : x / k ≤ x1 / k := Int.ediv_le_ediv (by omega) a2
    have m2 := Int.ediv_nonneg a1 (by omega : 0 ≤ k)
    exact ⟨_, int_quo x k w ho ex rfl (by omega) (by omega) (by omega), by rw [hA]; exact ⟨_, rfl, by omega, by omega⟩⟩
/-- 1 << x -/
theorem run_shl (x : Int) (h0 : 0 ≤ x) (h1 : x ≤ 11) (w : World) : (binOp .shl 3 (.int .i64 1) (.int .i64 x)).run Tryd.prog w = .ok (.int .i64 (2 ^ x.toNat)) w := by
  obtain rfl | rfl | rfl | rfl | rfl | rfl | rfl | rfl | rfl | rfl | rfl | rfl : x = 0 ∨ x = 1 ∨ x = 2 ∨ x = 3 ∨ x = 4 ∨ x = 5 ∨ x = 6 ∨ x = 7 ∨ x = 8 ∨ x = 9 ∨ x = 10 ∨ x = 11 := by omega
  all_goals kernel_rfl
theorem exec_shl (ρ : Operand → Value) (x : Int) (w : World) {Y : Operand} (ho : o.op = .binOp .shl 3 (.const (.int .i64 1)) Y 3) (hc : ρ (.const (.int .i64 1)) = .int .i64 1) (hy : ρ Y = .int .i64 x) (h0 : 0 ≤ x) (h1 : x ≤ 11) :
    (execOp ρ o).run Tryd.prog w = .ok (.value (.int .i64 (2 ^ x.toNat))) w := by
  have := run_shl x h0 h1 w
  simp [execOp, ho, hc, hy, this, eqGuard]
theorem pow_bd {y y1 : Int} (h0 : 0 ≤ y) (h1 : y ≤ y1) (h2 : y1 ≤ 11) : (1 : Int) ≤ 2 ^ y.toNat ∧ (2 : Int) ^ y.toNat ≤ 2 ^ y1.toNat := by
  have a : y.toNat ≤ y1.toNat := by omega
  have b := Nat.pow_le_pow_right (show 0 < 2 by decide) a
  have c := Nat.one_le_two_pow (n := y.toNat)
  exact ⟨by exact_mod_cast c, by exact_mod_cast b⟩
theorem ok_shl {Y : Operand} (y1 hi : Int) (d : Nat) (hd : o.dst = some d) (ho : o.op = .binOp .shl 3 (.const (.int .i64 1)) Y 3) (hY : opOK R A Y (.int 0 y1)) (hA : A d = .int 1 hi) (h1 : y1 ≤ 11) (h : (2 : Int) ^ y1.toNat ≤ hi) : StepOK Tryd.prog Q row w0 I g sv bs A R o :=
  step_value d hd fun L m a w _ hr => by
    obtain ⟨y, ey, a1, a2⟩ := hY L a hr
    obtain ⟨b1, b2⟩ := pow_bd a1 a2 h1
    exact ⟨_, exec_shl a.eval y w ho rfl ey a1 (by omega), by rw [hA]; exact ⟨_, rfl, b1, Int.le_trans b2 h⟩⟩

theorem exec_call2 (ρ : Operand → Value) (f : FuncId) {X Y : Operand} {x y : Value} {tys : Array TypeId} (w : World) (ho : o.op = .call { callee := .value (.func f), args := #[X, Y], argTypes := tys }) (hx : ρ X = x) (hy : ρ Y = y) (hf : ρ (.func f) = .func (.func f) #[] #[]) (hcf : (callFunc f #[x, y]).run Tryd.prog w = .ok (.enter f #[x, y]) w) :
    (execOp ρ o).run Tryd.prog w = .ok (.enter f #[x, y]) w := by
  simp [execOp, ho, hx, hy, resolve, hf, Deferred.ofValue, invoke, hcf]
theorem exec_len (ρ : Operand → Value) {X : Operand} {b : Option Addr} {n c : Nat} {t : TypeId} (w : World) (ho : o.op = .call { callee := .builtin .len, args := #[X], argTypes := #[t] }) (hx : ρ X = .slice b n c) (ht : Tryd.prog.underlying t = some (.slice (Tryd.prog.elem t))) :
    (execOp ρ o).run Tryd.prog w = .ok (.value (.int .i64 n)) w := by
  have := run_len_slice (P := Tryd.prog) (w := w) t o.type b n c ht
  simp [execOp, ho, hx, resolve, invoke, builtin, this, goInt]
/-- a pick -/
theorem ok_pick {X Y : Operand} (n0 n1 : Int) (d : Nat) (hd : o.dst = some d) {tys : Array TypeId} (ho : o.op = .call { callee := .value (.func 36), args := #[X, Y], argTypes := tys }) (hX : opOK R A X (.val (.pointer (some ⟨g, 0, none⟩)))) (hY : opOK R A Y (.int n0 n1)) (hn : 1 ≤ n0 ∧ n1 ≤ 1099511627776)
    (hA : A d = .int 0 (n1 - 1)) : StepOK Tryd.prog Q row w0 I g sv bs A R o := by
  intro L m a w hs hm hr K hK
  have ex : a.eval X = .pointer (some ⟨g, 0, none⟩) := hX L a hr
  obtain ⟨n, en, b1, b2⟩ := hY L a hr
  have e := exec_call2 a.eval 36 w ho ex en rfl (by kernel_rfl)
  unfold Oper.wp
  rw [e, Oper.upon_enter]
  refine (pick_s g m n w ⟨hs, hm⟩ (by omega)).mono ?_
  rintro e w' ⟨v, rfl, v0, v1, -, hs'⟩
  have v2 := v1 (by omega)
  exact hK _ [] w' (by simpa using hs') fun d' hd' => by rw [hd] at hd'; cases hd'; rw [hA]; exact ⟨v, rfl, v0, by omega⟩

/-- the length of a slice that is known -/
theorem ok_len {X : Operand} {t : TypeId} (n : Nat) {b : Option Addr} {c : Nat} (d : Nat) (hd : o.dst = some d) (ho : o.op = .call { callee := .builtin .len, args := #[X], argTypes := #[t] }) (ht : Tryd.prog.underlying t = some (.slice (Tryd.prog.elem t))) (hX : opOK R A X (.val (.slice b n c)))
    (hA : A d = .int n n) : StepOK Tryd.prog Q row w0 I g sv bs A R o :=
  step_value d hd fun L m a w _ hr => by
    have ex : a.eval X = .slice b n c := hX L a hr
    exact ⟨.int .i64 n, exec_len a.eval w ho ex ht, by rw [hA]; exact ⟨_, rfl, Int.le_refl _, Int.le_refl _⟩⟩

/-- an address in a new block -/
theorem ok_index {X Y : Operand} (n : Nat) (lo hi y0 y1 : Int) (d : Nat) (hd : o.dst = some d) (ho : o.op = .indexAddr 22 X Y) (hX : opOK R A X (.lit n lo hi)) (hY : opOK R A Y (.int y0 y1)) (hA : A d = .adr lo hi) (h : 0 ≤ y0 ∧ y1 < n) : StepOK Tryd.prog Q row w0 I g sv bs A R o :=
  step_value d hd fun L m a w _ hr => by
    obtain ⟨B, ex, hB⟩ := hX L a hr; obtain ⟨y, ey, b1, b2⟩ := hY L a hr
    refine ⟨.pointer (some ⟨B, y.toNat, none⟩), ?_, by rw [hA]; exact ⟨B, y.toNat, n, by omega, rfl, hB⟩⟩
    have hc : 0 ≤ y ∧ y < (n : Int) := by omega
    have hsz : (sizeOf (Tryd.prog.elem 22)).run Tryd.prog w = .ok 1 w := by kernel_rfl
    have ea : (⟨B, 0, none⟩ : Addr).add y.toNat = ⟨B, y.toNat, none⟩ := by
      unfold Addr.add; split
      · next e => simp at e; simp [e]
      · simp
    simp [execOp, ho, ex, ey, run_indexAt_slice (P := Tryd.prog) (w := w) 22 _ _ _ _ _ (show Tryd.prog.underlying 22 = some (.slice (Tryd.prog.elem 22)) by kernel_rfl), hc, hsz, ea]

/-- a load out of a new block -/
theorem ok_load {X : Operand} (lo hi : Int) (d : Nat) (hd : o.dst = some d) (ho : o.op = .load 3 X) (hX : opOK R A X (.adr lo hi)) (hA : A d = .int lo hi) : StepOK Tryd.prog Q row w0 I g sv bs A R o :=
  step_value d hd fun L m a w hs hr => by
    obtain ⟨B, q, n, hq, ex, hB⟩ := hX L a hr
    obtain ⟨c, t, hh, hx⟩ := hs.says _ (show litP B n lo hi ∈ _ by simp [hB])
    obtain ⟨x, e1, e2, e3⟩ := hx q hq
    refine ⟨.int .i64 x, ?_, by rw [hA]; exact ⟨x, rfl, e2, e3⟩⟩
    have hc : w.cell? ⟨B, q, none⟩ = some (.int .i64 x) := by rw [blk_cell hh]; exact e1
    have : (Instr.loadAt 3 (.pointer (some ⟨B, q, none⟩))).run Tryd.prog w = .ok (.int .i64 x) w := by go_simp
    simp [execOp, ho, ex, this]

theorem fill_ints : ∀ (vs : List Int) (k : Nat) (c : Array Value), k + vs.length ≤ c.size →
    ∃ c', Instr.fill (fun i => some (i * 1, 1)) c ((vs.zipIdx k).map fun x => (x.2, Value.int .i64 x.1)) = some c' ∧ c'.size = c.size ∧ (∀ i, i < k → c'[i]? = c[i]?) ∧ ∀ i, (h : i < vs.length) → c'[k + i]? = some (.int .i64 vs[i])
  | [], k, c, h => ⟨c, rfl, rfl, fun _ _ => rfl, fun i h => absurd h (by simp)⟩
  | v :: vs, k, c, h => by
    simp only [List.length_cons] at h
    obtain ⟨c', h1, h2, h3, h4⟩ := fill_ints vs (k + 1) (c.setIfInBounds k (.int .i64 v)) (by simp; omega)
    refine ⟨c', ?_, by simpa using h2, fun i hi => ?_, fun i hi => ?_⟩
    · rw [List.zipIdx_cons, List.map_cons]
      unfold Instr.fill
      simp only [Value.cells, Nat.mul_one]
      have : ¬ (k + 1 > c.size) := by omega
      simpa [this] using h1
    · rw [h3 i (by omega), Array.getElem?_setIfInBounds_ne (by omega)]
    · cases i with
      | zero => rw [Nat.add_zero, h3 k (by omega)]; simp [show k < c.size by omega]
      | succ i => rw [show k + (i + 1) = k + 1 + i by omega, h4 i (by simpa using hi)]; simp

theorem ints_of {ρ : Operand → Value} {lo hi : Int} : ∀ (Xs : List Operand), (∀ X ∈ Xs, ∃ n, ρ X = .int .i64 n ∧ lo ≤ n ∧ n ≤ hi) → ∃ vs : List Int, Xs.map ρ = vs.map (Value.int .i64) ∧ vs.length = Xs.length ∧ ∀ i, (h : i < vs.length) → lo ≤ vs[i] ∧ vs[i] ≤ hi
  | [], _ => ⟨[], rfl, rfl, fun i h => absurd h (by simp)⟩
  | X :: Xs, h => by
    obtain ⟨n, e, h1, h2⟩ := h X (by simp)
    obtain ⟨vs, e', hl, h3⟩ := ints_of Xs (fun Y hY => h Y (by simp [hY]))
    refine ⟨n :: vs, by simp [e, e'], by simp [hl], fun i hi => ?_⟩
    cases i with
    | zero => exact ⟨h1, h2⟩
    | succ i => simpa using h3 i (by simpa using hi)

/-- a slice literal of numbers -/
theorem ok_build (n : Nat) (lo hi : Int) (Xs : List Operand) {parts : Array (Nat × Operand)} (d : Nat) (hd : o.dst = some d) (ho : o.op = .buildSlice 22 n parts) (hp : parts.toList = (Xs.zipIdx 0).map fun x => (x.2, x.1)) (hn : Xs.length = n) (hn1 : 0 < n ∧ n ≤ 1000)
    (hX : ∀ X ∈ Xs, opOK R A X (.int lo hi)) (hA : A d = .lit n lo hi) : StepOK Tryd.prog Q row w0 I g sv bs A R o := by
  intro L m a w hs hm hr K hK
  obtain ⟨vs, e1, hl, h3⟩ := ints_of (ρ := a.eval) Xs (fun X hX' => hX X hX' L a hr)
  obtain ⟨ti, hti, hz, hsz, hby⟩ := info_parts (P := Tryd.prog) (show (Tryd.prog.info? 3).map (fun i => (i.zero, i.size, i.bytes)) = some (some (.int .i64 0), 1, 8) by kernel_rfl)
  obtain ⟨c', f1, f2, f3, f4⟩ := fill_ints vs 0 ((Array.range (n * 1)).map fun q => (Value.cells (.int .i64 0))[q % (Value.cells (.int .i64 0)).size]!) (by simp; omega)
  refine Go.wp_buildSlice 22 3 n parts ho c' ti (.int .i64 0) (by kernel_rfl) hti hz (by rw [hsz]; omega) (by rw [hsz]; omega) ?_ ?_
  · rw [hsz, Array.toList_map, hp, List.map_map]
    rw [← f1]
    congr 1
    have e2 : vs.zipIdx.map (fun x => (x.2, Value.int .i64 x.1)) = ((vs.map (Value.int .i64)).zipIdx).map fun x => (x.2, x.1) := by rw [List.zipIdx_map, List.map_map]; rfl
    rw [e2, ← e1, List.zipIdx_map, List.map_map]
    rfl
  · have hs' := hs.alloc (.cells c' 3)
    refine hK _ [litP w.heap.size n lo hi] _ ?_ fun d' hd' => ?_
    · refine SH.bring1 (SH.push (p := litP w.heap.size n lo hi) (rdrP_mono hs (by omega)) ((Below.refl _ _).alloc (Nat.le_refl _) _) ⟨c', 3, blk_at rfl, fun i hi => ?_⟩ (fun g hg => by have e : g = w.heap.size := hg; subst e; exact Nat.le_refl _))
      have hi' : i < vs.length := by omega
      refine ⟨vs[i], ?_, h3 i hi'⟩
      have := f4 i hi'
      simpa using this
    · rw [hd] at hd'; cases hd'; rw [hA]
      exact ⟨w.heap.size, rfl, by simp⟩
end


/-! Slices of structs of numbers that the call owns, whatever they hold: they may be read and written. -/
def ownAnyP (m : Nat) (t : TypeId) (v : Value) (n : Nat) (lo hi : Nat → Int) : Part where
  says w := ∃ c, OwnM m w 0 t v n c ∧ ∀ i j, i < n → j < m → ∃ x : Int, c i j = .int .i64 x ∧ lo j ≤ x ∧ x ≤ hi j
  on g := v.ownBlock = some g
  wr g := v.ownBlock = some g
  sub _ h := h
  lt w h g hg := by obtain ⟨c, h, _⟩ := h; exact (OwnM.base h g hg).2
  keep w w' h hk := by obtain ⟨c, h, h2⟩ := h; exact ⟨c, OwnM.keep h fun g e _ => hk g e, h2⟩

theorem SH.inside {row : Option Nat} {w0 w w' : World} {I : List Part} {p : Part} {r : Option Nat} (h : SH row w0 w I) (hp : p ∈ I) (hg : w.grownBy w' r) (hr : ∀ g, r = some g → p.wr g) (hs : p.says w') : SH row w0 w' I := by
  obtain ⟨A, B, rfl⟩ := List.append_of_mem hp
  exact ((h.perm List.perm_middle).write hg hr hs (fun _ h => .inl h) (fun _ h => .inl h)).perm List.perm_middle.symm

section
variable {Q : Exit → Act → World → Prop} {row : Option Nat} {w0 : World} {I : List Part} {g : Nat} {sv : Value} {bs : List Int} {A : Nat → AV} {R : List Nat} {o : Oper}
/-- the address of an element of a slice that is known -/
theorem ok_idxv {X Y : Operand} {ty : TypeId} (B n c k m : Nat) (d : Nat) (hd : o.dst = some d) (ho : o.op = .indexAddr ty X Y) (hX : opOK R A X (.val (.slice (some ⟨B, 0, none⟩) n c))) (hY : opOK R A Y (.val (.int .i64 k))) (hA : A d = .val (.pointer (some ⟨B, k * m, none⟩))) (h : k < n)
    (hu : Tryd.prog.underlying ty = some (.slice (Tryd.prog.elem ty))) (hsz : ∀ w : World, (sizeOf (Tryd.prog.elem ty)).run Tryd.prog w = .ok m w) : StepOK Tryd.prog Q row w0 I g sv bs A R o :=
  step_value d hd fun L mm a w _ hr => by
    have ex : a.eval X = .slice (some ⟨B, 0, none⟩) n c := hX L a hr
    have ey : a.eval Y = .int .i64 k := hY L a hr
    refine ⟨.pointer (some ⟨B, k * m, none⟩), ?_, by rw [hA]; rfl⟩
    have hc : 0 ≤ (k : Int) ∧ (k : Int) < (n : Int) := by omega
    have ea : (⟨B, 0, none⟩ : Addr).add (k * m) = ⟨B, k * m, none⟩ := by
      unfold Addr.add; split
      · next e => simp [e]
      · simp
    simp [execOp, ho, ex, ey, run_indexAt_slice (P := Tryd.prog) (w := w) ty _ _ _ _ _ hu, hc, hsz, ea, h]
/-- the address of a field -/
theorem ok_fieldv {X : Operand} {ty : TypeId} (f : Nat) (B q off : Nat) (d : Nat) (hd : o.dst = some d) (ho : o.op = .fieldAddr ty X f) (hX : opOK R A X (.val (.pointer (some ⟨B, q, none⟩)))) (hA : A d = .val (.pointer (some ⟨B, q + off, none⟩)))
    (hf : ∀ w : World, (Instr.fieldAt ty (.pointer (some ⟨B, q, none⟩)) f).run Tryd.prog w = .ok (.pointer (some ⟨B, q + off, none⟩)) w) : StepOK Tryd.prog Q row w0 I g sv bs A R o :=
  step_value d hd fun L mm a w _ hr => by
    have ex : a.eval X = .pointer (some ⟨B, q, none⟩) := hX L a hr
    exact ⟨.pointer (some ⟨B, q + off, none⟩), by simp [execOp, ho, ex, hf], by rw [hA]; rfl⟩
theorem ok_loadv {X : Operand} {t : TypeId} {n m cap k j : Nat} (B q : Nat) (lo hi : Nat → Int) (d : Nat) (hd : o.dst = some d) (ho : o.op = .load 3 X) (hX : opOK R A X (.val (.pointer (some ⟨B, q, none⟩)))) (hA : A d = .int (lo j) (hi j))
    (hp : ownAnyP m t (.slice (some ⟨B, 0, none⟩) n cap) n lo hi ∈ I) (hk : k < n) (hj : j < m) (hq : q = k * m + j) : StepOK Tryd.prog Q row w0 I g sv bs A R o :=
  step_value d hd fun L mm a w hs hr => by
    have ex : a.eval X = .pointer (some ⟨B, q, none⟩) := hX L a hr
    obtain ⟨c, ho2, hc⟩ := hs.says _ (List.mem_cons_of_mem _ (List.mem_append_right _ hp))
    obtain ⟨g', e, -, h1, -⟩ := OwnM.at_ ho2 hk
    simp only [Option.some.injEq, Addr.mk.injEq, and_true] at e
    obtain rfl := e
    obtain ⟨x, e1, e2, e3⟩ := hc k j hk hj
    have hcell : w.cell? ⟨B, q, none⟩ = some (.int .i64 x) := by rw [hq, h1 j hj, e1]
    have : (Instr.loadAt 3 (.pointer (some ⟨B, q, none⟩))).run Tryd.prog w = .ok (.int .i64 x) w := by go_simp
    exact ⟨.int .i64 x, by simp [execOp, ho, ex, this], by rw [hA]; exact ⟨x, rfl, e2, e3⟩⟩
theorem ok_storev {X Y : Operand} {t : TypeId} {n m cap k j : Nat} (B q : Nat) (lo hi : Nat → Int) (y0 y1 : Int) (hd : o.dst = none) (ho : o.op = .store 3 X Y) (hX : opOK R A X (.val (.pointer (some ⟨B, q, none⟩)))) (hY : opOK R A Y (.int y0 y1))
    (hp : ownAnyP m t (.slice (some ⟨B, 0, none⟩) n cap) n lo hi ∈ I) (hk : k < n) (hj : j < m) (hq : q = k * m + j) (h : lo j ≤ y0 ∧ y1 ≤ hi j) : StepOK Tryd.prog Q row w0 I g sv bs A R o := by
  intro L mm a w hs hm hr K hK
  have ex : a.eval X = .pointer (some ⟨B, q, none⟩) := hX L a hr
  obtain ⟨y, ey, b1, b2⟩ := hY L a hr
  have hmem : ownAnyP m t (.slice (some ⟨B, 0, none⟩) n cap) n lo hi ∈ rdrP g mm sv bs :: (L ++ I) := List.mem_cons_of_mem _ (List.mem_append_right _ hp)
  obtain ⟨c, ho2, hc⟩ := hs.says _ hmem
  obtain ⟨g', e, -, h1, h2⟩ := OwnM.at_ ho2 hk
  simp only [Option.some.injEq, Addr.mk.injEq, and_true] at e
  obtain rfl := e
  obtain ⟨x, e1, e2, e3⟩ := hc k j hk hj
  have hcell : w.cell? ⟨B, q, none⟩ = some (.int .i64 x) := by rw [hq, h1 j hj, e1]
  have hfz : w.frozen? ⟨B, q, none⟩ = false := h2 q
  have hrun : (Instr.storeAt 3 (.pointer (some ⟨B, q, none⟩)) (.int .i64 y)).run Tryd.prog w = .ok () (w.setCell ⟨B, q, none⟩ (.int .i64 y)) := by go_simp
  have hx : (execOp a.eval o).run Tryd.prog w = .ok .skip (w.setCell ⟨B, q, none⟩ (.int .i64 y)) := by simp [execOp, ho, ex, ey, hrun]
  unfold Oper.wp
  rw [hx, Oper.upon_skip]
  refine hK undef [] _ ?_ (fun d' hd' => by rw [hd] at hd'; cases hd')
  refine rdrP_mono (m := mm) ?_ (by omega)
  refine hs.inside (r := some B) hmem ⟨rfl, rfl, rfl, by simp [World.setCell], fun q' _ hq' => Below.heap_setCell _ _ _ _ (fun e => hq' (by rw [e]))⟩ (fun g' e => e) ?_
  refine ⟨_, hq ▸ OwnM.set1 ho2 hk hj (.int .i64 y), fun i' j' hi' hj' => ?_⟩
  unfold updC
  by_cases ei : i' = k
  · subst ei
    by_cases ej : j' = j
    · subst ej; simp only [if_true]; exact ⟨y, rfl, by omega, by omega⟩
    · simp only [ej, if_true, if_false]; exact hc i' j' hi' hj'
  · simp only [ei, if_false]; exact hc i' j' hi' hj'
end

/-! All together. -/
def AV.isAny : AV → Bool
  | .any => true
  | _ => false
def avOf (ps : List (Nat × Value)) (D : List AV) (t : Nat) : AV := match ps.find? (fun p => p.1 == t) with | some p => .val p.2 | none => D.getD t .any
def AllSteps (S : List Nat → Oper → Prop) : List Oper → List (List Nat) → Prop
  | [], _ => True
  | o :: os, [] => S [] o ∧ AllSteps S os []
  | o :: os, r :: rs => S r o ∧ AllSteps S os rs
theorem AllSteps.at_ {S : List Nat → Oper → Prop} : ∀ (os : List Oper) (rs : List (List Nat)), AllSteps S os rs → ∀ k o, os[k]? = some o → S (rs.getD k []) o
  | [], _, _, k, o, h => by simp at h
  | o :: os, [], h, k, o', ho => by
    cases k with
    | zero => simp at ho; subst ho; exact h.1
    | succ k => have := AllSteps.at_ os [] h.2 k o' (by simpa using ho); simpa using this
  | o :: os, r :: rs, h, k, o', ho => by
    cases k with
    | zero => simp at ho; subst ho; exact h.1
    | succ k => have := AllSteps.at_ os rs h.2 k o' (by simpa using ho); simpa using this
def dstChk (ops : Array Oper) (n : Nat) (ps : List (Nat × Value)) (D : List AV) (R : List (List Nat)) : Bool :=
  (ops.all fun o => match o.dst with | some t => decide (t < n) | none => true) && (ps.all fun p => !isDst ops p.1) && ((List.range D.length).all fun t => isDst ops t || (D.getD t .any).isAny) && R.all fun r => r.all fun t => decide (t < n)

/-- the same, in the order of the text -/
theorem list_of_mid {P : Program} {ops : Array Oper} {Q : Exit → Act → World → Prop} {row : Option Nat} {w0 : World} {I : List Part} {g : Nat} {sv : Value} {bs : List Int} {A : Nat → AV} {R : Array (List Nat)} {a0 : Act} {M : Nat} (hchk : drawChk ops R = true)
    (hA : ∀ t, isDst ops t = false → (A t).ok [] (a0.tmps.getD t undef)) (hR : ∀ k, ∀ t ∈ R.getD k [], t < a0.tmps.size)
    (hstep : ∀ k o, ops[k]? = some o → StepOK P Q row w0 I g sv bs A (R.getD k []) o) (hM : M ≤ 1099511627776)
    (hQ : ∀ a w, Mid ops row w0 I g sv bs A a0 M (Array.replicate ops.size true) a w → Q .normal a w) :
    ∀ (rest : List Oper) (i m : Nat) (listed : Array Bool) (a : Act) (w : World), ops.toList.drop i = rest → (∀ j, j < ops.size → listed.getD j true = decide (j < i)) → Mid ops row w0 I g sv bs A a0 m listed a w → m + rest.length ≤ M → wpList P ops Q rest a w := by
  intro rest
  induction rest with
  | nil =>
    intro i m listed a w hd hl hmid hm
    have hi : ops.size ≤ i := by
      have := congrArg List.length hd
      simp at this; omega
    have : listed = Array.replicate ops.size true := by
      apply Array.ext
      · simp [hmid.ls]
      · intro j h1 h2
        have h3 := hl j (by rw [← hmid.ls]; exact h1)
        have h4 : decide (j < i) = true := by have := hmid.ls; simp; omega
        rw [h4] at h3
        simp [h1] at h3
        simp [h3]
    subst this
    refine hQ a w { hmid with sh := ?_ }
    obtain ⟨L, hs, hv⟩ := hmid.sh
    exact ⟨L, rdrP_mono hs (by simpa using hm), hv⟩
  | cons o rest ih =>
    intro i m listed a w hd hl hmid hm
    have hilt : i < ops.size := by
      have := congrArg List.length hd
      simp at this; omega
    have ho : ops[i]? = some o := by
      have := congrArg (fun l => l[0]?) hd
      simpa using this
    have hd' : ops.toList.drop (i + 1) = rest := by
      have := congrArg List.tail hd
      simpa [List.tail_drop] using this
    have hc := List.all_eq_true.1 hchk i (List.mem_range.2 hilt)
    simp only [ho, Bool.and_eq_true] at hc
    obtain ⟨⟨hg, -⟩, h3⟩ := hc
    have hreads : ∀ t ∈ R.getD i [], ∀ k' o', ops[k']? = some o' → o'.dst = some t → k' < i := by
      intro t ht k' o' ho' hdd
      have hlt' : k' < ops.size := (Array.getElem?_eq_some_iff.1 ho').1
      have h4 := List.all_eq_true.1 (List.all_eq_true.1 h3 t ht) k' (List.mem_range.2 hlt')
      simp only [ho', hdd, beq_self_eq_true, Bool.not_true, Bool.false_or] at h4
      rw [Array.any_eq_true'] at h4
      obtain ⟨e, he, h5⟩ := h4
      simp only [Bool.and_eq_true, beq_iff_eq] at h5
      have hc := List.all_eq_true.1 hchk i (List.mem_range.2 hilt)
      simp only [ho, Bool.and_eq_true] at hc
      have h6 := Array.all_eq_true'.1 hc.1.2 e he
      rw [h5.2] at h6
      simp at h6
      omega
    have hwant : Region.wanted o (yielded ops a.tmps) = true := by
      cases hgd : o.guard with
      | none => simp [Region.wanted, hgd]
      | some q => rw [hgd] at hg; cases hg
    simp only [wpList, hwant, if_true]
    left
    obtain ⟨L, hs, hv⟩ := hmid.sh
    have hgl : ∀ k, k < i → listed.getD k false = true := by
      intro k hk
      have h1 := hl k (by omega)
      have h2 : k < listed.size := by rw [hmid.ls]; omega
      simp [h2] at h1 ⊢
      rw [h1]; simpa using hk
    refine hstep i o ho L m a w hs (by simp at hm; omega) ?_ _ ?_
    · intro t ht
      by_cases hdt : isDst ops t = true
      · exact hv t (hR i t ht) hdt fun k o' ho' hdd => hgl k (hreads t ht k o' ho' hdd)
      · have hdt : isDst ops t = false := by simpa using hdt
        rw [hmid.old t hdt]
        exact (hA t hdt).mono (by simp)
    · intro v L' w' hs' hv'
      refine ih (i + 1) (m + 1) (listed.setIfInBounds i true) _ _ hd' ?_ ?_ (by simp at hm; omega)
      · intro j hj
        by_cases hij : i = j
        · subst hij
          have : i < listed.size := by rw [hmid.ls]; omega
          simp [this]
        · rw [getD_set_ne true hij, hl j hj]
          have : (j < i) ↔ (j < i + 1) := by omega
          simp [this]
      · refine ⟨⟨L' ++ L, by simpa using hs', fun t htl hdt hk => ?_⟩, fun t hdt => ?_, ?_, ?_, ?_⟩
        · by_cases hod : o.dst = some t
          · rw [hod, getD_put_self (by rw [hmid.size]; exact htl)]
            exact hv' t hod
          · rw [getD_put hod]
            refine (hv t htl hdt fun k o' ho' hdd => ?_).mono (fun p hp => by simp [hp])
            have h1 := hk k o' ho' hdd
            by_cases hki : i = k
            · subst hki
              rw [ho] at ho'; cases ho'
              exact absurd hdd hod
            · rwa [getD_set_ne false hki] at h1
        · rw [getD_put, hmid.old t hdt]
          intro hod
          rw [isDst_of ho hod] at hdt; cases hdt
        · cases hdo : o.dst with
          | none => simpa [Act.put] using hmid.size
          | some d => simpa [Act.put] using hmid.size
        · cases hdo : o.dst with
          | none => simpa [Act.put] using hmid.defers
          | some d => simpa [Act.put] using hmid.defers
        · simpa using hmid.ls

theorem wp_region_text0 {P : Program} {ops : Array Oper} {Q : Exit → Act → World → Prop} {row : Option Nat} {w0 : World} {I : List Part} {g : Nat} {sv : Value} {bs : List Int} {A : Nat → AV} {R : Array (List Nat)} {a0 : Act} {w : World} {m : Nat} {id : Nat} (hchk : drawChk ops R = true) (hdst : ∀ (o : Oper) t, o ∈ ops → o.dst = some t → t < a0.tmps.size)
    (hA : ∀ t, isDst ops t = false → (A t).ok [] (a0.tmps.getD t undef)) (hR : ∀ k, ∀ t ∈ R.getD k [], t < a0.tmps.size)
    (hs : SH row w0 w (rdrP g m sv bs :: I)) (hm : m + ops.size ≤ 1099511627776)
    (hstep : ∀ k o, ops[k]? = some o → StepOK P Q row w0 I g sv bs A (R.getD k []) o)
    (hQ : ∀ a w', (∃ L, ∀ t, t < a0.tmps.size → isDst ops t = true → (A t).ok L (a.tmps.getD t undef)) → (∀ t, isDst ops t = false → a.tmps.getD t undef = a0.tmps.getD t undef) → a.tmps.size = a0.tmps.size → a.defers = a0.defers →
      SH row w0 w' (rdrP g (m + ops.size) sv bs :: I) → Q .normal a w') : (Code.region id ops false).wp P Q a0 w := by
  refine wp_region_list (list_of_mid (M := m + ops.size) hchk hA hR hstep hm ?_ ops.toList 0 m (Array.replicate ops.size false) a0 w rfl ?_ ?_ (by simp))
  · intro a w' hmid
    obtain ⟨L, hs', hv⟩ := hmid.sh
    refine hQ a w' ⟨L, fun t htl hd => hv t htl hd fun k o ho _ => ?_⟩ hmid.old hmid.size hmid.defers (hs'.sub (List.Sublist.cons_cons _ (List.sublist_append_right _ _)))
    simp [(Array.getElem?_eq_some_iff.1 ho).1]
  · intro j hj; simp [hj]
  · refine ⟨⟨[], hs, fun t htl hd hk => ?_⟩, fun _ _ => rfl, rfl, rfl, by simp⟩
    exfalso
    unfold isDst at hd
    rw [Array.any_eq_true'] at hd
    obtain ⟨o, ho, h1⟩ := hd
    obtain ⟨k, hk1, rfl⟩ := Array.mem_iff_getElem.1 ho
    have := hk k ops[k] (by simp [hk1]) (by simpa using h1)
    simp [hk1] at this

theorem wp_region_draw {P : Program} {ops : Array Oper} {Q : Exit → Act → World → Prop} {row : Option Nat} {w0 : World} {I : List Part} {g : Nat} {sv : Value} {bs : List Int} {a0 : Act} {w : World} {m id : Nat}
    (ps : List (Nat × Value)) (D : List AV) (R : List (List Nat)) (N : Nat) (hN : ops.size = N) (hmo : P.follows .mixedOrders = true) (hchk : drawChk ops R.toArray = true) (hdst : dstChk ops a0.tmps.size ps D R = true)
    (hps : ∀ p ∈ ps, a0.tmps.getD p.1 undef = p.2)
    (hs : SH row w0 w (rdrP g m sv bs :: I) ∧ m + N ≤ 1099511627776)
    (hstep : AllSteps (StepOK P Q row w0 I g sv bs (avOf ps D)) ops.toList R)
    (hQ : ∀ (tm : Array Value) w', (∃ L, ∀ t, t < a0.tmps.size → isDst ops t = true → (avOf ps D t).ok L (tm.getD t undef)) → (∀ t, isDst ops t = false → tm.getD t undef = a0.tmps.getD t undef) → tm.size = a0.tmps.size →
      SH row w0 w' (rdrP g (m + N) sv bs :: I) → Q .normal ⟨tm, a0.defers⟩ w') : (Code.region id ops true).wp P Q a0 w := by
  subst hN
  unfold dstChk at hdst
  simp only [Bool.and_eq_true] at hdst
  obtain ⟨⟨⟨c1, c2⟩, c3⟩, c4⟩ := hdst
  have hRget : ∀ k, (R.toArray.getD k []) = R.getD k [] := fun k => by simp
  refine wp_region_mid (A := avOf ps D) (R := R.toArray) hmo hchk ?_ ?_ ?_ hs.1 hs.2 ?_ ?_
  · intro o t ho hd
    have := Array.all_eq_true'.1 c1 o ho
    rw [hd] at this
    simpa using this
  · intro t ht
    unfold avOf
    split
    · next p hp =>
      have h1 := List.mem_of_find?_eq_some hp
      have h2 := List.find?_some hp
      simp only [beq_iff_eq] at h2
      subst h2
      exact hps p h1
    · rcases Nat.lt_or_ge t D.length with h | h
      · have h1 := List.all_eq_true.1 c3 t (List.mem_range.2 h)
        rw [ht, Bool.false_or] at h1
        cases hD : D.getD t .any with
        | any => trivial
        | _ => rw [hD] at h1; cases h1
      · have : D.getD t .any = .any := by simp [List.getElem?_eq_none h]
        rw [this]; trivial
  · intro k t ht
    rw [hRget] at ht
    rcases Nat.lt_or_ge k R.length with h | h
    · have h1 := List.all_eq_true.1 c4 (R.getD k []) (by simp [h])
      have := List.all_eq_true.1 h1 t ht
      simpa using this
    · simp [List.getElem?_eq_none h] at ht
  · intro k o ho
    rw [hRget]
    exact AllSteps.at_ _ _ hstep k o (by simpa using ho)
  · intro a w' hv hold hsz hdf hs'
    obtain ⟨tm, df⟩ := a
    simp only at hv hold hsz hdf
    subst hdf
    exact hQ tm w' hv hold hsz hs'

theorem wp_region_text {P : Program} {ops : Array Oper} {Q : Exit → Act → World → Prop} {row : Option Nat} {w0 : World} {I : List Part} {g : Nat} {sv : Value} {bs : List Int} {a0 : Act} {w : World} {m id : Nat}
    (ps : List (Nat × Value)) (D : List AV) (R : List (List Nat)) (N : Nat) (hN : ops.size = N) (hchk : drawChk ops R.toArray = true) (hdst : dstChk ops a0.tmps.size ps D R = true)
    (hps : ∀ p ∈ ps, a0.tmps.getD p.1 undef = p.2)
    (hs : SH row w0 w (rdrP g m sv bs :: I) ∧ m + N ≤ 1099511627776)
    (hstep : AllSteps (StepOK P Q row w0 I g sv bs (avOf ps D)) ops.toList R)
    (hQ : ∀ (tm : Array Value) w', (∃ L, ∀ t, t < a0.tmps.size → isDst ops t = true → (avOf ps D t).ok L (tm.getD t undef)) → (∀ t, isDst ops t = false → tm.getD t undef = a0.tmps.getD t undef) → tm.size = a0.tmps.size →
      SH row w0 w' (rdrP g (m + N) sv bs :: I) → Q .normal ⟨tm, a0.defers⟩ w') : (Code.region id ops false).wp P Q a0 w := by
  subst hN
  unfold dstChk at hdst
  simp only [Bool.and_eq_true] at hdst
  obtain ⟨⟨⟨c1, c2⟩, c3⟩, c4⟩ := hdst
  have hRget : ∀ k, (R.toArray.getD k []) = R.getD k [] := fun k => by simp
  refine wp_region_text0 (A := avOf ps D) (R := R.toArray) hchk ?_ ?_ ?_ hs.1 hs.2 ?_ ?_
  · intro o t ho hd
    have := Array.all_eq_true'.1 c1 o ho
    rw [hd] at this
    simpa using this
  · intro t ht
    unfold avOf
    split
    · next p hp =>
      have h1 := List.mem_of_find?_eq_some hp
      have h2 := List.find?_some hp
      simp only [beq_iff_eq] at h2
      subst h2
      exact hps p h1
    · rcases Nat.lt_or_ge t D.length with h | h
      · have h1 := List.all_eq_true.1 c3 t (List.mem_range.2 h)
        rw [ht, Bool.false_or] at h1
        cases hD : D.getD t .any with
        | any => trivial
        | _ => rw [hD] at h1; cases h1
      · have : D.getD t .any = .any := by simp [List.getElem?_eq_none h]
        rw [this]; trivial
  · intro k t ht
    rw [hRget] at ht
    rcases Nat.lt_or_ge k R.length with h | h
    · have h1 := List.all_eq_true.1 c4 (R.getD k []) (by simp [h])
      have := List.all_eq_true.1 h1 t ht
      simpa using this
    · simp [List.getElem?_eq_none h] at ht
  · intro k o ho
    rw [hRget]
    exact AllSteps.at_ _ _ hstep k o (by simpa using ho)
  · intro a w' hv hold hsz hdf hs'
    obtain ⟨tm, df⟩ := a
    simp only at hv hold hsz hdf
    subst hdf
    exact hQ tm w' hv hold hsz hs'

theorem arr_eq {n : Nat} (xs : Array Value) (h : xs.size = n) : xs = ((List.range n).map fun i => xs.getD i undef).toArray := by
  apply Array.ext
  · simp [h]
  · intro i h1 h2; simp [h1]

end Go.Proofs.YtjgafkoboolclaaDoor
