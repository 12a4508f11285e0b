import Derived.Test.YtjgafkoboolclaaDoorProg
import Derived.Test.YtjgafkoboolclaaDoorSym
import Derived.Test.YtjgafkoboolclaaDoorRead
import Derived.Test.YtjgafkoboolclaaDoorApp
namespace Go.Proofs.YtjgafkoboolclaaDoor
open Go.RowKit

theorem blk_set {w : World} {B : Nat} {c : Array Value} {t : TypeId} (h : w.heap[B]? = some (.cells c t (0, 0))) (i : Nat) (x : Value) : (w.setCell ⟨B, i, none⟩ x).heap[B]? = some (.cells (c.setIfInBounds i x) t (0, 0)) :=
  (heap_setCell_same w B i c t x h).trans (by simp)
theorem SH.setBlk {row : Option Nat} {w0 w : World} {I : List Part} {B : Nat} {c : Array Value} {t : TypeId} (h : SH row w0 w (blkP B c t :: I)) (i : Nat) (x : Value) : SH row w0 (w.setCell ⟨B, i, none⟩ x) (blkP B (c.setIfInBounds i x) t :: I) :=
  h.write (r := some B) ⟨rfl, rfl, rfl, by simp [World.setCell], fun q _ hq => Below.heap_setCell _ _ _ _ (fun e => hq (by rw [e]))⟩ (fun g e => (Option.some.inj e).symm) (blk_set (show w.heap[B]? = _ from h.p0) i x) (fun g h => .inl h) (fun g h => .inl h)

/-- a literal list of numbers -/
theorem SH.ownLit {row : Option Nat} {w0 w : World} {I : List Part} (h : SH row w0 w I) (k : IntKind) (t : TypeId) (L : List Int) (hL : L.length ≤ maxLen) : SH row w0 (w.alloc (.cells (L.map (Value.int k)).toArray t)) (ownP k t (.slice (some ⟨w.heap.size, 0, none⟩) L.length L.length) L :: I) :=
  h.pushOwn ((Below.refl _ _).alloc (Nat.le_refl _) _) (by
    have := World.ownsRow_lit (base := w.heap.size) (e := t) (size := 1) w (L.map (Value.int k)).toArray L.length (Nat.le_refl _) hL (by simp)
    simpa [OwnK] using this)

/-- a call that returns a new slice and a Bool -/
theorem SH.ownT {row : Option Nat} {w0 w : World} {I : List Part} {P : Program} {fn : FuncId} {args : Array Value} {W : World} {k : IntKind} {t : TypeId} {xs : List Int} {b : Bool} (hs : SH row w0 w I) (hb : Below w.heap.size w W)
    (hc : SH row w0 W I → Calls P fn args W (Ret W fun v w' => ∃ v', v = .tuple #[v', .bool b] ∧ OwnK k w' W.heap.size t v' xs)) : Calls P fn args W (fun e w' => ∃ v, e = .returned (.tuple #[v, .bool b]) ∧ SH row w0 w' (ownP k t v xs :: I)) :=
  (hc (hs.below hb)).mono fun _ _ ⟨v, h1, ⟨v', h2, h4⟩, h3⟩ => ⟨v', by rw [h1, h2], (hs.below hb).pushOwn h3 h4⟩

section
variable {P : Program} {row : Option Nat} {w0 w : World} {I : List Part} {ops : Array Oper} {o : Oper} {a : Act} {Q : Exit → Act → World → Prop}
/-- 'append(s, x)' in a region that draws its order: for go_region_held3. -/
theorem step_app1S {K : Act → World → Prop} {E : Prop} (hgd : o.guard = none) {s x : Operand} {t : TypeId}
    (ho : o.op = .call { callee := .builtin .append, args := #[s, x], argTypes := #[t, t] }) (k : IntKind)
    (e bytes : Nat) (h1 : P.underlying t = some (.slice e)) (hinfo : (P.info? e).map (fun i => (i.zero, i.size, i.bytes)) = some (some (.int k 0), 1, bytes))
    {v : Value} {xs : List Int} (y : Int) (hs : a.eval s = v) (hown : SH row w0 w (ownP k e v xs :: I))
    {ad : Addr} {c : Nat} (hx : a.eval x = .slice (some ad) 1 c) (hcell : w.cell? ad = some (.int k y))
    (hbytes : (xs.length + 1) * bytes ≤ 140737488355328) (h63 : xs.length + 1 ≤ maxLen)
    (h : ∀ v' w', SH row w0 w' (ownP k e v' (xs ++ [y]) :: I) → K (a.put o.dst v') w') :
    if Region.wanted o (yielded ops a.tmps) = true then Oper.wp P o a w K Q else E := by
  have hw : Region.wanted o (yielded ops a.tmps) = true := by simp [Region.wanted, hgd]
  rw [if_pos hw]
  obtain ⟨i, h2, h3, h4, h5⟩ := info_parts hinfo
  have hO : OwnK k w 0 e v xs := hown.p0
  obtain ⟨v', w', r1, r2, r3, -, r5⟩ := run_append_own_at (P := P) (w := w) 0 t o.type e i (.int k 0) 1 bytes h1 h2 h3 h4 h5 rfl (by decide) v xs.length (xs.map (Value.int k)) hO ad 1 c [.int k y] rfl
    (fun j u hj => by
      cases j with
      | zero => simp at hj; subst hj; exact hcell
      | succ j => simp at hj) (fun u hu => by simp at hu; subst hu; rfl) h63 hbytes (Nat.zero_le _)
  refine Go.Lib.wp_append_run w s x t t ho _ _ hs hx v' w' r1 (h v' w' ?_)
  have hO' : OwnK k w' 0 e v' (xs ++ [y]) := by unfold OwnK; simpa using r2
  have hl : ∀ g, v'.ownBlock = some g → v.ownBlock = some g ∨ w.heap.size ≤ g := by
    intro g hg
    rcases r5 with e | e
    · exact .inl (e ▸ hg)
    · rw [e] at hg; right; have := Option.some.inj hg; omega
  exact hown.write (q := ownP k e v' (xs ++ [y])) r3 (fun g e => e) hO' hl hl
end
/-- a guarded operation that is wanted -/
theorem wp_unguard {P : Program} {w : World} {ops : Array Oper} {rest : List Oper} {o : Oper} {a : Act} {Q : Exit → Act → World → Prop} (hw : Region.wanted o (yielded ops a.tmps) = true)
    (h : wpList P ops Q (⟨o.dst, o.op, o.type, o.pos, o.after, none⟩ :: rest) a w) : wpList P ops Q (o :: rest) a w := by
  simp only [wpList] at h ⊢
  rw [if_pos hw]
  rw [if_pos (by simp [Region.wanted])] at h
  exact h
end Go.Proofs.YtjgafkoboolclaaDoor
