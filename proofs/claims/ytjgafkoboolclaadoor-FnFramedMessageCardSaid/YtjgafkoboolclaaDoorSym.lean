import Derived.Test.YtjgafkoboolclaaDoorProg
import Derived.Test.YtjgafkoboolclaaDoorLib
import Derived.Test.YtjgafkoboolclaaDoorNum
import Derived.Test.YtjgafkoboolclaaDoorMem
import Derived.Test.YtjgafkoboolclaaDoorRead
import Derived.Maps.AppendAt
namespace Go.Proofs.YtjgafkoboolclaaDoor
open Go.RowKit

/-! A memory by its parts. -/
/-- A part: what it says of a world, the blocks that it leans on, and those of them that may be written. -/
structure Part where
  says : World → Prop
  on : Nat → Prop
  wr : Nat → Prop
  sub : ∀ g, wr g → on g
  lt : ∀ w, says w → ∀ g, on g → g < w.heap.size
  keep : ∀ w w', says w → (∀ g, on g → w'.heap[g]? = w.heap[g]?) → says w'

def Part.apart (p q : Part) : Prop := ∀ g, (p.wr g → ¬ q.on g) ∧ (q.wr g → ¬ p.on g)
theorem Part.apart.symm {p q : Part} (h : p.apart q) : q.apart p := fun g => ⟨(h g).2, (h g).1⟩

/-- The parts I lie in w, apart from each other; since w0 only new blocks and the block 'row' have been written. -/
structure SH (row : Option Nat) (w0 w : World) (I : List Part) : Prop where
  grown : w0.grownBy w row
  says : ∀ p ∈ I, p.says w
  new : ∀ p ∈ I, ∀ g, p.wr g → w0.heap.size ≤ g ∨ row = some g
  apart : I.Pairwise Part.apart

variable {row : Option Nat} {w0 w w' : World} {I J : List Part} {a b c d e f p q : Part}

theorem SH.p0 (h : SH row w0 w (a :: I)) : a.says w := h.says a (by simp)
theorem SH.p1 (h : SH row w0 w (a :: b :: I)) : b.says w := h.says b (by simp)
theorem SH.p2 (h : SH row w0 w (a :: b :: c :: I)) : c.says w := h.says c (by simp)
theorem SH.p3 (h : SH row w0 w (a :: b :: c :: d :: I)) : d.says w := h.says d (by simp)
theorem SH.p4 (h : SH row w0 w (a :: b :: c :: d :: e :: I)) : e.says w := h.says e (by simp)
theorem SH.p5 (h : SH row w0 w (a :: b :: c :: d :: e :: f :: I)) : f.says w := h.says f (by simp)
theorem SH.p6 (h : SH row w0 w (a :: b :: c :: d :: e :: f :: p :: I)) : p.says w := h.says p (by simp)
theorem SH.p7 (h : SH row w0 w (a :: b :: c :: d :: e :: f :: p :: q :: I)) : q.says w := h.says q (by simp)

theorem SH.perm (h : SH row w0 w I) (hp : I.Perm J) : SH row w0 w J :=
  ⟨h.grown, fun p hp' => h.says p (hp.mem_iff.2 hp'), fun p hp' => h.new p (hp.mem_iff.2 hp'), (hp.pairwise_iff (fun h => h.symm)).1 h.apart⟩
theorem SH.sub (h : SH row w0 w I) (hs : J.Sublist I) : SH row w0 w J :=
  ⟨h.grown, fun p hp => h.says p (hs.subset hp), fun p hp => h.new p (hs.subset hp), h.apart.sublist hs⟩
theorem SH.bring1 (h : SH row w0 w (a :: b :: I)) : SH row w0 w (b :: a :: I) := h.perm (List.Perm.swap ..)
theorem SH.bring2 (h : SH row w0 w (a :: b :: c :: I)) : SH row w0 w (c :: a :: b :: I) :=
  h.perm ((List.Perm.cons a (List.Perm.swap ..)).trans (List.Perm.swap ..))
theorem SH.bring3 (h : SH row w0 w (a :: b :: c :: d :: I)) : SH row w0 w (d :: a :: b :: c :: I) :=
  h.perm ((List.Perm.cons a ((List.Perm.cons b (List.Perm.swap ..)).trans (List.Perm.swap ..))).trans (List.Perm.swap ..))
theorem SH.bring4 (h : SH row w0 w (a :: b :: c :: d :: e :: I)) : SH row w0 w (e :: a :: b :: c :: d :: I) :=
  h.perm ((List.Perm.cons a ((List.Perm.cons b ((List.Perm.cons c (List.Perm.swap ..)).trans (List.Perm.swap ..))).trans (List.Perm.swap ..))).trans (List.Perm.swap ..))
/-- the head goes behind one, two, three others -/
theorem SH.push1 (h : SH row w0 w (a :: b :: I)) : SH row w0 w (b :: a :: I) := h.bring1
theorem SH.push2 (h : SH row w0 w (a :: b :: c :: I)) : SH row w0 w (b :: c :: a :: I) := h.bring2.bring2
theorem SH.push3 (h : SH row w0 w (a :: b :: c :: d :: I)) : SH row w0 w (b :: c :: d :: a :: I) := h.bring3.bring3.bring3
theorem SH.drop0 (h : SH row w0 w (a :: I)) : SH row w0 w I := h.sub (List.sublist_cons_self ..)
theorem SH.drop1 (h : SH row w0 w (a :: b :: I)) : SH row w0 w (a :: I) := h.sub ((List.sublist_cons_self ..).cons_cons _)
theorem SH.drop2 (h : SH row w0 w (a :: b :: c :: I)) : SH row w0 w (a :: b :: I) := h.sub (((List.sublist_cons_self ..).cons_cons _).cons_cons _)
theorem SH.drop3 (h : SH row w0 w (a :: b :: c :: d :: I)) : SH row w0 w (a :: b :: c :: I) := h.sub ((((List.sublist_cons_self ..).cons_cons _).cons_cons _).cons_cons _)
theorem SH.drop4 (h : SH row w0 w (a :: b :: c :: d :: e :: I)) : SH row w0 w (a :: b :: c :: d :: I) := h.sub (((((List.sublist_cons_self ..).cons_cons _).cons_cons _).cons_cons _).cons_cons _)

theorem SH.apart01 (h : SH row w0 w (a :: b :: I)) : a.apart b := (List.pairwise_cons.1 h.apart).1 b (by simp)
theorem SH.apart02 (h : SH row w0 w (a :: b :: c :: I)) : a.apart c := (List.pairwise_cons.1 h.apart).1 c (by simp)
theorem SH.apart12 (h : SH row w0 w (a :: b :: c :: I)) : b.apart c := h.drop0.apart01
theorem SH.apart03 (h : SH row w0 w (a :: b :: c :: d :: I)) : a.apart d := (List.pairwise_cons.1 h.apart).1 d (by simp)
theorem SH.apart13 (h : SH row w0 w (a :: b :: c :: d :: I)) : b.apart d := h.drop0.apart02
theorem SH.apart23 (h : SH row w0 w (a :: b :: c :: d :: I)) : c.apart d := h.drop0.apart12

theorem grown_of_below (h : Below w.heap.size w w') (row : Option Nat) : w.grownBy w' row :=
  ⟨h.os, h.tape, h.output, h.size, fun g hg _ => h.block g hg⟩
theorem below_of_grown (h : w.grownBy w' none) : Below w.heap.size w w' :=
  ⟨h.os, h.tape, h.output, h.size, fun g hg => h.block g hg (by simp)⟩

theorem SH.below (h : SH row w0 w I) (hb : Below w.heap.size w w') : SH row w0 w' I :=
  ⟨grown_trans h.grown (grown_of_below hb row), fun p hp => p.keep w w' (h.says p hp) fun g hg => hb.block g (p.lt w (h.says p hp) g hg), h.new, h.apart⟩
theorem SH.drewN (h : SH row w0 w I) (n : Nat) : SH row w0 (w.drewN n) I := h.below (below_drewN (Below.refl _ _) n)
theorem SH.drew (h : SH row w0 w I) : SH row w0 w.drew I := h.drewN 1
theorem SH.alloc (h : SH row w0 w I) (o : Obj) : SH row w0 (w.alloc o) I := h.below ((Below.refl _ _).alloc (Nat.le_refl _) _)
theorem SH.undrew (h : SH row w0 w.drew I) : SH row w0 w I :=
  ⟨⟨h.grown.os, h.grown.tape, h.grown.output, h.grown.size, h.grown.block⟩, fun p hp => p.keep w.drew w (h.says p hp) fun _ _ => rfl, h.new, h.apart⟩

/-- a new part, in blocks made by a call -/
theorem SH.push (h : SH row w0 w I) (hb : Below w.heap.size w w') (hp : p.says w') (hn : ∀ g, p.on g → w.heap.size ≤ g) : SH row w0 w' (p :: I) := by
  have h' := h.below hb
  refine ⟨h'.grown, ?_, ?_, ?_⟩
  · intro q hq
    rcases List.mem_cons.1 hq with rfl | hq
    · exact hp
    · exact h'.says q hq
  · intro q hq g hg
    rcases List.mem_cons.1 hq with rfl | hq
    · exact .inl (Nat.le_trans h.grown.size (hn g (q.sub g hg)))
    · exact h'.new q hq g hg
  · refine List.pairwise_cons.2 ⟨fun q hq g => ⟨fun h1 h2 => ?_, fun h1 h2 => ?_⟩, h'.apart⟩
    · have := q.lt w (h.says q hq) g h2; have := hn g (p.sub g h1); omega
    · have := q.lt w (h.says q hq) g (q.sub g h1); have := hn g h2; omega

/-- the head is written: it may take up new blocks, and nothing but its own blocks is written -/
theorem SH.write {r : Option Nat} (h : SH row w0 w (p :: I)) (hg : w.grownBy w' r) (hr : ∀ g, r = some g → p.wr g) (hq : q.says w')
    (hon : ∀ g, q.on g → p.on g ∨ w.heap.size ≤ g) (hwr : ∀ g, q.wr g → p.wr g ∨ w.heap.size ≤ g) : SH row w0 w' (q :: I) := by
  have hap := List.pairwise_cons.1 h.apart
  have hsay : ∀ s ∈ I, s.says w := fun s hs => h.says s (List.mem_cons_of_mem _ hs)
  refine ⟨?_, ?_, ?_, ?_⟩
  · refine ⟨hg.os.trans h.grown.os, hg.tape.trans h.grown.tape, hg.output.trans h.grown.output, Nat.le_trans h.grown.size hg.size, fun g hgl hne => ?_⟩
    rw [hg.block g (Nat.lt_of_lt_of_le hgl h.grown.size) ?_]
    · exact h.grown.block g hgl hne
    · intro e
      rcases h.new p (by simp) g (hr g e.symm) with h1 | h1
      · omega
      · exact hne h1.symm
  · intro s hs
    rcases List.mem_cons.1 hs with rfl | hs
    · exact hq
    · refine s.keep w w' (hsay s hs) fun g hgo => ?_
      refine hg.block g (s.lt w (hsay s hs) g hgo) fun e => ?_
      exact ((hap.1 s hs) g).1 (hr g e.symm) hgo
  · intro s hs g hgw
    rcases List.mem_cons.1 hs with rfl | hs
    · rcases hwr g hgw with h1 | h1
      · exact h.new p (by simp) g h1
      · exact .inl (Nat.le_trans h.grown.size h1)
    · exact h.new s (List.mem_cons_of_mem _ hs) g hgw
  · refine List.pairwise_cons.2 ⟨fun s hs g => ⟨fun h1 h2 => ?_, fun h1 h2 => ?_⟩, hap.2⟩
    · rcases hwr g h1 with h3 | h3
      · exact ((hap.1 s hs) g).1 h3 h2
      · have := s.lt w (hsay s hs) g h2; omega
    · rcases hon g h2 with h3 | h3
      · exact ((hap.1 s hs) g).2 h1 h3
      · have := s.lt w (hsay s hs) g (s.sub g h1); omega

/-- the head is seen in another way -/
theorem SH.as (h : SH row w0 w (p :: I)) (hq : q.says w) (hon : ∀ g, q.on g → p.on g) (hwr : ∀ g, q.wr g → p.wr g) : SH row w0 w (q :: I) :=
  h.write (r := none) (World.grownBy.refl _ _) (fun _ h => by cases h) hq (fun g h => .inl (hon g h)) (fun g h => .inl (hwr g h))

/-- the start of a call that only reads what came in -/
theorem SH.start (w : World) (I : List Part) (hI : ∀ p ∈ I, p.says w ∧ ∀ g, ¬ p.wr g) : SH none w w I :=
  ⟨World.grownBy.refl _ _, fun p hp => (hI p hp).1, fun p hp g hg => absurd hg ((hI p hp).2 g), List.Pairwise.imp_of_mem (R := fun _ _ => True) (fun hp hq _ g => ⟨fun h => absurd h ((hI _ hp).2 g), fun h => absurd h ((hI _ hq).2 g)⟩) (List.pairwise_of_forall (fun _ _ => trivial))⟩
theorem SH.start0 (w : World) : SH none w w [] := SH.start w [] (by simp)
theorem SH.add (h : SH none w w I) (hI : ∀ p ∈ I, ∀ g, ¬ p.wr g) (hp : p.says w) (hw : ∀ g, ¬ p.wr g) : SH none w w (p :: I) :=
  SH.start w (p :: I) (fun q hq => by
    rcases List.mem_cons.1 hq with rfl | hq
    · exact ⟨hp, hw⟩
    · exact ⟨h.says q hq, hI q hq⟩)
theorem SH.done (h : SH none w0 w I) : Below w0.heap.size w0 w := below_of_grown h.grown

/-! Contracts by parts. -/
section
variable {P : Program} {fn : FuncId} {args : Array Value}
/-- a call that only reads -/
theorem SH.quiet {v : Value} {W : World} (hs : SH row w0 w I) (hb : Below w.heap.size w W) (hc : SH row w0 W I → Calls P fn args W (RetQ W v)) : Calls P fn args W (fun e w' => e = .returned v ∧ SH row w0 w' I) :=
  (hc (hs.below hb)).mono fun _ _ h => ⟨h.1, (hs.below hb).below h.below⟩
/-- a call that may make memory, and returns what is told without it -/
theorem SH.ret {R : Value → Prop} {W : World} (hs : SH row w0 w I) (hb : Below w.heap.size w W) (hc : SH row w0 W I → Calls P fn args W (Ret W fun v _ => R v)) : Calls P fn args W (fun e w' => ∃ v, e = .returned v ∧ R v ∧ SH row w0 w' I) :=
  (hc (hs.below hb)).mono fun _ _ ⟨v, h1, h2, h3⟩ => ⟨v, h1, h2, (hs.below hb).below h3⟩
end

/-! The parts. -/
/-- numbers that are only read -/
def rdP (k : IntKind) (v : Value) (xs : List Int) : Part where
  says w := RdK k w v xs
  on g := v.ownBlock = some g ∧ 0 < xs.length
  wr _ := False
  sub _ h := h.elim
  lt w h g hg := by
    obtain ⟨a, cap, rfl, _, _, hc⟩ := h
    obtain ⟨b, off, rfl, hcell⟩ := hc 0 hg.2
    have := hg.1
    simp only [Value.ownBlock, Option.some.injEq] at this
    subst this
    exact cell_lt hcell
  keep w w' h hk := by
    rcases Nat.eq_zero_or_pos xs.length with hz | hz
    · obtain ⟨a, cap, rfl, q1, q2, _⟩ := h
      exact ⟨a, cap, rfl, q1, q2, fun i hi => by omega⟩
    · exact RdK.keep h fun g e _ => hk g ⟨e, hz⟩
theorem rdP_wr {k : IntKind} {v : Value} {xs : List Int} : ∀ g, ¬ (rdP k v xs).wr g := fun _ h => h

/-- numbers that the call owns -/
def ownP (k : IntKind) (t : TypeId) (v : Value) (xs : List Int) : Part where
  says w := OwnK k w 0 t v xs
  on g := v.ownBlock = some g
  wr g := v.ownBlock = some g
  sub _ h := h
  lt w h g hg := (OwnK.base h g hg).2
  keep w w' h hk := OwnK.keep h fun g e _ => hk g e

/-- elements of m cells, n of them, that are only read -/
def rdMP (m : Nat) (v : Value) (n : Nat) (c : Nat → Nat → Value) : Part where
  says w := RdM m w v n c ∧ 0 < m
  on g := v.ownBlock = some g ∧ 0 < n
  wr _ := False
  sub _ h := h.elim
  lt w h g hg := by
    obtain ⟨⟨a, cap, rfl, _, _, hc⟩, hm⟩ := h
    obtain ⟨b, off, rfl, hcell⟩ := hc 0 hg.2
    have := hg.1
    simp only [Value.ownBlock, Option.some.injEq] at this
    subst this
    exact cell_lt (hcell 0 hm)
  keep w w' h hk := by
    refine ⟨?_, h.2⟩
    rcases Nat.eq_zero_or_pos n with hz | hz
    · obtain ⟨⟨a, cap, rfl, q1, q2, _⟩, _⟩ := h
      exact ⟨a, cap, rfl, q1, q2, fun i hi => by omega⟩
    · exact RdM.keep h.1 h.2 fun g e _ => hk g ⟨e, hz⟩
theorem rdMP_wr {m : Nat} {v : Value} {n : Nat} {c : Nat → Nat → Value} : ∀ g, ¬ (rdMP m v n c).wr g := fun _ h => h

/-- elements of m cells that the call owns -/
def ownMP (m : Nat) (t : TypeId) (v : Value) (n : Nat) (c : Nat → Nat → Value) : Part where
  says w := OwnM m w 0 t v n c
  on g := v.ownBlock = some g
  wr g := v.ownBlock = some g
  sub _ h := h
  lt w h g hg := (OwnM.base h g hg).2
  keep w w' h hk := OwnM.keep h fun g e _ => hk g e

/-- a block that is known, and may be written -/
def blkP (B : Nat) (c : Array Value) (t : TypeId) : Part where
  says w := w.heap[B]? = some (.cells c t (0, 0))
  on g := g = B
  wr g := g = B
  sub _ h := h
  lt w h g hg := by subst hg; exact blk_lt h
  keep w w' h hk := by rw [hk B rfl]; exact h

/-- the reader -/
def rdrP (g m : Nat) (sv : Value) (bs : List Int) : Part where
  says w := ∃ p : Nat, RdB w sv bs ∧ (∀ i, i < bs.length → 0 ≤ gi bs i ∧ gi bs i ≤ 255) ∧ bs.length ≤ 2000 ∧ (∀ b, sv.ownBlock = some b → 0 < bs.length → b < g) ∧
    w.cell? ⟨g, 0, none⟩ = some sv ∧ w.cell? ⟨g, 1, none⟩ = some (.int .i64 p) ∧ (∀ q, w.frozen? ⟨g, q, none⟩ = false) ∧ p ≤ m
  on q := q = g ∨ (sv.ownBlock = some q ∧ 0 < bs.length)
  wr q := q = g
  sub _ h := .inl h
  lt w h q hq := by
    obtain ⟨p, h1, h2, h3, h4, h5, h6, h7, h8⟩ := h
    rcases hq with rfl | hq
    · exact cell_lt h5
    · exact Nat.lt_trans (h4 q hq.1 hq.2) (cell_lt h5)
  keep w w' h hk := by
    obtain ⟨p, h1, h2, h3, h4, h5, h6, h7, h8⟩ := h
    have e := hk g (.inl rfl)
    refine ⟨p, ?_, h2, h3, h4, ?_, ?_, ?_, h8⟩
    · rcases Nat.eq_zero_or_pos bs.length with hz | hz
      · obtain ⟨a, cap, rfl, q1, q2, _⟩ := h1
        exact ⟨a, cap, rfl, q1, q2, fun i hi => by omega⟩
      · exact RdK.keep h1 fun q e _ => hk q (.inr ⟨e, hz⟩)
    · rw [World.cell?_of_block (w := w) (a := ⟨g, 0, none⟩) e]; exact h5
    · rw [World.cell?_of_block (w := w) (a := ⟨g, 1, none⟩) e]; exact h6
    · intro q; have := h7 q; simpa [World.frozen?, e] using this

theorem rdrP_rdr {g m : Nat} {sv : Value} {bs : List Int} (h : (rdrP g m sv bs).says w) : Rdr w g m := by
  obtain ⟨p, h⟩ := h; exact ⟨sv, bs, p, h⟩

/-- A step of the reader. -/
def PickS (row : Option Nat) (w0 : World) (g m : Nat) (sv : Value) (bs : List Int) (I : List Part) (n : Int) (e : Ending) (w' : World) : Prop :=
  ∃ v : Int, e = .returned (.int .i64 v) ∧ 0 ≤ v ∧ (1 ≤ n → v < n) ∧ (n < 1 → v = 0) ∧ SH row w0 w' (rdrP g (m + 1) sv bs :: I)

theorem rdrP_step {g m : Nat} {sv : Value} {bs : List Int} {p : Nat} (h : SH row w0 w (rdrP g m sv bs :: I)) (h1 : RdB w sv bs) (h2 : ∀ i, i < bs.length → 0 ≤ gi bs i ∧ gi bs i ≤ 255) (h3 : bs.length ≤ 2000) (h4 : ∀ b, sv.ownBlock = some b → 0 < bs.length → b < g)
    (h5 : w.cell? ⟨g, 0, none⟩ = some sv) (h6 : w.cell? ⟨g, 1, none⟩ = some (.int .i64 p)) (h7 : ∀ q, w.frozen? ⟨g, q, none⟩ = false) (h8 : p ≤ m) (k : Nat) :
    SH row w0 ((w.setCell ⟨g, 1, none⟩ (.int .i64 ((p : Int) + 1))).drewN k) (rdrP g (m + 1) sv bs :: I) := by
  refine SH.drewN ?_ k
  have hgr : w.grownBy (w.setCell ⟨g, 1, none⟩ (.int .i64 ((p : Int) + 1))) (some g) :=
    ⟨rfl, rfl, rfl, by simp [World.setCell], fun q _ hq => Below.heap_setCell _ _ _ _ (fun e => hq (by rw [e]))⟩
  have hl : g < w.heap.size := cell_lt h5
  refine h.write hgr (fun q e => (Option.some.inj e).symm) ⟨p + 1, ?_, h2, h3, h4, ?_, ?_, ?_, by omega⟩ (fun q hq => .inl hq) (fun q hq => .inl hq)
  · rcases Nat.eq_zero_or_pos bs.length with hz | hz
    · obtain ⟨a, cap, rfl, q1, q2, _⟩ := h1
      exact ⟨a, cap, rfl, q1, q2, fun i hi => by omega⟩
    · exact h1.grown hgr (fun b hb e => Nat.ne_of_lt (h4 b hb hz) (by simpa using e))
  · go_simp
  · go_simp
  · intro q
    have := h7 q
    go_simp

set_option maxHeartbeats 1000000 in
theorem pick_s (g m : Nat) (n : Int) (w : World) {sv : Value} {bs : List Int} (h : SH row w0 w (rdrP g m sv bs :: I) ∧ m ≤ 1099511627776) (hn : n ≤ 1099511627776) :
    Calls Tryd.prog 36 #[.pointer (some ⟨g, 0, none⟩), .int .i64 n] w (PickS row w0 g m sv bs I n) := by
  obtain ⟨h, hm⟩ := h
  obtain ⟨p, h1, h2, h3, h4, h5, h6, h7, h8⟩ := h.p0
  have HS := Lib.hid (fun k => rdrP_step h h1 h2 h3 h4 h5 h6 h7 h8 k)
  obtain ⟨a, ca, rfl, ml⟩ := h1.form
  have hf := h7 1
  have H1 := Lib.hid h1
  have H2 := Lib.hid h2
  have H4 := Lib.hid h4
  clear h1 h2 h4 h7 h
  by_cases hn1 : n < 1
  · go_enter Tryd.func36, Tryd.ntmps36
    go_wp2
    go_ret
    exact ⟨0, rfl, by omega, by omega, fun _ => rfl, HS.out 0⟩
  by_cases hz : bs.length = 0
  · have hz1 : ((bs.length : Int) == 0) = true := by simp [hz]
    clear hz
    go_enter Tryd.func36, Tryd.ntmps36
    go_wp2
    go_ret
    exact ⟨0, rfl, by omega, by omega, fun _ => rfl, HS.out 0⟩
  have hz1 : ((bs.length : Int) == 0) = false := by simpa using hz
  have hz2 : 0 < bs.length := by omega
  clear hz
  by_cases hp : p < bs.length
  · obtain ⟨b, off, rfl, hc⟩ := H1.out.at_ hp
    have hne : b ≠ g := Nat.ne_of_lt (H4.out b rfl (by omega))
    obtain ⟨r0, r1⟩ := H2.out p hp
    go_enter Tryd.func36, Tryd.ntmps36
    go_wp2
    go_ret
    refine ⟨gi bs p % n, rfl, Int.emod_nonneg _ (by omega), fun _ => Int.emod_lt_of_pos _ (by omega), by omega, HS.out 0⟩
  · have hq1 : p % bs.length < bs.length := Nat.mod_lt _ hz2
    have hq2 : (p * 7 + 3) % bs.length < bs.length := Nat.mod_lt _ hz2
    obtain ⟨b, off, rfl, hc⟩ := H1.out.at_ hq1
    obtain ⟨b', off', he, hc'⟩ := H1.out.at_ hq2
    simp only [Option.some.injEq, Addr.mk.injEq, and_true] at he
    obtain ⟨rfl, rfl⟩ := he
    have hne : b ≠ g := Nat.ne_of_lt (H4.out b rfl (by omega))
    have i1 : 0 ≤ ((p : Int) * 7 + 3) % (bs.length : Int) := Int.emod_nonneg _ (by omega)
    have i2 : ((p : Int) * 7 + 3) % (bs.length : Int) < (bs.length : Int) := Int.emod_lt_of_pos _ (by omega)
    obtain ⟨r0, r1⟩ := H2.out _ hq1
    obtain ⟨r2, r3⟩ := H2.out _ hq2
    have d1 : 0 ≤ (p : Int) / (bs.length : Int) := Int.ediv_nonneg (by omega) (by omega)
    have d2 : (p : Int) / (bs.length : Int) ≤ (p : Int) := Int.ediv_le_self _ (by omega)
    go_enter Tryd.func36, Tryd.ntmps36
    go_wp2
    go_quiet (fail)
    generalize hX : gi bs (p % bs.length) * 131 + gi bs ((p * 7 + 3) % bs.length) * 1117 + (p : Int) * 29 + (p : Int) / (bs.length : Int) * 53 = X
    have x0 : 0 ≤ X := by omega
    have x1 : X ≤ 9223372036854775807 := by omega
    have hY := mixX_bd x0 x1
    unfold mixX at hY
    obtain ⟨y0, y1⟩ := hY
    clear hX hc hc' r0 r1 r2 r3 i1 i2 d1 d2 hq1 hq2
    go_wp2
    go_ret
    exact ⟨_, rfl, Int.emod_nonneg _ (by omega), fun _ => Int.emod_lt_of_pos _ (by omega), by omega, HS.out _⟩

/-- 'odd': the same, with a bool; false for 0. -/
def OddS (row : Option Nat) (w0 : World) (g m : Nat) (sv : Value) (bs : List Int) (I : List Part) (n : Int) (e : Ending) (w' : World) : Prop :=
  ∃ v : Bool, e = .returned (.bool v) ∧ (n ≤ 0 → v = false) ∧ SH row w0 w' (rdrP g (m + 1) sv bs :: I)

theorem rdrP_mono {g m m' : Nat} {sv : Value} {bs : List Int} (h : SH row w0 w (rdrP g m sv bs :: I)) (hm : m ≤ m') : SH row w0 w (rdrP g m' sv bs :: I) := by
  obtain ⟨p, h1, h2, h3, h4, h5, h6, h7, h8⟩ := h.p0
  exact h.as ⟨p, h1, h2, h3, h4, h5, h6, h7, Nat.le_trans h8 hm⟩ (fun _ h => h) (fun _ h => h)

theorem odd_s (g m : Nat) (n : Int) (w : World) {sv : Value} {bs : List Int} (h : SH row w0 w (rdrP g m sv bs :: I) ∧ m ≤ 1099511627776) (hn : n ≤ 1099511627776) :
    Calls Tryd.prog 35 #[.pointer (some ⟨g, 0, none⟩), .int .i64 n] w (OddS row w0 g m sv bs I n) := by
  have H := Lib.hid h
  clear h
  by_cases hn0 : 0 < n
  · go_enter Tryd.func35, Tryd.ntmps35
    go_wp2_with fail
    refine (pick_s g m n _ H.out hn).mono ?_
    rintro e w1 ⟨v, rfl, hv0, hv1, hv2, hr⟩
    have HR := Lib.hid hr
    clear hr hv1 hv2
    go_wp2
    go_ret
    exact ⟨_, rfl, fun h => by omega, HR.out⟩
  · go_enter Tryd.func35, Tryd.ntmps35
    go_wp2
    go_ret
    exact ⟨_, rfl, fun _ => rfl, rdrP_mono H.out.1 (by omega)⟩

theorem ownBlock_lt {k : IntKind} {v : Value} {xs : List Int} (h : RdK k w v xs) (hx : 0 < xs.length) {b : Nat} (e : v.ownBlock = some b) : b < w.heap.size := (rdP k v xs).lt w h b ⟨e, hx⟩

theorem rdrP_new {sv : Value} {bs cs : List Int} {va : Value} {t : TypeId} (hs : SH row w0 w (rdP .u8 va cs :: I)) (h : RdB w sv bs) (hb : ∀ n ∈ bs, (Lit.int .u8 n).wf = true) (hl : bs.length ≤ 2000)
    (hv : sv.ownBlock = va.ownBlock) (hc : bs.length ≤ cs.length) :
    SH row w0 (w.alloc (.cells #[sv, .int .i64 0] t)) (rdrP w.heap.size 0 sv bs :: rdP .u8 va cs :: I) := by
  have hbel : Below w.heap.size w (w.alloc (.cells #[sv, .int .i64 0] t)) := (Below.refl _ _).alloc (Nat.le_refl _) _
  have h' := hs.below hbel
  have hap := List.pairwise_cons.1 hs.apart
  refine ⟨h'.grown, ?_, ?_, ?_⟩
  · intro q hq
    rcases List.mem_cons.1 hq with rfl | hq
    · refine ⟨0, h.below hbel, ?_, hl, ?_, World.cell?_alloc_at _ _ _ _ rfl, World.cell?_alloc_at _ _ _ _ rfl, fun q => World.frozen?_alloc_at _ _ _ _ rfl, Nat.le_refl _⟩
      · intro i hi
        have := hb (gi bs i) (by rw [gi_lt hi]; exact List.getElem_mem hi)
        simp only [Lit.wf, IntKind.min, IntKind.max, IntKind.signed, IntKind.bits, Bool.and_eq_true, decide_eq_true_eq] at this
        simp at this
        omega
      · intro b e hz; exact ownBlock_lt h hz e
    · exact h'.says q hq
  · intro q hq g hg
    rcases List.mem_cons.1 hq with rfl | hq
    · have e : g = w.heap.size := hg
      subst e
      exact .inl hs.grown.size
    · exact h'.new q hq g hg
  · refine List.pairwise_cons.2 ⟨fun q hq g => ⟨fun h1 h2 => ?_, fun h1 h2 => ?_⟩, h'.apart⟩
    · have e : g = w.heap.size := h1
      subst e
      exact absurd (q.lt w (hs.says q hq) _ h2) (Nat.lt_irrefl _)
    · rcases h2 with rfl | h2
      · exact absurd (q.lt w (hs.says q hq) _ (q.sub _ h1)) (Nat.lt_irrefl _)
      · have hon : (rdP .u8 va cs).on g := ⟨hv ▸ h2.1, by omega⟩
        rcases List.mem_cons.1 hq with rfl | hq
        · exact h1
        · exact ((hap.1 q hq) g).2 h1 hon

/-- l20Open: a reader in a new block. -/
theorem open_s (va : Value) (cs : List Int) (w : World) (hs : SH row w0 w (rdP .u8 va cs :: I)) (hb : ∀ n ∈ cs, (Lit.int .u8 n).wf = true) :
    Calls Tryd.prog 34 #[va] w (fun e w' => ∃ g sv bs, e = .returned (.pointer (some ⟨g, 0, none⟩)) ∧ SH row w0 w' (rdrP g 0 sv bs :: rdP .u8 va cs :: I)) := by
  have h : RdB w va cs := hs.p0
  obtain ⟨a, ca, rfl, hca, ml⟩ := h.form'
  by_cases hl : 2000 < cs.length
  · have HR := Lib.hid (rdrP_new (t := 68) hs (h.take (m := 2000) (by omega)) (fun n hn => hb n (List.mem_of_mem_take hn)) (by simp; omega) (by cases a <;> rfl) (by simp; omega))
    clear h hb hs
    go_enter Tryd.func34, Tryd.ntmps34
    go_wp2
    go_ret
    exact ⟨_, _, _, rfl, HR.out⟩
  · have HR := Lib.hid (rdrP_new (t := 68) hs h hb (by omega) rfl (Nat.le_refl _))
    clear h hb hs
    go_enter Tryd.func34, Tryd.ntmps34
    go_wp2
    go_ret
    exact ⟨_, _, _, rfl, HR.out⟩


/-! Memory of the call's own. -/
theorem SH.allocP (h : SH row w0 w I) (c : Array Value) (t : TypeId) : SH row w0 (w.alloc (.cells c t)) (blkP w.heap.size c t :: I) :=
  h.push ((Below.refl _ _).alloc (Nat.le_refl _) _) (blk_at rfl) (fun g hg => by have e : g = w.heap.size := hg; subst e; exact Nat.le_refl _)
theorem SH.allocP1 (h : SH row w0 w (a :: I)) (c : Array Value) (t : TypeId) : SH row w0 (w.alloc (.cells c t)) (a :: blkP w.heap.size c t :: I) := (h.allocP c t).bring1
/-- a new slice -/
theorem SH.pushOwn {k : IntKind} {t : TypeId} {v : Value} {xs : List Int} (h : SH row w0 w I) (hb : Below w.heap.size w w') (ho : OwnK k w' w.heap.size t v xs) : SH row w0 w' (ownP k t v xs :: I) :=
  h.push hb (ho.mono (Nat.zero_le _)) (fun g e => (ho.base g e).1)
theorem SH.pushOwnM {m : Nat} {t : TypeId} {v : Value} {n : Nat} {c : Nat → Nat → Value} (h : SH row w0 w I) (hb : Below w.heap.size w w') (ho : OwnM m w' w.heap.size t v n c) : SH row w0 w' (ownMP m t v n c :: I) :=
  h.push hb (ho.mono (Nat.zero_le _)) (fun g e => (ho.base g e).1)
section
variable {P : Program} {fn : FuncId} {args : Array Value} {W : World}
/-- a call that returns a new slice -/
theorem SH.own {k : IntKind} {t : TypeId} {xs : List Int} (hs : SH row w0 w I) (hb : Below w.heap.size w W) (hc : SH row w0 W I → Calls P fn args W (Ret W fun v w' => OwnK k w' W.heap.size t v xs)) : Calls P fn args W (fun e w' => ∃ v, e = .returned v ∧ SH row w0 w' (ownP k t v xs :: I)) :=
  (hc (hs.below hb)).mono fun _ _ ⟨v, h1, h2, h3⟩ => ⟨v, h1, (hs.below hb).pushOwn h3 h2⟩
theorem SH.ownE {k : IntKind} {t : TypeId} {C : List Int → Prop} (hs : SH row w0 w I) (hb : Below w.heap.size w W) (hc : SH row w0 W I → Calls P fn args W (Ret W fun v w' => ∃ xs, OwnK k w' W.heap.size t v xs ∧ C xs)) : Calls P fn args W (fun e w' => ∃ v xs, e = .returned v ∧ C xs ∧ SH row w0 w' (ownP k t v xs :: I)) :=
  (hc (hs.below hb)).mono fun _ _ ⟨v, h1, ⟨xs, h2, h4⟩, h3⟩ => ⟨v, xs, h1, h4, (hs.below hb).pushOwn h3 h2⟩
theorem SH.ownM {m : Nat} {t : TypeId} {n : Nat} {c : Nat → Nat → Value} (hs : SH row w0 w I) (hb : Below w.heap.size w W) (hc : SH row w0 W I → Calls P fn args W (Ret W fun v w' => OwnM m w' W.heap.size t v n c)) : Calls P fn args W (fun e w' => ∃ v, e = .returned v ∧ SH row w0 w' (ownMP m t v n c :: I)) :=
  (hc (hs.below hb)).mono fun _ _ ⟨v, h1, h2, h3⟩ => ⟨v, h1, (hs.below hb).pushOwnM h3 h2⟩
/-- a call that writes into a slice of the call's own -/
theorem SH.writes {k : IntKind} {t : TypeId} {va r : Value} {xs ys : List Int} (hs : SH row w0 w (ownP k t va xs :: I)) (hb : Below w.heap.size w W) (hc : SH row w0 W (ownP k t va xs :: I) → Calls P fn args W (fun e w' => e = .returned r ∧ OwnK k w' 0 t va ys ∧ W.grownBy w' va.ownBlock)) : Calls P fn args W (fun e w' => e = .returned r ∧ SH row w0 w' (ownP k t va ys :: I)) :=
  (hc (hs.below hb)).mono fun _ _ ⟨h1, h2, h3⟩ => ⟨h1, (hs.below hb).write (q := ownP k t va ys) h3 (fun _ e => e) h2 (fun _ e => .inl e) (fun _ e => .inl e)⟩
theorem SH.writesM {m : Nat} {t : TypeId} {va r : Value} {n n' : Nat} {c d : Nat → Nat → Value} (hs : SH row w0 w (ownMP m t va n c :: I)) (hb : Below w.heap.size w W) (hc : SH row w0 W (ownMP m t va n c :: I) → Calls P fn args W (fun e w' => e = .returned r ∧ OwnM m w' 0 t va n' d ∧ W.grownBy w' va.ownBlock)) : Calls P fn args W (fun e w' => e = .returned r ∧ SH row w0 w' (ownMP m t va n' d :: I)) :=
  (hc (hs.below hb)).mono fun _ _ ⟨h1, h2, h3⟩ => ⟨h1, (hs.below hb).write (q := ownMP m t va n' d) h3 (fun _ e => e) h2 (fun _ e => .inl e) (fun _ e => .inl e)⟩
end
/-- what a call's own slice is, told to its caller -/
theorem SH.ownRet {k : IntKind} {t : TypeId} {v : Value} {xs : List Int} (h : SH none w0 w (ownP k t v xs :: I)) : OwnK k w w0.heap.size t v xs := by
  have hn := h.new (ownP k t v xs) (by simp)
  have ho : OwnK k w 0 t v xs := h.p0
  obtain ⟨h1, h2⟩ := ho
  refine ⟨h1, ?_⟩
  rcases h2 with h2 | ⟨g, cap, cur, hv, hg, hh, r⟩
  · exact .inl h2
  · refine .inr ⟨g, cap, cur, hv, ?_, hh, r⟩
    rcases hn g (show v.ownBlock = some g by rw [hv]; rfl) with h | h
    · exact h
    · cases h
theorem SH.ownRetM {m : Nat} {t : TypeId} {v : Value} {n : Nat} {c : Nat → Nat → Value} (h : SH none w0 w (ownMP m t v n c :: I)) : OwnM m w w0.heap.size t v n c := by
  have hn := h.new (ownMP m t v n c) (by simp)
  have ho : OwnM m w 0 t v n c := h.p0
  obtain ⟨h1, h2⟩ := ho
  refine ⟨h1, ?_⟩
  rcases h2 with h2 | ⟨g, cap, cur, hv, hg, hh, r⟩
  · exact .inl h2
  · refine .inr ⟨g, cap, cur, hv, ?_, hh, r⟩
    rcases hn g (show v.ownBlock = some g by rw [hv]; rfl) with h | h
    · exact h
    · cases h
/-- an empty slice, nil or not -/
theorem SH.ownNil (h : SH row w0 w I) (k : IntKind) (t : TypeId) : SH row w0 w (ownP k t (.slice none 0 0) [] :: I) :=
  h.push (Below.refl _ _) (OwnK.nil k w 0 t) (fun g e => by cases e)
theorem SH.ownEmpty (h : SH row w0 w I) (k : IntKind) (t : TypeId) : SH row w0 (w.alloc (.cells #[] t)) (ownP k t (.slice (some ⟨w.heap.size, 0, none⟩) 0 0) [] :: I) :=
  h.pushOwn ((Below.refl _ _).alloc (Nat.le_refl _) _) (OwnK.empty k w w.heap.size t (Nat.le_refl _))
theorem SH.ownEmptyM (h : SH row w0 w I) (m : Nat) (hm : 0 < m) (t : TypeId) (c : Nat → Nat → Value) : SH row w0 (w.alloc (.cells #[] t)) (ownMP m t (.slice (some ⟨w.heap.size, 0, none⟩) 0 0) 0 c :: I) :=
  h.pushOwnM ((Below.refl _ _).alloc (Nat.le_refl _) _) (by
    have := World.ownsRow_lit (base := w.heap.size) (e := t) (size := m) w #[] 0 (Nat.le_refl _) (by decide) (by simp)
    simpa [OwnM, flatC] using this)
theorem SH.ownNilM (h : SH row w0 w I) (m : Nat) (t : TypeId) (c : Nat → Nat → Value) : SH row w0 w (ownMP m t (.slice none 0 0) 0 c :: I) :=
  h.push (Below.refl _ _) (OwnM.nil m w 0 t c) (fun g e => by cases e)
/-- a store into a slice of the call's own -/
theorem SH.setOwn {k : IntKind} {t : TypeId} {g n cap : Nat} {xs : List Int} (h : SH row w0 w (ownP k t (.slice (some ⟨g, 0, none⟩) n cap) xs :: I)) {i : Nat} (hi : i < n) (x : Int) :
    SH row w0 (w.setCell ⟨g, i, none⟩ (.int k x)) (ownP k t (.slice (some ⟨g, 0, none⟩) n cap) (xs.set i x) :: I) :=
  h.write (r := some g) ⟨rfl, rfl, rfl, by simp [World.setCell], fun q _ hq => Below.heap_setCell _ _ _ _ (fun e => hq (by rw [e]))⟩ (fun q e => e) (OwnK.set h.p0 hi x) (fun g h => .inl h) (fun g h => .inl h)
theorem SH.setOwnM {m : Nat} {t : TypeId} {g n n' cap : Nat} {c : Nat → Nat → Value} (h : SH row w0 w (ownMP m t (.slice (some ⟨g, 0, none⟩) n' cap) n c :: I)) {i j : Nat} (hi : i < n) (hj : j < m) (x : Value) :
    SH row w0 (w.setCell ⟨g, i * m + j, none⟩ x) (ownMP m t (.slice (some ⟨g, 0, none⟩) n' cap) n (updC c i (fun j' => if j' = j then x else c i j')) :: I) :=
  h.write (r := some g) ⟨rfl, rfl, rfl, by simp [World.setCell], fun q _ hq => Below.heap_setCell _ _ _ _ (fun e => hq (by rw [e]))⟩ (fun q e => e) (OwnM.set1 h.p0 hi hj x) (fun g h => .inl h) (fun g h => .inl h)
theorem own_on {k : IntKind} {t : TypeId} {v v' : Value} {xs ys : List Int} {H : Nat} (hl : ∀ g, v'.ownBlock = some g → v.ownBlock = some g ∨ H ≤ g) :
    (∀ g, (ownP k t v' ys).on g → (ownP k t v xs).on g ∨ H ≤ g) := hl

section
variable {P : Program} {ops : Array Oper} {rest : List Oper} {o : Oper} {a' : Act} {Q : Exit → Act → World → Prop}
/-- 'append(s, x)': one number, from its new cell. -/
theorem wp_app1S (hgd : o.guard = none) {s x : Operand} {t : TypeId}
    (ho : o.op = .call { callee := .builtin .append, args := #[s, x], argTypes := #[t, t] }) (k : IntKind)
    (e bytes : Nat) (h1 : P.underlying t = some (.slice e)) (hinfo : (P.info? e).map (fun i => (i.zero, i.size, i.bytes)) = some (some (.int k 0), 1, bytes))
    {v : Value} {xs : List Int} (y : Int) (hs : a'.eval s = v) (hown : SH row w0 w (ownP k e v xs :: I))
    {ad : Addr} {c : Nat} (hx : a'.eval x = .slice (some ad) 1 c) (hcell : w.cell? ad = some (.int k y))
    (hbytes : (xs.length + 1) * bytes ≤ 140737488355328) (h63 : xs.length + 1 ≤ maxLen)
    (h : ∀ v' w', SH row w0 w' (ownP k e v' (xs ++ [y]) :: I) → wpList P ops Q rest (a'.put o.dst v') w') : wpList P ops Q (o :: rest) a' w := by
  obtain ⟨i, h2, h3, h4, h5⟩ := info_parts hinfo
  refine wpList_append_own_at w hgd s x t ho 0 e i (.int k 0) 1 bytes h1 h2 h3 h4 h5 rfl (by decide) v xs.length (xs.map (Value.int k)) hs hown.p0 ad 1 c [.int k y] hx rfl ?_ ?_ h63 hbytes (Nat.zero_le _) ?_
  · intro j u hj
    cases j with
    | zero => simp at hj; subst hj; exact hcell
    | succ j => simp at hj
  · intro u hu; simp at hu; subst hu; rfl
  · intro v' w' h1' h2' _ h3'
    have hO : OwnK k w' 0 e v' (xs ++ [y]) := by unfold OwnK; simpa using h1'
    have hl : ∀ g, v'.ownBlock = some g → v.ownBlock = some g ∨ w.heap.size ≤ g := by
      intro g hg
      rcases h3' with e | e
      · exact .inl (e ▸ hg)
      · rw [e] at hg; right; have := Option.some.inj hg; omega
    exact h v' w' (hown.write (q := ownP k e v' (xs ++ [y])) h2' (fun g e => e) hO hl hl)

/-- the same, of elements of m cells -/
theorem wp_app1MS (hgd : o.guard = none) {s x : Operand} {t : TypeId}
    (ho : o.op = .call { callee := .builtin .append, args := #[s, x], argTypes := #[t, t] })
    (e bytes m : Nat) (z : Value) (h1 : P.underlying t = some (.slice e)) (hinfo : (P.info? e).map (fun i => (i.zero, i.size, i.bytes)) = some (some z, m, bytes)) (hzm : z.cells.size = m) (hm : 0 < m)
    {v : Value} {n : Nat} {f : Nat → Nat → Value} (r : Nat → Value) (hs : a'.eval s = v) (hown : SH row w0 w (ownMP m e v n f :: I))
    {b' : Nat} {c : Nat} (hx : a'.eval x = .slice (some ⟨b', 0, none⟩) 1 c) (hcell : ∀ j, j < m → w.cell? ⟨b', j, none⟩ = some (r j)) (h1c : ∀ j, j < m → (r j).oneCell' = true)
    (hbytes : (n + 1) * bytes ≤ 140737488355328) (h63 : n + 1 ≤ maxLen)
    (h : ∀ v' w', SH row w0 w' (ownMP m e v' (n + 1) (updC f n r) :: I) → wpList P ops Q rest (a'.put o.dst v') w') : wpList P ops Q (o :: rest) a' w := by
  obtain ⟨i, h2, h3, h4, h5⟩ := info_parts hinfo
  refine wpList_append_own_at w hgd s x t ho 0 e i z m bytes h1 h2 h3 h4 h5 hzm hm v n (flatC m n f) hs hown.p0 ⟨b', 0, none⟩ 1 c ((List.range m).map r) hx (by simp) ?_ ?_ h63 hbytes (Nat.zero_le _) ?_
  · intro j u hj
    rw [List.getElem?_map] at hj
    rcases Nat.lt_or_ge j m with h | h
    · simp [h] at hj; subst hj
      have e1 : (⟨b', 0, none⟩ : Addr).add j = ⟨b', j, none⟩ := by
        unfold Addr.add; split
        · next e => subst e; rfl
        · simp
      rw [e1]; exact hcell j h
    · simp [h] at hj
  · intro u hu
    rw [List.mem_map] at hu
    obtain ⟨j, hj, rfl⟩ := hu
    exact h1c j (List.mem_range.1 hj)
  · intro v' w' h1' h2' _ h3'
    have hO : OwnM m w' 0 e v' (n + 1) (updC f n r) := by unfold OwnM; rw [flatC_snoc]; exact h1'
    have hl : ∀ g, v'.ownBlock = some g → v.ownBlock = some g ∨ w.heap.size ≤ g := by
      intro g hg
      rcases h3' with e | e
      · exact .inl (e ▸ hg)
      · rw [e] at hg; right; have := Option.some.inj hg; omega
    exact h v' w' (hown.write (q := ownMP m e v' (n + 1) (updC f n r)) h2' (fun g e => e) hO hl hl)
end

theorem SH.congrM {m : Nat} {t : TypeId} {v : Value} {n : Nat} {c c' : Nat → Nat → Value} (h : SH row w0 w (ownMP m t v n c :: I)) (hc : ∀ i j, i < n → j < m → c i j = c' i j) : SH row w0 w (ownMP m t v n c' :: I) :=
  h.as (q := ownMP m t v n c') (OwnM.congr h.p0 hc) (fun _ h => h) (fun _ h => h)

end Go.Proofs.YtjgafkoboolclaaDoor
