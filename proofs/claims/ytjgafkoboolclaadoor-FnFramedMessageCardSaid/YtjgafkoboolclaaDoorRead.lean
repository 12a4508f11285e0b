import Derived.Test.YtjgafkoboolclaaDoorProg
import Derived.Test.YtjgafkoboolclaaDoorLib
import Derived.Test.YtjgafkoboolclaaDoorNum
namespace Go.Proofs.YtjgafkoboolclaaDoor
open Go.RowKit

theorem ofInt64_nat (a : Nat) (ha : a < 9223372036854775808) : (BitVec.ofInt 64 (a : Int)).toNat = a := by
  rw [BitVec.ofInt_natCast, BitVec.toNat_ofNat]; exact Nat.mod_eq_of_lt (by omega)

theorem i64_xor_nat (a b : Nat) (ha : a < 9223372036854775808) (hb : b < 9223372036854775808) : bits .xor .i64 (a : Int) (b : Int) = ((a ^^^ b : Nat) : Int) := by
  have hx : a ^^^ b < 2 ^ 63 := Nat.xor_lt_two_pow (by omega) (by omega)
  show IntKind.i64.wrap ((BitVec.ofInt 64 (a : Int) ^^^ BitVec.ofInt 64 (b : Int)).toNat : Int) = _
  rw [BitVec.toNat_xor, ofInt64_nat a ha, ofInt64_nat b hb, IntKind.wrap_i64]
  omega

/-- x ^ x/64 is not negative where x is not -/
def mixX (x : Int) : Int := bits .xor .i64 x (x / 64)
theorem mixX_bd {x : Int} (h0 : 0 ≤ x) (h1 : x ≤ 9223372036854775807) : 0 ≤ mixX x ∧ mixX x ≤ 9223372036854775807 := by
  obtain ⟨n, rfl⟩ := Int.eq_ofNat_of_zero_le h0
  have d : ((n : Int) / 64) = ((n / 64 : Nat) : Int) := by omega
  unfold mixX
  rw [d, i64_xor_nat n (n / 64) (by omega) (by omega)]
  have hx : n ^^^ (n / 64) < 2 ^ 63 := Nat.xor_lt_two_pow (by omega) (by omega)
  omega

/-- The reader of a code, in block g: it has made at most m steps. -/
def Rdr (w : World) (g m : Nat) : Prop :=
  ∃ (sv : Value) (bs : List Int) (p : Nat), RdB w sv bs ∧ (∀ i, i < bs.length → 0 ≤ gi bs i ∧ gi bs i ≤ 255) ∧ bs.length ≤ 2000 ∧ (∀ b, sv.ownBlock = some b → 0 < bs.length → b < g) ∧
    w.cell? ⟨g, 0, none⟩ = some sv ∧ w.cell? ⟨g, 1, none⟩ = some (.int .i64 p) ∧ (∀ q, w.frozen? ⟨g, q, none⟩ = false) ∧ p ≤ m

theorem Rdr.mono {w : World} {g m m' : Nat} (h : Rdr w g m) (hm : m ≤ m') : Rdr w g m' := by
  obtain ⟨sv, bs, p, h1, h2, h3, h4, h5, h6, h7, h8⟩ := h
  exact ⟨sv, bs, p, h1, h2, h3, h4, h5, h6, h7, Nat.le_trans h8 hm⟩

theorem Rdr.lt {w : World} {g m : Nat} (h : Rdr w g m) : g < w.heap.size := by
  obtain ⟨sv, bs, p, h1, h2, h3, h4, h5, h6, h7, h8⟩ := h
  exact cell_lt h5

theorem Rdr.below {w w' : World} {g m : Nat} (h : Rdr w g m) (hb : Below w.heap.size w w') : Rdr w' g m := by
  have hl := h.lt
  obtain ⟨sv, bs, p, h1, h2, h3, h4, h5, h6, h7, h8⟩ := h
  exact ⟨sv, bs, p, h1.below hb, h2, h3, h4, by rw [hb.cell hl]; exact h5, by rw [hb.cell hl]; exact h6, fun q => by rw [hb.frozen hl]; exact h7 q, h8⟩

theorem Rdr.belowB {B : Nat} {w w' : World} {g m : Nat} (h : Rdr w g m) (hB : g < B) (hb : Below B w w') : Rdr w' g m := by
  obtain ⟨sv, bs, p, h1, h2, h3, h4, h5, h6, h7, h8⟩ := h
  refine ⟨sv, bs, p, ?_, h2, h3, h4, by rw [hb.cell hB]; exact h5, by rw [hb.cell hB]; exact h6, fun q => by rw [hb.frozen hB]; exact h7 q, h8⟩
  rcases Nat.eq_zero_or_pos bs.length with hz | hz
  · obtain ⟨a, cap, rfl, q1, q2, _⟩ := h1
    exact ⟨a, cap, rfl, q1, q2, fun i hi => by omega⟩
  · exact h1.keep fun b e _ => hb.block b (Nat.lt_trans (h4 b e hz) hB)

theorem grown_trans {a b c : World} {row : Option Nat} (h : a.grownBy b row) (k : b.grownBy c row) : a.grownBy c row :=
  ⟨k.os.trans h.os, k.tape.trans h.tape, k.output.trans h.output, Nat.le_trans h.size k.size, fun i hi hne => (k.block i (Nat.lt_of_lt_of_le hi h.size) hne).trans (h.block i hi hne)⟩
theorem grown_step {w wc W w1 : World} {row : Option Nat} (h : w.grownBy wc row) (hb : Below wc.heap.size wc W) (k : W.grownBy w1 row) : w.grownBy w1 row :=
  grown_trans h (grown_trans ⟨hb.os, hb.tape, hb.output, hb.size, fun i hi _ => hb.block i hi⟩ k)
theorem grown_stepB {w wc W w1 : World} {row : Option Nat} (h : w.grownBy wc row) (hb : Below w.heap.size wc W) (k : W.grownBy w1 row) : w.grownBy w1 row :=
  grown_trans ⟨hb.os.trans h.os, hb.tape.trans h.tape, hb.output.trans h.output, Nat.le_trans h.size hb.size, fun i hi hne => (hb.block i hi).trans (h.block i hi hne)⟩ k
theorem grown_below {w wc W : World} {row : Option Nat} (h : w.grownBy wc row) (hb : Below w.heap.size wc W) : w.grownBy W row :=
  ⟨hb.os.trans h.os, hb.tape.trans h.tape, hb.output.trans h.output, Nat.le_trans h.size hb.size, fun i hi hne => (hb.block i hi).trans (h.block i hi hne)⟩
/-- A block that is not the reader's stays as it is. -/
theorem blk_step {wc W w1 : World} {g B : Nat} {o : Obj} (h : wc.heap[B]? = some o) (hne : B ≠ g) (hb : Below wc.heap.size wc W) (k : W.grownBy w1 (some g)) : w1.heap[B]? = some o := by
  have hl : B < wc.heap.size := by
    rcases Nat.lt_or_ge B wc.heap.size with h' | h'
    · exact h'
    · simp [Array.getElem?_eq_none h'] at h
  rw [k.block B (Nat.lt_of_lt_of_le hl hb.size) (by simpa using hne), hb.block B hl]; exact h
theorem blk_lt {w : World} {B : Nat} {o : Obj} (h : w.heap[B]? = some o) : B < w.heap.size := by
  rcases Nat.lt_or_ge B w.heap.size with h' | h'
  · exact h'
  · simp [Array.getElem?_eq_none h'] at h
theorem blk_new {w : World} {o : Obj} : (w.alloc o).heap[w.heap.size]? = some o := heap_alloc_new w o
theorem blk_at {w : World} {o : Obj} {B : Nat} (h : B = w.heap.size) : (w.alloc o).heap[B]? = some o := by subst h; exact heap_alloc_new w o
theorem blk_old {w : World} {o o' : Obj} {B : Nat} (h : w.heap[B]? = some o) : (w.alloc o').heap[B]? = some o := by
  rw [Below.heap_alloc _ _ _ (blk_lt h)]; exact h
theorem blk_keep {w w' : World} {B : Nat} {o : Obj} (h : w.heap[B]? = some o) (hb : Below w.heap.size w w') : w'.heap[B]? = some o := by
  rw [hb.block B (blk_lt h)]; exact h
theorem below_via {w W w' : World} (h0 : Below w.heap.size w W) (h : Below W.heap.size W w') : Below w.heap.size w w' := h0.trans (h.mono h0.size)
/-- A block that is known: its cells, and that they may be written. -/
theorem blk_cell {w : World} {B : Nat} {c : Array Value} {t : TypeId} (h : w.heap[B]? = some (.cells c t (0, 0))) (i : Nat) : w.cell? ⟨B, i, none⟩ = c[i]? := by simp [World.cell?, h]
theorem blk_frozen {w : World} {B : Nat} {c : Array Value} {t : TypeId} (h : w.heap[B]? = some (.cells c t (0, 0))) (i : Nat) : w.frozen? ⟨B, i, none⟩ = false := by simp [World.frozen?, h]
/-- a list of numbers in a block -/
theorem blk_lit {w : World} {B : Nat} {L : List Int} {t : TypeId} (h : w.heap[B]? = some (.cells (L.map (Value.int .i64)).toArray t (0, 0))) {i : Nat} (hi : i < L.length) : w.cell? ⟨B, i, none⟩ = some (.int .i64 (gi L i)) := by
  rw [blk_cell h]; simp [gi, hi]

/-- What a step of the reader comes to: a number, and the world but for the reader's own block. -/
def PickR (w : World) (g m : Nat) (n : Int) (e : Ending) (w' : World) : Prop :=
  ∃ v : Int, e = .returned (.int .i64 v) ∧ 0 ≤ v ∧ (1 ≤ n → v < n) ∧ (n < 1 → v = 0) ∧ Rdr w' g (m + 1) ∧ w.grownBy w' (some g)

theorem rdr_step {w : World} {g m : Nat} {sv : Value} {bs : List Int} {p : Nat} (h1 : RdB w sv bs) (h2 : ∀ i, i < bs.length → 0 ≤ gi bs i ∧ gi bs i ≤ 255) (h3 : bs.length ≤ 2000) (h4 : ∀ b, sv.ownBlock = some b → 0 < bs.length → b < g)
    (h5 : w.cell? ⟨g, 0, none⟩ = some sv) (h6 : w.cell? ⟨g, 1, none⟩ = some (.int .i64 p)) (h7 : ∀ q, w.frozen? ⟨g, q, none⟩ = false) (h8 : p ≤ m) (k : Nat) :
    Rdr ((w.setCell ⟨g, 1, none⟩ (.int .i64 ((p : Int) + 1))).drewN k) g (m + 1) ∧ w.grownBy ((w.setCell ⟨g, 1, none⟩ (.int .i64 ((p : Int) + 1))).drewN k) (some g) := by
  have hgr : w.grownBy (w.setCell ⟨g, 1, none⟩ (.int .i64 ((p : Int) + 1))) (some g) :=
    ⟨rfl, rfl, rfl, by simp [World.setCell], fun q _ hq => Below.heap_setCell _ _ _ _ (fun e => hq (by rw [e]))⟩
  have hl : g < w.heap.size := cell_lt h5
  refine ⟨⟨sv, bs, p + 1, ?_, h2, h3, h4, ?_, ?_, ?_, by omega⟩, ⟨hgr.os, hgr.tape, hgr.output, hgr.size, hgr.block⟩⟩
  · refine RdK.drewN ?_ k
    rcases Nat.eq_zero_or_pos bs.length with hz | hz
    · obtain ⟨a, cap, rfl, q1, q2, _⟩ := h1
      exact ⟨a, cap, rfl, q1, q2, fun i hi => by omega⟩
    · exact h1.grown hgr (fun b hb e => Nat.ne_of_lt (h4 b hb hz) (by simpa using e))
  · show (w.setCell ⟨g, 1, none⟩ (.int .i64 ((p : Int) + 1))).cell? ⟨g, 0, none⟩ = some sv
    go_simp
  · show (w.setCell ⟨g, 1, none⟩ (.int .i64 ((p : Int) + 1))).cell? ⟨g, 1, none⟩ = _
    go_simp
  · intro q
    show (w.setCell ⟨g, 1, none⟩ (.int .i64 ((p : Int) + 1))).frozen? ⟨g, q, none⟩ = false
    have := h7 q
    go_simp

set_option maxHeartbeats 1000000 in
theorem pick_c (g m : Nat) (n : Int) (w : World) (h : Rdr w g m) (hm : m ≤ 1099511627776) (hn : n ≤ 1099511627776) :
    Calls Tryd.prog 36 #[.pointer (some ⟨g, 0, none⟩), .int .i64 n] w (PickR w g m n) := by
  obtain ⟨sv, bs, p, h1, h2, h3, h4, h5, h6, h7, h8⟩ := h
  have HS := Lib.hid (fun k => rdr_step h1 h2 h3 h4 h5 h6 h7 h8 k)
  obtain ⟨a, ca, rfl, ml⟩ := h1.form
  have hf := h7 1
  have H1 := Lib.hid h1
  have H2 := Lib.hid h2
  have H4 := Lib.hid h4
  clear h1 h2 h4 h7
  by_cases hn1 : n < 1
  · go_enter Tryd.func36, Tryd.ntmps36
    go_wp2
    go_ret
    exact ⟨0, rfl, by omega, by omega, fun _ => rfl, (HS.out 0).1, (HS.out 0).2⟩
  by_cases hz : bs.length = 0
  · have hz1 : ((bs.length : Int) == 0) = true := by simp [hz]
    clear hz
    go_enter Tryd.func36, Tryd.ntmps36
    go_wp2
    go_ret
    exact ⟨0, rfl, by omega, by omega, fun _ => rfl, (HS.out 0).1, (HS.out 0).2⟩
  have hz1 : ((bs.length : Int) == 0) = false := by simpa using hz
  have hz2 : 0 < bs.length := by omega
  clear hz
  by_cases hp : p < bs.length
  · obtain ⟨b, off, rfl, hc⟩ := H1.out.at_ hp
    have hne : b ≠ g := Nat.ne_of_lt (H4.out b rfl (by omega))
    obtain ⟨r0, r1⟩ := H2.out p hp
    go_enter Tryd.func36, Tryd.ntmps36
    go_wp2
    go_ret
    refine ⟨gi bs p % n, rfl, Int.emod_nonneg _ (by omega), fun _ => Int.emod_lt_of_pos _ (by omega), by omega, (HS.out 0).1, (HS.out 0).2⟩
  · have hq1 : p % bs.length < bs.length := Nat.mod_lt _ hz2
    have hq2 : (p * 7 + 3) % bs.length < bs.length := Nat.mod_lt _ hz2
    obtain ⟨b, off, rfl, hc⟩ := H1.out.at_ hq1
    obtain ⟨b', off', he, hc'⟩ := H1.out.at_ hq2
    simp only [Option.some.injEq, Addr.mk.injEq, and_true] at he
    obtain ⟨rfl, rfl⟩ := he
    have hne : b ≠ g := Nat.ne_of_lt (H4.out b rfl (by omega))
    have i1 : 0 ≤ ((p : Int) * 7 + 3) % (bs.length : Int) := Int.emod_nonneg _ (by omega)
    have i2 : ((p : Int) * 7 + 3) % (bs.length : Int) < (bs.length : Int) := Int.emod_lt_of_pos _ (by omega)
    obtain ⟨r0, r1⟩ := H2.out _ hq1
    obtain ⟨r2, r3⟩ := H2.out _ hq2
    have d1 : 0 ≤ (p : Int) / (bs.length : Int) := Int.ediv_nonneg (by omega) (by omega)
    have d2 : (p : Int) / (bs.length : Int) ≤ (p : Int) := Int.ediv_le_self _ (by omega)
    go_enter Tryd.func36, Tryd.ntmps36
    go_wp2
    go_quiet (fail)
    generalize hX : gi bs (p % bs.length) * 131 + gi bs ((p * 7 + 3) % bs.length) * 1117 + (p : Int) * 29 + (p : Int) / (bs.length : Int) * 53 = X
    have x0 : 0 ≤ X := by omega
    have x1 : X ≤ 9223372036854775807 := by omega
    have hY := mixX_bd x0 x1
    unfold mixX at hY
    obtain ⟨y0, y1⟩ := hY
    clear hX hc hc' r0 r1 r2 r3 i1 i2 d1 d2 hq1 hq2
    go_wp2
    go_ret
    exact ⟨_, rfl, Int.emod_nonneg _ (by omega), fun _ => Int.emod_lt_of_pos _ (by omega), by omega, (HS.out _).1, (HS.out _).2⟩

/-- 'odd': the same, with a bool. -/
def OddR (w : World) (g m : Nat) (e : Ending) (w' : World) : Prop :=
  ∃ v : Bool, e = .returned (.bool v) ∧ Rdr w' g (m + 1) ∧ w.grownBy w' (some g)

theorem odd_c (g m : Nat) (n : Int) (w : World) (h : Rdr w g m) (hm : m ≤ 1099511627776) (hn : n ≤ 1099511627776) :
    Calls Tryd.prog 35 #[.pointer (some ⟨g, 0, none⟩), .int .i64 n] w (OddR w g m) := by
  have H := Lib.hid h
  clear h
  by_cases hn0 : 0 < n
  · go_enter Tryd.func35, Tryd.ntmps35
    go_wp2_with fail
    refine (pick_c g m n _ H.out hm hn).mono ?_
    rintro e w1 ⟨v, rfl, hv0, hv1, hv2, hr, hg⟩
    have HR := Lib.hid hr
    have HG := Lib.hid hg
    clear hr hg hv1 hv2
    go_wp2
    go_ret
    exact ⟨_, rfl, HR.out, HG.out⟩
  · go_enter Tryd.func35, Tryd.ntmps35
    go_wp2
    go_ret
    exact ⟨_, rfl, H.out.mono (by omega), World.grownBy.refl _ _⟩

theorem rdr_new {w : World} {sv : Value} {bs : List Int} {t : TypeId} (h : RdB w sv bs) (hb : ∀ n ∈ bs, (Lit.int .u8 n).wf = true) (hl : bs.length ≤ 2000) :
    Rdr (w.alloc (.cells #[sv, .int .i64 0] t)) w.heap.size 0 := by
  have hbel : Below w.heap.size w (w.alloc (.cells #[sv, .int .i64 0] t)) := (Below.refl _ _).alloc (Nat.le_refl _) _
  refine ⟨sv, bs, 0, h.below hbel, ?_, hl, ?_, World.cell?_alloc_at _ _ _ _ rfl, World.cell?_alloc_at _ _ _ _ rfl, fun q => World.frozen?_alloc_at _ _ _ _ rfl, Nat.le_refl _⟩
  · intro i hi
    have := hb (gi bs i) (by rw [gi_lt hi]; exact List.getElem_mem hi)
    simp only [Lit.wf, IntKind.min, IntKind.max, IntKind.signed, IntKind.bits, Bool.and_eq_true, decide_eq_true_eq] at this
    simp at this
    omega
  · intro b e hz
    obtain ⟨a, cap, rfl, _, _, hc⟩ := h
    obtain ⟨b', off, rfl, hcell⟩ := hc 0 hz
    simp only [Value.ownBlock, Option.some.injEq] at e
    subst e
    exact cell_lt hcell

/-- l20Open: a reader in a new block. -/
theorem open_c (va : Value) (bs : List Int) (w : World) (h : RdB w va bs) (hb : ∀ n ∈ bs, (Lit.int .u8 n).wf = true) :
    Calls Tryd.prog 34 #[va] w (fun e w' => ∃ g, e = .returned (.pointer (some ⟨g, 0, none⟩)) ∧ w.heap.size ≤ g ∧ Rdr w' g 0 ∧ Below w.heap.size w w') := by
  obtain ⟨a, ca, rfl, hca, ml⟩ := h.form'
  by_cases hl : 2000 < bs.length
  · have HR := Lib.hid (rdr_new (t := 68) (h.take (m := 2000) (by omega)) (fun n hn => hb n (List.mem_of_mem_take hn)) (by simp; omega))
    clear h hb
    go_enter Tryd.func34, Tryd.ntmps34
    go_wp2
    go_ret
    exact ⟨_, rfl, Nat.le_refl _, HR.out, (Below.refl _ _).alloc (Nat.le_refl _) _⟩
  · have HR := Lib.hid (rdr_new (t := 68) h hb (by omega))
    clear h hb
    go_enter Tryd.func34, Tryd.ntmps34
    go_wp2
    go_ret
    exact ⟨_, rfl, Nat.le_refl _, HR.out, (Below.refl _ _).alloc (Nat.le_refl _) _⟩

end Go.Proofs.YtjgafkoboolclaaDoor
