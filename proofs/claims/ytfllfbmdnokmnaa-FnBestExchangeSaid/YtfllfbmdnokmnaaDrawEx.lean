import Derived.Test.YtfllfbmdnokmnaaProg
import Derived.Test.YtfllfbmdnokmnaaSym
import Derived.Test.YtfllfbmdnokmnaaDraw
import Derived.Test.YtfllfbmdnokmnaaEx
namespace Go.Proofs.Ytfllfbmdnokmnaa
open Go.RowKit

/-- a block of the call's own, whatever it holds -/
def scrP (B : Nat) : Part where
  says w := B < w.heap.size
  on g := g = B
  wr g := g = B
  sub _ h := h
  lt w h g hg := by subst hg; exact h
  keep w w' h hk := by
    have e := hk B rfl
    rcases Nat.lt_or_ge B w'.heap.size with h1 | h1
    · exact h1
    · rw [Array.getElem?_eq_none h1, Array.getElem?_eq_getElem h] at e; cases e
theorem scr_of {row : Option Nat} {w0 w : World} {I : List Part} {B : Nat} {c : Array Value} {t : TypeId} (h : SH row w0 w (blkP B c t :: I)) : SH row w0 w (scrP B :: I) :=
  h.as (q := scrP B) (blk_lt (show w.heap[B]? = _ from h.p0)) (fun _ h => h) (fun _ h => h)
theorem SH.setScr {row : Option Nat} {w0 w : World} {I : List Part} {B q : Nat} {v : Value} (h : SH row w0 w I) (hB : scrP B ∈ I) : SH row w0 (w.setCell ⟨B, q, none⟩ v) I :=
  h.inside (r := some B) hB ⟨rfl, rfl, rfl, by simp [World.setCell], fun q' _ hq' => Below.heap_setCell _ _ _ _ (fun e => hq' (by rw [e]))⟩ (fun g e => (Option.some.inj e).symm) (by have h2 : B < w.heap.size := h.says _ hB; show B < _; simpa [World.setCell] using h2)

def ExS (row : Option Nat) (w0 : World) (g m : Nat) (sv : Value) (bs : List Int) (I : List Part) (e : Ending) (w' : World) : Prop :=
  ∃ s h a b : Int, e = .returned (ex s h a b) ∧ SH row w0 w' (rdrP g m sv bs :: I)

set_option maxHeartbeats 4000000 in
theorem l20Exchange_s (g m : Nat) (n : Int) (w : World) {row : Option Nat} {w0 : World} {I : List Part} {sv : Value} {bs : List Int} (hs : SH row w0 w (rdrP g m sv bs :: I)) (hm : m ≤ 1000000000) (hn : n ≤ 1000000) :
    Calls Try.prog 62 #[.pointer (some ⟨g, 0, none⟩), .int .i64 n] w (ExS row w0 g (m + 10) sv bs I) := by
  go_enter Try.func62, Try.ntmps62
  go_wp2_with fail
  refine (pick_s g _ 200 _ ⟨hs.allocP1 _ _, by omega⟩ (by decide)).mono ?_
  rintro e w1 ⟨t, rfl, t_0, t_a, -, hs⟩
  have t_1 := t_a (by decide)
  clear t_a
  go_wp2_with fail
  refine (pick_s g _ 61 _ (by first | exact ⟨hs, by omega⟩ | exact ⟨(hs).allocP1 _ _, by omega⟩ | exact ⟨((hs).allocP1 _ _).allocP1 _ _, by omega⟩ | exact ⟨(((hs).allocP1 _ _).allocP1 _ _).allocP1 _ _, by omega⟩ | exact ⟨((((hs).allocP1 _ _).allocP1 _ _).allocP1 _ _).allocP1 _ _, by omega⟩ | exact ⟨(hs).drew, by omega⟩ | exact ⟨((hs).allocP1 _ _).drew, by omega⟩ | exact ⟨(((hs).allocP1 _ _).allocP1 _ _).drew, by omega⟩ | exact ⟨((((hs).allocP1 _ _).allocP1 _ _).allocP1 _ _).drew, by omega⟩ | exact ⟨(((((hs).allocP1 _ _).allocP1 _ _).allocP1 _ _).allocP1 _ _).drew, by omega⟩ | exact ⟨(hs).drewN _, by omega⟩ | exact ⟨((hs).allocP1 _ _).drewN _, by omega⟩ | exact ⟨(((hs).allocP1 _ _).allocP1 _ _).drewN _, by omega⟩ | exact ⟨((((hs).allocP1 _ _).allocP1 _ _).allocP1 _ _).drewN _, by omega⟩ | exact ⟨(((((hs).allocP1 _ _).allocP1 _ _).allocP1 _ _).allocP1 _ _).drewN _, by omega⟩) (by decide)).mono ?_
  rintro e w2 ⟨o, rfl, o_0, o_a, -, hs⟩
  have o_1 := o_a (by decide)
  clear o_a
  go_wp2_with fail
  refine (pick_s g _ 20 _ (by first | exact ⟨hs, by omega⟩ | exact ⟨(hs).allocP1 _ _, by omega⟩ | exact ⟨((hs).allocP1 _ _).allocP1 _ _, by omega⟩ | exact ⟨(((hs).allocP1 _ _).allocP1 _ _).allocP1 _ _, by omega⟩ | exact ⟨((((hs).allocP1 _ _).allocP1 _ _).allocP1 _ _).allocP1 _ _, by omega⟩ | exact ⟨(hs).drew, by omega⟩ | exact ⟨((hs).allocP1 _ _).drew, by omega⟩ | exact ⟨(((hs).allocP1 _ _).allocP1 _ _).drew, by omega⟩ | exact ⟨((((hs).allocP1 _ _).allocP1 _ _).allocP1 _ _).drew, by omega⟩ | exact ⟨(((((hs).allocP1 _ _).allocP1 _ _).allocP1 _ _).allocP1 _ _).drew, by omega⟩ | exact ⟨(hs).drewN _, by omega⟩ | exact ⟨((hs).allocP1 _ _).drewN _, by omega⟩ | exact ⟨(((hs).allocP1 _ _).allocP1 _ _).drewN _, by omega⟩ | exact ⟨((((hs).allocP1 _ _).allocP1 _ _).allocP1 _ _).drewN _, by omega⟩ | exact ⟨(((((hs).allocP1 _ _).allocP1 _ _).allocP1 _ _).allocP1 _ _).drewN _, by omega⟩) (by decide)).mono ?_
  rintro e w3 ⟨a, rfl, a_0, a_a, -, hs⟩
  have a_1 := a_a (by decide)
  clear a_a
  go_wp2_with fail
  refine (pick_s g _ 9 _ (by first | exact ⟨hs, by omega⟩ | exact ⟨(hs).allocP1 _ _, by omega⟩ | exact ⟨((hs).allocP1 _ _).allocP1 _ _, by omega⟩ | exact ⟨(((hs).allocP1 _ _).allocP1 _ _).allocP1 _ _, by omega⟩ | exact ⟨((((hs).allocP1 _ _).allocP1 _ _).allocP1 _ _).allocP1 _ _, by omega⟩ | exact ⟨(hs).drew, by omega⟩ | exact ⟨((hs).allocP1 _ _).drew, by omega⟩ | exact ⟨(((hs).allocP1 _ _).allocP1 _ _).drew, by omega⟩ | exact ⟨((((hs).allocP1 _ _).allocP1 _ _).allocP1 _ _).drew, by omega⟩ | exact ⟨(((((hs).allocP1 _ _).allocP1 _ _).allocP1 _ _).allocP1 _ _).drew, by omega⟩ | exact ⟨(hs).drewN _, by omega⟩ | exact ⟨((hs).allocP1 _ _).drewN _, by omega⟩ | exact ⟨(((hs).allocP1 _ _).allocP1 _ _).drewN _, by omega⟩ | exact ⟨((((hs).allocP1 _ _).allocP1 _ _).allocP1 _ _).drewN _, by omega⟩ | exact ⟨(((((hs).allocP1 _ _).allocP1 _ _).allocP1 _ _).allocP1 _ _).drewN _, by omega⟩) (by decide)).mono ?_
  rintro e w4 ⟨q, rfl, q_0, q_a, -, hs⟩
  have q_1 := q_a (by decide)
  clear q_a
  go_wp2_with fail
  refine (pick_s g _ 20 _ (by first | exact ⟨hs, by omega⟩ | exact ⟨(hs).allocP1 _ _, by omega⟩ | exact ⟨((hs).allocP1 _ _).allocP1 _ _, by omega⟩ | exact ⟨(((hs).allocP1 _ _).allocP1 _ _).allocP1 _ _, by omega⟩ | exact ⟨((((hs).allocP1 _ _).allocP1 _ _).allocP1 _ _).allocP1 _ _, by omega⟩ | exact ⟨(hs).drew, by omega⟩ | exact ⟨((hs).allocP1 _ _).drew, by omega⟩ | exact ⟨(((hs).allocP1 _ _).allocP1 _ _).drew, by omega⟩ | exact ⟨((((hs).allocP1 _ _).allocP1 _ _).allocP1 _ _).drew, by omega⟩ | exact ⟨(((((hs).allocP1 _ _).allocP1 _ _).allocP1 _ _).allocP1 _ _).drew, by omega⟩ | exact ⟨(hs).drewN _, by omega⟩ | exact ⟨((hs).allocP1 _ _).drewN _, by omega⟩ | exact ⟨(((hs).allocP1 _ _).allocP1 _ _).drewN _, by omega⟩ | exact ⟨((((hs).allocP1 _ _).allocP1 _ _).allocP1 _ _).drewN _, by omega⟩ | exact ⟨(((((hs).allocP1 _ _).allocP1 _ _).allocP1 _ _).allocP1 _ _).drewN _, by omega⟩) (by decide)).mono ?_
  rintro e w5 ⟨b, rfl, b_0, b_a, -, hs⟩
  have b_1 := b_a (by decide)
  clear b_a
  have hs5 := hs
  go_wp2_with fail
  refine (odd_s g _ n _ ⟨hs.allocP1 _ _, by omega⟩ (by omega)).mono ?_
  rintro e w6 ⟨od, rfl, -, hs⟩
  have hlt : w.heap.size < w5.heap.size := (blkP _ _ _).lt w5 (show (blkP w.heap.size _ _).says w5 from hs5.p1) _ rfl
  obtain ⟨x0, x1, x2, x3, hs⟩ : ∃ x0 x1 x2 x3 : Int, SH row w0 w6 (rdrP g (m + 6) sv bs :: blkP w5.heap.size #[.int .i64 x0, .int .i64 x1, .int .i64 x2, .int .i64 x3] 44 :: blkP w.heap.size #[.int .i64 0, .int .i64 0, .int .i64 0, .int .i64 0] 44 :: I) := ⟨_, _, _, _, hs⟩
  clear t_0 t_1 o_0 o_1 a_0 a_1 b_0 b_1 hs5
  have hne5 : ¬ w5.heap.size = w.heap.size := by omega
  have hne5b : ¬ w.heap.size = w5.heap.size := by omega
  cases od
  · have hbx := (show w6.heap[w5.heap.size]? = _ from hs.p1)
    have xc0 := blk_cell hbx 0
    have xc1 := blk_cell hbx 1
    have xc2 := blk_cell hbx 2
    have xc3 := blk_cell hbx 3
    have xf0 := blk_frozen hbx 0
    have xf1 := blk_frozen hbx 1
    have xf2 := blk_frozen hbx 2
    have xf3 := blk_frozen hbx 3
    clear hbx
    have hbr := (show w6.heap[w.heap.size]? = _ from hs.p2)
    have rc0 := blk_cell hbr 0
    have rc1 := blk_cell hbr 1
    have rc2 := blk_cell hbr 2
    have rc3 := blk_cell hbr 3
    have rf0 := blk_frozen hbr 0
    have rf1 := blk_frozen hbr 1
    have rf2 := blk_frozen hbr 2
    have rf3 := blk_frozen hbr 3
    clear hbr
    have hs := (scr_of hs.bring2).bring2
    have hs := (scr_of hs).bring2
    go_wp2
    try simp only [Exit.inBlock, Exit.then]
    refine bodyPost_ret (by simp [results, Try.results62, go_sem, rc0, rc1, rc2, rc3]; try rfl) rfl ?_
    exact ⟨_, _, _, _, rfl, ((rdrP_mono (SH.drop1 (SH.drop1 (show SH row w0 _ (rdrP g (m + 6) sv bs :: scrP w5.heap.size :: scrP w.heap.size :: I) from (by repeat (first | exact hs | refine SH.drewN ?_ _ | refine SH.drew ?_ | refine SH.setScr ?_ (by simp)))))) (by omega)))⟩
  go_wp2_with fail
  refine (pick_s g _ 3 _ (by first | exact ⟨hs, by omega⟩ | exact ⟨(hs).allocP1 _ _, by omega⟩ | exact ⟨((hs).allocP1 _ _).allocP1 _ _, by omega⟩ | exact ⟨(((hs).allocP1 _ _).allocP1 _ _).allocP1 _ _, by omega⟩ | exact ⟨((((hs).allocP1 _ _).allocP1 _ _).allocP1 _ _).allocP1 _ _, by omega⟩ | exact ⟨(hs).drew, by omega⟩ | exact ⟨((hs).allocP1 _ _).drew, by omega⟩ | exact ⟨(((hs).allocP1 _ _).allocP1 _ _).drew, by omega⟩ | exact ⟨((((hs).allocP1 _ _).allocP1 _ _).allocP1 _ _).drew, by omega⟩ | exact ⟨(((((hs).allocP1 _ _).allocP1 _ _).allocP1 _ _).allocP1 _ _).drew, by omega⟩ | exact ⟨(hs).drewN _, by omega⟩ | exact ⟨((hs).allocP1 _ _).drewN _, by omega⟩ | exact ⟨(((hs).allocP1 _ _).allocP1 _ _).drewN _, by omega⟩ | exact ⟨((((hs).allocP1 _ _).allocP1 _ _).allocP1 _ _).drewN _, by omega⟩ | exact ⟨(((((hs).allocP1 _ _).allocP1 _ _).allocP1 _ _).allocP1 _ _).drewN _, by omega⟩) (by decide)).mono ?_
  rintro e w7 ⟨c, rfl, c_0, c_a, -, hs⟩
  have c_1 := c_a (by decide)
  clear c_a
  obtain rfl | rfl | rfl : c = 0 ∨ c = 1 ∨ c = 2 := by omega
  · go_wp2_with fail
    refine (pick_s g _ 2 _ ⟨hs.allocP1 _ _, by omega⟩ (by decide)).mono ?_
    rintro e w8 ⟨c2, rfl, c2_0, c2_a, -, hs⟩
    have c2_1 := c2_a (by decide)
    clear c2_a
    have hby := (show w8.heap[w7.heap.size]? = _ from hs.p1)
    have yc0 := blk_cell hby 0
    have yc1 := blk_cell hby 1
    have yf0 := blk_frozen hby 0
    have yf1 := blk_frozen hby 1
    clear hby
    have hs := hs.drop1
    obtain rfl | rfl : c2 = 0 ∨ c2 = 1 := by omega
    all_goals
      have hbx := (show w8.heap[w5.heap.size]? = _ from hs.p1)
      have xc0 := blk_cell hbx 0
      have xc1 := blk_cell hbx 1
      have xc2 := blk_cell hbx 2
      have xc3 := blk_cell hbx 3
      have xf0 := blk_frozen hbx 0
      have xf1 := blk_frozen hbx 1
      have xf2 := blk_frozen hbx 2
      have xf3 := blk_frozen hbx 3
      clear hbx
      have hbr := (show w8.heap[w.heap.size]? = _ from hs.p2)
      have rc0 := blk_cell hbr 0
      have rc1 := blk_cell hbr 1
      have rc2 := blk_cell hbr 2
      have rc3 := blk_cell hbr 3
      have rf0 := blk_frozen hbr 0
      have rf1 := blk_frozen hbr 1
      have rf2 := blk_frozen hbr 2
      have rf3 := blk_frozen hbr 3
      clear hbr
      have hs := (scr_of hs.bring2).bring2
      have hs := (scr_of hs).bring2
      go_wp2
      try simp only [Exit.inBlock, Exit.then]
      refine bodyPost_ret (by simp [results, Try.results62, go_sem, rc0, rc1, rc2, rc3]; try rfl) rfl ?_
      exact ⟨_, _, _, _, rfl, ((rdrP_mono (SH.drop1 (SH.drop1 (show SH row w0 _ (rdrP g (m + 6 + 1 + 1) sv bs :: scrP w5.heap.size :: scrP w.heap.size :: I) from (by repeat (first | exact hs | refine SH.drewN ?_ _ | refine SH.drew ?_ | refine SH.setScr ?_ (by simp)))))) (by omega)))⟩
  · have hbx := (show w7.heap[w5.heap.size]? = _ from hs.p1)
    have xc0 := blk_cell hbx 0
    have xc1 := blk_cell hbx 1
    have xc2 := blk_cell hbx 2
    have xc3 := blk_cell hbx 3
    have xf0 := blk_frozen hbx 0
    have xf1 := blk_frozen hbx 1
    have xf2 := blk_frozen hbx 2
    have xf3 := blk_frozen hbx 3
    clear hbx
    have hbr := (show w7.heap[w.heap.size]? = _ from hs.p2)
    have rc0 := blk_cell hbr 0
    have rc1 := blk_cell hbr 1
    have rc2 := blk_cell hbr 2
    have rc3 := blk_cell hbr 3
    have rf0 := blk_frozen hbr 0
    have rf1 := blk_frozen hbr 1
    have rf2 := blk_frozen hbr 2
    have rf3 := blk_frozen hbr 3
    clear hbr
    have hs := (scr_of hs.bring2).bring2
    have hs := (scr_of hs).bring2
    go_wp2
    try simp only [Exit.inBlock, Exit.then]
    refine bodyPost_ret (by simp [results, Try.results62, go_sem, rc0, rc1, rc2, rc3]; try rfl) rfl ?_
    exact ⟨_, _, _, _, rfl, ((rdrP_mono (SH.drop1 (SH.drop1 (show SH row w0 _ (rdrP g (m + 6 + 1) sv bs :: scrP w5.heap.size :: scrP w.heap.size :: I) from (by repeat (first | exact hs | refine SH.drewN ?_ _ | refine SH.drew ?_ | refine SH.setScr ?_ (by simp)))))) (by omega)))⟩
  · have hbx := (show w7.heap[w5.heap.size]? = _ from hs.p1)
    have xc0 := blk_cell hbx 0
    have xc1 := blk_cell hbx 1
    have xc2 := blk_cell hbx 2
    have xc3 := blk_cell hbx 3
    have xf0 := blk_frozen hbx 0
    have xf1 := blk_frozen hbx 1
    have xf2 := blk_frozen hbx 2
    have xf3 := blk_frozen hbx 3
    clear hbx
    have hbr := (show w7.heap[w.heap.size]? = _ from hs.p2)
    have rc0 := blk_cell hbr 0
    have rc1 := blk_cell hbr 1
    have rc2 := blk_cell hbr 2
    have rc3 := blk_cell hbr 3
    have rf0 := blk_frozen hbr 0
    have rf1 := blk_frozen hbr 1
    have rf2 := blk_frozen hbr 2
    have rf3 := blk_frozen hbr 3
    clear hbr
    have hs := (scr_of hs.bring2).bring2
    have hs := (scr_of hs).bring2
    go_wp2
    try simp only [Exit.inBlock, Exit.then]
    refine bodyPost_ret (by simp [results, Try.results62, go_sem, rc0, rc1, rc2, rc3]; try rfl) rfl ?_
    exact ⟨_, _, _, _, rfl, ((rdrP_mono (SH.drop1 (SH.drop1 (show SH row w0 _ (rdrP g (m + 6 + 1) sv bs :: scrP w5.heap.size :: scrP w.heap.size :: I) from (by repeat (first | exact hs | refine SH.drewN ?_ _ | refine SH.drew ?_ | refine SH.setScr ?_ (by simp)))))) (by omega)))⟩

def rowE (s h a b : Int) (j : Nat) : Value := .int .i64 (if j = 0 then s else if j = 1 then h else if j = 2 then a else b)
theorem eC_snoc {row : Option Nat} {w0 w : World} {I : List Part} {t : TypeId} {v : Value} {n : Nat} {f : Nat → Nat → Int} {s h a b : Int} (hs : SH row w0 w (ownMP 4 t v (n + 1) (updC (eC f) n (rowE s h a b)) :: I)) :
    ∃ f', SH row w0 w (ownMP 4 t v (n + 1) (eC f') :: I) :=
  ⟨fun i j => if i = n then (if j = 0 then s else if j = 1 then h else if j = 2 then a else b) else f i j, hs.congrM (fun i j hi hj => by
    unfold updC eC rowE
    by_cases e : i = n <;> simp [e])⟩

set_option maxHeartbeats 4000000 in
theorem DrawBestExchange_s (va : Value) (cs : List Int) (w : World) {row : Option Nat} {w0 : World} {I : List Part} (hs : SH row w0 w (rdP .u8 va cs :: I)) (hb : ∀ n ∈ cs, (Lit.int .u8 n).wf = true) :
    Calls Try.prog 45 #[va] w (fun e w' => ∃ (v : Value) (n : Nat) (f : Nat → Nat → Int), e = .returned v ∧ n ≤ 101 ∧ SH row w0 w' (ownMP 4 44 v n (eC f) :: rdP .u8 va cs :: I)) := by
  have HB := Lib.hid hb
  clear hb
  go_enter Try.func45, Try.ntmps45
  go_wp2_with fail
  refine (open_s va cs _ (by first | exact hs | exact (hs).allocP1 _ _ | exact ((hs).allocP1 _ _).allocP1 _ _ | exact (((hs).allocP1 _ _).allocP1 _ _).allocP1 _ _ | exact ((((hs).allocP1 _ _).allocP1 _ _).allocP1 _ _).allocP1 _ _ | exact (hs).drew | exact ((hs).allocP1 _ _).drew | exact (((hs).allocP1 _ _).allocP1 _ _).drew | exact ((((hs).allocP1 _ _).allocP1 _ _).allocP1 _ _).drew | exact (((((hs).allocP1 _ _).allocP1 _ _).allocP1 _ _).allocP1 _ _).drew | exact (hs).drewN _ | exact ((hs).allocP1 _ _).drewN _ | exact (((hs).allocP1 _ _).allocP1 _ _).drewN _ | exact ((((hs).allocP1 _ _).allocP1 _ _).allocP1 _ _).drewN _ | exact (((((hs).allocP1 _ _).allocP1 _ _).allocP1 _ _).allocP1 _ _).drewN _) HB.out).mono ?_
  rintro e w1 ⟨g, sv, bs, rfl, hs⟩
  go_wp2_with fail
  refine (pick_s g _ 8 _ ⟨(hs.ownEmptyM 4 (by decide) _ (eC fun _ _ => 0)).bring1, by omega⟩ (by decide)).mono ?_
  rintro e w2 ⟨c0, rfl, c0_0, c0_a, -, hs⟩
  have c0_1 := c0_a (by decide)
  clear c0_a
  go_wp2_with fail
  go_loopw [4, 5] (fun o i wr => ∃ (q : Int) (n : Nat) (f : Nat → Nat → Int), 0 ≤ q ∧ i = .int .i64 q ∧ (n : Int) + q ≤ 7 ∧ SH row w0 wr (rdrP g (1 + 10 * n) sv bs :: ownMP 4 44 o n (eC f) :: rdP .u8 va cs :: I)) (fun _ i _ => (intOf i).toNat)
  case atStart => exact ⟨c0, 0, _, c0_0, rfl, by omega, hs⟩
  case round =>
    obtain ⟨q, n, f, q0, rfl, hlen, hs⟩ := hrel
    obtain ⟨ao, co, rfl, -⟩ := (OwnM.rd hs.p1).form
    by_cases hq : 0 < q
    · go_wp2_with fail
      refine (l20Exchange_s g _ 40 _ (by first | exact hs | exact (hs).allocP1 _ _ | exact ((hs).allocP1 _ _).allocP1 _ _ | exact (((hs).allocP1 _ _).allocP1 _ _).allocP1 _ _ | exact ((((hs).allocP1 _ _).allocP1 _ _).allocP1 _ _).allocP1 _ _ | exact (hs).drew | exact ((hs).allocP1 _ _).drew | exact (((hs).allocP1 _ _).allocP1 _ _).drew | exact ((((hs).allocP1 _ _).allocP1 _ _).allocP1 _ _).drew | exact (((((hs).allocP1 _ _).allocP1 _ _).allocP1 _ _).allocP1 _ _).drew | exact (hs).drewN _ | exact ((hs).allocP1 _ _).drewN _ | exact (((hs).allocP1 _ _).allocP1 _ _).drewN _ | exact ((((hs).allocP1 _ _).allocP1 _ _).allocP1 _ _).drewN _ | exact (((((hs).allocP1 _ _).allocP1 _ _).allocP1 _ _).allocP1 _ _).drewN _) (by omega) (by decide)).mono ?_
      rintro e w3 ⟨s, h, a, b, rfl, hs⟩
      unfold ex
      go_wp2_with (at_builtin; refine wp_app1MS rfl rfl 44 32 4 (.agg #[.int .i64 0, .int .i64 0, .int .i64 0, .int .i64 0]) Try.underlying39 info_ex rfl (by decide) (rowE s h a b) rfl (hs.bring1.alloc _) rfl (fun j hj => by have : j = 0 ∨ j = 1 ∨ j = 2 ∨ j = 3 := (by omega); rcases this with rfl | rfl | rfl | rfl <;> exact World.cell?_alloc_at _ _ _ _ rfl) (fun j hj => by unfold rowE; rfl) (by omega) (by unfold maxLen; omega) ?_; intro v9 w9 hs)
      obtain ⟨f, hs⟩ := eC_snoc hs
      go_wp2
      go_roundw
      case rel => exact ⟨q - 1, n + 1, f, by omega, by go_num, by omega, rdrP_mono hs.bring1 (by omega)⟩
      case measure => simp [intOf]; omega
    · go_wp2_with fail
      refine (odd_s g _ 14 _ (by first | exact ⟨hs, by omega⟩ | exact ⟨(hs).allocP1 _ _, by omega⟩ | exact ⟨((hs).allocP1 _ _).allocP1 _ _, by omega⟩ | exact ⟨(((hs).allocP1 _ _).allocP1 _ _).allocP1 _ _, by omega⟩ | exact ⟨((((hs).allocP1 _ _).allocP1 _ _).allocP1 _ _).allocP1 _ _, by omega⟩ | exact ⟨(hs).drew, by omega⟩ | exact ⟨((hs).allocP1 _ _).drew, by omega⟩ | exact ⟨(((hs).allocP1 _ _).allocP1 _ _).drew, by omega⟩ | exact ⟨((((hs).allocP1 _ _).allocP1 _ _).allocP1 _ _).drew, by omega⟩ | exact ⟨(((((hs).allocP1 _ _).allocP1 _ _).allocP1 _ _).allocP1 _ _).drew, by omega⟩ | exact ⟨(hs).drewN _, by omega⟩ | exact ⟨((hs).allocP1 _ _).drewN _, by omega⟩ | exact ⟨(((hs).allocP1 _ _).allocP1 _ _).drewN _, by omega⟩ | exact ⟨((((hs).allocP1 _ _).allocP1 _ _).allocP1 _ _).drewN _, by omega⟩ | exact ⟨(((((hs).allocP1 _ _).allocP1 _ _).allocP1 _ _).allocP1 _ _).drewN _, by omega⟩) (by decide)).mono ?_
      rintro e w3 ⟨od, rfl, -, hs⟩
      cases od
      · go_wp2
        go_ret
        exact ⟨_, n, f, rfl, by omega, hs.drop0⟩
      · have hs := hs.drop0.drop0
        go_wp2_with (at_make; refine wp_makeM rfl rfl w3.heap.size 44 32 4 _ Try.underlying39 info_ex rfl 101 rfl rfl rfl rfl (by omega) (by unfold maxLen; omega) (Nat.le_refl _) ?_; intro wz hown hg hsz)
        have hs := hs.pushOwnM (below_of_grown hg) hown
        clear hown hg hsz
        go_wp2
        go_ret
        exact ⟨_, 101, fun _ _ => 0, rfl, by omega, hs.congrM (fun i j hi hj => by have : j = 0 ∨ j = 1 ∨ j = 2 ∨ j = 3 := (by omega); rcases this with rfl | rfl | rfl | rfl <;> rfl)⟩


end Go.Proofs.Ytfllfbmdnokmnaa
