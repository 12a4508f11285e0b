import Derived.Test.YtmhlnelnjnhcoaaProg
import Derived.Test.YtmhlnelnjnhcoaaLib
import Derived.Test.YtmhlnelnjnhcoaaMem
import Derived.Test.YtmhlnelnjnhcoaaSym
import Derived.Test.YtmhlnelnjnhcoaaInts
import Derived.Test.YtmhlnelnjnhcoaaBytes
import Derived.Test.YtmhlnelnjnhcoaaFrag
import Derived.Test.YtmhlnelnjnhcoaaSplit
namespace Go.Proofs.Ytmhlnelnjnhcoaa
open Go.RowKit

section
variable {row : Option Nat} {w0 w W : World} {I : List Part} {P : Program} {fn : FuncId} {args : Array Value}
theorem SH.frag {t : TypeId} {fs : List Frag} (hs : SH row w0 w I) (hb : Below w.heap.size w W)
    (hc : SH row w0 W I → Calls P fn args W (fun e w' => ∃ v : Value, e = .returned v ∧ ∃ vs : Nat → Value, SH none W w' (fragI t v vs fs))) :
    Calls P fn args W (fun e w' => ∃ (v : Value) (vs : Nat → Value), e = .returned v ∧ SH row w0 w' (ownMP 4 t v fs.length (frC fs vs) :: innB vs (fun i => (fr fs i).d) fs.length :: I)) :=
  (hc (hs.below hb)).mono fun _ _ ⟨v, h1, vs, h2⟩ => ⟨v, vs, h1, hs.join hb h2 fragI_on⟩
theorem rd_of_up {t : TypeId} {v : Value} {vs : Nat → Value} {fs : List Frag} {k : Int} (h : SH row w0 w (ownMP 4 t v fs.length (frC (upF k fs) vs) :: innB vs (fun i => (fr (upF k fs) i).d) fs.length :: I)) : RdF w v vs (upF k fs) :=
  ⟨by rw [length_upF]; exact OwnM.rd h.p0, fun i hi => OwnK.rd (h.p1.1 i (by rw [length_upF] at hi; exact hi))⟩
end
theorem sumF_bound {fs : List Frag} {m : Nat} (h : ∀ i, i < fs.length → (fr fs i).d.length ≤ m) : ∀ k, k ≤ fs.length → sumF fs k ≤ k * (3 + m)
  | 0, _ => by simp [sumF]
  | k + 1, hk => by
    have := sumF_bound h k (by omega)
    have := h k (by omega)
    simp only [sumF, Nat.add_mul] at *; omega
theorem splitF_len (d : List Int) (m s : Int) : (splitF d m s).length ≤ 500 ∧ ∀ i, i < (splitF d m s).length → (fr (splitF d m s) i).d.length ≤ 500 := by
  unfold splitF
  split
  · next h =>
    obtain ⟨h1, h2, h3, h4, h5, h6⟩ := h
    rw [length_parts]
    have hn : numF d s.toNat ≤ 500 := by
      rcases Nat.lt_or_ge 500 (numF d s.toNat) with h | h
      · have := (numF_lt (d := d) (s := s.toNat) (k := 500) (by omega)).1 h
        have : 500 * 1 ≤ 500 * s.toNat := Nat.mul_le_mul_left _ (by omega)
        omega
      · exact h
    refine ⟨hn, fun i hi => ?_⟩
    rw [fr_parts hi]
    simp only [partF, List.length_take, List.length_drop]
    omega
  · simp
theorem splitF_sum (d : List Int) (m s : Int) : sumF (splitF d m s) (splitF d m s).length ≤ 100000000 := by
  obtain ⟨h1, h2⟩ := splitF_len d m s
  have := sumF_bound h2 _ (Nat.le_refl _)
  have : (splitF d m s).length * (3 + 500) ≤ 500 * (3 + 500) := Nat.mul_le_mul_right _ h1
  omega

set_option maxHeartbeats 4000000 in
theorem fnExactSplitMessage_c (va : Value) (xs : List Int) (m s : Int) (w : World) (ha : RdB w va xs) (_ : ∀ n ∈ xs, (Lit.int .u8 n).wf = true) (_ : (Lit.int .i64 m).wf = true) (_ : (Lit.int .i64 s).wf = true) :
    Calls Try.prog 3 #[va, .int .i64 m, .int .i64 s] w (Ret w fun v _ => v = .bool true) := by
  obtain ⟨a, ca, rfl, ma⟩ := ha.form
  have hs := SH.start w [rdP .u8 (.slice a xs.length ca) xs] (by simp only [List.forall_mem_cons]; exact ⟨⟨ha, rdP_wr⟩, by simp⟩)
  clear ha
  by_cases lw : xs.length ≤ 1048576
  case neg =>
    go_enter Try.func3, Try.ntmps3
    go_wp2
    go_ret
    exact Ret.mk1 rfl (Below.refl _ _)
  have hsum := splitF_sum xs m s
  go_enter Try.func3, Try.ntmps3
  go_wp2_with fail
  refine (SH.own hs (by repeat' (first | with_reducible exact Below.refl _ _ | with_reducible assumption | with_reducible refine below_drewN ?_ _ | with_reducible refine Below.drew ?_ | with_reducible refine Below.alloc ?_ ?_ _ | with_reducible refine Below.setCell ?_ ?_ _ | go_size)) fun hs => toByteS_c _ xs _ hs.p0 (by omega)).mono ?_
  rintro e w1 ⟨x1, rfl, hs⟩
  go_wp2_with fail
  refine (SH.frag hs (by repeat' (first | with_reducible exact Below.refl _ _ | with_reducible assumption | with_reducible refine below_drewN ?_ _ | with_reducible refine Below.drew ?_ | with_reducible refine Below.alloc ?_ ?_ _ | with_reducible refine Below.setCell ?_ ?_ _ | go_size)) fun hs => specSplit_c _ xs m s _ (OwnK.rd hs.p0)).mono ?_
  rintro e w2 ⟨w0, ws, rfl, hs⟩
  have hs := hs.drop2
  go_wp2_with fail
  refine (SH.own hs (by repeat' (first | with_reducible exact Below.refl _ _ | with_reducible assumption | with_reducible refine below_drewN ?_ _ | with_reducible refine Below.drew ?_ | with_reducible refine Below.alloc ?_ ?_ _ | with_reducible refine Below.setCell ?_ ?_ _ | go_size)) fun hs => toByteS_c _ xs _ hs.p2 (by omega)).mono ?_
  rintro e w3 ⟨x0, rfl, hs⟩
  go_wp2_with fail
  refine (SH.frag hs (by repeat' (first | with_reducible exact Below.refl _ _ | with_reducible assumption | with_reducible refine below_drewN ?_ _ | with_reducible refine Below.drew ?_ | with_reducible refine Below.alloc ?_ ?_ _ | with_reducible refine Below.setCell ?_ ?_ _ | go_size)) fun hs => implSplit_c _ xs m s _ (OwnK.rd hs.p0)).mono ?_
  rintro e w4 ⟨g0, gs, rfl, hs⟩
  go_wp2_with fail
  refine (SH.ret hs (by repeat' (first | with_reducible exact Below.refl _ _ | with_reducible assumption | with_reducible refine below_drewN ?_ _ | with_reducible refine Below.drew ?_ | with_reducible refine Below.alloc ?_ ?_ _ | with_reducible refine Below.setCell ?_ ?_ _ | go_size)) fun hs => eqFragmentS_c _ _ _ _ _ _ (rd_of_inn hs) (rd_of_inn hs.drop0.drop0.drop0)).mono ?_
  rintro e w5 ⟨v, rfl, rfl, hs⟩
  go_wp2_with fail
  refine (SH.own hs (by repeat' (first | with_reducible exact Below.refl _ _ | with_reducible assumption | with_reducible refine below_drewN ?_ _ | with_reducible refine Below.drew ?_ | with_reducible refine Below.alloc ?_ ?_ _ | with_reducible refine Below.setCell ?_ ?_ _ | go_size)) fun hs => toByteS_c _ xs _ hs.p5 (by omega)).mono ?_
  rintro e w6 ⟨y0, rfl, hs⟩
  go_wp2_with fail
  refine (SH.quiet hs (by repeat' (first | with_reducible exact Below.refl _ _ | with_reducible assumption | with_reducible refine below_drewN ?_ _ | with_reducible refine Below.drew ?_ | with_reducible refine Below.alloc ?_ ?_ _ | with_reducible refine Below.setCell ?_ ?_ _ | go_size)) fun hs => eqByteS_c _ _ _ _ _ (OwnK.rd hs.p3) (OwnK.rd hs.p0)).mono ?_
  rintro e w7 ⟨rfl, hs⟩
  rw [show decide (xs = xs) = true by simp]
  have hs := hs.drop0.bring2
  go_wp2_with fail
  refine (SH.writes hs (by repeat' (first | with_reducible exact Below.refl _ _ | with_reducible assumption | with_reducible refine below_drewN ?_ _ | with_reducible refine Below.drew ?_ | with_reducible refine Below.alloc ?_ ?_ _ | with_reducible refine Below.setCell ?_ ?_ _ | go_size)) fun hs => markByteS_c 0 _ _ _ _ hs.p0 (by omega) (by omega) (by omega)).mono ?_
  rintro e w8 ⟨rfl, hs⟩
  have hs := hs.drop0
  go_wp2_with fail
  refine (SH.ret hs (by repeat' (first | with_reducible exact Below.refl _ _ | with_reducible assumption | with_reducible refine below_drewN ?_ _ | with_reducible refine Below.drew ?_ | with_reducible refine Below.alloc ?_ ?_ _ | with_reducible refine Below.setCell ?_ ?_ _ | go_size)) fun hs => eqFragmentS_c _ _ _ _ _ _ (rd_of_inn hs) (rd_of_inn hs.drop0.drop0)).mono ?_
  rintro e w9 ⟨v, rfl, rfl, hs⟩
  go_wp2_with fail
  refine (markFragmentS_s _ _ _ _ 1 _ (hs.below (by repeat' (first | with_reducible exact Below.refl _ _ | with_reducible assumption | with_reducible refine below_drewN ?_ _ | with_reducible refine Below.drew ?_ | with_reducible refine Below.alloc ?_ ?_ _ | with_reducible refine Below.setCell ?_ ?_ _ | go_size))) (by omega) (by omega) hsum).mono ?_
  rintro e w10 ⟨rfl, hs⟩
  go_wp2_with fail
  refine (SH.quiet hs (by repeat' (first | with_reducible exact Below.refl _ _ | with_reducible assumption | with_reducible refine below_drewN ?_ _ | with_reducible refine Below.drew ?_ | with_reducible refine Below.alloc ?_ ?_ _ | with_reducible refine Below.setCell ?_ ?_ _ | go_size)) fun hs => heldFragmentS_c _ _ _ 1 _ (rd_of_up hs) (by omega) (by omega) hsum).mono ?_
  rintro e w11 ⟨rfl, hs⟩
  have e1 : ((1 : Int) + (sumF (splitF xs m s) (splitF xs m s).length : Int) != 1 + (sumF (splitF xs m s) (splitF xs m s).length : Int)) = false := bne_self_eq_false _
  go_wp2_with fail
  refine (SH.own hs (by repeat' (first | with_reducible exact Below.refl _ _ | with_reducible assumption | with_reducible refine below_drewN ?_ _ | with_reducible refine Below.drew ?_ | with_reducible refine Below.alloc ?_ ?_ _ | with_reducible refine Below.setCell ?_ ?_ _ | go_size)) fun hs => toByteS_c _ xs _ hs.p4 (by omega)).mono ?_
  rintro e w12 ⟨z0, rfl, hs⟩
  go_wp2_with fail
  refine (SH.frag hs (by repeat' (first | with_reducible exact Below.refl _ _ | with_reducible assumption | with_reducible refine below_drewN ?_ _ | with_reducible refine Below.drew ?_ | with_reducible refine Below.alloc ?_ ?_ _ | with_reducible refine Below.setCell ?_ ?_ _ | go_size)) fun hs => implSplit_c _ xs m s _ (OwnK.rd hs.p0)).mono ?_
  rintro e w13 ⟨h0, hh, rfl, hs⟩
  go_wp2_with fail
  refine (SH.ret hs (by repeat' (first | with_reducible exact Below.refl _ _ | with_reducible assumption | with_reducible refine below_drewN ?_ _ | with_reducible refine Below.drew ?_ | with_reducible refine Below.alloc ?_ ?_ _ | with_reducible refine Below.setCell ?_ ?_ _ | go_size)) fun hs => eqFragmentS_c _ _ _ _ _ _ (rd_of_inn hs) (rd_of_inn hs.drop0.drop0.drop0.drop0.drop0)).mono ?_
  rintro e w14 ⟨v, rfl, rfl, hs⟩
  go_wp2_with fail
  refine (SH.quiet hs (by repeat' (first | with_reducible exact Below.refl _ _ | with_reducible assumption | with_reducible refine below_drewN ?_ _ | with_reducible refine Below.drew ?_ | with_reducible refine Below.alloc ?_ ?_ _ | with_reducible refine Below.setCell ?_ ?_ _ | go_size)) fun hs => heldFragmentS_c _ _ _ 1 _ (rd_of_up hs.drop0.drop0.drop0) (by omega) (by omega) hsum).mono ?_
  rintro e w15 ⟨rfl, hs⟩
  have e1 : ((1 : Int) + (sumF (splitF xs m s) (splitF xs m s).length : Int) != 1 + (sumF (splitF xs m s) (splitF xs m s).length : Int)) = false := bne_self_eq_false _
  go_wp2
  go_ret
  exact Ret.mk1 rfl (SH.done (by first | exact hs | exact (hs).alloc _ | exact ((hs).alloc _).alloc _ | exact (((hs).alloc _).alloc _).alloc _ | exact ((((hs).alloc _).alloc _).alloc _).alloc _ | exact (hs).drew | exact ((hs).alloc _).drew | exact (((hs).alloc _).alloc _).drew | exact ((((hs).alloc _).alloc _).alloc _).drew | exact (((((hs).alloc _).alloc _).alloc _).alloc _).drew | exact (hs).drewN _ | exact ((hs).alloc _).drewN _ | exact (((hs).alloc _).alloc _).drewN _ | exact ((((hs).alloc _).alloc _).alloc _).drewN _ | exact (((((hs).alloc _).alloc _).alloc _).alloc _).drewN _))

end Go.Proofs.Ytmhlnelnjnhcoaa
