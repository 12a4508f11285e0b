import Derived.Test.YtjgafkoboolclaaProg
import Derived.Test.YtjgafkoboolclaaLib
import Derived.Test.YtjgafkoboolclaaMem
import Derived.Test.YtjgafkoboolclaaSym
import Derived.Test.YtjgafkoboolclaaInts
import Derived.Test.YtjgafkoboolclaaSS
import Derived.Test.YtjgafkoboolclaaFlag
import Derived.Test.YtjgafkoboolclaaFind
import Derived.Test.YtjgafkoboolclaaFind2
namespace Go.Proofs.Ytjgafkoboolclaa
open Go.RowKit

section
variable {row : Option Nat} {w0 w w' W : World} {I J : List Part} {a b q : Part}
/-- parts made by a call, beside the caller's -/
theorem SH.join (hs : SH row w0 w I) (hb : Below w.heap.size w W) (h : SH none W w' J) (hJ : ∀ p ∈ J, ∀ g, p.on g → p.wr g) : SH row w0 w' (J ++ I) := by
  have h1 := (hs.below hb).below h.done
  have hnew : ∀ p ∈ J, ∀ g, p.wr g → W.heap.size ≤ g := fun p hp g hg => by
    rcases h.new p hp g hg with h2 | h2
    · exact h2
    · cases h2
  have hlt : ∀ p ∈ I, ∀ g, p.on g → g < W.heap.size := fun p hp g hg => Nat.lt_of_lt_of_le (p.lt w (hs.says p hp) g hg) hb.size
  refine ⟨h1.grown, fun p hp => ?_, fun p hp g hg => ?_, ?_⟩
  · rcases List.mem_append.1 hp with hp | hp
    · exact h.says p hp
    · exact h1.says p hp
  · rcases List.mem_append.1 hp with hp | hp
    · exact .inl (Nat.le_trans (hs.below hb).grown.size (hnew p hp g hg))
    · exact h1.new p hp g hg
  · refine List.pairwise_append.2 ⟨h.apart, h1.apart, fun p hp q hq g => ⟨fun h2 h3 => ?_, fun h2 h3 => ?_⟩⟩
    · exact Nat.lt_irrefl _ (Nat.lt_of_lt_of_le (hlt q hq g h3) (hnew p hp g h2))
    · exact Nat.lt_irrefl _ (Nat.lt_of_lt_of_le (hlt q hq g (q.sub g h2)) (hnew p hp g (hJ p hp g h3)))
end
section
variable {row : Option Nat} {w0 w W : World} {I : List Part} {P : Program} {fn : FuncId} {args : Array Value}
theorem SH.rowsC {t ti : TypeId} {xss : List (List Int)} (hs : SH row w0 w I) (hb : Below w.heap.size w W)
    (hc : SH row w0 W I → Calls P fn args W (fun e w' => ∃ v : Value, e = .returned v ∧ ∃ vs : Nat → Value, SH none W w' [ownMP 1 t v xss.length (oneC vs), innP ti vs xss xss.length])) :
    Calls P fn args W (fun e w' => ∃ (v : Value) (vs : Nat → Value), e = .returned v ∧ SH row w0 w' (ownMP 1 t v xss.length (oneC vs) :: innP ti vs xss xss.length :: I)) :=
  (hc (hs.below hb)).mono fun _ _ ⟨v, h1, vs, h2⟩ => ⟨v, vs, h1, hs.join hb h2 (fun p hp g hg => by
    simp only [List.mem_cons, List.not_mem_nil, or_false] at hp
    rcases hp with rfl | rfl
    · exact hg
    · exact hg)⟩
theorem rd_of_upS {t ti : TypeId} {v : Value} {vs : Nat → Value} {xss : List (List Int)} {k : Int} (h : SH row w0 w (ownMP 1 t v xss.length (oneC vs) :: innP ti vs (upSS k xss xss.length) xss.length :: I)) : RdSS w v vs (upSS k xss xss.length) :=
  ⟨by rw [length_upSS]; exact OwnM.rd h.p0, fun i hi => OwnK.rd (h.p1.1 i (by rw [length_upSS] at hi; exact hi))⟩
end
theorem ffS_rows (bs : List Int) : ∀ k, ∀ r ∈ (ffS bs (btwF bs) k).2, r.length ≤ 256
  | 0, r, h => by simp [ffS] at h
  | k + 1, r, h => by
    simp only [ffS] at h
    split at h
    · cases hl : (ffS bs (btwF bs) k).1 with
      | none => rw [hl] at h; exact ffS_rows bs k r h
      | some l =>
        rw [hl] at h
        simp only [] at h
        split at h
        · rcases List.mem_append.1 h with h | h
          · exact ffS_rows bs k r h
          · unfold btwF at h
            split at h
            · rw [List.mem_singleton] at h; subst h; exact fbL_len _
            · simp at h
        · exact ffS_rows bs k r h
    · exact ffS_rows bs k r h
theorem sumL_bound {xss : List (List Int)} (h : ∀ r ∈ xss, r.length ≤ 256) : ∀ k, k ≤ xss.length → sumL xss k ≤ k * 256
  | 0, _ => by simp [sumL]
  | k + 1, hk => by
    have ih := sumL_bound h k (by omega)
    have : (gl xss k).length ≤ 256 := by
      have e : gl xss k = xss[k] := by simp [gl, show k < xss.length by omega]
      rw [e]; exact h _ (List.getElem_mem (by omega))
    simp only [sumL]; omega
theorem ffV_bd (xs : List Int) : (ffV xs).length ≤ 1024 ∧ sumL (ffV xs) (ffV xs).length ≤ 100000000 := by
  unfold ffV
  split
  · next h =>
    have hl := (bitsB_true.1 h).1
    have h1 := ffS_len xs xs.length
    have h2 := sumL_bound (ffS_rows xs xs.length) _ (Nat.le_refl _)
    exact ⟨by omega, by omega⟩
  · simp [sumL]

set_option maxHeartbeats 4000000 in
theorem fnExactFindFrames_c (va : Value) (xs : List Int) (w : World) (ha : RdI w va xs) (_ : ∀ n ∈ xs, (Lit.int .i64 n).wf = true) :
    Calls Try.prog 7 #[va] w (Ret w fun v _ => v = .bool true) := by
  obtain ⟨a, ca, rfl, ma⟩ := ha.form
  have hs := SH.start w [rdP .i64 (.slice a xs.length ca) xs] (by simp only [List.forall_mem_cons]; exact ⟨⟨ha, rdP_wr⟩, by simp⟩)
  clear ha
  by_cases lw : xs.length ≤ 1048576
  case neg =>
    go_enter Try.func7, Try.ntmps7
    go_wp2
    go_ret
    exact Ret.mk1 rfl (Below.refl _ _)
  obtain ⟨hfl, hsum⟩ := ffV_bd xs
  go_enter Try.func7, Try.ntmps7
  go_wp2_with fail
  refine (SH.own hs (by repeat' (first | with_reducible exact Below.refl _ _ | with_reducible assumption | with_reducible refine below_drewN ?_ _ | with_reducible refine Below.drew ?_ | with_reducible refine Below.alloc ?_ ?_ _ | with_reducible refine Below.setCell ?_ ?_ _ | go_size)) fun hs => toIntS_c _ xs _ hs.p0 (by omega)).mono ?_
  rintro e w1 ⟨x1, rfl, hs⟩
  go_wp2_with fail
  refine (SH.rowsC hs (by repeat' (first | with_reducible exact Below.refl _ _ | with_reducible assumption | with_reducible refine below_drewN ?_ _ | with_reducible refine Below.drew ?_ | with_reducible refine Below.alloc ?_ ?_ _ | with_reducible refine Below.setCell ?_ ?_ _ | go_size)) fun hs => specFind_c _ xs _ (OwnK.rd hs.p0)).mono ?_
  rintro e w2 ⟨w0, ws, rfl, hs⟩
  have hs := hs.drop2
  go_wp2_with fail
  refine (SH.own hs (by repeat' (first | with_reducible exact Below.refl _ _ | with_reducible assumption | with_reducible refine below_drewN ?_ _ | with_reducible refine Below.drew ?_ | with_reducible refine Below.alloc ?_ ?_ _ | with_reducible refine Below.setCell ?_ ?_ _ | go_size)) fun hs => toIntS_c _ xs _ hs.p2 (by omega)).mono ?_
  rintro e w3 ⟨x0, rfl, hs⟩
  go_wp2_with fail
  refine (SH.rowsC hs (by repeat' (first | with_reducible exact Below.refl _ _ | with_reducible assumption | with_reducible refine below_drewN ?_ _ | with_reducible refine Below.drew ?_ | with_reducible refine Below.alloc ?_ ?_ _ | with_reducible refine Below.setCell ?_ ?_ _ | go_size)) fun hs => implFind_c _ xs _ (OwnK.rd hs.p0)).mono ?_
  rintro e w4 ⟨g0, gs, rfl, hs⟩
  go_wp2_with fail
  refine (SH.quiet hs (by repeat' (first | with_reducible exact Below.refl _ _ | with_reducible assumption | with_reducible refine below_drewN ?_ _ | with_reducible refine Below.drew ?_ | with_reducible refine Below.alloc ?_ ?_ _ | with_reducible refine Below.setCell ?_ ?_ _ | go_size)) fun hs => eqIntSS_c _ _ _ _ _ _ (rd_of_inn hs) (rd_of_inn hs.drop0.drop0.drop0)).mono ?_
  rintro e w5 ⟨rfl, hs⟩
  go_wp2_with fail
  refine (SH.own hs (by repeat' (first | with_reducible exact Below.refl _ _ | with_reducible assumption | with_reducible refine below_drewN ?_ _ | with_reducible refine Below.drew ?_ | with_reducible refine Below.alloc ?_ ?_ _ | with_reducible refine Below.setCell ?_ ?_ _ | go_size)) fun hs => toIntS_c _ xs _ hs.p5 (by omega)).mono ?_
  rintro e w6 ⟨y0, rfl, hs⟩
  go_wp2_with fail
  refine (SH.quiet hs (by repeat' (first | with_reducible exact Below.refl _ _ | with_reducible assumption | with_reducible refine below_drewN ?_ _ | with_reducible refine Below.drew ?_ | with_reducible refine Below.alloc ?_ ?_ _ | with_reducible refine Below.setCell ?_ ?_ _ | go_size)) fun hs => eqIntS_c _ _ _ _ _ (OwnK.rd hs.p3) (OwnK.rd hs.p0)).mono ?_
  rintro e w7 ⟨rfl, hs⟩
  rw [show decide (xs = xs) = true by simp]
  have hs := hs.drop0.bring2
  go_wp2_with fail
  refine (SH.writes hs (by repeat' (first | with_reducible exact Below.refl _ _ | with_reducible assumption | with_reducible refine below_drewN ?_ _ | with_reducible refine Below.drew ?_ | with_reducible refine Below.alloc ?_ ?_ _ | with_reducible refine Below.setCell ?_ ?_ _ | go_size)) fun hs => markIntS_c 0 _ _ _ _ hs.p0 (by omega) (by omega) (by omega)).mono ?_
  rintro e w8 ⟨rfl, hs⟩
  have hs := hs.drop0
  go_wp2_with fail
  refine (SH.quiet hs (by repeat' (first | with_reducible exact Below.refl _ _ | with_reducible assumption | with_reducible refine below_drewN ?_ _ | with_reducible refine Below.drew ?_ | with_reducible refine Below.alloc ?_ ?_ _ | with_reducible refine Below.setCell ?_ ?_ _ | go_size)) fun hs => eqIntSS_c _ _ _ _ _ _ (rd_of_inn hs) (rd_of_inn hs.drop0.drop0)).mono ?_
  rintro e w9 ⟨rfl, hs⟩
  go_wp2_with fail
  refine (markIntSS_s _ _ _ _ 1 _ (hs.below (by repeat' (first | with_reducible exact Below.refl _ _ | with_reducible assumption | with_reducible refine below_drewN ?_ _ | with_reducible refine Below.drew ?_ | with_reducible refine Below.alloc ?_ ?_ _ | with_reducible refine Below.setCell ?_ ?_ _ | go_size))) (by omega) (by omega) hsum).mono ?_
  rintro e w10 ⟨rfl, hs⟩
  go_wp2_with fail
  refine (SH.quiet hs (by repeat' (first | with_reducible exact Below.refl _ _ | with_reducible assumption | with_reducible refine below_drewN ?_ _ | with_reducible refine Below.drew ?_ | with_reducible refine Below.alloc ?_ ?_ _ | with_reducible refine Below.setCell ?_ ?_ _ | go_size)) fun hs => heldIntSS_c _ _ _ 1 _ (rd_of_upS hs) (by omega) (by omega) hsum).mono ?_
  rintro e w11 ⟨rfl, hs⟩
  have e1 : ((1 : Int) + (sumL (ffV xs) (ffV xs).length : Int) != 1 + (sumL (ffV xs) (ffV xs).length : Int)) = false := bne_self_eq_false _
  go_wp2_with fail
  refine (SH.own hs (by repeat' (first | with_reducible exact Below.refl _ _ | with_reducible assumption | with_reducible refine below_drewN ?_ _ | with_reducible refine Below.drew ?_ | with_reducible refine Below.alloc ?_ ?_ _ | with_reducible refine Below.setCell ?_ ?_ _ | go_size)) fun hs => toIntS_c _ xs _ hs.p4 (by omega)).mono ?_
  rintro e w12 ⟨z0, rfl, hs⟩
  go_wp2_with fail
  refine (SH.rowsC hs (by repeat' (first | with_reducible exact Below.refl _ _ | with_reducible assumption | with_reducible refine below_drewN ?_ _ | with_reducible refine Below.drew ?_ | with_reducible refine Below.alloc ?_ ?_ _ | with_reducible refine Below.setCell ?_ ?_ _ | go_size)) fun hs => implFind_c _ xs _ (OwnK.rd hs.p0)).mono ?_
  rintro e w13 ⟨h0, hh, rfl, hs⟩
  go_wp2_with fail
  refine (SH.quiet hs (by repeat' (first | with_reducible exact Below.refl _ _ | with_reducible assumption | with_reducible refine below_drewN ?_ _ | with_reducible refine Below.drew ?_ | with_reducible refine Below.alloc ?_ ?_ _ | with_reducible refine Below.setCell ?_ ?_ _ | go_size)) fun hs => eqIntSS_c _ _ _ _ _ _ (rd_of_inn hs) (rd_of_inn hs.drop0.drop0.drop0.drop0.drop0)).mono ?_
  rintro e w14 ⟨rfl, hs⟩
  go_wp2_with fail
  refine (SH.quiet hs (by repeat' (first | with_reducible exact Below.refl _ _ | with_reducible assumption | with_reducible refine below_drewN ?_ _ | with_reducible refine Below.drew ?_ | with_reducible refine Below.alloc ?_ ?_ _ | with_reducible refine Below.setCell ?_ ?_ _ | go_size)) fun hs => heldIntSS_c _ _ _ 1 _ (rd_of_upS hs.drop0.drop0.drop0) (by omega) (by omega) hsum).mono ?_
  rintro e w15 ⟨rfl, hs⟩
  have e1 : ((1 : Int) + (sumL (ffV xs) (ffV xs).length : Int) != 1 + (sumL (ffV xs) (ffV xs).length : Int)) = false := bne_self_eq_false _
  go_wp2
  go_ret
  exact Ret.mk1 rfl (SH.done (by first | exact hs | exact (hs).alloc _ | exact ((hs).alloc _).alloc _ | exact (((hs).alloc _).alloc _).alloc _ | exact ((((hs).alloc _).alloc _).alloc _).alloc _ | exact (hs).drew | exact ((hs).alloc _).drew | exact (((hs).alloc _).alloc _).drew | exact ((((hs).alloc _).alloc _).alloc _).drew | exact (((((hs).alloc _).alloc _).alloc _).alloc _).drew | exact (hs).drewN _ | exact ((hs).alloc _).drewN _ | exact (((hs).alloc _).alloc _).drewN _ | exact ((((hs).alloc _).alloc _).alloc _).drewN _ | exact (((((hs).alloc _).alloc _).alloc _).alloc _).drewN _))

end Go.Proofs.Ytjgafkoboolclaa
