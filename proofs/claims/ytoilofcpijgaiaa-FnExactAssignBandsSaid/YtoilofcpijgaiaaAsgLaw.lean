import Derived.Test.YtoilofcpijgaiaaProg
import Derived.Test.YtoilofcpijgaiaaSym
import Derived.Test.YtoilofcpijgaiaaInts
import Derived.Test.YtoilofcpijgaiaaPair
import Derived.Test.YtoilofcpijgaiaaBand
import Derived.Test.YtoilofcpijgaiaaAsg
namespace Go.Proofs.Ytoilofcpijgaiaa
open Go.RowKit

theorem bC_int (xs : List (Int × Int)) (i j : Nat) : ∃ x : Int, bC xs i j = .int .i64 x := ⟨_, rfl⟩
theorem asgV_len (fs : List (Int × Int)) (ws : List Int) : (asgV fs ws).length ≤ 64 := by
  unfold asgV
  split
  · next h =>
    rw [length_outK]
    simp only [Bool.and_eq_true] at h
    exact (wdB_true.1 h.2).1
  · simp

theorem fnExactAssignBands_c (va : Value) (fs : List (Int × Int)) (vb : Value) (ws : List Int) (w : World) (ha : RdBand w va fs) (hb : RdI w vb ws) (_ : ∀ n ∈ ws, (Lit.int .i64 n).wf = true) :
    Calls Try.prog 11 #[va, vb] w (Ret w fun v _ => v = .bool true) := by
  obtain ⟨a, ca, rfl, ma⟩ := ha.form
  obtain ⟨b, cb, rfl, mb⟩ := hb.form
  have hs := SH.start w [rdMP 2 (.slice a fs.length ca) fs.length (bC fs), rdP .i64 (.slice b ws.length cb) ws] (by simp only [List.forall_mem_cons]; exact ⟨⟨⟨ha, by decide⟩, rdMP_wr⟩, ⟨hb, rdP_wr⟩, by simp⟩)
  clear ha hb
  by_cases lw : ws.length ≤ 1048576
  case neg =>
    go_enter Try.func11, Try.ntmps11
    go_wp2
    go_ret
    exact Ret.mk1 rfl (Below.refl _ _)
  go_enter Try.func11, Try.ntmps11
  go_wp2_with fail
  refine (SH.quiet hs (by repeat' (first | with_reducible exact Below.refl _ _ | with_reducible assumption | with_reducible refine below_drewN ?_ _ | with_reducible refine Below.drew ?_ | with_reducible refine Below.alloc ?_ ?_ _ | with_reducible refine Below.setCell ?_ ?_ _ | go_size)) fun hs => szBandS_c _ fs _ hs.p0.1).mono ?_
  rintro e w1 ⟨rfl, hs⟩
  by_cases lf : fs.length ≤ 1048576
  case neg =>
    rw [if_neg lf]
    go_wp2
    go_ret
    exact Ret.mk1 rfl (SH.done (by first | exact hs | exact (hs).alloc _ | exact ((hs).alloc _).alloc _ | exact (((hs).alloc _).alloc _).alloc _ | exact ((((hs).alloc _).alloc _).alloc _).alloc _ | exact (hs).drew | exact ((hs).alloc _).drew | exact (((hs).alloc _).alloc _).drew | exact ((((hs).alloc _).alloc _).alloc _).drew | exact (((((hs).alloc _).alloc _).alloc _).alloc _).drew | exact (hs).drewN _ | exact ((hs).alloc _).drewN _ | exact (((hs).alloc _).alloc _).drewN _ | exact ((((hs).alloc _).alloc _).alloc _).drewN _ | exact (((((hs).alloc _).alloc _).alloc _).alloc _).drewN _))
  rw [if_pos lf]
  go_wp2_with fail
  refine (SH.ownM hs (by repeat' (first | with_reducible exact Below.refl _ _ | with_reducible assumption | with_reducible refine below_drewN ?_ _ | with_reducible refine Below.drew ?_ | with_reducible refine Below.alloc ?_ ?_ _ | with_reducible refine Below.setCell ?_ ?_ _ | go_size)) fun hs => toBandS_c _ fs _ hs.p0.1 lf).mono ?_
  rintro e w2 ⟨x1, rfl, hs⟩
  go_wp2_with fail
  refine (SH.own hs (by repeat' (first | with_reducible exact Below.refl _ _ | with_reducible assumption | with_reducible refine below_drewN ?_ _ | with_reducible refine Below.drew ?_ | with_reducible refine Below.alloc ?_ ?_ _ | with_reducible refine Below.setCell ?_ ?_ _ | go_size)) fun hs => toIntS_c _ ws _ hs.p2 (by omega)).mono ?_
  rintro e w3 ⟨x2, rfl, hs⟩
  go_wp2_with fail
  refine (SH.ownM hs (by repeat' (first | with_reducible exact Below.refl _ _ | with_reducible assumption | with_reducible refine below_drewN ?_ _ | with_reducible refine Below.drew ?_ | with_reducible refine Below.alloc ?_ ?_ _ | with_reducible refine Below.setCell ?_ ?_ _ | go_size)) fun hs => specAssignBands_c _ fs _ ws _ (OwnM.rd hs.p1) (OwnK.rd hs.p0)).mono ?_
  rintro e w4 ⟨w0, rfl, hs⟩
  have hs := hs.drop1.drop1
  go_wp2_with fail
  refine (SH.ownM hs (by repeat' (first | with_reducible exact Below.refl _ _ | with_reducible assumption | with_reducible refine below_drewN ?_ _ | with_reducible refine Below.drew ?_ | with_reducible refine Below.alloc ?_ ?_ _ | with_reducible refine Below.setCell ?_ ?_ _ | go_size)) fun hs => toBandS_c _ fs _ hs.p1.1 lf).mono ?_
  rintro e w5 ⟨x0, rfl, hs⟩
  go_wp2_with fail
  refine (SH.own hs (by repeat' (first | with_reducible exact Below.refl _ _ | with_reducible assumption | with_reducible refine below_drewN ?_ _ | with_reducible refine Below.drew ?_ | with_reducible refine Below.alloc ?_ ?_ _ | with_reducible refine Below.setCell ?_ ?_ _ | go_size)) fun hs => toIntS_c _ ws _ hs.p3 (by omega)).mono ?_
  rintro e w6 ⟨x1, rfl, hs⟩
  go_wp2_with fail
  refine (SH.ownM hs (by repeat' (first | with_reducible exact Below.refl _ _ | with_reducible assumption | with_reducible refine below_drewN ?_ _ | with_reducible refine Below.drew ?_ | with_reducible refine Below.alloc ?_ ?_ _ | with_reducible refine Below.setCell ?_ ?_ _ | go_size)) fun hs => implAssignBands_c _ fs _ ws _ (OwnM.rd hs.p1) (OwnK.rd hs.p0)).mono ?_
  rintro e w7 ⟨g0, rfl, hs⟩
  go_wp2_with fail
  refine (SH.ret hs (by repeat' (first | with_reducible exact Below.refl _ _ | with_reducible assumption | with_reducible refine below_drewN ?_ _ | with_reducible refine Below.drew ?_ | with_reducible refine Below.alloc ?_ ?_ _ | with_reducible refine Below.setCell ?_ ?_ _ | go_size)) fun hs => eqBandS_c _ _ _ _ _ (OwnM.rd hs.p0) (OwnM.rd hs.p3)).mono ?_
  rintro e w8 ⟨v, rfl, rfl, hs⟩
  rw [show decide (asgV fs ws = asgV fs ws) = true by simp]
  go_wp2_with fail
  refine (SH.ownM hs (by repeat' (first | with_reducible exact Below.refl _ _ | with_reducible assumption | with_reducible refine below_drewN ?_ _ | with_reducible refine Below.drew ?_ | with_reducible refine Below.alloc ?_ ?_ _ | with_reducible refine Below.setCell ?_ ?_ _ | go_size)) fun hs => toBandS_c _ fs _ hs.p4.1 lf).mono ?_
  rintro e w9 ⟨y0, rfl, hs⟩
  go_wp2_with fail
  refine (SH.ret hs (by repeat' (first | with_reducible exact Below.refl _ _ | with_reducible assumption | with_reducible refine below_drewN ?_ _ | with_reducible refine Below.drew ?_ | with_reducible refine Below.alloc ?_ ?_ _ | with_reducible refine Below.setCell ?_ ?_ _ | go_size)) fun hs => eqBandS_c _ _ _ _ _ (OwnM.rd hs.p3) (OwnM.rd hs.p0)).mono ?_
  rintro e w10 ⟨v, rfl, rfl, hs⟩
  rw [show decide (fs = fs) = true by simp]
  have hs := hs.drop0
  go_wp2_with fail
  refine (SH.own hs (by repeat' (first | with_reducible exact Below.refl _ _ | with_reducible assumption | with_reducible refine below_drewN ?_ _ | with_reducible refine Below.drew ?_ | with_reducible refine Below.alloc ?_ ?_ _ | with_reducible refine Below.setCell ?_ ?_ _ | go_size)) fun hs => toIntS_c _ ws _ hs.p5 (by omega)).mono ?_
  rintro e w11 ⟨y1, rfl, hs⟩
  go_wp2_with fail
  refine (SH.quiet hs (by repeat' (first | with_reducible exact Below.refl _ _ | with_reducible assumption | with_reducible refine below_drewN ?_ _ | with_reducible refine Below.drew ?_ | with_reducible refine Below.alloc ?_ ?_ _ | with_reducible refine Below.setCell ?_ ?_ _ | go_size)) fun hs => eqIntS_c _ _ _ _ _ (OwnK.rd hs.p2) (OwnK.rd hs.p0)).mono ?_
  rintro e w12 ⟨rfl, hs⟩
  rw [show decide (ws = ws) = true by simp]
  have hs := hs.drop0
  have hs := hs.bring2
  go_wp2_with fail
  refine (SH.writesM hs (by repeat' (first | with_reducible exact Below.refl _ _ | with_reducible assumption | with_reducible refine below_drewN ?_ _ | with_reducible refine Below.drew ?_ | with_reducible refine Below.alloc ?_ ?_ _ | with_reducible refine Below.setCell ?_ ?_ _ | go_size)) fun hs => markBandS_c 0 _ _ _ 1 _ hs.p0 (fun i j _ _ => bC_int _ i j) (by omega) (by omega) (by omega)).mono ?_
  rintro e w13 ⟨rfl, hs⟩
  have hs := hs.bring2
  go_wp2_with fail
  refine (SH.writes hs (by repeat' (first | with_reducible exact Below.refl _ _ | with_reducible assumption | with_reducible refine below_drewN ?_ _ | with_reducible refine Below.drew ?_ | with_reducible refine Below.alloc ?_ ?_ _ | with_reducible refine Below.setCell ?_ ?_ _ | go_size)) fun hs => markIntS_c 0 _ _ _ _ hs.p0 (by omega) (by omega) (by omega)).mono ?_
  rintro e w14 ⟨rfl, hs⟩
  have hs := hs.drop0.drop0
  have hlen := asgV_len fs ws
  go_wp2_with fail
  refine (SH.ret hs (by repeat' (first | with_reducible exact Below.refl _ _ | with_reducible assumption | with_reducible refine below_drewN ?_ _ | with_reducible refine Below.drew ?_ | with_reducible refine Below.alloc ?_ ?_ _ | with_reducible refine Below.setCell ?_ ?_ _ | go_size)) fun hs => eqBandS_c _ _ _ _ _ (OwnM.rd hs.p0) (OwnM.rd hs.p1)).mono ?_
  rintro e w15 ⟨v, rfl, rfl, hs⟩
  rw [show decide (asgV fs ws = asgV fs ws) = true by simp]
  go_wp2_with fail
  refine (SH.writesM hs (by repeat' (first | with_reducible exact Below.refl _ _ | with_reducible assumption | with_reducible refine below_drewN ?_ _ | with_reducible refine Below.drew ?_ | with_reducible refine Below.alloc ?_ ?_ _ | with_reducible refine Below.setCell ?_ ?_ _ | go_size)) fun hs => markBandS_c 0 _ _ _ 1 _ hs.p0 (fun i j _ _ => bC_int _ i j) (by omega) (by omega) (by omega)).mono ?_
  rintro e w16 ⟨rfl, hs⟩
  go_wp2_with fail
  refine (SH.quiet hs (by repeat' (first | with_reducible exact Below.refl _ _ | with_reducible assumption | with_reducible refine below_drewN ?_ _ | with_reducible refine Below.drew ?_ | with_reducible refine Below.alloc ?_ ?_ _ | with_reducible refine Below.setCell ?_ ?_ _ | go_size)) fun hs => heldBandS_c _ _ 1 _ (OwnM.rd hs.p0) (by omega) (by omega) (by omega)).mono ?_
  rintro e w17 ⟨rfl, hs⟩
  have e1 : ((1 : Int) + 2 * ((asgV fs ws).length : Int) != 1 + 2 * ((asgV fs ws).length : Int)) = false := bne_self_eq_false _
  go_wp2_with fail
  refine (SH.ownM hs (by repeat' (first | with_reducible exact Below.refl _ _ | with_reducible assumption | with_reducible refine below_drewN ?_ _ | with_reducible refine Below.drew ?_ | with_reducible refine Below.alloc ?_ ?_ _ | with_reducible refine Below.setCell ?_ ?_ _ | go_size)) fun hs => toBandS_c _ fs _ hs.p2.1 lf).mono ?_
  rintro e w18 ⟨z0, rfl, hs⟩
  go_wp2_with fail
  refine (SH.own hs (by repeat' (first | with_reducible exact Below.refl _ _ | with_reducible assumption | with_reducible refine below_drewN ?_ _ | with_reducible refine Below.drew ?_ | with_reducible refine Below.alloc ?_ ?_ _ | with_reducible refine Below.setCell ?_ ?_ _ | go_size)) fun hs => toIntS_c _ ws _ hs.p4 (by omega)).mono ?_
  rintro e w19 ⟨z1, rfl, hs⟩
  go_wp2_with fail
  refine (SH.ownM hs (by repeat' (first | with_reducible exact Below.refl _ _ | with_reducible assumption | with_reducible refine below_drewN ?_ _ | with_reducible refine Below.drew ?_ | with_reducible refine Below.alloc ?_ ?_ _ | with_reducible refine Below.setCell ?_ ?_ _ | go_size)) fun hs => implAssignBands_c _ fs _ ws _ (OwnM.rd hs.p1) (OwnK.rd hs.p0)).mono ?_
  rintro e w20 ⟨h0, rfl, hs⟩
  go_wp2_with fail
  refine (SH.ret hs (by repeat' (first | with_reducible exact Below.refl _ _ | with_reducible assumption | with_reducible refine below_drewN ?_ _ | with_reducible refine Below.drew ?_ | with_reducible refine Below.alloc ?_ ?_ _ | with_reducible refine Below.setCell ?_ ?_ _ | go_size)) fun hs => eqBandS_c _ _ _ _ _ (OwnM.rd hs.p0) (OwnM.rd hs.p4)).mono ?_
  rintro e w21 ⟨v, rfl, rfl, hs⟩
  rw [show decide (asgV fs ws = asgV fs ws) = true by simp]
  go_wp2_with fail
  refine (SH.quiet hs (by repeat' (first | with_reducible exact Below.refl _ _ | with_reducible assumption | with_reducible refine below_drewN ?_ _ | with_reducible refine Below.drew ?_ | with_reducible refine Below.alloc ?_ ?_ _ | with_reducible refine Below.setCell ?_ ?_ _ | go_size)) fun hs => heldBandS_c _ _ 1 _ (OwnM.rd hs.p3) (by omega) (by omega) (by omega)).mono ?_
  rintro e w22 ⟨rfl, hs⟩
  have e1 : ((1 : Int) + 2 * ((asgV fs ws).length : Int) != 1 + 2 * ((asgV fs ws).length : Int)) = false := bne_self_eq_false _
  go_wp2
  go_ret
  exact Ret.mk1 rfl (SH.done (by first | exact hs | exact (hs).alloc _ | exact ((hs).alloc _).alloc _ | exact (((hs).alloc _).alloc _).alloc _ | exact ((((hs).alloc _).alloc _).alloc _).alloc _ | exact (hs).drew | exact ((hs).alloc _).drew | exact (((hs).alloc _).alloc _).drew | exact ((((hs).alloc _).alloc _).alloc _).drew | exact (((((hs).alloc _).alloc _).alloc _).alloc _).drew | exact (hs).drewN _ | exact ((hs).alloc _).drewN _ | exact (((hs).alloc _).alloc _).drewN _ | exact ((((hs).alloc _).alloc _).alloc _).drewN _ | exact (((((hs).alloc _).alloc _).alloc _).alloc _).drewN _))

end Go.Proofs.Ytoilofcpijgaiaa
