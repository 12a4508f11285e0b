import Derived.Test.YtdfinlpfkmmpkaaDoorProg
import Derived.Test.YtdfinlpfkmmpkaaDoorRouteT
namespace Go.Proofs.YtdfinlpfkmmpkaaDoor
open Go.RowKit

/-! The reference's RouteTo. -/
set_option maxRecDepth 100000 in
set_option maxHeartbeats 4000000 in
theorem specRouteTo_c (va : Value) (vs : Nat → Value) (xss : List (List Int)) (fr to : Int) (w : World) (h : RdSS w va vs xss) :
    Calls Tryd.prog 7 #[va, .int .i64 fr, .int .i64 to] w (Ret w fun v w' => OwnI w' w.heap.size 3 v (rtV xss fr to)) := by
  obtain ⟨a, ca, rfl, ml⟩ := h.rows.form
  have hs := SH.start w [rdSSP (.slice a xss.length ca) vs xss] (by simp only [List.forall_mem_cons]; exact ⟨⟨h, rdSSP_wr⟩, by simp⟩)
  clear h
  cases hv : cvB xss
  · have HN : Hid (rtV xss fr to = []) := Lib.hid (by unfold rtV rtB nsB lcB; rw [hv]; rfl)
    have HV := Lib.hid hv
    clear hv
    go_enter Tryd.func7, Tryd.ntmps7
    go_wp2_with fail
    refine (SH.quiet hs (by repeat' (first | with_reducible exact Below.refl _ _ | with_reducible assumption | with_reducible refine below_drewN ?_ _ | with_reducible refine Below.drew ?_ | with_reducible refine Below.alloc ?_ ?_ _ | with_reducible refine Below.setCell ?_ ?_ _ | go_size)) fun hs => specCostsValid_c _ vs xss _ hs.p0).mono ?_
    rintro e w1 ⟨rfl, hs⟩
    rw [HV.out]
    go_wp2
    have hs := hs.ownEmpty .i64 3
    go_ret
    exact Ret.mk1 (by rw [HN.out]; exact SH.ownRet hs) hs.done
  have HV := Lib.hid hv
  clear hv
  go_enter Tryd.func7, Tryd.ntmps7
  go_wp2_with fail
  refine (SH.quiet hs (by repeat' (first | with_reducible exact Below.refl _ _ | with_reducible assumption | with_reducible refine below_drewN ?_ _ | with_reducible refine Below.drew ?_ | with_reducible refine Below.alloc ?_ ?_ _ | with_reducible refine Below.setCell ?_ ?_ _ | go_size)) fun hs => specCostsValid_c _ vs xss _ hs.p0).mono ?_
  rintro e w1 ⟨rfl, hs⟩
  rw [HV.out]
  go_wp2_with fail
  refine (l1In_x to 0 ((xss.length : Int) - 1) _).mono ?_
  rintro e w' ⟨rfl, rfl⟩
  cases hi : inB to 0 ((xss.length : Int) - 1)
  · have HN : Hid (rtV xss fr to = []) := Lib.hid (by unfold rtV rtB nsB lcB; rw [hi]; simp)
    clear hi
    go_wp2
    have hs := hs.ownEmpty .i64 3
    go_ret
    exact Ret.mk1 (by rw [HN.out]; exact SH.ownRet hs) hs.done
  have hb : lcB xss to = true := by unfold lcB; rw [hi, HV.out]; rfl
  obtain ⟨t0, t1⟩ := inB_true.1 hi
  have HB := Lib.hid hb
  clear hi hb
  go_wp2_with fail
  refine (l1In_x fr 0 ((xss.length : Int) - 1) _).mono ?_
  rintro e w' ⟨rfl, rfl⟩
  cases hi : inB fr 0 ((xss.length : Int) - 1)
  · have HN : Hid (rtV xss fr to = []) := Lib.hid (by unfold rtV rtB nsB; rw [hi]; simp)
    clear hi
    go_wp2
    have hs := hs.ownEmpty .i64 3
    go_ret
    exact Ret.mk1 (by rw [HN.out]; exact SH.ownRet hs) hs.done
  obtain ⟨f0, f1⟩ := inB_true.1 hi
  clear hi
  obtain ⟨q, rfl⟩ : ∃ q : Nat, to = (q : Int) := ⟨to.toNat, by omega⟩
  obtain ⟨f, rfl⟩ : ∃ f : Nat, fr = (f : Int) := ⟨fr.toNat, by omega⟩
  have hq : q < xss.length := by omega
  have hf : f < xss.length := by omega
  clear f0 f1 t0 t1
  have HLS : Hid (Least (tt xss) xss.length q (lcC xss q)) := Lib.hid (by have := lcC_least HB.out; simpa using this)
  have HNS : Hid (∀ s : Nat, s < xss.length → nsV xss (s : Int) (q : Int) = naV xss (lcC xss q) s) := Lib.hid (fun s hs => by
    have : nsB xss (s : Int) (q : Int) = true := nsB_true.2 ⟨HB.out, by omega, by omega⟩
    unfold nsV; rw [if_pos this]; rfl)
  go_wp2
  have hs := hs.ownLit .i64 3 [(f : Int)] (by simp [maxLen])
  by_cases h0 : lcC xss q f < 0
  · have HN : Hid (rtV xss (f : Int) (q : Int) = []) := Lib.hid (by
      have : rtB xss (f : Int) (q : Int) = false := by
        cases hx : rtB xss (f : Int) (q : Int)
        · rfl
        · have := (rtB_true.1 hx).2; simp at this; omega
      unfold rtV; rw [this]; rfl)
    have hne : f ≠ q := fun e => by subst e; have := HLS.out.zero; omega
    have HNA : Hid (naV xss (lcC xss q) f = -1) := Lib.hid (naV_un HLS.out h0)
    have he2 : ((f : Int) != (q : Int)) = true := by simp; omega
    have he3 : ¬ (f : Int) = (q : Int) := by omega
    clear h0
    go_loopw [1, 7] (fun i o wr => i = .int .i64 f ∧ SH none w wr [ownP .i64 3 o [(f : Int)], rdSSP (.slice a xss.length ca) vs xss]) (fun _ _ _ => 1)
    case atStart => exact ⟨rfl, hs⟩
    case round =>
      clear hs
      obtain ⟨rfl, hs⟩ := hrel
      go_wp2_with fail
      refine (SH.ret hs (by repeat' (first | with_reducible exact Below.refl _ _ | with_reducible assumption | with_reducible refine below_drewN ?_ _ | with_reducible refine Below.drew ?_ | with_reducible refine Below.alloc ?_ ?_ _ | with_reducible refine Below.setCell ?_ ?_ _ | go_size)) fun hs => specNextStation_c _ vs xss _ _ _ hs.p1).mono ?_
      rintro e w3 ⟨v, rfl, rfl, hs⟩
      rw [HNS.out f hf, HNA.out]
      go_wp2
      have hs := hs.ownEmpty .i64 3
      go_ret
      exact Ret.mk1 (by rw [HN.out]; exact SH.ownRet hs) hs.done
  have hfb : lcC xss q f ≤ 1000 := by have := lcC_le HB.out f hf; simpa using this
  have HST := Lib.hid (RtAt.start HB.out hf (Int.not_lt.1 h0) hfb)
  clear h0
  go_loopg [1, 7] (lcC xss q f).toNat (fun kx st o wr => ∃ (F s : Nat) (L : List Int), F ≤ kx ∧ st = .int .i64 s ∧ Hid (RtAt xss q (rtV xss (f : Int) (q : Int)) F s L) ∧ SH none w wr [ownP .i64 3 o L, rdSSP (.slice a xss.length ca) vs xss])
  case atStart => exact ⟨_, f, [(f : Int)], Nat.le_refl _, rfl, HST, hs⟩
  case round =>
    clear hs
    obtain ⟨F, s, L, hF, rfl, HR, hs⟩ := hrel
    by_cases he : s = q
    · subst he
      go_wp2
      go_ret
      exact Ret.mk1 (by rw [← HR.out.done]; exact SH.ownRet hs) hs.done
    · obtain ⟨j, F', rfl, hj, hst⟩ := HR.out.step HLS.out he
      have HJ := Lib.hid hj
      have HS2 := Lib.hid hst
      have hne : ((s : Int) != (q : Int)) = true := by simp; omega
      have he3 : ¬ (s : Int) = (q : Int) := by omega
      have hlen := hst.len
      have hsn := HR.out.n
      clear hj hst he
      go_wp2_with fail
      refine (SH.ret hs (by repeat' (first | with_reducible exact Below.refl _ _ | with_reducible assumption | with_reducible refine below_drewN ?_ _ | with_reducible refine Below.drew ?_ | with_reducible refine Below.alloc ?_ ?_ _ | with_reducible refine Below.setCell ?_ ?_ _ | go_size)) fun hs => specNextStation_c _ vs xss _ _ _ hs.p1).mono ?_
      rintro e w3 ⟨v, rfl, rfl, hs⟩
      rw [HNS.out s hsn, HJ.out]
      rw [List.length_append, List.length_singleton] at hlen
      have hj0 : ¬ ((j : Int) < 0) := by omega
      go_wp2_with (at_builtin; refine wp_app1S rfl rfl .i64 3 8 Tryd.underlying26 info_int (j : Int) rfl (hs.alloc _) rfl (World.cell?_alloc_at _ _ _ _ rfl) (by omega) (by unfold maxLen; omega) ?_; intro v9 w9 hs)
      go_roundg F'
      case measure => omega
      case rel => exact ⟨F', j, _, Nat.le_refl _, rfl, HS2, hs⟩
theorem RtAt.len' {xss : List (List Int)} {q f s : Nat} {R L : List Int} (h : RtAt xss q R f s L) : L.length ≤ 1001 := by have := h.len; omega
theorem rtV_len (xss : List (List Int)) (fr to : Int) : (rtV xss fr to).length ≤ 1001 := by
  unfold rtV
  split
  · next h =>
    obtain ⟨h1, h2⟩ := rtB_true.1 h
    obtain ⟨h3, h4, h5⟩ := nsB_true.1 h1
    have := (rtK_ok (lcC_least h3) (lcC xss to.toNat fr.toNat).toNat fr.toNat (by omega) h2 (by omega)).len2
    have := lcC_le h3 fr.toNat (by omega)
    omega
  · simp
end Go.Proofs.YtdfinlpfkmmpkaaDoor
