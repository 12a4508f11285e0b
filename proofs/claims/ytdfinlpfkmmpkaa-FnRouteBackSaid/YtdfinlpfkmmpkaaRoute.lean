import Derived.Test.YtdfinlpfkmmpkaaProg
import Derived.Test.YtdfinlpfkmmpkaaDij
import Derived.Lib.SliceRun
namespace Go.Proofs.Ytdfinlpfkmmpkaa
open Go.RowKit

/-! The program's LeastCosts outside its arguments; NextStation, RouteTo. -/
theorem lcB_false {xss : List (List Int)} {to : Int} : lcB xss to = false ↔ cvB xss = false ∨ (cvB xss = true ∧ inB to 0 ((xss.length : Int) - 1) = false) := by
  unfold lcB; cases cvB xss <;> simp
theorem implLeastCosts_n (va : Value) (vs : Nat → Value) (xss : List (List Int)) (to : Int) (w : World) (h : RdSS w va vs xss) (hb : lcB xss to = false) :
    Calls Try.prog 19 #[va, .int .i64 to] w (RetQ w (.slice none 0 0)) := by
  obtain ⟨a, ca, rfl, ml⟩ := h.rows.form
  have H := Lib.hid h
  clear h
  rcases lcB_false.1 hb with hv | ⟨hv, hi⟩
  · have HV := Lib.hid hv
    clear hv hb
    go_enter Try.func19, Try.ntmps19
    go_wp2_with fail
    refine (implCostsValid_c _ vs xss _ H.out).mono ?_
    rintro e w1 hr
    obtain ⟨rfl, hs1⟩ := hr.same
    have HS := Lib.hid hs1
    clear hr hs1
    rw [HV.out]
    go_wp2
    go_ret
    exact RetQ.mkS rfl HS.out
  · have HV := Lib.hid hv
    have HI := Lib.hid hi
    clear hv hb hi
    go_enter Try.func19, Try.ntmps19
    go_wp2_with fail
    refine (implCostsValid_c _ vs xss _ H.out).mono ?_
    rintro e w1 hr
    obtain ⟨rfl, hs1⟩ := hr.same
    have HS := Lib.hid hs1
    clear hr hs1
    rw [HV.out]
    go_wp2_with fail
    refine (implStationOf_c _ vs xss _ _ (H.out.below HS.out.below)).mono ?_
    rintro e w2 hr
    obtain ⟨rfl, hs1⟩ := hr.same
    have HS := Lib.hid (HS.out.trans hs1)
    clear hr hs1
    rw [HI.out]
    go_wp2
    go_ret
    exact RetQ.mkS rfl HS.out

theorem eqNil (w : World) (a : Option Addr) (n c n' c' : Nat) : (binOp .eql 28 (.slice a n c) (.slice none n' c')).run Try.prog w = .ok (.bool a.isNone) w := Lib.run_eql_slice_nil w _ _ a n c n' c' Try.underlying28
theorem lcC_le {xss : List (List Int)} {to : Int} (h : lcB xss to = true) : ∀ i, i < xss.length → lcC xss to.toNat i ≤ 1000 := by
  obtain ⟨h1, h2, h3⟩ := lcB_true.1 h
  exact least_le (lcC_least h) (by omega) (cvB_true.1 h1).1 fun i j hi hj => ((cvRow_true.1 ((cvB_true.1 h1).2 i hi)).2.2 j hj).2
theorem lcV_bd {xss : List (List Int)} {to : Int} (h : lcB xss to = true) : ∀ i, i < xss.length → gi (lcV xss to) i ≤ 1000 := fun i hi => by rw [lcV_gi h hi]; exact lcC_le h i hi

/-- a slice that is there -/
theorem own_some {k : IntKind} {w : World} {base : Nat} {t : TypeId} {a : Option Addr} {n cap : Nat} {xs : List Int} (h : OwnK k w base t (.slice a n cap) xs) (hn : 0 < n) : ∃ g, a = some ⟨g, 0, none⟩ := by
  obtain ⟨g, e, _⟩ := h.at_ hn
  exact ⟨g, e⟩

set_option maxHeartbeats 1000000 in
theorem implNextStation_c (va : Value) (vs : Nat → Value) (xss : List (List Int)) (fr to : Int) (w : World) (h : RdSS w va vs xss) :
    Calls Try.prog 16 #[va, .int .i64 fr, .int .i64 to] w (Ret w fun v _ => v = .int .i64 (nsV xss fr to)) := by
  obtain ⟨a, ca, rfl, ml⟩ := h.rows.form
  have hs := SH.start w [rdSSP (.slice a xss.length ca) vs xss] (by simp only [List.forall_mem_cons]; exact ⟨⟨h, rdSSP_wr⟩, by simp⟩)
  clear h
  cases hb : lcB xss to
  · have HN : Hid (nsV xss fr to = -1) := Lib.hid (by unfold nsV nsB; rw [hb]; rfl)
    have HB := Lib.hid hb
    clear hb
    have qn := fun w n c n' c' => eqNil w none n c n' c'
    go_enter Try.func16, Try.ntmps16
    go_wp2_with fail
    refine (SH.quiet hs (by repeat' (first | with_reducible exact Below.refl _ _ | with_reducible assumption | with_reducible refine below_drewN ?_ _ | with_reducible refine Below.drew ?_ | with_reducible refine Below.alloc ?_ ?_ _ | with_reducible refine Below.setCell ?_ ?_ _ | go_size)) fun hs => implLeastCosts_n _ vs xss _ _ hs.p0 HB.out).mono ?_
    rintro e w1 ⟨rfl, hs⟩
    go_wp2
    go_ret
    exact Ret.mk1 (intv HN.out.symm) hs.done
  · obtain ⟨hv, t0, t1⟩ := lcB_true.1 hb
    have HB := Lib.hid hb
    have HV := Lib.hid hv
    have HL := Lib.hid (lcV_len hb)
    have HBD := Lib.hid (lcV_bd hb)
    have HGI : Hid (∀ i, i < xss.length → gi (lcV xss to) i = lcC xss to.toNat i) := Lib.hid (fun i hi => lcV_gi hb hi)
    have hn0 : 0 < xss.length := by omega
    clear hv hb t0 t1
    have qn := eqNil
    go_enter Try.func16, Try.ntmps16
    go_wp2_with fail
    refine (SH.own hs (by repeat' (first | with_reducible exact Below.refl _ _ | with_reducible assumption | with_reducible refine below_drewN ?_ _ | with_reducible refine Below.drew ?_ | with_reducible refine Below.alloc ?_ ?_ _ | with_reducible refine Below.setCell ?_ ?_ _ | go_size)) fun hs => implLeastCosts_c _ vs xss _ _ hs.p0 HB.out).mono ?_
    rintro e w1 ⟨v, rfl, hs⟩
    obtain ⟨ac, cc, rfl, -⟩ := (OwnK.rd hs.p0).form
    rw [HL.out] at hs ⊢
    obtain ⟨g, rfl⟩ := own_some hs.p0 hn0
    go_wp2_with fail
    refine (SH.quiet hs (by repeat' (first | with_reducible exact Below.refl _ _ | with_reducible assumption | with_reducible refine below_drewN ?_ _ | with_reducible refine Below.drew ?_ | with_reducible refine Below.alloc ?_ ?_ _ | with_reducible refine Below.setCell ?_ ?_ _ | go_size)) fun hs => implStationOf_c _ vs xss _ _ hs.p1).mono ?_
    rintro e w2 ⟨rfl, hs⟩
    cases hi : inB fr 0 ((xss.length : Int) - 1)
    · have HN : Hid (nsV xss fr to = -1) := Lib.hid (by unfold nsV nsB; rw [hi]; simp)
      clear hi
      go_wp2
      go_ret
      exact Ret.mk1 (intv HN.out.symm) hs.done
    · have HI := Lib.hid hi
      obtain ⟨f0, f1⟩ := inB_true.1 hi
      clear hi
      obtain ⟨f, rfl⟩ : ∃ f : Nat, fr = (f : Int) := ⟨fr.toNat, by omega⟩
      have hf : f < xss.length := by omega
      have HN : Hid (nsV xss (f : Int) to = naV xss (gi (lcV xss to)) f) := Lib.hid (by
        unfold nsV nsB; rw [HB.out, HI.out]
        simp only [Bool.and_self, if_true, Int.toNat_natCast]
        exact (naV_congr HGI.out hf).symm)
      go_wp2_with fail
      refine (SH.quiet hs (by repeat' (first | with_reducible exact Below.refl _ _ | with_reducible assumption | with_reducible refine below_drewN ?_ _ | with_reducible refine Below.drew ?_ | with_reducible refine Below.alloc ?_ ?_ _ | with_reducible refine Below.setCell ?_ ?_ _ | go_size)) fun hs => implNextAlong_c _ vs xss _ (lcV xss to) f _ hs.p1 (OwnK.rd hs.p0) HL.out hf HV.out HBD.out).mono ?_
      rintro e w3 ⟨rfl, hs⟩
      go_wp2
      go_ret
      exact Ret.mk1 (intv HN.out.symm) hs.done
end Go.Proofs.Ytdfinlpfkmmpkaa
