import Derived.Test.YtdfinlpfkmmpkaaDoorProg
import Derived.Test.YtdfinlpfkmmpkaaDoorDij
import Derived.Lib.SliceRun
namespace Go.Proofs.YtdfinlpfkmmpkaaDoor
open Go.RowKit

/-! The program's LeastCosts outside its arguments; NextStation, RouteTo. -/
theorem lcB_false {xss : List (List Int)} {to : Int} : lcB xss to = false ↔ cvB xss = false ∨ (cvB xss = true ∧ inB to 0 ((xss.length : Int) - 1) = false) := by
  unfold lcB; cases cvB xss <;> simp
theorem implLeastCosts_n (va : Value) (vs : Nat → Value) (xss : List (List Int)) (to : Int) (w : World) (h : RdSS w va vs xss) (hb : lcB xss to = false) :
    Calls Tryd.prog 13 #[va, .int .i64 to] w (RetQ w (.slice none 0 0)) := by
  obtain ⟨a, ca, rfl, ml⟩ := h.rows.form
  have H := Lib.hid h
  clear h
  rcases lcB_false.1 hb with hv | ⟨hv, hi⟩
  · have HV := Lib.hid hv
    clear hv hb
    go_enter Tryd.func13, Tryd.ntmps13
    go_wp2_with fail
    refine (implCostsValid_c _ vs xss _ H.out).mono ?_
    rintro e w1 hr
    obtain ⟨rfl, hs1⟩ := hr.same
    have HS := Lib.hid hs1
    clear hr hs1
    rw [HV.out]
    go_wp2
    go_ret
    exact RetQ.mkS rfl HS.out
  · have HV := Lib.hid hv
    have HI := Lib.hid hi
    clear hv hb hi
    go_enter Tryd.func13, Tryd.ntmps13
    go_wp2_with fail
    refine (implCostsValid_c _ vs xss _ H.out).mono ?_
    rintro e w1 hr
    obtain ⟨rfl, hs1⟩ := hr.same
    have HS := Lib.hid hs1
    clear hr hs1
    rw [HV.out]
    go_wp2_with fail
    refine (implStationOf_c _ vs xss _ _ (H.out.below HS.out.below)).mono ?_
    rintro e w2 hr
    obtain ⟨rfl, hs1⟩ := hr.same
    have HS := Lib.hid (HS.out.trans hs1)
    clear hr hs1
    rw [HI.out]
    go_wp2
    go_ret
    exact RetQ.mkS rfl HS.out

theorem eqNil (w : World) (a : Option Addr) (n c n' c' : Nat) : (binOp .eql 26 (.slice a n c) (.slice none n' c')).run Tryd.prog w = .ok (.bool a.isNone) w := Lib.run_eql_slice_nil w _ _ a n c n' c' Tryd.underlying26
theorem lcC_le {xss : List (List Int)} {to : Int} (h : lcB xss to = true) : ∀ i, i < xss.length → lcC xss to.toNat i ≤ 1000 := by
  obtain ⟨h1, h2, h3⟩ := lcB_true.1 h
  exact least_le (lcC_least h) (by omega) (cvB_true.1 h1).1 fun i j hi hj => ((cvRow_true.1 ((cvB_true.1 h1).2 i hi)).2.2 j hj).2
theorem lcV_bd {xss : List (List Int)} {to : Int} (h : lcB xss to = true) : ∀ i, i < xss.length → gi (lcV xss to) i ≤ 1000 := fun i hi => by rw [lcV_gi h hi]; exact lcC_le h i hi

/-- a slice that is there -/
theorem own_some {k : IntKind} {w : World} {base : Nat} {t : TypeId} {a : Option Addr} {n cap : Nat} {xs : List Int} (h : OwnK k w base t (.slice a n cap) xs) (hn : 0 < n) : ∃ g, a = some ⟨g, 0, none⟩ := by
  obtain ⟨g, e, _⟩ := h.at_ hn
  exact ⟨g, e⟩

end Go.Proofs.YtdfinlpfkmmpkaaDoor
