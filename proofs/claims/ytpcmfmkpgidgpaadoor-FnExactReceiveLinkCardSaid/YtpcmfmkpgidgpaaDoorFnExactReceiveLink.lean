/-
  For every list of samples the law FnExactReceiveLink returns true: the program's ReceiveLink returns what the reference's returns, leaves its argument as it was and returns memory of its own; condition: the package variable impl.dataPlaces holds what the program's text lays there.
-/
import Derived.Test.YtpcmfmkpgidgpaaDoorRows
import Derived.Test.YtpcmfmkpgidgpaaDoorLinkEx
import Derived.Test.YtpcmfmkpgidgpaaDoorCards
import Derived.Test.YtpcmfmkpgidgpaaDoorTie
import Derived.SevenTiedAt
import Derived.LaidMore
import Derived.Stop.LaidErr
import Derived.Lib.LaidTab
import Derived.WalkSmall
import Derived.ChangeVars
import Derived.WalkKit
import Derived.ProofKit
import Derived.OpenShut
import Derived.ShutString
import Derived.ChangeOld
import Derived.Below
import Derived.Lib.SmallJoins
namespace Go.Proofs.YtpcmfmkpgidgpaaDoor.fnExactReceiveLink
open Go.ChangeShapes Go.WideShapes Go.ChangeAt Go.RowKit Go.Joins
set_option linter.unusedVariables false

theorem own : ownKnob Tryd.prog.godebug = none := by kernel_rfl
theorem laidOut : laidOutB Tryd.prog = true := by kernel_rfl

theorem trodVars_cons {H : Type} {enc : TypeId × Value → H} {P : Program} {w : World} {spare : Nat → Bool} {n : String} {ns : List String} {gs : List (DataW H)} {ps : List MemPlace} (h : DataW.TrodVars enc P w spare (n :: ns) gs ps) :
    ∃ g t cs fuel d p ds q, gs = d :: ds ∧ P.globalNamed n = some g ∧ (P.globals[g]?).map (·.type) = some t ∧ w.var? P n = some cs ∧ DataW.trod enc P w 0 spare true fuel t cs.toList = some (d, p) ∧ DataW.TrodVars enc P w spare ns ds q ∧ ps = MemPlace.row ⟨g, 0, none⟩ cs.size ++ p ++ q := by
  cases gs with
  | nil => simp [DataW.TrodVars] at h
  | cons d ds =>
    obtain ⟨g, t, cs, fuel, p, q, h1, h2, h3, h4, hs, e⟩ := h
    exact ⟨g, t, cs, fuel, d, p, ds, q, rfl, h1, h2, h3, h4, hs, e⟩
theorem trodVars_cons_mk {H : Type} {enc : TypeId × Value → H} {P : Program} {w : World} {spare : Nat → Bool} {n : String} {ns : List String} {g : Nat} {t : TypeId} {cs : Array Value} {fuel : Nat} {d : DataW H} {p : List MemPlace} {ds : List (DataW H)} {q : List MemPlace}
    (h1 : P.globalNamed n = some g) (h2 : (P.globals[g]?).map (·.type) = some t) (h3 : w.var? P n = some cs) (h4 : DataW.trod enc P w 0 spare true fuel t cs.toList = some (d, p)) (hs : DataW.TrodVars enc P w spare ns ds q) :
    DataW.TrodVars enc P w spare (n :: ns) (d :: ds) (MemPlace.row ⟨g, 0, none⟩ cs.size ++ p ++ q) := ⟨g, t, cs, fuel, p, q, h1, h2, h3, h4, hs, rfl⟩
theorem trodVars_nil_mk {H : Type} {enc : TypeId × Value → H} {P : Program} {w : World} {spare : Nat → Bool} : DataW.TrodVars enc P w spare [] [] [] := rfl

theorem gName0 : Tryd.prog.globalNamed "loop.example/softwareradio/impl.dataPlaces" = some 0 := by kernel_rfl
theorem gType0 : (Tryd.prog.globals[0]?).map (·.type) = some 102 := by kernel_rfl
def cellsV0 : Array Value := ([2, 4, 5, 6] : List Int).map (Value.int .i64) |>.toArray
theorem reads_table0 {H : Type} (enc : TypeId × Value → H) (W : World) (sp : Nat → Bool) : DataW.trod enc Tryd.prog W 0 sp true 4 102 cellsV0.toList = some (Rows.laid_loop_example_softwareradio_impl_dataPlaces, []) := by kernel_rfl
def laidL : List (String × DataW Unit) := [("loop.example/softwareradio/impl.dataPlaces", Rows.laid_loop_example_softwareradio_impl_dataPlaces)]
theorem door_met (os : Os) (args : Array Value) : laidMetH Tryd.prog laidL ((World.doorLaid Tryd.prog 32 os).forCall (fun _ _ => 0) ⟨#[], args, []⟩).memory :=
  laidMetH_of_parts3 (fuel := 8) (laidMet_of_run' 8 (by kernel_rfl) (by kernel_rfl)) (by kernel_rfl) (by kernel_rfl)
theorem plainL {W : World} (h : laidMetH Tryd.prog laidL W) : laidMet Tryd.prog laidL W := by rwa [MakeChecks.laidMetH_plain _ _ _ (by kernel_rfl)] at h
/-- what the condition gives the walk -/
theorem of_laid0 {W : World} (h : laidMetH Tryd.prog laidL W) : W.var? Tryd.prog "loop.example/softwareradio/impl.dataPlaces" = some cellsV0 ∧ RdK .i64 W (.slice (some ⟨0, 0, none⟩) 4 4) [2, 4, 5, 6] := by
  have tab : Lib.TabIs Tryd.prog W "loop.example/softwareradio/impl.dataPlaces" .i64 [2, 4, 5, 6] := Lib.tabIs_of_head (k := .i64) (zs := [2, 4, 5, 6]) gName0 gType0 Tryd.underlying102 Tryd.underlying3 (by kernel_rfl) (by kernel_rfl) (plainL h)
  exact ⟨tab, some ⟨0, 0, none⟩, 4, rfl, Nat.le_refl _, by decide, fun i hi => ⟨0, 0, rfl, by rw [Nat.zero_add]; exact tab.cell gName0 i hi⟩⟩
set_option maxRecDepth 100000 in
theorem lifted (os : Os) (started : os.Started) (H : Type) (enc : TypeId × Value → H) :
    ReturnsInHanded {} Tryd.checked os 5 .any (fun w args => (Rows.fnExactReceiveLinkSpec.pre enc Tryd.prog Tryd.f5 [] false w args ∧ laidMetH Tryd.prog laidL w) ∧ sizedMet enc Tryd.prog Tryd.f5 (OpenSpec.ofChange Rows.fnExactReceiveLinkSpec) false w args)
      (Rows.fnExactReceiveLinkSpec.post enc Tryd.prog Tryd.f5 false true false false) := by
  refine returnsInHanded_of_change_and (C := Tryd.checked) (X := fun w _ => laidMetH Tryd.prog laidL w) (fun _ _ _ hh h => h.of_heap hh) own started (by kernel_rfl) Tryd.func5
    (ChangeSpec.witness_shaped (enc := enc) (C := Tryd.checked) (os := os) (X := fun w _ => laidMetH Tryd.prog laidL w) false (World.doorLaid Tryd.prog 32 os) #[.slice none 0 0] 8 rfl (World.shaped_of_RefB (by kernel_rfl) (by kernel_rfl)) (by kernel_rfl) (by kernel_rfl) (by kernel_rfl) (door_met os _)) ?_
  intro W base args ds gs before hval0 hW _ _ hL _
  have hval : ∀ (j : Nat) t v, Tryd.f5.params[j]? = some t → args[j]? = some v → Value.okWide Tryd.prog W .any base t v := hval0
  have hW' := hW
  obtain ⟨p, q, hA0, hV0, rfl, hfz, hnd⟩ := hW
  have hA : DataW.TrodAll enc Tryd.prog W 0 (fun _ => true) true Tryd.f5.params.toList args.toList ds p := hA0
  have hV : DataW.TrodVars enc Tryd.prog W (fun _ => true) ["loop.example/softwareradio/impl.dataPlaces"] gs q := hV0
  rw [Tryd.params5] at hA hval
  obtain ⟨v0, vs0, d0, ds0, p0, q0, hargs, rfl, rfl, h0, r0⟩ := trodAll_cons hA
  obtain ⟨rfl, rfl, rfl⟩ := trodAll_nil r0
  obtain rfl : args = #[v0] := by cases args; simp_all
  obtain ⟨hcs0, hrd0⟩ := of_laid0 hL
  have hgl0 : 0 < W.heap.size := by
    obtain ⟨b, o, e, hc⟩ := RdK.at_ hrd0 (i := 0) (by decide)
    cases e
    exact cell_lt hc
  obtain ⟨gv0, tv0, cs0, fuel0, dv0, pv0, dr0, qr0, rfl, hgn0, htn0, hvar0, hd0, hX0, rfl⟩ := trodVars_cons hV
  obtain rfl := Option.some.inj (gName0.symm.trans hgn0)
  obtain rfl := Option.some.inj (gType0.symm.trans htn0)
  obtain rfl : cs0 = cellsV0 := Option.some.inj (hvar0.symm.trans hcs0)
  obtain ⟨rfl, rfl⟩ := DataW.Trod.unique (v := .agg cellsV0) ⟨fuel0, hd0⟩ ⟨4, reads_table0 enc W _⟩
  obtain ⟨rfl, rfl⟩ := trodVars_none hX0
  have k0 := h0
  have lt0 : ∀ x ∈ p0, x.block < W.heap.size := by obtain ⟨m, hm⟩ := k0; exact DataW.trod_lt m _ _ _ hm
  obtain ⟨xs0, rr0⟩ := openSamples (hval 0 38 v0 rfl rfl) h0
  clear hA0 hval0 hV0 hL
  refine ((fnExactReceiveLink_c _ _ W rr0 hrd0).mono fun e W' h => h.isTrue).mono fun e W' ⟨he, bel⟩ => ?_
  subst he
  exact ⟨_, rfl, _, _, _, [], _, _, hW', trodAll_mk1 (shut_bool Tryd.underlying4 _), (trodAll_cons_mk (Below.trod laidOut (by kernel_rfl) (of_decide_eq_true (by kernel_rfl)) k0 bel lt0) trodAll_mk0), (trodVars_cons_mk gName0 gType0 (var?_below bel gName0 hgl0 hvar0) (reads_table0 enc W' _) trodVars_nil_mk), bel.frame _, fun h => by cases h⟩

theorem over : Rows.fnExactReceiveLinkRow.holds Tryd.pinned (OpenSpec.ofChange Rows.fnExactReceiveLinkSpec) :=
  OpenClaim.holds_of_wide 5 Tryd.f5 rfl rfl rfl rfl rfl rfl rfl ⟨rfl, rfl, rfl, rfl, rfl⟩ rfl rfl rfl rfl rfl (by kernel_rfl) Tryd.func5 (by kernel_rfl)
    (of_decide_eq_true (by kernel_rfl)) (by unfold Func.isWrapper; first | (rw [if_pos (by decide +kernel)]; kernel_rfl) | (rw [if_neg (by decide +kernel)]; exact ⟨rfl, rfl⟩))
    (fun os started H enc _ => lifted os started H enc)


/-- The statement. -/
theorem proved : Rows.FnExactReceiveLinkCardSaid :=
  Claim7.holds_tied_plain_at .later [] [.data] true (true, "72083f0542d1bbc21e31591cda40f9b28d32bf031e4b7787891f88e48d6f1be2") false
    over (fun _ h => by cases h) (by kernel_rfl) (fun _ h => by cases h) fnExactReceiveLink_row_tie rfl ⟨rfl, rfl⟩ (by kernel_rfl) rfl
    (fun f fn hf hfn => by
      obtain rfl : f = 5 := Option.some.inj ((show Tryd.prog.funcNamed "loop.example/softwareradio/laws.FnExactReceiveLink" = some 5 by kernel_rfl).symm.trans hf) |>.symm
      obtain rfl : fn = Tryd.f5 := (Option.some.inj (Tryd.func5.symm.trans hfn)).symm
      exact ⟨by kernel_rfl, fun j t ht => by
        rw [Tryd.params5] at ht
        have hm : t ∈ [38] := by simpa using Array.mem_of_getElem? ht
        have hall : ([38].all fun u => !Tryd.prog.wantsStandIn u) = true := by kernel_rfl
        exact (show Tryd.prog.wantsStandIn t = false by simpa using List.all_eq_true.1 hall t hm)⟩)
    (by kernel_rfl)
#print axioms proved
end Go.Proofs.YtpcmfmkpgidgpaaDoor.fnExactReceiveLink
