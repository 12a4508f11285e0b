/-
  The law FnFindFrames of the given program returns true, for all arguments: found frames are valid.
-/
import Derived.Test.YtjgafkoboolclaaDoorRows
import Derived.Test.YtjgafkoboolclaaDoorFrameLaw2
import Derived.Test.YtjgafkoboolclaaDoorCards
import Derived.Test.YtjgafkoboolclaaDoorTie
import Derived.SevenTiedAt
import Derived.LaidMore
import Derived.Lib.LaidTab
import Derived.WalkSmall
import Derived.ChangeVars
import Derived.WalkKit
import Derived.ProofKit
import Derived.OpenShut
import Derived.ShutString
import Derived.ChangeOld
import Derived.Below
import Derived.Lib.SmallJoins
namespace Go.Proofs.YtjgafkoboolclaaDoor.fnFindFrames
open Go.ChangeShapes Go.WideShapes Go.ChangeAt Go.RowKit Go.Joins
set_option linter.unusedVariables false

theorem own : ownKnob Tryd.prog.godebug = none := by kernel_rfl
theorem laidOut : laidOutB Tryd.prog = true := by kernel_rfl

theorem gName : Tryd.prog.globalNamed "loop.example/softwareradio/impl.flagBits" = some 0 := by kernel_rfl
theorem gType : (Tryd.prog.globals[0]?).map (·.type) = some 45 := by kernel_rfl
def laidL : List (String × DataW Unit) := [("loop.example/softwareradio/impl.flagBits", Rows.laid_loop_example_softwareradio_impl_flagBits)]
def cellsV : Array Value := ([0, 1, 1, 1, 1, 1, 1, 0] : List Int).map (Value.int .i64) |>.toArray
theorem reads_table {H : Type} (enc : TypeId × Value → H) (W : World) (sp : Nat → Bool) : DataW.trod enc Tryd.prog W 0 sp true 3 45 cellsV.toList = some (Rows.laid_loop_example_softwareradio_impl_flagBits, []) := by kernel_rfl
theorem door_met (os : Os) (args : Array Value) : laidMetH Tryd.prog laidL ((World.doorLaid Tryd.prog 14 os).forCall (fun _ _ => 0) ⟨#[], args, []⟩).memory :=
  laidMetH_of_parts3 (fuel := 8) (laidMet_of_run' 8 (by kernel_rfl) (by kernel_rfl)) (by kernel_rfl) (by kernel_rfl)
/-- what the condition gives the walk -/
theorem of_laid {W : World} (h : laidMetH Tryd.prog laidL W) : W.var? Tryd.prog "loop.example/softwareradio/impl.flagBits" = some cellsV ∧ RdI W (.slice (some ⟨0, 0, none⟩) 8 8) [0, 1, 1, 1, 1, 1, 1, 0] := by
  rw [MakeChecks.laidMetH_plain _ _ _ (by kernel_rfl)] at h
  have tab : Lib.TabIs Tryd.prog W "loop.example/softwareradio/impl.flagBits" .i64 [0, 1, 1, 1, 1, 1, 1, 0] :=
    Lib.tabIs_of_head (rest := []) gName gType Tryd.underlying45 Tryd.underlying3 (by kernel_rfl) (by kernel_rfl) h
  exact ⟨tab, some ⟨0, 0, none⟩, 8, rfl, Nat.le_refl _, by decide, fun i hi => ⟨0, 0, rfl, by rw [Nat.zero_add]; exact tab.cell gName i hi⟩⟩

set_option maxRecDepth 100000 in
theorem lifted (os : Os) (started : os.Started) (H : Type) (enc : TypeId × Value → H) :
    ReturnsInHanded {} Tryd.checked os 6 .any (fun w args => (Rows.fnFindFramesSpec.pre enc Tryd.prog Tryd.f6 [] false w args ∧ laidMetH Tryd.prog laidL w) ∧ sizedMet enc Tryd.prog Tryd.f6 (OpenSpec.ofChange Rows.fnFindFramesSpec) false w args)
      (Rows.fnFindFramesSpec.post enc Tryd.prog Tryd.f6 false true false false) := by
  refine returnsInHanded_of_change_and (C := Tryd.checked) (X := fun w _ => laidMetH Tryd.prog laidL w) (fun _ _ _ hh h => h.of_heap hh) own started (by kernel_rfl) Tryd.func6
    (ChangeSpec.witness_shaped (enc := enc) (C := Tryd.checked) (os := os) (X := fun w _ => laidMetH Tryd.prog laidL w) false (World.doorLaid Tryd.prog 14 os) #[.slice none 0 0] 8 rfl (World.shaped_of_RefB (by kernel_rfl) (by kernel_rfl)) (by kernel_rfl) (by kernel_rfl) (by kernel_rfl) (door_met os _)) ?_
  intro W base args ds gs before hval0 hW _ _ hL _
  have hval : ∀ (j : Nat) t v, Tryd.f6.params[j]? = some t → args[j]? = some v → Value.okWide Tryd.prog W .any base t v := hval0
  have hW' := hW
  obtain ⟨p, q, hA0, hV0, rfl, hfz, hnd⟩ := hW
  have hA : DataW.TrodAll enc Tryd.prog W 0 (fun _ => true) true Tryd.f6.params.toList args.toList ds p := hA0
  have hV : DataW.TrodVars enc Tryd.prog W (fun _ => true) ["loop.example/softwareradio/impl.flagBits"] gs q := hV0
  rw [Tryd.params6] at hA hval
  obtain ⟨v0, vs0, d0, ds0, p0, q0, hargs, rfl, rfl, h0, r0⟩ := trodAll_cons hA
  obtain ⟨rfl, rfl, rfl⟩ := trodAll_nil r0
  obtain rfl : args = #[v0] := by cases args; simp_all
  obtain ⟨hcs, hrd⟩ := of_laid hL
  obtain ⟨gv, tv, cs, fuel, dv, pv, rfl, hgn, htn, hvar, hd, rfl⟩ := trodVars_one hV
  obtain rfl := Option.some.inj (gName.symm.trans hgn)
  obtain rfl := Option.some.inj (gType.symm.trans htn)
  obtain rfl : cs = cellsV := Option.some.inj (hvar.symm.trans hcs)
  obtain ⟨rfl, rfl⟩ := DataW.Trod.unique (v := .agg cellsV) ⟨fuel, hd⟩ ⟨3, reads_table enc W _⟩
  have hgl : 0 < W.heap.size := by
    obtain ⟨b, o, e, hc⟩ := RdK.at_ hrd (i := 0) (by decide)
    cases e
    exact cell_lt hc
  have k0 := h0
  have lt0 : ∀ x ∈ p0, x.block < W.heap.size := by obtain ⟨m, hm⟩ := k0; exact DataW.trod_lt m _ _ _ hm
  obtain ⟨a0, len0, cap0, rfl⟩ := okWide_slice Tryd.underlying27 (hval 0 27 v0 rfl rfl)
  obtain ⟨xs0, rr0, ff0⟩ : ∃ xs, RdK .u8 W (.slice a0 len0 cap0) xs ∧ ∀ n ∈ xs, (Lit.int .u8 n).wf = true := by
    obtain ⟨fuel, hf⟩ := h0
    rcases open_ints Tryd.underlying27 Tryd.underlying5 (by kernel_rfl) hf with ⟨hcs, _⟩ | ⟨x, l, c, zs, hcs, _, hl, hm, hz, _, hcell, hwz⟩
    · simp [Value.cells] at hcs
      obtain ⟨rfl, rfl, rfl⟩ := hcs
      exact RdK.ofIs (.inl ⟨rfl, rfl, rfl, rfl⟩)
    · simp [Value.cells] at hcs
      obtain ⟨rfl, rfl, rfl⟩ := hcs
      exact RdK.ofIs (.inr ⟨_, rfl, hl, hm, by simpa using hz, hcell, hwz⟩)
  clear hA0 hval0 hV0 hL
  refine ((fnFindFrames_c _ _ W rr0 ff0 hrd).mono fun e W' h => h.isTrue).mono fun e W' ⟨he, bel⟩ => ?_
  subst he
  exact ⟨_, rfl, _, _, _, [], _, _, hW', trodAll_mk1 (shut_bool Tryd.underlying4 _), (trodAll_cons_mk (Below.trod laidOut (by kernel_rfl) (of_decide_eq_true (by kernel_rfl)) k0 bel lt0) trodAll_mk0), trodVars_mk1 gName gType (var?_below bel gName hgl hvar) (reads_table enc W' _), bel.frame _, fun h => by cases h⟩

theorem over : Rows.fnFindFramesRow.holds Tryd.pinned (OpenSpec.ofChange Rows.fnFindFramesSpec) :=
  OpenClaim.holds_of_wide 6 Tryd.f6 rfl rfl rfl rfl rfl rfl rfl ⟨rfl, rfl, rfl, rfl, rfl⟩ rfl rfl rfl rfl rfl (by kernel_rfl) Tryd.func6 (by kernel_rfl)
    (of_decide_eq_true (by kernel_rfl)) (by unfold Func.isWrapper; first | (rw [if_pos (by decide +kernel)]; kernel_rfl) | (rw [if_neg (by decide +kernel)]; exact ⟨rfl, rfl⟩))
    (fun os started H enc _ => lifted os started H enc)


/-- The statement. -/
theorem proved : Rows.FnFindFramesCardSaid :=
  Claim7.holds_tied_plain_at .later [] [.widerDeep] true (true, "f3e862e700c3b7595ecdbeabe85876387a77068dd8b2ca846b9a7a32be9806a9") false
    over (fun _ h => by cases h) (by kernel_rfl) (fun _ h => by cases h) fnFindFrames_row_tie rfl ⟨rfl, rfl⟩ (by kernel_rfl) rfl
    (fun f fn hf hfn => by
      obtain rfl : f = 6 := Option.some.inj ((show Tryd.prog.funcNamed "loop.example/softwareradio/laws.FnFindFrames" = some 6 by kernel_rfl).symm.trans hf) |>.symm
      obtain rfl : fn = Tryd.f6 := (Option.some.inj (Tryd.func6.symm.trans hfn)).symm
      exact ⟨by kernel_rfl, fun j t ht => by
        rw [Tryd.params6] at ht
        have hm : t ∈ [27] := by simpa using Array.mem_of_getElem? ht
        have hall : ([27].all fun u => !Tryd.prog.wantsStandIn u) = true := by kernel_rfl
        exact (show Tryd.prog.wantsStandIn t = false by simpa using List.all_eq_true.1 hall t hm)⟩)
    (by kernel_rfl)
#print axioms proved
end Go.Proofs.YtjgafkoboolclaaDoor.fnFindFrames
