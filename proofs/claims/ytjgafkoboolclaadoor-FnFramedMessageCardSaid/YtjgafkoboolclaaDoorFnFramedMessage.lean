/-
  For every code of numbers the law FnFramedMessage returns true: the fragments of a message, each in a frame, are found and joined again; condition: the package variable impl.flagBits holds what the program's text lays there.
-/
import Derived.Test.YtjgafkoboolclaaDoorRows
import Derived.Test.YtjgafkoboolclaaDoorFramed
import Derived.Test.YtjgafkoboolclaaDoorCards
import Derived.Test.YtjgafkoboolclaaDoorTie
import Derived.SevenTiedAt
import Derived.LaidMore
import Derived.Stop.LaidErr
import Derived.Lib.LaidTab
import Derived.WalkSmall
import Derived.ChangeVars
import Derived.WalkKit
import Derived.ProofKit
import Derived.OpenShut
import Derived.ShutString
import Derived.ChangeOld
import Derived.Below
import Derived.Lib.SmallJoins
namespace Go.Proofs.YtjgafkoboolclaaDoor.fnFramedMessage
open Go.ChangeShapes Go.WideShapes Go.ChangeAt Go.RowKit Go.Joins
set_option linter.unusedVariables false

theorem own : ownKnob Tryd.prog.godebug = none := by kernel_rfl
theorem laidOut : laidOutB Tryd.prog = true := by kernel_rfl

theorem trodVars_cons {H : Type} {enc : TypeId × Value → H} {P : Program} {w : World} {spare : Nat → Bool} {n : String} {ns : List String} {gs : List (DataW H)} {ps : List MemPlace} (h : DataW.TrodVars enc P w spare (n :: ns) gs ps) :
    ∃ g t cs fuel d p ds q, gs = d :: ds ∧ P.globalNamed n = some g ∧ (P.globals[g]?).map (·.type) = some t ∧ w.var? P n = some cs ∧ DataW.trod enc P w 0 spare true fuel t cs.toList = some (d, p) ∧ DataW.TrodVars enc P w spare ns ds q ∧ ps = MemPlace.row ⟨g, 0, none⟩ cs.size ++ p ++ q := by
  cases gs with
  | nil => simp [DataW.TrodVars] at h
  | cons d ds =>
    obtain ⟨g, t, cs, fuel, p, q, h1, h2, h3, h4, hs, e⟩ := h
    exact ⟨g, t, cs, fuel, d, p, ds, q, rfl, h1, h2, h3, h4, hs, e⟩
theorem trodVars_cons_mk {H : Type} {enc : TypeId × Value → H} {P : Program} {w : World} {spare : Nat → Bool} {n : String} {ns : List String} {g : Nat} {t : TypeId} {cs : Array Value} {fuel : Nat} {d : DataW H} {p : List MemPlace} {ds : List (DataW H)} {q : List MemPlace}
    (h1 : P.globalNamed n = some g) (h2 : (P.globals[g]?).map (·.type) = some t) (h3 : w.var? P n = some cs) (h4 : DataW.trod enc P w 0 spare true fuel t cs.toList = some (d, p)) (hs : DataW.TrodVars enc P w spare ns ds q) :
    DataW.TrodVars enc P w spare (n :: ns) (d :: ds) (MemPlace.row ⟨g, 0, none⟩ cs.size ++ p ++ q) := ⟨g, t, cs, fuel, p, q, h1, h2, h3, h4, hs, rfl⟩
theorem trodVars_nil_mk {H : Type} {enc : TypeId × Value → H} {P : Program} {w : World} {spare : Nat → Bool} : DataW.TrodVars enc P w spare [] [] [] := rfl

theorem gName0 : Tryd.prog.globalNamed "loop.example/softwareradio/impl.flagBits" = some 0 := by kernel_rfl
theorem gType0 : (Tryd.prog.globals[0]?).map (·.type) = some 45 := by kernel_rfl
def cellsV0 : Array Value := ([0, 1, 1, 1, 1, 1, 1, 0] : List Int).map (Value.int .i64) |>.toArray
theorem reads_table0 {H : Type} (enc : TypeId × Value → H) (W : World) (sp : Nat → Bool) : DataW.trod enc Tryd.prog W 0 sp true 4 45 cellsV0.toList = some (Rows.laid_loop_example_softwareradio_impl_flagBits, []) := by kernel_rfl
def laidL : List (String × DataW Unit) := [("loop.example/softwareradio/impl.flagBits", Rows.laid_loop_example_softwareradio_impl_flagBits)]
theorem door_met (os : Os) (args : Array Value) : laidMetH Tryd.prog laidL ((World.doorLaid Tryd.prog 14 os).forCall (fun _ _ => 0) ⟨#[], args, []⟩).memory :=
  laidMetH_of_parts3 (fuel := 8) (laidMet_of_run' 8 (by kernel_rfl) (by kernel_rfl)) (by kernel_rfl) (by kernel_rfl)
theorem plainL {W : World} (h : laidMetH Tryd.prog laidL W) : laidMet Tryd.prog laidL W := by rwa [MakeChecks.laidMetH_plain _ _ _ (by kernel_rfl)] at h
/-- what the condition gives the walk -/
theorem of_laid0 {W : World} (h : laidMetH Tryd.prog laidL W) : W.var? Tryd.prog "loop.example/softwareradio/impl.flagBits" = some cellsV0 ∧ RdK .i64 W (.slice (some ⟨0, 0, none⟩) 8 8) [0, 1, 1, 1, 1, 1, 1, 0] := by
  have tab : Lib.TabIs Tryd.prog W "loop.example/softwareradio/impl.flagBits" .i64 [0, 1, 1, 1, 1, 1, 1, 0] := Lib.tabIs_of_head (k := .i64) (zs := [0, 1, 1, 1, 1, 1, 1, 0]) gName0 gType0 Tryd.underlying45 Tryd.underlying3 (by kernel_rfl) (by kernel_rfl) (plainL h)
  exact ⟨tab, some ⟨0, 0, none⟩, 8, rfl, Nat.le_refl _, by decide, fun i hi => ⟨0, 0, rfl, by rw [Nat.zero_add]; exact tab.cell gName0 i hi⟩⟩
set_option maxRecDepth 100000 in
theorem lifted (os : Os) (started : os.Started) (H : Type) (enc : TypeId × Value → H) :
    ReturnsInHanded {} Tryd.checked os 7 .any (fun w args => (Rows.fnFramedMessageSpec.pre enc Tryd.prog Tryd.f7 [] false w args ∧ laidMetH Tryd.prog laidL w) ∧ sizedMet enc Tryd.prog Tryd.f7 (OpenSpec.ofChange Rows.fnFramedMessageSpec) false w args)
      (Rows.fnFramedMessageSpec.post enc Tryd.prog Tryd.f7 false true false false) := by
  refine returnsInHanded_of_change_and (C := Tryd.checked) (X := fun w _ => laidMetH Tryd.prog laidL w) (fun _ _ _ hh h => h.of_heap hh) own started (by kernel_rfl) Tryd.func7
    (ChangeSpec.witness_shaped (enc := enc) (C := Tryd.checked) (os := os) (X := fun w _ => laidMetH Tryd.prog laidL w) false (World.doorLaid Tryd.prog 14 os) #[.slice none 0 0] 8 rfl (World.shaped_of_RefB (by kernel_rfl) (by kernel_rfl)) (by kernel_rfl) (by kernel_rfl) (by kernel_rfl) (door_met os _)) ?_
  intro W base args ds gs before hval0 hW _ _ hL _
  have hval : ∀ (j : Nat) t v, Tryd.f7.params[j]? = some t → args[j]? = some v → Value.okWide Tryd.prog W .any base t v := hval0
  have hW' := hW
  obtain ⟨p, q, hA0, hV0, rfl, hfz, hnd⟩ := hW
  have hA : DataW.TrodAll enc Tryd.prog W 0 (fun _ => true) true Tryd.f7.params.toList args.toList ds p := hA0
  have hV : DataW.TrodVars enc Tryd.prog W (fun _ => true) ["loop.example/softwareradio/impl.flagBits"] gs q := hV0
  rw [Tryd.params7] at hA hval
  obtain ⟨v0, vs0, d0, ds0, p0, q0, hargs, rfl, rfl, h0, r0⟩ := trodAll_cons hA
  obtain ⟨rfl, rfl, rfl⟩ := trodAll_nil r0
  obtain rfl : args = #[v0] := by cases args; simp_all
  obtain ⟨hcs0, hrd0⟩ := of_laid0 hL
  have hgl0 : 0 < W.heap.size := by
    obtain ⟨b, o, e, hc⟩ := RdK.at_ hrd0 (i := 0) (by decide)
    cases e
    exact cell_lt hc
  obtain ⟨gv0, tv0, cs0, fuel0, dv0, pv0, dr0, qr0, rfl, hgn0, htn0, hvar0, hd0, hX0, rfl⟩ := trodVars_cons hV
  obtain rfl := Option.some.inj (gName0.symm.trans hgn0)
  obtain rfl := Option.some.inj (gType0.symm.trans htn0)
  obtain rfl : cs0 = cellsV0 := Option.some.inj (hvar0.symm.trans hcs0)
  obtain ⟨rfl, rfl⟩ := DataW.Trod.unique (v := .agg cellsV0) ⟨fuel0, hd0⟩ ⟨4, reads_table0 enc W _⟩
  obtain ⟨rfl, rfl⟩ := trodVars_none hX0
  have k0 := h0
  have lt0 : ∀ x ∈ p0, x.block < W.heap.size := by obtain ⟨m, hm⟩ := k0; exact DataW.trod_lt m _ _ _ hm
  obtain ⟨a0, len0, cap0, rfl⟩ := okWide_slice Tryd.underlying27 (hval 0 27 v0 rfl rfl)
  obtain ⟨xs0, rr0, ff0⟩ : ∃ xs, RdK .u8 W (.slice a0 len0 cap0) xs ∧ ∀ n ∈ xs, (Lit.int .u8 n).wf = true := by
    obtain ⟨fuel, hf⟩ := h0
    rcases open_ints Tryd.underlying27 Tryd.underlying5 (by kernel_rfl) hf with ⟨hcs, _⟩ | ⟨x, l, c, zs, hcs, _, hl, hm, hz, _, hcell, hwz⟩
    · simp [Value.cells] at hcs
      obtain ⟨rfl, rfl, rfl⟩ := hcs
      exact RdK.ofIs (.inl ⟨rfl, rfl, rfl, rfl⟩)
    · simp [Value.cells] at hcs
      obtain ⟨rfl, rfl, rfl⟩ := hcs
      exact RdK.ofIs (.inr ⟨_, rfl, hl, hm, by simpa using hz, hcell, hwz⟩)
  clear hA0 hval0 hV0 hL
  refine ((fnFramedMessage_c _ _ W rr0 ff0 hrd0).mono fun e W' h => h.isTrue).mono fun e W' ⟨he, bel⟩ => ?_
  subst he
  exact ⟨_, rfl, _, _, _, [], _, _, hW', trodAll_mk1 (shut_bool Tryd.underlying4 _), (trodAll_cons_mk (Below.trod laidOut (by kernel_rfl) (of_decide_eq_true (by kernel_rfl)) k0 bel lt0) trodAll_mk0), (trodVars_cons_mk gName0 gType0 (var?_below bel gName0 hgl0 hvar0) (reads_table0 enc W' _) trodVars_nil_mk), bel.frame _, fun h => by cases h⟩

theorem over : Rows.fnFramedMessageRow.holds Tryd.pinned (OpenSpec.ofChange Rows.fnFramedMessageSpec) :=
  OpenClaim.holds_of_wide 7 Tryd.f7 rfl rfl rfl rfl rfl rfl rfl ⟨rfl, rfl, rfl, rfl, rfl⟩ rfl rfl rfl rfl rfl (by kernel_rfl) Tryd.func7 (by kernel_rfl)
    (of_decide_eq_true (by kernel_rfl)) (by unfold Func.isWrapper; first | (rw [if_pos (by decide +kernel)]; kernel_rfl) | (rw [if_neg (by decide +kernel)]; exact ⟨rfl, rfl⟩))
    (fun os started H enc _ => lifted os started H enc)


/-- The statement. -/
theorem proved : Rows.FnFramedMessageCardSaid :=
  Claim7.holds_tied_plain_at .later [] [.widerDeep] true (true, "f3e862e700c3b7595ecdbeabe85876387a77068dd8b2ca846b9a7a32be9806a9") false
    over (fun _ h => by cases h) (by kernel_rfl) (fun _ h => by cases h) fnFramedMessage_row_tie rfl ⟨rfl, rfl⟩ (by kernel_rfl) rfl
    (fun f fn hf hfn => by
      obtain rfl : f = 7 := Option.some.inj ((show Tryd.prog.funcNamed "loop.example/softwareradio/laws.FnFramedMessage" = some 7 by kernel_rfl).symm.trans hf) |>.symm
      obtain rfl : fn = Tryd.f7 := (Option.some.inj (Tryd.func7.symm.trans hfn)).symm
      exact ⟨by kernel_rfl, fun j t ht => by
        rw [Tryd.params7] at ht
        have hm : t ∈ [27] := by simpa using Array.mem_of_getElem? ht
        have hall : ([27].all fun u => !Tryd.prog.wantsStandIn u) = true := by kernel_rfl
        exact (show Tryd.prog.wantsStandIn t = false by simpa using List.all_eq_true.1 hall t hm)⟩)
    (by kernel_rfl)
#print axioms proved
end Go.Proofs.YtjgafkoboolclaaDoor.fnFramedMessage
