import Derived.Test.YtjgafkoboolclaaDoorProg
import Derived.Test.YtjgafkoboolclaaDoorLib
import Derived.Test.YtjgafkoboolclaaDoorMem
import Derived.Test.YtjgafkoboolclaaDoorSym
import Derived.Test.YtjgafkoboolclaaDoorInts
import Derived.Test.YtjgafkoboolclaaDoorBytes
import Derived.Test.YtjgafkoboolclaaDoorApp
import Derived.Test.YtjgafkoboolclaaDoorBlk
import Derived.Test.YtjgafkoboolclaaDoorFrag
import Derived.Test.YtjgafkoboolclaaDoorSplit
import Derived.Test.YtjgafkoboolclaaDoorIdx
namespace Go.Proofs.YtjgafkoboolclaaDoor
open Go.RowKit

/-! The fragments of a message, joined. -/
/-- the number of the first fragment, or -1 -/
def findV (fs : List Frag) (m p : Int) (n : Nat) : Int := match look fs m p n with | some i => (i : Int) | none => -1

/-- n more parts, from part k on -/
def joinK (fs : List Frag) (m : Int) : Nat → Nat → List Int → List Int × Bool
  | 0, _, _ => ([], false)
  | n + 1, k, acc => match look fs m (k : Int) fs.length with
    | none => ([], false)
    | some i => if (fr fs i).l then (acc ++ (fr fs i).d, true) else joinK fs m n (k + 1) (acc ++ (fr fs i).d)
def joinF (fs : List Frag) (m : Int) : List Int × Bool := joinK fs m 50 0 []
def lenF (fs : List Frag) : Prop := fs.length ≤ 4000000 ∧ ∀ i, i < fs.length → (fr fs i).d.length ≤ 4000000

set_option maxHeartbeats 1000000 in
theorem implJoin_c (va : Value) (vs : Nat → Value) (fs : List Frag) (m : Int) (w : World) (h : RdF w va vs fs) (hw : wfF fs) (hm : wfI m) (hl : lenF fs) :
    Calls Tryd.prog 25 #[va, .int .i64 m] w (Ret w fun v w' => ∃ v', v = .tuple #[v', .bool (joinF fs m).2] ∧ OwnK .u8 w' w.heap.size 5 v' (joinF fs m).1) := by
  obtain ⟨a, ca, rfl, ml⟩ := h.rows.form
  have hs := SH.start w [rdFP (.slice a fs.length ca) vs fs] (by simp only [List.forall_mem_cons]; exact ⟨⟨h, rdFP_wr⟩, by simp⟩)
  have HW := Lib.hid hw
  have HL := Lib.hid hl
  clear h hw hl
  go_enter Tryd.func25, Tryd.ntmps25
  go_wp2_with fail
  refine (implParts_c _ vs fs _ ((SH.p0 hs : RdF _ _ _ _).below (by go_grown)) HW.out HL.out.1).mono ?_
  rintro e w1 ⟨g, rfl, hj⟩
  have hs := hs.joinS (by go_grown) hj (fun p hp g hg => by
    simp only [List.mem_cons, List.not_mem_nil, or_false] at hp
    subst hp; exact hg)
  have hs : SH none w w1 [ownP .u8 5 (.slice none 0 0) [], idxP g fs.length fs, rdFP (.slice a fs.length ca) vs fs] := hs.ownNil .u8 5
  clear hj
  go_wp2
  go_loopw [7, 13] (fun o i wr => ∃ (k : Nat) (acc : List Int), k ≤ 50 ∧ i = .int .i64 k ∧ acc.length ≤ k * 4000000 ∧ Hid (joinF fs m = joinK fs m (50 - k) k acc) ∧ SH none w wr [ownP .u8 5 o acc, idxP g fs.length fs, rdFP (.slice a fs.length ca) vs fs]) (fun _ i _ => 50 - (intOf i).toNat)
  case atStart => exact ⟨0, [], by decide, rfl, by simp, Lib.hid rfl, hs⟩
  case round =>
    obtain ⟨k, acc, hk, rfl, hacc, HJ, hs⟩ := hrel
    by_cases hlt : k < 50
    · have hwk : wfI (k : Int) := wfNat k (by omega)
      obtain ⟨ao, co, rfl, -⟩ := (OwnK.rd hs.p0).form
      have e50 : 50 - k = (50 - (k + 1)) + 1 := by omega
      rw [e50] at HJ
      clear e50
      cases hlk : look fs m (k : Int) fs.length with
      | none =>
        have hV : lookV fs m (k : Int) fs.length = 0 := by unfold lookV; rw [hlk]
        have hB : lookB fs m (k : Int) fs.length = false := by unfold lookB; rw [hlk]; rfl
        have HR : Hid (joinF fs m = ([], false)) := by
          have := HJ.out
          simp only [joinK, hlk] at this
          exact Lib.hid this
        clear hlk
        go_wp2_with (at_lookup; refine wp_lookIdx rfl _ _ rfl hs.p1 rfl m (k : Int) rfl hm hwk ?_; rw [hV, hB])
        go_ret2
        exact Ret.mk1 ⟨_, by (rw [HR.out]; rfl), by rw [HR.out]; exact OwnK.nil _ _ _ _⟩ hs.done
      | some i =>
        have hV : lookV fs m (k : Int) fs.length = (i : Int) := by unfold lookV; rw [hlk]
        have hB : lookB fs m (k : Int) fs.length = true := by unfold lookB; rw [hlk]; rfl
        obtain ⟨hi, -, -⟩ := look_some hlk
        have HR : Hid (joinF fs m = if (fr fs i).l then (acc ++ (fr fs i).d, true) else joinK fs m (50 - (k + 1)) (k + 1) (acc ++ (fr fs i).d)) := by
          have := HJ.out
          simp only [joinK, hlk] at this
          exact Lib.hid this
        clear hlk HJ
        obtain ⟨b, off, rfl, hc⟩ := (SH.p2 hs : RdF _ _ _ _).rows.at_ hi
        have hc2 : wr.cell? ⟨b, off + i * 4 + 2, none⟩ = some (.bool (fr fs i).l) := hc 2 (by decide)
        have hc3 : wr.cell? ⟨b, off + i * 4 + 3, none⟩ = some (vs i) := hc 3 (by decide)
        have hd := HL.out.2 i hi
        clear hc
        have hB2 : (acc.length + (fr fs i).d.length) * 1 ≤ 140737488355328 := by omega
        cases hlast : (fr fs i).l
        all_goals
          rw [hlast] at HR hc2
          go_wp2_with (first | (at_lookup; refine wp_lookIdx rfl _ _ rfl hs.p1 rfl m (k : Int) rfl hm hwk ?_; rw [hV, hB]) | (at_builtin; refine wp_appKX rfl rfl .u8 5 1 Tryd.underlying27 info_byte rfl hs rfl ((SH.p2 hs : RdF _ _ _ _).each i hi) hB2 (by unfold maxLen; omega) ?_; intro v2 w2 hs2; obtain ⟨b2, o2, e2, hcc⟩ := (SH.p2 hs2 : RdF _ _ _ _).rows.at_ hi; cases e2; have hd2 : w2.cell? ⟨b, off + i * 4 + 2, none⟩ = some (.bool (fr fs i).l) := hcc 2 (by decide); rw [hlast] at hd2; clear hcc))
        · have HR2 : Hid (joinF fs m = joinK fs m (50 - (k + 1)) (k + 1) (acc ++ (fr fs i).d)) := Lib.hid (by simpa using HR.out)
          go_roundw
          case rel => exact ⟨k + 1, _, hlt, by go_num, by rw [List.length_append]; omega, HR2, hs2⟩
          case measure => simp [intOf]; omega
        · have HR2 : Hid (joinF fs m = (acc ++ (fr fs i).d, true)) := Lib.hid (by simpa using HR.out)
          go_ret2
          exact Ret.mk1 ⟨_, by (rw [HR2.out]; rfl), by rw [HR2.out]; exact SH.ownRet hs2⟩ hs2.done
    · obtain rfl : k = 50 := by omega
      have HR : Hid (joinF fs m = ([], false)) := HJ.out
      go_wp2
      go_ret2
      exact Ret.mk1 ⟨_, by (rw [HR.out]; rfl), by rw [HR.out]; exact OwnK.nil _ _ _ _⟩ hs.done
end Go.Proofs.YtjgafkoboolclaaDoor
