import Derived.Test.YtmhlnelnjnhcoaaProg
import Derived.Test.YtmhlnelnjnhcoaaLib
import Derived.Test.YtmhlnelnjnhcoaaMem
import Derived.Test.YtmhlnelnjnhcoaaSym
import Derived.Test.YtmhlnelnjnhcoaaInts
import Derived.Test.YtmhlnelnjnhcoaaBytes
import Derived.Test.YtmhlnelnjnhcoaaApp
import Derived.Test.YtmhlnelnjnhcoaaBlk
import Derived.Test.YtmhlnelnjnhcoaaFrag
import Derived.Test.YtmhlnelnjnhcoaaSplit
import Derived.Test.YtmhlnelnjnhcoaaIdx
namespace Go.Proofs.Ytmhlnelnjnhcoaa
open Go.RowKit

/-! The fragments of a message, joined. -/
/-- the number of the first fragment, or -1 -/
def findV (fs : List Frag) (m p : Int) (n : Nat) : Int := match look fs m p n with | some i => (i : Int) | none => -1
theorem l21Find_c (va : Value) (vs : Nat → Value) (fs : List Frag) (m p : Int) (w : World) (h : RdF w va vs fs) :
    Calls Try.prog 41 #[va, .int .i64 m, .int .i64 p] w (RetQ w (.int .i64 (findV fs m p fs.length))) := by
  obtain ⟨a, ca, rfl, ml⟩ := h.rows.form
  have H := Lib.hid h
  clear h
  go_enter Try.func41, Try.ntmps41
  go_wp2
  go_loopw [7] (fun i wr => ∃ k : Nat, k ≤ fs.length ∧ i = .int .i64 k ∧ Hid (look fs m p k = none) ∧ Hid (SameW w wr)) (fun i _ => fs.length - (intOf i).toNat)
  case atStart => exact ⟨0, Nat.zero_le _, rfl, Lib.hid rfl, Lib.hid (SameW.refl _)⟩
  case round =>
    obtain ⟨k, hk, rfl, HL, HS⟩ := hrel
    by_cases hlt : k < fs.length
    · obtain ⟨b, off, rfl, hc⟩ := (H.out.rows.below (by decide) HS.out.below).at_ hlt
      have hc0 : wr.cell? ⟨b, off + k * 4, none⟩ = some (.int .i64 (fr fs k).m) := hc 0 (by decide)
      have hc1 : wr.cell? ⟨b, off + k * 4 + 1, none⟩ = some (.int .i64 (fr fs k).p) := hc 1 (by decide)
      clear hc
      by_cases h1 : (fr fs k).m = m
      · have e1 : ((fr fs k).m == m) = true := by simpa using h1
        by_cases h2 : (fr fs k).p = p
        · have e2 : ((fr fs k).p == p) = true := by simpa using h2
          have HF : Hid (findV fs m p fs.length = (k : Int)) := by
            have hk1 : look fs m p (k + 1) = some k := by rw [look_step0 HL.out, if_pos ⟨h1, h2⟩]
            have : ∀ d, look fs m p (k + 1 + d) = some k := by
              intro d
              induction d with
              | zero => exact hk1
              | succ d ih => exact look_step ih
            have := this (fs.length - (k + 1))
            rw [show k + 1 + (fs.length - (k + 1)) = fs.length by omega] at this
            unfold Hid findV; rw [this]
          clear h1 h2
          go_wp2
          go_ret
          exact RetQ.mkS (intv HF.out.symm) HS.out
        · have e2 : ((fr fs k).p == p) = false := by simpa using h2
          have HL2 : Hid (look fs m p (k + 1) = none) := by unfold Hid; rw [look_step0 HL.out, if_neg (fun h => h2 h.2)]
          clear h1 h2
          go_wp2
          go_roundw
          case rel => exact ⟨k + 1, hlt, by go_num, HL2, HS⟩
          case measure => simp [intOf]; omega
      · have e1 : ((fr fs k).m == m) = false := by simpa using h1
        have HL2 : Hid (look fs m p (k + 1) = none) := by unfold Hid; rw [look_step0 HL.out, if_neg (fun h => h1 h.1)]
        clear h1
        go_wp2
        go_roundw
        case rel => exact ⟨k + 1, hlt, by go_num, HL2, HS⟩
        case measure => simp [intOf]; omega
    · obtain rfl : k = fs.length := by omega
      have HF : Hid (findV fs m p fs.length = -1) := by unfold Hid findV; rw [HL.out]
      go_wp2
      go_ret
      exact RetQ.mkS (intv HF.out.symm) HS.out

/-- n more parts, from part k on -/
def joinK (fs : List Frag) (m : Int) : Nat → Nat → List Int → List Int × Bool
  | 0, _, _ => ([], false)
  | n + 1, k, acc => match look fs m (k : Int) fs.length with
    | none => ([], false)
    | some i => if (fr fs i).l then (acc ++ (fr fs i).d, true) else joinK fs m n (k + 1) (acc ++ (fr fs i).d)
def joinF (fs : List Frag) (m : Int) : List Int × Bool := joinK fs m 50 0 []
def lenF (fs : List Frag) : Prop := fs.length ≤ 4000000 ∧ ∀ i, i < fs.length → (fr fs i).d.length ≤ 4000000

set_option maxHeartbeats 1000000 in
theorem implJoin_c (va : Value) (vs : Nat → Value) (fs : List Frag) (m : Int) (w : World) (h : RdF w va vs fs) (hw : wfF fs) (hm : wfI m) (hl : lenF fs) :
    Calls Try.prog 19 #[va, .int .i64 m] w (Ret w fun v w' => ∃ v', v = .tuple #[v', .bool (joinF fs m).2] ∧ OwnK .u8 w' w.heap.size 5 v' (joinF fs m).1) := by
  obtain ⟨a, ca, rfl, ml⟩ := h.rows.form
  have hs := SH.start w [rdFP (.slice a fs.length ca) vs fs] (by simp only [List.forall_mem_cons]; exact ⟨⟨h, rdFP_wr⟩, by simp⟩)
  have HW := Lib.hid hw
  have HL := Lib.hid hl
  clear h hw hl
  go_enter Try.func19, Try.ntmps19
  go_wp2_with fail
  refine (implParts_c _ vs fs _ ((SH.p0 hs : RdF _ _ _ _).below (by go_grown)) HW.out HL.out.1).mono ?_
  rintro e w1 ⟨g, rfl, hj⟩
  have hs := hs.join (by go_grown) hj (fun p hp g hg => by
    simp only [List.mem_cons, List.not_mem_nil, or_false] at hp
    subst hp; exact hg)
  have hs : SH none w w1 [ownP .u8 5 (.slice none 0 0) [], idxP g fs.length fs, rdFP (.slice a fs.length ca) vs fs] := hs.ownNil .u8 5
  clear hj
  go_wp2
  go_loopw [7, 13] (fun o i wr => ∃ (k : Nat) (acc : List Int), k ≤ 50 ∧ i = .int .i64 k ∧ acc.length ≤ k * 4000000 ∧ Hid (joinF fs m = joinK fs m (50 - k) k acc) ∧ SH none w wr [ownP .u8 5 o acc, idxP g fs.length fs, rdFP (.slice a fs.length ca) vs fs]) (fun _ i _ => 50 - (intOf i).toNat)
  case atStart => exact ⟨0, [], by decide, rfl, by simp, Lib.hid rfl, hs⟩
  case round =>
    obtain ⟨k, acc, hk, rfl, hacc, HJ, hs⟩ := hrel
    by_cases hlt : k < 50
    · have hwk : wfI (k : Int) := wfNat k (by omega)
      obtain ⟨ao, co, rfl, -⟩ := (OwnK.rd hs.p0).form
      have e50 : 50 - k = (50 - (k + 1)) + 1 := by omega
      rw [e50] at HJ
      clear e50
      cases hlk : look fs m (k : Int) fs.length with
      | none =>
        have hV : lookV fs m (k : Int) fs.length = 0 := by unfold lookV; rw [hlk]
        have hB : lookB fs m (k : Int) fs.length = false := by unfold lookB; rw [hlk]; rfl
        have HR : Hid (joinF fs m = ([], false)) := by
          have := HJ.out
          simp only [joinK, hlk] at this
          exact Lib.hid this
        clear hlk
        go_wp2_with (at_lookup; refine wp_lookIdx rfl _ _ rfl hs.p1 rfl m (k : Int) rfl hm hwk ?_; rw [hV, hB])
        go_ret2
        exact Ret.mk1 ⟨_, by (rw [HR.out]; rfl), by rw [HR.out]; exact OwnK.nil _ _ _ _⟩ hs.done
      | some i =>
        have hV : lookV fs m (k : Int) fs.length = (i : Int) := by unfold lookV; rw [hlk]
        have hB : lookB fs m (k : Int) fs.length = true := by unfold lookB; rw [hlk]; rfl
        obtain ⟨hi, -, -⟩ := look_some hlk
        have HR : Hid (joinF fs m = if (fr fs i).l then (acc ++ (fr fs i).d, true) else joinK fs m (50 - (k + 1)) (k + 1) (acc ++ (fr fs i).d)) := by
          have := HJ.out
          simp only [joinK, hlk] at this
          exact Lib.hid this
        clear hlk HJ
        obtain ⟨b, off, rfl, hc⟩ := (SH.p2 hs : RdF _ _ _ _).rows.at_ hi
        have hc2 : wr.cell? ⟨b, off + i * 4 + 2, none⟩ = some (.bool (fr fs i).l) := hc 2 (by decide)
        have hc3 : wr.cell? ⟨b, off + i * 4 + 3, none⟩ = some (vs i) := hc 3 (by decide)
        have hd := HL.out.2 i hi
        clear hc
        have hB2 : (acc.length + (fr fs i).d.length) * 1 ≤ 140737488355328 := by omega
        cases hlast : (fr fs i).l
        all_goals
          rw [hlast] at HR hc2
          go_wp2_with (first | (at_lookup; refine wp_lookIdx rfl _ _ rfl hs.p1 rfl m (k : Int) rfl hm hwk ?_; rw [hV, hB]) | (at_builtin; refine wp_appKX rfl rfl .u8 5 1 Try.underlying22 info_byte rfl hs rfl ((SH.p2 hs : RdF _ _ _ _).each i hi) hB2 (by unfold maxLen; omega) ?_; intro v2 w2 hs2; obtain ⟨b2, o2, e2, hcc⟩ := (SH.p2 hs2 : RdF _ _ _ _).rows.at_ hi; cases e2; have hd2 : w2.cell? ⟨b, off + i * 4 + 2, none⟩ = some (.bool (fr fs i).l) := hcc 2 (by decide); rw [hlast] at hd2; clear hcc))
        · have HR2 : Hid (joinF fs m = joinK fs m (50 - (k + 1)) (k + 1) (acc ++ (fr fs i).d)) := Lib.hid (by simpa using HR.out)
          go_roundw
          case rel => exact ⟨k + 1, _, hlt, by go_num, by rw [List.length_append]; omega, HR2, hs2⟩
          case measure => simp [intOf]; omega
        · have HR2 : Hid (joinF fs m = (acc ++ (fr fs i).d, true)) := Lib.hid (by simpa using HR.out)
          go_ret2
          exact Ret.mk1 ⟨_, by (rw [HR2.out]; rfl), by rw [HR2.out]; exact SH.ownRet hs2⟩ hs2.done
    · obtain rfl : k = 50 := by omega
      have HR : Hid (joinF fs m = ([], false)) := HJ.out
      go_wp2
      go_ret2
      exact Ret.mk1 ⟨_, by (rw [HR.out]; rfl), by rw [HR.out]; exact OwnK.nil _ _ _ _⟩ hs.done
set_option maxHeartbeats 1000000 in
theorem specJoin_c (va : Value) (vs : Nat → Value) (fs : List Frag) (m : Int) (w : World) (h : RdF w va vs fs) (hl : lenF fs) :
    Calls Try.prog 22 #[va, .int .i64 m] w (Ret w fun v w' => ∃ v', v = .tuple #[v', .bool (joinF fs m).2] ∧ OwnK .u8 w' w.heap.size 5 v' (joinF fs m).1) := by
  obtain ⟨a, ca, rfl, ml⟩ := h.rows.form
  have hs := (SH.start w [rdFP (.slice a fs.length ca) vs fs] (by simp only [List.forall_mem_cons]; exact ⟨⟨h, rdFP_wr⟩, by simp⟩)).ownEmpty .u8 5
  have HL := Lib.hid hl
  clear h hl
  go_enter Try.func22, Try.ntmps22
  go_wp2
  go_loopw [6, 7] (fun o i wr => ∃ (k : Nat) (acc : List Int), k ≤ 50 ∧ i = .int .i64 k ∧ acc.length ≤ k * 4000000 ∧ Hid (joinF fs m = joinK fs m (50 - k) k acc) ∧ SH none w wr [ownP .u8 5 o acc, rdFP (.slice a fs.length ca) vs fs]) (fun _ i _ => 50 - (intOf i).toNat)
  case atStart => exact ⟨0, [], by decide, rfl, by simp, Lib.hid rfl, hs⟩
  case round =>
    obtain ⟨k, acc, hk, rfl, hacc, HJ, hs⟩ := hrel
    by_cases hlt : k < 50
    · obtain ⟨ao, co, rfl, -⟩ := (OwnK.rd hs.p0).form
      have e50 : 50 - k = (50 - (k + 1)) + 1 := by omega
      rw [e50] at HJ
      clear e50
      cases hlk : look fs m (k : Int) fs.length with
      | none =>
        have hV : findV fs m (k : Int) fs.length = -1 := by unfold findV; rw [hlk]
        have HR : Hid (joinF fs m = ([], false)) := by
          have := HJ.out
          simp only [joinK, hlk] at this
          exact Lib.hid this
        clear hlk
        go_wp2_with fail
        refine (SH.quiet hs (by repeat' (first | with_reducible exact Below.refl _ _ | with_reducible assumption | with_reducible refine below_drewN ?_ _ | with_reducible refine Below.drew ?_ | with_reducible refine Below.alloc ?_ ?_ _ | with_reducible refine Below.setCell ?_ ?_ _ | go_size)) fun hs => l21Find_c _ vs fs m (k : Int) _ hs.p1).mono ?_
        rintro e w2 ⟨rfl, hs⟩
        rw [hV]
        go_wp2
        go_ret2
        exact Ret.mk1 ⟨_, by (rw [HR.out]; rfl), by rw [HR.out]; exact SH.ownRet (hs.ownEmpty .u8 5)⟩ (hs.alloc _).done
      | some i =>
        have hV : findV fs m (k : Int) fs.length = (i : Int) := by unfold findV; rw [hlk]
        obtain ⟨hi, -, -⟩ := look_some hlk
        have HR : Hid (joinF fs m = if (fr fs i).l then (acc ++ (fr fs i).d, true) else joinK fs m (50 - (k + 1)) (k + 1) (acc ++ (fr fs i).d)) := by
          have := HJ.out
          simp only [joinK, hlk] at this
          exact Lib.hid this
        clear hlk HJ
        have hd := HL.out.2 i hi
        have hB2 : (acc.length + (fr fs i).d.length) * 1 ≤ 140737488355328 := by omega
        have hn0 : ¬ (i : Int) < 0 := by omega
        go_wp2_with fail
        refine (SH.quiet hs (by repeat' (first | with_reducible exact Below.refl _ _ | with_reducible assumption | with_reducible refine below_drewN ?_ _ | with_reducible refine Below.drew ?_ | with_reducible refine Below.alloc ?_ ?_ _ | with_reducible refine Below.setCell ?_ ?_ _ | go_size)) fun hs => l21Find_c _ vs fs m (k : Int) _ hs.p1).mono ?_
        rintro e wr ⟨rfl, hs⟩
        rw [hV]
        obtain ⟨b, off, rfl, hc⟩ := (SH.p1 hs : RdF _ _ _ _).rows.at_ hi
        have hc2 : wr.cell? ⟨b, off + i * 4 + 2, none⟩ = some (.bool (fr fs i).l) := hc 2 (by decide)
        have hc3 : wr.cell? ⟨b, off + i * 4 + 3, none⟩ = some (vs i) := hc 3 (by decide)
        clear hc
        cases hlast : (fr fs i).l
        all_goals
          rw [hlast] at HR hc2
          go_wp2_with (at_builtin; refine wp_appKX rfl rfl .u8 5 1 Try.underlying22 info_byte rfl hs rfl ((SH.p1 hs : RdF _ _ _ _).each i hi) hB2 (by unfold maxLen; omega) ?_; intro v2 w2 hs2; obtain ⟨b2, o2, e2, hcc⟩ := (SH.p1 hs2 : RdF _ _ _ _).rows.at_ hi; cases e2; have hd2 : w2.cell? ⟨b, off + i * 4 + 2, none⟩ = some (.bool (fr fs i).l) := hcc 2 (by decide); rw [hlast] at hd2; clear hcc)
        · have HR2 : Hid (joinF fs m = joinK fs m (50 - (k + 1)) (k + 1) (acc ++ (fr fs i).d)) := Lib.hid (by simpa using HR.out)
          go_roundw
          case rel => exact ⟨k + 1, _, hlt, by go_num, by rw [List.length_append]; omega, HR2, hs2⟩
          case measure => simp [intOf]; omega
        · have HR2 : Hid (joinF fs m = (acc ++ (fr fs i).d, true)) := Lib.hid (by simpa using HR.out)
          go_ret2
          exact Ret.mk1 ⟨_, by (rw [HR2.out]; rfl), by rw [HR2.out]; exact SH.ownRet hs2⟩ hs2.done
    · obtain rfl : k = 50 := by omega
      have HR : Hid (joinF fs m = ([], false)) := HJ.out
      go_wp2
      go_ret2
      exact Ret.mk1 ⟨_, by (rw [HR.out]; rfl), by rw [HR.out]; exact SH.ownRet (hs.ownEmpty .u8 5)⟩ (hs.alloc _).done
end Go.Proofs.Ytmhlnelnjnhcoaa
