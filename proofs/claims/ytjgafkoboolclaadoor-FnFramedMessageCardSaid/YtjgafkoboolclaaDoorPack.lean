import Derived.Test.YtjgafkoboolclaaDoorProg
import Derived.Test.YtjgafkoboolclaaDoorLib
import Derived.Test.YtjgafkoboolclaaDoorNum
import Derived.Test.YtjgafkoboolclaaDoorSym
import Derived.Test.YtjgafkoboolclaaDoorInts
import Derived.Test.YtjgafkoboolclaaDoorBytes
import Derived.Test.YtjgafkoboolclaaDoorBlk
import Derived.Test.YtjgafkoboolclaaDoorApp
import Derived.Test.YtjgafkoboolclaaDoorCrc
import Derived.Test.YtjgafkoboolclaaDoorRed
namespace Go.Proofs.YtjgafkoboolclaaDoor
open Go.RowKit

/-! Bytes as bits, and bits as bytes. -/
theorem wf_byte {n : Int} (h : (Lit.int .u8 n).wf = true) : 0 ≤ n ∧ n ≤ 255 := by
  simp only [Lit.wf, IntKind.min, IntKind.max, IntKind.signed, IntKind.bits, Bool.and_eq_true, decide_eq_true_eq] at h
  simp at h
  omega
theorem and_u8 : ∀ a : Fin 256, bits .and .u8 ((a.val : Nat) : Int) 1 = ((a.val % 2 : Nat) : Int) := by decide +kernel
theorem or_u8 : ∀ (x : Fin 128) (y : Fin 2), bits .or .u8 (((x.val : Nat) : Int) * 2) ((y.val : Nat) : Int) = ((2 * x.val + y.val : Nat) : Int) := by decide +kernel
/-- the first k bits of a byte -/
def byT (x : Nat) (k : Nat) : List Int := (List.range k).map fun i => ((x / 2 ^ (7 - i) % 2 : Nat) : Int)
theorem byT_len (x k : Nat) : (byT x k).length = k := by simp [byT]
theorem byT_succ (x k : Nat) : byT x (k + 1) = byT x k ++ [((x / 2 ^ (7 - k) % 2 : Nat) : Int)] := by simp [byT, List.range_succ]
theorem byT_bits (x k : Nat) : okB (byT x k) := by
  intro i hi
  rw [byT_len] at hi
  have : gi (byT x k) i = ((x / 2 ^ (7 - i) % 2 : Nat) : Int) := by simp [gi, byT, hi]
  rw [this]
  omega
def bobV (d : List Int) : List Int := d.flatMap fun x => byT x.toNat 8
theorem bobV_len (d : List Int) : (bobV d).length = 8 * d.length := by
  unfold bobV
  induction d with
  | nil => rfl
  | cons x d ih => rw [List.flatMap_cons, List.length_append, byT_len, ih, List.length_cons]; omega
theorem bobV_succ {d : List Int} {k : Nat} (h : k < d.length) : bobV (d.take (k + 1)) = bobV (d.take k) ++ byT (gi d k).toNat 8 := by
  unfold bobV
  rw [ext_take_succ h, List.flatMap_append]
  simp
theorem bobV_bits (d : List Int) : okB (bobV d) := by
  unfold bobV
  induction d with
  | nil => intro i hi; simp at hi
  | cons x d ih =>
    rw [List.flatMap_cons]
    intro i hi
    by_cases e : i < (byT x.toNat 8).length
    · rw [gi_append_left e]; exact byT_bits _ _ i e
    · have : gi (byT x.toNat 8 ++ d.flatMap fun x => byT x.toNat 8) i = gi (d.flatMap fun x => byT x.toNat 8) (i - (byT x.toNat 8).length) := by
        unfold gi
        rw [List.getD_eq_getElem?_getD, List.getElem?_append_right (by omega), List.getD_eq_getElem?_getD]
      rw [this]
      rw [List.length_append] at hi
      exact ih _ (by omega)
def bytesV (xs : List Int) (k : Nat) : List Int := (List.range k).map fun i => (wdT xs (8 * i) 8 : Int)
theorem bytesV_len (xs : List Int) (k : Nat) : (bytesV xs k).length = k := by simp [bytesV]
theorem bytesV_succ (xs : List Int) (k : Nat) : bytesV xs (k + 1) = bytesV xs k ++ [(wdT xs (8 * k) 8 : Int)] := by simp [bytesV, List.range_succ]
theorem word_by {x : Nat} (hx : x < 256) : ∀ k, k ≤ 8 → wordN (bN (byT x k)) = x / 2 ^ (8 - k)
  | 0, _ => by
    have : x / 2 ^ (8 - 0) = 0 := Nat.div_eq_of_lt hx
    rw [this]; rfl
  | k + 1, hk => by
    have hb : bN (byT x (k + 1)) = bN (byT x k) ++ [x / 2 ^ (7 - k) % 2] := by
      rw [byT_succ]
      simp [bN, -Int.natCast_emod, -Int.natCast_ediv, Int.toNat_natCast]
    rw [hb, word_snoc, word_by hx k (by omega),
      show 8 - k = (7 - k) + 1 by omega, Nat.pow_succ, ← Nat.div_div_eq_div_mul, show 8 - (k + 1) = 7 - k by omega]
    omega
theorem bN_by (x : Nat) (k : Nat) (ys : List Int) : bN (byT x k ++ ys) = bN (byT x k) ++ bN ys := by simp [bN]
theorem wd_bob : ∀ {d : List Int} {i : Nat}, (∀ n ∈ d, (Lit.int .u8 n).wf = true) → i < d.length → (wdT (bobV d) (8 * i) 8 : Int) = gi d i
  | [], i, _, h => by simp at h
  | x :: d, 0, hw, _ => by
    have hx := wf_byte (hw x (by simp))
    unfold wdT bobV
    rw [List.flatMap_cons, bN_by, Nat.mul_zero, List.drop_zero, List.take_append_of_le_length (by rw [bN_len, byT_len]; exact Nat.le_refl _), List.take_of_length_le (by rw [bN_len, byT_len]; exact Nat.le_refl _), word_by (by omega) 8 (Nat.le_refl _), Nat.sub_self, Nat.pow_zero, Nat.div_one]
    simp [gi]; omega
  | x :: d, i + 1, hw, h => by
    have ih := wd_bob (d := d) (i := i) (fun n hn => hw n (by simp [hn])) (by simpa using h)
    have e : wdT (bobV (x :: d)) (8 * (i + 1)) 8 = wdT (bobV d) (8 * i) 8 := by
      unfold wdT bobV
      rw [List.flatMap_cons, bN_by, List.drop_append, show (bN (byT x.toNat 8)).length = 8 by rw [bN_len, byT_len], List.drop_eq_nil_of_le (by rw [bN_len, byT_len]; omega), show 8 * (i + 1) - 8 = 8 * i by omega, List.nil_append]
    rw [e, ih]
    simp [gi]
theorem bytes_bob {d : List Int} (hw : ∀ n ∈ d, (Lit.int .u8 n).wf = true) : bytesV (bobV d) d.length = d := by
  refine gi_ext (bytesV_len _ _) fun i hi => ?_
  rw [bytesV_len] at hi
  have : gi (bytesV (bobV d) d.length) i = (wdT (bobV d) (8 * i) 8 : Int) := by simp [gi, bytesV, hi]
  rw [this, wd_bob hw hi]
set_option maxRecDepth 100000 in
set_option maxHeartbeats 4000000 in
theorem appendTo_s (x : Nat) (v : Value) (xs : List Int) (w : World) {row : Option Nat} {w0 : World} {I : List Part} (hs : SH row w0 w (ownP .i64 3 v xs :: I)) (hx : x < 256) (hl : xs.length ≤ 1048576) :
    Calls Tryd.prog 44 #[.int .u8 x, v] w (fun e w' => ∃ v', e = .returned v' ∧ SH row w0 w' (ownP .i64 3 v' (xs ++ byT x 8) :: I)) := by
  obtain ⟨av, cv, rfl, -⟩ := (OwnK.rd hs.p0).form
  go_enter Tryd.func44, Tryd.ntmps44
  go_wp2
  go_loopw [1, 5] (fun o i wr => ∃ k : Nat, k ≤ 8 ∧ i = .int .i64 ((7 : Int) - (k : Int)) ∧ SH row w0 wr (ownP .i64 3 o (xs ++ byT x k) :: I)) (fun _ i _ => (intOf i + 1).toNat)
  case atStart => exact ⟨0, by decide, rfl, by rw [show byT x 0 = [] from rfl, List.append_nil]; exact hs⟩
  case round =>
    clear hs
    obtain ⟨k, hk, rfl, hs⟩ := hrel
    have hkl : (xs ++ byT x k).length = xs.length + k := by rw [List.length_append, byT_len]
    obtain ⟨ao, co, rfl, -⟩ := (OwnK.rd hs.p0).form
    by_cases hlt : k < 8
    · obtain ⟨p, hp⟩ : ∃ p : Nat, (7 : Int) - (k : Int) = (p : Int) := ⟨7 - k, by omega⟩
      have HP := Lib.hid hp
      have hp7 : p ≤ 7 := by omega
      have hp0 : (0 : Int) ≤ (p : Int) := by omega
      rw [hp]
      clear hp
      have hd : x / 2 ^ p < 256 := Nat.lt_of_le_of_lt (Nat.div_le_self _ _) hx
      have ha : bits .and .u8 ((x : Int) / 2 ^ p) 1 = ((x / 2 ^ p % 2 : Nat) : Int) := by
        have := and_u8 ⟨x / 2 ^ p, hd⟩
        simpa using this
      have HT : Hid (byT x (k + 1) = byT x k ++ [((x / 2 ^ p % 2 : Nat) : Int)]) := by unfold Hid; rw [byT_succ, show 7 - k = p by have := HP.out; omega]
      go_wp2_with (at_builtin; refine wp_app1S rfl rfl .i64 3 8 Tryd.underlying22 info_int ((x / 2 ^ p % 2 : Nat) : Int) rfl (hs.alloc _) rfl (by first | exact World.cell?_alloc_at _ _ _ _ rfl | (rw [← ha]; exact World.cell?_alloc_at _ _ _ _ rfl)) (by omega) (by unfold maxLen; omega) ?_; intro v3 w3 hs)
      go_roundw
      case rel => exact ⟨k + 1, hlt, by have := HP.out; exact intv (by omega), by rw [HT.out, ← List.append_assoc]; exact hs⟩
      case measure => (simp [intOf]; try omega)
    · obtain rfl : k = 8 := by omega
      go_wp2
      go_ret
      exact ⟨_, rfl, hs⟩
set_option maxRecDepth 100000 in
set_option maxHeartbeats 4000000 in
theorem bitsOfBytes_c (va : Value) (d : List Int) (w : World) (h : RdB w va d) (hw : ∀ n ∈ d, (Lit.int .u8 n).wf = true) (hl : d.length ≤ 128) :
    Calls Tryd.prog 23 #[va] w (Ret w fun v w' => OwnI w' w.heap.size 3 v (bobV d)) := by
  obtain ⟨a, ca, rfl, ml⟩ := h.form
  have hs := SH.start w [rdP .u8 (.slice a d.length ca) d] (by simp only [List.forall_mem_cons]; exact ⟨⟨h, rdP_wr⟩, by simp⟩)
  have HW := Lib.hid hw
  clear h hw
  go_enter Tryd.func23, Tryd.ntmps23
  have h8 : (8 : Int) * (d.length : Int) = ((8 * d.length : Nat) : Int) := by omega
  have H8 := Lib.hid h8
  clear h8
  go_wp2_with (at_make; refine wp_make0K rfl rfl .i64 w.heap.size 3 8 Tryd.underlying22 info_int (8 * d.length) rfl rfl H8.out (by omega) (by unfold maxLen; omega) (Nat.le_refl _) ?_; intro w2 hown hg hsz)
  have hs := hs.pushOwn (below_of_grown hg) hown
  clear hown hg hsz
  go_loopw [3, 5, 15] (fun o _ i wr => ∃ k : Nat, k ≤ d.length ∧ i = .int .i64 k ∧ SH none w wr [ownP .i64 3 o (bobV (d.take k)), rdP .u8 (.slice a d.length ca) d]) (fun _ _ i _ => d.length - (intOf i).toNat)
  case atStart => exact ⟨0, Nat.zero_le _, rfl, hs⟩
  case round =>
    clear hs
    obtain ⟨k, hk, rfl, hs⟩ := hrel
    have hkl : (bobV (d.take k)).length = 8 * k := by rw [bobV_len, List.length_take]; omega
    obtain ⟨ao, co, rfl, -⟩ := (OwnK.rd hs.p0).form
    rw [hkl] at hs ⊢
    have HKL := Lib.hid hkl
    clear hkl
    by_cases hlt : k < d.length
    · obtain ⟨b, off, rfl, hc⟩ := (SH.p1 hs : RdB _ _ _).at_ hlt
      have hby := wf_byte (HW.out (gi d k) (by rw [gi_lt hlt]; exact List.getElem_mem hlt))
      obtain ⟨y, hy⟩ : ∃ y : Nat, gi d k = (y : Int) := ⟨(gi d k).toNat, by omega⟩
      have HS1 := Lib.hid (bobV_succ hlt)
      rw [hy] at hc hby HS1
      rw [Int.toNat_natCast] at HS1
      clear hy
      go_wp2_with fail
      refine (appendTo_s y _ _ _ (hs.below (by repeat' (first | with_reducible exact Below.refl _ _ | with_reducible assumption | with_reducible refine below_drewN ?_ _ | with_reducible refine Below.drew ?_ | with_reducible refine Below.alloc ?_ ?_ _ | with_reducible refine Below.setCell ?_ ?_ _ | go_size))) (by omega) (by rw [HKL.out]; omega)).mono ?_
      rintro e w3 ⟨v3, rfl, hs⟩
      go_wp2
      go_roundw
      case rel => exact ⟨k + 1, hlt, by go_num, by rw [HS1.out]; exact hs⟩
      case measure => simp [intOf]; omega
    · obtain rfl : k = d.length := by omega
      rw [List.take_length] at hs
      go_wp2
      go_ret
      exact Ret.mk1 (SH.ownRet hs) hs.done
set_option maxRecDepth 100000 in
theorem push_s (g x y : Nat) (w : World) {row : Option Nat} {w0 : World} {I : List Part} (hs : SH row w0 w (blkP g #[.int .u8 x] 57 :: I)) (hx : x < 128) (hy : y < 2) :
    Calls Tryd.prog 45 #[.pointer (some ⟨g, 0, none⟩), .int .i64 y] w (fun e w' => e = .returned (.tuple #[]) ∧ SH row w0 w' (blkP g #[.int .u8 ((2 * x + y : Nat) : Int)] 57 :: I)) := by
  have hb := hs.p0
  have hc := blk_cell hb 0
  have hf := blk_frozen hb 0
  have ho := or_u8 ⟨x, hx⟩ ⟨y, hy⟩
  simp only at ho
  clear hb
  go_enter Tryd.func45, Tryd.ntmps45
  go_wp2
  go_end0
  refine ⟨rfl, ?_⟩
  have := hs.setBlk 0 (.int .u8 ((2 * x + y : Nat) : Int))
  simpa using this
set_option maxRecDepth 100000 in
set_option maxHeartbeats 4000000 in
theorem bytesOfBits_c (va : Value) (xs : List Int) (w : World) (h : RdI w va xs) (hv : bitsB xs = true) (h8 : xs.length % 8 = 0) :
    Calls Tryd.prog 24 #[va] w (Ret w fun v w' => ∃ v', v = .tuple #[v', .bool true] ∧ OwnK .u8 w' w.heap.size 5 v' (bytesV xs (xs.length / 8))) := by
  obtain ⟨a, ca, rfl, mc, mx⟩ := h.form'
  have hs := SH.start w [rdP .i64 (.slice a xs.length ca) xs] (by simp only [List.forall_mem_cons]; exact ⟨⟨h, rdP_wr⟩, by simp⟩)
  clear h
  obtain ⟨hl, hx⟩ := bitsB_true.1 hv
  have HX := Lib.hid (show okB xs from hx)
  clear hx
  obtain ⟨n, hn⟩ : ∃ n, xs.length = 8 * n := ⟨xs.length / 8, by omega⟩
  have hn8 : xs.length / 8 = n := by omega
  have e8 : ((xs.length : Int) % 8 != 0) = false := by rw [bne_eq_false_iff_eq]; omega
  have hq : (xs.length : Int) / 8 = (n : Int) := by omega
  have HQ := Lib.hid hq
  rw [hn8]
  have HN := Lib.hid hn
  have hn128 : n ≤ 128 := by omega
  clear h8 hn8 hn
  go_enter Tryd.func24, Tryd.ntmps24
  go_wp2_with fail
  refine (SH.quiet hs (by repeat' (first | with_reducible exact Below.refl _ _ | with_reducible assumption | with_reducible refine below_drewN ?_ _ | with_reducible refine Below.drew ?_ | with_reducible refine Below.alloc ?_ ?_ _ | with_reducible refine Below.setCell ?_ ?_ _ | go_size)) fun hs => implBitsValid_c _ xs _ hs.p0).mono ?_
  rintro e w1 ⟨rfl, hs⟩
  rw [hv]
  clear hv
  go_wp2_with (at_make; refine wp_make0K rfl rfl .u8 w1.heap.size 5 1 Tryd.underlying27 info_byte n rfl rfl (by first | exact HQ.out | rfl) (by omega) (by unfold maxLen; omega) (Nat.le_refl _) ?_; intro w2 hown hg hsz)
  have hs := hs.pushOwn (below_of_grown hg) hown
  clear hown hg hsz e8 hq
  go_loopw [4, 5, 6, 8] (fun o i _ _ wr => ∃ k : Nat, k ≤ n ∧ i = .int .i64 ((8 * k : Nat) : Int) ∧ SH none w wr [ownP .u8 5 o (bytesV xs k), rdP .i64 (.slice a xs.length ca) xs]) (fun _ i _ _ _ => xs.length - (intOf i).toNat)
  case atStart => exact ⟨0, Nat.zero_le _, rfl, hs⟩
  case round =>
    clear hs
    obtain ⟨k, hk, rfl, hs⟩ := hrel
    have hkl := bytesV_len xs k
    obtain ⟨ao, co, rfl, -⟩ := (OwnK.rd hs.p0).form
    rw [hkl] at hs ⊢
    have HKL := Lib.hid hkl
    clear hkl
    by_cases hlt : k < n
    · have hk9 : 8 * k + 8 ≤ xs.length := by rw [HN.out]; omega
      obtain ⟨b, off, rfl, -⟩ := (SH.p1 hs : RdI _ _ _).at_ (show 8 * k < xs.length by omega)
      have hcap : ¬ ca = 8 * k := by omega
      have i2 : ((8 * k : Nat) : Int) < (xs.length : Int) := by omega
      go_wp2_with fail
      try rw [show ((8 * k : Nat) : Int) = 8 * (k : Int) by omega]
      try rw [decide_eq_true (show 8 * (k : Int) < (xs.length : Int) by omega)]
      try rw [show 8 * k + 8 - 8 * k = 8 by omega]
      have hs := hs.allocP #[.int .u8 0] 57
      generalize World.alloc wr _ = wX at *
      generalize wr.heap.size = B at *
      go_loopw [8, 34] (fun _ ii wx => ∃ j : Nat, j ≤ 8 ∧ ii = .int .i64 j ∧ SH none w wx [blkP B #[.int .u8 (wdT xs (8 * k) j : Nat)] 57, ownP .u8 5 (.slice ao k co) (bytesV xs k), rdP .i64 (.slice (some ⟨b, off, none⟩) xs.length ca) xs]) (fun _ ii _ => 8 - (intOf ii).toNat)
      case atStart => exact ⟨0, by decide, rfl, hs⟩
      case round =>
        clear hs
        rename_i wx _
        obtain ⟨j, hj, rfl, hs⟩ := hrel
        by_cases hjl : j < 8
        · obtain ⟨b2, o2, e2, hc⟩ := (SH.p2 hs : RdI _ _ _).at_ (show 8 * k + j < xs.length by omega)
          cases e2
          rw [← Nat.add_assoc] at hc
          have hbit := HX.out (8 * k + j) (by omega)
          obtain ⟨y, hy, hy2⟩ : ∃ y : Nat, gi xs (8 * k + j) = (y : Int) ∧ y < 2 := by
            rcases hbit with e | e
            · exact ⟨0, e, by decide⟩
            · exact ⟨1, e, by decide⟩
          have HWS := Lib.hid (wdT_succ (xs := xs) (k := 8 * k) (j := j) (by omega))
          have hwl := wdT_lt HX.out (8 * k) j
          have hp7 : 2 ^ j ≤ 128 := pow7 (by omega)
          rw [hy] at hc HWS
          rw [Int.toNat_natCast] at HWS
          have HWL : Hid (wdT xs (8 * k) j < 128) := Lib.hid (by omega)
          clear hbit hy hwl hp7
          generalize wdT xs (8 * k) j = V at *
          go_wp2_with fail
          refine (push_s B V y _ (hs.below (by repeat' (first | with_reducible exact Below.refl _ _ | with_reducible assumption | with_reducible refine below_drewN ?_ _ | with_reducible refine Below.drew ?_ | with_reducible refine Below.alloc ?_ ?_ _ | with_reducible refine Below.setCell ?_ ?_ _ | go_size))) HWL.out hy2).mono ?_
          rintro e w5 ⟨rfl, hs⟩
          go_wp2
          go_roundw
          case rel => exact ⟨j + 1, hjl, by go_num, by rw [HWS.out]; exact hs⟩
          case measure => simp [intOf]; omega
        · obtain rfl : j = 8 := by omega
          have hb := hs.p0
          have hc := blk_cell hb 0
          have HB1 := Lib.hid (bytesV_succ xs k)
          clear hb
          generalize wdT xs (8 * k) 8 = V at *
          go_wp2_with (at_builtin; refine wp_app1S rfl rfl .u8 5 1 Tryd.underlying27 info_byte (V : Int) rfl (hs.bring1.alloc _) rfl (World.cell?_alloc_at _ _ _ _ rfl) (by rw [HKL.out]; omega) (by rw [HKL.out]; unfold maxLen; omega) ?_; intro v9 w9 hs)
          go_roundw
          case rel => exact ⟨k + 1, hlt, by go_num, by rw [HB1.out]; exact hs.drop1⟩
          case measure => simp [intOf]; omega
    · obtain rfl : k = n := by omega
      have hd : ¬ ((8 * k : Nat) : Int) < (xs.length : Int) := by rw [HN.out]; omega
      go_wp2
      go_ret2
      exact Ret.mk1 ⟨_, rfl, SH.ownRet hs⟩ hs.done
end Go.Proofs.YtjgafkoboolclaaDoor
