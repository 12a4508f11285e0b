import Derived.Test.YtpcmfmkpgidgpaaDoorProg
import Derived.Test.YtpcmfmkpgidgpaaDoorLib
import Derived.Test.YtpcmfmkpgidgpaaDoorNum
import Derived.Test.YtpcmfmkpgidgpaaDoorMem
import Derived.Test.YtpcmfmkpgidgpaaDoorSym
import Derived.Test.YtpcmfmkpgidgpaaDoorInts
import Derived.Test.YtpcmfmkpgidgpaaDoorApp
import Derived.Test.YtpcmfmkpgidgpaaDoorBlk
import Derived.Test.YtpcmfmkpgidgpaaDoorPair
import Derived.Test.YtpcmfmkpgidgpaaDoorDist
import Derived.Test.YtpcmfmkpgidgpaaDoorRed
import Derived.Test.YtpcmfmkpgidgpaaDoorRed2
import Derived.Test.YtpcmfmkpgidgpaaDoorChk
import Derived.Test.YtpcmfmkpgidgpaaDoorLinkPl
import Derived.BigRegion
import Derived.RegionTactic
namespace Go.Proofs.YtpcmfmkpgidgpaaDoor
open Go.RowKit

/-! What is received: samples, the table, words of seven. -/
section
variable {row : Option Nat} {w0 w W : World} {I : List Part} {a q : Part} {P : Program} {fn : FuncId} {args : Array Value}
/-- one more part that is only read, inside another one -/
theorem SH.addSub (h : SH row w0 w (a :: I)) (ha : ∀ g, ¬ a.wr g) (hq : q.says w) (hqw : ∀ g, ¬ q.wr g) (hon : ∀ g, q.on g → a.on g) : SH row w0 w (q :: a :: I) := by
  have hap := List.pairwise_cons.1 h.apart
  refine ⟨h.grown, ?_, ?_, ?_⟩
  · intro p hp
    rcases List.mem_cons.1 hp with rfl | hp
    · exact hq
    · exact h.says p hp
  · intro p hp g hg
    rcases List.mem_cons.1 hp with rfl | hp
    · exact absurd hg (hqw g)
    · exact h.new p hp g hg
  · refine List.pairwise_cons.2 ⟨fun p hp g => ⟨fun h1 _ => hqw g h1, fun h1 h2 => ?_⟩, h.apart⟩
    rcases List.mem_cons.1 hp with rfl | hp
    · exact ha g h1
    · exact ((hap.1 p hp) g).2 h1 (hon g h2)
theorem SH.ownT2 {k : IntKind} {t : TypeId} {xs : List Int} {n : Int} (hs : SH row w0 w I) (hb : Below w.heap.size w W)
    (hc : SH row w0 W I → Calls P fn args W (Ret W fun v w' => ∃ v', v = .tuple #[v', .int .i64 n] ∧ OwnK k w' W.heap.size t v' xs)) : Calls P fn args W (fun e w' => ∃ v, e = .returned (.tuple #[v, .int .i64 n]) ∧ SH row w0 w' (ownP k t v xs :: I)) :=
  (hc (hs.below hb)).mono fun _ _ ⟨v, h1, ⟨v', h2, h4⟩, h3⟩ => ⟨v', by rw [h1, h2], (hs.below hb).pushOwn h3 h4⟩
theorem SH.ownT3 {k : IntKind} {t : TypeId} {xs : List Int} {n : Int} {b : Bool} (hs : SH row w0 w I) (hb : Below w.heap.size w W)
    (hc : SH row w0 W I → Calls P fn args W (Ret W fun v w' => ∃ v', v = .tuple #[v', .int .i64 n, .bool b] ∧ OwnK k w' W.heap.size t v' xs)) : Calls P fn args W (fun e w' => ∃ v, e = .returned (.tuple #[v, .int .i64 n, .bool b]) ∧ SH row w0 w' (ownP k t v xs :: I)) :=
  (hc (hs.below hb)).mono fun _ _ ⟨v, h1, ⟨v', h2, h4⟩, h3⟩ => ⟨v', by rw [h1, h2], (hs.below hb).pushOwn h3 h4⟩
end
theorem RdK.sub {k : IntKind} {w : World} {b off n cap : Nat} {xs : List Int} (h : RdK k w (.slice (some ⟨b, off, none⟩) n cap) xs) {i m : Nat} (hm : i + m ≤ n) : RdK k w (.slice (some ⟨b, off + i, none⟩) m (cap - i)) ((xs.drop i).take m) := by
  obtain ⟨a, cap', he, h1, h2, h3⟩ := h
  simp only [Value.slice.injEq, Option.some.injEq] at he
  obtain ⟨rfl, hn, rfl⟩ := he
  have hl : ((xs.drop i).take m).length = m := by rw [List.length_take, List.length_drop]; omega
  refine ⟨some ⟨b, off + i, none⟩, cap - i, by rw [hl], by rw [hl]; omega, by omega, ?_⟩
  intro j hj
  rw [hl] at hj
  obtain ⟨b', off', e, hc⟩ := h3 (i + j) (by omega)
  cases e
  refine ⟨b, off + i, rfl, ?_⟩
  have e2 : gi ((xs.drop i).take m) j = gi xs (i + j) := by
    unfold gi
    rw [List.getD_eq_getElem?_getD, List.getElem?_take, if_pos hj, List.getElem?_drop, List.getD_eq_getElem?_getD]
  rw [e2, Nat.add_assoc]
  exact hc
theorem size_allocL (w : World) (o : Obj) : (w.alloc o).heap.size = w.heap.size + 1 := by unfold World.alloc; exact Array.size_push _
theorem gi_sub (xs : List Int) (i m j : Nat) (hj : j < m) : gi ((xs.drop i).take m) j = gi xs (i + j) := by
  unfold gi
  rw [List.getD_eq_getElem?_getD, List.getElem?_take, if_pos hj, List.getElem?_drop, List.getD_eq_getElem?_getD]
def dpL : List Int := [2, 4, 5, 6]

theorem signBit_c (n : Int) (w : World) : Calls Tryd.prog 116 #[.int .i64 n] w (fun e w' => e = .returned (.int .i64 (sgn01 n)) ∧ w' = w) := by
  unfold sgn01
  by_cases h : 0 < n
  · rw [if_pos h]
    go_enter Tryd.func116, Tryd.ntmps116
    go_wp2
    go_ret
    exact ⟨rfl, rfl⟩
  · rw [if_neg h]
    go_enter Tryd.func116, Tryd.ntmps116
    go_wp2
    go_ret
    exact ⟨rfl, rfl⟩
theorem modOne_c (w : World) : Calls Tryd.prog 60 #[.int .i64 1] w (fun e w' => e = .returned (.iface 93 (.agg #[])) ∧ w' = w) := by
  go_enter Tryd.func60, Tryd.ntmps60
  go_wp2
  go_ret
  exact ⟨rfl, rfl⟩
theorem findOne (w : World) : (method 227 93 (.agg #[]) "loop.example/softwareradio/impl.appendBits").run Tryd.prog w = .ok (114, .agg #[]) w := by kernel_rfl
set_option maxHeartbeats 4000000 in
theorem oneApp_s (x y : Int) (v : Value) (xs : List Int) (w : World) {row : Option Nat} {w0 : World} {I : List Part} (hs : SH row w0 w (ownP .i64 3 v xs :: I)) (hl : xs.length ≤ 1048576) :
    Calls Tryd.prog 114 #[.agg #[], v, .agg #[.int .i64 x, .int .i64 y]] w (fun e w' => ∃ v', e = .returned v' ∧ SH row w0 w' (ownP .i64 3 v' (xs ++ [sgn01 x]) :: I)) := by
  obtain ⟨av, cv, rfl, -⟩ := (OwnK.rd hs.p0).form
  have hs := ((hs.allocP #[] 93).allocP #[.int .i64 x, .int .i64 y] 57)
  have hb := hs.p0
  have hc0 := blk_cell hb 0
  clear hb
  have hs := hs.bring2
  rw [size_allocL] at hc0
  go_enter Tryd.func114, Tryd.ntmps114
  go_wp2_with fail
  refine (signBit_c x _).mono ?_
  rintro e w1 ⟨rfl, rfl⟩
  obtain ⟨y1, hy1⟩ : ∃ y1 : Int, sgn01 x = y1 := ⟨_, rfl⟩
  rw [hy1]
  have HY := Lib.hid hy1
  clear hc0 hy1
  generalize World.alloc (World.alloc w _) _ = W at *
  go_wp2_with (at_builtin; refine wp_app1S rfl rfl .i64 3 8 Tryd.underlying22 info_int y1 rfl (hs.alloc _) rfl (World.cell?_alloc_at _ _ _ _ rfl) (by omega) (by unfold maxLen; omega) ?_; intro v2 w2 hs)
  go_ret
  exact ⟨_, rfl, by rw [HY.out]; exact hs.drop1.drop1⟩

theorem size_int (h : 3 < Tryd.prog.types.size) : (Tryd.prog.types[3]'h).size = 1 := by kernel_rfl
theorem idxD0 (w : World) : (Instr.index 102 (.agg #[Value.int .i64 2, Value.int .i64 4, Value.int .i64 5, Value.int .i64 6]) (.int .i64 0)).run Tryd.prog w = .ok (.int .i64 2) w := by kernel_rfl
theorem idxD1 (w : World) : (Instr.index 102 (.agg #[Value.int .i64 2, Value.int .i64 4, Value.int .i64 5, Value.int .i64 6]) (.int .i64 1)).run Tryd.prog w = .ok (.int .i64 4) w := by kernel_rfl
theorem idxD2 (w : World) : (Instr.index 102 (.agg #[Value.int .i64 2, Value.int .i64 4, Value.int .i64 5, Value.int .i64 6]) (.int .i64 2)).run Tryd.prog w = .ok (.int .i64 5) w := by kernel_rfl
theorem idxD3 (w : World) : (Instr.index 102 (.agg #[Value.int .i64 2, Value.int .i64 4, Value.int .i64 5, Value.int .i64 6]) (.int .i64 3)).run Tryd.prog w = .ok (.int .i64 6) w := by kernel_rfl
theorem xorS (a b : Nat) (ha : a < 8) (hb : b < 8) : bits .xor .i64 (a : Int) (b : Int) = ((a ^^^ b : Nat) : Int) := i64_xor_nat a b (by omega) (by omega)
set_option maxHeartbeats 4000000 in
theorem syndrome_c (va : Value) (xs : List Int) (w : World) (h : RdI w va xs) (hx : okB xs) (hl : xs.length = 7) :
    Calls Tryd.prog 94 #[va] w (RetQ w (.int .i64 (synT (gi xs) 7 : Nat))) := by
  obtain ⟨a, ca, rfl, ml⟩ := h.form
  have H := Lib.hid h
  have HX : Hid (∀ i, i < 7 → gi xs i = 0 ∨ gi xs i = 1) := Lib.hid fun i hi => hx i (by omega)
  rw [hl]
  clear h hx ml
  go_enter Tryd.func94, Tryd.ntmps94
  go_wp2
  go_loopw [3, 4, 5, 8] (fun s _ _ i wr => ∃ k : Nat, k ≤ 7 ∧ i = .int .i64 k ∧ s = .int .i64 (synT (gi xs) k : Nat) ∧ Hid (SameW w wr)) (fun _ _ _ i _ => 7 - (intOf i).toNat)
  case atStart => exact ⟨0, by decide, rfl, rfl, Lib.hid (SameW.refl _)⟩
  case round =>
    obtain ⟨k, hk, rfl, rfl, HS⟩ := hrel
    by_cases hlt : k < 7
    · obtain ⟨b, off, rfl, hc⟩ := (H.out.below HS.out.below).at_ (i := k) (by omega)
      have hbit := HX.out k hlt
      have hsl := syn_lt HX.out k hk
      have HST : Hid (synT (gi xs) (k + 1) = synT (gi xs) k ^^^ ((k + 1) * (gi xs k).toNat)) := Lib.hid rfl
      obtain ⟨y, hy⟩ : ∃ y, gi xs k = y := ⟨_, rfl⟩
      rw [hy] at hc hbit HST
      clear hy
      obtain ⟨S, hS⟩ : ∃ S, synT (gi xs) k = S := ⟨_, rfl⟩
      rw [hS] at hsl HST ⊢
      clear hS
      rcases hbit with rfl | rfl
      · have hxr : bits .xor .i64 (S : Int) 0 = (S : Int) := by have := xorS S 0 hsl (by decide); simpa using this
        go_wp2
        go_roundw
        case rel => exact ⟨k + 1, hlt, by go_num, by rw [HST.out]; simp, HS⟩
        case measure => simp [intOf]; omega
      · have hxr : bits .xor .i64 (S : Int) ((k : Int) + 1) = ((S ^^^ (k + 1) : Nat) : Int) := by have := xorS S (k + 1) hsl (by omega); simpa using this
        go_wp2
        go_roundw
        case rel => exact ⟨k + 1, hlt, by go_num, by rw [HST.out]; simp, HS⟩
        case measure => simp [intOf]; omega
    · obtain rfl : k = 7 := by omega
      go_wp2
      go_ret
      exact RetQ.mkS rfl HS.out
set_option maxRecDepth 100000 in
set_option maxHeartbeats 4000000 in
theorem appendDecoded_s (v : Value) (xs : List Int) (vw : Value) (ws : List Int) (w : World) {row : Option Nat} {w0 : World} {I : List Part} (hs : SH row w0 w (ownP .i64 3 v xs :: rdP .i64 vw ws :: rdP .i64 (.slice (some ⟨0, 0, none⟩) 4 4) dpL :: I)) (hx : okB ws) (hl : ws.length = 7) (hxl : xs.length ≤ 1048576) :
    Calls Tryd.prog 79 #[v, vw] w (fun e w' => ∃ v', e = .returned (.tuple #[v', .int .i64 (wdN (gi ws) : Nat)]) ∧ SH row w0 w' (ownP .i64 3 v' (xs ++ wdL (gi ws)) :: rdP .i64 vw ws :: rdP .i64 (.slice (some ⟨0, 0, none⟩) 4 4) dpL :: I)) := by
  obtain ⟨av, cv, rfl, -⟩ := (OwnK.rd hs.p0).form
  obtain ⟨aw, cw, rfl, -⟩ := RdK.form (show RdI w vw ws from hs.p1)
  have HX : Hid (∀ i, i < 7 → gi ws i = 0 ∨ gi ws i = 1) := Lib.hid fun i hi => hx i (by omega)
  have HXO := Lib.hid hx
  have HL := Lib.hid hl
  clear hx hl
  go_enter Tryd.func79, Tryd.ntmps79
  go_wp2_with fail
  refine (SH.quiet hs (by repeat' (first | with_reducible exact Below.refl _ _ | with_reducible assumption | with_reducible refine below_drewN ?_ _ | with_reducible refine Below.drew ?_ | with_reducible refine Below.alloc ?_ ?_ _ | with_reducible refine Below.setCell ?_ ?_ _ | go_size)) fun hs => syndrome_c _ ws _ hs.p1 HXO.out HL.out).mono ?_
  rintro e w1 ⟨rfl, hs⟩
  have cD : ∀ i, i < 4 → w1.cell? ⟨0, i, none⟩ = some (.int .i64 (gi dpL i)) := fun i hi => by
    obtain ⟨b, o, e, h⟩ := RdK.at_ (show RdI w1 _ dpL from hs.p2) hi
    cases e
    rw [Nat.zero_add] at h
    exact h
  have c0 : w1.cell? ⟨0, 0, none⟩ = some (.int .i64 2) := cD 0 (by decide)
  have c1 : w1.cell? ⟨0, 1, none⟩ = some (.int .i64 4) := cD 1 (by decide)
  have c2 : w1.cell? ⟨0, 2, none⟩ = some (.int .i64 5) := cD 2 (by decide)
  have c3 : w1.cell? ⟨0, 3, none⟩ = some (.int .i64 6) := cD 3 (by decide)
  clear cD
  have HSl := syn_lt HX.out 7 (Nat.le_refl _)
  have HWD : Hid (∀ p, wdF (gi ws) p = if p + 1 = synT (gi ws) 7 then 1 - gi ws p else gi ws p) := Lib.hid fun p => rfl
  have HWN : Hid (wdN (gi ws) = if synT (gi ws) 7 = 0 then 0 else 1) := Lib.hid rfl
  generalize synT (gi ws) 7 = S at *
  by_cases hS : S = 0
  case pos =>
    have hS1 : ((S : Int) != 0) = decide (0 = 1) := by first | (rw [hS]; rfl) | (rw [bne_iff_ne]; omega) | (simp; omega)
    go_wp2
    clear c0 c1 c2 c3
    go_loopw [0, 9, 10, 16] (fun o _ _ i wr => ∃ k : Nat, k ≤ 4 ∧ i = .int .i64 k ∧ SH row w0 wr (ownP .i64 3 o (xs ++ (wdL (gi ws)).take k) :: rdP .i64 (.slice aw ws.length cw) ws :: rdP .i64 (.slice (some ⟨0, 0, none⟩) 4 4) dpL :: I)) (fun _ _ _ i _ => 4 - (intOf i).toNat)
    case atStart => exact ⟨0, by decide, rfl, by rw [List.take_zero, List.append_nil]; exact hs⟩
    case round =>
      clear hs
      obtain ⟨k, hk, rfl, hs⟩ := hrel
      have hkl : (xs ++ (wdL (gi ws)).take k).length = xs.length + k := by rw [List.length_append, List.length_take]; simp [wdL]; omega
      obtain ⟨ao, co, rfl, -⟩ := (OwnK.rd hs.p0).form
      rw [hkl] at hs ⊢
      obtain rfl | rfl | rfl | rfl | rfl : k = 0 ∨ k = 1 ∨ k = 2 ∨ k = 3 ∨ k = 4 := by omega
      · obtain ⟨b, off, rfl, hc⟩ := RdK.at_ (show RdI wr _ ws from hs.p1) (i := 2) (by rw [HL.out]; decide)
        have hy := HX.out 2 (by decide)
        have hw := HWD.out 2
        have hix := fun w => idxD0 w
        rw [show ((0 : Nat) : Int) = 0 from rfl]
        have HT : Hid (xs ++ (wdL (gi ws)).take (0 + 1) = xs ++ (wdL (gi ws)).take 0 ++ [wdF (gi ws) 2]) := Lib.hid (by simp [wdL])
        have b0 : (2 : Int) < (ws.length : Int) := by rw [HL.out]; decide
        obtain ⟨y, hye⟩ : ∃ y, gi ws 2 = y := ⟨_, rfl⟩
        rw [hye] at hc hy hw
        clear hye
        have hwr : IntKind.i64.wrap (1 - y) = 1 - y := IntWalk.i64_in _ (by omega)
        by_cases he : 2 + 1 = S
        · first
          | exact absurd he (by omega)
          | (rw [if_pos he] at hw
             have hb : ((3 : Int) == (S : Int)) = true := by rw [beq_iff_eq]; omega
             have HW := Lib.hid hw
             clear hw hkl
             go_wp2_with (at_builtin; refine wp_app1S rfl rfl .i64 3 8 Tryd.underlying22 info_int (1 - y) rfl (hs.alloc _) rfl (World.cell?_alloc_at _ _ _ _ rfl) (by simp; omega) (by simp; unfold maxLen; omega) ?_; intro v2 w2 hs)
             go_roundw
             case rel => exact ⟨0 + 1, by decide, rfl, by rw [HT.out, HW.out]; exact hs⟩
             case measure => simp [intOf])
        · rw [if_neg he] at hw
          have hb : ((3 : Int) == (S : Int)) = false := by rw [beq_eq_false_iff_ne]; omega
          have HW := Lib.hid hw
          clear hw hkl
          go_wp2_with (at_builtin; refine wp_app1S rfl rfl .i64 3 8 Tryd.underlying22 info_int y rfl (hs.alloc _) rfl (World.cell?_alloc_at _ _ _ _ rfl) (by simp; omega) (by simp; unfold maxLen; omega) ?_; intro v2 w2 hs)
          go_roundw
          case rel => exact ⟨0 + 1, by decide, rfl, by rw [HT.out, HW.out]; exact hs⟩
          case measure => simp [intOf]
      · obtain ⟨b, off, rfl, hc⟩ := RdK.at_ (show RdI wr _ ws from hs.p1) (i := 4) (by rw [HL.out]; decide)
        have hy := HX.out 4 (by decide)
        have hw := HWD.out 4
        have hix := fun w => idxD1 w
        rw [show ((1 : Nat) : Int) = 1 from rfl]
        have HT : Hid (xs ++ (wdL (gi ws)).take (1 + 1) = xs ++ (wdL (gi ws)).take 1 ++ [wdF (gi ws) 4]) := Lib.hid (by simp [wdL])
        have b0 : (4 : Int) < (ws.length : Int) := by rw [HL.out]; decide
        obtain ⟨y, hye⟩ : ∃ y, gi ws 4 = y := ⟨_, rfl⟩
        rw [hye] at hc hy hw
        clear hye
        have hwr : IntKind.i64.wrap (1 - y) = 1 - y := IntWalk.i64_in _ (by omega)
        by_cases he : 4 + 1 = S
        · first
          | exact absurd he (by omega)
          | (rw [if_pos he] at hw
             have hb : ((5 : Int) == (S : Int)) = true := by rw [beq_iff_eq]; omega
             have HW := Lib.hid hw
             clear hw hkl
             go_wp2_with (at_builtin; refine wp_app1S rfl rfl .i64 3 8 Tryd.underlying22 info_int (1 - y) rfl (hs.alloc _) rfl (World.cell?_alloc_at _ _ _ _ rfl) (by simp; omega) (by simp; unfold maxLen; omega) ?_; intro v2 w2 hs)
             go_roundw
             case rel => exact ⟨1 + 1, by decide, rfl, by rw [HT.out, HW.out]; exact hs⟩
             case measure => simp [intOf])
        · rw [if_neg he] at hw
          have hb : ((5 : Int) == (S : Int)) = false := by rw [beq_eq_false_iff_ne]; omega
          have HW := Lib.hid hw
          clear hw hkl
          go_wp2_with (at_builtin; refine wp_app1S rfl rfl .i64 3 8 Tryd.underlying22 info_int y rfl (hs.alloc _) rfl (World.cell?_alloc_at _ _ _ _ rfl) (by simp; omega) (by simp; unfold maxLen; omega) ?_; intro v2 w2 hs)
          go_roundw
          case rel => exact ⟨1 + 1, by decide, rfl, by rw [HT.out, HW.out]; exact hs⟩
          case measure => simp [intOf]
      · obtain ⟨b, off, rfl, hc⟩ := RdK.at_ (show RdI wr _ ws from hs.p1) (i := 5) (by rw [HL.out]; decide)
        have hy := HX.out 5 (by decide)
        have hw := HWD.out 5
        have hix := fun w => idxD2 w
        rw [show ((2 : Nat) : Int) = 2 from rfl]
        have HT : Hid (xs ++ (wdL (gi ws)).take (2 + 1) = xs ++ (wdL (gi ws)).take 2 ++ [wdF (gi ws) 5]) := Lib.hid (by simp [wdL])
        have b0 : (5 : Int) < (ws.length : Int) := by rw [HL.out]; decide
        obtain ⟨y, hye⟩ : ∃ y, gi ws 5 = y := ⟨_, rfl⟩
        rw [hye] at hc hy hw
        clear hye
        have hwr : IntKind.i64.wrap (1 - y) = 1 - y := IntWalk.i64_in _ (by omega)
        by_cases he : 5 + 1 = S
        · first
          | exact absurd he (by omega)
          | (rw [if_pos he] at hw
             have hb : ((6 : Int) == (S : Int)) = true := by rw [beq_iff_eq]; omega
             have HW := Lib.hid hw
             clear hw hkl
             go_wp2_with (at_builtin; refine wp_app1S rfl rfl .i64 3 8 Tryd.underlying22 info_int (1 - y) rfl (hs.alloc _) rfl (World.cell?_alloc_at _ _ _ _ rfl) (by simp; omega) (by simp; unfold maxLen; omega) ?_; intro v2 w2 hs)
             go_roundw
             case rel => exact ⟨2 + 1, by decide, rfl, by rw [HT.out, HW.out]; exact hs⟩
             case measure => simp [intOf])
        · rw [if_neg he] at hw
          have hb : ((6 : Int) == (S : Int)) = false := by rw [beq_eq_false_iff_ne]; omega
          have HW := Lib.hid hw
          clear hw hkl
          go_wp2_with (at_builtin; refine wp_app1S rfl rfl .i64 3 8 Tryd.underlying22 info_int y rfl (hs.alloc _) rfl (World.cell?_alloc_at _ _ _ _ rfl) (by simp; omega) (by simp; unfold maxLen; omega) ?_; intro v2 w2 hs)
          go_roundw
          case rel => exact ⟨2 + 1, by decide, rfl, by rw [HT.out, HW.out]; exact hs⟩
          case measure => simp [intOf]
      · obtain ⟨b, off, rfl, hc⟩ := RdK.at_ (show RdI wr _ ws from hs.p1) (i := 6) (by rw [HL.out]; decide)
        have hy := HX.out 6 (by decide)
        have hw := HWD.out 6
        have hix := fun w => idxD3 w
        rw [show ((3 : Nat) : Int) = 3 from rfl]
        have HT : Hid (xs ++ (wdL (gi ws)).take (3 + 1) = xs ++ (wdL (gi ws)).take 3 ++ [wdF (gi ws) 6]) := Lib.hid (by simp [wdL])
        have b0 : (6 : Int) < (ws.length : Int) := by rw [HL.out]; decide
        obtain ⟨y, hye⟩ : ∃ y, gi ws 6 = y := ⟨_, rfl⟩
        rw [hye] at hc hy hw
        clear hye
        have hwr : IntKind.i64.wrap (1 - y) = 1 - y := IntWalk.i64_in _ (by omega)
        by_cases he : 6 + 1 = S
        · first
          | exact absurd he (by omega)
          | (rw [if_pos he] at hw
             have hb : ((7 : Int) == (S : Int)) = true := by rw [beq_iff_eq]; omega
             have HW := Lib.hid hw
             clear hw hkl
             go_wp2_with (at_builtin; refine wp_app1S rfl rfl .i64 3 8 Tryd.underlying22 info_int (1 - y) rfl (hs.alloc _) rfl (World.cell?_alloc_at _ _ _ _ rfl) (by simp; omega) (by simp; unfold maxLen; omega) ?_; intro v2 w2 hs)
             go_roundw
             case rel => exact ⟨3 + 1, by decide, rfl, by rw [HT.out, HW.out]; exact hs⟩
             case measure => simp [intOf])
        · rw [if_neg he] at hw
          have hb : ((7 : Int) == (S : Int)) = false := by rw [beq_eq_false_iff_ne]; omega
          have HW := Lib.hid hw
          clear hw hkl
          go_wp2_with (at_builtin; refine wp_app1S rfl rfl .i64 3 8 Tryd.underlying22 info_int y rfl (hs.alloc _) rfl (World.cell?_alloc_at _ _ _ _ rfl) (by simp; omega) (by simp; unfold maxLen; omega) ?_; intro v2 w2 hs)
          go_roundw
          case rel => exact ⟨3 + 1, by decide, rfl, by rw [HT.out, HW.out]; exact hs⟩
          case measure => simp [intOf]
      · go_wp2
        go_ret2
        exact ⟨_, by rw [HWN.out]; (first | rw [if_pos hS] | rw [if_neg hS]); rfl, hs⟩
  case neg =>
    have hS1 : ((S : Int) != 0) = decide (1 = 1) := by first | (rw [hS]; rfl) | (rw [bne_iff_ne]; omega) | (simp; omega)
    go_wp2
    clear c0 c1 c2 c3
    go_loopw [0, 9, 10, 16] (fun o _ _ i wr => ∃ k : Nat, k ≤ 4 ∧ i = .int .i64 k ∧ SH row w0 wr (ownP .i64 3 o (xs ++ (wdL (gi ws)).take k) :: rdP .i64 (.slice aw ws.length cw) ws :: rdP .i64 (.slice (some ⟨0, 0, none⟩) 4 4) dpL :: I)) (fun _ _ _ i _ => 4 - (intOf i).toNat)
    case atStart => exact ⟨0, by decide, rfl, by rw [List.take_zero, List.append_nil]; exact hs⟩
    case round =>
      clear hs
      obtain ⟨k, hk, rfl, hs⟩ := hrel
      have hkl : (xs ++ (wdL (gi ws)).take k).length = xs.length + k := by rw [List.length_append, List.length_take]; simp [wdL]; omega
      obtain ⟨ao, co, rfl, -⟩ := (OwnK.rd hs.p0).form
      rw [hkl] at hs ⊢
      obtain rfl | rfl | rfl | rfl | rfl : k = 0 ∨ k = 1 ∨ k = 2 ∨ k = 3 ∨ k = 4 := by omega
      · obtain ⟨b, off, rfl, hc⟩ := RdK.at_ (show RdI wr _ ws from hs.p1) (i := 2) (by rw [HL.out]; decide)
        have hy := HX.out 2 (by decide)
        have hw := HWD.out 2
        have hix := fun w => idxD0 w
        rw [show ((0 : Nat) : Int) = 0 from rfl]
        have HT : Hid (xs ++ (wdL (gi ws)).take (0 + 1) = xs ++ (wdL (gi ws)).take 0 ++ [wdF (gi ws) 2]) := Lib.hid (by simp [wdL])
        have b0 : (2 : Int) < (ws.length : Int) := by rw [HL.out]; decide
        obtain ⟨y, hye⟩ : ∃ y, gi ws 2 = y := ⟨_, rfl⟩
        rw [hye] at hc hy hw
        clear hye
        have hwr : IntKind.i64.wrap (1 - y) = 1 - y := IntWalk.i64_in _ (by omega)
        by_cases he : 2 + 1 = S
        · first
          | exact absurd he (by omega)
          | (rw [if_pos he] at hw
             have hb : ((3 : Int) == (S : Int)) = true := by rw [beq_iff_eq]; omega
             have HW := Lib.hid hw
             clear hw hkl
             go_wp2_with (at_builtin; refine wp_app1S rfl rfl .i64 3 8 Tryd.underlying22 info_int (1 - y) rfl (hs.alloc _) rfl (World.cell?_alloc_at _ _ _ _ rfl) (by simp; omega) (by simp; unfold maxLen; omega) ?_; intro v2 w2 hs)
             go_roundw
             case rel => exact ⟨0 + 1, by decide, rfl, by rw [HT.out, HW.out]; exact hs⟩
             case measure => simp [intOf])
        · rw [if_neg he] at hw
          have hb : ((3 : Int) == (S : Int)) = false := by rw [beq_eq_false_iff_ne]; omega
          have HW := Lib.hid hw
          clear hw hkl
          go_wp2_with (at_builtin; refine wp_app1S rfl rfl .i64 3 8 Tryd.underlying22 info_int y rfl (hs.alloc _) rfl (World.cell?_alloc_at _ _ _ _ rfl) (by simp; omega) (by simp; unfold maxLen; omega) ?_; intro v2 w2 hs)
          go_roundw
          case rel => exact ⟨0 + 1, by decide, rfl, by rw [HT.out, HW.out]; exact hs⟩
          case measure => simp [intOf]
      · obtain ⟨b, off, rfl, hc⟩ := RdK.at_ (show RdI wr _ ws from hs.p1) (i := 4) (by rw [HL.out]; decide)
        have hy := HX.out 4 (by decide)
        have hw := HWD.out 4
        have hix := fun w => idxD1 w
        rw [show ((1 : Nat) : Int) = 1 from rfl]
        have HT : Hid (xs ++ (wdL (gi ws)).take (1 + 1) = xs ++ (wdL (gi ws)).take 1 ++ [wdF (gi ws) 4]) := Lib.hid (by simp [wdL])
        have b0 : (4 : Int) < (ws.length : Int) := by rw [HL.out]; decide
        obtain ⟨y, hye⟩ : ∃ y, gi ws 4 = y := ⟨_, rfl⟩
        rw [hye] at hc hy hw
        clear hye
        have hwr : IntKind.i64.wrap (1 - y) = 1 - y := IntWalk.i64_in _ (by omega)
        by_cases he : 4 + 1 = S
        · first
          | exact absurd he (by omega)
          | (rw [if_pos he] at hw
             have hb : ((5 : Int) == (S : Int)) = true := by rw [beq_iff_eq]; omega
             have HW := Lib.hid hw
             clear hw hkl
             go_wp2_with (at_builtin; refine wp_app1S rfl rfl .i64 3 8 Tryd.underlying22 info_int (1 - y) rfl (hs.alloc _) rfl (World.cell?_alloc_at _ _ _ _ rfl) (by simp; omega) (by simp; unfold maxLen; omega) ?_; intro v2 w2 hs)
             go_roundw
             case rel => exact ⟨1 + 1, by decide, rfl, by rw [HT.out, HW.out]; exact hs⟩
             case measure => simp [intOf])
        · rw [if_neg he] at hw
          have hb : ((5 : Int) == (S : Int)) = false := by rw [beq_eq_false_iff_ne]; omega
          have HW := Lib.hid hw
          clear hw hkl
          go_wp2_with (at_builtin; refine wp_app1S rfl rfl .i64 3 8 Tryd.underlying22 info_int y rfl (hs.alloc _) rfl (World.cell?_alloc_at _ _ _ _ rfl) (by simp; omega) (by simp; unfold maxLen; omega) ?_; intro v2 w2 hs)
          go_roundw
          case rel => exact ⟨1 + 1, by decide, rfl, by rw [HT.out, HW.out]; exact hs⟩
          case measure => simp [intOf]
      · obtain ⟨b, off, rfl, hc⟩ := RdK.at_ (show RdI wr _ ws from hs.p1) (i := 5) (by rw [HL.out]; decide)
        have hy := HX.out 5 (by decide)
        have hw := HWD.out 5
        have hix := fun w => idxD2 w
        rw [show ((2 : Nat) : Int) = 2 from rfl]
        have HT : Hid (xs ++ (wdL (gi ws)).take (2 + 1) = xs ++ (wdL (gi ws)).take 2 ++ [wdF (gi ws) 5]) := Lib.hid (by simp [wdL])
        have b0 : (5 : Int) < (ws.length : Int) := by rw [HL.out]; decide
        obtain ⟨y, hye⟩ : ∃ y, gi ws 5 = y := ⟨_, rfl⟩
        rw [hye] at hc hy hw
        clear hye
        have hwr : IntKind.i64.wrap (1 - y) = 1 - y := IntWalk.i64_in _ (by omega)
        by_cases he : 5 + 1 = S
        · first
          | exact absurd he (by omega)
          | (rw [if_pos he] at hw
             have hb : ((6 : Int) == (S : Int)) = true := by rw [beq_iff_eq]; omega
             have HW := Lib.hid hw
             clear hw hkl
             go_wp2_with (at_builtin; refine wp_app1S rfl rfl .i64 3 8 Tryd.underlying22 info_int (1 - y) rfl (hs.alloc _) rfl (World.cell?_alloc_at _ _ _ _ rfl) (by simp; omega) (by simp; unfold maxLen; omega) ?_; intro v2 w2 hs)
             go_roundw
             case rel => exact ⟨2 + 1, by decide, rfl, by rw [HT.out, HW.out]; exact hs⟩
             case measure => simp [intOf])
        · rw [if_neg he] at hw
          have hb : ((6 : Int) == (S : Int)) = false := by rw [beq_eq_false_iff_ne]; omega
          have HW := Lib.hid hw
          clear hw hkl
          go_wp2_with (at_builtin; refine wp_app1S rfl rfl .i64 3 8 Tryd.underlying22 info_int y rfl (hs.alloc _) rfl (World.cell?_alloc_at _ _ _ _ rfl) (by simp; omega) (by simp; unfold maxLen; omega) ?_; intro v2 w2 hs)
          go_roundw
          case rel => exact ⟨2 + 1, by decide, rfl, by rw [HT.out, HW.out]; exact hs⟩
          case measure => simp [intOf]
      · obtain ⟨b, off, rfl, hc⟩ := RdK.at_ (show RdI wr _ ws from hs.p1) (i := 6) (by rw [HL.out]; decide)
        have hy := HX.out 6 (by decide)
        have hw := HWD.out 6
        have hix := fun w => idxD3 w
        rw [show ((3 : Nat) : Int) = 3 from rfl]
        have HT : Hid (xs ++ (wdL (gi ws)).take (3 + 1) = xs ++ (wdL (gi ws)).take 3 ++ [wdF (gi ws) 6]) := Lib.hid (by simp [wdL])
        have b0 : (6 : Int) < (ws.length : Int) := by rw [HL.out]; decide
        obtain ⟨y, hye⟩ : ∃ y, gi ws 6 = y := ⟨_, rfl⟩
        rw [hye] at hc hy hw
        clear hye
        have hwr : IntKind.i64.wrap (1 - y) = 1 - y := IntWalk.i64_in _ (by omega)
        by_cases he : 6 + 1 = S
        · first
          | exact absurd he (by omega)
          | (rw [if_pos he] at hw
             have hb : ((7 : Int) == (S : Int)) = true := by rw [beq_iff_eq]; omega
             have HW := Lib.hid hw
             clear hw hkl
             go_wp2_with (at_builtin; refine wp_app1S rfl rfl .i64 3 8 Tryd.underlying22 info_int (1 - y) rfl (hs.alloc _) rfl (World.cell?_alloc_at _ _ _ _ rfl) (by simp; omega) (by simp; unfold maxLen; omega) ?_; intro v2 w2 hs)
             go_roundw
             case rel => exact ⟨3 + 1, by decide, rfl, by rw [HT.out, HW.out]; exact hs⟩
             case measure => simp [intOf])
        · rw [if_neg he] at hw
          have hb : ((7 : Int) == (S : Int)) = false := by rw [beq_eq_false_iff_ne]; omega
          have HW := Lib.hid hw
          clear hw hkl
          go_wp2_with (at_builtin; refine wp_app1S rfl rfl .i64 3 8 Tryd.underlying22 info_int y rfl (hs.alloc _) rfl (World.cell?_alloc_at _ _ _ _ rfl) (by simp; omega) (by simp; unfold maxLen; omega) ?_; intro v2 w2 hs)
          go_roundw
          case rel => exact ⟨3 + 1, by decide, rfl, by rw [HT.out, HW.out]; exact hs⟩
          case measure => simp [intOf]
      · go_wp2
        go_ret2
        exact ⟨_, by rw [HWN.out]; (first | rw [if_pos hS] | rw [if_neg hS]); rfl, hs⟩
end Go.Proofs.YtpcmfmkpgidgpaaDoor
