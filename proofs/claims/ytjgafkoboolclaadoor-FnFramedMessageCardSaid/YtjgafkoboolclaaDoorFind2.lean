import Derived.Test.YtjgafkoboolclaaDoorProg
import Derived.Test.YtjgafkoboolclaaDoorLib
import Derived.Test.YtjgafkoboolclaaDoorMem
import Derived.Test.YtjgafkoboolclaaDoorNum
import Derived.Test.YtjgafkoboolclaaDoorSym
import Derived.Test.YtjgafkoboolclaaDoorInts
import Derived.Test.YtjgafkoboolclaaDoorApp
import Derived.Test.YtjgafkoboolclaaDoorBlk
import Derived.Test.YtjgafkoboolclaaDoorSS
import Derived.Test.YtjgafkoboolclaaDoorStuff
import Derived.Test.YtjgafkoboolclaaDoorFlag
import Derived.Test.YtjgafkoboolclaaDoorRead
import Derived.Test.YtjgafkoboolclaaDoorRed
import Derived.Test.YtjgafkoboolclaaDoorRed2
import Derived.Test.YtjgafkoboolclaaDoorFind
namespace Go.Proofs.YtjgafkoboolclaaDoor
open Go.RowKit

def btwF (bs : List Int) (a k : Nat) : List (List Int) := if fbB ((bs.drop a).take (k - a)) then [fbL ((bs.drop a).take (k - a))] else []
/-- FindFrames -/
def ffV (bs : List Int) : List (List Int) := if bitsB bs then (ffS bs (btwF bs) bs.length).2 else []
theorem fbL_len (ys : List Int) : (fbL ys).length ≤ 256 := by
  unfold fbL
  split
  · next h =>
    unfold fbB at h
    simp only [Bool.and_eq_true, decide_eq_true_eq] at h
    rw [List.length_take]; omega
  · simp
theorem ffS_len (bs : List Int) : ∀ k, (ffS bs (btwF bs) k).2.length ≤ k
  | 0 => by simp [ffS]
  | k + 1 => by
    have ih := ffS_len bs k
    simp only [ffS]
    split
    · cases (ffS bs (btwF bs) k).1 with
      | none => simp; omega
      | some l =>
        simp only []
        split
        · rw [List.length_append]
          have : (btwF bs (l + 8) k).length ≤ 1 := by unfold btwF; split <;> simp
          omega
        · omega
    · omega
def bfI : Option Nat → Int
  | none => -1
  | some l => (l : Int) + 8
theorem RdK.subR {k : IntKind} {w : World} {b off n cap : Nat} {xs : List Int} (h : RdK k w (.slice (some ⟨b, off, none⟩) n cap) xs) {i m : Nat} (hm : i + m ≤ n) : RdK k w (.slice (some ⟨b, off + i, none⟩) m (cap - i)) ((xs.drop i).take m) := by
  obtain ⟨ad, cp, hv, hl, hmx, hc⟩ := h
  obtain ⟨rfl, rfl, rfl⟩ := Value.slice.inj hv
  have e : ((xs.drop i).take m).length = m := by simp; omega
  refine ⟨some ⟨b, off + i, none⟩, cap - i, by rw [e], by omega, by omega, fun j hj => ?_⟩
  rw [e] at hj
  obtain ⟨b', o', hx, hcell⟩ := hc (i + j) (by omega)
  simp only [Option.some.injEq, Addr.mk.injEq, and_true] at hx
  obtain ⟨rfl, rfl⟩ := hx
  refine ⟨b, off + i, rfl, ?_⟩
  rw [Nat.add_assoc, hcell]
  have e2 : gi ((xs.drop i).take m) j = gi xs (i + j) := by simp [gi, hj]
  rw [e2]
section
variable {row : Option Nat} {w0 w : World} {I : List Part}
theorem gl_left {xss : List (List Int)} {r : List Int} {i : Nat} (h : i < xss.length) : gl (xss ++ [r]) i = gl xss i := by
  unfold gl; rw [List.getD_eq_getElem?_getD, List.getElem?_append_left h, List.getD_eq_getElem?_getD]
theorem gl_end (xss : List (List Int)) (r : List Int) : gl (xss ++ [r]) xss.length = r := by
  unfold gl; rw [List.getD_eq_getElem?_getD, List.getElem?_append_right (Nat.le_refl _), Nat.sub_self]; rfl
theorem SH.pushRow {t : TypeId} {v : Value} {xs : List Int} {vs : Nat → Value} {xss : List (List Int)} (h : SH row w0 w (ownP .i64 t v xs :: innP t vs xss xss.length :: I)) :
    SH row w0 w (innP t (updV vs xss.length v) (xss ++ [xs]) (xss ++ [xs]).length :: I) := by
  have h1 := h.bring1
  have h2 : SH row w0 w (innP t vs (xss ++ [xs]) xss.length :: ownP .i64 t v xs :: I) :=
    h1.as (q := innP t vs (xss ++ [xs]) xss.length) ⟨fun i hi => by rw [gl_left hi]; exact h1.p0.1 i hi, h1.p0.2⟩ (fun _ h => h) (fun _ h => h)
  have h3 := h2.bring1.pushInn (gl_end xss xs)
  rwa [show xss.length + 1 = (xss ++ [xs]).length by simp] at h3
end
set_option maxRecDepth 100000 in
set_option maxHeartbeats 4000000 in
theorem implFind_c (va : Value) (xs : List Int) (w : World) (h : RdI w va xs) :
    Calls Tryd.prog 17 #[va] w (fun e w' => ∃ v : Value, e = .returned v ∧ ∃ vs : Nat → Value, SH none w w' [ownMP 1 22 v (ffV xs).length (oneC vs), innP 3 vs (ffV xs) (ffV xs).length]) := by
  obtain ⟨a, ca, rfl, mc, mx⟩ := h.form'
  have hs := SH.start w [rdP .i64 (.slice a xs.length ca) xs] (by simp only [List.forall_mem_cons]; exact ⟨⟨h, rdP_wr⟩, by simp⟩)
  clear h
  cases hv : bitsB xs
  · have HF : Hid (ffV xs = []) := by unfold Hid ffV; rw [hv]; rfl
    go_enter Tryd.func17, Tryd.ntmps17
    go_wp2_with fail
    refine (SH.quiet hs (by repeat' (first | with_reducible exact Below.refl _ _ | with_reducible assumption | with_reducible refine below_drewN ?_ _ | with_reducible refine Below.drew ?_ | with_reducible refine Below.alloc ?_ ?_ _ | with_reducible refine Below.setCell ?_ ?_ _ | go_size)) fun hs => implBitsValid_c _ xs _ hs.p0).mono ?_
    rintro e w1 ⟨rfl, hs⟩
    rw [hv]
    go_wp2
    go_ret
    refine ⟨_, rfl, fun _ => undef, ?_⟩
    rw [HF.out]
    exact (hs.drop0.inn0 3 (fun _ => undef) []).ownNilM 1 _ _
  obtain ⟨hl, hx⟩ := bitsB_true.1 hv
  have HX := Lib.hid hx
  have HF : Hid (ffV xs = (ffS xs (btwF xs) xs.length).2) := by unfold Hid ffV; rw [hv]; rfl
  clear hx
  go_enter Tryd.func17, Tryd.ntmps17
  go_wp2_with fail
  refine (SH.quiet hs (by repeat' (first | with_reducible exact Below.refl _ _ | with_reducible assumption | with_reducible refine below_drewN ?_ _ | with_reducible refine Below.drew ?_ | with_reducible refine Below.alloc ?_ ?_ _ | with_reducible refine Below.setCell ?_ ?_ _ | go_size)) fun hs => implBitsValid_c _ xs _ hs.p0).mono ?_
  rintro e w1 ⟨rfl, hs⟩
  rw [hv]
  have hs := (hs.inn0 3 (fun _ => undef) []).ownNilM 1 22 (oneC (fun _ => undef))
  clear hv
  go_wp2
  go_loopw [3, 4, 5, 16] (fun f bf rc i wr => ∃ (k R : Nat) (B : Int) (xss : List (List Int)) (ws : Nat → Value), k ≤ xs.length ∧ i = .int .i64 k ∧ rc = .int .i64 (R : Int) ∧ R < 256 ∧ Hid (rcN xs k = (R : Int)) ∧ bf = .int .i64 B ∧ Hid (B = bfI (ffS xs (btwF xs) (k - 7)).1) ∧ Hid (xss = (ffS xs (btwF xs) (k - 7)).2) ∧ SH none w wr [ownMP 1 22 f xss.length (oneC ws), innP 3 ws xss xss.length, rdP .i64 (.slice a xs.length ca) xs]) (fun _ _ _ i _ => xs.length - (intOf i).toNat)
  case atStart => exact ⟨0, 0, -1, [], _, Nat.zero_le _, rfl, rfl, by decide, Lib.hid rfl, rfl, Lib.hid rfl, Lib.hid rfl, hs⟩
  case round =>
    clear hs
    obtain ⟨k, R, B, xss, ws, hk, rfl, rfl, hR, HR, rfl, HB, HXS, hs⟩ := hrel
    by_cases hlt : k < xs.length
    · obtain ⟨b, off, rfl, hc⟩ := (SH.p2 hs : RdK _ _ _ _).at_ hlt
      obtain ⟨y, hy⟩ : ∃ y : Nat, gi xs k = (y : Int) ∧ y ≤ 1 := ⟨(gi xs k).toNat, by have := HX.out k hlt; omega, by have := HX.out k hlt; omega⟩
      have HY := Lib.hid hy.1
      have hy1 := hy.2
      rw [hy.1] at hc
      clear hy
      obtain ⟨V, hV⟩ : ∃ V, R * 2 + y = V := ⟨_, rfl⟩
      have ho : bits .or .i64 ((R : Int) * 2) (y : Int) = (V : Int) := by rw [← hV]; exact or_even 1 (by omega) (by omega)
      have hV2 : V < 1024 := by omega
      obtain ⟨Q, hQ⟩ : ∃ Q, V % 256 = Q := ⟨_, rfl⟩
      have hQ2 : Q < 256 := by omega
      have ha : bits .and .i64 (V : Int) 255 = (Q : Int) := by
        rw [show (255 : Int) = ((255 : Nat) : Int) from rfl, and_nat _ _ (by omega) (by decide), ← hQ]
        congr 1
        exact Nat.and_two_pow_sub_one_eq_mod V 8
      have HR1 : Hid (rcN xs (k + 1) = (Q : Int)) := by
        unfold Hid
        simp only [rcN]
        rw [HR.out, HY.out]
        omega
      clear hV hQ
      by_cases h7 : k < 7
      · have HK7 : Hid (k + 1 - 7 = k - 7) := Lib.hid (by omega)
        go_wp2
        go_roundw
        case rel => exact ⟨k + 1, Q, B, xss, ws, hlt, by go_num, rfl, hQ2, HR1, rfl, by rw [HK7.out]; exact HB, by rw [HK7.out]; exact HXS, hs⟩
        case measure => simp [intOf]; omega
      · obtain ⟨p, rfl⟩ : ∃ p, k = p + 7 := ⟨k - 7, by omega⟩
        have HFL : Hid (((Q : Int) == 126) = flagAt xs p) := by
          have h := rc_flag (bs := xs) (k := p) HX.out (by omega)
          rw [show p + 8 = p + 7 + 1 from rfl, HR1.out] at h
          exact h
        cases hf : flagAt xs p
        · have e : ((Q : Int) != 126) = true := by
            have h := HFL.out
            rw [hf] at h
            simp only [bne, h]; rfl
          have HS1 : Hid (ffS xs (btwF xs) (p + 7 + 1 - 7) = ffS xs (btwF xs) (p + 7 - 7)) := by
            rw [show p + 7 + 1 - 7 = p + 1 by omega, show p + 7 - 7 = p by omega]
            unfold Hid
            simp only [ffS]
            rw [hf]; rfl
          clear h7
          go_wp2
          go_roundw
          case rel => exact ⟨p + 7 + 1, Q, B, xss, ws, hlt, by go_num, rfl, hQ2, HR1, rfl, by rw [HS1.out]; exact HB, by rw [HS1.out]; exact HXS, hs⟩
          case measure => simp [intOf]; omega
        · have e : ((Q : Int) != 126) = false := by
            have h := HFL.out
            rw [hf] at h
            simp only [bne, h]; rfl
          have e7 : p + 7 - 7 = p := by omega
          have e71 : p + 7 + 1 - 7 = p + 1 := by omega
          rw [e7] at HB HXS
          clear e7 h7
          cases hl2 : (ffS xs (btwF xs) p).1 with
          | none =>
            obtain rfl : B = -1 := by rw [HB.out, hl2]; rfl
            have HS1 : Hid (ffS xs (btwF xs) (p + 7 + 1 - 7) = (some p, (ffS xs (btwF xs) p).2)) := by
              rw [e71]; unfold Hid; simp only [ffS]; rw [hf, hl2]; rfl
            clear hl2 e71
            go_wp2
            go_roundw
            case rel => exact ⟨p + 7 + 1, Q, (p : Int) + 8, xss, ws, hlt, by go_num, rfl, hQ2, HR1, intv (by omega), by rw [HS1.out]; exact Lib.hid rfl, by rw [HS1.out]; exact HXS, hs⟩
            case measure => simp [intOf]; omega
          | some l =>
            have hlp := ffS_lt hl2
            obtain rfl : B = (l : Int) + 8 := by rw [HB.out, hl2]; rfl
            by_cases h8 : l + 8 ≤ p
            · obtain ⟨sub, hsub⟩ : ∃ s, (xs.drop (l + 8)).take (p - (l + 8)) = s := ⟨_, rfl⟩
              have HSUB := Lib.hid (show RdI wr (.slice (some ⟨b, off + (l + 8), none⟩) (p - (l + 8)) (ca - (l + 8))) sub by rw [← hsub]; exact RdK.subR (SH.p2 hs : RdK _ _ _ _) (by omega))
              have hsl : sub.length ≤ 1048576 := by rw [← hsub, List.length_take]; omega
              have HS0 : Hid (ffS xs (btwF xs) (p + 7 + 1 - 7) = (some p, (ffS xs (btwF xs) p).2 ++ if fbB sub then [fbL sub] else [])) := by
                rw [e71]; unfold Hid; simp only [ffS]; rw [hf, hl2]
                simp only [if_true, h8]
                unfold btwF
                rw [hsub]
              have hcl : ¬ ca = l + 8 := by omega
              clear hl2 e71 hsub
              go_wp2_with fail
              refine (SH.ownT (xs := fbL sub) (b := fbB sub) hs (by repeat' (first | with_reducible exact Below.refl _ _ | with_reducible assumption | with_reducible refine below_drewN ?_ _ | with_reducible refine Below.drew ?_ | with_reducible refine Below.alloc ?_ ?_ _ | with_reducible refine Below.setCell ?_ ?_ _ | go_size)) fun hs => frameBetween_c _ sub _ HSUB.out hsl).mono ?_
              rintro e w2 ⟨vc, rfl, hs⟩
              obtain ⟨avc, cvc, rfl, -⟩ := (OwnK.rd hs.p0).form
              have hxl : xss.length ≤ p := by rw [HXS.out]; exact ffS_len xs p
              cases hfb : fbB sub
              · have HS1 : Hid (ffS xs (btwF xs) (p + 7 + 1 - 7) = (some p, (ffS xs (btwF xs) p).2)) := by
                  unfold Hid; rw [HS0.out, hfb]; simp
                have hs := hs.drop0
                clear hfb
                go_wp2
                go_roundw
                case rel => exact ⟨p + 7 + 1, Q, (p : Int) + 8, xss, ws, hlt, by go_num, rfl, hQ2, HR1, intv (by omega), by rw [HS1.out]; exact Lib.hid rfl, by rw [HS1.out]; exact HXS, hs⟩
                case measure => simp [intOf]; omega
              · have HS1 : Hid (ffS xs (btwF xs) (p + 7 + 1 - 7) = (some p, (ffS xs (btwF xs) p).2 ++ [fbL sub])) := by
                  unfold Hid; rw [HS0.out, hfb]; simp
                clear hfb
                go_wp2_with (at_builtin; refine wp_app1MS rfl rfl 22 24 1 (.slice none 0 0) Tryd.underlying30 info_row rfl (by decide) (fun _ => .slice avc (fbL sub).length cvc) rfl (hs.bring1.alloc _) rfl (fun j hj => by obtain rfl : j = 0 := (by omega); exact World.cell?_alloc_at _ _ _ _ rfl) (fun j hj => rfl) (by omega) (by unfold maxLen; omega) ?_; intro v4 w4 hs4)
                have hs := hs4.congrM (c' := oneC (updV ws xss.length (.slice avc (fbL sub).length cvc))) (fun i j hi hj => by
                  by_cases e : i = xss.length
                  · simp only [oneC, updC, updV, if_pos e]
                  · simp only [oneC, updC, updV, if_neg e])
                rw [show xss.length + 1 = (xss ++ [fbL sub]).length by simp] at hs
                have hs := hs.bring2.bring2.pushRow.bring1
                go_roundw
                case rel => exact ⟨p + 7 + 1, Q, (p : Int) + 8, xss ++ [fbL sub], _, hlt, by go_num, rfl, hQ2, HR1, intv (by omega), by rw [HS1.out]; exact Lib.hid rfl, by rw [HS1.out, HXS.out]; exact Lib.hid rfl, hs⟩
                case measure => simp [intOf]; omega
            · have HS1 : Hid (ffS xs (btwF xs) (p + 7 + 1 - 7) = (some p, (ffS xs (btwF xs) p).2)) := by
                rw [e71]; unfold Hid; simp only [ffS]; rw [hf, hl2]
                simp only [if_true, if_neg h8]
              clear hl2 e71
              go_wp2
              go_roundw
              case rel => exact ⟨p + 7 + 1, Q, (p : Int) + 8, xss, ws, hlt, by go_num, rfl, hQ2, HR1, intv (by omega), by rw [HS1.out]; exact Lib.hid rfl, by rw [HS1.out]; exact HXS, hs⟩
              case measure => simp [intOf]; omega
    · obtain rfl : k = xs.length := by omega
      have HE : Hid ((ffS xs (btwF xs) (xs.length - 7)).2 = ffV xs) := by
        unfold Hid
        rw [HF.out]
        rcases Nat.lt_or_ge xs.length 7 with h | h
        · rw [ffS_far _ (by omega), ffS_far _ (by omega)]
        · have := ffS_end (bs := xs) (btw := btwF xs) (k := xs.length - 7) (by omega) 7
          rw [show xs.length - 7 + 7 = xs.length by omega] at this
          rw [this]
      go_wp2
      go_ret
      refine ⟨_, rfl, ws, ?_⟩
      rw [← HE.out, ← HXS.out]
      exact hs.drop2
set_option maxRecDepth 100000 in
set_option maxHeartbeats 4000000 in
theorem specFind_c (va : Value) (xs : List Int) (w : World) (h : RdI w va xs) :
    Calls Tryd.prog 19 #[va] w (fun e w' => ∃ v : Value, e = .returned v ∧ ∃ vs : Nat → Value, SH none w w' [ownMP 1 22 v (ffV xs).length (oneC vs), innP 3 vs (ffV xs) (ffV xs).length]) := by
  obtain ⟨a, ca, rfl, mc, mx⟩ := h.form'
  have hs := ((SH.start w [rdP .i64 (.slice a xs.length ca) xs] (by simp only [List.forall_mem_cons]; exact ⟨⟨h, rdP_wr⟩, by simp⟩)).inn0 3 (fun _ => undef) []).ownEmptyM 1 (by decide) 22 (oneC (fun _ => undef))
  clear h
  cases hv : bitsB xs
  · have HF : Hid (ffV xs = []) := by unfold Hid ffV; rw [hv]; rfl
    go_enter Tryd.func19, Tryd.ntmps19
    go_wp2_with fail
    refine (SH.quiet hs (by repeat' (first | with_reducible exact Below.refl _ _ | with_reducible assumption | with_reducible refine below_drewN ?_ _ | with_reducible refine Below.drew ?_ | with_reducible refine Below.alloc ?_ ?_ _ | with_reducible refine Below.setCell ?_ ?_ _ | go_size)) fun hs => specBitsValid_c _ xs _ hs.p2).mono ?_
    rintro e w1 ⟨rfl, hs⟩
    rw [hv]
    go_wp2
    go_ret
    refine ⟨_, rfl, fun _ => undef, ?_⟩
    rw [HF.out]
    exact hs.drop2
  obtain ⟨hl, hx⟩ := bitsB_true.1 hv
  have HX := Lib.hid hx
  have HF : Hid (ffV xs = (ffS xs (btwF xs) xs.length).2) := by unfold Hid ffV; rw [hv]; rfl
  clear hx
  go_enter Tryd.func19, Tryd.ntmps19
  go_wp2_with fail
  refine (SH.quiet hs (by repeat' (first | with_reducible exact Below.refl _ _ | with_reducible assumption | with_reducible refine below_drewN ?_ _ | with_reducible refine Below.drew ?_ | with_reducible refine Below.alloc ?_ ?_ _ | with_reducible refine Below.setCell ?_ ?_ _ | go_size)) fun hs => specBitsValid_c _ xs _ hs.p2).mono ?_
  rintro e w1 ⟨rfl, hs⟩
  rw [hv]
  clear hv
  go_wp2
  go_loopw [3, 4, 5] (fun f bf i wr => ∃ (p : Nat) (B : Int) (xss : List (List Int)) (ws : Nat → Value), p ≤ xs.length ∧ i = .int .i64 p ∧ bf = .int .i64 B ∧ Hid (B = bfI (ffS xs (btwF xs) p).1 - (match (ffS xs (btwF xs) p).1 with | none => 0 | some _ => 8)) ∧ Hid (xss = (ffS xs (btwF xs) p).2) ∧ SH none w wr [ownMP 1 22 f xss.length (oneC ws), innP 3 ws xss xss.length, rdP .i64 (.slice a xs.length ca) xs]) (fun _ _ i _ => xs.length - (intOf i).toNat)
  case atStart => exact ⟨0, -1, [], _, Nat.zero_le _, rfl, rfl, Lib.hid rfl, Lib.hid rfl, hs⟩
  case round =>
    clear hs
    obtain ⟨p, B, xss, ws, hk, rfl, rfl, HB, HXS, hs⟩ := hrel
    by_cases hlt : p < xs.length
    · go_wp2_with fail
      refine (SH.ret hs (by repeat' (first | with_reducible exact Below.refl _ _ | with_reducible assumption | with_reducible refine below_drewN ?_ _ | with_reducible refine Below.drew ?_ | with_reducible refine Below.alloc ?_ ?_ _ | with_reducible refine Below.setCell ?_ ?_ _ | go_size)) fun hs => l20FlagAt_c _ xs p _ hs.p2 (by omega) (by omega)).mono ?_
      rintro e w2 ⟨v2, rfl, rfl, hs⟩
      cases hf : flagAt xs p
      · have HS1 : Hid (ffS xs (btwF xs) (p + 1) = ffS xs (btwF xs) p) := by
          unfold Hid
          simp only [ffS]
          rw [hf]; rfl
        clear hf
        go_wp2
        go_roundw
        case rel => exact ⟨p + 1, B, xss, ws, hlt, by go_num, rfl, by rw [HS1.out]; exact HB, by rw [HS1.out]; exact HXS, hs⟩
        case measure => simp [intOf]; omega
      · cases hl2 : (ffS xs (btwF xs) p).1 with
        | none =>
          obtain rfl : B = -1 := by rw [HB.out, hl2]; rfl
          have HS1 : Hid (ffS xs (btwF xs) (p + 1) = (some p, (ffS xs (btwF xs) p).2)) := by
            unfold Hid; simp only [ffS]; rw [hf, hl2]; rfl
          clear hl2 hf
          go_wp2
          go_roundw
          case rel => exact ⟨p + 1, (p : Int), xss, ws, hlt, by go_num, rfl, by rw [HS1.out]; exact Lib.hid (by simp [bfI]), by rw [HS1.out]; exact HXS, hs⟩
          case measure => simp [intOf]; omega
        | some l =>
          have hlp := ffS_lt hl2
          obtain rfl : B = (l : Int) := by rw [HB.out, hl2]; simp [bfI]
          by_cases h8 : l + 8 ≤ p
          · obtain ⟨b, off, rfl, -⟩ := (SH.p2 hs : RdK _ _ _ _).at_ hlt
            obtain ⟨sub, hsub⟩ : ∃ s, (xs.drop (l + 8)).take (p - (l + 8)) = s := ⟨_, rfl⟩
            have HSUB := Lib.hid (show RdI w2 (.slice (some ⟨b, off + (l + 8), none⟩) (p - (l + 8)) (ca - (l + 8))) sub by rw [← hsub]; exact RdK.subR (SH.p2 hs : RdK _ _ _ _) (by omega))
            have hsl : sub.length ≤ 1048576 := by rw [← hsub, List.length_take]; omega
            have HS0 : Hid (ffS xs (btwF xs) (p + 1) = (some p, (ffS xs (btwF xs) p).2 ++ if fbB sub then [fbL sub] else [])) := by
              unfold Hid; simp only [ffS]; rw [hf, hl2]
              simp only [if_true, h8]
              unfold btwF
              rw [hsub]
            have hcl : ¬ ca = l + 8 := by omega
            clear hl2 hsub hf
            go_wp2_with fail
            refine (SH.ownT (xs := (unR sub).1) (b := (unR sub).2) hs (by repeat' (first | with_reducible exact Below.refl _ _ | with_reducible assumption | with_reducible refine below_drewN ?_ _ | with_reducible refine Below.drew ?_ | with_reducible refine Below.alloc ?_ ?_ _ | with_reducible refine Below.setCell ?_ ?_ _ | go_size)) fun hs => specUnstuffBits_c _ sub _ HSUB.out).mono ?_
            rintro e w3 ⟨vx, rfl, hs⟩
            obtain ⟨X, b3, hX⟩ : ∃ X b, unR sub = (X, b) := ⟨_, _, rfl⟩
            have HX2 := Lib.hid hX
            rw [hX] at hs ⊢
            clear hX
            have hs : SH none w w3 (ownP .i64 3 vx X :: _) := hs
            obtain ⟨aX, cX, rfl, hcx, hcx2⟩ := (OwnK.rd hs.p0).form'
            have hxl : xss.length ≤ p := by rw [HXS.out]; exact ffS_len xs p
            cases b3
            · have HFB : Hid (fbB sub = false) := by unfold Hid fbB; rw [HX2.out]; rfl
              have HS1 : Hid (ffS xs (btwF xs) (p + 1) = (some p, (ffS xs (btwF xs) p).2)) := by
                unfold Hid; rw [HS0.out, HFB.out]; simp
              have w1 : IntKind.i64.wrap ((X.length : Int) - 16) = (X.length : Int) - 16 := IntWalk.i64_in _ (by omega)
              have hs := hs.drop0
              go_wp2
              go_roundw
              case rel => exact ⟨p + 1, (p : Int), xss, ws, hlt, by go_num, rfl, by rw [HS1.out]; exact Lib.hid (by simp [bfI]), by rw [HS1.out]; exact HXS, hs⟩
              case measure => simp [intOf]; omega
            · cases hc : chkB X
              · have HFB : Hid (fbB sub = false) := by unfold Hid fbB; rw [HX2.out]; simp [hc]
                have HS1 : Hid (ffS xs (btwF xs) (p + 1) = (some p, (ffS xs (btwF xs) p).2)) := by
                  unfold Hid; rw [HS0.out, HFB.out]; simp
                have w1 : IntKind.i64.wrap ((X.length : Int) - 16) = (X.length : Int) - 16 := IntWalk.i64_in _ (by omega)
                go_wp2_with fail
                refine (SH.quiet hs (by repeat' (first | with_reducible exact Below.refl _ _ | with_reducible assumption | with_reducible refine below_drewN ?_ _ | with_reducible refine Below.drew ?_ | with_reducible refine Below.alloc ?_ ?_ _ | with_reducible refine Below.setCell ?_ ?_ _ | go_size)) fun hs => specCheckPasses_c _ X _ (OwnK.rd hs.p0)).mono ?_
                rintro e w4 ⟨rfl, hs⟩
                rw [hc]
                have hs := hs.drop0
                clear hc
                go_wp2
                go_roundw
                case rel => exact ⟨p + 1, (p : Int), xss, ws, hlt, by go_num, rfl, by rw [HS1.out]; exact Lib.hid (by simp [bfI]), by rw [HS1.out]; exact HXS, hs⟩
                case measure => simp [intOf]; omega
              · obtain ⟨h16, h1024⟩ := chkB_len hc
                obtain ⟨n, hn⟩ : ∃ n, X.length = n + 16 := ⟨X.length - 16, by omega⟩
                have w1 : IntKind.i64.wrap ((X.length : Int) - 16) = (n : Int) := by rw [hn]; rw [show (((n + 16 : Nat) : Int) - 16) = (n : Int) by omega]; exact IntWalk.i64_in _ (by omega)
                have i0 : (0 : Int) ≤ (n : Int) := by omega
                have i1 : (n : Int) ≤ (cX : Int) := by omega
                have i2 : (n : Int) ≤ (X.length : Int) := by omega
                have i3 : n ≤ cX := by omega
                have i4 : n ≤ X.length := by omega
                have i5 : n ≤ 1024 := by omega
                have HN := Lib.hid hn
                clear hn h16
                by_cases hbig : n ≤ 256
                · have HFB : Hid (fbB sub = true ∧ fbL sub = X.take n) := by
                    have h1 : fbB sub = true := by unfold fbB; rw [HX2.out]; simp only [hc, Bool.and_self, Bool.true_and, decide_eq_true_eq]; have := HN.out; omega
                    exact ⟨h1, by unfold fbL; rw [h1, HX2.out]; simp only [if_true]; rw [show X.length - 16 = n by have := HN.out; omega]⟩
                  have HS1 : Hid (ffS xs (btwF xs) (p + 1) = (some p, (ffS xs (btwF xs) p).2 ++ [X.take n])) := by
                    unfold Hid; rw [HS0.out, HFB.out.1, HFB.out.2]; simp
                  have hd : decide ((n : Int) ≤ 256) = true := by rw [decide_eq_true_eq]; omega
                  have HT := Lib.hid (show (X.take n).length = n by rw [List.length_take]; omega)
                  go_wp2_with fail
                  refine (SH.quiet hs (by repeat' (first | with_reducible exact Below.refl _ _ | with_reducible assumption | with_reducible refine below_drewN ?_ _ | with_reducible refine Below.drew ?_ | with_reducible refine Below.alloc ?_ ?_ _ | with_reducible refine Below.setCell ?_ ?_ _ | go_size)) fun hs => specCheckPasses_c _ X _ (OwnK.rd hs.p0)).mono ?_
                  rintro e w4 ⟨rfl, hs⟩
                  rw [hc]
                  clear hc
                  go_wp2_with (first | (at_builtin; refine wp_appKX (xs := []) (ys := X.take n) rfl rfl .i64 3 8 Tryd.underlying22 info_int rfl (hs.ownEmpty .i64 3) rfl (RdK.below (RdK.take (OwnK.rd hs.p0) i4) ((Below.refl _ _).alloc (Nat.le_refl _) _)) (by rw [List.length_nil, HT.out]; omega) (by rw [List.length_nil, HT.out]; unfold maxLen; omega) ?_; intro v4 w5 hs4; rw [List.nil_append] at hs4; obtain ⟨avc, cvc, rfl, -⟩ := (OwnK.rd hs4.p0).form; rw [HT.out] at hs4 ⊢) | (at_builtin; refine wp_app1MS rfl rfl 22 24 1 (.slice none 0 0) Tryd.underlying30 info_row rfl (by decide) (fun _ => .slice avc n cvc) rfl (hs4.bring2.alloc _) rfl (fun j hj => by obtain rfl : j = 0 := (by omega); exact World.cell?_alloc_at _ _ _ _ rfl) (fun j hj => rfl) (by omega) (by unfold maxLen; omega) ?_; intro v6 w6 hs6))
                  have hs := hs6.congrM (c' := oneC (updV ws xss.length (.slice avc n cvc))) (fun i j hi hj => by
                    by_cases e : i = xss.length
                    · simp only [oneC, updC, updV, if_pos e]
                    · simp only [oneC, updC, updV, if_neg e])
                  rw [show xss.length + 1 = (xss ++ [X.take n]).length by simp] at hs
                  have hs := hs.drop2.bring2.bring2.pushRow.bring1
                  go_roundw
                  case rel => exact ⟨p + 1, (p : Int), xss ++ [X.take n], _, hlt, by go_num, rfl, by rw [HS1.out]; exact Lib.hid (by simp [bfI]), by rw [HS1.out, HXS.out]; exact Lib.hid rfl, hs⟩
                  case measure => simp [intOf]; omega
                · have HFB : Hid (fbB sub = false) := by unfold Hid fbB; rw [HX2.out]; simp only [hc, Bool.and_self, Bool.true_and, decide_eq_false_iff_not]; have := HN.out; omega
                  have HS1 : Hid (ffS xs (btwF xs) (p + 1) = (some p, (ffS xs (btwF xs) p).2)) := by
                    unfold Hid; rw [HS0.out, HFB.out]; simp
                  have hd : decide ((n : Int) ≤ 256) = false := by rw [decide_eq_false_iff_not]; omega
                  go_wp2_with fail
                  refine (SH.quiet hs (by repeat' (first | with_reducible exact Below.refl _ _ | with_reducible assumption | with_reducible refine below_drewN ?_ _ | with_reducible refine Below.drew ?_ | with_reducible refine Below.alloc ?_ ?_ _ | with_reducible refine Below.setCell ?_ ?_ _ | go_size)) fun hs => specCheckPasses_c _ X _ (OwnK.rd hs.p0)).mono ?_
                  rintro e w4 ⟨rfl, hs⟩
                  rw [hc]
                  have hs := hs.drop0
                  clear hc
                  go_wp2
                  go_roundw
                  case rel => exact ⟨p + 1, (p : Int), xss, ws, hlt, by go_num, rfl, by rw [HS1.out]; exact Lib.hid (by simp [bfI]), by rw [HS1.out]; exact HXS, hs⟩
                  case measure => simp [intOf]; omega
          · have HS1 : Hid (ffS xs (btwF xs) (p + 1) = (some p, (ffS xs (btwF xs) p).2)) := by
              unfold Hid; simp only [ffS]; rw [hf, hl2]
              simp only [if_true, if_neg h8]
            clear hl2 hf
            go_wp2
            go_roundw
            case rel => exact ⟨p + 1, (p : Int), xss, ws, hlt, by go_num, rfl, by rw [HS1.out]; exact Lib.hid (by simp [bfI]), by rw [HS1.out]; exact HXS, hs⟩
            case measure => simp [intOf]; omega
    · obtain rfl : p = xs.length := by omega
      go_wp2
      go_ret
      refine ⟨_, rfl, ws, ?_⟩
      rw [HF.out, ← HXS.out]
      exact hs.drop2
end Go.Proofs.YtjgafkoboolclaaDoor
