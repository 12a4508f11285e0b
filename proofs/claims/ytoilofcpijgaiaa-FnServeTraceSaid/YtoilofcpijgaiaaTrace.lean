import Derived.Test.YtoilofcpijgaiaaProg
import Derived.Test.YtoilofcpijgaiaaLib
import Derived.Test.YtoilofcpijgaiaaMem
import Derived.Test.YtoilofcpijgaiaaNum
import Derived.Test.YtoilofcpijgaiaaSym
import Derived.Test.YtoilofcpijgaiaaInts
import Derived.Test.YtoilofcpijgaiaaBlk
import Derived.Test.YtoilofcpijgaiaaSS
import Derived.Test.YtoilofcpijgaiaaCell
namespace Go.Proofs.Ytoilofcpijgaiaa
open Go.RowKit

/-! ServeTrace. -/
def nowK (xss : List (List Int)) (m : Int) : Nat → Int
  | 0 => -1
  | k + 1 => hearV (nowK xss m k) (gl xss k) m
def trL (xss : List (List Int)) (m : Int) (k : Nat) : List Int := (List.range k).map fun i => nowK xss m (i + 1)
theorem length_trL (xss : List (List Int)) (m : Int) (k : Nat) : (trL xss m k).length = k := by simp [trL]
theorem trL_succ (xss : List (List Int)) (m : Int) (k : Nat) : trL xss m (k + 1) = trL xss m k ++ [nowK xss m (k + 1)] := by simp [trL, List.range_succ]
def rowOK (xss : List (List Int)) (i : Nat) : Bool := strB (gl xss i) && decide ((gl xss i).length = (gl xss 0).length)
def trB (xss : List (List Int)) (m : Int) : Bool := decide (xss.length ≤ 200) && inB m 0 200 && (List.range xss.length).all (rowOK xss)
def trV (xss : List (List Int)) (m : Int) : List Int := if trB xss m then trL xss m xss.length else []
theorem trV_long {xss : List (List Int)} {m : Int} (h : 200 < xss.length) : trV xss m = [] := by
  have : ¬ xss.length ≤ 200 := by omega
  simp [trV, trB, this]
theorem trV_m {xss : List (List Int)} {m : Int} (h : inB m 0 200 = false) : trV xss m = [] := by simp [trV, trB, h]
theorem trV_row {xss : List (List Int)} {m : Int} {i : Nat} (hi : i < xss.length) (h : rowOK xss i = false) : trV xss m = [] := by
  have : (List.range xss.length).all (rowOK xss) = false := by
    cases hb : (List.range xss.length).all (rowOK xss)
    · rfl
    · have := List.all_eq_true.1 hb i (List.mem_range.2 hi); rw [h] at this; cases this
  simp [trV, trB, this]
theorem trV_ok {xss : List (List Int)} {m : Int} (h : xss.length ≤ 200) (hm : inB m 0 200 = true) (hr : ∀ i, i < xss.length → rowOK xss i = true) : trV xss m = trL xss m xss.length := by
  have : (List.range xss.length).all (rowOK xss) = true := List.all_eq_true.2 fun i hi => hr i (List.mem_range.1 hi)
  simp [trV, trB, h, hm, this]
theorem trV_len (xss : List (List Int)) (m : Int) : (trV xss m).length ≤ 200 := by
  unfold trV
  split
  · next h =>
    simp only [trB, Bool.and_eq_true, decide_eq_true_eq] at h
    rw [length_trL]; exact h.1.1
  · simp
theorem hearV_bd {c m : Int} {xs : List Int} (hs : strB xs = true) (hc0 : -1 ≤ c) (hc1 : c < xs.length) : 0 ≤ hearV c xs m ∧ hearV c xs m < xs.length := by
  have hl := (strB_true.1 hs).1
  have hb := bestTo_lt' xs xs.length (Nat.le_refl _) (show 0 < xs.length by omega)
  unfold hearV
  split
  · omega
  · split <;> omega
theorem rowOK_parts {xss : List (List Int)} {i : Nat} (h : rowOK xss i = true) : strB (gl xss i) = true ∧ (gl xss i).length = (gl xss 0).length := by
  simpa [rowOK] using h
theorem nowK_bd {xss : List (List Int)} {m : Int} : ∀ k, (∀ i, i < k → rowOK xss i = true) → -1 ≤ nowK xss m k ∧ (0 < k → 0 ≤ nowK xss m k) ∧ (0 < k → nowK xss m k < (gl xss 0).length)
  | 0, _ => by simp [nowK]
  | k + 1, h => by
    obtain ⟨h1, h2, h3⟩ := nowK_bd (m := m) k (fun i hi => h i (by omega))
    obtain ⟨s1, s2⟩ := rowOK_parts (h k (by omega))
    have hc1 : nowK xss m k < (gl xss k).length := by
      rcases Nat.eq_zero_or_pos k with rfl | hk
      · simp only [nowK]; omega
      · have := h3 hk; omega
    have := hearV_bd (m := m) s1 h1 hc1
    simp only [nowK]
    exact ⟨by omega, fun _ => this.1, fun _ => by omega⟩
theorem nowK_lt {xss : List (List Int)} {m : Int} {k : Nat} (h : ∀ i, i < k → rowOK xss i = true) (hk : (gl xss k).length = (gl xss 0).length) : nowK xss m k < (gl xss k).length := by
  obtain ⟨h1, h2, h3⟩ := nowK_bd (m := m) k h
  rcases Nat.eq_zero_or_pos k with rfl | hp
  · simp only [nowK]; omega
  · have := h3 hp; omega

/-- a moving station -/
def srvP (g : Nat) (c m : Int) : Part where
  says w := Srv w g c m
  on q := q = g
  wr q := q = g
  sub _ h := h
  lt w h q hq := by subst hq; exact cell_lt h.1
  keep w w' h hk := by
    have e := hk g rfl
    refine ⟨(World.cell?_of_block (w := w) (a := ⟨g, 0, none⟩) e).trans h.1, (World.cell?_of_block (w := w) (a := ⟨g, 1, none⟩) e).trans h.2.1, fun q => ?_⟩
    have := h.2.2 q
    simpa [World.frozen?, e] using this
theorem SH.newSrv {row : Option Nat} {w0 w : World} {I : List Part} (h : SH row w0 w I) (c m : Int) (t : TypeId) : SH row w0 (w.alloc (.cells #[.int .i64 c, .int .i64 m] t)) (srvP w.heap.size c m :: I) :=
  h.push ((Below.refl _ _).alloc (Nat.le_refl _) _) srv_new (fun g hg => by have e : g = w.heap.size := hg; subst e; exact Nat.le_refl _)
theorem hear_s (g : Nat) (c m : Int) (va : Value) (xs : List Int) (w : World) {row : Option Nat} {w0 : World} {I : List Part} (hs : SH row w0 w (srvP g c m :: I)) (h : RdI w va xs) (hstr : strB xs = true) (hc0 : -1 ≤ c) (hc1 : c < xs.length) (hm0 : 0 ≤ m) (hm1 : m ≤ 200) :
    Calls Try.prog 55 #[.pointer (some ⟨g, 0, none⟩), va] w (fun e w' => e = .returned (.tuple #[]) ∧ SH row w0 w' (srvP g (hearV c xs m) m :: I)) :=
  (hear_c g c m va xs w hs.p0 h hstr hc0 hc1 hm0 hm1).mono fun _ _ ⟨h1, h2, h3⟩ => ⟨h1, hs.write (q := srvP g (hearV c xs m) m) h3 (fun q e => (Option.some.inj e).symm) h2 (fun _ h => .inl h) (fun _ h => .inl h)⟩

set_option maxHeartbeats 4000000 in
theorem implServeTrace_c (va : Value) (vs : Nat → Value) (xss : List (List Int)) (m : Int) (w : World) (h : RdSS w va vs xss) :
    Calls Try.prog 26 #[va, .int .i64 m] w (Ret w fun v w' => OwnI w' w.heap.size 3 v (trV xss m)) := by
  obtain ⟨a, ca, rfl, ma⟩ := h.rows.form
  have hs := SH.start w [rdSSP (.slice a xss.length ca) vs xss] (by simp only [List.forall_mem_cons]; exact ⟨⟨h, rdSSP_wr⟩, by simp⟩)
  clear h
  by_cases hl : 200 < xss.length
  · go_enter Try.func26, Try.ntmps26
    go_wp2
    go_ret
    exact Ret.mk1 (by rw [trV_long hl]; exact OwnK.nil _ _ _ _) hs.done
  go_enter Try.func26, Try.ntmps26
  go_wp2_with fail
  refine (SH.quiet hs (by repeat' (first | with_reducible exact Below.refl _ _ | with_reducible assumption | with_reducible refine below_drewN ?_ _ | with_reducible refine Below.drew ?_ | with_reducible refine Below.alloc ?_ ?_ _ | with_reducible refine Below.setCell ?_ ?_ _ | go_size)) fun hs => marginValid_c m _).mono ?_
  rintro e w1 ⟨rfl, hs⟩
  cases hm : inB m 0 200
  · go_wp2
    go_ret
    exact Ret.mk1 (by rw [trV_m hm]; exact OwnK.nil _ _ _ _) hs.done
  obtain ⟨m0, m1⟩ := inB_true.1 hm
  have HM := Lib.hid hm
  clear hm
  have hs := hs.newSrv (-1) m 69
  go_wp2_with (at_make; refine wp_make0K rfl rfl .i64 _ 3 8 Try.underlying23 info_int xss.length rfl rfl rfl (by omega) (by unfold maxLen; omega) (Nat.le_refl _) ?_; intro w2 hown hg hsz)
  have hs := (hs.pushOwn (below_of_grown hg) hown).bring1
  rw [show (w1.alloc (.cells #[.int .i64 (-1), .int .i64 m] 69)).heap.size = w1.heap.size + 1 from by simp] at hs
  clear hown hg hsz
  generalize hG : w1.heap.size = G at *
  go_loopw [6, 8, 24] (fun o _ i wr => ∃ k : Nat, k ≤ xss.length ∧ i = .int .i64 k ∧ Hid (∀ i, i < k → rowOK xss i = true) ∧ SH none w wr [srvP G (nowK xss m k) m, ownP .i64 3 o (trL xss m k), rdSSP (.slice a xss.length ca) vs xss]) (fun _ _ i _ => xss.length - (intOf i).toNat)
  case atStart => exact ⟨0, Nat.zero_le _, rfl, Lib.hid (fun i h => absurd h (Nat.not_lt_zero _)), hs⟩
  case round =>
    obtain ⟨k, hk, rfl, HR, hs⟩ := hrel
    by_cases hlt : k < xss.length
    · obtain ⟨b, off, rfl, hc⟩ := (SH.p2 hs : RdSS _ _ _ _).rows.at_ hlt
      obtain ⟨b', off', he, hz⟩ := (SH.p2 hs : RdSS _ _ _ _).rows.at_ (i := 0) (by omega)
      simp only [Option.some.injEq, Addr.mk.injEq, and_true] at he
      obtain ⟨rfl, rfl⟩ := he
      have hc0 : wr.cell? ⟨b, off + k, none⟩ = some (vs k) := by simpa [oneC] using hc 0 (by decide)
      have hz0 : wr.cell? ⟨b, off, none⟩ = some (vs 0) := by simpa [oneC] using hz 0 (by decide)
      have hrk := (SH.p2 hs : RdSS _ _ _ _).each k hlt
      have hr0 := (SH.p2 hs : RdSS _ _ _ _).each 0 (by omega)
      obtain ⟨ak, ck, ek, lk⟩ := hrk.form
      obtain ⟨a0, c0, e0, l0⟩ := hr0.form
      rw [ek] at hc0 hrk
      rw [e0] at hz0
      have EK := Lib.hid ek
      have E0 := Lib.hid e0
      clear hc hz e0 ek hr0
      have HRK := Lib.hid hrk
      clear hrk
      go_wp2_with fail
      refine (SH.quiet hs (by repeat' (first | with_reducible exact Below.refl _ _ | with_reducible assumption | with_reducible refine below_drewN ?_ _ | with_reducible refine Below.drew ?_ | with_reducible refine Below.alloc ?_ ?_ _ | with_reducible refine Below.setCell ?_ ?_ _ | go_size)) fun hs => strengthsValid_c _ (gl xss k) _ HRK.out).mono ?_
      rintro e w3 ⟨rfl, hs⟩
      clear hc0 hz0
      obtain ⟨b', off', he, hz⟩ := (SH.p2 hs : RdSS _ _ _ _).rows.at_ (i := 0) (by omega)
      simp only [Option.some.injEq, Addr.mk.injEq, and_true] at he
      obtain ⟨rfl, rfl⟩ := he
      have hz0 : w3.cell? ⟨b, off, none⟩ = some (.slice a0 (gl xss 0).length c0) := by rw [← E0.out]; simpa [oneC] using hz 0 (by decide)
      have hrk := (SH.p2 hs : RdSS _ _ _ _).each k hlt
      rw [EK.out] at hrk
      have HRK := Lib.hid hrk
      clear hz hrk
      cases hstr : strB (gl xss k)
      · have hbad : rowOK xss k = false := by simp [rowOK, hstr]
        go_wp2
        go_ret
        exact Ret.mk1 (by rw [trV_row hlt hbad]; exact OwnK.nil _ _ _ _) hs.done
      by_cases hlen : (gl xss k).length = (gl xss 0).length
      · have hrow : rowOK xss k = true := by simp [rowOK, hstr, hlen]
        have HR2 : Hid (∀ i, i < k + 1 → rowOK xss i = true) := Lib.hid (fun i hi => by
          rcases Nat.lt_succ_iff_lt_or_eq.1 hi with h1 | rfl
          · exact HR.out i h1
          · exact hrow)
        have hn1 := (nowK_bd (m := m) k HR.out).1
        have hn2 := nowK_lt (m := m) HR.out hlen
        have hle : (((gl xss k).length : Int) != ((gl xss 0).length : Int)) = false := by simp [hlen]
        have HS := Lib.hid hstr
        clear hlen hstr hrow
        go_wp2_with fail
        refine (hear_s G (nowK xss m k) m _ (gl xss k) _ hs HRK.out HS.out hn1 hn2 m0 m1).mono ?_
        rintro e w4 ⟨rfl, hs⟩
        clear hz0
        obtain ⟨s0, s1, s2⟩ : Srv w4 G (nowK xss m (k + 1)) m := hs.p0
        have hl9 := length_trL xss m k
        have HL9 := Lib.hid hl9
        clear hl9
        go_wp2_with (at_builtin; refine wp_app1S rfl rfl .i64 3 8 Try.underlying23 info_int (nowK xss m (k + 1)) rfl (hs.bring1.alloc _) rfl (World.cell?_alloc_at _ _ _ _ rfl) (by rw [HL9.out]; omega) (by rw [HL9.out]; unfold maxLen; omega) ?_; intro v9 w9 hs)
        rw [← trL_succ] at hs
        clear s0 s1 s2
        go_wp2
        go_roundw
        case rel => exact ⟨k + 1, hlt, by go_num, HR2, hs.bring1⟩
        case measure => simp [intOf]; omega
      · have hbad : rowOK xss k = false := by simp [rowOK, hlen]
        have hle : (((gl xss k).length : Int) != ((gl xss 0).length : Int)) = true := by simp; omega
        go_wp2
        go_ret
        exact Ret.mk1 (by rw [trV_row hlt hbad]; exact OwnK.nil _ _ _ _) hs.done
    · obtain rfl : k = xss.length := by omega
      go_wp2
      go_ret
      exact Ret.mk1 (by rw [trV_ok (by omega) HM.out HR.out]; exact SH.ownRet hs.drop0) hs.done

theorem scV_eq {c m : Int} {xs : List Int} (hs : strB xs = true) (hm : inB m 0 200 = true) (h0 : -1 ≤ c) (h1 : c < xs.length) : scV c xs m = hearV c xs m := by
  have : scB c xs m = true := by
    have h2 : inB c (-1) ((xs.length : Int) - 1) = true := inB_true.2 (by omega)
    simp [scB, hs, hm, h2]
  simp [scV, this]
theorem scV_m {c m : Int} {xs : List Int} (h : inB m 0 200 = false) : scV c xs m = -1 := by simp [scV, scB, h]
theorem scV_str {c m : Int} {xs : List Int} (h : strB xs = false) : scV c xs m = -1 := by simp [scV, scB, h]

set_option maxHeartbeats 4000000 in
theorem specServeTrace_c (va : Value) (vs : Nat → Value) (xss : List (List Int)) (m : Int) (w : World) (h : RdSS w va vs xss) :
    Calls Try.prog 24 #[va, .int .i64 m] w (Ret w fun v w' => OwnI w' w.heap.size 3 v (trV xss m)) := by
  obtain ⟨a, ca, rfl, ma⟩ := h.rows.form
  have hs := SH.start w [rdSSP (.slice a xss.length ca) vs xss] (by simp only [List.forall_mem_cons]; exact ⟨⟨h, rdSSP_wr⟩, by simp⟩)
  clear h
  go_enter Try.func24, Try.ntmps24
  go_wp2_with fail
  have hs := hs.ownEmpty .i64 3
  go_loopw [5, 6, 7] (fun o n i wr => ∃ k : Nat, k ≤ xss.length ∧ i = .int .i64 k ∧ n = .int .i64 (nowK xss m k) ∧ (k = 0 ∨ (xss.length ≤ 200 ∧ inB m 0 200 = true)) ∧ Hid (∀ i, i < k → rowOK xss i = true) ∧ SH none w wr [ownP .i64 3 o (trL xss m k), rdSSP (.slice a xss.length ca) vs xss]) (fun _ _ i _ => xss.length - (intOf i).toNat)
  case atStart => exact ⟨0, Nat.zero_le _, rfl, rfl, .inl rfl, Lib.hid (fun i h => absurd h (Nat.not_lt_zero _)), hs⟩
  case round =>
    obtain ⟨k, hk, rfl, rfl, hcase, HR, hs⟩ := hrel
    by_cases hl : 200 < xss.length
    · obtain rfl : k = 0 := by omega
      go_wp2
      go_ret
      exact Ret.mk1 (by rw [trV_long hl]; exact SH.ownRet hs) hs.done
    by_cases hlt : k < xss.length
    · obtain ⟨b, off, rfl, hc⟩ := (SH.p1 hs : RdSS _ _ _ _).rows.at_ hlt
      have hc0 : wr.cell? ⟨b, off + k, none⟩ = some (vs k) := by simpa [oneC] using hc 0 (by decide)
      clear hc
      go_wp2_with fail
      refine (SH.quiet hs (by repeat' (first | with_reducible exact Below.refl _ _ | with_reducible assumption | with_reducible refine below_drewN ?_ _ | with_reducible refine Below.drew ?_ | with_reducible refine Below.alloc ?_ ?_ _ | with_reducible refine Below.setCell ?_ ?_ _ | go_size)) fun hs => specServeCell_c (nowK xss m k) (vs k) (gl xss k) m _ ((SH.p1 hs : RdSS _ _ _ _).each k hlt)).mono ?_
      rintro e w3 ⟨rfl, hs⟩
      clear hc0
      obtain ⟨s, hsv⟩ : ∃ s, scV (nowK xss m k) (gl xss k) m = s := ⟨_, rfl⟩
      have HSV := Lib.hid hsv
      rw [hsv]
      clear hsv
      by_cases hneg : s < 0
      · have hF : Hid (trV xss m = []) := by
          unfold Hid
          cases hm : inB m 0 200
          · exact trV_m hm
          cases hstr : strB (gl xss k)
          · exact trV_row hlt (by simp [rowOK, hstr])
          by_cases hlen : (gl xss k).length = (gl xss 0).length
          · have h1 := (nowK_bd (m := m) k HR.out).1
            have h2 := nowK_lt (m := m) HR.out hlen
            have := (hearV_bd (m := m) hstr h1 h2).1
            rw [← scV_eq hstr hm h1 h2, HSV.out] at this
            omega
          · exact trV_row hlt (by simp [rowOK, hlen])
        have hd : decide (s < 0) = true := by simpa using hneg
        clear hneg
        go_wp2
        go_quiet (fail)
        have hs := (hs.drewN nq).drop0.ownEmpty .i64 3
        go_wp2
        go_ret
        exact Ret.mk1 (by rw [hF.out]; exact SH.ownRet hs) hs.done
      have hm : inB m 0 200 = true := by
        cases hm : inB m 0 200
        · have := HSV.out; rw [scV_m hm] at this; omega
        · rfl
      have hstr : strB (gl xss k) = true := by
        cases hstr : strB (gl xss k)
        · have := HSV.out; rw [scV_str hstr] at this; omega
        · rfl
      obtain ⟨b1, o1, he, hc⟩ := (SH.p1 hs : RdSS _ _ _ _).rows.at_ hlt
      simp only [Option.some.injEq, Addr.mk.injEq, and_true] at he
      obtain ⟨rfl, rfl⟩ := he
      obtain ⟨b1, o1, he, hz⟩ := (SH.p1 hs : RdSS _ _ _ _).rows.at_ (i := 0) (by omega)
      simp only [Option.some.injEq, Addr.mk.injEq, and_true] at he
      obtain ⟨rfl, rfl⟩ := he
      obtain ⟨ak, ck, ek, lk⟩ := ((SH.p1 hs : RdSS _ _ _ _).each k hlt).form
      obtain ⟨a0, c0, e0, l0⟩ := ((SH.p1 hs : RdSS _ _ _ _).each 0 (by omega)).form
      have hc0 : w3.cell? ⟨b, off + k, none⟩ = some (.slice ak (gl xss k).length ck) := by rw [← ek]; simpa [oneC] using hc 0 (by decide)
      have hz0 : w3.cell? ⟨b, off, none⟩ = some (.slice a0 (gl xss 0).length c0) := by rw [← e0]; simpa [oneC] using hz 0 (by decide)
      clear hc hz ek e0
      have i0 : (0 : Int) ≤ (k : Int) := by omega
      have i1 : (k : Int) < (xss.length : Int) := by omega
      have i2 : (0 : Int) < (xss.length : Int) := by omega
      have hd : decide (s < 0) = false := by simpa using hneg
      by_cases hlen : (gl xss k).length = (gl xss 0).length
      · have hrow : rowOK xss k = true := by simp [rowOK, hstr, hlen]
        have HR2 : Hid (∀ i, i < k + 1 → rowOK xss i = true) := Lib.hid (fun i hi => by
          rcases Nat.lt_succ_iff_lt_or_eq.1 hi with h1 | rfl
          · exact HR.out i h1
          · exact hrow)
        have h1 := (nowK_bd (m := m) k HR.out).1
        have h2 := nowK_lt (m := m) HR.out hlen
        have hnow : Hid (s = nowK xss m (k + 1)) := by
          unfold Hid
          rw [← HSV.out, scV_eq hstr hm h1 h2]; rfl
        have hle : (((gl xss k).length : Int) != ((gl xss 0).length : Int)) = false := by simp [hlen]
        have HL9 := Lib.hid (length_trL xss m k)
        have HM := Lib.hid hm
        clear hlen hrow h1 h2 hstr hm
        go_wp2
        go_quiet (fail)
        have hs := hs.drewN nq
        go_wp2_with (at_builtin; refine wp_app1S rfl rfl .i64 3 8 Try.underlying23 info_int s rfl (hs.alloc _) rfl (World.cell?_alloc_at _ _ _ _ rfl) (by rw [HL9.out]; omega) (by rw [HL9.out]; unfold maxLen; omega) ?_; intro v9 w9 hs)
        rw [hnow.out, ← trL_succ] at hs
        go_wp2
        go_roundw
        case rel => exact ⟨k + 1, hlt, by go_num, intv hnow.out, .inr ⟨by omega, HM.out⟩, HR2, hs⟩
        case measure => simp [intOf]; omega
      · have hF := Lib.hid (trV_row (m := m) hlt (show rowOK xss k = false by simp [rowOK, hlen]))
        have hle : (((gl xss k).length : Int) != ((gl xss 0).length : Int)) = true := by simp; omega
        clear hlen hstr hm
        go_wp2
        go_quiet (fail)
        have hs := (hs.drewN nq).drop0.ownEmpty .i64 3
        go_wp2
        go_ret
        exact Ret.mk1 (by rw [hF.out]; exact SH.ownRet hs) hs.done
    · obtain rfl : k = xss.length := by omega
      have hF : Hid (trV xss m = trL xss m xss.length) := by
        unfold Hid
        rcases hcase with h | ⟨h1, h2⟩
        · have e : xss = [] := List.eq_nil_of_length_eq_zero h
          subst e
          simp [trV, trL]
        · exact trV_ok h1 h2 HR.out
      go_wp2
      go_ret
      exact Ret.mk1 (by rw [hF.out]; exact SH.ownRet hs) hs.done

set_option maxHeartbeats 4000000 in
theorem fnExactServeTrace_c (va : Value) (vs : Nat → Value) (xss : List (List Int)) (m : Int) (w : World) (ha : RdSS w va vs xss) (_ : (Lit.int .i64 m).wf = true) :
    Calls Try.prog 6 #[va, .int .i64 m] w (Ret w fun v _ => v = .bool true) := by
  obtain ⟨a, ca, rfl, ma⟩ := ha.rows.form
  have hs := SH.start w [rdSSP (.slice a xss.length ca) vs xss] (by simp only [List.forall_mem_cons]; exact ⟨⟨ha, rdSSP_wr⟩, by simp⟩)
  clear ha
  go_enter Try.func6, Try.ntmps6
  go_wp2_with fail
  refine (SH.quiet hs (by repeat' (first | with_reducible exact Below.refl _ _ | with_reducible assumption | with_reducible refine below_drewN ?_ _ | with_reducible refine Below.drew ?_ | with_reducible refine Below.alloc ?_ ?_ _ | with_reducible refine Below.setCell ?_ ?_ _ | go_size)) fun hs => szIntSS_c _ vs xss _ hs.p0).mono ?_
  rintro e w1 ⟨rfl, hs⟩
  by_cases hsz : xss.length + sumL xss xss.length ≤ 1048576
  case neg =>
    have e : szV xss = -1 := by unfold szV; rw [if_neg hsz]
    rw [e]
    go_wp2
    go_ret
    exact Ret.mk1 rfl (SH.done (by first | exact hs | exact (hs).alloc _ | exact ((hs).alloc _).alloc _ | exact (((hs).alloc _).alloc _).alloc _ | exact ((((hs).alloc _).alloc _).alloc _).alloc _ | exact (hs).drew | exact ((hs).alloc _).drew | exact (((hs).alloc _).alloc _).drew | exact ((((hs).alloc _).alloc _).alloc _).drew | exact (((((hs).alloc _).alloc _).alloc _).alloc _).drew | exact (hs).drewN _ | exact ((hs).alloc _).drewN _ | exact (((hs).alloc _).alloc _).drewN _ | exact ((((hs).alloc _).alloc _).alloc _).drewN _ | exact (((((hs).alloc _).alloc _).alloc _).alloc _).drewN _))
  have e : szV xss = 1048576 - (xss.length : Int) - (sumL xss xss.length : Int) := by unfold szV; rw [if_pos hsz]
  rw [e]
  have HR := Lib.hid (show ∀ i, i < xss.length → (gl xss i).length ≤ 17592186044416 from fun i hi => by have := sumL_row (xss := xss) hi; omega)
  have hlen := trV_len xss m
  clear e
  go_wp2_with fail
  refine (toIntSS_s _ vs xss _ (by first | exact hs | exact (hs).alloc _ | exact ((hs).alloc _).alloc _ | exact (((hs).alloc _).alloc _).alloc _ | exact ((((hs).alloc _).alloc _).alloc _).alloc _ | exact (hs).drew | exact ((hs).alloc _).drew | exact (((hs).alloc _).alloc _).drew | exact ((((hs).alloc _).alloc _).alloc _).drew | exact (((((hs).alloc _).alloc _).alloc _).alloc _).drew | exact (hs).drewN _ | exact ((hs).alloc _).drewN _ | exact (((hs).alloc _).alloc _).drewN _ | exact ((((hs).alloc _).alloc _).alloc _).drewN _ | exact (((((hs).alloc _).alloc _).alloc _).alloc _).drewN _) (by omega) HR.out).mono ?_
  rintro e w2 ⟨p, ps, rfl, hs⟩
  go_wp2_with fail
  refine (SH.own hs (by repeat' (first | with_reducible exact Below.refl _ _ | with_reducible assumption | with_reducible refine below_drewN ?_ _ | with_reducible refine Below.drew ?_ | with_reducible refine Below.alloc ?_ ?_ _ | with_reducible refine Below.setCell ?_ ?_ _ | go_size)) fun hs => specServeTrace_c _ ps xss m _ (rd_of_inn hs)).mono ?_
  rintro e w3 ⟨w0, rfl, hs⟩
  have hs := hs.drop1.drop1
  have hs := hs.bring1
  go_wp2_with fail
  refine (toIntSS_s _ vs xss _ (by first | exact hs | exact (hs).alloc _ | exact ((hs).alloc _).alloc _ | exact (((hs).alloc _).alloc _).alloc _ | exact ((((hs).alloc _).alloc _).alloc _).alloc _ | exact (hs).drew | exact ((hs).alloc _).drew | exact (((hs).alloc _).alloc _).drew | exact ((((hs).alloc _).alloc _).alloc _).drew | exact (((((hs).alloc _).alloc _).alloc _).alloc _).drew | exact (hs).drewN _ | exact ((hs).alloc _).drewN _ | exact (((hs).alloc _).alloc _).drewN _ | exact ((((hs).alloc _).alloc _).alloc _).drewN _ | exact (((((hs).alloc _).alloc _).alloc _).alloc _).drewN _) (by omega) HR.out).mono ?_
  rintro e w4 ⟨x0, xs0, rfl, hs⟩
  go_wp2_with fail
  refine (SH.own hs (by repeat' (first | with_reducible exact Below.refl _ _ | with_reducible assumption | with_reducible refine below_drewN ?_ _ | with_reducible refine Below.drew ?_ | with_reducible refine Below.alloc ?_ ?_ _ | with_reducible refine Below.setCell ?_ ?_ _ | go_size)) fun hs => implServeTrace_c _ xs0 xss m _ (rd_of_inn hs)).mono ?_
  rintro e w5 ⟨g0, rfl, hs⟩
  go_wp2_with fail
  refine (SH.quiet hs (by repeat' (first | with_reducible exact Below.refl _ _ | with_reducible assumption | with_reducible refine below_drewN ?_ _ | with_reducible refine Below.drew ?_ | with_reducible refine Below.alloc ?_ ?_ _ | with_reducible refine Below.setCell ?_ ?_ _ | go_size)) fun hs => eqIntS_c _ _ _ _ _ (OwnK.rd hs.p0) (OwnK.rd hs.p4)).mono ?_
  rintro e w6 ⟨rfl, hs⟩
  rw [show decide (trV xss m = trV xss m) = true by simp]
  have hs := hs.bring3
  go_wp2_with fail
  refine (toIntSS_s _ vs xss _ (by first | exact hs | exact (hs).alloc _ | exact ((hs).alloc _).alloc _ | exact (((hs).alloc _).alloc _).alloc _ | exact ((((hs).alloc _).alloc _).alloc _).alloc _ | exact (hs).drew | exact ((hs).alloc _).drew | exact (((hs).alloc _).alloc _).drew | exact ((((hs).alloc _).alloc _).alloc _).drew | exact (((((hs).alloc _).alloc _).alloc _).alloc _).drew | exact (hs).drewN _ | exact ((hs).alloc _).drewN _ | exact (((hs).alloc _).alloc _).drewN _ | exact ((((hs).alloc _).alloc _).alloc _).drewN _ | exact (((((hs).alloc _).alloc _).alloc _).alloc _).drewN _) (by omega) HR.out).mono ?_
  rintro e w7 ⟨y0, ys0, rfl, hs⟩
  go_wp2_with fail
  refine (SH.quiet hs (by repeat' (first | with_reducible exact Below.refl _ _ | with_reducible assumption | with_reducible refine below_drewN ?_ _ | with_reducible refine Below.drew ?_ | with_reducible refine Below.alloc ?_ ?_ _ | with_reducible refine Below.setCell ?_ ?_ _ | go_size)) fun hs => eqIntSS_c _ _ xs0 ys0 xss _ ⟨OwnM.rd hs.p4, fun i hi => OwnK.rd (hs.p5.1 i hi)⟩ (rd_of_inn hs)).mono ?_
  rintro e w8 ⟨rfl, hs⟩
  have hs := hs.drop0.drop0
  have hs := hs.bring3.bring3
  go_wp2_with fail
  refine (markIntSS_s _ _ xs0 xss 1 _ (by first | exact hs | exact (hs).alloc _ | exact ((hs).alloc _).alloc _ | exact (((hs).alloc _).alloc _).alloc _ | exact ((((hs).alloc _).alloc _).alloc _).alloc _ | exact (hs).drew | exact ((hs).alloc _).drew | exact (((hs).alloc _).alloc _).drew | exact ((((hs).alloc _).alloc _).alloc _).drew | exact (((((hs).alloc _).alloc _).alloc _).alloc _).drew | exact (hs).drewN _ | exact ((hs).alloc _).drewN _ | exact (((hs).alloc _).alloc _).drewN _ | exact ((((hs).alloc _).alloc _).alloc _).drewN _ | exact (((((hs).alloc _).alloc _).alloc _).alloc _).drewN _) (by omega) (by omega) (by omega)).mono ?_
  rintro e w9 ⟨rfl, hs⟩
  have hs := hs.drop0.drop0
  go_wp2_with fail
  refine (SH.quiet hs (by repeat' (first | with_reducible exact Below.refl _ _ | with_reducible assumption | with_reducible refine below_drewN ?_ _ | with_reducible refine Below.drew ?_ | with_reducible refine Below.alloc ?_ ?_ _ | with_reducible refine Below.setCell ?_ ?_ _ | go_size)) fun hs => eqIntS_c _ _ _ _ _ (OwnK.rd hs.p1) (OwnK.rd hs.p2)).mono ?_
  rintro e w10 ⟨rfl, hs⟩
  rw [show decide (trV xss m = trV xss m) = true by simp]
  have hs := hs.bring1
  go_wp2_with fail
  refine (SH.writes hs (by repeat' (first | with_reducible exact Below.refl _ _ | with_reducible assumption | with_reducible refine below_drewN ?_ _ | with_reducible refine Below.drew ?_ | with_reducible refine Below.alloc ?_ ?_ _ | with_reducible refine Below.setCell ?_ ?_ _ | go_size)) fun hs => markIntS_c 0 _ _ 1 _ hs.p0 (by omega) (by omega) (by omega)).mono ?_
  rintro e w11 ⟨rfl, hs⟩
  go_wp2_with fail
  refine (SH.quiet hs (by repeat' (first | with_reducible exact Below.refl _ _ | with_reducible assumption | with_reducible refine below_drewN ?_ _ | with_reducible refine Below.drew ?_ | with_reducible refine Below.alloc ?_ ?_ _ | with_reducible refine Below.setCell ?_ ?_ _ | go_size)) fun hs => heldIntS_c _ _ 1 _ (OwnK.rd hs.p0) (by omega) (by omega) (by omega)).mono ?_
  rintro e w12 ⟨rfl, hs⟩
  have e2 : ((1 : Int) + ((trV xss m).length : Int) != 1 + ((trV xss m).length : Int)) = false := bne_self_eq_false _
  have hs := hs.bring1
  go_wp2_with fail
  refine (toIntSS_s _ vs xss _ (by first | exact hs | exact (hs).alloc _ | exact ((hs).alloc _).alloc _ | exact (((hs).alloc _).alloc _).alloc _ | exact ((((hs).alloc _).alloc _).alloc _).alloc _ | exact (hs).drew | exact ((hs).alloc _).drew | exact (((hs).alloc _).alloc _).drew | exact ((((hs).alloc _).alloc _).alloc _).drew | exact (((((hs).alloc _).alloc _).alloc _).alloc _).drew | exact (hs).drewN _ | exact ((hs).alloc _).drewN _ | exact (((hs).alloc _).alloc _).drewN _ | exact ((((hs).alloc _).alloc _).alloc _).drewN _ | exact (((((hs).alloc _).alloc _).alloc _).alloc _).drewN _) (by omega) HR.out).mono ?_
  rintro e w13 ⟨z0, zs0, rfl, hs⟩
  go_wp2_with fail
  refine (SH.own hs (by repeat' (first | with_reducible exact Below.refl _ _ | with_reducible assumption | with_reducible refine below_drewN ?_ _ | with_reducible refine Below.drew ?_ | with_reducible refine Below.alloc ?_ ?_ _ | with_reducible refine Below.setCell ?_ ?_ _ | go_size)) fun hs => implServeTrace_c _ zs0 xss m _ (rd_of_inn hs)).mono ?_
  rintro e w14 ⟨h0, rfl, hs⟩
  go_wp2_with fail
  refine (SH.quiet hs (by repeat' (first | with_reducible exact Below.refl _ _ | with_reducible assumption | with_reducible refine below_drewN ?_ _ | with_reducible refine Below.drew ?_ | with_reducible refine Below.alloc ?_ ?_ _ | with_reducible refine Below.setCell ?_ ?_ _ | go_size)) fun hs => eqIntS_c _ _ _ _ _ (OwnK.rd hs.p0) (OwnK.rd hs.p5)).mono ?_
  rintro e w15 ⟨rfl, hs⟩
  rw [show decide (trV xss m = trV xss m) = true by simp]
  go_wp2_with fail
  refine (SH.quiet hs (by repeat' (first | with_reducible exact Below.refl _ _ | with_reducible assumption | with_reducible refine below_drewN ?_ _ | with_reducible refine Below.drew ?_ | with_reducible refine Below.alloc ?_ ?_ _ | with_reducible refine Below.setCell ?_ ?_ _ | go_size)) fun hs => heldIntS_c _ _ 1 _ (OwnK.rd hs.p4) (by omega) (by omega) (by omega)).mono ?_
  rintro e w16 ⟨rfl, hs⟩
  have e2 : ((1 : Int) + ((trV xss m).length : Int) != 1 + ((trV xss m).length : Int)) = false := bne_self_eq_false _
  go_wp2
  go_ret
  exact Ret.mk1 rfl (SH.done (by first | exact hs | exact (hs).alloc _ | exact ((hs).alloc _).alloc _ | exact (((hs).alloc _).alloc _).alloc _ | exact ((((hs).alloc _).alloc _).alloc _).alloc _ | exact (hs).drew | exact ((hs).alloc _).drew | exact (((hs).alloc _).alloc _).drew | exact ((((hs).alloc _).alloc _).alloc _).drew | exact (((((hs).alloc _).alloc _).alloc _).alloc _).drew | exact (hs).drewN _ | exact ((hs).alloc _).drewN _ | exact (((hs).alloc _).alloc _).drewN _ | exact ((((hs).alloc _).alloc _).alloc _).drewN _ | exact (((((hs).alloc _).alloc _).alloc _).alloc _).drewN _))
end Go.Proofs.Ytoilofcpijgaiaa
