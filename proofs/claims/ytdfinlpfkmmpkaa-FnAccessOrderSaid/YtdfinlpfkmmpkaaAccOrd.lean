import Derived.Test.YtdfinlpfkmmpkaaProg
import Derived.Test.YtdfinlpfkmmpkaaAccRunLaw
namespace Go.Proofs.Ytdfinlpfkmmpkaa
open Go.RowKit

/-- what the law has appended behind j rounds -/
theorem gi_rev_at {xs : List Int} {j : Nat} (h : j < xs.length) : xs.reverse.take (j + 1) = xs.reverse.take j ++ [gi xs (xs.length - 1 - j)] := by
  rw [ext_take_succ (by simpa using h), gi_rev h]

set_option maxRecDepth 100000 in
set_option maxHeartbeats 8000000 in
theorem fnAccessOrder_c (vc : Value) (c : List Int) (w : World) (hc : RdB w vc c) (bc : ∀ n ∈ c, (Lit.int .u8 n).wf = true) :
    Calls Try.prog 11 #[vc] w (Ret w fun v _ => v = .bool true) := by
  have hs := SH.add (p := rdP .u8 vc c) (SH.start0 w) (by simp) hc rdP_wr
  obtain ⟨ac, cc, rfl, -⟩ := hc.form
  have Bc := Lib.hid bc
  clear hc bc
  by_cases lc : c.length ≤ 1048576
  case neg =>
    go_enter Try.func11, Try.ntmps11
    go_wp2
    go_ret
    exact Ret.mk1 rfl (Below.refl _ _)
  go_enter Try.func11, Try.ntmps11
  go_wp2_with fail
  refine (DrawAccessRun_s _ c _ (by first | exact hs | exact (hs).allocP1 _ _ | exact ((hs).allocP1 _ _).allocP1 _ _ | exact (((hs).allocP1 _ _).allocP1 _ _).allocP1 _ _ | exact ((((hs).allocP1 _ _).allocP1 _ _).allocP1 _ _).allocP1 _ _ | exact (hs).drew | exact ((hs).allocP1 _ _).drew | exact (((hs).allocP1 _ _).allocP1 _ _).drew | exact ((((hs).allocP1 _ _).allocP1 _ _).allocP1 _ _).drew | exact (((((hs).allocP1 _ _).allocP1 _ _).allocP1 _ _).allocP1 _ _).drew | exact (hs).drewN _ | exact ((hs).allocP1 _ _).drewN _ | exact (((hs).allocP1 _ _).allocP1 _ _).drewN _ | exact ((((hs).allocP1 _ _).allocP1 _ _).allocP1 _ _).drewN _ | exact (((((hs).allocP1 _ _).allocP1 _ _).allocP1 _ _).allocP1 _ _).drewN _) Bc.out).mono ?_
  rintro e w1 ⟨v1, xs, rfl, hl8, hs⟩
  obtain ⟨a1, c1, rfl, -⟩ := (OwnK.rd hs.p0).form
  go_wp2_with fail
  refine (SH.own hs (by repeat' (first | with_reducible exact Below.refl _ _ | with_reducible assumption | with_reducible refine below_drewN ?_ _ | with_reducible refine Below.drew ?_ | with_reducible refine Below.alloc ?_ ?_ _ | with_reducible refine Below.setCell ?_ ?_ _ | go_size)) fun hs => implAccessRun_c _ xs _ (OwnK.rd hs.p0)).mono ?_
  rintro e w2 ⟨v2, rfl, hs⟩
  go_wp2_with fail
  refine (SH.own hs (by repeat' (first | with_reducible exact Below.refl _ _ | with_reducible assumption | with_reducible refine below_drewN ?_ _ | with_reducible refine Below.drew ?_ | with_reducible refine Below.alloc ?_ ?_ _ | with_reducible refine Below.setCell ?_ ?_ _ | go_size)) fun hs => specAccessRun_c _ xs _ (OwnK.rd hs.p1)).mono ?_
  rintro e w3 ⟨v3, rfl, hs⟩
  go_wp2_with fail
  refine (SH.quiet hs (by repeat' (first | with_reducible exact Below.refl _ _ | with_reducible assumption | with_reducible refine below_drewN ?_ _ | with_reducible refine Below.drew ?_ | with_reducible refine Below.alloc ?_ ?_ _ | with_reducible refine Below.setCell ?_ ?_ _ | go_size)) fun hs => sameInts_c _ _ _ _ _ (OwnK.rd hs.p1) (OwnK.rd hs.p0)).mono ?_
  rintro e w4 ⟨rfl, hs⟩
  rw [show decide (acV xs = acV xs) = true by simp]
  have hs := hs.drop0
  have HREV : Hid (acV xs.reverse = (acV xs).reverse) := Lib.hid (acV_rev xs)
  have HX : Hid ((acV xs).length = xs.length ∨ acV xs = []) := Lib.hid (by
    cases hb : acB xs
    · exact .inr (acV_no hb)
    · exact .inl (acV_len hb))
  have hA : ∀ (v : Value) (w : World), RdI w v xs.reverse → Calls Try.prog 36 #[v] w (Ret w fun v w' => OwnI w' w.heap.size 3 v (acV xs.reverse)) := fun v w h => implAccessRun_c v xs.reverse w h
  have HA := Lib.hid hA
  clear hA
  rw [HREV.out] at HA
  clear HREV
  generalize acV xs = X at *
  obtain ⟨a2, c2, rfl, -⟩ := (OwnK.rd hs.p0).form
  have hs := (hs.ownEmpty .i64 3).ownEmpty .i64 3
  rw [size_allocR] at hs
  go_wp2
  go_loopw [5, 6, 7] (fun o1 o2 i wr => ∃ j : Nat, j ≤ xs.length ∧ i = .int .i64 ((xs.length : Int) - 1 - j) ∧ SH none w wr [ownP .i64 3 o2 (X.reverse.take j), ownP .i64 3 o1 (xs.reverse.take j), ownP .i64 3 (.slice a2 X.length c2) X, ownP .i64 3 (.slice a1 xs.length c1) xs, rdP .u8 (.slice ac c.length cc) c]) (fun _ _ i _ => (intOf i + 1).toNat)
  case atStart => exact ⟨0, Nat.zero_le _, intv (by omega), hs⟩
  case round =>
    clear hs
    obtain ⟨j, hj, rfl, hs⟩ := hrel
    obtain ⟨av, cv, rfl, -⟩ := (OwnK.rd hs.p0).form
    obtain ⟨au, cu, rfl, -⟩ := (OwnK.rd hs.p1).form
    have lv : (X.reverse.take j).length ≤ j := List.length_take_le _ _
    have lu : (xs.reverse.take j).length ≤ j := List.length_take_le _ _
    obtain ⟨nv, hnv⟩ : ∃ n, (X.reverse.take j).length = n := ⟨_, rfl⟩
    obtain ⟨nu, hnu⟩ : ∃ n, (xs.reverse.take j).length = n := ⟨_, rfl⟩
    rw [hnv] at hs lv ⊢
    rw [hnu] at hs lu ⊢
    have HNV := Lib.hid hnv
    have HNU := Lib.hid hnu
    clear hnv hnu
    by_cases hlt : j < xs.length
    · obtain ⟨p, hp⟩ : ∃ p : Nat, (xs.length : Int) - 1 - (j : Int) = (p : Int) := ⟨xs.length - 1 - j, by omega⟩
      have HP := Lib.hid hp
      have hpl : p < xs.length := by omega
      have p0 : (0 : Int) ≤ (p : Int) := by omega
      have p1 : (p : Int) < (xs.length : Int) := by omega
      rw [hp]
      clear hp
      have HT : Hid (xs.reverse.take (j + 1) = xs.reverse.take j ++ [gi xs p]) := Lib.hid (by rw [gi_rev_at hlt, show xs.length - 1 - j = p by have := HP.out; omega])
      obtain ⟨gS, rfl⟩ := own_someR hs.p3 (by omega)
      have hcs := own_cellR hs.p3 hpl
      obtain ⟨s, hse⟩ : ∃ s, gi xs p = s := ⟨_, rfl⟩
      rw [hse] at hcs HT
      clear hse
      rcases HX.out with hx | hx
      · have hpx : p < X.length := by omega
        have p2 : (p : Int) < (X.length : Int) := by omega
        have HU : Hid (X.reverse.take (j + 1) = X.reverse.take j ++ [gi X p]) := Lib.hid (by rw [gi_rev_at (by omega), show X.length - 1 - j = p by have := HP.out; omega])
        obtain ⟨gX, rfl⟩ := own_someR hs.p2 (by omega)
        have HCX : Hid (∀ w, OwnK .i64 w 0 3 (.slice (some ⟨gX, 0, none⟩) X.length c2) X → w.cell? ⟨gX, p, none⟩ = some (.int .i64 (gi X p))) := Lib.hid fun w h => own_cellR h hpx
        obtain ⟨x, hxe⟩ : ∃ x, gi X p = x := ⟨_, rfl⟩
        rw [hxe] at HU HCX
        clear hxe hx
        go_wp2_with (first | (at_builtin; refine wp_app1S rfl rfl .i64 3 8 Try.underlying28 info_int s rfl (hs.bring1.alloc _) rfl (World.cell?_alloc_at _ _ _ _ rfl) (by rw [HNU.out]; omega) (by rw [HNU.out]; unfold maxLen; omega) ?_; intro v9 w9 hs2; have hcx := HCX.out _ hs2.p2) | (at_builtin; refine wp_app1S rfl rfl .i64 3 8 Try.underlying28 info_int x rfl (hs2.bring1.alloc _) rfl (World.cell?_alloc_at _ _ _ _ rfl) (by rw [HNV.out]; omega) (by rw [HNV.out]; unfold maxLen; omega) ?_; intro v8 w8 hs3))
        go_roundw
        case rel => exact ⟨j + 1, hlt, by have := HP.out; exact intv (by omega), by rw [HT.out, HU.out]; exact hs3⟩
        case measure => (simp [intOf]; try omega)
      · subst hx
        have p2 : ¬ (p : Int) < 0 := by omega
        go_wp2_with (at_builtin; refine wp_app1S rfl rfl .i64 3 8 Try.underlying28 info_int s rfl (hs.bring1.alloc _) rfl (World.cell?_alloc_at _ _ _ _ rfl) (by rw [HNU.out]; omega) (by rw [HNU.out]; unfold maxLen; omega) ?_; intro v9 w9 hs)
        go_roundw
        case rel => exact ⟨_, _, _, ⟨j + 1, hlt, by have := HP.out; exact intv (by omega), by rw [HT.out]; exact (by simpa using hs.bring1)⟩, rfl, rfl, rfl⟩
        case measure => (simp [intOf]; try omega)
    · obtain rfl : j = xs.length := by omega
      have e1 : xs.reverse.take xs.length = xs.reverse := List.take_of_length_le (by simp)
      have e2 : X.reverse.take xs.length = X.reverse := List.take_of_length_le (by rcases HX.out with h | h <;> simp [h])
      rw [e1, e2] at hs
      have hq : (xs.length : Int) - 1 - (xs.length : Int) = -1 := by omega
      rw [hq]
      clear e1 e2 hq lv lu
      go_wp2_with fail
      refine (SH.own hs (by repeat' (first | with_reducible exact Below.refl _ _ | with_reducible assumption | with_reducible refine below_drewN ?_ _ | with_reducible refine Below.drew ?_ | with_reducible refine Below.alloc ?_ ?_ _ | with_reducible refine Below.setCell ?_ ?_ _ | go_size)) fun hs => HA.out _ _ (OwnK.rd hs.p1)).mono ?_
      rintro e w5 ⟨v5, rfl, hs⟩
      go_wp2_with fail
      refine (SH.quiet hs (by repeat' (first | with_reducible exact Below.refl _ _ | with_reducible assumption | with_reducible refine below_drewN ?_ _ | with_reducible refine Below.drew ?_ | with_reducible refine Below.alloc ?_ ?_ _ | with_reducible refine Below.setCell ?_ ?_ _ | go_size)) fun hs => sameInts_c _ _ _ _ _ (OwnK.rd hs.p0) (OwnK.rd hs.p1)).mono ?_
      rintro e w6 ⟨rfl, hs⟩
      rw [show decide (X.reverse = X.reverse) = true by simp]
      go_wp2_with fail
      refine (SH.ret hs (by repeat' (first | with_reducible exact Below.refl _ _ | with_reducible assumption | with_reducible refine below_drewN ?_ _ | with_reducible refine Below.drew ?_ | with_reducible refine Below.alloc ?_ ?_ _ | with_reducible refine Below.setCell ?_ ?_ _ | go_size)) fun hs => alive_c _).mono ?_
      rintro e w7 ⟨v, rfl, rfl, hs⟩
      go_wp2
      go_ret
      exact Ret.mk1 rfl (SH.done (by first | exact hs | exact (hs).alloc _ | exact ((hs).alloc _).alloc _ | exact (((hs).alloc _).alloc _).alloc _ | exact ((((hs).alloc _).alloc _).alloc _).alloc _ | exact (hs).drew | exact ((hs).alloc _).drew | exact (((hs).alloc _).alloc _).drew | exact ((((hs).alloc _).alloc _).alloc _).drew | exact (((((hs).alloc _).alloc _).alloc _).alloc _).drew | exact (hs).drewN _ | exact ((hs).alloc _).drewN _ | exact (((hs).alloc _).alloc _).drewN _ | exact ((((hs).alloc _).alloc _).alloc _).drewN _ | exact (((((hs).alloc _).alloc _).alloc _).alloc _).drewN _))
end Go.Proofs.Ytdfinlpfkmmpkaa
