import Derived.Test.YtdfinlpfkmmpkaaProg
import Derived.Test.YtdfinlpfkmmpkaaDrawAcc
import Derived.Deep.RegionHeld3
namespace Go.Proofs.Ytdfinlpfkmmpkaa
open Go.RowKit

theorem own_cellR {w : World} {t : TypeId} {g n cap i : Nat} {xs : List Int} (h : OwnK .i64 w 0 t (.slice (some ⟨g, 0, none⟩) n cap) xs) (hi : i < n) : w.cell? ⟨g, i, none⟩ = some (.int .i64 (gi xs i)) := by
  obtain ⟨g', e, -, -, h1, -⟩ := OwnK.at_ h hi
  cases e
  exact h1
theorem own_someR {k : IntKind} {w : World} {base : Nat} {t : TypeId} {a : Option Addr} {n cap : Nat} {xs : List Int} (h : OwnK k w base t (.slice a n cap) xs) (hn : 0 < n) : ∃ g, a = some ⟨g, 0, none⟩ := by
  obtain ⟨g, e, _⟩ := h.at_ hn
  exact ⟨g, e⟩

theorem size_allocR (w : World) (o : Obj) : (w.alloc o).heap.size = w.heap.size + 1 := by unfold World.alloc; exact Array.size_push _
theorem same_trueR (l : List Int) : decide (l = l) = true := by simp
structure OutOK (n : Nat) (X : List Int) : Prop where
  bd : ∀ k, k < n → -1 ≤ gi X k ∧ gi X k < 400
  one : n = 1 → gi X 0 = 0
  many : 1 < n → ∀ k, k < n → gi X k ≠ 0
  dis : ∀ j k, j < k → k < n → ¬ (gi X j = gi X k ∧ 0 ≤ gi X k)
theorem out_ok {seeds : List Int} (h : acB seeds = true) : OutOK seeds.length (acV seeds) := by
  have hok := OkS.run h 400
  refine ⟨fun k hk => ?_, fun hn => ?_, fun hn k hk => ?_, fun j k hjk hk he => ?_⟩
  · rw [acV_gi h hk]; have := hok.o k hk; omega
  · rw [acV_gi h (by omega)]
    match seeds, hn with
    | [s], _ => exact solo 399
  · rw [acV_gi h hk]; exact several hn 400 k hk
  · rw [acV_gi h hk, acV_gi h (by omega)] at he
    exact hok.d j k (by omega) hk (by omega) he.2 he.1

set_option maxRecDepth 100000 in
set_option maxHeartbeats 8000000 in
theorem fnAccessRun_c (vc : Value) (c : List Int) (w : World) (hc : RdB w vc c) (bc : ∀ n ∈ c, (Lit.int .u8 n).wf = true) :
    Calls Try.prog 12 #[vc] w (Ret w fun v _ => v = .bool true) := by
  have hs := SH.add (p := rdP .u8 vc c) (SH.start0 w) (by simp) hc rdP_wr
  obtain ⟨ac, cc, rfl, -⟩ := hc.form
  have Bc := Lib.hid bc
  clear hc bc
  by_cases lc : c.length ≤ 1048576
  case neg =>
    go_enter Try.func12, Try.ntmps12
    go_wp2
    go_ret
    exact Ret.mk1 rfl (Below.refl _ _)
  go_enter Try.func12, Try.ntmps12
  go_wp2_with fail
  refine (DrawAccessRun_s _ c _ (by first | exact hs | exact (hs).allocP1 _ _ | exact ((hs).allocP1 _ _).allocP1 _ _ | exact (((hs).allocP1 _ _).allocP1 _ _).allocP1 _ _ | exact ((((hs).allocP1 _ _).allocP1 _ _).allocP1 _ _).allocP1 _ _ | exact (hs).drew | exact ((hs).allocP1 _ _).drew | exact (((hs).allocP1 _ _).allocP1 _ _).drew | exact ((((hs).allocP1 _ _).allocP1 _ _).allocP1 _ _).drew | exact (((((hs).allocP1 _ _).allocP1 _ _).allocP1 _ _).allocP1 _ _).drew | exact (hs).drewN _ | exact ((hs).allocP1 _ _).drewN _ | exact (((hs).allocP1 _ _).allocP1 _ _).drewN _ | exact ((((hs).allocP1 _ _).allocP1 _ _).allocP1 _ _).drewN _ | exact (((((hs).allocP1 _ _).allocP1 _ _).allocP1 _ _).allocP1 _ _).drewN _) Bc.out).mono ?_
  rintro e w1 ⟨v1, xs, rfl, hl8, hs⟩
  obtain ⟨a1, c1, rfl, -⟩ := (OwnK.rd hs.p0).form
  go_wp2_with fail
  refine (SH.own hs (by repeat' (first | with_reducible exact Below.refl _ _ | with_reducible assumption | with_reducible refine below_drewN ?_ _ | with_reducible refine Below.drew ?_ | with_reducible refine Below.alloc ?_ ?_ _ | with_reducible refine Below.setCell ?_ ?_ _ | go_size)) fun hs => implAccessRun_c _ xs _ (OwnK.rd hs.p0)).mono ?_
  rintro e w2 ⟨v2, rfl, hs⟩
  go_wp2_with fail
  refine (SH.own hs (by repeat' (first | with_reducible exact Below.refl _ _ | with_reducible assumption | with_reducible refine below_drewN ?_ _ | with_reducible refine Below.drew ?_ | with_reducible refine Below.alloc ?_ ?_ _ | with_reducible refine Below.setCell ?_ ?_ _ | go_size)) fun hs => specAccessRun_c _ xs _ (OwnK.rd hs.p1)).mono ?_
  rintro e w3 ⟨v3, rfl, hs⟩
  go_wp2_with fail
  refine (SH.quiet hs (by repeat' (first | with_reducible exact Below.refl _ _ | with_reducible assumption | with_reducible refine below_drewN ?_ _ | with_reducible refine Below.drew ?_ | with_reducible refine Below.alloc ?_ ?_ _ | with_reducible refine Below.setCell ?_ ?_ _ | go_size)) fun hs => sameInts_c _ _ _ _ _ (OwnK.rd hs.p1) (OwnK.rd hs.p0)).mono ?_
  rintro e w4 ⟨rfl, hs⟩
  rw [show decide (acV xs = acV xs) = true by simp]
  have hs := hs.drop0
  have hvl := acV_le xs
  cases hb : acB xs
  case false =>
    obtain ⟨X, hX⟩ : ∃ X, acV xs = X := ⟨_, rfl⟩
    have hx0 : X = [] := by rw [← hX]; exact acV_no hb
    rw [hX] at hs
    subst hx0
    clear hX hvl
    obtain ⟨a2, c2, rfl, -⟩ := (OwnK.rd hs.p0).form
    by_cases hx : xs.length = 0
    · have hx2 : ((0 : Int) != (xs.length : Int)) = false := by simp [hx]
      have hx3 : ((xs.length : Int) == 0) = true := by simp [hx]
      clear hx
      go_wp2_with fail
      refine (SH.ret hs (by repeat' (first | with_reducible exact Below.refl _ _ | with_reducible assumption | with_reducible refine below_drewN ?_ _ | with_reducible refine Below.drew ?_ | with_reducible refine Below.alloc ?_ ?_ _ | with_reducible refine Below.setCell ?_ ?_ _ | go_size)) fun hs => alive_c _).mono ?_
      rintro e w5 ⟨v, rfl, rfl, hs⟩
      go_wp2
      go_ret
      exact Ret.mk1 rfl (SH.done (by first | exact hs | exact (hs).alloc _ | exact ((hs).alloc _).alloc _ | exact (((hs).alloc _).alloc _).alloc _ | exact ((((hs).alloc _).alloc _).alloc _).alloc _ | exact (hs).drew | exact ((hs).alloc _).drew | exact (((hs).alloc _).alloc _).drew | exact ((((hs).alloc _).alloc _).alloc _).drew | exact (((((hs).alloc _).alloc _).alloc _).alloc _).drew | exact (hs).drewN _ | exact ((hs).alloc _).drewN _ | exact (((hs).alloc _).alloc _).drewN _ | exact ((((hs).alloc _).alloc _).alloc _).drewN _ | exact (((((hs).alloc _).alloc _).alloc _).alloc _).drewN _))
    · have hx2 : ((0 : Int) != (xs.length : Int)) = true := by simp; omega
      clear hx
      go_wp2_with fail
      refine (SH.ret hs (by repeat' (first | with_reducible exact Below.refl _ _ | with_reducible assumption | with_reducible refine below_drewN ?_ _ | with_reducible refine Below.drew ?_ | with_reducible refine Below.alloc ?_ ?_ _ | with_reducible refine Below.setCell ?_ ?_ _ | go_size)) fun hs => alive_c _).mono ?_
      rintro e w5 ⟨v, rfl, rfl, hs⟩
      go_wp2
      go_ret
      exact Ret.mk1 rfl (SH.done (by first | exact hs | exact (hs).alloc _ | exact ((hs).alloc _).alloc _ | exact (((hs).alloc _).alloc _).alloc _ | exact ((((hs).alloc _).alloc _).alloc _).alloc _ | exact (hs).drew | exact ((hs).alloc _).drew | exact (((hs).alloc _).alloc _).drew | exact ((((hs).alloc _).alloc _).alloc _).drew | exact (((((hs).alloc _).alloc _).alloc _).alloc _).drew | exact (hs).drewN _ | exact ((hs).alloc _).drewN _ | exact (((hs).alloc _).alloc _).drewN _ | exact ((((hs).alloc _).alloc _).alloc _).drewN _ | exact (((((hs).alloc _).alloc _).alloc _).alloc _).drewN _))
  have HV0 := Lib.hid (acB_true.1 hb).2
  have hok := out_ok hb
  have hvn := acV_len hb
  have HOK := Lib.hid hok
  have HVN := Lib.hid hvn
  clear hb hok hvl
  generalize acV xs = X at *
  obtain ⟨a2, c2, rfl, -⟩ := (OwnK.rd hs.p0).form
  rw [HVN.out] at hs ⊢
  clear hvn
  by_cases hx : xs.length = 0
  · have hx2 : ((xs.length : Int) != (xs.length : Int)) = false := bne_self_eq_false _
    have hx3 : ((xs.length : Int) == 0) = true := by simp [hx]
    have HX := Lib.hid hx
    clear hx
    go_wp2_with fail
    refine (SH.ret hs (by repeat' (first | with_reducible exact Below.refl _ _ | with_reducible assumption | with_reducible refine below_drewN ?_ _ | with_reducible refine Below.drew ?_ | with_reducible refine Below.alloc ?_ ?_ _ | with_reducible refine Below.setCell ?_ ?_ _ | go_size)) fun hs => alive_c _).mono ?_
    rintro e w5 ⟨v, rfl, rfl, hs⟩
    go_wp2
    go_ret
    exact Ret.mk1 rfl (SH.done (by first | exact hs | exact (hs).alloc _ | exact ((hs).alloc _).alloc _ | exact (((hs).alloc _).alloc _).alloc _ | exact ((((hs).alloc _).alloc _).alloc _).alloc _ | exact (hs).drew | exact ((hs).alloc _).drew | exact (((hs).alloc _).alloc _).drew | exact ((((hs).alloc _).alloc _).alloc _).drew | exact (((((hs).alloc _).alloc _).alloc _).alloc _).drew | exact (hs).drewN _ | exact ((hs).alloc _).drewN _ | exact (((hs).alloc _).alloc _).drewN _ | exact ((((hs).alloc _).alloc _).alloc _).drewN _ | exact (((((hs).alloc _).alloc _).alloc _).alloc _).drewN _))
  have hx2 : ((xs.length : Int) != (xs.length : Int)) = false := bne_self_eq_false _
  have hx3 : ((xs.length : Int) == 0) = false := by simp only [beq_eq_false_iff_ne]; omega
  have hn0 : 0 < xs.length := by omega
  obtain ⟨gX, rfl⟩ := own_someR hs.p0 hn0
  obtain ⟨gS, rfl⟩ := own_someR hs.p1 hn0
  clear hx
  go_wp2
  clear hx2 hx3
  go_loopw [5] (fun i wr => ∃ k : Nat, k ≤ xs.length ∧ i = .int .i64 k ∧ SH none w wr [ownP .i64 3 (.slice (some ⟨gX, 0, none⟩) xs.length c2) X, ownP .i64 3 (.slice (some ⟨gS, 0, none⟩) xs.length c1) xs, rdP .u8 (.slice ac c.length cc) c]) (fun i _ => xs.length - (intOf i).toNat)
  case atStart => exact ⟨0, Nat.zero_le _, rfl, hs⟩
  case round =>
    clear hs
    obtain ⟨k, hk, rfl, hs⟩ := hrel
    by_cases hlt : k < xs.length
    · have hck := own_cellR hs.p0 hlt
      obtain ⟨hb0, hb1⟩ := HOK.out.bd k hlt
      have k0 : (0 : Int) ≤ (k : Int) := by omega
      have k1 : (k : Int) < (xs.length : Int) := by omega
      have HONE : Hid (xs.length = 1 → gi X k = 0) := Lib.hid (fun h => by have h2 : k = 0 := (by omega); rw [h2]; exact HOK.out.one h)
      have HMANY : Hid (1 < xs.length → gi X k ≠ 0) := Lib.hid (fun h => HOK.out.many h k hlt)
      have HG : Hid (∀ j, j < k → ¬ (gi X j = gi X k ∧ 0 ≤ gi X k)) := Lib.hid (fun j hj => HOK.out.dis j k hj hlt)
      have HXK : Hid (∀ wr, SH none w wr [ownP .i64 3 (.slice (some ⟨gX, 0, none⟩) xs.length c2) X, ownP .i64 3 (.slice (some ⟨gS, 0, none⟩) xs.length c1) xs, rdP .u8 (.slice ac c.length cc) c] → wr.cell? ⟨gX, k, none⟩ = some (.int .i64 (gi X k))) := Lib.hid (fun wr h => own_cellR h.p0 hlt)
      obtain ⟨xk, hxk⟩ : ∃ x, gi X k = x := ⟨_, rfl⟩
      rw [hxk] at hck hb0 hb1 HONE HMANY HG HXK
      clear hxk
      by_cases hone : xs.length = 1
      · have e1 : ((xs.length : Int) == 1) = true := by simp [hone]
        have e2 : xk = 0 := HONE.out hone
        have e3 : (xk != 0) = false := by simp [e2]
        have e4 : ¬ (1 < (xs.length : Int)) := by omega
        have HE2 := Lib.hid e2
        have HON := Lib.hid hone
        clear hone e2
        go_wp2
        try rw [decide_eq_true hlt]
        go_loopw [6] (fun i wr => ∃ j : Nat, j ≤ k ∧ i = .int .i64 j ∧ SH none w wr [ownP .i64 3 (.slice (some ⟨gX, 0, none⟩) xs.length c2) X, ownP .i64 3 (.slice (some ⟨gS, 0, none⟩) xs.length c1) xs, rdP .u8 (.slice ac c.length cc) c]) (fun i _ => k - (intOf i).toNat)
        case atStart => exact ⟨0, Nat.zero_le _, rfl, hs⟩
        case round =>
          clear hs hck
          obtain ⟨j, hj, rfl, hs⟩ := hrel
          have hck := HXK.out _ hs
          by_cases hjl : j < k
          · have hcj := own_cellR hs.p0 (show j < xs.length by omega)
            have j0 : (0 : Int) ≤ (j : Int) := by omega
            have j1 : (j : Int) < (xs.length : Int) := by omega
            obtain ⟨xj, hxj⟩ : ∃ x, gi X j = x := ⟨_, rfl⟩
            have HGJ := Lib.hid (HG.out j hjl)
            rw [hxj] at hcj HGJ
            clear hxj
            by_cases q1 : xj = xk
            · have d1 : (xj == xk) = true := by simp [q1]
              have d2 : decide (0 ≤ xk) = false := decide_eq_false (fun h => HGJ.out ⟨q1, h⟩)
              clear q1
              go_wp2
              go_quiet (fail)
              go_wp2
              go_roundw
              case rel => exact ⟨j + 1, hjl, by go_num, hs.drewN _⟩
              case measure => simp [intOf]; omega
            · have d1 : (xj == xk) = false := by simp [q1]
              clear q1
              go_wp2
              go_quiet (fail)
              go_wp2
              go_roundw
              case rel => exact ⟨j + 1, hjl, by go_num, hs.drewN _⟩
              case measure => simp [intOf]; omega
          · obtain rfl : j = k := by omega
            go_wp2
            go_roundw
            case rel => exact ⟨j + 1, hlt, by go_num, hs⟩
            case measure => simp [intOf]; omega
      · have e1 : ((xs.length : Int) == 1) = false := by simp; omega
        have e2 : 1 < (xs.length : Int) := by omega
        have e3 : (xk == 0) = false := by have := HMANY.out (by omega); simp [this]
        clear hone
        go_wp2
        try rw [decide_eq_true hlt]
        go_loopw [6] (fun i wr => ∃ j : Nat, j ≤ k ∧ i = .int .i64 j ∧ SH none w wr [ownP .i64 3 (.slice (some ⟨gX, 0, none⟩) xs.length c2) X, ownP .i64 3 (.slice (some ⟨gS, 0, none⟩) xs.length c1) xs, rdP .u8 (.slice ac c.length cc) c]) (fun i _ => k - (intOf i).toNat)
        case atStart => exact ⟨0, Nat.zero_le _, rfl, hs⟩
        case round =>
          clear hs hck
          obtain ⟨j, hj, rfl, hs⟩ := hrel
          have hck := HXK.out _ hs
          by_cases hjl : j < k
          · have hcj := own_cellR hs.p0 (show j < xs.length by omega)
            have j0 : (0 : Int) ≤ (j : Int) := by omega
            have j1 : (j : Int) < (xs.length : Int) := by omega
            obtain ⟨xj, hxj⟩ : ∃ x, gi X j = x := ⟨_, rfl⟩
            have HGJ := Lib.hid (HG.out j hjl)
            rw [hxj] at hcj HGJ
            clear hxj
            by_cases q1 : xj = xk
            · have d1 : (xj == xk) = true := by simp [q1]
              have d2 : decide (0 ≤ xk) = false := decide_eq_false (fun h => HGJ.out ⟨q1, h⟩)
              clear q1
              go_wp2
              go_quiet (fail)
              go_wp2
              go_roundw
              case rel => exact ⟨j + 1, hjl, by go_num, hs.drewN _⟩
              case measure => simp [intOf]; omega
            · have d1 : (xj == xk) = false := by simp [q1]
              clear q1
              go_wp2
              go_quiet (fail)
              go_wp2
              go_roundw
              case rel => exact ⟨j + 1, hjl, by go_num, hs.drewN _⟩
              case measure => simp [intOf]; omega
          · obtain rfl : j = k := by omega
            go_wp2
            go_roundw
            case rel => exact ⟨j + 1, hlt, by go_num, hs⟩
            case measure => simp [intOf]; omega
    · have hc0 := own_cellR hs.p1 hn0
      have HAL := Lib.hid (acV_alike (HV0.out 0 hn0).1 (HV0.out 0 hn0).2)
      have l0 : (0 : Int) < (xs.length : Int) := by omega
      obtain ⟨s0, hs0⟩ : ∃ x, gi xs 0 = x := ⟨_, rfl⟩
      rw [hs0] at hc0 HAL
      have HCON : Hid (∀ v w, RdI w v [s0, s0] → Calls Try.prog 36 #[v] w (Ret w fun v w' => OwnI w' w.heap.size 3 v [-1, -1])) := Lib.hid (fun v w h => by have := implAccessRun_c v [s0, s0] w h; rwa [HAL.out] at this)
      clear HAL
      go_wp2
      have HC0 : Hid (∀ wx, OwnK .i64 wx 0 3 (.slice (some ⟨gS, 0, none⟩) xs.length c1) xs → wx.cell? ⟨gS, 0, none⟩ = some (.int .i64 s0)) := Lib.hid (fun wx h => by rw [own_cellR h hn0, hs0])
      clear hs0
      have HD0 : Hid (wr.drew.cell? ⟨gS, 0, none⟩ = some (.int .i64 s0)) := Lib.hid (HC0.out _ hs.drew.p1)
      have HD1a : Hid (∀ o, (wr.drew.alloc o).cell? ⟨gS, 0, none⟩ = some (.int .i64 s0)) := Lib.hid (fun o => HC0.out _ (hs.drew.alloc o).p1)
      have HD1b : Hid (∀ o, (wr.alloc o).drew.cell? ⟨gS, 0, none⟩ = some (.int .i64 s0)) := Lib.hid (fun o => HC0.out _ (hs.alloc o).drew.p1)
      have HD2a : Hid (∀ o q, ((wr.drew.alloc o).alloc q).cell? ⟨gS, 0, none⟩ = some (.int .i64 s0)) := Lib.hid (fun o q => HC0.out _ ((hs.drew.alloc o).alloc q).p1)
      have HD2b : Hid (∀ o q, ((wr.alloc o).drew.alloc q).cell? ⟨gS, 0, none⟩ = some (.int .i64 s0)) := Lib.hid (fun o q => HC0.out _ ((hs.alloc o).drew.alloc q).p1)
      have HD2c : Hid (∀ o q, ((wr.alloc o).alloc q).drew.cell? ⟨gS, 0, none⟩ = some (.int .i64 s0)) := Lib.hid (fun o q => HC0.out _ ((hs.alloc o).alloc q).drew.p1)
      go_region_held3 (fun wx => wx.cell? ⟨gS, 0, none⟩ = some (.int .i64 s0)) (first | (with_reducible exact HD0.out) | (with_reducible exact HD1a.out _) | (with_reducible exact HD1b.out _) | (with_reducible exact HD2a.out _ _) | (with_reducible exact HD2b.out _ _) | (with_reducible exact HD2c.out _ _) | exact HC0.out _ hs6.p4 | exact HC0.out _ hs5b.p4 | exact HC0.out _ hs5c.p4 | exact HC0.out _ hs5a.p3 | exact HC0.out _ (hs5a.alloc _).p3 | fail) (first | ((with_reducible show Calls _ _ _ (World.drew (World.alloc wr _)) _); go_at_call 36; have hq := ((hs.ownLit .i64 3 [s0, s0] (by simp [maxLen])).drew); (try simp only [size_allocR] at hq); refine (SH.own hq (Below.refl _ _) fun hs => HCON.out _ _ (OwnK.rd hs.p0)).mono ?_; rintro e w5 ⟨v5, rfl, hs5a⟩; obtain ⟨a5, c5, rfl, -⟩ := (OwnK.rd hs5a.p0).form) | ((with_reducible show Calls _ _ _ (World.alloc (World.drew wr) _) _); go_at_call 36; have hq := (hs.drew.ownLit .i64 3 [s0, s0] (by simp [maxLen])); (try simp only [size_allocR] at hq); refine (SH.own hq (Below.refl _ _) fun hs => HCON.out _ _ (OwnK.rd hs.p0)).mono ?_; rintro e w5 ⟨v5, rfl, hs5a⟩; obtain ⟨a5, c5, rfl, -⟩ := (OwnK.rd hs5a.p0).form) | ((with_reducible show Calls _ _ _ (World.drew (World.alloc (World.alloc wr (Obj.cells #[Value.int _ s0, _] _)) _)) _); go_at_call 36; have hq := (((hs.ownLit .i64 3 [s0, s0] (by simp [maxLen])).ownLit .i64 3 [-1, -1] (by simp [maxLen])).drew); (try simp only [size_allocR] at hq); refine (SH.own hq (Below.refl _ _) fun hs => HCON.out _ _ (OwnK.rd hs.p1)).mono ?_; rintro e w5 ⟨v5, rfl, hs5b⟩; obtain ⟨a5, c5, rfl, -⟩ := (OwnK.rd hs5b.p0).form) | ((with_reducible show Calls _ _ _ (World.alloc (World.drew (World.alloc wr (Obj.cells #[Value.int _ s0, _] _))) _) _); go_at_call 36; have hq := (((hs.ownLit .i64 3 [s0, s0] (by simp [maxLen])).drew).ownLit .i64 3 [-1, -1] (by simp [maxLen])); (try simp only [size_allocR] at hq); refine (SH.own hq (Below.refl _ _) fun hs => HCON.out _ _ (OwnK.rd hs.p1)).mono ?_; rintro e w5 ⟨v5, rfl, hs5b⟩; obtain ⟨a5, c5, rfl, -⟩ := (OwnK.rd hs5b.p0).form) | ((with_reducible show Calls _ _ _ (World.alloc (World.alloc (World.drew wr) (Obj.cells #[Value.int _ s0, _] _)) _) _); go_at_call 36; have hq := ((hs.drew.ownLit .i64 3 [s0, s0] (by simp [maxLen])).ownLit .i64 3 [-1, -1] (by simp [maxLen])); (try simp only [size_allocR] at hq); refine (SH.own hq (Below.refl _ _) fun hs => HCON.out _ _ (OwnK.rd hs.p1)).mono ?_; rintro e w5 ⟨v5, rfl, hs5b⟩; obtain ⟨a5, c5, rfl, -⟩ := (OwnK.rd hs5b.p0).form) | ((with_reducible show Calls _ _ _ (World.drew (World.alloc (World.alloc wr (Obj.cells #[Value.int _ (-1), _] _)) _)) _); go_at_call 36; have hq := (((hs.ownLit .i64 3 [-1, -1] (by simp [maxLen])).ownLit .i64 3 [s0, s0] (by simp [maxLen])).drew); (try simp only [size_allocR] at hq); refine (SH.own hq (Below.refl _ _) fun hs => HCON.out _ _ (OwnK.rd hs.p0)).mono ?_; rintro e w5 ⟨v5, rfl, hs5c⟩; obtain ⟨a5, c5, rfl, -⟩ := (OwnK.rd hs5c.p0).form) | ((with_reducible show Calls _ _ _ (World.alloc (World.drew (World.alloc wr (Obj.cells #[Value.int _ (-1), _] _))) _) _); go_at_call 36; have hq := (((hs.ownLit .i64 3 [-1, -1] (by simp [maxLen])).drew).ownLit .i64 3 [s0, s0] (by simp [maxLen])); (try simp only [size_allocR] at hq); refine (SH.own hq (Below.refl _ _) fun hs => HCON.out _ _ (OwnK.rd hs.p0)).mono ?_; rintro e w5 ⟨v5, rfl, hs5c⟩; obtain ⟨a5, c5, rfl, -⟩ := (OwnK.rd hs5c.p0).form) | ((with_reducible show Calls _ _ _ (World.alloc (World.alloc (World.drew wr) (Obj.cells #[Value.int _ (-1), _] _)) _) _); go_at_call 36; have hq := ((hs.drew.ownLit .i64 3 [-1, -1] (by simp [maxLen])).ownLit .i64 3 [s0, s0] (by simp [maxLen])); (try simp only [size_allocR] at hq); refine (SH.own hq (Below.refl _ _) fun hs => HCON.out _ _ (OwnK.rd hs.p0)).mono ?_; rintro e w5 ⟨v5, rfl, hs5c⟩; obtain ⟨a5, c5, rfl, -⟩ := (OwnK.rd hs5c.p0).form) | (have hs5b := hs5b; go_at_call 28; have hq := (hs5b); (try simp only [size_allocR] at hq); refine (SH.quiet hq (Below.refl _ _) fun hs => sameInts_c _ _ [-1, -1] [-1, -1] _ (OwnK.rd hs.p0) (OwnK.rd hs.p1)).mono ?_; rintro e w6 ⟨rfl, hs6⟩; rw [same_trueR [-1, -1]]) | (have hs5c := hs5c; go_at_call 28; have hq := (hs5c); (try simp only [size_allocR] at hq); refine (SH.quiet hq (Below.refl _ _) fun hs => sameInts_c _ _ [-1, -1] [-1, -1] _ (OwnK.rd hs.p0) (OwnK.rd hs.p2)).mono ?_; rintro e w6 ⟨rfl, hs6⟩; rw [same_trueR [-1, -1]]) | (have hs5a := hs5a; go_at_call 28; have hq := (hs5a.ownLit .i64 3 [-1, -1] (by simp [maxLen])); (try simp only [size_allocR] at hq); refine (SH.quiet hq (Below.refl _ _) fun hs => sameInts_c _ _ [-1, -1] [-1, -1] _ (OwnK.rd hs.p1) (OwnK.rd hs.p0)).mono ?_; rintro e w6 ⟨rfl, hs6⟩; rw [same_trueR [-1, -1]]) | fail)
      all_goals go_wp2
      all_goals go_ret
      all_goals exact Ret.mk1 rfl (SH.done hs6)
end Go.Proofs.Ytdfinlpfkmmpkaa
