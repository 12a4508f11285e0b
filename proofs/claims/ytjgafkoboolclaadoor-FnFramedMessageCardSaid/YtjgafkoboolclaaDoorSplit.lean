import Derived.Test.YtjgafkoboolclaaDoorProg
import Derived.Test.YtjgafkoboolclaaDoorLib
import Derived.Test.YtjgafkoboolclaaDoorMem
import Derived.Test.YtjgafkoboolclaaDoorSym
import Derived.Test.YtjgafkoboolclaaDoorInts
import Derived.Test.YtjgafkoboolclaaDoorBytes
import Derived.Test.YtjgafkoboolclaaDoorApp
import Derived.Test.YtjgafkoboolclaaDoorBlk
import Derived.Test.YtjgafkoboolclaaDoorFrag
namespace Go.Proofs.YtjgafkoboolclaaDoor
open Go.RowKit

variable {row : Option Nat} {w0 w w' W : World} {I J : List Part} {a b q : Part}
/-- parts made by a call, beside the caller's -/
theorem SH.joinS (hs : SH row w0 w I) (hb : Below w.heap.size w W) (h : SH none W w' J) (hJ : ∀ p ∈ J, ∀ g, p.on g → p.wr g) : SH row w0 w' (J ++ I) := by
  have h1 := (hs.below hb).below h.done
  have hnew : ∀ p ∈ J, ∀ g, p.wr g → W.heap.size ≤ g := fun p hp g hg => by
    rcases h.new p hp g hg with h2 | h2
    · exact h2
    · cases h2
  have hlt : ∀ p ∈ I, ∀ g, p.on g → g < W.heap.size := fun p hp g hg => Nat.lt_of_lt_of_le (p.lt w (hs.says p hp) g hg) hb.size
  refine ⟨h1.grown, fun p hp => ?_, fun p hp g hg => ?_, ?_⟩
  · rcases List.mem_append.1 hp with hp | hp
    · exact h.says p hp
    · exact h1.says p hp
  · rcases List.mem_append.1 hp with hp | hp
    · exact .inl (Nat.le_trans (hs.below hb).grown.size (hnew p hp g hg))
    · exact h1.new p hp g hg
  · refine List.pairwise_append.2 ⟨h.apart, h1.apart, fun p hp q hq g => ⟨fun h2 h3 => ?_, fun h2 h3 => ?_⟩⟩
    · exact Nat.lt_irrefl _ (Nat.lt_of_lt_of_le (hlt q hq g h3) (hnew p hp g h2))
    · exact Nat.lt_irrefl _ (Nat.lt_of_lt_of_le (hlt q hq g (q.sub g h2)) (hnew p hp g (hJ p hp g h3)))
/-- the frame of a list of fragments -/
def fragI (t : TypeId) (v : Value) (vs : Nat → Value) (fs : List Frag) : List Part := [ownMP 4 t v fs.length (frC fs vs), innB vs (fun i => (fr fs i).d) fs.length]
theorem fragI_on {t : TypeId} {v : Value} {vs : Nat → Value} {fs : List Frag} : ∀ p ∈ fragI t v vs fs, ∀ g, p.on g → p.wr g := by
  intro p hp g hg
  simp only [fragI, List.mem_cons, List.not_mem_nil, or_false] at hp
  rcases hp with rfl | rfl
  · exact hg
  · exact hg

theorem RdK.sub {k : IntKind} {w : World} {b off n cap : Nat} {xs : List Int} (h : RdK k w (.slice (some ⟨b, off, none⟩) n cap) xs) {i m : Nat} (hm : i + m ≤ n) : RdK k w (.slice (some ⟨b, off + i, none⟩) m (cap - i)) ((xs.drop i).take m) := by
  obtain ⟨ad, cp, hv, hl, hmx, hc⟩ := h
  obtain ⟨rfl, rfl, rfl⟩ := Value.slice.inj hv
  have e : ((xs.drop i).take m).length = m := by simp; omega
  refine ⟨some ⟨b, off + i, none⟩, cap - i, by rw [e], by omega, by omega, fun j hj => ?_⟩
  rw [e] at hj
  obtain ⟨b', o', hx, hcell⟩ := hc (i + j) (by omega)
  simp only [Option.some.injEq, Addr.mk.injEq, and_true] at hx
  obtain ⟨rfl, rfl⟩ := hx
  refine ⟨b, off + i, rfl, ?_⟩
  rw [Nat.add_assoc, hcell]
  have e2 : gi ((xs.drop i).take m) j = gi xs (i + j) := by simp [gi, hj]
  rw [e2]

section
variable {P : Program} {ops : Array Oper} {o : Oper} {a : Act} {Q : Exit → Act → World → Prop}
/-- 'append(s, x...)' in a region that draws its order: for go_region_held3. -/
theorem step_appKS {K : Act → World → Prop} {E : Prop} (hgd : o.guard = none) {s x : Operand} {t : TypeId}
    (ho : o.op = .call { callee := .builtin .append, args := #[s, x], argTypes := #[t, t] }) (k : IntKind)
    (e bytes : Nat) (h1 : P.underlying t = some (.slice e)) (hinfo : (P.info? e).map (fun i => (i.zero, i.size, i.bytes)) = some (some (.int k 0), 1, bytes))
    {v : Value} {xs ys : List Int} (hs : a.eval s = v) (hown : SH row w0 w (ownP k e v xs :: I))
    {ad : Addr} {n c : Nat} (hx : a.eval x = .slice (some ad) n c) (hrd : RdK k w (.slice (some ad) n c) ys)
    (hbytes : (xs.length + ys.length) * bytes ≤ 140737488355328) (h63 : xs.length + ys.length ≤ maxLen)
    (h : ∀ v' w', SH row w0 w' (ownP k e v' (xs ++ ys) :: I) → K (a.put o.dst v') w') :
    if Region.wanted o (yielded ops a.tmps) = true then Oper.wp P o a w K Q else E := by
  have hw : Region.wanted o (yielded ops a.tmps) = true := by simp [Region.wanted, hgd]
  rw [if_pos hw]
  obtain ⟨i, h2, h3, h4, h5⟩ := info_parts hinfo
  have hO : OwnK k w 0 e v xs := hown.p0
  obtain ⟨_, _, hv, hl, hmx, hc⟩ := id hrd
  obtain ⟨rfl, rfl, rfl⟩ := Value.slice.inj hv
  obtain ⟨v', w', r1, r2, r3, -, r5⟩ := run_append_own_at (P := P) (w := w) 0 t o.type e i (.int k 0) 1 bytes h1 h2 h3 h4 h5 rfl (by decide) v xs.length (xs.map (Value.int k)) hO ad ys.length c (ys.map (Value.int k)) (by simp)
    (fun q u hq => by
      have hlt : q < ys.length := by
        rcases Nat.lt_or_ge q ys.length with h | h
        · exact h
        · rw [List.getElem?_eq_none (by simpa using h)] at hq; cases hq
      rw [gi_map hlt] at hq
      obtain ⟨b, off, ea, hc2⟩ := hrd.at_ hlt
      cases ea
      rw [addr_add, hc2, hq]) (fun u hu => by
      obtain ⟨y, _, rfl⟩ := List.mem_map.1 hu
      rfl) h63 hbytes (Nat.zero_le _)
  refine Go.Lib.wp_append_run w s x t t ho _ _ hs hx v' w' r1 (h v' w' ?_)
  have hO' : OwnK k w' 0 e v' (xs ++ ys) := by unfold OwnK; simpa using r2
  have hl : ∀ g, v'.ownBlock = some g → v.ownBlock = some g ∨ w.heap.size ≤ g := by
    intro g hg
    rcases r5 with e | e
    · exact .inl (e ▸ hg)
    · rw [e] at hg; right; have := Option.some.inj hg; omega
  exact hown.write (q := ownP k e v' (xs ++ ys)) r3 (fun g e => e) hO' hl hl
theorem step_app1MS {K : Act → World → Prop} {E : Prop} (hgd : o.guard = none) {s x : Operand} {t : TypeId}
    (ho : o.op = .call { callee := .builtin .append, args := #[s, x], argTypes := #[t, t] })
    (e bytes m : Nat) (z : Value) (h1 : P.underlying t = some (.slice e)) (hinfo : (P.info? e).map (fun i => (i.zero, i.size, i.bytes)) = some (some z, m, bytes)) (hzm : z.cells.size = m) (hm : 0 < m)
    {v : Value} {n : Nat} {f : Nat → Nat → Value} (r : Nat → Value) (hs : a.eval s = v) (hown : SH row w0 w (ownMP m e v n f :: I))
    {b' : Nat} {c : Nat} (hx : a.eval x = .slice (some ⟨b', 0, none⟩) 1 c) (hcell : ∀ j, j < m → w.cell? ⟨b', j, none⟩ = some (r j)) (h1c : ∀ j, j < m → (r j).oneCell' = true)
    (hbytes : (n + 1) * bytes ≤ 140737488355328) (h63 : n + 1 ≤ maxLen)
    (h : ∀ v' w', SH row w0 w' (ownMP m e v' (n + 1) (updC f n r) :: I) → K (a.put o.dst v') w') :
    if Region.wanted o (yielded ops a.tmps) = true then Oper.wp P o a w K Q else E := by
  have hw : Region.wanted o (yielded ops a.tmps) = true := by simp [Region.wanted, hgd]
  rw [if_pos hw]
  obtain ⟨i, h2, h3, h4, h5⟩ := info_parts hinfo
  have hO : OwnM m w 0 e v n f := hown.p0
  obtain ⟨v', w', r1, r2, r3, -, r5⟩ := run_append_own_at (P := P) (w := w) 0 t o.type e i z m bytes h1 h2 h3 h4 h5 hzm hm v n (flatC m n f) hO ⟨b', 0, none⟩ 1 c ((List.range m).map r) (by simp)
    (fun j u hj => by
      rw [List.getElem?_map] at hj
      rcases Nat.lt_or_ge j m with h | h
      · simp [h] at hj; subst hj
        have e1 : (⟨b', 0, none⟩ : Addr).add j = ⟨b', j, none⟩ := by
          unfold Addr.add; split
          · next e => subst e; rfl
          · simp
        rw [e1]; exact hcell j h
      · simp [h] at hj) (fun u hu => by
      rw [List.mem_map] at hu
      obtain ⟨j, hj, rfl⟩ := hu
      exact h1c j (List.mem_range.1 hj)) h63 hbytes (Nat.zero_le _)
  refine Go.Lib.wp_append_run w s x t t ho _ _ hs hx v' w' r1 (h v' w' ?_)
  have hO' : OwnM m w' 0 e v' (n + 1) (updC f n r) := by unfold OwnM; rw [flatC_snoc]; exact r2
  have hl : ∀ g, v'.ownBlock = some g → v.ownBlock = some g ∨ w.heap.size ≤ g := by
    intro g hg
    rcases r5 with e | e
    · exact .inl (e ▸ hg)
    · rw [e] at hg; right; have := Option.some.inj hg; omega
  exact hown.write (q := ownMP m e v' (n + 1) (updC f n r)) r3 (fun g e => e) hO' hl hl
end

/-- part i of a message -/
def partF (d : List Int) (m : Int) (s i : Nat) : Frag := ⟨m, (i : Int), decide (d.length ≤ (i + 1) * s), (d.drop (i * s)).take (min ((i + 1) * s) d.length - i * s)⟩
def partsF (d : List Int) (m : Int) (s n : Nat) : List Frag := (List.range n).map (partF d m s)
def numF (d : List Int) (s : Nat) : Nat := (d.length + s - 1) / s
def splitOk (d : List Int) (m s : Int) : Prop := 1 ≤ d.length ∧ d.length ≤ 500 ∧ 0 ≤ m ∧ 1 ≤ s ∧ s ≤ 100 ∧ (d.length : Int) ≤ 50 * s
instance (d : List Int) (m s : Int) : Decidable (splitOk d m s) := by unfold splitOk; exact inferInstance
def splitF (d : List Int) (m s : Int) : List Frag := if splitOk d m s then partsF d m s.toNat (numF d s.toNat) else []
theorem fr_parts {d : List Int} {m : Int} {s n i : Nat} (h : i < n) : fr (partsF d m s n) i = partF d m s i := by simp [fr, partsF, h]
theorem length_parts (d : List Int) (m : Int) (s n : Nat) : (partsF d m s n).length = n := by simp [partsF]
/-- ceil -/
theorem numF_lt {d : List Int} {s k : Nat} (hs : 1 ≤ s) : k < numF d s ↔ k * s < d.length := by
  unfold numF
  rw [Nat.lt_iff_add_one_le, Nat.le_div_iff_mul_le hs, Nat.add_mul]
  omega

def rowV (m p : Int) (l : Bool) (v : Value) (j : Nat) : Value := if j = 0 then .int .i64 m else if j = 1 then .int .i64 p else if j = 2 then .bool l else v
/-- the cells of one fragment -/
def rowF (f : Frag) (v : Value) (j : Nat) : Value := if j = 0 then .int .i64 f.m else if j = 1 then .int .i64 f.p else if j = 2 then .bool f.l else v
theorem splitNo {d : List Int} {m s : Int} (h : ¬ splitOk d m s) : splitF d m s = [] := by unfold splitF; rw [if_neg h]
theorem quo50 {n : Nat} {s : Int} (hs : 1 ≤ s) : ((n : Int) + s - 1) / s > 50 ↔ ¬ (n : Int) ≤ 50 * s := by
  constructor
  · intro h h2
    have := Int.ediv_lt_of_lt_mul (a := n + s - 1) (b := 51) (c := s) (by omega) (by omega)
    omega
  · intro h
    have := (Int.le_ediv_iff_mul_le (a := 51) (b := n + s - 1) (c := s) (by omega)).2 (by omega)
    omega

set_option maxHeartbeats 1000000 in
theorem implSplit_c (va : Value) (d : List Int) (m s : Int) (w : World) (h : RdB w va d) :
    Calls Tryd.prog 22 #[va, .int .i64 m, .int .i64 s] w (fun e w' => ∃ v : Value, e = .returned v ∧ ∃ vs : Nat → Value, SH none w w' (fragI 39 v vs (splitF d m s))) := by
  obtain ⟨a, ca, rfl, mc, mx⟩ := h.form'
  have ml : d.length ≤ 9223372036854775807 := by omega
  have hnil : SH none w w (fragI 39 (.slice none 0 0) (fun _ => undef) []) := ((SH.start0 w).inn0F (fun _ => undef) (fun i => (fr [] i).d)).ownNilM 4 _ _
  have HNil := Lib.hid hnil
  clear hnil
  by_cases h1 : 1 ≤ d.length
  case neg =>
    rw [splitNo (fun h => h1 h.1)]
    have e1 : decide ((d.length : Int) < 1) = true := by simp; omega
    go_enter Tryd.func22, Tryd.ntmps22
    go_wp2
    go_ret
    exact ⟨_, rfl, _, HNil.out⟩
  have e1 : decide ((d.length : Int) < 1) = false := by simp; omega
  by_cases h2 : d.length ≤ 500
  case neg =>
    rw [splitNo (fun h => h2 h.2.1)]
    have e2 : decide ((d.length : Int) > 500) = true := by simp; omega
    go_enter Tryd.func22, Tryd.ntmps22
    go_wp2
    go_ret
    exact ⟨_, rfl, _, HNil.out⟩
  have e2 : decide ((d.length : Int) > 500) = false := by simp; omega
  by_cases h3 : 0 ≤ m
  case neg =>
    rw [splitNo (fun h => h3 h.2.2.1)]
    have e3 : decide (m < 0) = true := by simp; omega
    go_enter Tryd.func22, Tryd.ntmps22
    go_wp2
    go_ret
    exact ⟨_, rfl, _, HNil.out⟩
  have e3 : decide (m < 0) = false := by simp; omega
  by_cases h4 : 1 ≤ s
  case neg =>
    rw [splitNo (fun h => h4 h.2.2.2.1)]
    have e4 : decide (s < 1) = true := by simp; omega
    go_enter Tryd.func22, Tryd.ntmps22
    go_wp2
    go_ret
    exact ⟨_, rfl, _, HNil.out⟩
  have e4 : decide (s < 1) = false := by simp; omega
  by_cases h5 : s ≤ 100
  case neg =>
    rw [splitNo (fun h => h5 h.2.2.2.2.1)]
    have e5 : decide (s > 100) = true := by simp; omega
    go_enter Tryd.func22, Tryd.ntmps22
    go_wp2
    go_ret
    exact ⟨_, rfl, _, HNil.out⟩
  have e5 : decide (s > 100) = false := by simp; omega
  have hq := quo50 (n := d.length) h4
  have hw1 : IntKind.i64.wrap ((d.length : Int) + s) = (d.length : Int) + s := IntWalk.i64_in _ (by omega)
  have hw2 : IntKind.i64.wrap ((d.length : Int) + s - 1) = (d.length : Int) + s - 1 := IntWalk.i64_in _ (by omega)
  by_cases h6 : (d.length : Int) ≤ 50 * s
  case neg =>
    rw [splitNo (fun h => h6 h.2.2.2.2.2)]
    have e6 := hq.2 h6
    clear hq
    go_enter Tryd.func22, Tryd.ntmps22
    go_wp2
    go_ret
    exact ⟨_, rfl, _, HNil.out⟩
  have e6 : ¬ ((d.length : Int) + s - 1) / s > 50 := fun h => hq.1 h h6
  clear hq
  have hok : splitF d m s = partsF d m s.toNat (numF d s.toNat) := by unfold splitF; rw [if_pos ⟨h1, h2, h3, h4, h5, h6⟩]
  rw [hok]
  obtain ⟨z, rfl⟩ : ∃ z : Nat, s = (z : Int) := ⟨s.toNat, by omega⟩
  rw [Int.toNat_natCast]
  clear hok
  have HR := Lib.hid h
  go_enter Tryd.func22, Tryd.ntmps22
  go_wp2
  have hs := ((SH.start w [rdP .u8 (.slice a d.length ca) d] (by simp only [List.forall_mem_cons]; exact ⟨⟨h, fun _ h => h⟩, by simp⟩)).inn0F (fun _ => undef) (fun i => (partF d m z i).d)).ownNilM 4 39 (fun _ _ => undef)
  clear h e1 e2 e3 e4 e5 e6 hw1 hw2
  go_loopw [7, 8] (fun l i wr => ∃ (k p : Nat) (vs : Nat → Value) (c : Nat → Nat → Value), Hid (p = k * z) ∧ k ≤ p ∧ k ≤ numF d z ∧ i = .int .i64 p ∧ p ≤ 1000 ∧ Hid (∀ i j, i < k → j < 4 → c i j = rowF (partF d m z i) (vs i) j) ∧ SH none w wr [ownMP 4 39 l k c, innB vs (fun i => (partF d m z i).d) k, rdP .u8 (.slice a d.length ca) d]) (fun _ i _ => d.length - (intOf i).toNat)
  case atStart => exact ⟨0, 0, _, _, Lib.hid (by simp), Nat.le_refl _, Nat.zero_le _, rfl, by decide, Lib.hid (fun i j h => absurd h (Nat.not_lt_zero _)), hs⟩
  case round =>
    obtain ⟨k, p, vs, c, HP, hkp, hk, rfl, hp, HC, hs⟩ := hrel
    by_cases hlt : p < d.length
    · obtain ⟨b, off, rfl, -⟩ := (SH.p2 hs : RdK _ _ _ _).at_ hlt
      obtain ⟨al, cl, rfl, -⟩ := (OwnM.rd hs.p0).form
      by_cases hle : p + z ≤ d.length
      · have hdat : (partF d m z k).d = (d.drop p).take z := by simp only [partF, Nat.add_mul, ← HP.out]; congr 1; omega
        have hlast : (partF d m z k).l = (((p : Int) + (z : Int)) == (d.length : Int)) := by simp only [partF, Nat.add_mul, ← HP.out]; rw [Bool.eq_iff_iff]; simp; omega
        have HDat := Lib.hid hdat
        have HLast := Lib.hid hlast
        have HSub := Lib.hid (RdK.sub (SH.p2 hs : RdK _ _ _ _) (i := p) (m := z) (by omega))
        have hlen : ((d.drop p).take z).length = z := by simp; omega
        have HLen := Lib.hid hlen
        have hkz : k < 500 := by omega
        clear hdat hlast hlen
        go_wp2_with (first | (at_builtin; refine wp_appKX (xs := []) (ys := (d.drop p).take z) rfl rfl .u8 5 1 Tryd.underlying27 info_byte rfl (hs.ownEmpty .u8 5) rfl (show RdK .u8 _ (.slice (some ⟨b, off + p, none⟩) (p + z - p) (ca - p)) ((d.drop p).take z) by rw [Nat.add_sub_cancel_left]; exact HSub.out.below ((Below.refl _ _).alloc (Nat.le_refl _) _)) (by rw [List.length_nil, HLen.out]; omega) (by rw [List.length_nil, HLen.out]; unfold maxLen; omega) ?_; intro v2 w2 hs; rw [List.nil_append] at hs; obtain ⟨a2, c2, rfl, -⟩ := (OwnK.rd hs.p0).form; rw [HLen.out] at hs ⊢) | (at_builtin; refine wp_app1MS rfl rfl 39 48 4 (.agg #[.int .i64 0, .int .i64 0, .bool false, .slice none 0 0]) Tryd.underlying36 info_frag rfl (by decide) (rowV m (k : Int) (((p : Int) + (z : Int)) == (d.length : Int)) (.slice a2 z c2)) rfl (hs.bring1.alloc _) rfl (fun j hj => by have : j = 0 ∨ j = 1 ∨ j = 2 ∨ j = 3 := (by omega); rcases this with rfl | rfl | rfl | rfl <;> exact World.cell?_alloc_at _ _ _ _ rfl) (fun j hj => by have : j = 0 ∨ j = 1 ∨ j = 2 ∨ j = 3 := (by omega); rcases this with rfl | rfl | rfl | rfl <;> rfl) (by omega) (by unfold maxLen; omega) ?_; intro v3 w3 hs))
        go_roundw
        case rel =>
          refine ⟨k + 1, p + z, _, _, Lib.hid (by rw [Nat.add_mul, ← HP.out, Nat.one_mul]), by omega, ?_, by go_num, by omega, Lib.hid ?_, (hs.bring2.bring2.pushInnF HDat.out).bring1⟩
          · have := (numF_lt (d := d) (s := z) (k := k) (by omega))
            rw [← HP.out] at this
            omega
          · intro i j hi hj
            by_cases e : i = k
            · subst e
              simp only [updC, updV_eqF, if_true]
              simp only [rowV, rowF, HLast.out]
              rfl
            · simp only [updC, updV_neF e, if_neg e]
              exact HC.out i j (by omega) hj
        case measure => simp [intOf]; omega
      · have hdat : (partF d m z k).d = (d.drop p).take (d.length - p) := by simp only [partF, Nat.add_mul, ← HP.out]; congr 1; omega
        have hlast : (partF d m z k).l = true := by simp only [partF, Nat.add_mul, ← HP.out]; simp; omega
        have HDat := Lib.hid hdat
        have HLast := Lib.hid hlast
        have HSub := Lib.hid (RdK.sub (SH.p2 hs : RdK _ _ _ _) (i := p) (m := (d.length - p)) (by omega))
        have hlen : ((d.drop p).take (d.length - p)).length = (d.length - p) := by simp
        have HLen := Lib.hid hlen
        have hkz : k < 500 := by omega
        clear hdat hlast hlen
        go_wp2_with (first | (at_builtin; refine wp_appKX (xs := []) (ys := (d.drop p).take (d.length - p)) rfl rfl .u8 5 1 Tryd.underlying27 info_byte rfl (hs.ownEmpty .u8 5) rfl (HSub.out.below ((Below.refl _ _).alloc (Nat.le_refl _) _)) (by rw [List.length_nil, HLen.out]; omega) (by rw [List.length_nil, HLen.out]; unfold maxLen; omega) ?_; intro v2 w2 hs; rw [List.nil_append] at hs; obtain ⟨a2, c2, rfl, -⟩ := (OwnK.rd hs.p0).form; rw [HLen.out] at hs ⊢) | (at_builtin; refine wp_app1MS rfl rfl 39 48 4 (.agg #[.int .i64 0, .int .i64 0, .bool false, .slice none 0 0]) Tryd.underlying36 info_frag rfl (by decide) (rowV m (k : Int) true (.slice a2 (d.length - p) c2)) rfl (hs.bring1.alloc _) rfl (fun j hj => by have : j = 0 ∨ j = 1 ∨ j = 2 ∨ j = 3 := (by omega); rcases this with rfl | rfl | rfl | rfl <;> exact World.cell?_alloc_at _ _ _ _ rfl) (fun j hj => by have : j = 0 ∨ j = 1 ∨ j = 2 ∨ j = 3 := (by omega); rcases this with rfl | rfl | rfl | rfl <;> rfl) (by omega) (by unfold maxLen; omega) ?_; intro v3 w3 hs))
        go_roundw
        case rel =>
          refine ⟨k + 1, p + z, _, _, Lib.hid (by rw [Nat.add_mul, ← HP.out, Nat.one_mul]), by omega, ?_, by go_num, by omega, Lib.hid ?_, (hs.bring2.bring2.pushInnF HDat.out).bring1⟩
          · have := (numF_lt (d := d) (s := z) (k := k) (by omega))
            rw [← HP.out] at this
            omega
          · intro i j hi hj
            by_cases e : i = k
            · subst e
              simp only [updC, updV_eqF, if_true]
              simp only [rowV, rowF, HLast.out]
              rfl
            · simp only [updC, updV_neF e, if_neg e]
              exact HC.out i j (by omega) hj
        case measure => simp [intOf]; omega
    · have HK : Hid (k = numF d z) := by
        have := (numF_lt (d := d) (s := z) (k := k) (by omega))
        rw [← HP.out] at this
        exact Lib.hid (by omega)
      obtain rfl := HK.out
      clear HK
      go_wp2
      go_ret
      refine ⟨_, rfl, vs, ?_⟩
      have e : (partsF d m z (numF d z)).length = numF d z := length_parts _ _ _ _
      unfold fragI
      rw [e]
      refine ((hs.drop2.congrM (c' := frC (partsF d m z (numF d z)) vs) (fun i j hi hj => ?_)).bring1.congrInn (fun i hi => ⟨rfl, by rw [fr_parts hi]⟩)).bring1
      rw [HC.out i j hi hj]
      simp only [rowF, frC, fr_parts hi]
theorem splitGuard {d : List Int} {m s : Int} : splitOk d m s ↔ (inB d.length 1 500 = true ∧ 0 ≤ m ∧ inB s 1 100 = true ∧ (d.length : Int) ≤ 50 * s) := by
  unfold splitOk; simp [inB]; omega
set_option maxHeartbeats 1000000 in
theorem specSplit_c (va : Value) (d : List Int) (m s : Int) (w : World) (h : RdB w va d) :
    Calls Tryd.prog 26 #[va, .int .i64 m, .int .i64 s] w (fun e w' => ∃ v : Value, e = .returned v ∧ ∃ vs : Nat → Value, SH none w w' (fragI 39 v vs (splitF d m s))) := by
  obtain ⟨a, ca, rfl, mc, mx⟩ := h.form'
  have ml : d.length ≤ 9223372036854775807 := by omega
  have hs0 := ((SH.start w [rdP .u8 (.slice a d.length ca) d] (by simp only [List.forall_mem_cons]; exact ⟨⟨h, fun _ h => h⟩, by simp⟩)).inn0F (fun _ => undef) (fun i => (partF d m s.toNat i).d)).ownEmptyM 4 (by decide) 39 (fun _ _ => undef)
  have hnil : ∀ w', SH none w w' [ownMP 4 39 (.slice (some ⟨w.heap.size, 0, none⟩) 0 0) 0 (fun _ _ => undef), innB (fun _ => undef) (fun i => (partF d m s.toNat i).d) 0, rdP .u8 (.slice a d.length ca) d] → SH none w w' (fragI 39 (.slice (some ⟨w.heap.size, 0, none⟩) 0 0) (fun _ => undef) []) := fun w' hs =>
    (((hs.drop2.congrM (c' := frC [] (fun _ => undef)) (fun i j hi hj => absurd hi (Nat.not_lt_zero _))).bring1.congrInn (es := fun i => (fr [] i).d) (ws := fun _ => undef) (fun i hi => absurd hi (Nat.not_lt_zero _))).bring1)
  have HNil := Lib.hid hnil
  have HG := Lib.hid (splitGuard (d := d) (m := m) (s := s))
  clear hnil
  have HR := Lib.hid h
  clear h
  cases g1 : inB d.length 1 500
  · rw [splitNo (fun h => by have := (HG.out.1 h).1; rw [g1] at this; cases this)]
    go_enter Tryd.func26, Tryd.ntmps26
    go_wp2_with fail
    refine (SH.quiet hs0 (by repeat' (first | with_reducible exact Below.refl _ _ | with_reducible assumption | with_reducible refine below_drewN ?_ _ | with_reducible refine Below.drew ?_ | with_reducible refine Below.alloc ?_ ?_ _ | with_reducible refine Below.setCell ?_ ?_ _ | go_size)) fun hs => l1In_c d.length 1 500 _).mono ?_
    rintro e w1 ⟨rfl, hs⟩
    rw [g1]
    go_wp2
    go_ret
    exact ⟨_, rfl, _, HNil.out _ hs⟩
  by_cases h3 : 0 ≤ m
  case neg =>
    rw [splitNo (fun h => h3 (HG.out.1 h).2.1)]
    go_enter Tryd.func26, Tryd.ntmps26
    go_wp2_with fail
    refine (SH.quiet hs0 (by repeat' (first | with_reducible exact Below.refl _ _ | with_reducible assumption | with_reducible refine below_drewN ?_ _ | with_reducible refine Below.drew ?_ | with_reducible refine Below.alloc ?_ ?_ _ | with_reducible refine Below.setCell ?_ ?_ _ | go_size)) fun hs => l1In_c d.length 1 500 _).mono ?_
    rintro e w1 ⟨rfl, hs⟩
    rw [g1]
    go_wp2
    go_ret
    exact ⟨_, rfl, _, HNil.out _ hs⟩
  cases g2 : inB s 1 100
  · rw [splitNo (fun h => by have := (HG.out.1 h).2.2.1; rw [g2] at this; cases this)]
    go_enter Tryd.func26, Tryd.ntmps26
    go_wp2_with fail
    refine (SH.quiet hs0 (by repeat' (first | with_reducible exact Below.refl _ _ | with_reducible assumption | with_reducible refine below_drewN ?_ _ | with_reducible refine Below.drew ?_ | with_reducible refine Below.alloc ?_ ?_ _ | with_reducible refine Below.setCell ?_ ?_ _ | go_size)) fun hs => l1In_c d.length 1 500 _).mono ?_
    rintro e w1 ⟨rfl, hs⟩
    rw [g1]
    go_wp2_with fail
    refine (SH.quiet hs (by repeat' (first | with_reducible exact Below.refl _ _ | with_reducible assumption | with_reducible refine below_drewN ?_ _ | with_reducible refine Below.drew ?_ | with_reducible refine Below.alloc ?_ ?_ _ | with_reducible refine Below.setCell ?_ ?_ _ | go_size)) fun hs => l1In_c s 1 100 _).mono ?_
    rintro e w2 ⟨rfl, hs⟩
    rw [g2]
    go_wp2
    go_ret
    exact ⟨_, rfl, _, HNil.out _ hs⟩
  have hb1 : 1 ≤ d.length ∧ d.length ≤ 500 := by simp [inB] at g1; omega
  have hb2 : 1 ≤ s ∧ s ≤ 100 := by simp [inB] at g2; omega
  obtain ⟨h1, h2⟩ := hb1
  obtain ⟨h4, h5⟩ := hb2
  have hw1 : IntKind.i64.wrap (50 * s) = 50 * s := IntWalk.i64_in _ (by omega)
  by_cases h6 : (d.length : Int) ≤ 50 * s
  case neg =>
    rw [splitNo (fun h => h6 (HG.out.1 h).2.2.2)]
    go_enter Tryd.func26, Tryd.ntmps26
    go_wp2_with fail
    refine (SH.quiet hs0 (by repeat' (first | with_reducible exact Below.refl _ _ | with_reducible assumption | with_reducible refine below_drewN ?_ _ | with_reducible refine Below.drew ?_ | with_reducible refine Below.alloc ?_ ?_ _ | with_reducible refine Below.setCell ?_ ?_ _ | go_size)) fun hs => l1In_c d.length 1 500 _).mono ?_
    rintro e w1 ⟨rfl, hs⟩
    rw [g1]
    go_wp2_with fail
    refine (SH.quiet hs (by repeat' (first | with_reducible exact Below.refl _ _ | with_reducible assumption | with_reducible refine below_drewN ?_ _ | with_reducible refine Below.drew ?_ | with_reducible refine Below.alloc ?_ ?_ _ | with_reducible refine Below.setCell ?_ ?_ _ | go_size)) fun hs => l1In_c s 1 100 _).mono ?_
    rintro e w2 ⟨rfl, hs⟩
    rw [g2]
    go_wp2
    go_ret
    exact ⟨_, rfl, _, HNil.out _ hs⟩
  have hok : splitF d m s = partsF d m s.toNat (numF d s.toNat) := by unfold splitF; rw [if_pos ⟨h1, h2, h3, h4, h5, h6⟩]
  rw [hok]
  obtain ⟨z, rfl⟩ : ∃ z : Nat, s = (z : Int) := ⟨s.toNat, by omega⟩
  rw [Int.toNat_natCast] at *
  clear hok HNil HG
  go_enter Tryd.func26, Tryd.ntmps26
  go_wp2_with fail
  refine (SH.quiet hs0 (by repeat' (first | with_reducible exact Below.refl _ _ | with_reducible assumption | with_reducible refine below_drewN ?_ _ | with_reducible refine Below.drew ?_ | with_reducible refine Below.alloc ?_ ?_ _ | with_reducible refine Below.setCell ?_ ?_ _ | go_size)) fun hs => l1In_c d.length 1 500 _).mono ?_
  rintro e w1 ⟨rfl, hs⟩
  rw [g1]
  go_wp2_with fail
  refine (SH.quiet hs (by repeat' (first | with_reducible exact Below.refl _ _ | with_reducible assumption | with_reducible refine below_drewN ?_ _ | with_reducible refine Below.drew ?_ | with_reducible refine Below.alloc ?_ ?_ _ | with_reducible refine Below.setCell ?_ ?_ _ | go_size)) fun hs => l1In_c z 1 100 _).mono ?_
  rintro e w2 ⟨rfl, hs⟩
  rw [g2]
  clear hs0 g1 g2
  go_wp2
  go_loopw [7, 8] (fun l i wr => ∃ (k p : Nat) (vs : Nat → Value) (c : Nat → Nat → Value), Hid (p = k * z) ∧ k ≤ p ∧ k ≤ numF d z ∧ i = .int .i64 p ∧ p ≤ 1000 ∧ Hid (∀ i j, i < k → j < 4 → c i j = rowF (partF d m z i) (vs i) j) ∧ SH none w wr [ownMP 4 39 l k c, innB vs (fun i => (partF d m z i).d) k, rdP .u8 (.slice a d.length ca) d]) (fun _ i _ => d.length - (intOf i).toNat)
  case atStart => exact ⟨0, 0, _, _, Lib.hid (by simp), Nat.le_refl _, Nat.zero_le _, rfl, by decide, Lib.hid (fun i j h => absurd h (Nat.not_lt_zero _)), hs⟩
  case round =>
    obtain ⟨k, p, vs, c, HP, hkp, hk, rfl, hp, HC, hs⟩ := hrel
    by_cases hlt : p < d.length
    · obtain ⟨b, off, rfl, -⟩ := (SH.p2 hs : RdK _ _ _ _).at_ hlt
      obtain ⟨al, cl, rfl, -⟩ := (OwnM.rd hs.p0).form
      have hdiv : (p : Int) / (z : Int) = (k : Int) := by
        rw [HP.out, Int.natCast_mul]
        exact Int.mul_ediv_cancel _ (by omega)
      have hz0 : ((z : Int) == 0) = false := by simp; omega
      have hz1 : ¬ (z : Int) = 0 := by omega
      have b0 : (0 : Int) ≤ (p : Int) := by omega
      have b4 : (p : Int) ≤ (ca : Int) := by omega
      have b5 : ¬ ca = p := by omega
      have d2 : IntKind.i64.wrap ((p : Int) / (z : Int)) = (k : Int) := by rw [hdiv]; exact IntWalk.i64_in _ (by omega)
      have hz2 : ¬ z = 0 := by omega
      clear hz0 hz1 hdiv
      by_cases hle : p + z < d.length
      · have hdat : (partF d m z k).d = (d.drop p).take z := by simp only [partF, Nat.add_mul, ← HP.out]; congr 1; omega
        have hlast : (partF d m z k).l = (((p : Int) + (z : Int)) == (d.length : Int)) := by simp only [partF, Nat.add_mul, ← HP.out]; rw [Bool.eq_iff_iff]; simp; omega
        have HDat := Lib.hid hdat
        have HLast := Lib.hid hlast
        have HSub := Lib.hid (RdK.sub (SH.p2 hs : RdK _ _ _ _) (i := p) (m := z) (by omega))
        have hlen : ((d.drop p).take z).length = z := by simp; omega
        have HLen := Lib.hid hlen
        have hkz : k < 500 := by omega
        have b1 : (p : Int) ≤ (p : Int) + (z : Int) := by omega
        have b2 : (p : Int) + (z : Int) ≤ (ca : Int) := by omega
        have b3 : (0 : Int) ≤ (p : Int) + (z : Int) := by omega
        clear hdat hlast hlen
        go_wp2
        go_region_held3 (fun _ => True) (first | exact trivial) (first | (refine step_appKS (xs := []) (ys := (d.drop p).take z) rfl rfl .u8 5 1 Tryd.underlying27 info_byte rfl (hs.drew.ownEmpty .u8 5) rfl (show RdK .u8 _ (.slice (some ⟨b, off + p, none⟩) (p + z - p) (ca - p)) ((d.drop p).take z) by rw [Nat.add_sub_cancel_left]; exact HSub.out.below ((Below.refl _ _).drew.alloc (Nat.le_refl _) _)) (by rw [List.length_nil, HLen.out]; omega) (by rw [List.length_nil, HLen.out]; unfold maxLen; omega) ?_; intro v2 w2 hs2; rw [List.nil_append] at hs2; obtain ⟨a2, c2, rfl, -⟩ := (OwnK.rd hs2.p0).form; rw [HLen.out] at hs2 ⊢) | (refine step_app1MS rfl rfl 39 48 4 (.agg #[.int .i64 0, .int .i64 0, .bool false, .slice none 0 0]) Tryd.underlying36 info_frag rfl (by decide) (rowV m (k : Int) (((p : Int) + (z : Int)) == (d.length : Int)) (.slice a2 z c2)) rfl (hs2.bring1.alloc _) rfl (fun j hj => by have : j = 0 ∨ j = 1 ∨ j = 2 ∨ j = 3 := (by omega); rcases this with rfl | rfl | rfl | rfl <;> exact World.cell?_alloc_at _ _ _ _ rfl) (fun j hj => by have : j = 0 ∨ j = 1 ∨ j = 2 ∨ j = 3 := (by omega); rcases this with rfl | rfl | rfl | rfl <;> rfl) (by omega) (by unfold maxLen; omega) ?_; intro v3 w3 hs3))
        go_wp2
        go_roundw
        case rel =>
          refine ⟨k + 1, p + z, _, _, Lib.hid (by rw [Nat.add_mul, ← HP.out, Nat.one_mul]), by omega, ?_, by go_num, by omega, Lib.hid ?_, (hs3.bring2.bring2.pushInnF HDat.out).bring1⟩
          · have := (numF_lt (d := d) (s := z) (k := k) (by omega))
            rw [← HP.out] at this
            omega
          · intro i j hi hj
            by_cases e : i = k
            · subst e
              simp only [updC, updV_eqF, if_true]
              simp only [rowV, rowF, HLast.out]
              rfl
            · simp only [updC, updV_neF e, if_neg e]
              exact HC.out i j (by omega) hj
        case measure => simp [intOf]; omega
      · have hdat : (partF d m z k).d = (d.drop p).take (d.length - p) := by simp only [partF, Nat.add_mul, ← HP.out]; congr 1; omega
        have hlast : (partF d m z k).l = true := by simp only [partF, Nat.add_mul, ← HP.out]; simp; omega
        have HDat := Lib.hid hdat
        have HLast := Lib.hid hlast
        have HSub := Lib.hid (RdK.sub (SH.p2 hs : RdK _ _ _ _) (i := p) (m := (d.length - p)) (by omega))
        have hlen : ((d.drop p).take (d.length - p)).length = (d.length - p) := by simp
        have HLen := Lib.hid hlen
        have b1 : (p : Int) ≤ (d.length : Int) := by omega
        have b2 : (d.length : Int) ≤ (ca : Int) := by omega
        have b3 : (0 : Int) ≤ (d.length : Int) := by omega
        have hkz : k < 500 := by omega
        clear hdat hlast hlen
        go_wp2
        go_region_held3 (fun _ => True) (first | exact trivial) (first | (refine step_appKS (xs := []) (ys := (d.drop p).take (d.length - p)) rfl rfl .u8 5 1 Tryd.underlying27 info_byte rfl (hs.drew.ownEmpty .u8 5) rfl (HSub.out.below ((Below.refl _ _).drew.alloc (Nat.le_refl _) _)) (by rw [List.length_nil, HLen.out]; omega) (by rw [List.length_nil, HLen.out]; unfold maxLen; omega) ?_; intro v2 w2 hs2; rw [List.nil_append] at hs2; obtain ⟨a2, c2, rfl, -⟩ := (OwnK.rd hs2.p0).form; rw [HLen.out] at hs2 ⊢) | (refine step_app1MS rfl rfl 39 48 4 (.agg #[.int .i64 0, .int .i64 0, .bool false, .slice none 0 0]) Tryd.underlying36 info_frag rfl (by decide) (rowV m (k : Int) true (.slice a2 (d.length - p) c2)) rfl (hs2.bring1.alloc _) rfl (fun j hj => by have : j = 0 ∨ j = 1 ∨ j = 2 ∨ j = 3 := (by omega); rcases this with rfl | rfl | rfl | rfl <;> exact World.cell?_alloc_at _ _ _ _ rfl) (fun j hj => by have : j = 0 ∨ j = 1 ∨ j = 2 ∨ j = 3 := (by omega); rcases this with rfl | rfl | rfl | rfl <;> rfl) (by omega) (by unfold maxLen; omega) ?_; intro v3 w3 hs3))
        go_wp2
        go_roundw
        case rel =>
          refine ⟨k + 1, p + z, _, _, Lib.hid (by rw [Nat.add_mul, ← HP.out, Nat.one_mul]), by omega, ?_, by go_num, by omega, Lib.hid ?_, (hs3.bring2.bring2.pushInnF HDat.out).bring1⟩
          · have := (numF_lt (d := d) (s := z) (k := k) (by omega))
            rw [← HP.out] at this
            omega
          · intro i j hi hj
            by_cases e : i = k
            · subst e
              simp only [updC, updV_eqF, if_true]
              simp only [rowV, rowF, HLast.out]
              rfl
            · simp only [updC, updV_neF e, if_neg e]
              exact HC.out i j (by omega) hj
        case measure => simp [intOf]; omega
    · have HK : Hid (k = numF d z) := by
        have := (numF_lt (d := d) (s := z) (k := k) (by omega))
        rw [← HP.out] at this
        exact Lib.hid (by omega)
      obtain rfl := HK.out
      clear HK
      go_wp2
      go_ret
      refine ⟨_, rfl, vs, ?_⟩
      have e : (partsF d m z (numF d z)).length = numF d z := length_parts _ _ _ _
      unfold fragI
      rw [e]
      refine ((hs.drop2.congrM (c' := frC (partsF d m z (numF d z)) vs) (fun i j hi hj => ?_)).bring1.congrInn (fun i hi => ⟨rfl, by rw [fr_parts hi]⟩)).bring1
      rw [HC.out i j hi hj]
      simp only [rowF, frC, fr_parts hi]
end Go.Proofs.YtjgafkoboolclaaDoor
