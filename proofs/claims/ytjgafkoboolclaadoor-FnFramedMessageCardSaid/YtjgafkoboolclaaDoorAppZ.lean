import Derived.Test.YtjgafkoboolclaaDoorProg
import Derived.Test.YtjgafkoboolclaaDoorSym
import Derived.Test.YtjgafkoboolclaaDoorApp
import Derived.Deep.Upon
import Derived.Lib.AppendZeros
import Derived.Lib.AppendZerosOnto
namespace Go.Proofs.YtjgafkoboolclaaDoor
open Go.RowKit

/-! 'append(s, make([]int, n)...)'. -/
theorem zerosK (k : IntKind) (n : Nat) : Builtin.zeroCells (Value.int k 0).cells n = ((List.replicate n (0 : Int)).map (Value.int k)).toArray := by
  apply Array.ext'
  simp [Builtin.zeroCells, Value.cells]
  apply List.ext_getElem
  · simp
  · intro i h1 h2
    simp [Nat.mod_one]
theorem run_zeros_room {P : Program} (w : World) (k : IntKind) (t tn ty e : TypeId) (i : TypeInfo) (kq kn : IntKind) (ht : P.underlying t = some (.slice e)) (htn : P.underlying tn = some (.int kn)) (hi : P.info? e = some i) (hz : i.zero = some (.int k 0)) (hsz : i.size = 1)
    (g sLen sCap n : Nat) (cur : Array Value) (hg : w.heap[g]? = some (.cells cur e (0, 0))) (h0 : 0 < n) (h63 : sLen + n ≤ maxLen) (h48 : n * i.bytes ≤ 140737488355328)
    (hroom : sLen + n ≤ sCap) (hfit : sLen + n ≤ cur.size) :
    (Builtin.append_ #[t, tn] ty #[.slice (some ⟨g, 0, none⟩) sLen sCap, .int kq n]).run P w =
      .ok (.slice (some ⟨g, 0, none⟩) (sLen + n) sCap) (w.setRow g (cur.toList.take sLen ++ (List.replicate n (0 : Int)).map (Value.int k) ++ cur.toList.drop (sLen + n)).toArray) := by
  have hm : maxLen = 9223372036854775807 := rfl
  have hw : IntKind.i64.wrap (n : Int) = n := by rw [IntKind.wrap_i64]; omega
  have hneg : ¬ ((n : Int) < 0) := by omega
  have hne : n ≠ 0 := by omega
  have h48i : ¬ (281474976710656 < (n : Int) * (i.bytes : Int)) := by
    rw [← Int.natCast_mul]
    omega
  have hst := run_storeCells_at P g sLen e ((List.replicate n (0 : Int)).map (Value.int k)) 0 cur w hg (by simpa using hfit) (fun u hu => by obtain ⟨y, _, rfl⟩ := List.mem_map.1 hu; rfl)
  simp only [Nat.add_zero, List.length_map, List.length_replicate, List.map_replicate] at hst
  have hzk := zerosK k n
  simp only [List.map_replicate] at hzk ⊢
  simp [Builtin.append_, run_underlying ht, run_underlying htn, sizeOf, typeInfo, zeroValue, hi, hz, hsz, asInt, asIntOf, hw, hroom, hneg, hne, h48i, hzk, Addr.add_lit, hst]
variable {row : Option Nat} {w0 w w' : World} {I : List Part}
section
variable {P : Program} {ops : Array Oper} {rest : List Oper} {o : Oper} {a' : Act} {Q : Exit → Act → World → Prop}
theorem wp_appZK (hgd : o.guard = none) {s x : Operand} {t tn : TypeId}
    (ho : o.op = .call { callee := .builtin .append, args := #[s, x], argTypes := #[t, tn] }) (k : IntKind)
    (e bytes : Nat) (h1 : P.underlying t = some (.slice e)) (kn : IntKind) (htn : P.underlying tn = some (.int kn)) (hinfo : (P.info? e).map (fun i => (i.zero, i.size, i.bytes)) = some (some (.int k 0), 1, bytes))
    {v : Value} {xs : List Int} (hs : a'.eval s = v) (hown : SH row w0 w (ownP k e v xs :: I))
    {kq : IntKind} (n : Nat) (hx : a'.eval x = .int kq n) (h0 : 0 < n)
    (hbytes : (xs.length + n) * bytes ≤ 140737488355328) (h63 : xs.length + n ≤ maxLen)
    (h : ∀ v' w', SH row w0 w' (ownP k e v' (xs ++ List.replicate n 0) :: I) → wpList P ops Q rest (a'.put o.dst v') w') : wpList P ops Q (o :: rest) a' w := by
  obtain ⟨i, h2, h3, h4, h5⟩ := info_parts hinfo
  have hO : OwnK k w 0 e v xs := hown.p0
  have hm63 : maxLen = 9223372036854775807 := rfl
  have hnb : n * i.bytes ≤ 140737488355328 := by rw [h5]; exact Nat.le_trans (Nat.mul_le_mul_right _ (Nat.le_add_left _ _)) hbytes
  have key : ∃ v' w', (Builtin.append_ #[t, tn] o.type #[v, .int kq n]).run P w = .ok v' w' ∧ OwnK k w' 0 e v' (xs ++ List.replicate n 0) ∧ w.grownBy w' v.ownBlock ∧ (v'.ownBlock = v.ownBlock ∨ v'.ownBlock = some w.heap.size) := by
    have hlen : ((xs ++ List.replicate n 0).map (Value.int k)).length = (xs.length + n) * 1 := by simp
    have grown : ∀ (old : Nat), old < xs.length + n → ∀ (row : Option Nat),
        (w.drew.alloc (.cells ((xs.map (Value.int k)).toArray ++ Builtin.zeroCells (Value.int k 0).cells n ++ Builtin.zeroCells (Value.int k 0).cells (grownCap w (xs.length + n) old e - (xs.length + n))) e)).ownsRow 0 e 1
          (.slice (some ⟨w.heap.size, 0, none⟩) (xs.length + n) (grownCap w (xs.length + n) old e)) (xs.length + n) ((xs ++ List.replicate n 0).map (Value.int k)) ∧
        w.grownBy (w.drew.alloc (.cells ((xs.map (Value.int k)).toArray ++ Builtin.zeroCells (Value.int k 0).cells n ++ Builtin.zeroCells (Value.int k 0).cells (grownCap w (xs.length + n) old e - (xs.length + n))) e)) row := by
      intro old ho row
      have hge := grownCap_ge w (xs.length + n) old e
      have hcm : grownCap w (xs.length + n) old e ≤ maxLen := grownCap_le_maxLen w (xs.length + n) old e h63
      refine ⟨⟨hlen, .inr ⟨w.heap.size, _, _, rfl, Nat.zero_le _, heap_alloc_new w.drew _, hge, hcm, ?_, ?_⟩⟩, ⟨rfl, rfl, rfl, by simp, fun q hq _ => Go.heap_alloc_old w.drew _ hq⟩⟩
      · simp only [Array.size_append, List.size_toArray, size_zeroCells, List.length_map, show (Value.int k 0).cells.size = 1 from rfl]
        omega
      · rw [zerosK]
        simp only [Array.toList_append, List.append_assoc, List.map_append]
        rw [← List.append_assoc, show (xs.length + n) * 1 = (List.map (Value.int k) xs ++ List.map (Value.int k) (List.replicate n 0)).length by simp]
        exact List.take_left
    rcases hO.2 with ⟨rfl, hn⟩ | ⟨g, cap, cur, rfl, hbg, hg, hnc, hcm, hcs, htake⟩
    · have hx : xs = [] := List.eq_nil_of_length_eq_zero hn
      subst hx
      have hr := Go.Lib.run_append_nil_zeros (P := P) w t tn o.type e i (.int k 0) kq kn h1 htn h2 h3 n h0 (by rw [h4]; decide) (by rw [hm63] at h63; simp at h63; omega) (by omega)
      have hgr := grown 0 (by omega) (Value.ownBlock (.slice none 0 0))
      simp only [List.length_nil, Nat.zero_add, List.map_nil, List.nil_append, Array.empty_append] at hgr ⊢
      exact ⟨_, _, hr, by unfold OwnK; simpa using hgr.1, hgr.2, Or.inr rfl⟩
    · simp only [Nat.mul_one] at hcs htake
      by_cases hroom : xs.length + n ≤ cap
      · have hr := run_zeros_room (P := P) w k t tn o.type e i kq kn h1 htn h2 h3 h4 g xs.length cap n cur hg h0 h63 hnb hroom (by omega)
        refine ⟨_, _, hr, ?_, ⟨rfl, rfl, rfl, by simp, fun q _ hq => setRow_other w g q _ (fun e => hq (by simp [Value.ownBlock, e]))⟩, Or.inl rfl⟩
        unfold OwnK
        rw [List.length_append, List.length_replicate]
        refine ⟨hlen, .inr ⟨g, cap, _, rfl, hbg, setRow_heap w g cur _ e _ hg, hroom, hcm, ?_, ?_⟩⟩
        · simp only [List.size_toArray, List.length_append, List.length_take, List.length_drop, Array.length_toList, List.length_map, List.length_replicate]
          omega
        · rw [htake]
          simp only [List.map_append]
          rw [show (xs.length + n) * 1 = (List.map (Value.int k) xs ++ List.map (Value.int k) (List.replicate n 0)).length by simp]
          exact List.take_left
      · have holds : ∀ j u, (xs.map (Value.int k))[j]? = some u → w.drew.cell? ((⟨g, 0, none⟩ : Addr).add j) = some u := (World.ownsRow.cells (w := w) (g := g) hO rfl)
        have hf := run_firstCells_some (P := P) w.drew i.size xs.length ⟨g, 0, none⟩ xs.length cap (xs.map (Value.int k)) (by rw [h4]; simp) holds
        have hr := Go.Lib.run_append_grow_zeros (P := P) w t tn o.type e i (.int k 0) kq kn h1 htn h2 h3 (some ⟨g, 0, none⟩) xs.length cap (xs.map (Value.int k)) hf n h0 (by rw [h4]; decide) (by omega) (by rw [hm63] at h63; omega) (by omega) (growslice_fits (by omega) (by rw [h5]; exact hbytes))
        have hgr := grown cap (by omega) (Value.ownBlock (.slice (some ⟨g, 0, none⟩) xs.length cap))
        exact ⟨_, _, hr, by unfold OwnK; simpa using hgr.1, hgr.2, Or.inr rfl⟩
  obtain ⟨v', w', hr, r2, r3, r5⟩ := key
  refine Go.Lib.wpList_append_run w hgd s x t tn ho _ _ hs hx _ w' hr (h v' w' ?_)
  have hl : ∀ g, v'.ownBlock = some g → v.ownBlock = some g ∨ w.heap.size ≤ g := by
    intro g hg
    rcases r5 with e | e
    · exact .inl (e ▸ hg)
    · rw [e] at hg; right; have := Option.some.inj hg; omega
  exact hown.write (q := ownP k e v' (xs ++ List.replicate n 0)) r3 (fun g e => e) r2 hl hl
end
end Go.Proofs.YtjgafkoboolclaaDoor
