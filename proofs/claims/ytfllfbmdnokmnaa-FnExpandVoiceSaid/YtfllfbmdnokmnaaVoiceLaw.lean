import Derived.Test.YtfllfbmdnokmnaaProg
import Derived.Test.YtfllfbmdnokmnaaLib
import Derived.Test.YtfllfbmdnokmnaaNum
import Derived.Test.YtfllfbmdnokmnaaInts
import Derived.Test.YtfllfbmdnokmnaaVoice
import Derived.Test.YtfllfbmdnokmnaaComp
import Derived.Test.YtfllfbmdnokmnaaRead
namespace Go.Proofs.Ytfllfbmdnokmnaa
open Go.RowKit

theorem expand_law : ∀ n : Fin 256, ((n.val : Int) == 128 && expV (n.val : Int) == 0 || compV (expV (n.val : Int)) == (n.val : Int)) = true ∧ -4095 ≤ expV (n.val : Int) ∧ expV (n.val : Int) ≤ 4095 := by decide +kernel

theorem DrawExpandVoice_c (va : Value) (bs : List Int) (w : World) (h : RdB w va bs) (hb : ∀ n ∈ bs, (Lit.int .u8 n).wf = true) :
    Calls Try.prog 27 #[va] w (Ret w fun v _ => ∃ c : Int, v = .int .i64 c ∧ -1000 ≤ c ∧ c ≤ 1000) := by
  have H := Lib.hid h
  have HB := Lib.hid hb
  clear h hb
  go_enter Try.func27, Try.ntmps27
  go_wp2_with fail
  refine (open_c _ bs _ H.out HB.out).mono ?_
  rintro e w1 ⟨g, rfl, hg, hr, hb1⟩
  have HR := Lib.hid hr
  have HB1 := Lib.hid hb1
  clear hr hb1
  go_wp2_with fail
  refine (pick_c g _ 256 _ HR.out (by decide) (by decide)).mono ?_
  rintro e w2 ⟨x, rfl, x0, xa, -, hr, hg2⟩
  have x1 := xa (by decide)
  have HR2 := Lib.hid hr
  have HB2 := Lib.hid (HB1.out.grown hg2 HB1.out.size (fun k e => by simp only [Option.some.injEq] at e; omega))
  clear hr hg2 xa HR HB1
  go_wp2_with fail
  refine (pick_c g _ 9 _ HR2.out (by decide) (by decide)).mono ?_
  rintro e w3 ⟨y, rfl, y0, ya, -, hr, hg3⟩
  have y1 := ya (by decide)
  have HR3 := Lib.hid hr
  have HB3 := Lib.hid (HB2.out.grown hg3 HB2.out.size (fun k e => by simp only [Option.some.injEq] at e; omega))
  clear hr hg3 ya HR2 HB2
  go_wp2_with fail
  refine (pick_c g _ 9 _ HR3.out (by decide) (by decide)).mono ?_
  rintro e w4 ⟨z, rfl, z0, za, -, hr, hg4⟩
  have z1 := za (by decide)
  have HR4 := Lib.hid hr
  have HB4 := Lib.hid (HB3.out.grown hg4 HB3.out.size (fun k e => by simp only [Option.some.injEq] at e; omega))
  clear hr hg4 za HR3 HB3
  go_wp2
  go_ret
  exact Ret.mk1 ⟨_, rfl, by omega, by omega⟩ HB4.out

theorem fnExpandVoice_c (va : Value) (bs : List Int) (w : World) (h : RdB w va bs) (hb : ∀ n ∈ bs, (Lit.int .u8 n).wf = true) :
    Calls Try.prog 6 #[va] w (Ret w fun v _ => v = .bool true) := by
  obtain ⟨a, ca, rfl, ml⟩ := h.form
  have HA := Lib.hid h
  have HBs := Lib.hid hb
  clear h hb
  by_cases hl : bs.length ≤ 1048576
  case neg =>
    go_enter Try.func6, Try.ntmps6
    go_wp2
    go_ret
    exact Ret.mk1 rfl (Below.refl _ _)
  go_enter Try.func6, Try.ntmps6
  go_wp2_with fail
  refine (DrawExpandVoice_c _ bs _ HA.out HBs.out).mono ?_
  rintro e w1 ⟨v1, rfl, ⟨c, rfl, c0, c1⟩, hb⟩
  have HB_1 := Lib.hid hb
  clear hb
  go_wp2_with fail
  refine (implExpandVoice_c c _).mono ?_
  rintro e w2 hr
  obtain ⟨rfl, hs⟩ := hr.same
  have hb := hs.below
  clear hr hs
  have HB_2 := Lib.hid (HB_1.out.trans (hb.mono HB_1.out.size))
  clear hb HB_1
  have e1 : (expV c != expV c) = false := bne_self_eq_false _
  go_wp2_with fail
  refine (specExpandVoice_c c _).mono ?_
  rintro e w3 hr
  obtain ⟨rfl, hs⟩ := hr.same
  have hb := hs.below
  clear hr hs
  have HB_3 := Lib.hid (HB_2.out.trans (hb.mono HB_2.out.size))
  clear hb HB_2
  by_cases g0 : c < 0
  · have hx : expV c = 0 := expV_out (.inl g0)
    go_wp2_with fail
    refine (alive_c _).mono ?_
    rintro e w4 ⟨v4, rfl, rfl, hb⟩
    have HB_4 := Lib.hid (HB_3.out.trans (hb.mono HB_3.out.size))
    clear hb HB_3
    go_wp2
    go_ret
    exact Ret.mk1 rfl HB_4.out
  by_cases g1 : 255 < c
  · have hx : expV c = 0 := expV_out (.inr g1)
    go_wp2_with fail
    refine (alive_c _).mono ?_
    rintro e w4 ⟨v4, rfl, rfl, hb⟩
    have HB_4 := Lib.hid (HB_3.out.trans (hb.mono HB_3.out.size))
    clear hb HB_3
    go_wp2
    go_ret
    exact Ret.mk1 rfl HB_4.out
  obtain ⟨l0, l1, l2⟩ := expand_law ⟨c.toNat, by omega⟩
  have hcn : ((c.toNat : Nat) : Int) = c := Int.toNat_of_nonneg (by omega)
  simp only [hcn] at l0 l1 l2
  clear hcn
  cases z1 : (c == 128)
  · have z2 : (compV (expV c) == c) = true := by simpa [z1] using l0
    clear l0
    go_wp2_with fail
    refine (implCompressVoice_c (expV c) _).mono ?_
    rintro e w4 hr
    obtain ⟨rfl, hs⟩ := hr.same
    have hb := hs.below
    clear hr hs
    have HB_4 := Lib.hid (HB_3.out.trans (hb.mono HB_3.out.size))
    clear hb HB_3
    go_wp2_with fail
    refine (abs_c (expV c) _ (by omega) (by omega)).mono ?_
    rintro e w5 hr
    obtain ⟨rfl, hs⟩ := hr.same
    have hb := hs.below
    clear hr hs
    have HB_5 := Lib.hid (HB_4.out.trans (hb.mono HB_4.out.size))
    clear hb HB_4
    have z3 : max (expV c) (-expV c) ≤ 4095 := by omega
    go_wp2
    go_ret
    exact Ret.mk1 rfl HB_5.out
  · have hc : c = 128 := by simpa using z1
    have z2 : (expV c == 0) = true := by rw [hc]; decide
    clear l0 hc
    go_wp2_with fail
    refine (abs_c (expV c) _ (by omega) (by omega)).mono ?_
    rintro e w4 hr
    obtain ⟨rfl, hs⟩ := hr.same
    have hb := hs.below
    clear hr hs
    have HB_4 := Lib.hid (HB_3.out.trans (hb.mono HB_3.out.size))
    clear hb HB_3
    have z3 : max (expV c) (-expV c) ≤ 4095 := by omega
    go_wp2
    go_ret
    exact Ret.mk1 rfl HB_4.out

end Go.Proofs.Ytfllfbmdnokmnaa
