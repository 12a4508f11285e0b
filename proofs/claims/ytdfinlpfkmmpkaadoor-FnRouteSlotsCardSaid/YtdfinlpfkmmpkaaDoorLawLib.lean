import Derived.Test.YtdfinlpfkmmpkaaDoorProg
import Derived.Test.YtdfinlpfkmmpkaaDoorRouteU
import Derived.Test.YtdfinlpfkmmpkaaDoorDrawCosts
namespace Go.Proofs.YtdfinlpfkmmpkaaDoor
open Go.RowKit

theorem SH.asSS {row : Option Nat} {w0 w : World} {I : List Part} {t ti : TypeId} {v : Value} {vs : Nat → Value} {xss : List (List Int)} (h : SH row w0 w (ownMP 1 t v xss.length (oneC vs) :: innP ti vs xss xss.length :: I)) : SH row w0 w (rdSSP v vs xss :: I) :=
  h.merge2 (rd_of_inn h) (fun g hg => by
    rcases hg with hg | ⟨i, hi, hg, -⟩
    · exact .inl hg.1
    · exact .inr ⟨i, hi, hg⟩) (fun g hg => hg.elim)
theorem own_cell {w : World} {t : TypeId} {g n cap i : Nat} {xs : List Int} (h : OwnK .i64 w 0 t (.slice (some ⟨g, 0, none⟩) n cap) xs) (hi : i < n) : w.cell? ⟨g, i, none⟩ = some (.int .i64 (gi xs i)) := by
  obtain ⟨g', e, -, -, h1, -⟩ := OwnK.at_ h hi
  cases e
  exact h1
end Go.Proofs.YtdfinlpfkmmpkaaDoor
