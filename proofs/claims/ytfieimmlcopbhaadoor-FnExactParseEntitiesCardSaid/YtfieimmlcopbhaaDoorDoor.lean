/-
  PLAIN LAWS: from a row's condition on the laid variables to the table's contract.
-/
import Derived.Test.YtfieimmlcopbhaaDoorFmtI
import Derived.LaidLaws
import Derived.Lay
import Derived.Handed
import Derived.JoinedAt
namespace Go.Proofs.YtfieimmlcopbhaaDoor
open Go.RowKit

theorem tab_mem {P : Program} {w : World} {name : String} {k : IntKind} {zs : List Int} {t e : TypeId} {n g : Nat}
    (hg : P.globalNamed name = some g) (hty : (P.globals[g]?).map (·.type) = some t) (ht : P.underlying t = some (.array n e)) (he : P.underlying e = some (.int k)) (hce : P.cellsOf e = 1) (hct : P.cellsOf t = n) :
    ∀ {l : List (String × DataW Unit)} {ps : List MemPlace}, DataW.LaidVars P w l ps → (name, Go.Lib.tabData k zs) ∈ l → Go.Lib.TabIs P w name k zs
  | [], _, _, hm => by cases hm
  | (n2, d2) :: r, ps, h, hm => by
    obtain ⟨g', t', cs, fuel, p, q, hg', ht', hvar, hd, h5, _⟩ := h
    rcases List.mem_cons.1 hm with hm | hm
    · injection hm with e1 e2
      subst e1
      subst e2
      obtain rfl := Option.some.inj (hg.symm.trans hg')
      obtain rfl := Option.some.inj (hty.symm.trans ht')
      unfold Go.Lib.TabIs
      rw [hvar, ← Go.Lib.cells_of_tab ht he hce hct hd]
    · exact tab_mem hg hty ht he hce hct h5 hm
end Go.Proofs.YtfieimmlcopbhaaDoor
