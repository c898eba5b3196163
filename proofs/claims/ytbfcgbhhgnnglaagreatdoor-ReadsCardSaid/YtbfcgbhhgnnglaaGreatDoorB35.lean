/- Texts of mine, one behind the other; nothing is assumed. -/
import Derived.Test.YtbfcgbhhgnnglaaGreatDoorB34
import Derived.Test.YtbfcgbhhgnnglaaGreatDoorB25
set_option linter.unusedSimpArgs false
set_option linter.unusedVariables false
set_option maxRecDepth 100000
namespace Go.W.T
open Go Go.W Go.M Go.Proofs Go.RowKit
def Mine(Bo:Nat)(W:World)(b:Nat):Prop:=b=Bo\/∃n c,W.heap[Bo]?=some (cl [.slice (some ⟨b,0,none⟩) n c] 76)
structure Kr (Bo:Nat) (A B:World):Prop where
 size:A.heap.size<=B.heap.size
 same:∀b o,A.heap[b]?=some o->o.isCells=true->¬ Mine Bo A b->B.heap[b]?=some o
 mine:∀b,Mine Bo B b->Mine Bo A b\/A.heap.size<=b
theorem Kr.trans{Bo:Nat}{A B C:World}(h:Kr Bo A B)(k:Kr Bo B C):Kr Bo A C:=
 ⟨Nat.le_trans h.size k.size,λb o hb ho hm=>k.same b o (h.same b o hb ho hm) ho λhB=>by
  rcases h.mine b hB with e|e
  .exact hm e
  .have:=lt_of_heap hb;omega,λb hC=>by
  rcases k.mine b hC with e|e
  .exact h.mine b e
  .exact Or.inr (Nat.le_trans h.size e)⟩
end Go.W.T
