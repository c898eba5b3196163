/- Texts of mine, one behind the other; nothing is assumed. -/
import Derived.Test.YtbfcgbhhgnnglaaGreatDoorB21
import Derived.Test.YtbfcgbhhgnnglaaGreatDoorB00
import Derived.Test.YtbfcgbhhgnnglaaGreatDoorB22
set_option linter.unusedSimpArgs false
set_option linter.unusedVariables false
set_option maxRecDepth 100000
namespace Go.W
open Go
end Go.W
namespace Go.W.T
open Go Go.W Go.M Go.Proofs
theorem fF.ok{P:Program}{s:Sem Value}{w w':World}{v:Value}{K:KV}(h:s.run P w=.ok v w')(hK:K v w'):fF P s w K:=⟨by unfold SH;rw[h];exact hK⟩
end Go.W.T
set_option autoImplicit true
set_option relaxedAutoImplicit true
namespace Go.W.T
open Go Go.W Go.M Go.Proofs
end Go.W.T
namespace Go.W
open Go
abbrev clf(l:List Value)(t:TypeId)(fr:Nat×Nat):Obj:=.cells (List.toArray l) t fr
theorem Ld.t{w:World}{b o:Nat}{l:List Value}{t:TypeId}{fr:Nat×Nat}{x:Value}{K:Value->Prop}(hK:K x)(h:w.heap[b]?=some (clf l t fr):=by exact lookA)(hx:l[o]?=some x:=by first|rfl|assumption):Ld (pt b o) w K:=by
 rw[sLd,h];show (match (List.toArray l)[o]? with|some x=>K x|none=>False);rw[List.getElem?_toArray,hx];exact hK
abbrev Ld.r:=@Ld.t
theorem LdN.t{w:World}{b o n:Nat}{l:List Value}{t:TypeId}{fr:Nat×Nat}{l':List Value}{K:Value->Prop}(hK:K (.agg (List.toArray l')))(h:w.heap[b]?=some (clf l t fr):=by exact lookA)(hx:o+n<=l.length)(hl:(l.drop o).take n=l'):LdN (pt b o) n w K:=by
 apply sLdN;rw[h];refine⟨by simpa using hx,?_⟩;rw[hl];exact hK
abbrev LdN.r:=@LdN.t
end Go.W
namespace Go.W.T
open Go Go.W Go.M Go.Proofs
end Go.W.T
namespace Go.W.T
open Go Go.W Go.M Go.Proofs
end Go.W.T
namespace Go.W.T
open Go Go.W Go.M Go.Proofs
theorem KD(n:Nat):(xP n).length=4:=rfl
end Go.W.T
namespace Go.W.T
open Go Go.W Go.M Go.Proofs
end Go.W.T
namespace Go.W.T
open Go Go.W Go.M Go.Proofs
end Go.W.T
