/- Texts of mine, one behind the other; nothing is assumed. -/
import Derived.Test.YtaaepbggooiblaaGreatDoorB26
import Derived.Laws.MakeOwn
set_option linter.unusedSimpArgs false
set_option linter.unusedVariables false
set_option maxRecDepth 4000
namespace Go.W.T
open Go Go.W Go.M Go.Proofs
theorem aT{lim:Lim}{e e':ES}{parts:List By}(h:e.put lim parts=.ok e')(hN:(e.out.length:Int)≤max 0 lim.size):(e'.out.length:Int)≤max 0 lim.size:=by
 obtain⟨rfl,h2⟩:=put_ok h
 rcases h2 with rfl|h2
 ·simpa using hN
 ·simp only at h2 ⊢;omega
theorem Xa(lim:Lim):Each (lV lim) fun e e'=>(e.out.length:Int)≤max 0 lim.size→(e'.out.length:Int)≤max 0 lim.size:=by
 refine⟨fun d h=>h,fun a b c h k x=>k (h x),?_,?_,?_,?_⟩
 ·intro op f m set e e' ho _ h hN
  simp only[lV,ES.IB]at h
  split at h
  ·obtain⟨n,_,h⟩:=Res.then_ok h
   obtain⟨_,_,h⟩:=Res.then_ok h
   exact aT h hN
  ·obtain⟨n,_,h⟩:=Res.then_ok h
   obtain⟨_,_,h⟩:=Res.then_ok h
   exact aT h hN
 ·intro v n e x _ h hN
  simp only[lV,ES.IA]at h
  obtain⟨n,_,h⟩:=Res.then_ok h
  split at h
  ·obtain⟨_,_,h⟩:=Res.then_ok h
   obtain⟨e',h1,h⟩:=Res.then_ok h
   cases h
   exact aT h1 hN
  ·obtain⟨_,_,h⟩:=Res.then_ok h
   obtain⟨e',h1,h⟩:=Res.then_ok h
   cases h
   exact aT h1 hN
 ·intro e x h hN
  simp only[lV,ES.option]at h
  obtain⟨n,_,h⟩:=Res.then_ok h
  obtain⟨_,_,h⟩:=Res.then_ok h
  obtain⟨e',h1,h⟩:=Res.then_ok h
  cases h
  exact aT h1 hN
 ·intro of_ set which e x h hN
  simp only[lV,ES.xu]at h
  obtain⟨n,_,h⟩:=Res.then_ok h
  obtain⟨_,_,h⟩:=Res.then_ok h
  split at h
  ·cases h
  ·obtain⟨_,_,h⟩:=Res.then_ok h
   obtain⟨e',h1,h⟩:=Res.then_ok h
   cases h
   exact aT h1 hN
theorem Uy{defs:List (By×Def)}{lim:Lim}{t:Ty}{l:List Nd}{b:By}(ho:qF defs)(ht:okT t=true)(h:Uz defs lim t l=.ok b):(b.length:Int)≤max 0 lim.size:=by
 obtain⟨e,h1,h2,rfl⟩:=aci h
 exact(Xa lim).ty ((Xa lim).sem ho _) t ht h1 (by simp only[List.length_nil];omega)
end Go.W.T
