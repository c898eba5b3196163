/- Texts of mine, one behind the other; nothing is assumed. -/
import Derived.Test.YtaaepbggooiblaaGreatDoorB23
import Derived.Test.YtaaepbggooiblaaGreatDoorB06
import Derived.Test.YtaaepbggooiblaaGreatDoorB24
set_option linter.unusedSimpArgs false
set_option linter.unusedVariables false
set_option maxRecDepth 4000
namespace Go.W
open Go
def fB(l:List UInt8):List Value:=l.map fun b=>.int .u8 b.toNat
theorem SE(l:List UInt8):(fB l).all (·.oneCell')=true:=by
 induction l with
 |nil=>rfl
 |cons a r ih=>rw[fB,List.map_cons,List.all_cons];rw[fB]at ih;rw[ih];rfl
theorem y9(l:List UInt8):(fB l).length=l.length:=by simp[fB]
theorem Ap.str{e bytes:Nat}{zero v:Value}{s:List UInt8}{l:List Value}{w:World}{K:KV}{n:Nat}{o:Option Nat}
  (hg:Gw w e 1 v n l o)
  (hK:∀v' w' o',Gw w' e 1 v' (n+s.length) (l++fB s) o'→(o'=o∨o'=some w.heap.size)→Kp (own o) w w'→K v' w')
  (hb:(n+s.length)*bytes≤140737488355328) (hz:zero.cells.size=1:=by rfl):Ap e 1 bytes zero v (.string (bs s)) w K:=by
 refine⟨?_⟩
 have hsrc:eP 1 (.string (bs s)) w=some (s.length,fB s):=by
  have h1:(bs s).size=s.length:=rfl
  have h2:(bs s).data.toList=s:=by simp[bs]
  simp only[eP,h1,h2];rfl
 obtain⟨hl,hg2⟩:=hg
 rw[Nat.mul_one]at hl
 have hbl:=y9 s
 have hlen:((l++fB s).length)=(n+s.length)*1:=by rw[List.length_append,hl,hbl,Nat.mul_one]
 cases o with
 |none=>
  obtain⟨rfl,rfl⟩:=hg2
  have hl0:l=[]:=List.length_eq_zero_iff.mp hl
  subst hl0
  unfold ApD
  refine⟨s.length,fB s,hsrc,?_⟩
  by_cases h0:0+s.length≤0
  ·rw[if_pos h0]
   have hs0:s=[]:=List.length_eq_zero_iff.mp (by omega)
   subst hs0
   exact hK _ _ none ⟨hlen,rfl,rfl⟩ (Or.inl rfl) (Kp.refl _ _)
  rw[if_neg h0]
  refine⟨by simpa using hb,[],0,by simp[eP],fun c hc=>?_⟩
  refine hK _ _ (some w.heap.size) ⟨hlen,(Builtin.zeroCells zero.cells (c - (0+s.length))).toList,c,?_,?_,?_⟩ (Or.inr rfl) ?_
  ·simp
  ·rw[iR (by rfl)]
   simp only[List.nil_append,Array.empty_append,cl]
   congr 2
   apply Array.toList_inj.mp
   simp only[Array.toList_append]
  ·have hc':0+s.length≤c:=hc
   have e9:(Builtin.zeroCells zero.cells (c - (0+s.length))).toList.length=c - (0+s.length):=by rw[Array.length_toList,lN,hz,Nat.mul_one]
   rw[hlen,e9];omega
  ·exact((Kp.refl _ _).drew).alloc _
 |some b=>
  obtain⟨rest,cap,rfl,hbb,hcap⟩:=hg2
  unfold ApD
  refine⟨s.length,fB s,hsrc,?_⟩
  by_cases hfit:n+s.length≤cap
  ·rw[if_pos hfit]
   have hsz:n*1+(fB s).length≤(List.toArray (l++rest)).size:=by simp;omega
   have hadd:(Addr.add ⟨b,0,none⟩ (n*1))=⟨b,n*1,none⟩:=by rw[add_eq,Nat.zero_add]
   simp only[]
   rw[hadd,nU e (fB s) w b (n*1) 0 (List.toArray (l++rest)) hbb (by rw[Nat.add_zero];exact hsz) (SE s)]
   refine hK _ _ (some b) ⟨hlen,rest.drop s.length,cap,rfl,?_,?_⟩ (Or.inl rfl) ?_
   ·rw[qC hbb]
    congr 2
    unfold putAt
    congr 1
    have e1:List.take (n*1) (l++rest)=l:=by rw[Nat.mul_one,← hl,List.take_left'];rfl
    have e2:List.drop (n*1+(fB s).length) (l++rest)=rest.drop s.length:=by rw[Nat.mul_one,← hl,hbl,← List.drop_drop,List.drop_left'];rfl
    simp only[Nat.add_zero,e1,e2,List.append_assoc]
   ·rw[hlen,List.length_drop];omega
   ·exact Kp.Gu (Kp.refl _ _) (by simp[own,Out]) _
  ·rw[if_neg hfit]
   have hcn:fA w ⟨b,0,none⟩ 0 (n*1)=some l:=by
    rw[oQ hbb (n*1) 0 (by rw[List.length_append];omega)]
    simp[← hl]
   refine⟨hb,l,n,by simp only[eP,hcn];rfl,fun c hc=>?_⟩
   refine hK _ _ (some w.heap.size) ⟨hlen,(Builtin.zeroCells zero.cells (c - (n+s.length))).toList,c,rfl,?_,?_⟩ (Or.inr rfl) ?_
   ·rw[iR (by rfl)]
    congr 2
    apply Array.toList_inj.mp
    simp only[Array.toList_append]
   ·have hc':n+s.length≤c:=hc
    have e9:(Builtin.zeroCells zero.cells (c - (n+s.length))).toList.length=c - (n+s.length):=by rw[Array.length_toList,lN,hz,Nat.mul_one]
    rw[hlen,e9];omega
   ·exact((Kp.refl _ _).drew).alloc _
end Go.W
namespace Go.W.T
open Go Go.W Go.M Go.Proofs
theorem u136:P.underlying 136=some (.pointer 139):=by kernel_rfl
theorem u167:P.underlying 167=some .unsafePointer:=by kernel_rfl
theorem Yf:(P.info? 139).map (·.size)=some 2:=by kernel_rfl
theorem dM.ok{P:Program}{s:Sem Value}{w w':World}{v:Value}{K:KV}(h:s.run P w=.ok v w')(hK:K v w'):dM P s w K:=⟨by unfold QR;rw[h];exact hK⟩
theorem lL.val{P:Program}{s:Sem Next}{w w':World}{v:Value}{E:KE}{K:KV}(h:s.run P w=.ok (.value v) w')(hK:K v w'):lL P s w E K:=⟨by unfold ED;rw[h];exact hK⟩
end Go.W.T
namespace Go.W.T
open Go Go.W Go.M Go.Proofs
end Go.W.T
namespace Go.W
open Go
abbrev clf(l:List Value)(t:TypeId)(fr:Nat×Nat):Obj:=.cells (List.toArray l) t fr
theorem Ld.t{w:World}{b o:Nat}{l:List Value}{t:TypeId}{fr:Nat×Nat}{x:Value}{K:Value→Prop}(hK:K x)(h:w.heap[b]?=some (clf l t fr):=by exact lookA)(hx:l[o]?=some x:=by first|rfl|assumption):Ld (pt b o) w K:=by
 rw[sLd,h]
 show (match (List.toArray l)[o]? with|some x=>K x|none=>False)
 rw[List.getElem?_toArray,hx];exact hK
abbrev Ld.y:=@Ld.t
theorem LdN.t{w:World}{b o n:Nat}{l:List Value}{t:TypeId}{fr:Nat×Nat}{l':List Value}{K:Value→Prop}(hK:K (.agg (List.toArray l')))(h:w.heap[b]?=some (clf l t fr):=by exact lookA)(hx:o+n≤l.length)(hl:(l.drop o).take n=l'):LdN (pt b o) n w K:=by
 apply sLdN
 rw[h]
 refine⟨by simpa using hx,?_⟩
 rw[hl];exact hK
abbrev LdN.y:=@LdN.t
end Go.W
namespace Go.W.T
open Go Go.W Go.M Go.Proofs
end Go.W.T
namespace Go.W.T
open Go Go.W Go.M Go.Proofs
end Go.W.T
namespace Go.W.T
open Go Go.W Go.M Go.Proofs
end Go.W.T
namespace Go.W.T
open Go Go.W Go.M Go.Proofs
end Go.W.T
namespace Go.W.T
open Go Go.W Go.M Go.Proofs
end Go.W.T
