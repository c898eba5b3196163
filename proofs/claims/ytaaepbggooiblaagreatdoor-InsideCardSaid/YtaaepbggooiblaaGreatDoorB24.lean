/- Texts of mine, one behind the other; nothing is assumed. -/
import Derived.Test.YtaaepbggooiblaaGreatDoorB22
import Derived.Test.YtaaepbggooiblaaGreatDoorB06
import Derived.Test.YtaaepbggooiblaaGreatDoorB23
set_option linter.unusedSimpArgs false
set_option linter.unusedVariables false
set_option maxRecDepth 4000
namespace Go.W
open Go
end Go.W
namespace Go.W.T
open Go Go.W Go.M Go.Proofs
end Go.W.T
namespace Go.W.T
open Go Go.W Go.M Go.Proofs
end Go.W.T
namespace Go.W
open Go
abbrev clf(l:List Value)(t:TypeId)(fr:Nat×Nat):Obj:=.cells (List.toArray l) t fr
theorem Ld.t{w:World}{b o:Nat}{l:List Value}{t:TypeId}{fr:Nat×Nat}{x:Value}{K:Value→Prop}(hK:K x)(h:w.heap[b]?=some (clf l t fr):=by exact lookA)(hx:l[o]?=some x:=by first|rfl|assumption):Ld (pt b o) w K:=by
 rw[sLd,h]
 show (match (List.toArray l)[o]? with|some x=>K x|none=>False)
 rw[List.getElem?_toArray,hx];exact hK
abbrev Ld.y:=@Ld.t
theorem LdN.t{w:World}{b o n:Nat}{l:List Value}{t:TypeId}{fr:Nat×Nat}{l':List Value}{K:Value→Prop}(hK:K (.agg (List.toArray l')))(h:w.heap[b]?=some (clf l t fr):=by exact lookA)(hx:o+n≤l.length)(hl:(l.drop o).take n=l'):LdN (pt b o) n w K:=by
 apply sLdN
 rw[h]
 refine⟨by simpa using hx,?_⟩
 rw[hl];exact hK
abbrev LdN.y:=@LdN.t
end Go.W
namespace Go.W.T
open Go Go.W Go.M Go.Proofs
def Ep(w:World)(v:Value)(l:List Nd):Prop:=(∃a c,v=.slice a l.length c)∧(l≠[]→∃b off t fr cs c,v=.slice (some ⟨b,off,none⟩) l.length c∧w.heap[b]?=some (clf cs t fr)∧off+l.length*5≤cs.length∧(cs.drop off).take (l.length*5)=aJ l)
theorem Ep.of{w w':World}{v:Value}{l:List Nd}(h:Ep w v l)(hk:∀b x,w.heap[b]?=some x→(∃off n c,v=.slice (some ⟨b,off,none⟩) n c)→w'.heap[b]?=some x):Ep w' v l:=by
 refine⟨h.1,fun hn=>?_⟩
 obtain⟨b,off,t,fr,cs,c,h1,h2,h3⟩:=h.2 hn
 exact⟨b,off,t,fr,cs,c,h1,hk b _ h2 ⟨off,_,c,h1⟩,h3⟩
theorem Ep.kp{w w':World}{v:Value}{l:List Nd}(h:Ep w v l)(k:Kp [] w w'):Ep w' v l:=h.of fun b x hb _=>(k.same b (lt_of_heap hb) trivial).trans hb
theorem xW:∀{l:List Nd} {k:Nat} {n:Nd},l[k]?=some n→((aJ l).drop (k*5)).take 5=gz n
 |a::r,0,n,h=>by simp at h;subst h;simp[aJ,gz]
 |a::r,k+1,n,h=>by
  have h':r[k]?=some n:=by simpa using h
  rw[aJ,List.flatMap_cons]
  have e:(k+1)*5=(gz a).length+k*5:=by simp[gz];omega
  rw[e,← List.drop_drop,List.drop_left']
  ·exact xW h'
  ·rfl
theorem Ep.at{w:World}{v:Value}{l:List Nd}{k:Nat}{n:Nd}(h:Ep w v l)(hk:l[k]?=some n):∃b off t fr cs c,v=.slice (some ⟨b,off,none⟩) l.length c∧w.heap[b]?=some (clf cs t fr)∧off+k*5+5≤cs.length∧(cs.drop (off+k*5)).take 5=gz n:=by
 have hlt:k<l.length:=by
  rcases Nat.lt_or_ge k l.length with h|h
  ·exact h
  ·rw[List.getElem?_eq_none h]at hk;cases hk
 obtain⟨b,off,t,fr,cs,c,h1,h2,h3,h4⟩:=h.2 (fun e=>by subst e;cases hk)
 refine⟨b,off,t,fr,cs,c,h1,h2,by omega,?_⟩
 have h5:=xW hk
 rw[← h4]at h5
 rw[← List.drop_drop,← h5,List.drop_take,List.take_take]
 congr 1
 omega
end Go.W.T
namespace Go.W.T
open Go Go.W Go.M Go.Proofs
end Go.W.T
namespace Go.W.T
open Go Go.W Go.M Go.Proofs
end Go.W.T
namespace Go.W.T
open Go Go.W Go.M Go.Proofs
end Go.W.T
namespace Go.W.T
open Go Go.W Go.M Go.Proofs
theorem AB{recv:Value}{name:String}{args args':Array Value}{w:World}{E:KE}{K:KV}{f:FuncId}(h:(callMethod recv name args).run P w=.ok (.enter f args') w)(hK:Cl P f args' w E K):ny P recv name args w E K:=
 ⟨by unfold Lj;exact⟨by unfold Fh;rw[h];exact hK⟩⟩
theorem ZA(b:Nat)(a:Value)(w:World):(callMethod (.iface 142 (pt b 0)) "marshal/machine.leaf" #[a]).run P w=.ok (.enter dO #[pt b 0,a]) w:=by kernel_rfl
theorem Zz(b:Nat)(a:Value)(w:World):(callMethod (.iface 142 (pt b 0)) "marshal/machine.list" #[a]).run P w=.ok (.enter dN #[pt b 0,a]) w:=by kernel_rfl
theorem UX(b:Nat)(w:World):(callMethod (.iface 142 (pt b 0)) "marshal/machine.option" #[]).run P w=.ok (.enter dA #[pt b 0]) w:=by kernel_rfl
theorem Xj(b:Nat)(a:Value)(w:World):(callMethod (.iface 142 (pt b 0)) "marshal/machine.union" #[a]).run P w=.ok (.enter dF #[pt b 0,a]) w:=by kernel_rfl
theorem Xk(b:Nat)(w:World):(callMethod (.iface 142 (pt b 0)) "marshal/machine.place" #[]).run P w=.ok (.enter dG #[pt b 0]) w:=by kernel_rfl
theorem PostF.mono{β:Type}{F:Nat→Prop}{w:World}{m:Res β}{good good':β→Value→(Nat→Prop)→World→Prop}{f:FuncId}{args:Array Value}(h:Calls P f args w (PostF F w m good))(hg:∀b v F' w',m=.ok b→good b v F' w'→good' b v F' w'):Calls P f args w (PostF F w m good'):=by
 refine h.mono ?_
 rintro en w' ⟨h1,h2⟩
 refine⟨h1,?_⟩
 cases m with
 |ok b=>obtain⟨v,F',h3,h4,h5⟩:=h2;exact⟨v,F',h3,h4,hg b v F' w' rfl h5⟩
 |no e a=>exact h2
theorem Uo{L:List Ins}{tabs:List Tab}{i:Ins}(h:wY L.length tabs i=true)(hi:i.op=13)(n:Int):target tabs i n<L.length:=by
 unfold wY at h
 have h1:=of_decide_eq_true (Bool.and_eq_true _ _|>.mp h).1
 have h2:=(Bool.and_eq_true _ _|>.mp h).2
 unfold target
 split
 ·have:=h1.2.2.1
  rcases Nat.eq_zero_or_pos L.length with e|e<;>omega
 ·split
  ·rename_i t ht
   have hm:(n,t)∈(jw tabs i.table).getD []:=by
    clear h2
    revert ht
    generalize (jw tabs i.table).getD []=l
    intro ht
    induction l with
    |nil=>cases ht
    |cons x r ih=>
     obtain⟨a,b⟩:=x
     rw[List.lookup_cons]at ht
     cases hab:n==a with
     |true=>rw[hab]at ht;simp at ht hab;subst ht hab;exact List.mem_cons_self ..
     |false=>rw[hab]at ht;exact List.mem_cons_of_mem _ (ih ht)
   have:=of_decide_eq_true (List.all_eq_true.mp h2 _ hm) hi
   simp only at this
   omega
  ·exact h1.2.2.1
theorem DR.extF{M db:Nat}{cp:Value}{lim:Lim}{F G:Nat→Prop}{w w':World}{d:DS}(h:DR M db cp lim F w d)(k:Kf G w w')(hd:∀i,F i→¬ G i):DR M db cp lim F w' d:=by
 obtain⟨v,o,h1,h2,h3⟩:=h.c
 exact { h with c:=⟨v,o,(k.same _ (lt_of_heap h1) (hd _ h.fd)).trans h1,DX h2 k (fun b hb=>hd _ (h3 b hb).2),h3⟩,fl:=fun b hb=>Nat.lt_of_lt_of_le (h.fl b hb) k.size }
theorem Pz{lim:Lim}{i:Ins}{d:DS}{x:Int×DS}(hm:d.list lim i=.ok x)(h0:0≤i.n)(h1:i.n≤4294967295):0≤x.1∧x.1≤4294967295:=by
 rw[DS.list]at hm
 obtain⟨u,_,hm⟩:=Res.then_ok hm
 obtain⟨y,hy,hm⟩:=Res.then_ok hm
 cases hm
 split at hy
 ·obtain⟨z,hz,hy⟩:=Res.then_ok hy
  cases hy
  rw[DS.count]at hz
  obtain⟨q,hq,hz⟩:=Res.then_ok hz
  split at hz
  ·cases hz
  ·cases hz;simp only;omega
 ·cases hy;simp only;omega
theorem readC{w0:World}{db:Nat}{cp:Value}{lim:Lim}{T:List Nat}{L:List Ins}{tabs:List Tab}(hc:MC w0 cp T L tabs)(hL:∀i∈L,wY L.length tabs i=true):
  WayC w0 (.iface 142 (pt db 0)) (pt db 0) (Bc L tabs lim) (fun F w d=>DR w0.heap.size db cp lim F w d) T L where
 low F w d h b hb:=⟨h.fM b hb,h.fl b hb⟩
 ext F G w w' d h k hd:=h.extF k hd
 leaf:=⟨dO,fun a w E K h=>AB (ZA db a w) h,fun F w d i t u h k hi ht hu=>Vy h k hc.t ht hu (fun _=>by
  have:=hL i hi
  unfold wY at this
  exact(of_decide_eq_true (Bool.and_eq_true _ _|>.mp this).1).1)⟩
 list:=⟨dN,fun a w E K h=>AB (Zz db a w) h,fun F w d i t u h k hi ht hu=>PostF.mono (Vx h ht hu) (fun b v F' w' hm hg=>by
  have hio:=hL i hi
  unfold wY at hio
  have hb:=of_decide_eq_true (Bool.and_eq_true _ _|>.mp hio).1
  have hr:=Pz hm hb.1 hb.2.1
  exact⟨hg.1,hr.1,hr.2,hg.2⟩)⟩
 option:=⟨dA,fun w E K h=>AB (UX db w) h,fun F w d h k=>Q9 h⟩
 union:=⟨dF,fun a w E K h=>AB (Xj db a w) h,fun F w d i t u h k hi h13 ht hu=>PostF.mono (SV h k hc ht hu (Uo (hL i hi) h13)) (fun b v F' w' _ hg=>⟨hg.1,hg.2.1,hg.2.2.2⟩)⟩
 place:=⟨dG,fun w E K h=>AB (Xk db w) h,fun F w d h=>Td h⟩
end Go.W.T
