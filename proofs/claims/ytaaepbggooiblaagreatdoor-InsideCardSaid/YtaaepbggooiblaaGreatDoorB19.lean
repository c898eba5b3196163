/- Texts of mine, one behind the other; nothing is assumed. -/
import Derived.Test.YtaaepbggooiblaaGreatDoorB04
import Derived.Test.YtaaepbggooiblaaGreatDoorB18
import Derived.Test.YtaaepbggooiblaaGreatDoorB06
import Derived.Test.YtaaepbggooiblaaGreatDoorB14
set_option linter.unusedSimpArgs false
set_option linter.unusedVariables false
set_option maxRecDepth 4000
namespace Go.W
open Go
theorem St.set{w:World}{b o:Nat}{x y:Value}{l:List Value}{t:TypeId}{K:World→Prop}(h:w.heap[b]?=some (cl l t))(ho:l[o]?=some y)(hx:x.oneCell'=true)(hK:K (ah w b (cl (l.set o x) t))):St (pt b o) x w K:=by
 have hlt:o<l.length:=by
  rcases Nat.lt_or_ge o l.length with h|h
  ·exact h
  ·rw[List.getElem?_eq_none h]at ho;cases ho
 refine St.s (l:=l) (t:=t) (l':=l.set o x) hK h hx (by omega) ?_
 rw[List.set_eq_take_append_cons_drop,if_pos hlt]
 simp
end Go.W
namespace Go.W.T
open Go Go.W Go.M Go.Proofs
def TabAt(w:World)(b:Nat)(l:Tab):Prop:=∃es ck,w.heap[b]?=some (.map es ck)∧MK (κi .i64) es ck (l.map fun x=>(x.1,i64 (x.2:Nat)))
def df(T:List Nat):Option Nat→Value→Prop
 |none,v=>v=.map none
 |some i,v=>∃b,T[i]?=some b∧v=.map (some b)
def eu(T:List Nat):List Ins→List Value→Prop
 |[],[]=>True
 |i::r,a::b::c::d::e::f::g::l=>a=i64 (i.op:Nat)∧b=.int .i64 i.n∧c=.int .i64 i.to∧d=.bool i.fixed∧e=i64 (i.of_:Nat)∧df T i.table f∧df T i.set g∧eu T r l
 |_,_=>False
theorem df.app{T T':List Nat}{o:Option Nat}{v:Value}(h:df T o v):df (T++T') o v:=by
 cases o with
 |none=>exact h
 |some i=>
  obtain⟨b,h1,h2⟩:=h
  refine⟨b,?_,h2⟩
  have hlt:i<T.length:=by
   rcases Nat.lt_or_ge i T.length with h|h
   ·exact h
   ·rw[List.getElem?_eq_none h]at h1;cases h1
  rw[List.getElem?_append_left hlt];exact h1
theorem df.one{T:List Nat}{o:Option Nat}{v:Value}(h:df T o v):∃b,v=.map b:=by
 cases o with
 |none=>exact⟨_,h⟩
 |some i=>obtain⟨b,_,h2⟩:=h;exact⟨_,h2⟩
theorem eu.cases{T:List Nat}:∀{L:List Ins} {l:List Value},eu T L l→(L=[]∧l=[])∨∃i r f g l',L=i::r∧l=[i64 (i.op:Nat),.int .i64 i.n,.int .i64 i.to,.bool i.fixed,i64 (i.of_:Nat),f,g]++l'∧df T i.table f∧df T i.set g∧eu T r l'
 |[],[],_=>Or.inl ⟨rfl,rfl⟩
 |i::r,_::_::_::_::_::f::g::l,⟨h1,h2,h3,h4,h5,h6,h7,h8⟩=>Or.inr ⟨i,r,f,g,l,rfl,by subst h1 h2 h3 h4 h5;rfl,h6,h7,h8⟩
theorem eu.mk{T:List Nat}{i:Ins}{r:List Ins}{f g:Value}{l':List Value}(hf:df T i.table f)(hg:df T i.set g)(h:eu T r l'):eu T (i::r) ([i64 (i.op:Nat),.int .i64 i.n,.int .i64 i.to,.bool i.fixed,i64 (i.of_:Nat),f,g]++l'):=
 ⟨rfl,rfl,rfl,rfl,rfl,hf,hg,h⟩
theorem eu.app{T T':List Nat}:∀{L:List Ins} {l:List Value},eu T L l→eu (T++T') L l
 |[],[],_=>trivial
 |_::_,_::_::_::_::_::_::_::_,⟨h1,h2,h3,h4,h5,h6,h7,h8⟩=>⟨h1,h2,h3,h4,h5,h6.app,h7.app,eu.app h8⟩
theorem eu.len{T:List Nat}:∀{L:List Ins} {l:List Value},eu T L l→l.length=L.length*7:=by
 intro L
 induction L with
 |nil=>intro l h;rcases h.cases with⟨_,rfl⟩|⟨_,_,_,_,_,h,_⟩
       · rfl
       · cases h
 |cons i r ih=>
  intro l h
  rcases h.cases with⟨h,_⟩|⟨i',r',f,g,l',h1,rfl,_,_,h2⟩
  ·cases h
  ·cases h1
   rw[List.length_append,ih h2]
   simp only[List.length_cons,List.length_nil]
   omega
theorem eu.snoc{T:List Nat}{i:Ins}{f g:Value}(hf:df T i.table f)(hg:df T i.set g):∀{L:List Ins} {l:List Value},eu T L l →
  eu T (L++[i]) (l++[i64 (i.op:Nat),.int .i64 i.n,.int .i64 i.to,.bool i.fixed,i64 (i.of_:Nat),f,g]):=by
 intro L
 induction L with
 |nil=>intro l h;rcases h.cases with⟨_,rfl⟩|⟨_,_,_,_,_,h,_⟩
       · exact eu.mk hf hg trivial
       · cases h
 |cons i r ih=>
  intro l h
  rcases h.cases with⟨h,_⟩|⟨i',r',f,g,l',h1,rfl,h3,h4,h2⟩
  ·cases h
  ·cases h1
   rw[List.append_assoc,List.cons_append]
   exact eu.mk h3 h4 (ih h2)
theorem eu.iU{T:List Nat}{x:Int}:∀{L:List Ins} {l:List Value} {at_:Nat},eu T L l→at_<L.length →
  (∃y,l[0+at_*7+2]?=some y)∧eu T (L.modify at_ fun i=>{ i with to:=x }) (l.set (0+at_*7+2) (.int .i64 x)):=by
 intro L
 induction L with
 |nil=>intro l at_ _ h;exact absurd h (by simp)
 |cons i r ih=>
  intro l at_ h hat
  rcases h.cases with⟨h,_⟩|⟨i',r',f,g,l',h1,rfl,h3,h4,h2⟩
  ·cases h
  ·cases h1
   cases at_ with
   |zero=>exact⟨⟨_,rfl⟩,eu.mk h3 h4 h2⟩
   |succ k=>
    obtain⟨⟨y,hy⟩,h5⟩:=ih h2 (by simpa using hat)
    have e:0+(k+1)*7+2=(0+k*7+2)+7:=by omega
    rw[e]
    refine⟨⟨y,?_⟩,?_⟩
    ·rw[List.getElem?_append_right (by simp)];simpa using hy
    ·rw[List.set_append_right _ _ (by simp),List.modify_succ_cons]
     exact eu.mk h3 h4 (by simpa using h5)
abbrev aN:=Nat→Nat×Nat
def gK(l:List (Nat×By×Nat)):List Value:=l.flatMap fun x=>[i64 (x.1:Nat),κs x.2.1,i64 (x.2.2:Nat)]
def xw(H:Hp):List (By×Value)→List (By×Def)→Prop
 |[],[]=>True
 |x::m,y::l=>x.1=y.1∧fQ H y.2 x.2∧xw H m l
 |_,_=>False
def ie:Int→Nat
 |.ofNat n=>2*n
 |.negSucc n=>2*n+1
theorem YX{a b:Int}(h:ie a=ie b):a=b:=by
 cases a<;>cases b<;>simp only[ie]at h<;>first|(congr 1;omega)|omega
def fH(w:World)(ρ:aN):List (Int×Value)→List (Int×List Int)→Prop
 |[],[]=>True
 |x::m,y::l=>x.1=y.1∧(∃o,Gw w rX 1 x.2 y.2.length (y.2.map (Value.int .u32)) o∧∀b,o=some b→ρ b=(4,ie y.1))∧fH w ρ m l
 |_,_=>False
abbrev Qo(x:Nat×Nat×Bool×Bool):Value:=.agg #[i64 (x.1:Nat),i64 (x.2.1:Nat),.bool x.2.2.1,.bool x.2.2.2]
structure CR (B:Nat) (H:Hp) (ρ:aN) (T:List Nat) (w:World) (c:CS):Prop where
 gl:Gl w
 hB:NG≤B
 sub:Sub H w
 dom:∀b x,H b=some x→b<B
 lt:B+7≤w.heap.size
 free:∀b,w.heap.size≤b→ρ b=(0,0)
 low:∀b,b<B+7→ρ b=(0,0)
 L:∃v cells o,w.heap[B+3]?=some (cl [v,.map (some B),.map (some (B+1)),.map (some (B+2))] gU)∧Gw w aA 7 v c.L.length cells o∧eu T c.L cells∧∀b,o=some b→ρ b=(1,0)
 calls:∃v o,w.heap[B+6]?=some (cl [pt (B+3) 0,.map (some (B+4)),.map (some (B+5)),v] dJ)∧Gw w pg 3 v c.calls.length (gK c.calls) o∧∀b,o=some b→ρ b=(2,0)
 jU:T.length=c.tabs.length
 tabs:∀(i:Nat) b l,T[i]?=some b→c.tabs[i]?=some l→TabAt w b l∧ρ b=(3,i)
 types:∃es ck,w.heap[B]?=some (.map es ck)∧MK κs es ck (c.types.map fun x=>(x.1,i64 (x.2:Nat)))
 procs:∃es ck,w.heap[B+1]?=some (.map es ck)∧MK κc es ck (c.procs.map fun x=>(x.1,Qo x.2))∧∀x∈c.procs,Si x.1
 bM:∃es ck m,w.heap[B+2]?=some (.map es ck)∧MK (κi .u32) es ck m∧fH w ρ m c.bM
 defs:∃es ck m,w.heap[B+4]?=some (.map es ck)∧MK κs es ck m∧xw H m c.defs
 start:∃es ck,w.heap[B+5]?=some (.map es ck)∧MK κs es ck (c.start.map fun x=>(x.1,i64 (x.2:Nat)))
 uF:c.calls.length≤c.L.length
structure Kd (m:Nat) (B:Nat) (ρ:aN) (w w':World):Prop where
 os:w'.os=w.os
 tape:w'.tape=w.tape
 output:w'.output=w.output
 size:w.heap.size≤w'.heap.size
 same:∀b,b<w.heap.size→(b<B∨B+7≤b∧((ρ b).1=0∨m≤(ρ b).1))→w'.heap[b]?=w.heap[b]?
abbrev Kc(B:Nat)(ρ:aN)(w w':World):Prop:=Kd 5 B ρ w w'
theorem Kd.lW{m B:Nat}{ρ:aN}{w w':World}(h:Kd m B ρ w w'){b:Nat}(hb:b<w.heap.size)(hB:B+7≤b)(hr:ρ b=(0,0)):w'.heap[b]?=w.heap[b]?:=h.same b hb (Or.inr ⟨hB,Or.inl (by rw[hr])⟩)
def Rx(ρ ρ':aN)(n:Nat):Prop:=∀b,b<n→ρ' b=ρ b
theorem Rx.refl(ρ:aN)(n:Nat):Rx ρ ρ n:=fun _ _=>rfl
theorem Rx.trans{a b c:aN}{n m:Nat}(h:Rx a b n)(k:Rx b c m)(hm:n≤m):Rx a c n:=fun i hi=>(k i (by omega)).trans (h i hi)
theorem Kd.refl(m B:Nat)(ρ:aN)(w:World):Kd m B ρ w w:=⟨rfl,rfl,rfl,Nat.le_refl _,fun _ _ _=>rfl⟩
theorem Kd.up{m m' B:Nat}{ρ:aN}{w w':World}(h:Kd m B ρ w w')(hm:m≤m'):Kd m' B ρ w w':=⟨h.os,h.tape,h.output,h.size,fun b hb ho=>h.same b hb (ho.imp id fun x=>⟨x.1,x.2.imp id fun y=>by omega⟩)⟩
theorem Kd.trans{m B:Nat}{ρ ρ':aN}{a b c:World}(h:Kd m B ρ a b)(k:Kd m B ρ' b c)(r:Rx ρ ρ' a.heap.size):Kd m B ρ a c:=
 ⟨k.os.trans h.os,k.tape.trans h.tape,k.output.trans h.output,Nat.le_trans h.size k.size,fun i hi ho=>
  (k.same i (Nat.lt_of_lt_of_le hi h.size) (ho.imp id fun x=>⟨x.1,by rw[r i hi];exact x.2⟩)).trans (h.same i hi ho)⟩
theorem Kp.kc{X:List (Nat×Nat)}{m B:Nat}{ρ:aN}{a b:World}(k:Kp X a b)(h:∀i,i<a.heap.size→(i<B∨B+7≤i∧((ρ i).1=0∨m≤(ρ i).1))→Out X i):Kd m B ρ a b:=
 ⟨k.os,k.tape,k.output,k.size,fun i hi ho=>k.same i hi (h i hi ho)⟩
theorem Kp.kc0{m B:Nat}{ρ:aN}{a b:World}(k:Kp [] a b):Kd m B ρ a b:=Kp.kc k fun _ _ _=>trivial
def Ret(Q:KV):Ending→World→Prop:=fun en w'=>∃v,en=.returned v∧Q v w'
theorem Cl.ret{f:FuncId}{args:Array Value}{w:World}{Q:KV}{E:KE}{K:KV}(h:Calls P f args w (Ret Q))(hK:∀v w',Q v w'→K v w'):Cl P f args w E K:=by
 refine Cl.by h ?_ ?_ ?_
 ·rintro v w' ⟨v',hv,hq⟩;cases hv;exact hK _ _ hq
 ·rintro ch w' ⟨v',hv,_⟩;cases hv
 ·rintro w' ⟨v',hv,_⟩;cases hv
theorem Ret.R{f:FuncId}{args:Array Value}{w:World}{Q:KV}(h:∀R:Ending→World→Prop,(∀v w',Q v w'→R (.returned v) w')→Calls P f args w R):Calls P f args w (Ret Q):=h _ fun v w' hq=>⟨v,rfl,hq⟩
def CG(B:Nat)(H:Hp)(ρ:aN)(T:List Nat)(w:World)(c':CS)(w':World):Prop:=∃ρ' D,Kc B ρ w w'∧Rx ρ ρ' w.heap.size∧CR B H ρ' (T++D) w' c'
theorem fH.kp{w w':World}{ρ:aN}{X:List (Nat×Nat)}(k:Kp X w w')(hx:∀b,ρ b≠(0,0)→b<w.heap.size→(ρ b).1=4→Out X b):∀{m:List (Int×Value)} {l:List (Int×List Int)},fH w ρ m l→fH w' ρ m l
 |[],[],_=>trivial
 |x::m,y::l,h=>by
  obtain⟨h1,⟨o,h2,h3⟩,h4⟩:=h
  exact⟨h1,⟨o,h2.kp k (fun b hb=>hx b (by rw[h3 b hb];simp) (h2.lt b hb) (by rw[h3 b hb])),h3⟩,fH.kp k hx h4⟩
 |[],_::_,h=>h.elim
 |_::_,[],h=>h.elim
theorem TabAt.kp{w w':World}{b:Nat}{l:Tab}{X:List (Nat×Nat)}(h:TabAt w b l)(k:Kp X w w')(hx:Out X b):TabAt w' b l:=by
 obtain⟨es,ck,h1,h2⟩:=h
 exact⟨es,ck,(k.same b (lt_of_heap h1) hx).trans h1,h2⟩
theorem TabAt.lt{w:World}{b:Nat}{l:Tab}(h:TabAt w b l):b<w.heap.size:=by
 obtain⟨es,ck,h1,h2⟩:=h
 exact lt_of_heap h1
theorem CR.kp{B:Nat}{H:Hp}{ρ:aN}{T:List Nat}{w w':World}{c:CS}{X:List (Nat×Nat)}(h:CR B H ρ T w c)(k:Kp X w w')(h0:∀b,b<B+7→Out X b)(h1:∀b,1≤(ρ b).1∧(ρ b).1≤4→Out X b):CR B H ρ T w' c:=by
 have hl:=h.lt
 have hB:=h.hB
 have hs:∀i,i<B+7→w'.heap[i]?=w.heap[i]?:=fun i hi=>k.same i (by omega) (h0 i hi)
 obtain⟨v,cells,o,a1,a2,a3,a4⟩:=h.L
 obtain⟨v2,o2,b1,b2,b3⟩:=h.calls
 obtain⟨es,ck,d1,d2⟩:=h.procs
 obtain⟨es3,ck3,m3,e1,e2,e3⟩:=h.bM
 obtain⟨es4,ck4,m4,f1,f2,f3⟩:=h.defs
 obtain⟨es5,ck5,g1,g2⟩:=h.start
 exact { gl:=h.gl.kp k (fun i hi=>h0 i (by omega)),hB:=hB,sub:=h.sub.kp k (fun b x hx=>h0 b (by have:=h.dom b x hx;omega)),dom:=h.dom,lt:=by have:=k.size;omega,
         free := fun b hb => h.free b (by have := k.size; omega), low := h.low,
         L := ⟨v, cells, o, (hs _ (by omega)).trans a1, a2.kp k (fun b hb => h1 b (by rw [a4 b hb]; simp)), a3, a4⟩,
         calls := ⟨v2, o2, (hs _ (by omega)).trans b1, b2.kp k (fun b hb => h1 b (by rw [b3 b hb]; simp)), b3⟩,
         jU := h.jU, tabs := fun i b l hb hl => by obtain ⟨x1, x2⟩ := h.tabs i b l hb hl; exact ⟨x1.kp k (h1 b (by rw [x2]; simp)), x2⟩,
         types := (by obtain ⟨te, tc, t1, t2⟩ := h.types; exact ⟨te, tc, (hs _ (by omega)).trans t1, t2⟩), procs := ⟨es, ck, (hs _ (by omega)).trans d1, d2⟩,
         bM := ⟨es3, ck3, m3, (hs _ (by omega)).trans e1, e2, e3.kp k (fun b _ _ hb => h1 b (by omega))⟩,
         defs := ⟨es4, ck4, m4, (hs _ (by omega)).trans f1, f2, f3⟩, start := ⟨es5, ck5, (hs _ (by omega)).trans g1, g2⟩, uF := h.uF }
theorem CR.ext{B:Nat}{H:Hp}{ρ:aN}{T:List Nat}{w w':World}{c:CS}(h:CR B H ρ T w c)(k:Kp [] w w'):CR B H ρ T w' c:=h.kp k (fun _ _=>trivial) (fun _ _=>trivial)
theorem CR.tmp{B:Nat}{H:Hp}{ρ:aN}{T:List Nat}{w w':World}{c:CS}{a:Nat}(h:CR B H ρ T w c)(k:Kp [(a,a+1)] w w')(ha:B+7≤a)(hr:ρ a=(0,0)):CR B H ρ T w' c:=
 h.kp k (fun b hb=>⟨by omega,trivial⟩) (fun b hb=>⟨by
  by_cases e:b=a
  ·subst e;rw[hr]at hb;simp at hb
  ·omega,trivial⟩)
def dV(ρ:aN)(o:Option Nat)(r:Nat×Nat):aN:=fun b=>if o=some b then r else ρ b
theorem rG{ρ:aN}{o o':Option Nat}{r:Nat×Nat}{n:Nat}(ho:∀b,o=some b→ρ b=r)(hoo:o'=o∨∃b,o'=some b∧n≤b):Rx ρ (dV ρ o' r) n:=by
 intro b hb
 unfold dV
 split
 ·rename_i e
  rcases hoo with h|⟨b',h,hn⟩
  ·rw[h]at e;exact(ho b e).symm
  ·rw[h]at e;cases e;omega
 ·rfl
theorem xJ{ρ:aN}{o':Option Nat}{r:Nat×Nat}{b:Nat}(h:o'=some b):dV ρ o' r b=r:=by
 unfold dV;rw[if_pos h]
theorem CR.YP{B:Nat}{H:Hp}{ρ:aN}{T:List Nat}{w w':World}{c:CS}{o o':Option Nat}{v':Value}{L':List Ins}{cells':List Value}(h:CR B H ρ T w c)(ho:∀b,o=some b→ρ b=(1,0))
  (k:Kp ((B+3,B+4)::own o) w w') (hc:w'.heap[B+3]?=some (cl [v',.map (some B),.map (some (B+1)),.map (some (B+2))] gU)) (hg':Gw w' aA 7 v' L'.length cells' o') (hi:eu T L' cells')
  (hoo:o'=o∨∃b,o'=some b∧w.heap.size≤b) (hcl:c.calls.length≤L'.length):CR B H (dV ρ o' (1,0)) T w' { c with L:=L' }:=by
 have hl:=h.lt
 have hB:=h.hB
 have hz:=k.size
 have hown:∀b,ρ b≠(1,0)→Out (own o) b:=fun b hb=>aB fun e=>hb (ho b e)
 have hlow:∀b,b<B+7→Out (own o) b:=fun b hb=>hown b (by rw[h.low b hb];decide)
 have hs:∀i,i<B+7→i≠B+3→w'.heap[i]?=w.heap[i]?:=fun i hi hn=>k.same i (by omega) ⟨by omega,hlow i hi⟩
 have hr:Rx ρ (dV ρ o' (1,0)) w.heap.size:=rG ho hoo
 have hkeep:∀b,B+7≤b→ρ b≠(1,0)→Out ((B+3,B+4)::own o) b:=fun b hb hn=>⟨by omega,hown b hn⟩
 have hge:∀b,ρ b≠(0,0)→B+7≤b:=fun b hb=>by
  rcases Nat.lt_or_ge b (B+7)with h2|h2
  ·exact absurd (h.low b h2) hb
  ·exact h2
 obtain⟨v2,o2,b1,b2,b3⟩:=h.calls
 obtain⟨es,ck,d1,d2⟩:=h.procs
 obtain⟨es3,ck3,m3,e1,e2,e3⟩:=h.bM
 obtain⟨es4,ck4,m4,f1,f2,f3⟩:=h.defs
 obtain⟨es5,ck5,g1,g2⟩:=h.start
 have Ut:∀{m:List (Int×Value)} {l:List (Int×List Int)},fH w ρ m l→fH w' (dV ρ o' (1,0)) m l:=by
  intro m
  induction m with
  |nil=>intro l hv;cases l with
        | nil => trivial
        | cons _ _ => exact hv.elim
  |cons x m ih=>
   intro l hv
   cases l with
   |nil=>exact hv.elim
   |cons y l=>
    obtain⟨q1,⟨o3,q2,q3⟩,q4⟩:=hv
    refine⟨q1,⟨o3,q2.kp k (fun b hb=>hkeep b (hge b (by rw[q3 b hb];simp)) (by rw[q3 b hb];simp)),fun b hb=>(hr b (q2.lt b hb)).trans (q3 b hb)⟩,ih q4⟩
 exact { gl:=h.gl.kp k (fun i hi=>⟨by omega,hlow i (by omega)⟩),hB:=hB,sub:=h.sub.kp k (fun b x hx=>by have:=h.dom b x hx;exact⟨by omega,hlow b (by omega)⟩),dom:=h.dom,lt:=by omega,
         free := fun b hb => by
           unfold dV
           rw [if_neg (fun e => by have := hg'.lt b e; omega)]
           exact h.free b (by omega),
         low := fun b hb => (hr b (by omega)).trans (h.low b hb),
         L := ⟨v', cells', o', hc, hg', hi, fun b hb => xJ hb⟩,
         calls := ⟨v2, o2, (hs _ (by omega) (by omega)).trans b1, b2.kp k (fun b hb => hkeep b (hge b (by rw [b3 b hb]; simp)) (by rw [b3 b hb]; simp)), fun b hb => (hr b (b2.lt b hb)).trans (b3 b hb)⟩,
         jU := h.jU,
         tabs := fun i b l hb hl => by
           obtain ⟨x1, x2⟩ := h.tabs i b l hb hl
           exact ⟨x1.kp k (hkeep b (hge b (by rw [x2]; simp)) (by rw [x2]; simp)), (hr b x1.lt).trans x2⟩,
         types := (by obtain ⟨te, tc, t1, t2⟩ := h.types; exact ⟨te, tc, (hs _ (by omega) (by omega)).trans t1, t2⟩), procs := ⟨es, ck, (hs _ (by omega) (by omega)).trans d1, d2⟩,
         bM := ⟨es3, ck3, m3, (hs _ (by omega) (by omega)).trans e1, e2, Ut e3⟩,
         defs := ⟨es4, ck4, m4, (hs _ (by omega) (by omega)).trans f1, f2, f3⟩, start := ⟨es5, ck5, (hs _ (by omega) (by omega)).trans g1, g2⟩, uF := hcl }
def CW(i:Ins)(f g:Value):Value:=.agg #[i64 (i.op:Nat),.int .i64 i.n,.int .i64 i.to,.bool i.fixed,i64 (i.of_:Nat),f,g]
theorem OI{B:Nat}{H:Hp}{ρ:aN}{T:List Nat}{w:World}{c:CS}{i:Ins}{f g:Value}(h:CR B H ρ T w c)(hf:df T i.table f)(hg:df T i.set g)(hN:c.L.length<1000000):
  Calls P jD #[pt (B+6) 0,CW i f g] w (Ret fun v w'=>v=i64 (c.L.length:Nat)∧CG B H ρ T w (c.put i) w'∧∀b,b<B+7→b≠B+3→w'.heap[b]?=w.heap[b]?):=by
 refine Ret.R fun R hR=>?_
 apply BG
 unfold qR CW
 obtain⟨fb,rfl⟩:=hf.one
 obtain⟨gb,rfl⟩:=hg.one
 have hl:=h.lt
 obtain⟨v,cells,o,a1,a2,a3,a4⟩:=h.L
 obtain⟨v2,o2,b1,b2,b3⟩:=h.calls
 obtain⟨aa,ca,rfl⟩:=a2.len
 have hge:∀b,o=some b→B+7≤b:=fun b hb=>by
  rcases Nat.lt_or_ge b (B+7)with h2|h2
  ·have:=h.low b h2;rw[a4 b hb]at this;cases this
  ·exact h2
 repeat' first|refine .x ?_|refine .y ?_|refine .z ?_|fail
 refine Ap.w (fun w9=>Kp [] w w9∧w9.heap[w.heap.size+1]?=some (cl [i64 (i.op:Nat),.int .i64 i.n,.int .i64 i.to,.bool i.fixed,i64 (i.of_:Nat),.map fb,.map gb] aA)) ⟨by exact kpA,by exact lookA⟩ ?_
 rintro w1 ⟨k1,n1⟩
 have z1:=lt_of_heap n1
 refine Ap.g (a2.kp k1 (fun _ _=>trivial)) n1 rfl rfl ?_ (by omega)
 intro v' w2 o' g2 ho' k2
 have z2:=k2.size
 obtain⟨aa',ca',rfl⟩:=g2.len
 have c2:w2.heap[B+3]?=some (cl [.slice aa c.L.length ca,.map (some B),.map (some (B+1)),.map (some (B+2))] gU):=(k2.same _ (by omega) (aB fun e=>by have:=hge _ e;omega)).trans ((k1.same _ (by omega) trivial).trans a1)
 have d2:w2.heap[B+6]?=some (cl [pt (B+3) 0,.map (some (B+4)),.map (some (B+5)),v2] dJ):=(k2.same _ (by omega) (aB fun e=>by have:=hge _ e;omega)).trans ((k1.same _ (by omega) trivial).trans b1)
 repeat' first|refine .x ?_|refine .y ?_|refine .z ?_|fail
 have hlen:(c.L++[i]).length=c.L.length+1:=by simp
 refine(fun(Q:∀w9,Kp [(B+3,B+4)] w2 w9∧w9.heap[B+3]?=some (cl [.slice aa' (c.L.length+1) ca',.map (some B),.map (some (B+1)),.map (some (B+2))] gU)→R (.returned (i64 ((c.L.length+1:Nat) - 1:Int))) w9)=>Q _ ⟨by exact kpA,by exact lookA⟩) ?_
 rintro w3 ⟨k3,c3⟩
 have e1:((c.L.length+1:Nat):Int) - 1=(c.L.length:Nat):=by omega
 rw[e1]
 have kO:Kp ((B+3,B+4)::own o) w w3:=by
  have x1:Kp ((B+3,B+4)::own o) w w2:=k1.trans k2 (fun i _ ho=>⟨trivial,ho.2⟩)
  exact x1.trans k3 (fun i _ ho=>⟨ho,ho.1,trivial⟩)
 have hoo:o'=o∨∃b,o'=some b∧w.heap.size≤b:=by
  rcases ho' with r|r
  ·exact Or.inl r
  ·exact Or.inr ⟨_,r,k1.size⟩
 have g3:Gw w3 aA 7 (.slice aa' (c.L.length+1) ca') (c.L++[i]).length (cells++[i64 (i.op:Nat),.int .i64 i.n,.int .i64 i.to,.bool i.fixed,i64 (i.of_:Nat),.map fb,.map gb]) o':=by
  rw[hlen]
  refine g2.kp k3 (fun b hb=>⟨?_,trivial⟩)
  rcases hoo with r|⟨b',r,hb'⟩
  ·have:=hge b (by rw[← r];exact hb);omega
  ·rw[r]at hb;cases hb;omega
 have hfin:=h.YP a4 kO c3 g3 (eu.snoc hf hg a3) hoo (by rw[hlen];have:=h.uF;omega)
 refine hR _ _ ⟨rfl,⟨dV ρ o' (1,0),[],?_,rG a4 hoo,?_⟩,?_⟩
 ·exact Kp.kc kO (fun b hb hx=>⟨by omega,aB fun e=>by
   have h2:=a4 b e
   have h3:=hge b e
   rcases hx with hx|⟨_,hx⟩
   ·omega
   ·rw[h2]at hx;simp at hx⟩)
 ·rw[List.append_nil];exact hfin
 ·exact fun b hb hn=>kO.same b (by omega) ⟨by omega,aB fun e=>by have:=hge b e;omega⟩
theorem nC{B:Nat}{H:Hp}{ρ:aN}{T:List Nat}{w:World}{c:CS}{i:Ins}{f g:Value}(h:CR B H ρ T w c)(hf:df T i.table f)(hg:df T i.set g)(hN:c.L.length<1000000):
  Calls P jD #[pt (B+6) 0,CW i f g] w (Ret fun v w'=>v=i64 (c.L.length:Nat)∧CG B H ρ T w (c.put i) w'):=by
 refine(OI h hf hg hN).mono ?_
 rintro en w' ⟨v,h1,h2,h3,_⟩
 exact⟨v,h1,h2,h3⟩
end Go.W.T
namespace Go.W.T
open Go Go.W Go.M Go.Proofs
theorem CR.ge{B:Nat}{H:Hp}{ρ:aN}{T:List Nat}{w:World}{c:CS}(h:CR B H ρ T w c):∀b,ρ b≠(0,0)→B+7≤b:=fun b hb=>by
 rcases Nat.lt_or_ge b (B+7)with h2|h2
 ·exact absurd (h.low b h2) hb
 ·exact h2
theorem CR.TZ{B:Nat}{H:Hp}{ρ:aN}{T:List Nat}{w w':World}{c:CS}{o o':Option Nat}{v':Value}{l':List (Nat×By×Nat)}(h:CR B H ρ T w c)(ho:∀b,o=some b→ρ b=(2,0))
  (k:Kp ((B+6,B+7)::own o) w w') (hc:w'.heap[B+6]?=some (.cells (List.toArray [pt (B+3) 0,.map (some (B+4)),.map (some (B+5)),v']) dJ (0,0))) (hg':Gw w' pg 3 v' l'.length (gK l') o')
  (hoo:o'=o∨∃b,o'=some b∧w.heap.size≤b) (hcl:l'.length≤c.L.length):CR B H (dV ρ o' (2,0)) T w' { c with calls:=l' }:=by
 have hl:=h.lt
 have hB:=h.hB
 have hz:=k.size
 have hge:=h.ge
 have hown:∀b,ρ b≠(2,0)→Out (own o) b:=fun b hb=>aB fun e=>hb (ho b e)
 have hlow:∀b,b<B+7→Out (own o) b:=fun b hb=>hown b (by rw[h.low b hb];decide)
 have hs:∀i,i<B+7→i≠B+6→w'.heap[i]?=w.heap[i]?:=fun i hi hn=>k.same i (by omega) ⟨by omega,hlow i hi⟩
 have hr:Rx ρ (dV ρ o' (2,0)) w.heap.size:=rG ho hoo
 have hkeep:∀b,B+7≤b→ρ b≠(2,0)→Out ((B+6,B+7)::own o) b:=fun b hb hn=>⟨by omega,hown b hn⟩
 obtain⟨v,cells,o2,a1,a2,a3,a4⟩:=h.L
 obtain⟨es,ck,d1,d2⟩:=h.procs
 obtain⟨es3,ck3,m3,e1,e2,e3⟩:=h.bM
 obtain⟨es4,ck4,m4,f1,f2,f3⟩:=h.defs
 obtain⟨es5,ck5,g1,g2⟩:=h.start
 have Ut:∀{m:List (Int×Value)} {l:List (Int×List Int)},fH w ρ m l→fH w' (dV ρ o' (2,0)) m l:=by
  intro m
  induction m with
  |nil=>intro l hv;cases l with
        | nil => trivial
        | cons _ _ => exact hv.elim
  |cons x m ih=>
   intro l hv
   cases l with
   |nil=>exact hv.elim
   |cons y l=>
    obtain⟨q1,⟨o3,q2,q3⟩,q4⟩:=hv
    refine⟨q1,⟨o3,q2.kp k (fun b hb=>hkeep b (hge b (by rw[q3 b hb];simp)) (by rw[q3 b hb];simp)),fun b hb=>(hr b (q2.lt b hb)).trans (q3 b hb)⟩,ih q4⟩
 exact { gl:=h.gl.kp k (fun i hi=>⟨by omega,hlow i (by omega)⟩),hB:=hB,sub:=h.sub.kp k (fun b x hx=>by have:=h.dom b x hx;exact⟨by omega,hlow b (by omega)⟩),dom:=h.dom,lt:=by omega,
         free := fun b hb => by
           unfold dV
           rw [if_neg (fun e => by have := hg'.lt b e; omega)]
           exact h.free b (by omega),
         low := fun b hb => (hr b (by omega)).trans (h.low b hb),
         calls := ⟨v', o', hc, hg', fun b hb => xJ hb⟩,
         L := ⟨v, cells, o2, (hs _ (by omega) (by omega)).trans a1, a2.kp k (fun b hb => hkeep b (hge b (by rw [a4 b hb]; simp)) (by rw [a4 b hb]; simp)), a3, fun b hb => (hr b (a2.lt b hb)).trans (a4 b hb)⟩,
         jU := h.jU,
         tabs := fun i b l hb hl => by
           obtain ⟨x1, x2⟩ := h.tabs i b l hb hl
           exact ⟨x1.kp k (hkeep b (hge b (by rw [x2]; simp)) (by rw [x2]; simp)), (hr b x1.lt).trans x2⟩,
         types := (by obtain ⟨te, tc, t1, t2⟩ := h.types; exact ⟨te, tc, (hs _ (by omega) (by omega)).trans t1, t2⟩), procs := ⟨es, ck, (hs _ (by omega) (by omega)).trans d1, d2⟩,
         bM := ⟨es3, ck3, m3, (hs _ (by omega) (by omega)).trans e1, e2, Ut e3⟩,
         defs := ⟨es4, ck4, m4, (hs _ (by omega) (by omega)).trans f1, f2, f3⟩, start := ⟨es5, ck5, (hs _ (by omega) (by omega)).trans g1, g2⟩, uF := hcl }
theorem CG.trans{B:Nat}{H:Hp}{ρ ρ':aN}{T D:List Nat}{w w1 w2:World}{c:CS}(k:Kc B ρ w w1)(r:Rx ρ ρ' w.heap.size)(h:CG B H ρ' (T++D) w1 c w2):CG B H ρ T w c w2:=by
 obtain⟨ρ2,D2,k2,r2,h2⟩:=h
 exact⟨ρ2,D++D2,k.trans k2 r,r.trans r2 k.size,by rw[← List.append_assoc];exact h2⟩
theorem CG.pre{B:Nat}{H:Hp}{ρ:aN}{T:List Nat}{w w1 w2:World}{c:CS}(k:Kc B ρ w w1)(h:CG B H ρ T w1 c w2):CG B H ρ T w c w2:=by
 obtain⟨ρ2,D2,k2,r2,h2⟩:=h
 exact⟨ρ2,D2,k.trans k2 (Rx.refl _ _),(Rx.refl ρ _).trans r2 k.size,h2⟩
theorem w_ref{B:Nat}{H:Hp}{ρ:aN}{T:List Nat}{w:World}{c:CS}{s:By}{a:Nat}(h:CR B H ρ T w c)(hN:c.L.length<1000000):
  Calls P ry #[pt (B+6) 0,.string (bs s),i64 (a:Nat)] w (Ret fun v w'=>CG B H ρ T w (c.ref s a) w'):=by
 refine Ret.R fun R hR=>?_
 apply BF
 unfold qQ
 repeat' first|refine .x ?_|refine .y ?_|refine .z ?_|fail
 refine Cl.ret (nC (i:=ins 6) (f:=.map none) (g:=.map none) h rfl rfl hN) ?_
 rintro v w1 ⟨rfl,ρ1,D1,k1,r1,h1⟩
 have hl:=h1.lt
 obtain⟨v2,o,b1,b2,b3⟩:=h1.calls
 obtain⟨aa,ca,rfl⟩:=b2.len
 have hge:∀b,o=some b→B+7≤b:=fun b hb=>h1.ge b (by rw[b3 b hb];simp)
 have hcl:=h1.uF
 rw[aX]at hcl
 have e0:(c.put (ins 6)).calls=c.calls:=rfl
 rw[e0]at b2 b1 hcl
 repeat' first|refine .x ?_|refine .y ?_|refine .z ?_|fail
 refine Ap.w (fun w9=>Kp [] w1 w9∧w9.heap[w1.heap.size]?=some (cl [i64 (c.L.length:Nat),κs s,i64 (a:Nat)] pg)) ⟨by exact kpA,by exact lookA⟩ ?_
 rintro w2 ⟨k2,n2⟩
 have z2:=lt_of_heap n2
 refine Ap.g (b2.kp k2 (fun _ _=>trivial)) n2 rfl rfl ?_ (by omega)
 intro v' w3 o' g3 ho' k3
 have z3:=k3.size
 obtain⟨aa',ca',rfl⟩:=g3.len
 have d3:w3.heap[B+6]?=some (cl [pt (B+3) 0,.map (some (B+4)),.map (some (B+5)),.slice aa c.calls.length ca] dJ):=(k3.same _ (by omega) (aB fun e=>by have:=hge _ e;omega)).trans ((k2.same _ (by omega) trivial).trans b1)
 repeat' first|refine .x ?_|refine .y ?_|refine .z ?_|fail
 refine(fun(Q:∀w9,Kp [(B+6,B+7)] w3 w9∧w9.heap[B+6]?=some (cl [pt (B+3) 0,.map (some (B+4)),.map (some (B+5)),.slice aa' (c.calls.length+1) ca'] dJ)→R (.returned (.tuple #[])) w9)=>Q _ ⟨by exact kpA,by exact lookA⟩) ?_
 rintro w4 ⟨k4,c4⟩
 have kO:Kp ((B+6,B+7)::own o) w1 w4:=by
  have x1:Kp ((B+6,B+7)::own o) w1 w3:=k2.trans k3 (fun i _ ho=>⟨trivial,ho.2⟩)
  exact x1.trans k4 (fun i _ ho=>⟨ho,ho.1,trivial⟩)
 have hoo:o'=o∨∃b,o'=some b∧w1.heap.size≤b:=by
  rcases ho' with r|r
  ·exact Or.inl r
  ·exact Or.inr ⟨_,r,k2.size⟩
 have hlen:(c.calls++[(c.L.length,s,a)]).length=c.calls.length+1:=by simp
 have g4:Gw w4 pg 3 (.slice aa' (c.calls.length+1) ca') (c.calls++[(c.L.length,s,a)]).length (gK (c.calls++[(c.L.length,s,a)])) o':=by
  rw[hlen]
  have e:gK (c.calls++[(c.L.length,s,a)])=gK c.calls++[i64 (c.L.length:Nat),κs s,i64 (a:Nat)]:=by simp[gK]
  rw[e]
  refine g3.kp k4 (fun b hb=>⟨?_,trivial⟩)
  rcases hoo with r|⟨b',r,hb'⟩
  ·have:=hge b (by rw[← r];exact hb);omega
  ·rw[r]at hb;cases hb;omega
 have hfin:=h1.TZ b3 kO c4 g4 hoo (by have:=h.uF;rw[hlen,aX];omega)
 have kc:Kc B ρ1 w1 w4:=Kp.kc kO (fun b hb hx=>⟨by omega,aB fun e=>by
   have h2:=b3 b e
   have h3:=hge b e
   rcases hx with hx|⟨_,hx⟩
   ·omega
   ·rw[h2]at hx;simp at hx⟩)
 exact hR _ _ (CG.trans k1 r1 ⟨dV ρ1 o' (2,0),[],kc,rG b3 hoo,by rw[List.append_nil];exact hfin⟩)
theorem Vs{B:Nat}{H:Hp}{ρ:aN}{T:List Nat}{w:World}{c:CS}{at_:Nat}(h:CR B H ρ T w c)(hat:at_<c.L.length):
  Calls P tV #[pt (B+6) 0,i64 (at_:Nat)] w (Ret fun v w'=>CG B H ρ T w (c.iU at_) w'):=by
 refine Ret.R fun R hR=>?_
 apply CP
 unfold sS
 have hl:=h.lt
 obtain⟨v,cells,o,a1,a2,a3,a4⟩:=h.L
 obtain⟨v2,o2,b1,b2,b3⟩:=h.calls
 obtain⟨b,rest,cap,rfl,rfl,hb⟩:=Gw.some a2 (by omega)
 have hbge:=h.ge b (by rw[a4 b rfl];simp)
 have hbl:=lt_of_heap hb
 repeat' first|refine .x ?_|refine .y ?_|refine .z ?_|fail
 obtain⟨⟨y,hy⟩,hset⟩:=eu.iU (x:=(c.L.length:Nat)) a3 hat
 have hyl:0+at_*7+2<cells.length:=by
  rcases Nat.lt_or_ge (0+at_*7+2) cells.length with h|h
  ·exact h
  ·rw[List.getElem?_eq_none h]at hy;cases hy
 refine St.set (w:=w.drew) hb (y:=y) (by rw[List.getElem?_append_left hyl];exact hy) rfl ?_
 rw[List.set_append_left _ _ hyl]
 refine(fun(Q:∀w9,Kp [(b,b+1)] w w9∧w9.heap[b]?=some (cl (cells.set (0+at_*7+2) (i64 (c.L.length:Nat))++rest) aA)→R (.returned (.tuple #[])) w9)=>Q _ ⟨by exact kpA,by exact aj rfl hbl⟩) ?_
 rintro w1 ⟨k1,c1⟩
 have e1:(c.iU at_).L.length=c.L.length:=kD c at_
 have kO:Kp ((B+3,B+4)::own (some b)) w w1:=k1.mono fun i _ ho=>ho.2
 have g1:Gw w1 aA 7 (.slice (some ⟨b,0,none⟩) c.L.length cap) (c.iU at_).L.length (cells.set (0+at_*7+2) (i64 (c.L.length:Nat))) (some b):=by
  obtain⟨x1,r2,c2,x2,x3,x4⟩:=a2
  rw[e1]
  refine⟨by rw[List.length_set];exact x1,rest,cap,rfl,c1,?_⟩
  cases x2
  rw[hb]at x3
  have:cells++rest=cells++r2:=by
   have:=Option.some.inj x3
   simpa using this
  have:=List.append_cancel_left this
  rw[List.length_set,this];exact x4
 have hfin:=h.YP a4 kO ((k1.same _ (by omega) ⟨by omega,trivial⟩).trans a1) g1 hset (Or.inl rfl) (by rw[e1];exact h.uF)
 have kc:Kc B ρ w w1:=Kp.kc k1 (fun i hi hx=>⟨by
  have h2:=a4 b rfl
  rcases hx with hx|⟨_,hx⟩
  ·omega
  ·by_cases e:i=b
   ·subst e;rw[h2]at hx;simp at hx
   ·omega,trivial⟩)
 exact hR _ _ ⟨dV ρ (some b) (1,0),[],kc,rG a4 (Or.inl rfl),by rw[List.append_nil];exact hfin⟩
theorem Qe{w:World}{s:By}:Calls P DU #[.string (bs s)] w (Ret fun v w'=>v=i64 (dP s:Nat)∧w'=w):=by
 refine Ret.R fun R hR=>?_
 apply KH
 unfold Dv
 have hR':∀n:Nat,n=dP s→R (.returned (i64 (n:Nat))) w:=fun n hn=>hR _ _ ⟨by rw[hn],rfl⟩
 unfold dP at hR'
 repeat' first|refine .x ?_|refine .y ?_|refine .z ?_|fail
 refine .split (fun h1=>?_) (fun h1=>?_)
 ·exact hR' 0 (by rw[if_pos h1])
 have n1:¬ (s==[105,110,116])=true:=fun e=>by rw[h1]at e;cases e
 rw[if_neg n1]at hR'
 repeat' first|refine .x ?_|refine .y ?_|refine .z ?_|fail
 refine .split (fun h2=>?_) (fun h2=>?_)
 ·exact hR' 1 (by rw[if_pos h2])
 have n2:¬ (s==[117,110,115,105,103,110,101,100])=true:=fun e=>by rw[h2]at e;cases e
 rw[if_neg n2]at hR'
 repeat' first|refine .x ?_|refine .y ?_|refine .z ?_|fail
 refine .split (fun h3=>?_) (fun h3=>?_)
 ·exact hR' 3 (by rw[if_pos h3])
 have n3:¬ (s==[98,111,111,108])=true:=fun e=>by rw[h3]at e;cases e
 rw[if_neg n3]at hR'
 exact hR' 2 rfl
theorem iT{B:Nat}{H:Hp}:∀(t:Ty) {ρ:aN} {T:List Nat} {w:World} {c:CS} {v:Value},CR B H ρ T w c→iM H t v→c.L.length+tsz t≤1000000 →
  Calls P oK #[pt (B+6) 0,v] w (Ret fun _ w'=>CG B H ρ T w (lower t c) w')
 |.basic s,ρ,T,w,c,v,h,ht,hN=>by
  refine Ret.R fun R hR=>?_
  apply bH
  unfold bn
  cases ht
  repeat' first|refine .x ?_|refine .y ?_|refine .z ?_|fail
  refine Cl.ret Qe ?_
  rintro v w1 ⟨rfl,rfl⟩
  repeat' first|refine .x ?_|refine .y ?_|refine .z ?_|fail
  refine Cl.ret (nC (i:=ins (dP s)) (f:=.map none) (g:=.map none) h rfl rfl (by simp only[tsz]at hN;omega)) ?_
  rintro v w2 ⟨rfl,hg⟩
  exact hR _ _ hg
 |.named s a,ρ,T,w,c,v,h,ht,hN=>by
  refine Ret.R fun R hR=>?_
  apply bH
  unfold bn
  obtain⟨b,rfl,hb⟩:=ht
  have hb':=h.sub _ _ _ hb
  repeat' first|refine .x ?_|refine .y ?_|refine .z ?_|fail
  refine Cl.ret (w_ref (h.ext (w':=w.drew) (by exact kpA)) (by simp only[tsz]at hN;omega)) ?_
  rintro v w2 hg
  exact hR _ _ (CG.pre (Kp.kc0 (by exact kpA)) hg)
 |.bytes tx f n,ρ,T,w,c,v,h,ht,hN=>by
  refine Ret.R fun R hR=>?_
  apply bH
  unfold bn
  cases ht
  repeat' first|refine .x ?_|refine .y ?_|refine .z ?_|fail
  refine Cl.w (fun w9=>Kp [] w w9) (by exact kpA) ?_
  intro w1 k1
  refine Cl.ret (nC (i:={ ins 5 with n:=n,fixed:=f }) (f:=.map none) (g:=.map none) (h.ext k1) rfl rfl (by simp only[tsz]at hN;omega)) ?_
  rintro v w2 ⟨rfl,hg⟩
  exact hR _ _ (CG.pre (Kp.kc0 k1) hg)
 |.array t f n,ρ,T,w,c,v,h,ht,hN=>by
  refine Ret.R fun R hR=>?_
  apply bH
  unfold bn
  obtain⟨u,rfl,hu⟩:=ht
  obtain⟨ui,uu,rfl⟩:=hu.form
  have hl:=h.lt
  simp only[tsz]at hN
  repeat' first|refine .x ?_|refine .y ?_|refine .z ?_|fail
  have hb0:(ah (w.alloc (cl [.nilIface,.bool false,.int .i64 0] 231)) w.heap.size (cl [.iface ui uu,.bool f,.int .i64 n] 231)).heap[w.heap.size]?=some (cl [.iface ui uu,.bool f,i64 n] rY):=by exact lookA
  have kb0:Kp [] w (ah (w.alloc (cl [.nilIface,.bool false,.int .i64 0] 231)) w.heap.size (cl [.iface ui uu,.bool f,.int .i64 n] 231)):=by exact kpA
  generalize ah (w.alloc (cl [.nilIface,.bool false,.int .i64 0] 231)) w.heap.size (cl [.iface ui uu,.bool f,.int .i64 n] 231)=w1 at *
  have hz:=lt_of_heap hb0
  refine Jn.by (fun vals w'=>vals=[i64 ((if f then 8 else 9:Nat))]∧w'=w1) (fun J hJ=>?_) ?_
  ·repeat' first|refine .x ?_|refine .y ?_|refine .z ?_|fail
   cases f with
   |true=>repeat' (first|refine .x ?_|refine .y ?_|refine .z ?_|fail);exact hJ _ _ ⟨rfl,rfl⟩
   |false=>repeat' (first|refine .x ?_|refine .y ?_|refine .z ?_|fail);exact hJ _ _ ⟨rfl,rfl⟩
  rintro _ _ jk ⟨rfl,rfl⟩
  repeat' first|refine .x ?_|refine .y ?_|refine .z ?_|fail
  refine Cl.ret (nC (i:={ ins (if f then 8 else 9)with n:=n }) (f:=.map none) (g:=.map none) (h.ext kb0) rfl rfl (by omega)) ?_
  rintro v w2 ⟨rfl,ρ2,D2,k2,r2,h2⟩
  have f2:ρ w.heap.size=(0,0):=h.free _ (Nat.le_refl _)
  have hb2:w2.heap[w.heap.size]?=some (cl [.iface ui uu,.bool f,i64 n] rY):=(k2.lW hz (by omega) f2).trans hb0
  repeat' first|refine .x ?_|refine .y ?_|refine .z ?_|fail
  refine Cl.ret (iT t h2 hu (by rw[aX];omega)) ?_
  rintro v w3 ⟨ρ3,D3,k3,r3,h3⟩
  repeat' first|refine .x ?_|refine .y ?_|refine .z ?_|fail
  refine Cl.ret (nC (i:=ins 10) (f:=.map none) (g:=.map none) h3 rfl rfl (by rw[bF,aX];omega)) ?_
  rintro v w4 ⟨rfl,ρ4,D4,k4,r4,h4⟩
  refine Cl.ret (Vs (at_:=c.L.length) h4 (by rw[aX,bF,aX];omega)) ?_
  rintro v w5 hg
  exact hR _ _ (CG.pre (Kp.kc0 kb0) (CG.trans k2 r2 (CG.trans k3 r3 (CG.trans k4 r4 hg))))
 |.opt t,ρ,T,w,c,v,h,ht,hN=>by
  refine Ret.R fun R hR=>?_
  apply bH
  unfold bn
  obtain⟨u,rfl,hu⟩:=ht
  obtain⟨ui,uu,rfl⟩:=hu.form
  have hl:=h.lt
  simp only[tsz]at hN
  repeat' first|refine .x ?_|refine .y ?_|refine .z ?_|fail
  have hb0:(ah (w.alloc (cl [.nilIface] 308)) w.heap.size (cl [.iface ui uu] 308)).heap[w.heap.size]?=some (cl [.iface ui uu] lU):=by exact lookA
  have kb0:Kp [] w (ah (w.alloc (cl [.nilIface] 308)) w.heap.size (cl [.iface ui uu] 308)):=by exact kpA
  generalize ah (w.alloc (cl [.nilIface] 308)) w.heap.size (cl [.iface ui uu] 308)=w1 at *
  have hz:=lt_of_heap hb0
  refine Cl.ret (nC (i:=ins 12) (f:=.map none) (g:=.map none) (h.ext kb0) rfl rfl (by omega)) ?_
  rintro v w2 ⟨rfl,ρ2,D2,k2,r2,h2⟩
  have f2:ρ w.heap.size=(0,0):=h.free _ (Nat.le_refl _)
  have hb2:w2.heap[w.heap.size]?=some (cl [.iface ui uu] lU):=(k2.lW hz (by omega) f2).trans hb0
  repeat' first|refine .x ?_|refine .y ?_|refine .z ?_|fail
  refine Cl.ret (iT t h2 hu (by rw[aX];omega)) ?_
  rintro v w3 ⟨ρ3,D3,k3,r3,h3⟩
  refine Cl.ret (Vs (at_:=c.L.length) h3 (by rw[bF,aX];omega)) ?_
  rintro v w5 hg
  exact hR _ _ (CG.pre (Kp.kc0 kb0) (CG.trans k2 r2 (CG.trans k3 r3 hg)))
 |.void,ρ,T,w,c,v,h,ht,hN=>by
  refine Ret.R fun R hR=>?_
  apply bH
  unfold bn
  cases ht
  repeat' first|refine .x ?_|refine .y ?_|refine .z ?_|fail
  refine Cl.w (fun w9=>Kp [] w w9) (by exact kpA) ?_
  intro w1 k1
  refine Cl.ret (nC (i:=ins 15) (f:=.map none) (g:=.map none) (h.ext k1) rfl rfl (by simp only[tsz]at hN;omega)) ?_
  rintro v w2 ⟨rfl,hg⟩
  exact hR _ _ (CG.pre (Kp.kc0 k1) hg)
end Go.W.T
namespace Go.W.T
open Go Go.W Go.M Go.Proofs
theorem fH.ro{w:World}{ρ ρ':aN}(h:∀b,ρ b≠(0,0)→ρ' b=ρ b):∀{m:List (Int×Value)} {l:List (Int×List Int)},fH w ρ m l→fH w ρ' m l
 |[],[],_=>trivial
 |x::m,y::l,hv=>by
  obtain⟨h1,⟨o,h2,h3⟩,h4⟩:=hv
  exact⟨h1,⟨o,h2,fun b hb=>(h b (by rw[h3 b hb];simp)).trans (h3 b hb)⟩,fH.ro h h4⟩
 |[],_::_,hv=>hv.elim
 |_::_,[],hv=>hv.elim
theorem CR.role{B:Nat}{H:Hp}{ρ:aN}{T:List Nat}{w:World}{c:CS}{a:Nat}{r:Nat×Nat}(h:CR B H ρ T w c)(ha:B+7≤a)(hl:a<w.heap.size)(hr:ρ a=(0,0)):CR B H (dV ρ (some a) r) T w c:=by
 have hk:∀b,ρ b≠(0,0)→dV ρ (some a) r b=ρ b:=fun b hb=>by
  unfold dV
  rw[if_neg]
  intro e;cases e;exact hb hr
 obtain⟨v,cells,o,a1,a2,a3,a4⟩:=h.L
 obtain⟨v2,o2,b1,b2,b3⟩:=h.calls
 obtain⟨es3,ck3,m3,e1,e2,e3⟩:=h.bM
 exact { h with
  free:=fun b hb=>by
   unfold dV
   rw[if_neg (by intro e;cases e;omega)]
   exact h.free b hb
  low:=fun b hb=>by
   unfold dV
   rw[if_neg (by intro e;cases e;omega)]
   exact h.low b hb
  L:=⟨v,cells,o,a1,a2,a3,fun b hb=>(hk b (by rw[a4 b hb];simp)).trans (a4 b hb)⟩
  calls:=⟨v2,o2,b1,b2,fun b hb=>(hk b (by rw[b3 b hb];simp)).trans (b3 b hb)⟩
  tabs:=fun i b l hb hl=>by
   obtain⟨x1,x2⟩:=h.tabs i b l hb hl
   exact⟨x1,(hk b (by rw[x2];simp)).trans x2⟩
  bM:=⟨es3,ck3,m3,e1,e2,fH.ro hk e3⟩ }
theorem Dw{ρ:aN}{a n:Nat}{r:Nat×Nat}(h:n≤a):Rx ρ (dV ρ (some a) r) n:=fun b hb=>by
 unfold dV
 rw[if_neg (by intro e;cases e;omega)]
theorem CR.iy{B:Nat}{H:Hp}{ρ:aN}{T:List Nat}{w:World}{c:CS}{a:Nat}{l:Tab}(h:CR B H ρ T w c)(ha:B+7≤a)(hr:ρ a=(0,0))(ht:TabAt w a l):CR B H (dV ρ (some a) (3,T.length)) (T++[a]) w (c.iy l):=by
 have h1:=h.role (r:=(3,T.length)) ha ht.lt hr
 obtain⟨v,cells,o,a1,a2,a3,a4⟩:=h1.L
 exact { h1 with
  L:=⟨v,cells,o,a1,a2,a3.app,a4⟩
  jU:=by show (T++[a]).length=(c.tabs++[l]).length;rw[List.length_append,List.length_append,h1.jU];rfl
  tabs:=fun i b l' hb hl=>by
   have hl':(c.tabs++[l])[i]?=some l':=hl
   rcases Nat.lt_or_ge i T.length with hi|hi
   ·rw[List.getElem?_append_left hi]at hb
    rw[List.getElem?_append_left (by rw[← h1.jU];exact hi)]at hl'
    exact h1.tabs i b l' hb hl'
   ·have hi2:i=T.length:=by
     rw[List.getElem?_append_right hi]at hb
     rcases Nat.lt_or_ge (i - T.length) 1 with h2|h2
     ·omega
     ·rw[List.getElem?_eq_none (by simpa using h2)]at hb;cases hb
    subst hi2
    rw[List.getElem?_append_right (Nat.le_refl _),Nat.sub_self]at hb
    rw[List.getElem?_append_right (by rw[h1.jU];exact Nat.le_refl _),h1.jU,Nat.sub_self]at hl'
    cases hb
    cases hl'
    exact⟨ht,xJ rfl⟩ }
theorem CR.Cc{B:Nat}{H:Hp}{ρ:aN}{T:List Nat}{w w':World}{c:CS}{a i:Nat}{l':Tab}(h:CR B H ρ T w c)(hT:T[i]?=some a)(hr:ρ a=(3,i))(k:Kp [(a,a+1)] w w')(ht:TabAt w' a l'):
  CR B H ρ T w' { c with tabs:=c.tabs.modify i fun _=>l' }:=by
 have hge:=h.ge a (by rw[hr];simp)
 have hl:=h.lt
 have hB:=h.hB
 have hs:∀j,j<B+7→w'.heap[j]?=w.heap[j]?:=fun j hj=>k.same j (by omega) ⟨by omega,trivial⟩
 have hn:∀b,ρ b≠(3,i)→Out [(a,a+1)] b:=fun b hb=>⟨by
  by_cases e:b=a
  ·subst e;exact absurd hr hb
  ·omega,trivial⟩
 obtain⟨v,cells,o,a1,a2,a3,a4⟩:=h.L
 obtain⟨v2,o2,b1,b2,b3⟩:=h.calls
 obtain⟨es,ck,d1,d2⟩:=h.procs
 obtain⟨es3,ck3,m3,e1,e2,e3⟩:=h.bM
 obtain⟨es4,ck4,m4,f1,f2,f3⟩:=h.defs
 obtain⟨es5,ck5,g1,g2⟩:=h.start
 exact { gl:=h.gl.kp k (fun j hj=>⟨by omega,trivial⟩),hB:=hB,sub:=h.sub.kp k (fun b x hx=>by have:=h.dom b x hx;exact⟨by omega,trivial⟩),dom:=h.dom,lt:=by have:=k.size;omega,
         free := fun b hb => h.free b (by have := k.size; omega), low := h.low,
         L := ⟨v, cells, o, (hs _ (by omega)).trans a1, a2.kp k (fun b hb => hn b (by rw [a4 b hb]; simp)), a3, a4⟩,
         calls := ⟨v2, o2, (hs _ (by omega)).trans b1, b2.kp k (fun b hb => hn b (by rw [b3 b hb]; simp)), b3⟩,
         jU := by show T.length = (c.tabs.modify i fun _ => l').length; rw [List.length_modify]; exact h.jU,
         tabs := fun j b l hb hl => by
           have hl2 : (c.tabs.modify i fun _ => l')[j]? = some l := hl
           rw [List.getElem?_modify] at hl2
           by_cases e : i = j
           · subst e
             rw [hT] at hb
             cases hb
             cases hx : c.tabs[i]? with
             | none => rw [hx] at hl2; cases hl2
             | some y => rw [hx] at hl2; simp at hl2; subst hl2; exact ⟨ht, hr⟩
           · have : c.tabs[j]? = some l := by
               cases hx : c.tabs[j]? with
               | none => rw [hx] at hl2; cases hl2
               | some y => rw [hx] at hl2; simp [e] at hl2; rw [hl2]
             obtain ⟨x1, x2⟩ := h.tabs j b l hb this
             exact ⟨x1.kp k (hn b (by rw [x2]; intro e2; cases e2; exact e rfl)), x2⟩
         types := (by obtain ⟨te, tc, t1, t2⟩ := h.types; exact ⟨te, tc, (hs _ (by omega)).trans t1, t2⟩), procs := ⟨es, ck, (hs _ (by omega)).trans d1, d2⟩,
         bM := ⟨es3, ck3, m3, (hs _ (by omega)).trans e1, e2, e3.kp k (fun b _ _ hb => hn b (fun e => by rw [e] at hb; simp at hb))⟩,
         defs := ⟨es4, ck4, m4, (hs _ (by omega)).trans f1, f2, f3⟩, start := ⟨es5, ck5, (hs _ (by omega)).trans g1, g2⟩, uF := h.uF }
theorem run_makeMap(w:World)(n:Nat):(Instr.makeMap 133 (some (i64 (n:Nat)))).run P w=.ok (.map (some w.heap.size)) (w.alloc (.map #[] 0)):=by kernel_rfl
theorem Nq(m:Tab)(a:Int)(v:Nat):qH (m.map fun x=>(x.1,i64 (x.2:Nat))) a (i64 (v:Nat))=(aY m a v).map fun x=>(x.1,i64 (x.2:Nat)):=Ak (f:=fun k:Nat=>i64 (k:Nat)) m a v
theorem Jk{w:World}{b cap:Nat}{rest:List Value}(nums:List Int)(hb:w.heap[b]?=some (cl (nums.map i64++rest) fU))(hl:nums.length<1000000):
  Calls P Ah #[.slice (some ⟨b,0,none⟩) nums.length cap] w (Ret fun v w'=>v=.map (some w.heap.size)∧Kp [] w w'∧TabAt w' w.heap.size (members nums)):=by
 refine Ret.R fun R hR=>?_
 apply Ib
 unfold zB
 have hbl:=lt_of_heap hb
 repeat' first|refine .x ?_|refine .y ?_|refine .z ?_|fail
 refine bY.by (run_makeMap w nums.length) ?_
 repeat' first|refine .x ?_|refine .y ?_|refine .z ?_|fail
 refine Lp.nat (n:=nums.length) (fun n vals w'=>∃(i:Nat) (m:Tab),vals=[i64 (i:Nat)]∧i+n=nums.length∧Kp [] w w'∧TabAt w' w.heap.size m∧members nums=gW i m (nums.drop i)) ?_ ?_
 ·exact⟨0,[],rfl,by omega,by exact kpA,⟨#[],0,aK ..,MK.empty⟩,rfl⟩
 rintro n _ w1 jk C ⟨i,m,rfl,hi,hk,⟨es,ck,ht1,ht2⟩,hm⟩ hC
 have hb1:w1.heap[b]?=some (cl (nums.map i64++rest) fU):=(hk.same b hbl trivial).trans hb
 repeat' first|refine .x ?_|refine .y ?_|refine .z ?_|fail
 refine .split (fun hc=>?_) (fun hc=>?_)
 ·have hlt:i<nums.length:=by have:=of_decide_eq_true hc;omega
  have hx:(nums.map i64++rest)[0+i*1]?=some (i64 nums[i]):=by rw[Nat.zero_add,Nat.mul_one,List.getElem?_append_left (by simpa using hlt),List.getElem?_map,List.getElem?_eq_getElem hlt];rfl
  refine .s ?_
  refine Ld.s ?_ hb1 hx
  refine Mu.int ht2 ht1 fun es' ck' hm'=>?_
  rw[Nq]at hm'
  repeat' first|refine .x ?_|refine .y ?_|refine .z ?_|fail
  refine hC (n - 1) _ _ (by omega) ⟨i+1,aY m nums[i] i,rfl,by omega,by exact kpA,⟨es',ck',aj rfl (lt_of_heap ht1),hm'⟩,?_⟩
  rw[hm,List.drop_eq_getElem_cons hlt,gW]
 ·have hge:i=nums.length:=by have:=of_decide_eq_false hc;omega
  subst hge
  rw[List.drop_length,gW]at hm
  refine hR _ _ ⟨rfl,hk,es,ck,ht1,?_⟩
  rw[hm];exact ht2
def uB(ρ:aN)(eb:Nat)(w:World)(l:List Nat):Prop:=∃v o,w.heap[eb]?=some (cl [v] A8)∧Gw w MF 1 v l.length (l.map fun(x:Nat)=>i64 (x:Nat)) o∧ρ eb=(5,0)∧∀b,o=some b→ρ b=(5,1)
theorem Tq{B cb eb:Nat}{H:Hp}{ρ:aN}{T:List Nat}{w:World}{c:CS}{d:Decl}{v:Value}{ends:List Nat}(h:CR B H ρ T w c)(hc:w.heap[cb]?=some (cl [pt (B+6) 0] aT))(hcr:ρ cb=(0,0))(hcB:B+7≤cb)
  (he:uB ρ eb w ends) (ht:iM H d.ty v) (hN:c.L.length+tsz d.ty+1≤1000000) (hE:ends.length<1000000):
  Calls P lD #[.agg #[.string (bs d.name),v],pt cb 0,pt eb 0] w (Ret fun _ w'=>∃ρ' D,Kd 6 B ρ w w'∧Rx ρ ρ' w.heap.size∧CR B H ρ' (T++D) w' (Gv (c,ends) d).1∧uB ρ' eb w' (Gv (c,ends) d).2):=by
 refine Ret.R fun R hR=>?_
 apply wO
 unfold kT
 obtain⟨ti,tu,rfl⟩:=ht.form
 obtain⟨ve,oe,e1,e2,e3,e4⟩:=he
 have hl:=h.lt
 have hcl:=lt_of_heap hc
 have hel:=lt_of_heap e1
 have heB:=h.ge eb (by rw[e3];simp)
 obtain⟨ae,ce,rfl⟩:=e2.len
 repeat' first|refine .x ?_|refine .y ?_|refine .z ?_|fail
 refine Cl.w (fun w9=>Kp [] w w9) (by exact kpA) ?_
 intro w1 k1
 refine Cl.ret (iT d.ty (h.ext k1) ht (by omega)) ?_
 rintro v2 w2 ⟨ρ2,D2,k2,r2,h2⟩
 have z1:=k1.size
 have z2:=k2.size
 have same2:∀b,b<w.heap.size→B+7≤b→((ρ b).1=0∨5≤(ρ b).1)→w2.heap[b]?=w.heap[b]?:=fun b hb hB hr=>(k2.same b (by omega) (Or.inr ⟨hB,hr⟩)).trans (k1.same b hb trivial)
 have c2:w2.heap[cb]?=some (cl [pt (B+6) 0] aT):=(same2 cb hcl hcB (by rw[hcr];simp)).trans hc
 have x2:w2.heap[eb]?=some (cl [.slice ae ends.length ce] A8):=(same2 eb hel heB (by rw[e3];simp)).trans e1
 repeat' first|refine .x ?_|refine .y ?_|refine .z ?_|fail
 refine Cl.ret (nC (i:=ins 14) (f:=.map none) (g:=.map none) (h2.ext (w':=w2.drew) (by exact kpA)) rfl rfl (by rw[bF];omega)) ?_
 rintro v3 w3 ⟨rfl,ρ3,D3,k3,r3,h3⟩
 have z3:=k3.size
 rw[size_drew]at z3
 have rr:Rx ρ ρ3 w.heap.size:=fun b hb=>(r3 b (by rw[size_drew];omega)).trans (r2 b (by omega))
 have same3:∀b,b<w.heap.size→B+7≤b→((ρ b).1=0∨5≤(ρ b).1)→w3.heap[b]?=w.heap[b]?:=fun b hb hB hr=>(k3.same b (by rw[size_drew];omega) (Or.inr ⟨hB,by rw[r2 b (by omega)];exact hr⟩)).trans (same2 b hb hB hr)
 have x3:w3.heap[eb]?=some (cl [.slice ae ends.length ce] A8):=(same3 eb hel heB (by rw[e3];simp)).trans e1
 have g3:Gw w3 MF 1 (.slice ae ends.length ce) ends.length (ends.map fun(x:Nat)=>i64 (x:Nat)) oe:=by
  obtain⟨q1,q2⟩:=e2
  refine⟨q1,?_⟩
  cases oe with
  |none=>exact q2
  |some b=>obtain⟨r,cp,q3,q4,q5⟩:=q2;exact⟨r,cp,q3,(same3 b (lt_of_heap q4) (h.ge b (by rw[e4 b rfl];simp)) (by rw[e4 b rfl];simp)).trans q4,q5⟩
 repeat' first|refine .x ?_|refine .y ?_|refine .z ?_|fail
 refine Ap.w (fun w9=>Kp [] w3 w9∧w9.heap[w3.heap.size]?=some (cl [i64 ((lower d.ty c).L.length:Nat)] MF)) ⟨by exact kpA,by exact lookA⟩ ?_
 rintro w4 ⟨k4,n4⟩
 have z4:=lt_of_heap n4
 refine Ap.g (g3.kp k4 (fun _ _=>trivial)) n4 rfl rfl ?_ (by omega)
 intro v' w5 o' g5 ho' k5
 have z5:=k5.size
 have he3:ρ3 eb=(5,0):=(rr eb hel).trans e3
 have he4:∀b,oe=some b→ρ3 b=(5,1):=fun b hb=>(rr b (e2.lt b hb)).trans (e4 b hb)
 have hne:oe≠some eb:=fun e=>by have:=e4 eb e;rw[e3]at this;cases this
 have x5:w5.heap[eb]?=some (cl [.slice ae ends.length ce] A8):=(k5.same _ (by omega) (aB hne)).trans ((k4.same _ (by omega) trivial).trans x3)
 obtain⟨ae',ce',rfl⟩:=g5.len
 repeat' first|refine .x ?_|refine .y ?_|refine .z ?_|fail
 refine(fun(Q:∀w9,Kp [(eb,eb+1)] w5 w9∧w9.heap[eb]?=some (cl [.slice ae' (ends.length+1) ce'] A8)→R (.returned (.tuple #[])) w9)=>Q _ ⟨by exact kpA,by exact lookA⟩) ?_
 rintro w6 ⟨k6,x6⟩
 have z6:=k6.size
 have oge:∀b,oe=some b→B+7≤b:=fun b hb=>h.ge b (by rw[e4 b hb];simp)
 have hoo:o'=oe∨∃b,o'=some b∧w4.heap.size≤b:=ho'.imp id fun r=>⟨_,r,Nat.le_refl _⟩
 have k36:Kp ((eb,eb+1)::own oe) w3 w6:=by
  have y1:Kp ((eb,eb+1)::own oe) w3 w5:=k4.trans k5 (fun i _ ho=>⟨trivial,ho.2⟩)
  exact y1.trans k6 (fun i _ ho=>⟨ho,ho.1,trivial⟩)
 have h6:CR B H ρ3 (T++D2++D3) w6 ((lower d.ty c).put (ins 14)):=h3.kp k36 (fun b hb=>⟨by omega,aB fun e=>by have:=oge b e;omega⟩) (fun b hb=>⟨by
   by_cases e:b=eb
   ·subst e;rw[he3]at hb;simp at hb
   ·omega,aB fun e=>by rw[he4 b e]at hb;simp at hb⟩)
 have hne':o'≠some eb:=fun e=>by
  rcases hoo with r|⟨b,r,hb⟩
  ·rw[r]at e;exact hne e
  ·rw[r]at e;cases e;omega
 have g6:=g5.kp k6 (fun b hb=>⟨by
  by_cases e:b=eb
  ·subst e;exact absurd hb hne'
  ·omega,trivial⟩)
 have hrx:Rx ρ3 (dV ρ3 o' (5,1)) w4.heap.size:=rG he4 hoo
 have hCR:CR B H (dV ρ3 o' (5,1)) (T++D2++D3) w6 ((lower d.ty c).put (ins 14)):=by
  rcases hoo with r|⟨b,r,hb⟩
  ·have:dV ρ3 o' (5,1)=ρ3:=by
    funext b
    unfold dV
    split
    ·rename_i e;rw[r]at e;exact(he4 b e).symm
    ·rfl
   rw[this];exact h6
  ·rw[r]
   exact h6.role (by omega) (g6.lt b r) (h3.free b (by omega))
 refine hR _ _ ⟨dV ρ3 o' (5,1),D2++D3,?_,fun b hb=>(hrx b (by omega)).trans (rr b hb),by rw[← List.append_assoc];exact hCR,?_⟩
 ·have q1:Kd 6 B ρ w w3:=(Kp.kc0 k1:Kd 6 B ρ w w1).trans ((k2.up (by omega):Kd 6 B ρ w1 w2).trans ((Kp.kc0 (by exact kpA):Kd 6 B ρ2 w2 w2.drew).trans (k3.up (by omega):Kd 6 B ρ2 w2.drew w3) (Rx.refl _ _)) r2) (Rx.refl _ _)
  exact q1.trans (Kp.kc k36 (fun i hi hx=>⟨by
   by_cases e:i=eb
   ·subst e;rcases hx with hx|⟨_,hx⟩
    ·omega
    ·rw[he3]at hx;simp at hx
   ·omega,aB fun e=>by
    rcases hx with hx|⟨_,hx⟩
    ·have:=oge i e;omega
    ·rw[he4 i e]at hx;simp at hx⟩)) rr
 ·have hlen:(ends++[(lower d.ty c).L.length]).length=ends.length+1:=by simp
  refine⟨_,o',x6,?_,(hrx eb (by omega)).trans he3,fun b hb=>xJ hb⟩
  show Gw w6 MF 1 _ (ends++[(lower d.ty c).L.length]).length ((ends++[(lower d.ty c).L.length]).map fun(x:Nat)=>i64 (x:Nat)) o'
  rw[hlen,List.map_append];exact g6
end Go.W.T
namespace Go.W.T
open Go Go.W Go.M Go.Proofs
theorem xw.lookup{H:Hp}(a:By):∀{m:List (By×Value)} {l:List (By×Def)},xw H m l →
  (m.lookup a=none∧l.lookup a=none)∨∃v d,m.lookup a=some v∧l.lookup a=some d∧fQ H d v
 |[],[],_=>Or.inl ⟨rfl,rfl⟩
 |x::m,y::l,h=>by
  obtain⟨h1,h2,h3⟩:=h
  rw[List.lookup_cons,List.lookup_cons,h1]
  cases a==y.1 with
  |true=>exact Or.inr ⟨_,_,rfl,rfl,h2⟩
  |false=>exact xw.lookup a h3
 |[],_::_,h=>h.elim
 |_::_,[],h=>h.elim
theorem dU{α:Type}{l r:List α}{o n:Nat}(h:o+n≤l.length):((l++r).drop o).take n=(l.drop o).take n:=by
 rw[List.drop_append_of_le_length (by omega),List.take_append_of_le_length (by rw[List.length_drop];omega)]
theorem jo.at{H:Hp}:∀{ar:List Arm} {l:List Value} (k:Nat) (hk:k<ar.length),jo H ar l →
  ∃ns t,0+k*3+3≤l.length∧(l.drop (0+k*3)).take 3=[ns,.string (bs ar[k].decl.name),t]∧SlF H fU ar[k].nums.length (ar[k].nums.map i64) ns∧iM H ar[k].decl.ty t
 |a::ar,ns::s::t::r,0,_,h=>⟨ns,t,by simp,by rw[h.2.1];rfl,h.1,h.2.2.1⟩
 |a::ar,ns::s::t::r,k+1,hk,h=>by
  obtain⟨ns',t',h1,h2,h3,h4⟩:=jo.at k (by simpa using hk) h.2.2.2
  refine⟨ns',t',by simp only[List.length_cons];omega,?_,h3,h4⟩
  have e:0+(k+1)*3=(0+k*3)+3:=by omega
  rw[e];exact h2
 |[],_ ,_,hk,_=>absurd hk (by simp)
 |_::_,[],_,_,h=>h.elim
 |_::_,[_],_,_,h=>h.elim
 |_::_,[_,_],_,_,h=>h.elim
theorem IK(ti:Nat):∀(l:List Arm) (a:Arm) (x:CS×List Nat),ji ti x (l++[a])=Gv (jh ti (ji ti x l).1 a.nums,(ji ti x l).2) a.decl
 |[],_,_=>rfl
 |b::r,a,x=>by rw[List.cons_append,ji,IK ti r];rfl
theorem uB.kp{ρ:aN}{eb:Nat}{w w':World}{l:List Nat}{X:List (Nat×Nat)}(h:uB ρ eb w l)(k:Kp X w w')(hx:∀b,5≤(ρ b).1→Out X b):uB ρ eb w' l:=by
 obtain⟨v,o,h1,h2,h3,h4⟩:=h
 exact⟨v,o,(k.same _ (lt_of_heap h1) (hx _ (by rw[h3];simp))).trans h1,h2.kp k (fun b hb=>hx b (by rw[h4 b hb];simp)),h3,h4⟩
theorem uB.kd{m B:Nat}{ρ ρ':aN}{eb:Nat}{w w':World}{l:List Nat}(h:uB ρ eb w l)(k:Kd m B ρ w w')(hm:m≤5)(r:Rx ρ ρ' w.heap.size)(hge:∀b,ρ b≠(0,0)→B+7≤b):uB ρ' eb w' l:=by
 obtain⟨v,o,h1,h2,h3,h4⟩:=h
 have hs:∀b,b<w.heap.size→(ρ b).1=5→w'.heap[b]?=w.heap[b]?:=fun b hb h5=>k.same b hb (Or.inr ⟨hge b (fun e=>by rw[e]at h5;simp at h5),Or.inr (by omega)⟩)
 refine⟨v,o,(hs _ (lt_of_heap h1) (by rw[h3])).trans h1,?_,(r _ (lt_of_heap h1)).trans h3,fun b hb=>(r b (h2.lt b hb)).trans (h4 b hb)⟩
 obtain⟨q1,q2⟩:=h2
 refine⟨q1,?_⟩
 cases o with
 |none=>exact q2
 |some b=>obtain⟨rr,cp,q3,q4,q5⟩:=q2;exact⟨rr,cp,q3,(hs b (lt_of_heap q4) (by rw[h4 b rfl])).trans q4,q5⟩
def CG6(B:Nat)(H:Hp)(ρ:aN)(T:List Nat)(w:World)(c':CS)(w':World):Prop:=∃ρ' D,Kd 6 B ρ w w'∧Rx ρ ρ' w.heap.size∧CR B H ρ' (T++D) w' c'
theorem CG.up{B:Nat}{H:Hp}{ρ:aN}{T:List Nat}{w w':World}{c:CS}(h:CG B H ρ T w c w'):CG6 B H ρ T w c w':=by
 obtain⟨ρ',D,h1,h2,h3⟩:=h
 exact⟨ρ',D,h1.up (by omega),h2,h3⟩
theorem CG6.trans{B:Nat}{H:Hp}{ρ ρ':aN}{T D:List Nat}{w w1 w2:World}{c:CS}(k:Kd 6 B ρ w w1)(r:Rx ρ ρ' w.heap.size)(h:CG6 B H ρ' (T++D) w1 c w2):CG6 B H ρ T w c w2:=by
 obtain⟨ρ2,D2,k2,r2,h2⟩:=h
 exact⟨ρ2,D++D2,k.trans k2 r,r.trans r2 k.size,by rw[← List.append_assoc];exact h2⟩
theorem Kd.kp{m B:Nat}{ρ:aN}{a b c:World}(h:Kd m B ρ a b)(k:Kp [] b c):Kd m B ρ a c:=h.trans (Kp.kc0 k) (Rx.refl _ _)
set_option maxHeartbeats 1000000 in
theorem SX{B ub:Nat}{H:Hp}{ρ:aN}{T:List Nat}{w:World}{c:CS}{nm unm:By}{uat:Nat}{of:Ty}{ar:List Arm}{els:Option Decl}{ov av ev:Value}{l:List Value}
  (h:CR B H ρ T w c) (hu:H ub=some ([.string (bs unm),i64 (uat:Nat),ov,.string (bs nm),av,ev],aG)) (ho:iM H of ov) (ha:jo H ar l) (hs:SlF H bu ar.length l av) (he:QT H els ev)
  (hok:lT c of=true) (hsm:∀a∈ar,a.nums.length<1000000) (hN:(vC of ar els c).L.length≤1000000) (har:ar.length<1000000):
  Calls P oJ #[pt (B+6) 0,pt ub 0] w (Ret fun _ w'=>CG6 B H ρ T w (vC of ar els c) w'):=by
 refine Ret.R fun R hR=>?_
 apply y7
 unfold nX
 have hl:=h.lt
 rw[Hf]at hN
 obtain⟨ab,arest,acap,rfl,hab⟩:=hs
 have hu0:=h.sub _ _ _ hu
 have hudom:=h.dom _ _ hu
 have habdom:=h.dom _ _ hab
 obtain⟨oi,ou,rfl⟩:=ho.form
 repeat' first|refine .x ?_|refine .y ?_|refine .z ?_|fail
 have g0:∀wX:World,wX=ah (((w.alloc (cl [pt (B+6) 0] 111)).alloc (.map #[] 0)).alloc (cl [.int .i64 0,.int .i64 0,.int .i64 0,.bool false,.int .i64 0,.map none,.map none] 135)) (w.heap.size+1+1) (cl [.int .i64 13,.int .i64 0,.int .i64 (-1),.bool false,.int .i64 4,.map (some (w.heap.size+1)),.map none] 135) →
   Kp [] w wX∧wX.heap[w.heap.size]?=some (cl [pt (B+6) 0] aT)∧wX.heap[w.heap.size+1]?=some (.map #[] 0)∧wX.heap[w.heap.size+2]?=some (cl [i64 13,i64 0,.int .i64 (-1),.bool false,i64 4,.map (some (w.heap.size+1)),.map none] aA)∧w.heap.size+3≤wX.heap.size:=by
  rintro _ rfl
  exact⟨by exact kpA,by exact lookA,by exact lookA,by exact lookA,by simp only[ag,size_alloc];omega⟩
 generalize hwX:ah (((w.alloc (cl [pt (B+6) 0] 111)).alloc (.map #[] 0)).alloc (cl [.int .i64 0,.int .i64 0,.int .i64 0,.bool false,.int .i64 0,.map none,.map none] 135)) (w.heap.size+1+1) (cl [.int .i64 13,.int .i64 0,.int .i64 (-1),.bool false,.int .i64 4,.map (some (w.heap.size+1)),.map none] 135)=w1
 obtain⟨k1,cb1,tb1,ib1,z1⟩:=g0 w1 hwX.symm
 clear g0 hwX
 have h1:=(h.ext k1).iy (a:=w.heap.size+1) (l:=[]) (by omega) (h.free _ (by omega)) ⟨#[],0,tb1,MK.empty⟩
 have fr:∀b,w.heap.size≤b→b≠w.heap.size+1→dV ρ (some (w.heap.size+1)) (3,T.length) b=(0,0):=fun b hb hn=>by
  unfold dV
  rw[if_neg (by intro e;cases e;exact hn rfl)]
  exact h.free b hb
 have rx1:Rx ρ (dV ρ (some (w.heap.size+1)) (3,T.length)) w.heap.size:=Dw (by omega)
 have rtb:dV ρ (some (w.heap.size+1)) (3,T.length) (w.heap.size+1)=(3,T.length):=xJ rfl
 generalize dV ρ (some (w.heap.size+1)) (3,T.length)=ρ1 at *
 have hu1:=h1.sub _ _ _ hu
 have kw1:Kd 5 B ρ w w1:=Kp.kc0 k1
 refine Jn.by (fun vals w'=>∃ρ2 D2 sv,Kd 5 B ρ w w'∧Rx ρ ρ2 w.heap.size∧ρ2 w.heap.size=(0,0)∧ρ2 (w.heap.size+1)=(3,T.length)∧ρ2 (w.heap.size+2)=(0,0)∧CR B H ρ2 (T++[w.heap.size+1]++D2) w' (aZ of c).2 ∧
   w'.heap[w.heap.size]?=some (cl [pt (B+6) 0] aT) ∧
   w'.heap[w.heap.size+2]?=some (cl [i64 13,i64 0,.int .i64 (-1),.bool false,i64 ((aZ of c).1.of_:Nat),.map (some (w.heap.size+1)),sv] aA)∧df (T++[w.heap.size+1]++D2) (aZ of c).1.set sv ∧
   (aZ of c).1={ ins 13 with of_:=(aZ of c).1.of_,to := -1,table:=some c.tabs.length,set:=(aZ of c).1.set }∧w.heap.size+3≤w'.heap.size) (fun J hJ=>?_) ?_
 ·cases of with
  |basic s=>
   cases ho
   repeat' first|refine .x ?_|refine .y ?_|refine .z ?_|fail
   refine Cl.ret Qe ?_
   rintro v w2 ⟨rfl,rfl⟩
   repeat' first|refine .x ?_|refine .y ?_|refine .z ?_|fail
   refine(fun(Q:∀w9,Kp [(w.heap.size+2,w.heap.size+3)] w2 w9∧w9.heap[w.heap.size+2]?=some (cl [i64 13,i64 0,.int .i64 (-1),.bool false,i64 (dP s:Nat),.map (some (w.heap.size+1)),.map none] aA)→J [] w9)=>Q _ ⟨by exact kpA,by exact lookA⟩) ?_
   rintro w3 ⟨k3,ib3⟩
   refine hJ _ _ ⟨ρ1,[],.map none,Kp.kc (X:=[]) (k1.trans k3 fun i hi _=>⟨trivial,by omega,trivial⟩) (fun _ _ _=>trivial),rx1,fr _ (Nat.le_refl _) (by omega),rtb,fr _ (by omega) (by omega),?_,(k3.same _ (by omega) ⟨by omega,trivial⟩).trans cb1,ib3,rfl,rfl,by have:=k3.size;omega⟩
   rw[List.append_nil]
   exact h1.tmp k3 (by omega) (fr _ (by omega) (by omega))
  |named s a=>
   obtain⟨nb,hnb,hnH⟩:=ho
   cases hnb
   have hn1:=h1.sub _ _ _ hnH
   obtain⟨v2,o2,b1,b2,b3⟩:=h1.calls
   obtain⟨es4,ck4,m4,f1,f2,f3⟩:=h1.defs
   repeat' first|refine .x ?_|refine .y ?_|refine .z ?_|fail
   refine Lk.VS f2 (by exact lookA) ?_
   have hdl:(c.iy []).defs=c.defs:=rfl
   rw[hdl]at f3
   rcases f3.lookup s with⟨e1,e2⟩|⟨dv,d,e1,e2,e3⟩
   ·unfold lT at hok;simp only[e2]at hok;cases hok
   obtain⟨dn,da,dk⟩:=d
   cases dk with
   |enum ns is=>
    obtain⟨db,du,dx,rfl,hd1,hd2,hd3⟩:=e3
    obtain⟨isb,isr,isc,rfl,hisb⟩:=hd3
    have hd0:=h1.sub _ _ _ hd1
    have his0:=h1.sub _ _ _ hisb
    rw[e1]
    repeat' first|refine .x ?_|refine .y ?_|refine .z ?_|fail
    have kd1:Kp [] w1 w1.drew:=by exact kpA
    have WT:is.length<1000000:=by unfold lT at hok;simp only[e2]at hok;exact of_decide_eq_true hok
    refine Cl.ret (Jk is (w:=w1.drew) his0 WT) ?_
    rintro v w2 ⟨hv,k2,tm2⟩
    rw[size_drew]at tm2 hv
    subst hv
    have kd2:Kp [] w1 w2:=kd1.trans k2 (fun _ _ _=>⟨trivial,trivial⟩)
    have zd2:=tm2.lt
    have ib2:w2.heap[w.heap.size+2]?=_:=(kd2.same _ (by omega) trivial).trans ib1
    repeat' first|refine .x ?_|refine .y ?_|refine .z ?_|fail
    refine(fun(Q:∀w9,Kp [(w.heap.size+2,w.heap.size+3)] w2 w9∧w9.heap[w.heap.size+2]?=some (cl [i64 13,i64 0,.int .i64 (-1),.bool false,i64 4,.map (some (w.heap.size+1)),.map (some w1.heap.size)] aA)→J [] w9)=>Q _ ⟨by exact kpA,by exact lookA⟩) ?_
    rintro w3 ⟨k3,ib3⟩
    have hue:aZ (.named s a) c=({ ins 13 with of_:=4,to := -1,table:=some c.tabs.length,set:=some (c.iy []).tabs.length },(c.iy []).iy (members is)):=by
     unfold aZ
     have:(c.iy []).defs.lookup s=some ⟨dn,da,.enum ns is⟩:=e2
     simp only[this]
    have f1':ρ1 w1.heap.size=(0,0):=h1.free _ (Nat.le_refl _)
    have h3:=(h1.ext kd2).iy (a:=w1.heap.size) (by omega) f1' tm2
    have hr3:∀b,b<w1.heap.size→dV ρ1 (some w1.heap.size) (3,(T++[w.heap.size+1]).length) b=ρ1 b:=fun b hb=>Dw (Nat.le_refl _) b hb
    have hi3:=hr3 (w.heap.size+2) (by omega)
    refine hJ _ _ ⟨dV ρ1 (some w1.heap.size) (3,(T++[w.heap.size+1]).length),[w1.heap.size],.map (some w1.heap.size),?_,fun b hb=>(hr3 b (by omega)).trans (rx1 b hb),(hr3 _ (by omega)).trans (fr _ (Nat.le_refl _) (by omega)),(hr3 _ (by omega)).trans rtb,hi3.trans (fr _ (by omega) (by omega)),?_,?_,?_,?_,?_,?_⟩
    ·exact Kp.kc (X:=[]) ((k1.trans kd2 fun _ _ _=>⟨trivial,trivial⟩:Kp [] w w2).trans k3 fun i hi _=>⟨trivial,by omega,trivial⟩) (fun _ _ _=>trivial)
    ·rw[hue]
     exact h3.tmp k3 (by omega) (hi3.trans (fr _ (by omega) (by omega)))
    ·exact(k3.same _ (by omega) ⟨by omega,trivial⟩).trans ((kd2.same _ (by omega) trivial).trans cb1)
    ·rw[hue];exact ib3
    ·rw[hue]
     refine⟨w1.heap.size,?_,rfl⟩
     rw[← h1.jU,List.getElem?_append_right (Nat.le_refl _),Nat.sub_self];rfl
    ·rw[hue]
    ·have:=k3.size;omega
   |_=>unfold lT at hok;simp only[e2]at hok;cases hok
  |_=>simp[lT]at hok
 ·rintro _ w4 jk ⟨ρ2,D2,sv,k4,rx2,rc2,rt2,ri2,h2,cb2,ib2,hsv,hhead,z2⟩
  obtain⟨svo,rfl⟩:=hsv.one
  have hu2:=h2.sub _ _ _ hu
  have hl2:=h2.lt
  have hL2:(aZ of c).2.L=c.L:=vz of c
  have hM:=Jm of ar els c
  rw[hM]at hR
  clear hM
  generalize aZ of c=uh at *
  obtain⟨⟨op,n0,to0,fx,of0,tbl,st⟩,c2⟩:=uh
  simp only[ins,Ins.mk.injEq]at hhead
  obtain⟨rfl,rfl,rfl,rfl,_,rfl,_⟩:=hhead
  dsimp only at h2 ib2 hsv hL2 hR
  repeat' first|refine .x ?_|refine .y ?_|refine .z ?_|fail
  refine Cl.ret (nC (i:=⟨13,0,-1,false,of0,some c.tabs.length,st⟩) (f:=.map (some (w.heap.size+1))) (g:=.map svo) h2 ?_ hsv (by rw[hL2];omega)) ?_
  ·refine⟨w.heap.size+1,?_,rfl⟩
   rw[← h.jU,List.append_assoc,List.getElem?_append_right (Nat.le_refl _),Nat.sub_self];rfl
  rintro v w5 ⟨rfl,ρ5,D5,k5,rx5,h5⟩
  have z5:=k5.size
  have cb5:w5.heap[w.heap.size]?=some (cl [pt (B+6) 0] aT):=(k5.lW (by omega) (by omega) rc2).trans cb2
  have ib5:w5.heap[w.heap.size+2]?=some (cl [i64 13,i64 0,.int .i64 (-1),.bool false,i64 (of0:Nat),.map (some (w.heap.size+1)),.map svo] aA):=(k5.lW (by omega) (by omega) ri2).trans ib2
  have hu5:=h5.sub _ _ _ hu
  have hl5:=h5.lt
  have rc5:=(rx5 w.heap.size (by omega)).trans rc2
  have rt5:=(rx5 (w.heap.size+1) (by omega)).trans rt2
  have ri5:=(rx5 (w.heap.size+2) (by omega)).trans ri2
  have kw5:Kd 6 B ρ w w5:=(k4.up (by omega)).trans (k5.up (by omega)) rx2
  have rw5:Rx ρ ρ5 w.heap.size:=fun b hb=>(rx5 b (by omega)).trans (rx2 b hb)
  repeat' first|refine .x ?_|refine .y ?_|refine .z ?_|fail
  refine(fun(Q:∀w9,Kp [] w5 w9∧w9.heap[w5.heap.size]?=some (cl [.slice none 0 0] A8)→Lp [.int .i64 0,undef] w9 _)=>Q _ ⟨by exact kpA,by exact lookA⟩) ?_
  rintro w6 ⟨k6,eb6⟩
  have z6:=lt_of_heap eb6
  have h6:=(h5.ext k6).role (a:=w5.heap.size) (r:=(5,0)) (by omega) z6 (h5.free _ (Nat.le_refl _))
  have r6:∀b,b<w5.heap.size→dV ρ5 (some w5.heap.size) (5,0) b=ρ5 b:=fun b hb=>Dw (Nat.le_refl _) b hb
  have re6:dV ρ5 (some w5.heap.size) (5,0) w5.heap.size=(5,0):=xJ rfl
  have fr6:∀b,w6.heap.size≤b→dV ρ5 (some w5.heap.size) (5,0) b=(0,0):=h6.free
  generalize dV ρ5 (some w5.heap.size) (5,0)=ρ6 at *
  have kw6:Kd 6 B ρ w w6:=kw5.trans (Kp.kc0 k6) rw5
  have rw6:Rx ρ ρ6 w.heap.size:=fun b hb=>(r6 b (by omega)).trans (rw5 b hb)
  have rc6:=(r6 w.heap.size (by omega)).trans rc5
  have rt6:=(r6 (w.heap.size+1) (by omega)).trans rt5
  have ri6:=(r6 (w.heap.size+2) (by omega)).trans ri5
  have cb6:w6.heap[w.heap.size]?=some (cl [pt (B+6) 0] aT):=(k6.same _ (by omega) trivial).trans cb5
  have ib6:w6.heap[w.heap.size+2]?=some (cl [i64 13,i64 0,.int .i64 (-1),.bool false,i64 (of0:Nat),.map (some (w.heap.size+1)),.map svo] aA):=(k6.same _ (by omega) trivial).trans ib5
  have hTi:(T++[w.heap.size+1]++D2++D5)[c.tabs.length]?=some (w.heap.size+1):=by
   rw[← h.jU,List.append_assoc,List.append_assoc,List.getElem?_append_right (Nat.le_refl _),Nat.sub_self];rfl
  have Zl:(c2.put ⟨13,0,-1,false,of0,some c.tabs.length,st⟩).L.length=c.L.length+1:=by rw[aX,hL2]
  obtain⟨T6,hT6⟩:∃X,X=T++[w.heap.size+1]++D2++D5:=⟨_,rfl⟩
  rw[← hT6]at h6 hTi
  obtain⟨cI,hcI⟩:∃X,X=c2.put ⟨13,0,-1,false,of0,some c.tabs.length,st⟩:=⟨_,rfl⟩
  rw[← hcI]at h6 Zl hR
  -- the arms
  refine Lp.nat (n:=ar.length) (fun n vals w'=>∃(k:Nat) (vv:Value) (ρ':aN) (D:List Nat),vals=[i64 (k:Nat),vv]∧k+n=ar.length∧Kd 6 B ρ6 w6 w'∧Rx ρ6 ρ' w6.heap.size ∧
   CR B H ρ' (T6++D) w' (ji c.tabs.length (cI,[]) (ar.take k)).1∧uB ρ' w5.heap.size w' (ji c.tabs.length (cI,[]) (ar.take k)).2 ∧
   (∀e∈(ji c.tabs.length (cI,[]) (ar.take k)).2,e<(ji c.tabs.length (cI,[]) (ar.take k)).1.L.length)∧(ji c.tabs.length (cI,[]) (ar.take k)).2.length=k) ?_ ?_
  ·refine⟨0,undef,ρ6,[],rfl,by omega,Kd.refl _ _ _ _,Rx.refl _ _,by rw[List.append_nil];exact h6,?_,by simp[ji],rfl⟩
   exact⟨_,none,eb6,Gw.nil _ _ _,re6,by simp⟩
  rintro n _ wL jk2 C ⟨k,vv,ρ',D,rfl,hkn,kL,rL,hL,hE,hEl,hEn⟩ hC
  have zL:=kL.size
  have huL:=hL.sub _ _ _ hu
  have habL:=hL.sub _ _ _ hab
  have hlL:=hL.lt
  have hablt:=lt_of_heap habL
  repeat' first|refine .x ?_|refine .y ?_|refine .z ?_|fail
  refine .split (fun hc=>?_) (fun hc=>?_)
  ·have hlt:k<ar.length:=by have:=of_decide_eq_true hc;omega
   obtain⟨nsv,tv,a1,a2,a3,a4⟩:=ha.at k hlt
   obtain⟨nb,nr,nc,rfl,hnb⟩:=a3
   obtain⟨ti,tu,rfl⟩:=a4.form
   have hnbL:=hL.sub _ _ _ hnb
   have hnbd:=hL.dom _ _ hnb
   refine .s ?_
   refine LdN.s ?_ habL (by rw[List.length_append];omega) ((dU a1).trans a2)
   repeat' first|refine .x ?_|refine .y ?_|refine .z ?_|fail
   obtain⟨xk,hxk⟩:∃X,X=ji c.tabs.length (cI,[]) (ar.take k):=⟨_,rfl⟩
   rw[← hxk]at hL hE hEl hEn
   have hxl:xk.1.L.length+aH (ar.drop k)=c.L.length+1+aH ar:=by
    rw[hxk,xn,Zl]
    have:=F8 ar k
    omega
   have hTk:(T6++D)[c.tabs.length]?=some (w.heap.size+1):=by
    rw[List.getElem?_append_left]
    ·exact hTi
    ·rcases Nat.lt_or_ge c.tabs.length T6.length with h|h
     ·exact h
     ·rw[List.getElem?_eq_none h]at hTi;cases hTi
   have rtk:ρ' (w.heap.size+1)=(3,c.tabs.length):=(rL _ (by omega)).trans (by rw[rt6,h.jU])
   have rck:ρ' w.heap.size=(0,0):=(rL _ (by omega)).trans rc6
   have rik:ρ' (w.heap.size+2)=(0,0):=(rL _ (by omega)).trans ri6
   have frk:=hL.free wL.heap.size (Nat.le_refl _)
   refine(fun(Q:∀w9,Kp [] wL w9∧w9.heap[wL.heap.size]?=some (cl [.slice (some ⟨nb,0,none⟩) ar[k].nums.length nc,.string (bs ar[k].decl.name),.iface ti tu] bu)→Lp [.int .i64 0] w9 _)=>Q _ ⟨by exact kpA,by exact lookA⟩) ?_
   rintro w7 ⟨k7,ab7⟩
   have z7:=lt_of_heap ab7
   refine Lp.nat (n:=ar[k].nums.length) (fun n vals w'=>∃j:Nat,vals=[i64 (j:Nat)]∧j+n=ar[k].nums.length∧Kp [(w.heap.size+1,w.heap.size+2)] w7 w'∧CR B H ρ' (T6++D) w' (jh c.tabs.length xk.1 (ar[k].nums.take j))) ?_ ?_
   ·exact⟨0,rfl,by omega,Kp.refl _ _,by rw[List.take_zero,jh];exact hL.ext k7⟩
   rintro m _ w8 jk3 C3 ⟨j,rfl,hjm,k8,h8⟩ hC3
   have z8:=k8.size
   have hnb8:=h8.sub _ _ _ hnb
   have cb8:w8.heap[w.heap.size]?=some (cl [pt (B+6) 0] aT):=(k8.same _ (by omega) ⟨by omega,trivial⟩).trans ((k7.same _ (by omega) trivial).trans ((kL.lW (by omega) (by omega) rc6).trans cb6))
   have ib8:w8.heap[w.heap.size+2]?=some (cl [i64 13,i64 0,.int .i64 (-1),.bool false,i64 (of0:Nat),.map (some (w.heap.size+1)),.map svo] aA):=(k8.same _ (by omega) ⟨by omega,trivial⟩).trans ((k7.same _ (by omega) trivial).trans ((kL.lW (by omega) (by omega) ri6).trans ib6))
   have ab8:w8.heap[wL.heap.size]?=some (cl [.slice (some ⟨nb,0,none⟩) ar[k].nums.length nc,.string (bs ar[k].decl.name),.iface ti tu] bu):=(k8.same _ (by omega) ⟨by omega,trivial⟩).trans ab7
   have hsk:=hsm ar[k] (List.getElem_mem hlt)
   repeat' first|refine .x ?_|refine .y ?_|refine .z ?_|fail
   refine .split (fun hc3=>?_) (fun hc3=>?_)
   ·have hjlt:j<ar[k].nums.length:=by have:=of_decide_eq_true hc3;omega
    obtain⟨vL,yg,lo,q1,q2,q3,q4⟩:=h8.L
    obtain⟨v2,o2,q5,q6,q7⟩:=h8.calls
    obtain⟨la,lc,rfl⟩:=q2.len
    have hxn:(ar[k].nums.map i64++nr)[0+j*1]?=some (i64 ar[k].nums[j]):=by rw[Nat.zero_add,Nat.mul_one,List.getElem?_append_left (by simpa using hjlt),List.getElem?_map,List.getElem?_eq_getElem hjlt];rfl
    obtain⟨lt,hlt2⟩:∃l,(jh c.tabs.length xk.1 (ar[k].nums.take j)).tabs[c.tabs.length]?=some l:=by
     have:=h8.jU
     have h9:c.tabs.length<(T6++D).length:=by
      rcases Nat.lt_or_ge c.tabs.length (T6++D).length with h|h
      ·exact h
      ·rw[List.getElem?_eq_none h]at hTk;cases hTk
     exact⟨_,List.getElem?_eq_getElem (by omega)⟩
    obtain⟨⟨es,ck,t1,t2⟩,_⟩:=h8.tabs _ _ _ hTk hlt2
    refine .s ?_
    refine Ld.s ?_ hnb8 hxn
    repeat' first|refine .x ?_|refine .y ?_|refine .z ?_|fail
    refine Mu.int t2 (by exact lookA) fun es' ck' hm'=>?_
    rw[Nq]at hm'
    refine(fun(Q:∀w9,Kp [(w.heap.size+1,w.heap.size+2)] w8 w9∧w9.heap[w.heap.size+1]?=some (.map es' ck')→Bi .add (i64 (j:Nat)) (.int .i64 1) fun x83=>C3 [x83] w9)=>Q _ ⟨by exact kpA,by exact aj rfl (by simp only[size_drew];omega)⟩) ?_
    rintro w9 ⟨k9,t9⟩
    have h9:=h8.Cc hTk rtk k9 ⟨es',ck',t9,hm'⟩
    rw[← Rz hlt2,← F6]at h9
    repeat' first|refine .x ?_|refine .y ?_|refine .z ?_|fail
    refine hC3 (m - 1) _ _ (by omega) ⟨j+1,rfl,by omega,k8.trans k9 (fun i _ ho=>⟨ho,ho⟩),?_⟩
    have e:ar[k].nums.take j++[ar[k].nums[j]]=ar[k].nums.take (j+1):=by rw[List.take_add_one,List.getElem?_eq_getElem hjlt];rfl
    rw[e]at h9;exact h9
   ·have Zg:j=ar[k].nums.length:=by have:=of_decide_eq_false hc3;omega
    subst Zg
    rw[List.take_length]at h8
    have hE8:uB ρ' w5.heap.size w8 xk.2:=(hE.kp k7 (fun _ _=>trivial)).kp k8 (fun b hb=>⟨by
     by_cases e:b=w.heap.size+1
     ·subst e;rw[rtk]at hb;simp at hb
     ·omega,trivial⟩)
    repeat' first|refine .x ?_|refine .y ?_|refine .z ?_|fail
    refine eY.f (by kernel_rfl) ?_
    have hsz:aH (ar.drop k)=tsz ar[k].decl.ty+1+aH (ar.drop (k+1)):=by rw[List.drop_eq_getElem_cons hlt,aH]
    refine Cl.ret (Tq (d:=ar[k].decl) (ends:=xk.2) h8 cb8 rck (by omega) hE8 a4 (by rw[uq];omega) (by omega)) ?_
    rintro v w10 ⟨XY,D10,k10,r10,h10,E10⟩
    repeat' first|refine .x ?_|refine .y ?_|refine .z ?_|fail
    have ek:ar.take k++[ar[k]]=ar.take (k+1):=by rw[List.take_add_one,List.getElem?_eq_getElem hlt];rfl
    have ea:ji c.tabs.length (cI,[]) (ar.take (k+1))=Gv (jh c.tabs.length xk.1 ar[k].nums,xk.2) ar[k].decl:=by rw[← ek,IK,← hxk]
    refine hC (n - 1) _ _ (by omega) ⟨k+1,_,XY,D++D10,rfl,by omega,?_,fun b hb=>(r10 b (by omega)).trans (rL b hb),by rw[ea,← List.append_assoc];exact h10,by rw[ea];exact E10,?_,by rw[ea];show (xk.2++[_]).length=_;rw[List.length_append,hEn];rfl⟩
    ·have c1:Kd 6 B ρ6 w6 w7:=kL.kp k7
     have c2:Kd 6 B ρ6 w6 w8:=c1.trans (Kp.kc (ρ:=ρ') k8 (fun i hi hx=>⟨by
      by_cases e:i=w.heap.size+1
      ·subst e;rcases hx with hx|⟨_,hx⟩
       ·omega
       ·rw[rtk]at hx;simp at hx
      ·omega,trivial⟩)) rL
     exact c2.trans k10 rL
    ·rw[ea]
     intro e he
     rw[Eh,uq]
     have:e∈xk.2++[(lower ar[k].decl.ty (jh c.tabs.length xk.1 ar[k].nums)).L.length]:=he
     rw[List.mem_append,List.mem_singleton]at this
     rcases this with h|h
     ·have:=hEl e h;omega
     ·rw[h,bF,uq];omega
  ·have hge:k=ar.length:=by have:=of_decide_eq_false hc;omega
   subst hge
   rw[List.take_length]at hL hE hEl hEn
   have hxl:(ji c.tabs.length (cI,[]) ar).1.L.length=c.L.length+1+aH ar:=by rw[xn,Zl]
   obtain⟨xA,hxA⟩:∃X,X=ji c.tabs.length (cI,[]) ar:=⟨_,rfl⟩
   rw[← hxA]at hL hE hEl hEn hxl hR
   have rcA:ρ' w.heap.size=(0,0):=(rL _ (by omega)).trans rc6
   have cbL:wL.heap[w.heap.size]?=some (cl [pt (B+6) 0] aT):=(kL.lW (by omega) (by omega) rc6).trans cb6
   have kwL:Kd 6 B ρ w wL:=kw6.trans kL rw6
   have rwL:Rx ρ ρ' w.heap.size:=fun b hb=>(rL b (by omega)).trans (rw6 b hb)
   have hT6':∀D':List Nat,T6++D'=T++([w.heap.size+1]++D2++D5++D'):=fun D'=>by rw[hT6];simp only[List.append_assoc]
   refine Jn.by (fun _ w'=>∃(x:CS×List Nat) (ρ3:aN) (D3:List Nat),x=Sz c2.L.length xA els∧Kd 6 B ρ w w'∧Rx ρ ρ3 w.heap.size∧CR B H ρ3 (T6++D3) w' x.1∧uB ρ3 w5.heap.size w' x.2∧(∀e∈x.2,e<x.1.L.length) ∧
     w'.heap[w.heap.size]?=some (cl [pt (B+6) 0] aT)∧ρ3 w.heap.size=(0,0)∧x.2.length<2000000) (fun J hJ=>?_) ?_
   ·have hu9:=huL
    cases els with
    |none=>
     cases he
     repeat' first|refine .x ?_|refine .y ?_|refine .z ?_|fail
     exact hJ _ _ ⟨xA,ρ',D,rfl,kwL,rwL,hL,hE,hEl,cbL,rcA,by omega⟩
    |some d=>
     obtain⟨dc,dt,rfl,hdc,hdt⟩:=he
     refine .s ?_
     refine .s ?_
     refine .s ?_
     refine En.s (b:=false) ?_ rfl
     repeat' first|refine .x ?_|refine .y ?_|refine .z ?_|fail
     refine Cl.ret (Vs (at_:=c2.L.length) hL (by rw[hxl,hL2];omega)) ?_
     rintro v w7 ⟨ρ7,D7,k7,r7,h7⟩
     have z7:=k7.size
     have hu7:=h7.sub _ _ _ hu
     have hdc7:=h7.sub _ _ _ hdc
     have cb7:w7.heap[w.heap.size]?=some (cl [pt (B+6) 0] aT):=(k7.lW (by omega) (by omega) rcA).trans cbL
     have E7:=hE.kd k7 (Nat.le_refl _) r7 hL.ge
     obtain⟨ti,tu,rfl⟩:=hdt.form
     repeat' first|refine .x ?_|refine .y ?_|refine .z ?_|fail
     refine eY.f (by kernel_rfl) ?_
     refine Cl.ret (Tq (d:=d) (ends:=xA.2) h7 cb7 ((r7 _ (by omega)).trans rcA) (by omega) E7 hdt (by rw[kD,hxl];simp only[je]at hN;omega) (by omega)) ?_
     rintro v w10 ⟨XY,D10,k10,r10,h10,E10⟩
     refine hJ _ _ ⟨Gv (xA.1.iU c2.L.length,xA.2) d,XY,D++D7++D10,rfl,?_,?_,?_,E10,?_,?_,?_,?_⟩
     ·exact(kwL.trans (k7.up (by omega)) rwL).trans k10 (fun b hb=>(r7 b (by omega)).trans (rwL b hb))
     ·exact fun b hb=>(r10 b (by omega)).trans ((r7 b (by omega)).trans (rwL b hb))
     ·have:T6++(D++D7++D10)=T6++D++D7++D10:=by simp only[List.append_assoc]
      rw[this];exact h10
     ·intro e he
      rw[Eh,kD]
      have:e∈xA.2++[(lower d.ty (xA.1.iU c2.L.length)).L.length]:=he
      rw[List.mem_append,List.mem_singleton]at this
      rcases this with h|h
      ·have:=hEl e h;omega
      ·rw[h,bF,kD];omega
     ·exact(k10.lW (by omega) (by omega) ((r7 _ (by omega)).trans rcA)).trans cb7
     ·exact(r10 _ (by omega)).trans ((r7 _ (by omega)).trans rcA)
     ·show (xA.2++[_]).length<2000000
      rw[List.length_append]
      simp only[List.length_cons,List.length_nil]
      simp only[je]at hN
      have:=Ql d.ty
      omega
   ·rintro _ wM jk4 ⟨x,ρM,DM,hx,kM,rM,hM,EM,hMl,cbM,rcM,hxs⟩
    obtain⟨vE,oE,x1,x2,x3,x4⟩:=EM
    obtain⟨ae,ce,rfl⟩:=x2.len
    have hzM:=hM.lt
    have zcb:=lt_of_heap cbM
    repeat' first|refine .x ?_|refine .y ?_|refine .z ?_|fail
    refine Lp.nat (n:=x.2.length) (fun n vals w'=>∃(i:Nat) (ρ4:aN) (D4:List Nat),vals=[i64 (i:Nat)]∧i+n=x.2.length∧Kd 5 B ρM wM w'∧Rx ρM ρ4 wM.heap.size∧CR B H ρ4 (T6++D4) w' (Az x.1 (x.2.take i))) ?_ ?_
    ·exact⟨0,ρM,DM,rfl,by omega,Kd.refl _ _ _ _,Rx.refl _ _,by rw[List.take_zero];exact hM⟩
    rintro n _ w12 jk5 C5 ⟨i,ρ4,D4,rfl,hin,k12,r12,h12⟩ hC5
    have z12:=k12.size
    repeat' first|refine .x ?_|refine .y ?_|refine .z ?_|fail
    refine .split (fun hc5=>?_) (fun hc5=>?_)
    ·have hilt:i<x.2.length:=by have:=of_decide_eq_true hc5;omega
     obtain⟨ob,XC,ocap,rfl,hov,hob⟩:=Gw.some x2 (by omega)
     cases hov
     have hro:=x4 ob rfl
     have hob12:w12.heap[ob]?=some (cl ((x.2.map fun(x:Nat)=>i64 (x:Nat))++XC) MF):=(k12.same ob (lt_of_heap hob) (Or.inr ⟨hM.ge ob (by rw[hro];simp),Or.inr (by rw[hro];simp)⟩)).trans hob
     have hxn:((x.2.map fun(x:Nat)=>i64 (x:Nat))++XC)[0+i*1]?=some (i64 (x.2[i]:Nat)):=by rw[Nat.zero_add,Nat.mul_one,List.getElem?_append_left (by simpa using hilt),List.getElem?_map,List.getElem?_eq_getElem hilt];rfl
     have cb12:w12.heap[w.heap.size]?=some (cl [pt (B+6) 0] aT):=(k12.lW zcb (by omega) rcM).trans cbM
     refine .s ?_
     refine Ld.s ?_ hob12 hxn
     repeat' first|refine .x ?_|refine .y ?_|refine .z ?_|fail
     refine Cl.ret (Vs (at_:=x.2[i]) h12 (by rw[Fb];exact hMl _ (List.getElem_mem hilt))) ?_
     rintro v w13 ⟨ρ13,D13,k13,r13,h13⟩
     repeat' first|refine .x ?_|refine .y ?_|refine .z ?_|fail
     refine hC5 (n - 1) _ _ (by omega) ⟨i+1,ρ13,D4++D13,rfl,by omega,k12.trans k13 r12,fun b hb=>(r13 b (by omega)).trans (r12 b hb),?_⟩
     have ek:x.2.take i++[x.2[i]]=x.2.take (i+1):=by rw[List.take_add_one,List.getElem?_eq_getElem hilt];rfl
     rw[← List.append_assoc,← ek,IA];exact h13
    ·have hige:i=x.2.length:=by have:=of_decide_eq_false hc5;omega
     subst hige
     rw[List.take_length,hx]at h12
     refine hR _ _ ⟨ρ4,[w.heap.size+1]++D2++D5++D4,kM.trans (k12.up (by omega)) rM,fun b hb=>(r12 b (by have:=kM.size;omega)).trans (rM b hb),by rw[← hT6'];exact h12⟩
end Go.W.T
