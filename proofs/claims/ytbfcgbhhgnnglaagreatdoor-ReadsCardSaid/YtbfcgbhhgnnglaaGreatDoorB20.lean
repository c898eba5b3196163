/- Texts of mine, one behind the other; nothing is assumed. -/
import Derived.Test.YtbfcgbhhgnnglaaGreatDoorB08
import Derived.Test.YtbfcgbhhgnnglaaGreatDoorB19
import Derived.Test.YtbfcgbhhgnnglaaGreatDoorB00
import Derived.Test.YtbfcgbhhgnnglaaGreatDoorB15
set_option autoImplicit true
set_option relaxedAutoImplicit true
set_option linter.unusedSimpArgs false
set_option linter.unusedVariables false
set_option maxRecDepth 100000
namespace Go.W
open Go
theorem St.set(h:w.heap[b]?=some (cl l t))(ho:l[o]?=some y)(hx:x.oneCell'=true)(hK:K (ag w b (cl (l.set o x) t))):St (pt b o) x w K:=by
 have hlt:o<l.length:=by
  rcases Nat.lt_or_ge o l.length with h|h
  .exact h
  .rw[List.getElem?_eq_none h]at ho;cases ho
 refine St.s (l:=l) (t:=t) (l':=l.set o x) hK h hx omg ?_;rw[List.set_eq_take_append_cons_drop,if_pos hlt];simp
end Go.W
namespace Go.W.T
open Go Go.W Go.M Go.Proofs
def TabAt(w:World)(b:Nat)(l:Tab):Prop:=∃es ck,w.heap[b]?=some (.map es ck)/\MK (κi .i64) es ck (l.map λx=>(x.1,i64 (x.2:Nat)))
def pR(T:List Nat):Option Nat->Value->Prop
 |none,v=>v=.map none
 |some i,v=>∃b,T[i]?=some b/\v=.map (some b)
def jC(T:List Nat):List Ins->List Value->Prop
 |[],[]=>True
 |i::r,a::b::c::d::e::f::g::l=>a=i64 (i.op:Nat)/\b=.int .i64 i.n/\c=.int .i64 i.to/\d=.bool i.fixed/\e=i64 (i.of_:Nat)/\pR T i.table f/\pR T i.set g/\jC T r l
 |_,_=>False
theorem pR.app(h:pR T o v):pR (T++T') o v:=by
 cases o with
 |none=>exact h
 |some i=>
  obtain⟨b,h1,h2⟩:=h;refine⟨b,?_,h2⟩;have hlt:i<T.length:=by
   rcases Nat.lt_or_ge i T.length with h|h
   .exact h
   .rw[List.getElem?_eq_none h]at h1;cases h1
  rw[List.getElem?_append_left hlt];exact h1
theorem pR.one(h:pR T o v):∃b,v=.map b:=by
 cases o with
 |none=>exact⟨_,h⟩
 |some i=>obtain⟨b,_,h2⟩:=h;exact⟨_,h2⟩
theorem jC.cases:∀{L:List Ins} {l:List Value},jC T L l->(L=[]/\l=[])\/∃i r f g l',L=i::r/\l=[i64 (i.op:Nat),.int .i64 i.n,.int .i64 i.to,.bool i.fixed,i64 (i.of_:Nat),f,g]++l'/\pR T i.table f/\pR T i.set g/\jC T r l'
 |[],[],_=>Or.inl ⟨rfl,rfl⟩
 |i::r,_::_::_::_::_::f::g::l,⟨h1,h2,h3,h4,h5,h6,h7,h8⟩=>Or.inr ⟨i,r,f,g,l,rfl,by subst h1 h2 h3 h4 h5;rfl,h6,h7,h8⟩
theorem jC.mk(hf:pR T i.table f)(hg:pR T i.set g)(h:jC T r l'):jC T (i::r) ([i64 (i.op:Nat),.int .i64 i.n,.int .i64 i.to,.bool i.fixed,i64 (i.of_:Nat),f,g]++l'):=
 ⟨rfl,rfl,rfl,rfl,rfl,hf,hg,h⟩
theorem jC.app:∀{L:List Ins} {l:List Value},jC T L l->jC (T++T') L l
 |[],[],_=>trivial
 |_::_,_::_::_::_::_::_::_::_,⟨h1,h2,h3,h4,h5,h6,h7,h8⟩=>⟨h1,h2,h3,h4,h5,h6.app,h7.app,jC.app h8⟩
theorem jC.len:∀{L:List Ins} {l:List Value},jC T L l->l.length=L.length*7:=by
 intro L;induction L with
 |nil=>intro l h;rcases h.cases with⟨_,rfl⟩|⟨_,_,_,_,_,h,_⟩
       · rfl
       · cases h
 |cons i r ih=>
  intro l h;rcases h.cases with⟨h,_⟩|⟨i',r',f,g,l',h1,rfl,_,_,h2⟩
  .cases h
  .cases h1;rw[List.length_append,ih h2];simp only[List.length_cons,List.length_nil];omega
theorem jC.snoc(hf:pR T i.table f)(hg:pR T i.set g):∀{L:List Ins} {l:List Value},jC T L l ->
  jC T (L++[i]) (l++[i64 (i.op:Nat),.int .i64 i.n,.int .i64 i.to,.bool i.fixed,i64 (i.of_:Nat),f,g]):=by
 intro L;induction L with
 |nil=>intro l h;rcases h.cases with⟨_,rfl⟩|⟨_,_,_,_,_,h,_⟩
       · exact jC.mk hf hg trivial
       · cases h
 |cons i r ih=>
  intro l h;rcases h.cases with⟨h,_⟩|⟨i',r',f,g,l',h1,rfl,h3,h4,h2⟩
  .cases h
  .cases h1;rw[List.append_assoc,List.cons_append];exact jC.mk h3 h4 (ih h2)
theorem jC.lH:∀{L:List Ins} {l:List Value} {at_:Nat},jC T L l->at_<L.length ->
  (∃y,l[0+at_*7+2]?=some y)/\jC T (L.modify at_ λi=>{ i with to:=x }) (l.set (0+at_*7+2) (.int .i64 x)):=by
 intro L;induction L with
 |nil=>intro l at_ _ h;exact absurd h smp
 |cons i r ih=>
  intro l at_ h hat;rcases h.cases with⟨h,_⟩|⟨i',r',f,g,l',h1,rfl,h3,h4,h2⟩
  .cases h
  .cases h1;cases at_ with
   |zero=>exact⟨⟨_,rfl⟩,jC.mk h3 h4 h2⟩
   |succ k=>
    obtain⟨⟨y,hy⟩,h5⟩:=ih h2 (by simpa using hat);have e:0+(k+1)*7+2=(0+k*7+2)+7:=omg;rw[e];refine⟨⟨y,?_⟩,?_⟩
    .rw[List.getElem?_append_right smp];simpa using hy
    .rw[List.set_append_right _ _ smp,List.modify_succ_cons];exact jC.mk h3 h4 (by simpa using h5)
abbrev kG:=Nat->Nat×Nat
def jZ(l:List (Nat×By×Nat)):List Value:=l.flatMap λx=>[i64 (x.1:Nat),κs x.2.1,i64 (x.2.2:Nat)]
def wC(H:Hp):List (By×Value)->List (By×Def)->Prop
 |[],[]=>True
 |x::m,y::l=>x.1=y.1/\jH H y.2 x.2/\wC H m l
 |_,_=>False
def ie:Int->Nat
 |.ofNat n=>2*n
 |.negSucc n=>2*n+1
theorem ie_inj(h:ie a=ie b):a=b:=by
 cases a<;>cases b<;>simp only[ie]at h<;>first|(congr 1;omega)|omega
def jB(w:World)(ρ:kG):List (Int×Value)->List (Int×List Int)->Prop
 |[],[]=>True
 |x::m,y::l=>x.1=y.1/\(∃o,Gw w rV 1 x.2 y.2.length (y.2.map (Value.int .u32)) o/\∀b,o=some b->ρ b=(4,ie y.1))/\jB w ρ m l
 |_,_=>False
abbrev U7(x:Nat×Nat×Bool×Bool):Value:=.agg #[i64 (x.1:Nat),i64 (x.2.1:Nat),.bool x.2.2.1,.bool x.2.2.2]
structure CR (B:Nat) (H:Hp) (ρ:kG) (T:List Nat) (w:World) (c:CS):Prop where
 gl:Gl w
 hB:NG<=B
 sub:Sub H w
 dom:∀b x,H b=some x->b<B
 lt:B+7<=w.heap.size
 free:∀b,w.heap.size<=b->ρ b=(0,0)
 low:∀b,b<B+7->ρ b=(0,0)
 L:∃v cells o,w.heap[B+3]?=some (cl [v,.map (some B),.map (some (B+1)),.map (some (B+2))] kH)/\Gw w dB 7 v c.L.length cells o/\jC T c.L cells/\∀b,o=some b->ρ b=(1,0)
 calls:∃v o,w.heap[B+6]?=some (cl [pt (B+3) 0,.map (some (B+4)),.map (some (B+5)),v] iH)/\Gw w qJ 3 v c.calls.length (jZ c.calls) o/\∀b,o=some b->ρ b=(2,0)
 nN:T.length=c.tabs.length
 tabs:∀(i:Nat) b l,T[i]?=some b->c.tabs[i]?=some l->TabAt w b l/\ρ b=(3,i)
 types:∃es ck,w.heap[B]?=some (.map es ck)/\MK κs es ck (c.types.map λx=>(x.1,i64 (x.2:Nat)))
 procs:∃es ck,w.heap[B+1]?=some (.map es ck)/\MK κc es ck (c.procs.map λx=>(x.1,U7 x.2))/\∀x∈c.procs,Xm x.1
 fA:∃es ck m,w.heap[B+2]?=some (.map es ck)/\MK (κi .u32) es ck m/\jB w ρ m c.fA
 defs:∃es ck m,w.heap[B+4]?=some (.map es ck)/\MK κs es ck m/\wC H m c.defs
 start:∃es ck,w.heap[B+5]?=some (.map es ck)/\MK κs es ck (c.start.map λx=>(x.1,i64 (x.2:Nat)))
 uj:c.calls.length<=c.L.length
structure Kd (m:Nat) (B:Nat) (ρ:kG) (w w':World):Prop where
 os:w'.os=w.os
 tape:w'.tape=w.tape
 output:w'.output=w.output
 size:w.heap.size<=w'.heap.size
 same:∀b,b<w.heap.size->(b<B\/B+7<=b/\((ρ b).1=0\/m<=(ρ b).1))->w'.heap[b]?=w.heap[b]?
abbrev Kc(B:Nat)(ρ:kG)(w w':World):Prop:=Kd 5 B ρ w w'
theorem Kd.oL(h:Kd m B ρ w w')(hb:b<w.heap.size)(hB:B+7<=b)(hr:ρ b=(0,0)):w'.heap[b]?=w.heap[b]?:=h.same b hb (Or.inr ⟨hB,Or.inl (by rw[hr])⟩)
def Rx(ρ ρ':kG)(n:Nat):Prop:=∀b,b<n->ρ' b=ρ b
theorem Rx.refl(ρ:kG)(n:Nat):Rx ρ ρ n:=λ_ _=>rfl
theorem Rx.trans(h:Rx a b n)(k:Rx b c m)(hm:n<=m):Rx a c n:=λi hi=>(k i omg).trans (h i hi)
theorem Kd.refl(m B:Nat)(ρ:kG)(w:World):Kd m B ρ w w:=⟨rfl,rfl,rfl,Nat.le_refl _,λ_ _ _=>rfl⟩
theorem Kd.up(h:Kd m B ρ w w')(hm:m<=m'):Kd m' B ρ w w':=⟨h.os,h.tape,h.output,h.size,λb hb ho=>h.same b hb (ho.imp id λx=>⟨x.1,x.2.imp id λy=>omg⟩)⟩
theorem Kd.trans(h:Kd m B ρ a b)(k:Kd m B ρ' b c)(r:Rx ρ ρ' a.heap.size):Kd m B ρ a c:=
 ⟨k.os.trans h.os,k.tape.trans h.tape,k.output.trans h.output,Nat.le_trans h.size k.size,λi hi ho=>
  (k.same i (Nat.lt_of_lt_of_le hi h.size) (ho.imp id λx=>⟨x.1,by rw[r i hi];exact x.2⟩)).trans (h.same i hi ho)⟩
theorem Kp.kc(k:Kp X a b)(h:∀i,i<a.heap.size->(i<B\/B+7<=i/\((ρ i).1=0\/m<=(ρ i).1))->Out X i):Kd m B ρ a b:=
 ⟨k.os,k.tape,k.output,k.size,λi hi ho=>k.same i hi (h i hi ho)⟩
theorem Kp.kc0(k:Kp [] a b):Kd m B ρ a b:=Kp.kc k λ_ _ _=>trivial
def Ret(Q:KV):Ending->World->Prop:=λen w'=>∃v,en=.returned v/\Q v w'
theorem Cl.ret(h:Calls P f args w (Ret Q))(hK:∀v w',Q v w'->K v w'):Cl P f args w E K:=by
 refine Cl.by h ?_ ?_ ?_
 .rintro v w' ⟨v',hv,hq⟩;cases hv;exact hK _ _ hq
 .rintro ch w' ⟨v',hv,_⟩;cases hv
 .rintro w' ⟨v',hv,_⟩;cases hv
theorem Ret.R(h:∀R:Ending->World->Prop,(∀v w',Q v w'->R (.returned v) w')->Calls P f args w R):Calls P f args w (Ret Q):=h _ λv w' hq=>⟨v,rfl,hq⟩
def CG(B:Nat)(H:Hp)(ρ:kG)(T:List Nat)(w:World)(c':CS)(w':World):Prop:=∃ρ' D,Kc B ρ w w'/\Rx ρ ρ' w.heap.size/\CR B H ρ' (T++D) w' c'
theorem jB.kp(k:Kp X w w')(hx:∀b,ρ b≠(0,0)->b<w.heap.size->(ρ b).1=4->Out X b):∀{m:List (Int×Value)} {l:List (Int×List Int)},jB w ρ m l->jB w' ρ m l
 |[],[],_=>trivial
 |x::m,y::l,h=>by
  obtain⟨h1,⟨o,h2,h3⟩,h4⟩:=h;exact⟨h1,⟨o,h2.kp k (λb hb=>hx b (by rw[h3 b hb];simp) (h2.lt b hb) (by rw[h3 b hb])),h3⟩,jB.kp k hx h4⟩
 |[],_::_,h=>h.elim
 |_::_,[],h=>h.elim
theorem TabAt.kp(h:TabAt w b l)(k:Kp X w w')(hx:Out X b):TabAt w' b l:=by
 obtain⟨es,ck,h1,h2⟩:=h;exact⟨es,ck,(k.same b (lt_of_heap h1) hx).trans h1,h2⟩
theorem TabAt.lt(h:TabAt w b l):b<w.heap.size:=by
 obtain⟨es,ck,h1,h2⟩:=h;exact lt_of_heap h1
theorem CR.kp(h:CR B H ρ T w c)(k:Kp X w w')(h0:∀b,b<B+7->Out X b)(h1:∀b,1<=(ρ b).1/\(ρ b).1<=4->Out X b):CR B H ρ T w' c:=by
 have hl:=h.lt;have hB:=h.hB;have hs:∀i,i<B+7->w'.heap[i]?=w.heap[i]?:=λi hi=>k.same i omg (h0 i hi);obtain⟨v,cells,o,a1,a2,a3,a4⟩:=h.L;obtain⟨v2,o2,b1,b2,b3⟩:=h.calls;obtain⟨es,ck,d1,d2⟩:=h.procs;obtain⟨es3,ck3,m3,e1,e2,e3⟩:=h.fA;obtain⟨es4,ck4,m4,f1,f2,f3⟩:=h.defs;obtain⟨es5,ck5,g1,g2⟩:=h.start
 exact { gl:=h.gl.kp k (λi hi=>h0 i omg),hB:=hB,sub:=h.sub.kp k (λb x hx=>h0 b (by have:=h.dom b x hx;omega)),dom:=h.dom,lt:=by have:=k.size;omega,
         free := λb hb => h.free b (by have := k.size; omega), low := h.low,
         L := ⟨v, cells, o, (hs _ omg).trans a1, a2.kp k (λb hb => h1 b (by rw [a4 b hb]; simp)), a3, a4⟩,
         calls := ⟨v2, o2, (hs _ omg).trans b1, b2.kp k (λb hb => h1 b (by rw [b3 b hb]; simp)), b3⟩,
         nN := h.nN, tabs := λi b l hb hl => by obtain ⟨x1, x2⟩ := h.tabs i b l hb hl; exact ⟨x1.kp k (h1 b (by rw [x2]; simp)), x2⟩,
         types := (by obtain ⟨te, tc, t1, t2⟩ := h.types; exact ⟨te, tc, (hs _ omg).trans t1, t2⟩), procs := ⟨es, ck, (hs _ omg).trans d1, d2⟩,
         fA := ⟨es3, ck3, m3, (hs _ omg).trans e1, e2, e3.kp k (λb _ _ hb => h1 b omg)⟩,
         defs := ⟨es4, ck4, m4, (hs _ omg).trans f1, f2, f3⟩, start := ⟨es5, ck5, (hs _ omg).trans g1, g2⟩, uj := h.uj }
theorem CR.ext(h:CR B H ρ T w c)(k:Kp [] w w'):CR B H ρ T w' c:=h.kp k (λ_ _=>trivial) (λ_ _=>trivial)
theorem CR.tmp(h:CR B H ρ T w c)(k:Kp [(a,a+1)] w w')(ha:B+7<=a)(hr:ρ a=(0,0)):CR B H ρ T w' c:=
 h.kp k (λb hb=>⟨omg,trivial⟩) (λb hb=>⟨by
  by_cases e:b=a
  .subst e;rw[hr]at hb;simp at hb
  .omega,trivial⟩)
def iV(ρ:kG)(o:Option Nat)(r:Nat×Nat):kG:=λb=>if o=some b then r else ρ b
theorem rE(ho:∀b,o=some b->ρ b=r)(hoo:o'=o\/∃b,o'=some b/\n<=b):Rx ρ (iV ρ o' r) n:=by
 intro b hb;unfold iV;split
 .rename_i e;rcases hoo with h|⟨b',h,hn⟩
  .rw[h]at e;exact(ho b e).symm
  .rw[h]at e;cases e;omega
 .rfl
theorem wS(h:o'=some b):iV ρ o' r b=r:=by
 unfold iV;rw[if_pos h]
theorem CR.newL(h:CR B H ρ T w c)(ho:∀b,o=some b->ρ b=(1,0))
  (k:Kp ((B+3,B+4)::own o) w w') (hc:w'.heap[B+3]?=some (cl [v',.map (some B),.map (some (B+1)),.map (some (B+2))] kH)) (hg':Gw w' dB 7 v' L'.length cells' o') (hi:jC T L' cells')
  (hoo:o'=o\/∃b,o'=some b/\w.heap.size<=b) (hcl:c.calls.length<=L'.length):CR B H (iV ρ o' (1,0)) T w' { c with L:=L' }:=by
 have hl:=h.lt;have hB:=h.hB;have hz:=k.size;have hown:∀b,ρ b≠(1,0)->Out (own o) b:=λb hb=>aF λe=>hb (ho b e);have hlow:∀b,b<B+7->Out (own o) b:=λb hb=>hown b (by rw[h.low b hb];decide);have hs:∀i,i<B+7->i≠B+3->w'.heap[i]?=w.heap[i]?:=λi hi hn=>k.same i omg ⟨omg,hlow i hi⟩;have hr:Rx ρ (iV ρ o' (1,0)) w.heap.size:=rE ho hoo;have hkeep:∀b,B+7<=b->ρ b≠(1,0)->Out ((B+3,B+4)::own o) b:=λb hb hn=>⟨omg,hown b hn⟩;have hge:∀b,ρ b≠(0,0)->B+7<=b:=λb hb=>by
  rcases Nat.lt_or_ge b (B+7)with h2|h2
  .exact absurd (h.low b h2) hb
  .exact h2
 obtain⟨v2,o2,b1,b2,b3⟩:=h.calls;obtain⟨es,ck,d1,d2⟩:=h.procs;obtain⟨es3,ck3,m3,e1,e2,e3⟩:=h.fA;obtain⟨es4,ck4,m4,f1,f2,f3⟩:=h.defs;obtain⟨es5,ck5,g1,g2⟩:=h.start;have ZN:∀{m:List (Int×Value)} {l:List (Int×List Int)},jB w ρ m l->jB w' (iV ρ o' (1,0)) m l:=by
  intro m;induction m with
  |nil=>intro l hv;cases l with
        | nil => trivial
        | cons _ _ => exact hv.elim
  |cons x m ih=>
   intro l hv;cases l with
   |nil=>exact hv.elim
   |cons y l=>
    obtain⟨q1,⟨o3,q2,q3⟩,q4⟩:=hv;refine⟨q1,⟨o3,q2.kp k (λb hb=>hkeep b (hge b (by rw[q3 b hb];simp)) (by rw[q3 b hb];simp)),λb hb=>(hr b (q2.lt b hb)).trans (q3 b hb)⟩,ih q4⟩
 exact { gl:=h.gl.kp k (λi hi=>⟨omg,hlow i omg⟩),hB:=hB,sub:=h.sub.kp k (λb x hx=>by have:=h.dom b x hx;exact⟨omg,hlow b omg⟩),dom:=h.dom,lt:=omg,
         free := λb hb => by
           unfold iV;rw [if_neg (λe => by have := hg'.lt b e; omega)];exact h.free b omg,
         low := λb hb => (hr b omg).trans (h.low b hb),
         L := ⟨v', cells', o', hc, hg', hi, λb hb => wS hb⟩,
         calls := ⟨v2, o2, (hs _ omg omg).trans b1, b2.kp k (λb hb => hkeep b (hge b (by rw [b3 b hb]; simp)) (by rw [b3 b hb]; simp)), λb hb => (hr b (b2.lt b hb)).trans (b3 b hb)⟩,
         nN := h.nN,
         tabs := λi b l hb hl => by
           obtain ⟨x1, x2⟩ := h.tabs i b l hb hl;exact ⟨x1.kp k (hkeep b (hge b (by rw [x2]; simp)) (by rw [x2]; simp)), (hr b x1.lt).trans x2⟩,
         types := (by obtain ⟨te, tc, t1, t2⟩ := h.types; exact ⟨te, tc, (hs _ omg omg).trans t1, t2⟩), procs := ⟨es, ck, (hs _ omg omg).trans d1, d2⟩,
         fA := ⟨es3, ck3, m3, (hs _ omg omg).trans e1, e2, ZN e3⟩,
         defs := ⟨es4, ck4, m4, (hs _ omg omg).trans f1, f2, f3⟩, start := ⟨es5, ck5, (hs _ omg omg).trans g1, g2⟩, uj := hcl }
def insV(i:Ins)(f g:Value):Value:=.agg #[i64 (i.op:Nat),.int .i64 i.n,.int .i64 i.to,.bool i.fixed,i64 (i.of_:Nat),f,g]
theorem SS(h:CR B H ρ T w c)(hf:pR T i.table f)(hg:pR T i.set g)(hN:c.L.length<1000000):
  Calls P 69 #[pt (B+6) 0,insV i f g] w (Ret λv w'=>v=i64 (c.L.length:Nat)/\CG B H ρ T w (c.put i) w'/\∀b,b<B+7->b≠B+3->w'.heap[b]?=w.heap[b]?):=by
 refine Ret.R λR hR=>?_;refine cf [] Tryz.func69 ?_;unfold insV;obtain⟨fb,rfl⟩:=hf.one;obtain⟨gb,rfl⟩:=hg.one;have hl:=h.lt;obtain⟨v,cells,o,a1,a2,a3,a4⟩:=h.L;obtain⟨v2,o2,b1,b2,b3⟩:=h.calls;obtain⟨aa,ca,rfl⟩:=a2.len;have hge:∀b,o=some b->B+7<=b:=λb hb=>by
  rcases Nat.lt_or_ge b (B+7)with h2|h2
  .have:=h.low b h2;rw[a4 b hb]at this;cases this
  .exact h2
 refine gg ?_;refine Ap.w (λw9=>Kp [] w w9/\w9.heap[w.heap.size+1]?=some (cl [i64 (i.op:Nat),.int .i64 i.n,.int .i64 i.to,.bool i.fixed,i64 (i.of_:Nat),.map fb,.map gb] dB)) ⟨kpA,lookA⟩ ?_;rintro w1 ⟨k1,n1⟩;have z1:=lt_of_heap n1;refine Ap.g (a2.kp k1 (λ_ _=>trivial)) n1 rfl rfl ?_ omg;intro v' w2 o' g2 ho' k2;have z2:=k2.size;obtain⟨aa',ca',rfl⟩:=g2.len;have c2:w2.heap[B+3]?=some (cl [.slice aa c.L.length ca,.map (some B),.map (some (B+1)),.map (some (B+2))] kH):=(k2.same _ omg (aF λe=>by have:=hge _ e;omega)).trans ((k1.same _ omg trivial).trans a1);have d2:w2.heap[B+6]?=some (cl [pt (B+3) 0,.map (some (B+4)),.map (some (B+5)),v2] iH):=(k2.same _ omg (aF λe=>by have:=hge _ e;omega)).trans ((k1.same _ omg trivial).trans b1);refine gg ?_;have hlen:(c.L++[i]).length=c.L.length+1:=by simp
 refine(λ(Q:∀w9,Kp [(B+3,B+4)] w2 w9/\w9.heap[B+3]?=some (cl [.slice aa' (c.L.length+1) ca',.map (some B),.map (some (B+1)),.map (some (B+2))] kH)->R (.returned (i64 ((c.L.length+1:Nat) - 1:Int))) w9)=>Q _ ⟨kpA,lookA⟩) ?_;rintro w3 ⟨k3,c3⟩;have e1:((c.L.length+1:Nat):Int) - 1=(c.L.length:Nat):=omg;rw[e1];have kO:Kp ((B+3,B+4)::own o) w w3:=by
  have x1:Kp ((B+3,B+4)::own o) w w2:=k1.trans k2 (λi _ ho=>⟨trivial,ho.2⟩);exact x1.trans k3 (λi _ ho=>⟨ho,ho.1,trivial⟩)
 have hoo:o'=o\/∃b,o'=some b/\w.heap.size<=b:=by
  rcases ho' with r|r
  .exact Or.inl r
  .exact Or.inr ⟨_,r,k1.size⟩
 have g3:Gw w3 dB 7 (.slice aa' (c.L.length+1) ca') (c.L++[i]).length (cells++[i64 (i.op:Nat),.int .i64 i.n,.int .i64 i.to,.bool i.fixed,i64 (i.of_:Nat),.map fb,.map gb]) o':=by
  rw[hlen];refine g2.kp k3 (λb hb=>⟨?_,trivial⟩);rcases hoo with r|⟨b',r,hb'⟩
  .have:=hge b (by rw[<- r];exact hb);omega
  .rw[r]at hb;cases hb;omega
 have hfin:=h.newL a4 kO c3 g3 (jC.snoc hf hg a3) hoo (by rw[hlen];have:=h.uj;omega);refine hR _ _ ⟨rfl,⟨iV ρ o' (1,0),[],?_,rE a4 hoo,?_⟩,?_⟩
 .exact Kp.kc kO (λb hb hx=>⟨omg,aF λe=>by
   have h2:=a4 b e;have h3:=hge b e;rcases hx with hx|⟨_,hx⟩
   .omega
   .rw[h2]at hx;simp at hx⟩)
 .rw[List.append_nil];exact hfin
 .exact λb hb hn=>kO.same b omg ⟨omg,aF λe=>by have:=hge b e;omega⟩
theorem pI(h:CR B H ρ T w c)(hf:pR T i.table f)(hg:pR T i.set g)(hN:c.L.length<1000000):
  Calls P 69 #[pt (B+6) 0,insV i f g] w (Ret λv w'=>v=i64 (c.L.length:Nat)/\CG B H ρ T w (c.put i) w'):=by
 refine(SS h hf hg hN).mono ?_;rintro en w' ⟨v,h1,h2,h3,_⟩;exact⟨v,h1,h2,h3⟩
end Go.W.T
namespace Go.W.T
open Go Go.W Go.M Go.Proofs
theorem CR.ge(h:CR B H ρ T w c):∀b,ρ b≠(0,0)->B+7<=b:=λb hb=>by
 rcases Nat.lt_or_ge b (B+7)with h2|h2
 .exact absurd (h.low b h2) hb
 .exact h2
theorem CR.Zv(h:CR B H ρ T w c)(ho:∀b,o=some b->ρ b=(2,0))
  (k:Kp ((B+6,B+7)::own o) w w') (hc:w'.heap[B+6]?=some (.cells (List.toArray [pt (B+3) 0,.map (some (B+4)),.map (some (B+5)),v']) iH (0,0))) (hg':Gw w' qJ 3 v' l'.length (jZ l') o')
  (hoo:o'=o\/∃b,o'=some b/\w.heap.size<=b) (hcl:l'.length<=c.L.length):CR B H (iV ρ o' (2,0)) T w' { c with calls:=l' }:=by
 have hl:=h.lt;have hB:=h.hB;have hz:=k.size;have hge:=h.ge;have hown:∀b,ρ b≠(2,0)->Out (own o) b:=λb hb=>aF λe=>hb (ho b e);have hlow:∀b,b<B+7->Out (own o) b:=λb hb=>hown b (by rw[h.low b hb];decide);have hs:∀i,i<B+7->i≠B+6->w'.heap[i]?=w.heap[i]?:=λi hi hn=>k.same i omg ⟨omg,hlow i hi⟩;have hr:Rx ρ (iV ρ o' (2,0)) w.heap.size:=rE ho hoo;have hkeep:∀b,B+7<=b->ρ b≠(2,0)->Out ((B+6,B+7)::own o) b:=λb hb hn=>⟨omg,hown b hn⟩;obtain⟨v,cells,o2,a1,a2,a3,a4⟩:=h.L;obtain⟨es,ck,d1,d2⟩:=h.procs;obtain⟨es3,ck3,m3,e1,e2,e3⟩:=h.fA;obtain⟨es4,ck4,m4,f1,f2,f3⟩:=h.defs;obtain⟨es5,ck5,g1,g2⟩:=h.start;have ZN:∀{m:List (Int×Value)} {l:List (Int×List Int)},jB w ρ m l->jB w' (iV ρ o' (2,0)) m l:=by
  intro m;induction m with
  |nil=>intro l hv;cases l with
        | nil => trivial
        | cons _ _ => exact hv.elim
  |cons x m ih=>
   intro l hv;cases l with
   |nil=>exact hv.elim
   |cons y l=>
    obtain⟨q1,⟨o3,q2,q3⟩,q4⟩:=hv;refine⟨q1,⟨o3,q2.kp k (λb hb=>hkeep b (hge b (by rw[q3 b hb];simp)) (by rw[q3 b hb];simp)),λb hb=>(hr b (q2.lt b hb)).trans (q3 b hb)⟩,ih q4⟩
 exact { gl:=h.gl.kp k (λi hi=>⟨omg,hlow i omg⟩),hB:=hB,sub:=h.sub.kp k (λb x hx=>by have:=h.dom b x hx;exact⟨omg,hlow b omg⟩),dom:=h.dom,lt:=omg,
         free := λb hb => by
           unfold iV;rw [if_neg (λe => by have := hg'.lt b e; omega)];exact h.free b omg,
         low := λb hb => (hr b omg).trans (h.low b hb),
         calls := ⟨v', o', hc, hg', λb hb => wS hb⟩,
         L := ⟨v, cells, o2, (hs _ omg omg).trans a1, a2.kp k (λb hb => hkeep b (hge b (by rw [a4 b hb]; simp)) (by rw [a4 b hb]; simp)), a3, λb hb => (hr b (a2.lt b hb)).trans (a4 b hb)⟩,
         nN := h.nN,
         tabs := λi b l hb hl => by
           obtain ⟨x1, x2⟩ := h.tabs i b l hb hl;exact ⟨x1.kp k (hkeep b (hge b (by rw [x2]; simp)) (by rw [x2]; simp)), (hr b x1.lt).trans x2⟩,
         types := (by obtain ⟨te, tc, t1, t2⟩ := h.types; exact ⟨te, tc, (hs _ omg omg).trans t1, t2⟩), procs := ⟨es, ck, (hs _ omg omg).trans d1, d2⟩,
         fA := ⟨es3, ck3, m3, (hs _ omg omg).trans e1, e2, ZN e3⟩,
         defs := ⟨es4, ck4, m4, (hs _ omg omg).trans f1, f2, f3⟩, start := ⟨es5, ck5, (hs _ omg omg).trans g1, g2⟩, uj := hcl }
theorem CG.trans(k:Kc B ρ w w1)(r:Rx ρ ρ' w.heap.size)(h:CG B H ρ' (T++D) w1 c w2):CG B H ρ T w c w2:=by
 obtain⟨ρ2,D2,k2,r2,h2⟩:=h;exact⟨ρ2,D++D2,k.trans k2 r,r.trans r2 k.size,by rw[<- List.append_assoc];exact h2⟩
theorem CG.pre(k:Kc B ρ w w1)(h:CG B H ρ T w1 c w2):CG B H ρ T w c w2:=by
 obtain⟨ρ2,D2,k2,r2,h2⟩:=h;exact⟨ρ2,D2,k.trans k2 (Rx.refl _ _),(Rx.refl ρ _).trans r2 k.size,h2⟩
theorem w_ref(h:CR B H ρ T w c)(hN:c.L.length<1000000):
  Calls P 180 #[pt (B+6) 0,.string (bs s),i64 (a:Nat)] w (Ret λv w'=>CG B H ρ T w (c.ref s a) w'):=by
 refine Ret.R λR hR=>?_;refine cf [] Tryz.func180 ?_;refine gg ?_;refine Cl.ret (pI (i:=ins 6) (f:=.map none) (g:=.map none) h rfl rfl hN) ?_;rintro v w1 ⟨rfl,ρ1,D1,k1,r1,h1⟩;have hl:=h1.lt;obtain⟨v2,o,b1,b2,b3⟩:=h1.calls;obtain⟨aa,ca,rfl⟩:=b2.len;have hge:∀b,o=some b->B+7<=b:=λb hb=>h1.ge b (by rw[b3 b hb];simp);have hcl:=h1.uj;rw[dF]at hcl;have e0:(c.put (ins 6)).calls=c.calls:=rfl;rw[e0]at b2 b1 hcl;refine gg ?_;refine Ap.w (λw9=>Kp [] w1 w9/\w9.heap[w1.heap.size]?=some (cl [i64 (c.L.length:Nat),κs s,i64 (a:Nat)] qJ)) ⟨kpA,lookA⟩ ?_;rintro w2 ⟨k2,n2⟩;have z2:=lt_of_heap n2;refine Ap.g (b2.kp k2 (λ_ _=>trivial)) n2 rfl rfl ?_ omg;intro v' w3 o' g3 ho' k3;have z3:=k3.size;obtain⟨aa',ca',rfl⟩:=g3.len;have d3:w3.heap[B+6]?=some (cl [pt (B+3) 0,.map (some (B+4)),.map (some (B+5)),.slice aa c.calls.length ca] iH):=(k3.same _ omg (aF λe=>by have:=hge _ e;omega)).trans ((k2.same _ omg trivial).trans b1);refine gg ?_;refine(λ(Q:∀w9,Kp [(B+6,B+7)] w3 w9/\w9.heap[B+6]?=some (cl [pt (B+3) 0,.map (some (B+4)),.map (some (B+5)),.slice aa' (c.calls.length+1) ca'] iH)->R (.returned (.tuple #[])) w9)=>Q _ ⟨kpA,lookA⟩) ?_;rintro w4 ⟨k4,c4⟩;have kO:Kp ((B+6,B+7)::own o) w1 w4:=by
  have x1:Kp ((B+6,B+7)::own o) w1 w3:=k2.trans k3 (λi _ ho=>⟨trivial,ho.2⟩);exact x1.trans k4 (λi _ ho=>⟨ho,ho.1,trivial⟩)
 have hoo:o'=o\/∃b,o'=some b/\w1.heap.size<=b:=by
  rcases ho' with r|r
  .exact Or.inl r
  .exact Or.inr ⟨_,r,k2.size⟩
 have hlen:(c.calls++[(c.L.length,s,a)]).length=c.calls.length+1:=by simp
 have g4:Gw w4 qJ 3 (.slice aa' (c.calls.length+1) ca') (c.calls++[(c.L.length,s,a)]).length (jZ (c.calls++[(c.L.length,s,a)])) o':=by
  rw[hlen];have e:jZ (c.calls++[(c.L.length,s,a)])=jZ c.calls++[i64 (c.L.length:Nat),κs s,i64 (a:Nat)]:=by simp[jZ]
  rw[e];refine g3.kp k4 (λb hb=>⟨?_,trivial⟩);rcases hoo with r|⟨b',r,hb'⟩
  .have:=hge b (by rw[<- r];exact hb);omega
  .rw[r]at hb;cases hb;omega
 have hfin:=h1.Zv b3 kO c4 g4 hoo (by have:=h.uj;rw[hlen,dF];omega)
 have kc:Kc B ρ1 w1 w4:=Kp.kc kO (λb hb hx=>⟨omg,aF λe=>by
   have h2:=b3 b e;have h3:=hge b e;rcases hx with hx|⟨_,hx⟩
   .omega
   .rw[h2]at hx;simp at hx⟩)
 exact hR _ _ (CG.trans k1 r1 ⟨iV ρ1 o' (2,0),[],kc,rE b3 hoo,by rw[List.append_nil];exact hfin⟩)
theorem w_to(h:CR B H ρ T w c)(hat:at_<c.L.length):
  Calls P 181 #[pt (B+6) 0,i64 (at_:Nat)] w (Ret λv w'=>CG B H ρ T w (c.lH at_) w'):=by
 refine Ret.R λR hR=>?_;refine cf [] Tryz.func181 ?_;have hl:=h.lt;obtain⟨v,cells,o,a1,a2,a3,a4⟩:=h.L;obtain⟨v2,o2,b1,b2,b3⟩:=h.calls;obtain⟨b,rest,cap,rfl,rfl,hb⟩:=Gw.some a2 omg;have hbge:=h.ge b (by rw[a4 b rfl];simp);have hbl:=lt_of_heap hb;refine gg ?_;obtain⟨⟨y,hy⟩,hset⟩:=jC.lH (x:=(c.L.length:Nat)) a3 hat;have hyl:0+at_*7+2<cells.length:=by
  rcases Nat.lt_or_ge (0+at_*7+2) cells.length with h|h
  .exact h
  .rw[List.getElem?_eq_none h]at hy;cases hy
 refine St.set (w:=w.drew) hb (y:=y) (by rw[List.getElem?_append_left hyl];exact hy) rfl ?_;rw[List.set_append_left _ _ hyl];refine(λ(Q:∀w9,Kp [(b,b+1)] w w9/\w9.heap[b]?=some (cl (cells.set (0+at_*7+2) (i64 (c.L.length:Nat))++rest) dB)->R (.returned (.tuple #[])) w9)=>Q _ ⟨kpA,by exact aC rfl hbl⟩) ?_;rintro w1 ⟨k1,c1⟩;have e1:(c.lH at_).L.length=c.L.length:=nY c at_;have kO:Kp ((B+3,B+4)::own (some b)) w w1:=k1.mono λi _ ho=>ho.2;have g1:Gw w1 dB 7 (.slice (some ⟨b,0,none⟩) c.L.length cap) (c.lH at_).L.length (cells.set (0+at_*7+2) (i64 (c.L.length:Nat))) (some b):=by
  obtain⟨x1,r2,c2,x2,x3,x4⟩:=a2;rw[e1];refine⟨by rw[List.length_set];exact x1,rest,cap,rfl,c1,?_⟩;cases x2;rw[hb]at x3;have:cells++rest=cells++r2:=by
   have:=Option.some.inj x3;simpa using this
  have:=List.append_cancel_left this;rw[List.length_set,this];exact x4
 have hfin:=h.newL a4 kO ((k1.same _ omg ⟨omg,trivial⟩).trans a1) g1 hset (Or.inl rfl) (by rw[e1];exact h.uj)
 have kc:Kc B ρ w w1:=Kp.kc k1 (λi hi hx=>⟨by
  have h2:=a4 b rfl;rcases hx with hx|⟨_,hx⟩
  .omega
  .by_cases e:i=b
   .subst e;rw[h2]at hx;simp at hx
   .omega,trivial⟩)
 exact hR _ _ ⟨iV ρ (some b) (1,0),[],kc,rE a4 (Or.inl rfl),by rw[List.append_nil];exact hfin⟩
theorem UJ:Calls P 179 #[.string (bs s)] w (Ret λv w'=>v=i64 (gI s:Nat)/\w'=w):=by
 refine Ret.R λR hR=>?_;refine cf [] Tryz.func179 ?_;have hR':∀n:Nat,n=gI s->R (.returned (i64 (n:Nat))) w:=λn hn=>hR _ _ ⟨by rw[hn],rfl⟩;unfold gI at hR';refine gg ?_;refine .split (λh1=>?_) (λh1=>?_)
 .exact hR' 0 (by rw[if_pos h1])
 have n1:¬ (s==[105,110,116])=true:=λe=>by rw[h1]at e;cases e
 rw[if_neg n1]at hR';refine gg ?_;refine .split (λh2=>?_) (λh2=>?_)
 .exact hR' 1 (by rw[if_pos h2])
 have n2:¬ (s==[117,110,115,105,103,110,101,100])=true:=λe=>by rw[h2]at e;cases e
 rw[if_neg n2]at hR';refine gg ?_;refine .split (λh3=>?_) (λh3=>?_)
 .exact hR' 3 (by rw[if_pos h3])
 have n3:¬ (s==[98,111,111,108])=true:=λe=>by rw[h3]at e;cases e
 rw[if_neg n3]at hR';exact hR' 2 rfl
theorem lG:∀(t:Ty) {ρ:kG} {T:List Nat} {w:World} {c:CS} {v:Value},CR B H ρ T w c->lq H t v->c.L.length+tsz t<=1000000 ->
  Calls P 110 #[pt (B+6) 0,v] w (Ret λ_ w'=>CG B H ρ T w (lower t c) w')
 |.basic s,ρ,T,w,c,v,h,ht,hN=>by
  refine Ret.R λR hR=>?_;refine cf [8] Tryz.func110 ?_;cases ht;refine gg ?_;refine Cl.ret UJ ?_;rintro v w1 ⟨rfl,rfl⟩;refine gg ?_;refine Cl.ret (pI (i:=ins (gI s)) (f:=.map none) (g:=.map none) h rfl rfl (by simp only[tsz]at hN;omega)) ?_;rintro v w2 ⟨rfl,hg⟩;exact hR _ _ hg
 |.named s a,ρ,T,w,c,v,h,ht,hN=>by
  refine Ret.R λR hR=>?_;refine cf [8] Tryz.func110 ?_;obtain⟨b,rfl,hb⟩:=ht;have hb':=h.sub _ _ _ hb;refine gg ?_;refine Cl.ret (w_ref (h.ext (w':=w.drew) kpA) (by simp only[tsz]at hN;omega)) ?_;rintro v w2 hg;exact hR _ _ (CG.pre (Kp.kc0 kpA) hg)
 |.bytes tx f n,ρ,T,w,c,v,h,ht,hN=>by
  refine Ret.R λR hR=>?_;refine cf [8] Tryz.func110 ?_;cases ht;refine gg ?_;refine Cl.w (λw9=>Kp [] w w9) kpA ?_;intro w1 k1;refine Cl.ret (pI (i:={ ins 5 with n:=n,fixed:=f }) (f:=.map none) (g:=.map none) (h.ext k1) rfl rfl (by simp only[tsz]at hN;omega)) ?_;rintro v w2 ⟨rfl,hg⟩;exact hR _ _ (CG.pre (Kp.kc0 k1) hg)
 |.array t f n,ρ,T,w,c,v,h,ht,hN=>by
  refine Ret.R λR hR=>?_;refine cf [8] Tryz.func110 ?_;obtain⟨u,rfl,hu⟩:=ht;obtain⟨ui,uu,rfl⟩:=hu.form;have hl:=h.lt;simp only[tsz]at hN;refine gg ?_;have hb0:(ag (w.alloc (cl [.nilIface,.bool false,.int .i64 0] 267)) w.heap.size (cl [.iface ui uu,.bool f,.int .i64 n] 267)).heap[w.heap.size]?=some (cl [.iface ui uu,.bool f,i64 n] rW):=by exact lookA
  have kb0:Kp [] w (ag (w.alloc (cl [.nilIface,.bool false,.int .i64 0] 267)) w.heap.size (cl [.iface ui uu,.bool f,.int .i64 n] 267)):=by exact kpA
  generalize ag (w.alloc (cl [.nilIface,.bool false,.int .i64 0] 267)) w.heap.size (cl [.iface ui uu,.bool f,.int .i64 n] 267)=w1 at *;have hz:=lt_of_heap hb0;refine Jn.by (λvals w'=>vals=[i64 ((if f then 8 else 9:Nat))]/\w'=w1) (λJ hJ=>?_) ?_
  .refine gg ?_;cases f with
   |true=>repeat' (first|refine .q ?_|refine .r ?_|refine .g ?_|fail);exact hJ _ _ ⟨rfl,rfl⟩
   |false=>repeat' (first|refine .q ?_|refine .r ?_|refine .g ?_|fail);exact hJ _ _ ⟨rfl,rfl⟩
  rintro _ _ jk ⟨rfl,rfl⟩;refine gg ?_;refine Cl.ret (pI (i:={ ins (if f then 8 else 9)with n:=n }) (f:=.map none) (g:=.map none) (h.ext kb0) rfl rfl omg) ?_;rintro v w2 ⟨rfl,ρ2,D2,k2,r2,h2⟩;have f2:ρ w.heap.size=(0,0):=h.free _ (Nat.le_refl _);have hb2:w2.heap[w.heap.size]?=some (cl [.iface ui uu,.bool f,i64 n] rW):=(k2.oL hz omg f2).trans hb0;refine gg ?_;refine Cl.ret (lG t h2 hu (by rw[dF];omega)) ?_;rintro v w3 ⟨ρ3,D3,k3,r3,h3⟩;refine gg ?_;refine Cl.ret (pI (i:=ins 10) (f:=.map none) (g:=.map none) h3 rfl rfl (by rw[eG,dF];omega)) ?_;rintro v w4 ⟨rfl,ρ4,D4,k4,r4,h4⟩;refine Cl.ret (w_to (at_:=c.L.length) h4 (by rw[dF,eG,dF];omega)) ?_;rintro v w5 hg;exact hR _ _ (CG.pre (Kp.kc0 kb0) (CG.trans k2 r2 (CG.trans k3 r3 (CG.trans k4 r4 hg))))
 |.opt t,ρ,T,w,c,v,h,ht,hN=>by
  refine Ret.R λR hR=>?_;refine cf [8] Tryz.func110 ?_;obtain⟨u,rfl,hu⟩:=ht;obtain⟨ui,uu,rfl⟩:=hu.form;have hl:=h.lt;simp only[tsz]at hN;refine gg ?_;have hb0:(ag (w.alloc (cl [.nilIface] 361)) w.heap.size (cl [.iface ui uu] 361)).heap[w.heap.size]?=some (cl [.iface ui uu] oG):=by exact lookA
  have kb0:Kp [] w (ag (w.alloc (cl [.nilIface] 361)) w.heap.size (cl [.iface ui uu] 361)):=by exact kpA
  generalize ag (w.alloc (cl [.nilIface] 361)) w.heap.size (cl [.iface ui uu] 361)=w1 at *;have hz:=lt_of_heap hb0;refine Cl.ret (pI (i:=ins 12) (f:=.map none) (g:=.map none) (h.ext kb0) rfl rfl omg) ?_;rintro v w2 ⟨rfl,ρ2,D2,k2,r2,h2⟩;have f2:ρ w.heap.size=(0,0):=h.free _ (Nat.le_refl _);have hb2:w2.heap[w.heap.size]?=some (cl [.iface ui uu] oG):=(k2.oL hz omg f2).trans hb0;refine gg ?_;refine Cl.ret (lG t h2 hu (by rw[dF];omega)) ?_;rintro v w3 ⟨ρ3,D3,k3,r3,h3⟩;refine Cl.ret (w_to (at_:=c.L.length) h3 (by rw[eG,dF];omega)) ?_;rintro v w5 hg;exact hR _ _ (CG.pre (Kp.kc0 kb0) (CG.trans k2 r2 (CG.trans k3 r3 hg)))
 |.void,ρ,T,w,c,v,h,ht,hN=>by
  refine Ret.R λR hR=>?_;refine cf [8] Tryz.func110 ?_;cases ht;refine gg ?_;refine Cl.w (λw9=>Kp [] w w9) kpA ?_;intro w1 k1;refine Cl.ret (pI (i:=ins 15) (f:=.map none) (g:=.map none) (h.ext k1) rfl rfl (by simp only[tsz]at hN;omega)) ?_;rintro v w2 ⟨rfl,hg⟩;exact hR _ _ (CG.pre (Kp.kc0 k1) hg)
end Go.W.T
namespace Go.W.T
open Go Go.W Go.M Go.Proofs
theorem jB.ro(h:∀b,ρ b≠(0,0)->ρ' b=ρ b):∀{m:List (Int×Value)} {l:List (Int×List Int)},jB w ρ m l->jB w ρ' m l
 |[],[],_=>trivial
 |x::m,y::l,hv=>by
  obtain⟨h1,⟨o,h2,h3⟩,h4⟩:=hv;exact⟨h1,⟨o,h2,λb hb=>(h b (by rw[h3 b hb];simp)).trans (h3 b hb)⟩,jB.ro h h4⟩
 |[],_::_,hv=>hv.elim
 |_::_,[],hv=>hv.elim
theorem CR.role(h:CR B H ρ T w c)(ha:B+7<=a)(hl:a<w.heap.size)(hr:ρ a=(0,0)):CR B H (iV ρ (some a) r) T w c:=by
 have hk:∀b,ρ b≠(0,0)->iV ρ (some a) r b=ρ b:=λb hb=>by
  unfold iV;rw[if_neg];intro e;cases e;exact hb hr
 obtain⟨v,cells,o,a1,a2,a3,a4⟩:=h.L;obtain⟨v2,o2,b1,b2,b3⟩:=h.calls;obtain⟨es3,ck3,m3,e1,e2,e3⟩:=h.fA
 exact { h with
  free:=λb hb=>by
   unfold iV;rw[if_neg (by intro e;cases e;omega)];exact h.free b hb
  low:=λb hb=>by
   unfold iV;rw[if_neg (by intro e;cases e;omega)];exact h.low b hb
  L:=⟨v,cells,o,a1,a2,a3,λb hb=>(hk b (by rw[a4 b hb];simp)).trans (a4 b hb)⟩
  calls:=⟨v2,o2,b1,b2,λb hb=>(hk b (by rw[b3 b hb];simp)).trans (b3 b hb)⟩
  tabs:=λi b l hb hl=>by
   obtain⟨x1,x2⟩:=h.tabs i b l hb hl;exact⟨x1,(hk b (by rw[x2];simp)).trans x2⟩
  fA:=⟨es3,ck3,m3,e1,e2,jB.ro hk e3⟩ }
theorem CW(h:n<=a):Rx ρ (iV ρ (some a) r) n:=λb hb=>by
 unfold iV;rw[if_neg (by intro e;cases e;omega)]
theorem CR.kE(h:CR B H ρ T w c)(ha:B+7<=a)(hr:ρ a=(0,0))(ht:TabAt w a l):CR B H (iV ρ (some a) (3,T.length)) (T++[a]) w (c.kE l):=by
 have h1:=h.role (r:=(3,T.length)) ha ht.lt hr;obtain⟨v,cells,o,a1,a2,a3,a4⟩:=h1.L
 exact { h1 with
  L:=⟨v,cells,o,a1,a2,a3.app,a4⟩
  nN:=by show (T++[a]).length=(c.tabs++[l]).length;rw[List.length_append,List.length_append,h1.nN];rfl
  tabs:=λi b l' hb hl=>by
   have hl':(c.tabs++[l])[i]?=some l':=hl;rcases Nat.lt_or_ge i T.length with hi|hi
   .rw[List.getElem?_append_left hi]at hb;rw[List.getElem?_append_left (by rw[<- h1.nN];exact hi)]at hl';exact h1.tabs i b l' hb hl'
   .have hi2:i=T.length:=by
     rw[List.getElem?_append_right hi]at hb;rcases Nat.lt_or_ge (i - T.length) 1 with h2|h2
     .omega
     .rw[List.getElem?_eq_none (by simpa using h2)]at hb;cases hb
    subst hi2;rw[List.getElem?_append_right (Nat.le_refl _),Nat.sub_self]at hb;rw[List.getElem?_append_right (by rw[h1.nN];exact Nat.le_refl _),h1.nN,Nat.sub_self]at hl';cases hb;cases hl'
    exact⟨ht,wS rfl⟩ }
theorem CR.Bj(h:CR B H ρ T w c)(hT:T[i]?=some a)(hr:ρ a=(3,i))(k:Kp [(a,a+1)] w w')(ht:TabAt w' a l'):
  CR B H ρ T w' { c with tabs:=c.tabs.modify i λ_=>l' }:=by
 have hge:=h.ge a (by rw[hr];simp);have hl:=h.lt;have hB:=h.hB;have hs:∀j,j<B+7->w'.heap[j]?=w.heap[j]?:=λj hj=>k.same j omg ⟨omg,trivial⟩
 have hn:∀b,ρ b≠(3,i)->Out [(a,a+1)] b:=λb hb=>⟨by
  by_cases e:b=a
  .subst e;exact absurd hr hb
  .omega,trivial⟩
 obtain⟨v,cells,o,a1,a2,a3,a4⟩:=h.L;obtain⟨v2,o2,b1,b2,b3⟩:=h.calls;obtain⟨es,ck,d1,d2⟩:=h.procs;obtain⟨es3,ck3,m3,e1,e2,e3⟩:=h.fA;obtain⟨es4,ck4,m4,f1,f2,f3⟩:=h.defs;obtain⟨es5,ck5,g1,g2⟩:=h.start
 exact { gl:=h.gl.kp k (λj hj=>⟨omg,trivial⟩),hB:=hB,sub:=h.sub.kp k (λb x hx=>by have:=h.dom b x hx;exact⟨omg,trivial⟩),dom:=h.dom,lt:=by have:=k.size;omega,
         free := λb hb => h.free b (by have := k.size; omega), low := h.low,
         L := ⟨v, cells, o, (hs _ omg).trans a1, a2.kp k (λb hb => hn b (by rw [a4 b hb]; simp)), a3, a4⟩,
         calls := ⟨v2, o2, (hs _ omg).trans b1, b2.kp k (λb hb => hn b (by rw [b3 b hb]; simp)), b3⟩,
         nN := by show T.length = (c.tabs.modify i λ_ => l').length; rw [List.length_modify]; exact h.nN,
         tabs := λj b l hb hl => by
           have hl2 : (c.tabs.modify i λ_ => l')[j]? = some l := hl;rw [List.getElem?_modify] at hl2
           by_cases e : i = j
           · subst e;rw [hT] at hb;cases hb;cases hx : c.tabs[i]? with
             | none => rw [hx] at hl2; cases hl2
             | some y => rw [hx] at hl2; simp at hl2; subst hl2; exact ⟨ht, hr⟩
           · have : c.tabs[j]? = some l := by
               cases hx : c.tabs[j]? with
               | none => rw [hx] at hl2; cases hl2
               | some y => rw [hx] at hl2; simp [e] at hl2; rw [hl2]
             obtain ⟨x1, x2⟩ := h.tabs j b l hb this;exact ⟨x1.kp k (hn b (by rw [x2]; intro e2; cases e2; exact e rfl)), x2⟩
         types := (by obtain ⟨te, tc, t1, t2⟩ := h.types; exact ⟨te, tc, (hs _ omg).trans t1, t2⟩), procs := ⟨es, ck, (hs _ omg).trans d1, d2⟩,
         fA := ⟨es3, ck3, m3, (hs _ omg).trans e1, e2, e3.kp k (λb _ _ hb => hn b (λe => by rw [e] at hb; simp at hb))⟩,
         defs := ⟨es4, ck4, m4, (hs _ omg).trans f1, f2, f3⟩, start := ⟨es5, ck5, (hs _ omg).trans g1, g2⟩, uj := h.uj }
theorem run_makeMap(w:World)(n:Nat):(Instr.makeMap 180 (some (i64 (n:Nat)))).run P w=.ok (.map (some w.heap.size)) (w.alloc (.map #[] 0)):=by kernel_rfl
theorem QB(m:Tab)(a:Int)(v:Nat):qW (m.map λx=>(x.1,i64 (x.2:Nat))) a (i64 (v:Nat))=(bK m a v).map λx=>(x.1,i64 (x.2:Nat)):=yY (f:=λk:Nat=>i64 (k:Nat)) m a v
theorem KH(nums:List Int)(hb:w.heap[b]?=some (cl (nums.map i64++rest) jI))(hl:nums.length<1000000):
  Calls P 111 #[.slice (some ⟨b,0,none⟩) nums.length cap] w (Ret λv w'=>v=.map (some w.heap.size)/\Kp [] w w'/\TabAt w' w.heap.size (members nums)):=by
 refine Ret.R λR hR=>?_;refine cf [11] Tryz.func111 ?_;have hbl:=lt_of_heap hb;refine gg ?_;refine fF.by (run_makeMap w nums.length) ?_;refine gg ?_;refine Lp.nat (n:=nums.length) (λn vals w'=>∃(i:Nat) (m:Tab),vals=[i64 (i:Nat)]/\i+n=nums.length/\Kp [] w w'/\TabAt w' w.heap.size m/\members nums=kJ i m (nums.drop i)) ?_ ?_
 .exact⟨0,[],rfl,omg,kpA,⟨#[],0,bH ..,MK.empty⟩,rfl⟩
 rintro n _ w1 jk C ⟨i,m,rfl,hi,hk,⟨es,ck,ht1,ht2⟩,hm⟩ hC;have hb1:w1.heap[b]?=some (cl (nums.map i64++rest) jI):=(hk.same b hbl trivial).trans hb;refine gg ?_;refine .split (λhc=>?_) (λhc=>?_)
 .have hlt:i<nums.length:=by have:=of_decide_eq_true hc;omega
  have hx:(nums.map i64++rest)[0+i*1]?=some (i64 nums[i]):=by rw[Nat.zero_add,Nat.mul_one,List.getElem?_append_left (by simpa using hlt),List.getElem?_map,List.getElem?_eq_getElem hlt];rfl
  refine .s ?_;refine Ld.s ?_ hb1 hx;refine Mu.int ht2 ht1 λes' ck' hm'=>?_;rw[QB]at hm';refine gg ?_;refine hC (n - 1) _ _ omg ⟨i+1,bK m nums[i] i,rfl,omg,kpA,⟨es',ck',aC rfl (lt_of_heap ht1),hm'⟩,?_⟩;rw[hm,List.drop_eq_getElem_cons hlt,kJ]
 .have hge:i=nums.length:=by have:=of_decide_eq_false hc;omega
  subst hge;rw[List.drop_length,kJ]at hm;refine hR _ _ ⟨rfl,hk,es,ck,ht1,?_⟩;rw[hm];exact ht2
def uf(ρ:kG)(eb:Nat)(w:World)(l:List Nat):Prop:=∃v o,w.heap[eb]?=some (cl [v] zK)/\Gw w PG 1 v l.length (l.map λ(x:Nat)=>i64 (x:Nat)) o/\ρ eb=(5,0)/\∀b,o=some b->ρ b=(5,1)
theorem Yg{B cb eb:Nat}{H:Hp}{ρ:kG}{T:List Nat}{w:World}{c:CS}{d:Decl}{v:Value}{ends:List Nat}(h:CR B H ρ T w c)(hc:w.heap[cb]?=some (cl [pt (B+6) 0] dA))(hcr:ρ cb=(0,0))(hcB:B+7<=cb)
  (he:uf ρ eb w ends) (ht:lq H d.ty v) (hN:c.L.length+tsz d.ty+1<=1000000) (hE:ends.length<1000000):
  Calls P 182 #[.agg #[.string (bs d.name),v],pt cb 0,pt eb 0] w (Ret λ_ w'=>∃ρ' D,Kd 6 B ρ w w'/\Rx ρ ρ' w.heap.size/\CR B H ρ' (T++D) w' (GK (c,ends) d).1/\uf ρ' eb w' (GK (c,ends) d).2):=by
 refine Ret.R λR hR=>?_;refine cf [] Tryz.func182 ?_;obtain⟨ti,tu,rfl⟩:=ht.form;obtain⟨ve,oe,e1,e2,e3,e4⟩:=he;have hl:=h.lt;have hcl:=lt_of_heap hc;have hel:=lt_of_heap e1;have heB:=h.ge eb (by rw[e3];simp);obtain⟨ae,ce,rfl⟩:=e2.len;refine gg ?_;refine Cl.w (λw9=>Kp [] w w9) kpA ?_;intro w1 k1;refine Cl.ret (lG d.ty (h.ext k1) ht omg) ?_;rintro v2 w2 ⟨ρ2,D2,k2,r2,h2⟩;have z1:=k1.size;have z2:=k2.size;have same2:∀b,b<w.heap.size->B+7<=b->((ρ b).1=0\/5<=(ρ b).1)->w2.heap[b]?=w.heap[b]?:=λb hb hB hr=>(k2.same b omg (Or.inr ⟨hB,hr⟩)).trans (k1.same b hb trivial);have c2:w2.heap[cb]?=some (cl [pt (B+6) 0] dA):=(same2 cb hcl hcB (by rw[hcr];simp)).trans hc;have x2:w2.heap[eb]?=some (cl [.slice ae ends.length ce] zK):=(same2 eb hel heB (by rw[e3];simp)).trans e1;refine gg ?_;refine Cl.ret (pI (i:=ins 14) (f:=.map none) (g:=.map none) (h2.ext (w':=w2.drew) kpA) rfl rfl (by rw[eG];omega)) ?_;rintro v3 w3 ⟨rfl,ρ3,D3,k3,r3,h3⟩;have z3:=k3.size;rw[size_drew]at z3;have rr:Rx ρ ρ3 w.heap.size:=λb hb=>(r3 b (by rw[size_drew];omega)).trans (r2 b omg);have same3:∀b,b<w.heap.size->B+7<=b->((ρ b).1=0\/5<=(ρ b).1)->w3.heap[b]?=w.heap[b]?:=λb hb hB hr=>(k3.same b (by rw[size_drew];omega) (Or.inr ⟨hB,by rw[r2 b omg];exact hr⟩)).trans (same2 b hb hB hr);have x3:w3.heap[eb]?=some (cl [.slice ae ends.length ce] zK):=(same3 eb hel heB (by rw[e3];simp)).trans e1;have g3:Gw w3 PG 1 (.slice ae ends.length ce) ends.length (ends.map λ(x:Nat)=>i64 (x:Nat)) oe:=by
  obtain⟨q1,q2⟩:=e2;refine⟨q1,?_⟩;cases oe with
  |none=>exact q2
  |some b=>obtain⟨r,cp,q3,q4,q5⟩:=q2;exact⟨r,cp,q3,(same3 b (lt_of_heap q4) (h.ge b (by rw[e4 b rfl];simp)) (by rw[e4 b rfl];simp)).trans q4,q5⟩
 refine gg ?_;refine Ap.w (λw9=>Kp [] w3 w9/\w9.heap[w3.heap.size]?=some (cl [i64 ((lower d.ty c).L.length:Nat)] PG)) ⟨kpA,lookA⟩ ?_;rintro w4 ⟨k4,n4⟩;have z4:=lt_of_heap n4;refine Ap.g (g3.kp k4 (λ_ _=>trivial)) n4 rfl rfl ?_ omg;intro v' w5 o' g5 ho' k5;have z5:=k5.size;have he3:ρ3 eb=(5,0):=(rr eb hel).trans e3;have he4:∀b,oe=some b->ρ3 b=(5,1):=λb hb=>(rr b (e2.lt b hb)).trans (e4 b hb);have hne:oe≠some eb:=λe=>by have:=e4 eb e;rw[e3]at this;cases this
 have x5:w5.heap[eb]?=some (cl [.slice ae ends.length ce] zK):=(k5.same _ omg (aF hne)).trans ((k4.same _ omg trivial).trans x3);obtain⟨ae',ce',rfl⟩:=g5.len;refine gg ?_;refine(λ(Q:∀w9,Kp [(eb,eb+1)] w5 w9/\w9.heap[eb]?=some (cl [.slice ae' (ends.length+1) ce'] zK)->R (.returned (.tuple #[])) w9)=>Q _ ⟨kpA,lookA⟩) ?_;rintro w6 ⟨k6,x6⟩;have z6:=k6.size;have oge:∀b,oe=some b->B+7<=b:=λb hb=>h.ge b (by rw[e4 b hb];simp);have hoo:o'=oe\/∃b,o'=some b/\w4.heap.size<=b:=ho'.imp id λr=>⟨_,r,Nat.le_refl _⟩;have k36:Kp ((eb,eb+1)::own oe) w3 w6:=by
  have y1:Kp ((eb,eb+1)::own oe) w3 w5:=k4.trans k5 (λi _ ho=>⟨trivial,ho.2⟩);exact y1.trans k6 (λi _ ho=>⟨ho,ho.1,trivial⟩)
 have h6:CR B H ρ3 (T++D2++D3) w6 ((lower d.ty c).put (ins 14)):=h3.kp k36 (λb hb=>⟨omg,aF λe=>by have:=oge b e;omega⟩) (λb hb=>⟨by
   by_cases e:b=eb
   .subst e;rw[he3]at hb;simp at hb
   .omega,aF λe=>by rw[he4 b e]at hb;simp at hb⟩)
 have hne':o'≠some eb:=λe=>by
  rcases hoo with r|⟨b,r,hb⟩
  .rw[r]at e;exact hne e
  .rw[r]at e;cases e;omega
 have g6:=g5.kp k6 (λb hb=>⟨by
  by_cases e:b=eb
  .subst e;exact absurd hb hne'
  .omega,trivial⟩)
 have hrx:Rx ρ3 (iV ρ3 o' (5,1)) w4.heap.size:=rE he4 hoo;have hCR:CR B H (iV ρ3 o' (5,1)) (T++D2++D3) w6 ((lower d.ty c).put (ins 14)):=by
  rcases hoo with r|⟨b,r,hb⟩
  .have:iV ρ3 o' (5,1)=ρ3:=by
    funext b;unfold iV;split
    .rename_i e;rw[r]at e;exact(he4 b e).symm
    .rfl
   rw[this];exact h6
  .rw[r];exact h6.role omg (g6.lt b r) (h3.free b omg)
 refine hR _ _ ⟨iV ρ3 o' (5,1),D2++D3,?_,λb hb=>(hrx b omg).trans (rr b hb),by rw[<- List.append_assoc];exact hCR,?_⟩
 .have q1:Kd 6 B ρ w w3:=(Kp.kc0 k1:Kd 6 B ρ w w1).trans ((k2.up omg:Kd 6 B ρ w1 w2).trans ((Kp.kc0 kpA:Kd 6 B ρ2 w2 w2.drew).trans (k3.up omg:Kd 6 B ρ2 w2.drew w3) (Rx.refl _ _)) r2) (Rx.refl _ _)
  exact q1.trans (Kp.kc k36 (λi hi hx=>⟨by
   by_cases e:i=eb
   .subst e;rcases hx with hx|⟨_,hx⟩
    .omega
    .rw[he3]at hx;simp at hx
   .omega,aF λe=>by
    rcases hx with hx|⟨_,hx⟩
    .have:=oge i e;omega
    .rw[he4 i e]at hx;simp at hx⟩)) rr
 .have hlen:(ends++[(lower d.ty c).L.length]).length=ends.length+1:=by simp
  refine⟨_,o',x6,?_,(hrx eb omg).trans he3,λb hb=>wS hb⟩;show Gw w6 PG 1 _ (ends++[(lower d.ty c).L.length]).length ((ends++[(lower d.ty c).L.length]).map λ(x:Nat)=>i64 (x:Nat)) o';rw[hlen,List.map_append];exact g6
end Go.W.T
namespace Go.W.T
open Go Go.W Go.M Go.Proofs
theorem wC.lookup(a:By):∀{m:List (By×Value)} {l:List (By×Def)},wC H m l ->
  (m.lookup a=none/\l.lookup a=none)\/∃v d,m.lookup a=some v/\l.lookup a=some d/\jH H d v
 |[],[],_=>Or.inl ⟨rfl,rfl⟩
 |x::m,y::l,h=>by
  obtain⟨h1,h2,h3⟩:=h;rw[List.lookup_cons,List.lookup_cons,h1];cases a==y.1 with
  |true=>exact Or.inr ⟨_,_,rfl,rfl,h2⟩
  |false=>exact wC.lookup a h3
 |[],_::_,h=>h.elim
 |_::_,[],h=>h.elim
theorem jG{α:Type}{l r:List α}{o n:Nat}(h:o+n<=l.length):((l++r).drop o).take n=(l.drop o).take n:=by
 rw[List.drop_append_of_le_length omg,List.take_append_of_le_length (by rw[List.length_drop];omega)]
theorem lX.at:∀{ar:List Arm} {l:List Value} (k:Nat) (hk:k<ar.length),lX H ar l ->
  ∃ns t,0+k*3+3<=l.length/\(l.drop (0+k*3)).take 3=[ns,.string (bs ar[k].decl.name),t]/\SlF H jI ar[k].nums.length (ar[k].nums.map i64) ns/\lq H ar[k].decl.ty t
 |a::ar,ns::s::t::r,0,_,h=>⟨ns,t,smp,by rw[h.2.1];rfl,h.1,h.2.2.1⟩
 |a::ar,ns::s::t::r,k+1,hk,h=>by
  obtain⟨ns',t',h1,h2,h3,h4⟩:=lX.at k (by simpa using hk) h.2.2.2;refine⟨ns',t',by simp only[List.length_cons];omega,?_,h3,h4⟩;have e:0+(k+1)*3=(0+k*3)+3:=omg;rw[e];exact h2
 |[],_ ,_,hk,_=>absurd hk smp
 |_::_,[],_,_,h=>h.elim
 |_::_,[_],_,_,h=>h.elim
 |_::_,[_,_],_,_,h=>h.elim
theorem JR(ti:Nat):∀(l:List Arm) (a:Arm) (x:CS×List Nat),lU ti x (l++[a])=GK (lT ti (lU ti x l).1 a.nums,(lU ti x l).2) a.decl
 |[],_,_=>rfl
 |b::r,a,x=>by rw[List.cons_append,lU,JR ti r];rfl
theorem uf.kp(h:uf ρ eb w l)(k:Kp X w w')(hx:∀b,5<=(ρ b).1->Out X b):uf ρ eb w' l:=by
 obtain⟨v,o,h1,h2,h3,h4⟩:=h;exact⟨v,o,(k.same _ (lt_of_heap h1) (hx _ (by rw[h3];simp))).trans h1,h2.kp k (λb hb=>hx b (by rw[h4 b hb];simp)),h3,h4⟩
theorem uf.kd(h:uf ρ eb w l)(k:Kd m B ρ w w')(hm:m<=5)(r:Rx ρ ρ' w.heap.size)(hge:∀b,ρ b≠(0,0)->B+7<=b):uf ρ' eb w' l:=by
 obtain⟨v,o,h1,h2,h3,h4⟩:=h;have hs:∀b,b<w.heap.size->(ρ b).1=5->w'.heap[b]?=w.heap[b]?:=λb hb h5=>k.same b hb (Or.inr ⟨hge b (λe=>by rw[e]at h5;simp at h5),Or.inr omg⟩);refine⟨v,o,(hs _ (lt_of_heap h1) (by rw[h3])).trans h1,?_,(r _ (lt_of_heap h1)).trans h3,λb hb=>(r b (h2.lt b hb)).trans (h4 b hb)⟩;obtain⟨q1,q2⟩:=h2;refine⟨q1,?_⟩;cases o with
 |none=>exact q2
 |some b=>obtain⟨rr,cp,q3,q4,q5⟩:=q2;exact⟨rr,cp,q3,(hs b (lt_of_heap q4) (by rw[h4 b rfl])).trans q4,q5⟩
def CG6(B:Nat)(H:Hp)(ρ:kG)(T:List Nat)(w:World)(c':CS)(w':World):Prop:=∃ρ' D,Kd 6 B ρ w w'/\Rx ρ ρ' w.heap.size/\CR B H ρ' (T++D) w' c'
theorem CG.up(h:CG B H ρ T w c w'):CG6 B H ρ T w c w':=by
 obtain⟨ρ',D,h1,h2,h3⟩:=h;exact⟨ρ',D,h1.up omg,h2,h3⟩
theorem CG6.trans(k:Kd 6 B ρ w w1)(r:Rx ρ ρ' w.heap.size)(h:CG6 B H ρ' (T++D) w1 c w2):CG6 B H ρ T w c w2:=by
 obtain⟨ρ2,D2,k2,r2,h2⟩:=h;exact⟨ρ2,D++D2,k.trans k2 r,r.trans r2 k.size,by rw[<- List.append_assoc];exact h2⟩
theorem Kd.kp(h:Kd m B ρ a b)(k:Kp [] b c):Kd m B ρ a c:=h.trans (Kp.kc0 k) (Rx.refl _ _)
set_option maxHeartbeats 1000000 in
theorem Yb{B ub:Nat}{H:Hp}{ρ:kG}{T:List Nat}{w:World}{c:CS}{nm unm:By}{uat:Nat}{of:Ty}{ar:List Arm}{els:Option Decl}{ov av ev:Value}{l:List Value}
  (h:CR B H ρ T w c) (hu:H ub=some ([.string (bs unm),i64 (uat:Nat),ov,.string (bs nm),av,ev],aX)) (ho:lq H of ov) (ha:lX H ar l) (hs:SlF H dY ar.length l av) (he:VX H els ev)
  (hok:nH c of=true) (hsm:∀a∈ar,a.nums.length<1000000) (hN:(rU of ar els c).L.length<=1000000) (har:ar.length<1000000):
  Calls P 112 #[pt (B+6) 0,pt ub 0] w (Ret λ_ w'=>CG6 B H ρ T w (rU of ar els c) w'):=by
 refine Ret.R λR hR=>?_;refine cf [55,62,101] Tryz.func112 ?_;have hl:=h.lt;rw[Bf]at hN;obtain⟨ab,arest,acap,rfl,hab⟩:=hs;have hu0:=h.sub _ _ _ hu;have hudom:=h.dom _ _ hu;have habdom:=h.dom _ _ hab;obtain⟨oi,ou,rfl⟩:=ho.form;refine gg ?_
 have g0:∀wX:World,wX=ag (((w.alloc (cl [pt (B+6) 0] 158)).alloc (.map #[] 0)).alloc (cl [.int .i64 0,.int .i64 0,.int .i64 0,.bool false,.int .i64 0,.map none,.map none] 182)) (w.heap.size+1+1) (cl [.int .i64 13,.int .i64 0,.int .i64 (-1),.bool false,.int .i64 4,.map (some (w.heap.size+1)),.map none] 182) ->
   Kp [] w wX/\wX.heap[w.heap.size]?=some (cl [pt (B+6) 0] dA)/\wX.heap[w.heap.size+1]?=some (.map #[] 0)/\wX.heap[w.heap.size+2]?=some (cl [i64 13,i64 0,.int .i64 (-1),.bool false,i64 4,.map (some (w.heap.size+1)),.map none] dB)/\w.heap.size+3<=wX.heap.size:=by
  rintro _ rfl;exact⟨kpA,lookA,lookA,lookA,by simp only[ah,size_alloc];omega⟩
 generalize hwX:ag (((w.alloc (cl [pt (B+6) 0] 158)).alloc (.map #[] 0)).alloc (cl [.int .i64 0,.int .i64 0,.int .i64 0,.bool false,.int .i64 0,.map none,.map none] 182)) (w.heap.size+1+1) (cl [.int .i64 13,.int .i64 0,.int .i64 (-1),.bool false,.int .i64 4,.map (some (w.heap.size+1)),.map none] 182)=w1;obtain⟨k1,cb1,tb1,ib1,z1⟩:=g0 w1 hwX.symm;clear g0 hwX;have h1:=(h.ext k1).kE (a:=w.heap.size+1) (l:=[]) omg (h.free _ omg) ⟨#[],0,tb1,MK.empty⟩;have fr:∀b,w.heap.size<=b->b≠w.heap.size+1->iV ρ (some (w.heap.size+1)) (3,T.length) b=(0,0):=λb hb hn=>by
  unfold iV;rw[if_neg (by intro e;cases e;exact hn rfl)];exact h.free b hb
 have rx1:Rx ρ (iV ρ (some (w.heap.size+1)) (3,T.length)) w.heap.size:=CW omg;have rtb:iV ρ (some (w.heap.size+1)) (3,T.length) (w.heap.size+1)=(3,T.length):=wS rfl;generalize iV ρ (some (w.heap.size+1)) (3,T.length)=ρ1 at *;have hu1:=h1.sub _ _ _ hu;have kw1:Kd 5 B ρ w w1:=Kp.kc0 k1
 refine Jn.by (λvals w'=>∃ρ2 D2 sv,Kd 5 B ρ w w'/\Rx ρ ρ2 w.heap.size/\ρ2 w.heap.size=(0,0)/\ρ2 (w.heap.size+1)=(3,T.length)/\ρ2 (w.heap.size+2)=(0,0)/\CR B H ρ2 (T++[w.heap.size+1]++D2) w' (dU of c).2 /\
   w'.heap[w.heap.size]?=some (cl [pt (B+6) 0] dA) /\
   w'.heap[w.heap.size+2]?=some (cl [i64 13,i64 0,.int .i64 (-1),.bool false,i64 ((dU of c).1.of_:Nat),.map (some (w.heap.size+1)),sv] dB)/\pR (T++[w.heap.size+1]++D2) (dU of c).1.set sv /\
   (dU of c).1={ ins 13 with of_:=(dU of c).1.of_,to := -1,table:=some c.tabs.length,set:=(dU of c).1.set }/\w.heap.size+3<=w'.heap.size) (λJ hJ=>?_) ?_
 .cases of with
  |basic s=>
   cases ho;refine gg ?_;refine Cl.ret UJ ?_;rintro v w2 ⟨rfl,rfl⟩;refine gg ?_;refine(λ(Q:∀w9,Kp [(w.heap.size+2,w.heap.size+3)] w2 w9/\w9.heap[w.heap.size+2]?=some (cl [i64 13,i64 0,.int .i64 (-1),.bool false,i64 (gI s:Nat),.map (some (w.heap.size+1)),.map none] dB)->J [] w9)=>Q _ ⟨kpA,lookA⟩) ?_;rintro w3 ⟨k3,ib3⟩;refine hJ _ _ ⟨ρ1,[],.map none,Kp.kc (X:=[]) (k1.trans k3 λi hi _=>⟨trivial,omg,trivial⟩) (λ_ _ _=>trivial),rx1,fr _ (Nat.le_refl _) omg,rtb,fr _ omg omg,?_,(k3.same _ omg ⟨omg,trivial⟩).trans cb1,ib3,rfl,rfl,by have:=k3.size;omega⟩;rw[List.append_nil];exact h1.tmp k3 omg (fr _ omg omg)
  |named s a=>
   obtain⟨nb,hnb,hnH⟩:=ho;cases hnb;have hn1:=h1.sub _ _ _ hnH;obtain⟨v2,o2,b1,b2,b3⟩:=h1.calls;obtain⟨es4,ck4,m4,f1,f2,f3⟩:=h1.defs;refine gg ?_;refine Lk.str0 f2 lookA ?_;have hdl:(c.kE []).defs=c.defs:=rfl;rw[hdl]at f3;rcases f3.lookup s with⟨e1,e2⟩|⟨dv,d,e1,e2,e3⟩
   .unfold nH at hok;simp only[e2]at hok;cases hok
   obtain⟨dn,da,dk⟩:=d;cases dk with
   |enum ns is=>
    obtain⟨db,du,dx,rfl,hd1,hd2,hd3⟩:=e3;obtain⟨isb,isr,isc,rfl,hisb⟩:=hd3;have hd0:=h1.sub _ _ _ hd1;have his0:=h1.sub _ _ _ hisb;rw[e1];refine gg ?_;have kd1:Kp [] w1 w1.drew:=by exact kpA
    have hisl:is.length<1000000:=by unfold nH at hok;simp only[e2]at hok;exact of_decide_eq_true hok
    refine Cl.ret (KH is (w:=w1.drew) his0 hisl) ?_;rintro v w2 ⟨hv,k2,tm2⟩;rw[size_drew]at tm2 hv;subst hv;have kd2:Kp [] w1 w2:=kd1.trans k2 (λ_ _ _=>⟨trivial,trivial⟩);have zd2:=tm2.lt;have ib2:w2.heap[w.heap.size+2]?=_:=(kd2.same _ omg trivial).trans ib1;refine gg ?_;refine(λ(Q:∀w9,Kp [(w.heap.size+2,w.heap.size+3)] w2 w9/\w9.heap[w.heap.size+2]?=some (cl [i64 13,i64 0,.int .i64 (-1),.bool false,i64 4,.map (some (w.heap.size+1)),.map (some w1.heap.size)] dB)->J [] w9)=>Q _ ⟨kpA,lookA⟩) ?_;rintro w3 ⟨k3,ib3⟩;have hue:dU (.named s a) c=({ ins 13 with of_:=4,to := -1,table:=some c.tabs.length,set:=some (c.kE []).tabs.length },(c.kE []).kE (members is)):=by
     unfold dU;have:(c.kE []).defs.lookup s=some ⟨dn,da,.enum ns is⟩:=e2;simp only[this]
    have f1':ρ1 w1.heap.size=(0,0):=h1.free _ (Nat.le_refl _);have h3:=(h1.ext kd2).kE (a:=w1.heap.size) omg f1' tm2;have hr3:∀b,b<w1.heap.size->iV ρ1 (some w1.heap.size) (3,(T++[w.heap.size+1]).length) b=ρ1 b:=λb hb=>CW (Nat.le_refl _) b hb;have hi3:=hr3 (w.heap.size+2) omg;refine hJ _ _ ⟨iV ρ1 (some w1.heap.size) (3,(T++[w.heap.size+1]).length),[w1.heap.size],.map (some w1.heap.size),?_,λb hb=>(hr3 b omg).trans (rx1 b hb),(hr3 _ omg).trans (fr _ (Nat.le_refl _) omg),(hr3 _ omg).trans rtb,hi3.trans (fr _ omg omg),?_,?_,?_,?_,?_,?_⟩
    .exact Kp.kc (X:=[]) ((k1.trans kd2 λ_ _ _=>⟨trivial,trivial⟩:Kp [] w w2).trans k3 λi hi _=>⟨trivial,omg,trivial⟩) (λ_ _ _=>trivial)
    .rw[hue];exact h3.tmp k3 omg (hi3.trans (fr _ omg omg))
    .exact(k3.same _ omg ⟨omg,trivial⟩).trans ((kd2.same _ omg trivial).trans cb1)
    .rw[hue];exact ib3
    .rw[hue];refine⟨w1.heap.size,?_,rfl⟩;rw[<- h1.nN,List.getElem?_append_right (Nat.le_refl _),Nat.sub_self];rfl
    .rw[hue]
    .have:=k3.size;omega
   |_=>unfold nH at hok;simp only[e2]at hok;cases hok
  |_=>simp[nH]at hok
 .rintro _ w4 jk ⟨ρ2,D2,sv,k4,rx2,rc2,rt2,ri2,h2,cb2,ib2,hsv,hhead,z2⟩;obtain⟨svo,rfl⟩:=hsv.one;have hu2:=h2.sub _ _ _ hu;have hl2:=h2.lt;have hL2:(dU of c).2.L=c.L:=uV of c;have hM:=KL of ar els c;rw[hM]at hR;clear hM;generalize dU of c=uh at *;obtain⟨⟨op,n0,to0,fx,of0,tbl,st⟩,c2⟩:=uh;simp only[ins,Ins.mk.injEq]at hhead;obtain⟨rfl,rfl,rfl,rfl,_,rfl,_⟩:=hhead;dsimp only at h2 ib2 hsv hL2 hR;refine gg ?_;refine Cl.ret (pI (i:=⟨13,0,-1,false,of0,some c.tabs.length,st⟩) (f:=.map (some (w.heap.size+1))) (g:=.map svo) h2 ?_ hsv (by rw[hL2];omega)) ?_
  .refine⟨w.heap.size+1,?_,rfl⟩;rw[<- h.nN,List.append_assoc,List.getElem?_append_right (Nat.le_refl _),Nat.sub_self];rfl
  rintro v w5 ⟨rfl,ρ5,D5,k5,rx5,h5⟩;have z5:=k5.size;have cb5:w5.heap[w.heap.size]?=some (cl [pt (B+6) 0] dA):=(k5.oL omg omg rc2).trans cb2;have ib5:w5.heap[w.heap.size+2]?=some (cl [i64 13,i64 0,.int .i64 (-1),.bool false,i64 (of0:Nat),.map (some (w.heap.size+1)),.map svo] dB):=(k5.oL omg omg ri2).trans ib2;have hu5:=h5.sub _ _ _ hu;have hl5:=h5.lt;have rc5:=(rx5 w.heap.size omg).trans rc2;have rt5:=(rx5 (w.heap.size+1) omg).trans rt2;have ri5:=(rx5 (w.heap.size+2) omg).trans ri2;have kw5:Kd 6 B ρ w w5:=(k4.up omg).trans (k5.up omg) rx2;have rw5:Rx ρ ρ5 w.heap.size:=λb hb=>(rx5 b omg).trans (rx2 b hb);refine gg ?_;refine(λ(Q:∀w9,Kp [] w5 w9/\w9.heap[w5.heap.size]?=some (cl [.slice none 0 0] zK)->Lp [.int .i64 0,undef] w9 _)=>Q _ ⟨kpA,lookA⟩) ?_;rintro w6 ⟨k6,eb6⟩;have z6:=lt_of_heap eb6;have h6:=(h5.ext k6).role (a:=w5.heap.size) (r:=(5,0)) omg z6 (h5.free _ (Nat.le_refl _));have r6:∀b,b<w5.heap.size->iV ρ5 (some w5.heap.size) (5,0) b=ρ5 b:=λb hb=>CW (Nat.le_refl _) b hb;have re6:iV ρ5 (some w5.heap.size) (5,0) w5.heap.size=(5,0):=wS rfl;have fr6:∀b,w6.heap.size<=b->iV ρ5 (some w5.heap.size) (5,0) b=(0,0):=h6.free;generalize iV ρ5 (some w5.heap.size) (5,0)=ρ6 at *;have kw6:Kd 6 B ρ w w6:=kw5.trans (Kp.kc0 k6) rw5;have rw6:Rx ρ ρ6 w.heap.size:=λb hb=>(r6 b omg).trans (rw5 b hb);have rc6:=(r6 w.heap.size omg).trans rc5;have rt6:=(r6 (w.heap.size+1) omg).trans rt5;have ri6:=(r6 (w.heap.size+2) omg).trans ri5;have cb6:w6.heap[w.heap.size]?=some (cl [pt (B+6) 0] dA):=(k6.same _ omg trivial).trans cb5;have ib6:w6.heap[w.heap.size+2]?=some (cl [i64 13,i64 0,.int .i64 (-1),.bool false,i64 (of0:Nat),.map (some (w.heap.size+1)),.map svo] dB):=(k6.same _ omg trivial).trans ib5;have hTi:(T++[w.heap.size+1]++D2++D5)[c.tabs.length]?=some (w.heap.size+1):=by
   rw[<- h.nN,List.append_assoc,List.append_assoc,List.getElem?_append_right (Nat.le_refl _),Nat.sub_self];rfl
  have hc5L:(c2.put ⟨13,0,-1,false,of0,some c.tabs.length,st⟩).L.length=c.L.length+1:=by rw[dF,hL2]
  obtain⟨T6,hT6⟩:∃X,X=T++[w.heap.size+1]++D2++D5:=⟨_,rfl⟩;rw[<- hT6]at h6 hTi;obtain⟨cI,hcI⟩:∃X,X=c2.put ⟨13,0,-1,false,of0,some c.tabs.length,st⟩:=⟨_,rfl⟩;rw[<- hcI]at h6 hc5L hR
  -- the arms
  refine Lp.nat (n:=ar.length) (λn vals w'=>∃(k:Nat) (vv:Value) (ρ':kG) (D:List Nat),vals=[i64 (k:Nat),vv]/\k+n=ar.length/\Kd 6 B ρ6 w6 w'/\Rx ρ6 ρ' w6.heap.size /\
   CR B H ρ' (T6++D) w' (lU c.tabs.length (cI,[]) (ar.take k)).1/\uf ρ' w5.heap.size w' (lU c.tabs.length (cI,[]) (ar.take k)).2 /\
   (∀e∈(lU c.tabs.length (cI,[]) (ar.take k)).2,e<(lU c.tabs.length (cI,[]) (ar.take k)).1.L.length)/\(lU c.tabs.length (cI,[]) (ar.take k)).2.length=k) ?_ ?_
  .refine⟨0,undef,ρ6,[],rfl,omg,Kd.refl _ _ _ _,Rx.refl _ _,by rw[List.append_nil];exact h6,?_,by simp[lU],rfl⟩;exact⟨_,none,eb6,Gw.nil _ _ _,re6,smp⟩
  rintro n _ wL jk2 C ⟨k,vv,ρ',D,rfl,hkn,kL,rL,hL,hE,hEl,hEn⟩ hC;have zL:=kL.size;have huL:=hL.sub _ _ _ hu;have habL:=hL.sub _ _ _ hab;have hlL:=hL.lt;have hablt:=lt_of_heap habL;refine gg ?_;refine .split (λhc=>?_) (λhc=>?_)
  .have hlt:k<ar.length:=by have:=of_decide_eq_true hc;omega
   obtain⟨nsv,tv,a1,a2,a3,a4⟩:=ha.at k hlt;obtain⟨nb,nr,nc,rfl,hnb⟩:=a3;obtain⟨ti,tu,rfl⟩:=a4.form;have hnbL:=hL.sub _ _ _ hnb;have hnbd:=hL.dom _ _ hnb;refine .s ?_;refine LdN.s ?_ habL (by rw[List.length_append];omega) ((jG a1).trans a2);refine gg ?_;obtain⟨xk,hxk⟩:∃X,X=lU c.tabs.length (cI,[]) (ar.take k):=⟨_,rfl⟩;rw[<- hxk]at hL hE hEl hEn;have hxl:xk.1.L.length+bD (ar.drop k)=c.L.length+1+bD ar:=by
    rw[hxk,wo,hc5L];have:=Gs ar k;omega
   have hTk:(T6++D)[c.tabs.length]?=some (w.heap.size+1):=by
    rw[List.getElem?_append_left]
    .exact hTi
    .rcases Nat.lt_or_ge c.tabs.length T6.length with h|h
     .exact h
     .rw[List.getElem?_eq_none h]at hTi;cases hTi
   have rtk:ρ' (w.heap.size+1)=(3,c.tabs.length):=(rL _ omg).trans (by rw[rt6,h.nN]);have rck:ρ' w.heap.size=(0,0):=(rL _ omg).trans rc6;have rik:ρ' (w.heap.size+2)=(0,0):=(rL _ omg).trans ri6;have frk:=hL.free wL.heap.size (Nat.le_refl _);refine(λ(Q:∀w9,Kp [] wL w9/\w9.heap[wL.heap.size]?=some (cl [.slice (some ⟨nb,0,none⟩) ar[k].nums.length nc,.string (bs ar[k].decl.name),.iface ti tu] dY)->Lp [.int .i64 0] w9 _)=>Q _ ⟨kpA,lookA⟩) ?_;rintro w7 ⟨k7,ab7⟩;have z7:=lt_of_heap ab7;refine Lp.nat (n:=ar[k].nums.length) (λn vals w'=>∃j:Nat,vals=[i64 (j:Nat)]/\j+n=ar[k].nums.length/\Kp [(w.heap.size+1,w.heap.size+2)] w7 w'/\CR B H ρ' (T6++D) w' (lT c.tabs.length xk.1 (ar[k].nums.take j))) ?_ ?_
   .exact⟨0,rfl,omg,Kp.refl _ _,by rw[List.take_zero,lT];exact hL.ext k7⟩
   rintro m _ w8 jk3 C3 ⟨j,rfl,hjm,k8,h8⟩ hC3;have z8:=k8.size;have hnb8:=h8.sub _ _ _ hnb;have cb8:w8.heap[w.heap.size]?=some (cl [pt (B+6) 0] dA):=(k8.same _ omg ⟨omg,trivial⟩).trans ((k7.same _ omg trivial).trans ((kL.oL omg omg rc6).trans cb6));have ib8:w8.heap[w.heap.size+2]?=some (cl [i64 13,i64 0,.int .i64 (-1),.bool false,i64 (of0:Nat),.map (some (w.heap.size+1)),.map svo] dB):=(k8.same _ omg ⟨omg,trivial⟩).trans ((k7.same _ omg trivial).trans ((kL.oL omg omg ri6).trans ib6));have ab8:w8.heap[wL.heap.size]?=some (cl [.slice (some ⟨nb,0,none⟩) ar[k].nums.length nc,.string (bs ar[k].decl.name),.iface ti tu] dY):=(k8.same _ omg ⟨omg,trivial⟩).trans ab7;have hsk:=hsm ar[k] (List.getElem_mem hlt);refine gg ?_;refine .split (λhc3=>?_) (λhc3=>?_)
   .have hjlt:j<ar[k].nums.length:=by have:=of_decide_eq_true hc3;omega
    obtain⟨vL,xy,lo,q1,q2,q3,q4⟩:=h8.L;obtain⟨v2,o2,q5,q6,q7⟩:=h8.calls;obtain⟨la,lc,rfl⟩:=q2.len;have hxn:(ar[k].nums.map i64++nr)[0+j*1]?=some (i64 ar[k].nums[j]):=by rw[Nat.zero_add,Nat.mul_one,List.getElem?_append_left (by simpa using hjlt),List.getElem?_map,List.getElem?_eq_getElem hjlt];rfl
    obtain⟨lt,hlt2⟩:∃l,(lT c.tabs.length xk.1 (ar[k].nums.take j)).tabs[c.tabs.length]?=some l:=by
     have:=h8.nN;have h9:c.tabs.length<(T6++D).length:=by
      rcases Nat.lt_or_ge c.tabs.length (T6++D).length with h|h
      .exact h
      .rw[List.getElem?_eq_none h]at hTk;cases hTk
     exact⟨_,List.getElem?_eq_getElem omg⟩
    obtain⟨⟨es,ck,t1,t2⟩,_⟩:=h8.tabs _ _ _ hTk hlt2;refine .s ?_;refine Ld.s ?_ hnb8 hxn;refine gg ?_;refine Mu.int t2 lookA λes' ck' hm'=>?_;rw[QB]at hm';refine(λ(Q:∀w9,Kp [(w.heap.size+1,w.heap.size+2)] w8 w9/\w9.heap[w.heap.size+1]?=some (.map es' ck')->Bi .add (i64 (j:Nat)) (.int .i64 1) λx83=>C3 [x83] w9)=>Q _ ⟨kpA,by exact aC rfl (by simp only[size_drew];omega)⟩) ?_;rintro w9 ⟨k9,t9⟩;have h9:=h8.Bj hTk rtk k9 ⟨es',ck',t9,hm'⟩;rw[<- WQ hlt2,<- Gp]at h9;refine gg ?_;refine hC3 (m - 1) _ _ omg ⟨j+1,rfl,omg,k8.trans k9 (λi _ ho=>⟨ho,ho⟩),?_⟩;have e:ar[k].nums.take j++[ar[k].nums[j]]=ar[k].nums.take (j+1):=by rw[List.take_add_one,List.getElem?_eq_getElem hjlt];rfl
    rw[e]at h9;exact h9
   .have hjge:j=ar[k].nums.length:=by have:=of_decide_eq_false hc3;omega
    subst hjge;rw[List.take_length]at h8
    have hE8:uf ρ' w5.heap.size w8 xk.2:=(hE.kp k7 (λ_ _=>trivial)).kp k8 (λb hb=>⟨by
     by_cases e:b=w.heap.size+1
     .subst e;rw[rtk]at hb;simp at hb
     .omega,trivial⟩)
    refine gg ?_;refine oC.f (by kernel_rfl) ?_;have hsz:bD (ar.drop k)=tsz ar[k].decl.ty+1+bD (ar.drop (k+1)):=by rw[List.drop_eq_getElem_cons hlt,bD]
    refine Cl.ret (Yg (d:=ar[k].decl) (ends:=xk.2) h8 cb8 rck omg hE8 a4 (by rw[tY];omega) omg) ?_;rintro v w10 ⟨ρ10,D10,k10,r10,h10,E10⟩;refine gg ?_;have ek:ar.take k++[ar[k]]=ar.take (k+1):=by rw[List.take_add_one,List.getElem?_eq_getElem hlt];rfl
    have ea:lU c.tabs.length (cI,[]) (ar.take (k+1))=GK (lT c.tabs.length xk.1 ar[k].nums,xk.2) ar[k].decl:=by rw[<- ek,JR,<- hxk]
    refine hC (n - 1) _ _ omg ⟨k+1,_,ρ10,D++D10,rfl,omg,?_,λb hb=>(r10 b omg).trans (rL b hb),by rw[ea,<- List.append_assoc];exact h10,by rw[ea];exact E10,?_,by rw[ea];show (xk.2++[_]).length=_;rw[List.length_append,hEn];rfl⟩
    .have c1:Kd 6 B ρ6 w6 w7:=kL.kp k7
     have c2:Kd 6 B ρ6 w6 w8:=c1.trans (Kp.kc (ρ:=ρ') k8 (λi hi hx=>⟨by
      by_cases e:i=w.heap.size+1
      .subst e;rcases hx with hx|⟨_,hx⟩
       .omega
       .rw[rtk]at hx;simp at hx
      .omega,trivial⟩)) rL
     exact c2.trans k10 rL
    .rw[ea];intro e he;rw[Ei,tY];have:e∈xk.2++[(lower ar[k].decl.ty (lT c.tabs.length xk.1 ar[k].nums)).L.length]:=he;rw[List.mem_append,List.mem_singleton]at this;rcases this with h|h
     .have:=hEl e h;omega
     .rw[h,eG,tY];omega
  .have hge:k=ar.length:=by have:=of_decide_eq_false hc;omega
   subst hge;rw[List.take_length]at hL hE hEl hEn;have hxl:(lU c.tabs.length (cI,[]) ar).1.L.length=c.L.length+1+bD ar:=by rw[wo,hc5L]
   obtain⟨xA,hxA⟩:∃X,X=lU c.tabs.length (cI,[]) ar:=⟨_,rfl⟩;rw[<- hxA]at hL hE hEl hEn hxl hR;have rcA:ρ' w.heap.size=(0,0):=(rL _ omg).trans rc6;have cbL:wL.heap[w.heap.size]?=some (cl [pt (B+6) 0] dA):=(kL.oL omg omg rc6).trans cb6;have kwL:Kd 6 B ρ w wL:=kw6.trans kL rw6;have rwL:Rx ρ ρ' w.heap.size:=λb hb=>(rL b omg).trans (rw6 b hb);have hT6':∀D':List Nat,T6++D'=T++([w.heap.size+1]++D2++D5++D'):=λD'=>by rw[hT6];simp only[List.append_assoc]
   refine Jn.by (λ_ w'=>∃(x:CS×List Nat) (ρ3:kG) (D3:List Nat),x=XB c2.L.length xA els/\Kd 6 B ρ w w'/\Rx ρ ρ3 w.heap.size/\CR B H ρ3 (T6++D3) w' x.1/\uf ρ3 w5.heap.size w' x.2/\(∀e∈x.2,e<x.1.L.length) /\
     w'.heap[w.heap.size]?=some (cl [pt (B+6) 0] dA)/\ρ3 w.heap.size=(0,0)/\x.2.length<2000000) (λJ hJ=>?_) ?_
   .have hu9:=huL;cases els with
    |none=>
     cases he;refine gg ?_;exact hJ _ _ ⟨xA,ρ',D,rfl,kwL,rwL,hL,hE,hEl,cbL,rcA,omg⟩
    |some d=>
     obtain⟨dc,dt,rfl,hdc,hdt⟩:=he;refine vI ?_;refine En.s (b:=false) ?_ rfl;refine gg ?_;refine Cl.ret (w_to (at_:=c2.L.length) hL (by rw[hxl,hL2];omega)) ?_;rintro v w7 ⟨ρ7,D7,k7,r7,h7⟩;have z7:=k7.size;have hu7:=h7.sub _ _ _ hu;have hdc7:=h7.sub _ _ _ hdc;have cb7:w7.heap[w.heap.size]?=some (cl [pt (B+6) 0] dA):=(k7.oL omg omg rcA).trans cbL;have E7:=hE.kd k7 (Nat.le_refl _) r7 hL.ge;obtain⟨ti,tu,rfl⟩:=hdt.form;refine gg ?_;refine oC.f (by kernel_rfl) ?_;refine Cl.ret (Yg (d:=d) (ends:=xA.2) h7 cb7 ((r7 _ omg).trans rcA) omg E7 hdt (by rw[nY,hxl];simp only[lQ]at hN;omega) omg) ?_;rintro v w10 ⟨ρ10,D10,k10,r10,h10,E10⟩;refine hJ _ _ ⟨GK (xA.1.lH c2.L.length,xA.2) d,ρ10,D++D7++D10,rfl,?_,?_,?_,E10,?_,?_,?_,?_⟩
     .exact(kwL.trans (k7.up omg) rwL).trans k10 (λb hb=>(r7 b omg).trans (rwL b hb))
     .exact λb hb=>(r10 b omg).trans ((r7 b omg).trans (rwL b hb))
     .have:T6++(D++D7++D10)=T6++D++D7++D10:=by simp only[List.append_assoc]
      rw[this];exact h10
     .intro e he;rw[Ei,nY];have:e∈xA.2++[(lower d.ty (xA.1.lH c2.L.length)).L.length]:=he;rw[List.mem_append,List.mem_singleton]at this;rcases this with h|h
      .have:=hEl e h;omega
      .rw[h,eG,nY];omega
     .exact(k10.oL omg omg ((r7 _ omg).trans rcA)).trans cb7
     .exact(r10 _ omg).trans ((r7 _ omg).trans rcA)
     .show (xA.2++[_]).length<2000000;rw[List.length_append];simp only[List.length_cons,List.length_nil];simp only[lQ]at hN;have:=abb d.ty;omega
   .rintro _ wM jk4 ⟨x,ρM,DM,hx,kM,rM,hM,EM,hMl,cbM,rcM,hxs⟩;obtain⟨vE,oE,x1,x2,x3,x4⟩:=EM;obtain⟨ae,ce,rfl⟩:=x2.len;have hzM:=hM.lt;have zcb:=lt_of_heap cbM;refine gg ?_;refine Lp.nat (n:=x.2.length) (λn vals w'=>∃(i:Nat) (ρ4:kG) (D4:List Nat),vals=[i64 (i:Nat)]/\i+n=x.2.length/\Kd 5 B ρM wM w'/\Rx ρM ρ4 wM.heap.size/\CR B H ρ4 (T6++D4) w' (zl x.1 (x.2.take i))) ?_ ?_
    .exact⟨0,ρM,DM,rfl,omg,Kd.refl _ _ _ _,Rx.refl _ _,by rw[List.take_zero];exact hM⟩
    rintro n _ w12 jk5 C5 ⟨i,ρ4,D4,rfl,hin,k12,r12,h12⟩ hC5;have z12:=k12.size;refine gg ?_;refine .split (λhc5=>?_) (λhc5=>?_)
    .have hilt:i<x.2.length:=by have:=of_decide_eq_true hc5;omega
     obtain⟨ob,orest,ocap,rfl,hov,hob⟩:=Gw.some x2 omg;cases hov;have hro:=x4 ob rfl;have hob12:w12.heap[ob]?=some (cl ((x.2.map λ(x:Nat)=>i64 (x:Nat))++orest) PG):=(k12.same ob (lt_of_heap hob) (Or.inr ⟨hM.ge ob (by rw[hro];simp),Or.inr (by rw[hro];simp)⟩)).trans hob;have hxn:((x.2.map λ(x:Nat)=>i64 (x:Nat))++orest)[0+i*1]?=some (i64 (x.2[i]:Nat)):=by rw[Nat.zero_add,Nat.mul_one,List.getElem?_append_left (by simpa using hilt),List.getElem?_map,List.getElem?_eq_getElem hilt];rfl
     have cb12:w12.heap[w.heap.size]?=some (cl [pt (B+6) 0] dA):=(k12.oL zcb omg rcM).trans cbM;refine .s ?_;refine Ld.s ?_ hob12 hxn;refine gg ?_;refine Cl.ret (w_to (at_:=x.2[i]) h12 (by rw[E8];exact hMl _ (List.getElem_mem hilt))) ?_;rintro v w13 ⟨ρ13,D13,k13,r13,h13⟩;refine gg ?_;refine hC5 (n - 1) _ _ omg ⟨i+1,ρ13,D4++D13,rfl,omg,k12.trans k13 r12,λb hb=>(r13 b omg).trans (r12 b hb),?_⟩;have ek:x.2.take i++[x.2[i]]=x.2.take (i+1):=by rw[List.take_add_one,List.getElem?_eq_getElem hilt];rfl
     rw[<- List.append_assoc,<- ek,JG];exact h13
    .have hige:i=x.2.length:=by have:=of_decide_eq_false hc5;omega
     subst hige;rw[List.take_length,hx]at h12;refine hR _ _ ⟨ρ4,[w.heap.size+1]++D2++D5++D4,kM.trans (k12.up omg) rM,λb hb=>(r12 b (by have:=kM.size;omega)).trans (rM b hb),by rw[<- hT6'];exact h12⟩
end Go.W.T
namespace Go.W.T
open Go Go.W Go.M Go.Proofs
theorem WT(h:w.heap[b]?=some (cl (x::y::rest) t)):(loadVar 230 ⟨b,0,none⟩).run P w=.ok (.agg #[x,y]) w:=by
 have hc:eY w ⟨b,0,none⟩ 0 2=some [x,y]:=by
  rw[kR h 2 0 smp];rfl
 obtain⟨i,hi,hn⟩:∃i,P.info? 230=some i/\i.size=2:=by
  have hb:(match P.info? 230 with|some i=>i.size==2|none=>false)=true:=by kernel_rfl
  split at hb
  .rename_i i h;exact⟨i,h,by simpa using hb⟩
  .cases hb
 have hu:∃fs,P.underlying 230=some (.struct fs):=by
  have hb:(match P.underlying 230 with|some (.struct _)=>true|_=>false)=true:=by kernel_rfl
  split at hb
  .rename_i h;exact⟨_,h⟩
  .cases hb
 obtain⟨fs,hu⟩:=hu;simp[loadVar,yK hu,run_sizeOf hi,hn,oM hc]
theorem oq
  (ht:(callMethod (.iface t (pt b 0)) "Where" #[]).run P w=((do let v <- loadVar 230 ⟨b,0,none⟩;callFunc 289 #[v]):Sem Next).run P w)
  (h:w.heap[b]?=some (cl (x::y::rest) tt)) (hK:Cl P 289 #[.agg #[x,y]] w E K):zF P (.iface t (pt b 0)) "Where" #[] w E K:=by
 refine⟨?_⟩;unfold UF;refine⟨?_⟩;unfold Fh;have h2:((do let v <- loadVar 230 ⟨b,0,none⟩;callFunc 289 #[v]):Sem Next).run P w=.ok (.enter 289 #[.agg #[x,y]]) w:=by
  have hp:nK P 289=true:=by kernel_rfl
  simp[WT h,pq hp]
 rw[ht,h2];exact hK
theorem Ad(hd:jH H d v)(hs:Sub H w)(hK:Cl P 289 #[.agg #[.string (bs d.name),i64 (d.at_:Nat)]] w E K):zF P v "Where" #[] w E K:=by
 obtain⟨nm,at_,dk⟩:=d;cases dk with
 |const n=>obtain⟨b,rfl,h2⟩:=hd;exact oq (by kernel_rfl) (hs _ _ _ h2) hK
 |alias t=>obtain⟨b,u,rfl,h2,h3⟩:=hd;exact oq (by kernel_rfl) (hs _ _ _ h2) hK
 |enum ns is=>obtain⟨b,u,x,rfl,h2,h3,h4⟩:=hd;exact oq (by kernel_rfl) (hs _ _ _ h2) hK
 |struct ds=>obtain⟨b,u,l,rfl,h2,h3,h4⟩:=hd;exact oq (by kernel_rfl) (hs _ _ _ h2) hK
 |union of n ar els=>obtain⟨b,o,u,l,e,rfl,h2,_⟩:=hd;exact oq (by kernel_rfl) (hs _ _ _ h2) hK
 |prog n vs=>obtain⟨b,u,l,rfl,h2,h3,h4⟩:=hd;exact oq (by kernel_rfl) (hs _ _ _ h2) hK
theorem GU(x:ByteArray)(y:Int):Calls P 289 #[.agg #[.string x,.int .i64 y]] w (Ret λv w'=>v=.tuple #[.string x,.int .i64 y]/\Kp [] w w'):=by
 refine Ret.R λR hR=>?_;refine cf [] Tryz.func289 ?_;refine gg ?_;exact hR _ _ ⟨rfl,kpA⟩
theorem CR.Qv(h:CR B H ρ T w c)(k:Kp [(B+5,B+6)] w w')(hm:∃es ck,w'.heap[B+5]?=some (.map es ck)/\MK κs es ck (l.map λx=>(x.1,i64 (x.2:Nat)))):
  CR B H ρ T w' { c with start:=l }:=by
 have hl:=h.lt;have hB:=h.hB;have hs:∀i,i<B+7->i≠B+5->w'.heap[i]?=w.heap[i]?:=λi hi hn=>k.same i omg ⟨omg,trivial⟩;have hk:∀b,ρ b≠(0,0)->Out [(B+5,B+6)] b:=λb hb=>⟨by have:=h.ge b hb;omega,trivial⟩;obtain⟨v,cells,o,a1,a2,a3,a4⟩:=h.L;obtain⟨v2,o2,b1,b2,b3⟩:=h.calls;obtain⟨es,ck,d1,d2⟩:=h.procs;obtain⟨es3,ck3,m3,e1,e2,e3⟩:=h.fA;obtain⟨es4,ck4,m4,f1,f2,f3⟩:=h.defs
 exact { gl:=h.gl.kp k (λi hi=>⟨omg,trivial⟩),hB:=hB,sub:=h.sub.kp k (λb x hx=>⟨by have:=h.dom b x hx;omega,trivial⟩),dom:=h.dom,lt:=by have:=k.size;omega,
         free := λb hb => h.free b (by have := k.size; omega), low := h.low,
         L := ⟨v, cells, o, (hs _ omg omg).trans a1, a2.kp k (λb hb => hk b (by rw [a4 b hb]; simp)), a3, a4⟩,
         calls := ⟨v2, o2, (hs _ omg omg).trans b1, b2.kp k (λb hb => hk b (by rw [b3 b hb]; simp)), b3⟩,
         nN := h.nN, tabs := λi b l hb hl => by obtain ⟨x1, x2⟩ := h.tabs i b l hb hl; exact ⟨x1.kp k (hk b (by rw [x2]; simp)), x2⟩,
         types := (by obtain ⟨te, tc, t1, t2⟩ := h.types; exact ⟨te, tc, (hs _ omg omg).trans t1, t2⟩), procs := ⟨es, ck, (hs _ omg omg).trans d1, d2⟩,
         fA := ⟨es3, ck3, m3, (hs _ omg omg).trans e1, e2, e3.kp k (λb hb _ _ => hk b hb)⟩,
         defs := ⟨es4, ck4, m4, (hs _ omg omg).trans f1, f2, f3⟩, start := hm, uj := h.uj }
theorem CR.abQ(h:CR B H ρ T w c)(k:Kp [(B+4,B+5)] w w')(hm:∃es ck m,w'.heap[B+4]?=some (.map es ck)/\MK κs es ck m/\wC H m l):
  CR B H ρ T w' { c with defs:=l }:=by
 have hl:=h.lt;have hB:=h.hB;have hs:∀i,i<B+7->i≠B+4->w'.heap[i]?=w.heap[i]?:=λi hi hn=>k.same i omg ⟨omg,trivial⟩;have hk:∀b,ρ b≠(0,0)->Out [(B+4,B+5)] b:=λb hb=>⟨by have:=h.ge b hb;omega,trivial⟩;obtain⟨v,cells,o,a1,a2,a3,a4⟩:=h.L;obtain⟨v2,o2,b1,b2,b3⟩:=h.calls;obtain⟨es,ck,d1,d2⟩:=h.procs;obtain⟨es3,ck3,m3,e1,e2,e3⟩:=h.fA;obtain⟨es5,ck5,g1,g2⟩:=h.start
 exact { gl:=h.gl.kp k (λi hi=>⟨omg,trivial⟩),hB:=hB,sub:=h.sub.kp k (λb x hx=>⟨by have:=h.dom b x hx;omega,trivial⟩),dom:=h.dom,lt:=by have:=k.size;omega,
         free := λb hb => h.free b (by have := k.size; omega), low := h.low,
         L := ⟨v, cells, o, (hs _ omg omg).trans a1, a2.kp k (λb hb => hk b (by rw [a4 b hb]; simp)), a3, a4⟩,
         calls := ⟨v2, o2, (hs _ omg omg).trans b1, b2.kp k (λb hb => hk b (by rw [b3 b hb]; simp)), b3⟩,
         nN := h.nN, tabs := λi b l hb hl => by obtain ⟨x1, x2⟩ := h.tabs i b l hb hl; exact ⟨x1.kp k (hk b (by rw [x2]; simp)), x2⟩,
         types := (by obtain ⟨te, tc, t1, t2⟩ := h.types; exact ⟨te, tc, (hs _ omg omg).trans t1, t2⟩), procs := ⟨es, ck, (hs _ omg omg).trans d1, d2⟩,
         fA := ⟨es3, ck3, m3, (hs _ omg omg).trans e1, e2, e3.kp k (λb hb _ _ => hk b hb)⟩,
         start := ⟨es5, ck5, (hs _ omg omg).trans g1, g2⟩, defs := hm, uj := h.uj }
theorem QC(m:List (By×Nat))(a:By)(v:Nat):qW (m.map λx=>(x.1,i64 (x.2:Nat))) a (i64 (v:Nat))=(bK m a v).map λx=>(x.1,i64 (x.2:Nat)):=yY (f:=λk:Nat=>i64 (k:Nat)) m a v
theorem wC.put(hd:jH H d v):∀{m:List (By×Value)} {l:List (By×Def)},wC H m l->wC H (qW m a v) (bK l a d)
 |[],[],_=>⟨rfl,hd,trivial⟩
 |x::m,y::l,h=>by
  obtain⟨h1,h2,h3⟩:=h;unfold qW bK;rw[h1];cases a==y.1 with
  |true=>exact⟨rfl,hd,h3⟩
  |false=>exact⟨h1,h2,wC.put hd h3⟩
 |[],_::_,h=>h.elim
 |_::_,[],h=>h.elim
theorem kU.at:∀{ds:List Decl} {l:List Value} (k:Nat) (hk:k<ds.length),kU H ds l ->
  ∃t,0+k*2+2<=l.length/\(l.drop (0+k*2)).take 2=[.string (bs ds[k].name),t]/\lq H ds[k].ty t
 |a::ar,s::t::r,0,_,h=>⟨t,smp,by rw[h.1];rfl,h.2.1⟩
 |a::ar,s::t::r,k+1,hk,h=>by
  obtain⟨t',h1,h2,h3⟩:=kU.at k (by simpa using hk) h.2.2;refine⟨t',by simp only[List.length_cons];omega,?_,h3⟩;have e:0+(k+1)*2=(0+k*2)+2:=omg;rw[e];exact h2
 |[],_ ,_,hk,_=>absurd hk smp
 |_::_,[],_,_,h=>h.elim
 |_::_,[_],_,_,h=>h.elim
theorem DI(a:By):∀(es:List MapEntry) (m:List (By×Value)) (v:Value) (i:Nat),es.map (λe=>(e.key,e.val))=(m++[(a,v)]).map (λx=>(κs x.1,x.2))->m.lookup a=none ->
  Instr.findNow .string (κs a) es i=some (some (i+m.length,v))/\es.length=m.length+1/\(es.take m.length).map (λe=>(e.key,e.val))=m.map (λx=>(κs x.1,x.2))
 |[],m,v,i,h,_=>by simp at h
 |e::es,[],v,i,h,_=>by
  simp only[List.nil_append,List.map_cons,List.map_nil,List.cons.injEq,Prod.mk.injEq,List.map_eq_nil_iff]at h;obtain⟨⟨h1,h2⟩,rfl⟩:=h;refine⟨?_,rfl,rfl⟩;unfold Instr.findNow;rw[h1,Keyed.same (d:=.string) (κ:=κs),beq_self_eq_true,h2];rfl
 |e::es,x::m,v,i,h,hl=>by
  simp only[List.cons_append,List.map_cons,List.cons.injEq,Prod.mk.injEq]at h;obtain⟨⟨h1,h2⟩,h3⟩:=h;rw[List.lookup_cons]at hl;cases hb:a==x.1 with
  |true=>rw[hb]at hl;cases hl
  |false=>
   rw[hb]at hl;obtain⟨q1,q2,q3⟩:=DI a es m v (i+1) h3 hl;refine⟨?_,by simp[q2],by simp[h1,h2,q3]⟩;unfold Instr.findNow;rw[h1,Keyed.same (d:=.string) (κ:=κs),hb];show Instr.findNow .string (κs a) es (i+1)=_;rw[q1];congr 3;simp only[List.length_cons];omega
theorem aag(hm:MK κs es ck (m++[(a,v)]))(hl:m.lookup a=none)(h:w.heap[b]?=some (.map es ck))
  (hK:∀es',MK κs es' ck m->K (.tuple #[]) (ag w b (.map es' ck))):pF P (builtin .delete #[159,9] 0 #[false,false] #[.map (some b),.string (bs a)]) w E K:=by
 obtain⟨q1,q2,q3⟩:=DI a es.toList m v 0 hm.1 hl;have hu:P.underlying 159=some (.map 9 3):=by kernel_rfl
 have hs:P.underlying 9=some .string:=by kernel_rfl
 have hk:MapKept.IsKey .string (κs a):=by trivial
 have hr:(builtin .delete #[159,9] 0 #[false,false] #[.map (some b),.string (bs a)]).run P w=.ok (.value (.tuple #[])) (ag w b (.map (es.eraseIdxIfInBounds m.length) ck)):=by
  have hg:(getObj b).run P w=.ok (.map es ck) w:=by simp[getObj,Sem.run,h]
  have hf:=MapKept.run_findKey (P:=P) (w:=w) (kt:=9) hs q1;have hc:=MapKept.run_checkKey (P:=P) (w:=w) (kt:=9) hs hk es.isEmpty 9999;have hset:∀o:Obj,(setObj b o).run P w=.ok () (ag w b o):=λo=>by simp[setObj,Sem.run,h,ag]
  simp[builtin,Builtin.delete_,run_underlying hu,hg,hc,hf,hset,Result.andThen]
 refine⟨?_⟩;unfold Fh;rw[hr];refine hK _ ⟨?_,MapKept.stamped_erase hm.2 _⟩;have hlen:m.length<es.size:=by simpa using (by omega:m.length<es.toList.length)
 unfold Array.eraseIdxIfInBounds;rw[dif_pos hlen,Array.toList_eraseIdx,List.eraseIdx_eq_take_drop_succ,List.map_append,q3,List.drop_of_length_le omg];simp
set_option maxHeartbeats 1000000 in
theorem Ye(h:CR B H ρ T w c)(hd:jH H d v)(hnp:∀n vs,d.k≠.prog n vs)(hnew:c.start.lookup d.name=none)
  (hok:∀o nm ar els,d.k=.union o nm ar els->nH c o=true) (hsm:kV d=true) (hN:(gy d c).L.length<=1000000) (hN0:c.L.length<1000000):
  Calls P 65 #[pt (B+6) 0,v] w (Ret λ_ w'=>CG6 B H ρ T w (gy d c) w'):=by
 refine Ret.R λR hR=>?_;refine cf [73] Tryz.func65 ?_;have hl:=h.lt;refine Ad hd h.sub ?_;refine Cl.ret (GU _ _) ?_;rintro _ w1 ⟨rfl,k1⟩;have h1:=h.ext k1;have hl1:=h1.lt;obtain⟨vL,cells,o,a1,a2,a3,a4⟩:=h1.L;obtain⟨v2,o2,b1,b2,b3⟩:=h1.calls;obtain⟨es,ck,g1,g2⟩:=h1.start;obtain⟨la,lc,rfl⟩:=a2.len;refine gg ?_;refine Mu.str g2 lookA λes' ck' hm'=>?_;rw[QC]at hm';have h2:=(h1.ext (w':=w1.drew) kpA).Qv (l:=bK c.start d.name c.L.length) (w':=ag w1.drew (B+5) (.map es' ck')) kpA ⟨es',ck',aC rfl (by simp only[size_drew];omega),hm'⟩;have k2:Kd 6 B ρ w (ag w1.drew (B+5) (.map es' ck')):=(Kp.kc0 k1:Kd 6 B ρ w w1).trans (Kp.kc (X:=[(B+5,B+6)]) kpA (λi hi hx=>⟨omg,trivial⟩)) (Rx.refl _ _);have m2:(ag w1.drew (B+5) (.map es' ck')).heap[B+5]?=some (.map es' ck'):=aC rfl (by simp only[size_drew];omega);have zz:w.heap.size<=(ag w1.drew (B+5) (.map es' ck')).heap.size:=k2.size;generalize ag w1.drew (B+5) (.map es' ck')=w2 at *;obtain⟨c1,hc1⟩:∃X:CS,X={ c with start:=bK c.start d.name c.L.length }:=⟨_,rfl⟩;rw[<- hc1]at h2;have hLe:c1.L=c.L:=by rw[hc1]
 have fin:∀cX:CS,gy d c=cX.put (ins 7)->cX.L.length<1000000->∀w3,CG6 B H ρ T w cX w3->Cl P 69 #[pt (B+6) 0,insV (ins 7) (.map none) (.map none)] w3 (pE R) λx79 w80=>R (.returned (.tuple #[])) w80:=by
  intro cX hcX hlen w3 hg;obtain⟨ρ3,D3,q1,q2,q3⟩:=hg;refine Cl.ret (pI q3 rfl rfl hlen) ?_;rintro v w4 ⟨rfl,hg4⟩;refine hR _ _ ?_;rw[hcX];exact CG6.trans q1 q2 hg4.up
 refine Jn.by (λvals w'=>∃vv,vals=[vv]/\gy d c=(bodyC d c).put (ins 7)/\(bodyC d c).L.length<1000000/\CG6 B H ρ T w (bodyC d c) w') (λJ hJ=>?_) ?_
 .obtain⟨nm,at_,dk⟩:=d;cases dk with
  |prog n vs=>exact absurd rfl (hnp n vs)
  |const n=>
   obtain⟨b,rfl,hd1⟩:=hd;dsimp only at hnew hm';have hmx:MK κs es' ck' ((c.start.map λx=>(x.1,i64 (x.2:Nat)))++[(nm,i64 (c.L.length:Nat))]):=by
    rw[QA hnew,List.map_append]at hm';exact hm'
   obtain⟨v5,o5,b5,b6,b7⟩:=h2.calls;refine gg ?_;refine aag hmx (by rw[sW (λk:Nat=>i64 (k:Nat)),hnew];rfl) m2 λes3 hm3=>?_;refine hR _ _ ⟨ρ,[],k2.trans (Kp.kc (X:=[(B+5,B+6)]) kpA (λi hi hx=>⟨omg,trivial⟩)) (Rx.refl _ _),Rx.refl _ _,?_⟩;have h3:=h2.Qv (l:=c.start) (w':=ag w2 (B+5) (.map es3 ck')) kpA ⟨es3,ck',aC rfl (by have:=h2.lt;omega),hm3⟩;rw[List.append_nil];have:({ c1 with start:=c.start }:CS)=c:=by rw[hc1]
   rw[this]at h3;exact h3
  |alias t=>
   obtain⟨b,u,rfl,hd1,ht⟩:=hd;have hd2:=h2.sub _ _ _ hd1;have hlb:(bodyC ⟨nm,at_,.alias t⟩ c).L.length+1<=1000000:=by rw[<- dF _ (ins 7)];exact hN
   have he:bodyC ⟨nm,at_,.alias t⟩ c=lower t c1:=by rw[hc1];rfl
   rw[he]at hlb;obtain⟨ti,tu,rfl⟩:=ht.form;refine gg ?_;refine Cl.ret (lG t h2 ht (by rw[eG]at hlb;omega)) ?_;rintro v w3 hg;refine hJ _ _ ⟨_,rfl,rfl,by rw[he];omega,?_⟩;rw[he];exact CG6.trans (D:=[]) k2 (Rx.refl _ _) (by rw[List.append_nil];exact hg.up)
  |enum ns is=>
   obtain⟨b,u,xv,rfl,hd1,hs1,hs2⟩:=hd;have hd2:=h2.sub _ _ _ hd1;obtain⟨ib,ir,ic,rfl,hib⟩:=hs2;have hib2:=h2.sub _ _ _ hib;have hisl:is.length<1000000:=of_decide_eq_true hsm;have hlb:(bodyC ⟨nm,at_,.enum ns is⟩ c).L.length+1<=1000000:=by rw[<- dF _ (ins 7)];exact hN
   have he:bodyC ⟨nm,at_,.enum ns is⟩ c=(c1.kE (members is)).put { ins 4 with table:=some c1.tabs.length }:=by rw[hc1];rfl
   have hl2:=h2.lt;refine gg ?_;refine Cl.ret (KH is hib2 hisl) ?_;rintro v w3 ⟨rfl,k3,tm3⟩;have h3:=(h2.ext k3).kE (a:=w2.heap.size) omg (h2.free _ (Nat.le_refl _)) tm3;refine gg ?_;refine Cl.ret (pI (i:={ ins 4 with table:=some c1.tabs.length }) (f:=.map (some w2.heap.size)) (g:=.map none) h3 ⟨_,by rw[<- h2.nN,List.getElem?_append_right (Nat.le_refl _),Nat.sub_self];rfl,rfl⟩ rfl (by show c1.L.length<_;rw[hLe];exact hN0)) ?_;rintro v w4 ⟨rfl,hg⟩;refine hJ _ _ ⟨_,rfl,rfl,omg,?_⟩;rw[he];exact CG6.trans (D:=[]) k2 (Rx.refl _ _) (by rw[List.append_nil];exact CG6.trans (D:=[w2.heap.size]) (Kp.kc0 k3) (CW (Nat.le_refl _)) hg.up)
  |struct ds=>
   obtain⟨b,u,l,rfl,hd1,hdl,hs1⟩:=hd;have hd2:=h2.sub _ _ _ hd1;obtain⟨pb,pr,pc,rfl,hpb⟩:=hs1;have hpd:=h2.dom _ _ hpb;have hisl:ds.length<1000000:=of_decide_eq_true hsm;have hlb:(bodyC ⟨nm,at_,.struct ds⟩ c).L.length+1<=1000000:=by rw[<- dF _ (ins 7)];exact hN
   have he:bodyC ⟨nm,at_,.struct ds⟩ c=nS (c1.put { ins 11 with n:=ds.length }) ds:=by rw[hc1];rfl
   have hlb2:c.L.length+1+iD ds+1<=1000000:=by rw[he,sH,dF,hLe]at hlb;exact hlb
   refine gg ?_;refine Cl.ret (pI (i:={ ins 11 with n:=ds.length }) (f:=.map none) (g:=.map none) h2 rfl rfl (by rw[hLe];exact hN0)) ?_;rintro v w3 ⟨rfl,ρ3,D3,k3,r3,h3⟩;have hd3:=h3.sub _ _ _ hd1;have z3:=k3.size;refine gg ?_;refine Lp.nat (n:=ds.length) (λn vals w'=>∃(k:Nat) (ρ':kG) (D:List Nat),vals=[i64 (k:Nat)]/\k+n=ds.length/\Kd 5 B ρ3 w3 w'/\Rx ρ3 ρ' w3.heap.size/\CR B H ρ' (T++D3++D) w' (nS (c1.put { ins 11 with n:=ds.length }) (ds.take k))) ?_ ?_
   .exact⟨0,ρ3,[],rfl,omg,Kd.refl _ _ _ _,Rx.refl _ _,by rw[List.append_nil,List.take_zero];exact h3⟩
   rintro n _ wL jk2 C ⟨k,ρ',D,rfl,hkn,kL,rL,hL⟩ hC;have zL:=kL.size;have hpL:=hL.sub _ _ _ hpb;have hlL:=hL.lt;refine gg ?_;refine .split (λhc=>?_) (λhc=>?_)
   .have hlt:k<ds.length:=by have:=of_decide_eq_true hc;omega
    obtain⟨tv,q1,q2,q3⟩:=hdl.at k hlt;obtain⟨ti,tu,rfl⟩:=q3.form;have hpblt:=lt_of_heap hpL;refine .s ?_;refine LdN.s ?_ hpL (by rw[List.length_append];omega) ((jG q1).trans q2);refine gg ?_;refine Cl.w (λw9=>Kp [] wL w9) kpA ?_;intro w5 k5;have hsz:iD (ds.drop k)=tsz ds[k].ty+iD (ds.drop (k+1)):=by rw[List.drop_eq_getElem_cons hlt,iD]
    have htk:=Df ds k;refine Cl.ret (lG ds[k].ty (hL.ext k5) q3 (by rw[sH,dF,hLe];omega)) ?_;rintro v w6 ⟨ρ6,D6,k6,r6,h6⟩;refine gg ?_;have ek:ds.take k++[ds[k]]=ds.take (k+1):=by rw[List.take_add_one,List.getElem?_eq_getElem hlt];rfl
    refine hC (n - 1) _ _ omg ⟨k+1,ρ6,D++D6,rfl,omg,(kL.kp k5).trans k6 rL,λb hb=>(r6 b (by have:=k5.size;omega)).trans (rL b hb),?_⟩;rw[<- ek,FQ,<- List.append_assoc];exact h6
   .have hge:k=ds.length:=by have:=of_decide_eq_false hc;omega
    subst hge;rw[List.take_length]at hL;refine hJ _ _ ⟨_,rfl,rfl,omg,?_⟩;rw[he];exact CG6.trans (D:=[]) k2 (Rx.refl _ _) (by rw[List.append_nil];exact CG6.trans (k3.up omg) r3 ⟨ρ',D,kL.up omg,rL,hL⟩)
  |union o nm2 ar els=>
   obtain⟨b,ov,u,l,e,rfl,hd1,ho,ha,hs1,hels⟩:=hd;have hsm2:ar.length<1000000/\∀a∈ar,a.nums.length<1000000:=by
    have:(decide (ar.length<1000000)&&ar.all λa=>decide (a.nums.length<1000000))=true:=hsm;rw[Bool.and_eq_true,List.all_eq_true]at this;exact⟨of_decide_eq_true this.1,λa ha=>of_decide_eq_true (this.2 a ha)⟩
   have hlb:(bodyC ⟨nm,at_,.union o nm2 ar els⟩ c).L.length+1<=1000000:=by rw[<- dF _ (ins 7)];exact hN
   have he:bodyC ⟨nm,at_,.union o nm2 ar els⟩ c=rU o ar els c1:=by rw[hc1];rfl
   have hok1:nH c1 o=true:=by rw[hc1];exact hok o nm2 ar els rfl
   have Vx:VX H els e:=by
    cases els with
    |none=>exact hels
    |some x=>exact hels
   refine gg ?_;refine Cl.ret (Yb h2 hd1 ho ha hs1 Vx hok1 hsm2.2 (by rw[<- he];omega) hsm2.1) ?_;rintro v w3 hg;refine hJ _ _ ⟨_,rfl,rfl,omg,?_⟩;rw[he];exact CG6.trans (D:=[]) k2 (Rx.refl _ _) (by rw[List.append_nil];exact hg)
 .rintro _ w3 jk ⟨vv,rfl,he,hlen,hg⟩;refine gg ?_;exact fin _ he hlen w3 hg
end Go.W.T
