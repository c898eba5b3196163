/- Texts of mine, one behind the other; nothing is assumed. -/
import Derived.Test.YtbfcgbhhgnnglaaGreatDoorB20
import Derived.Test.YtbfcgbhhgnnglaaGreatDoorB08
import Derived.Test.YtbfcgbhhgnnglaaGreatDoorB00
set_option autoImplicit true
set_option relaxedAutoImplicit true
set_option linter.unusedSimpArgs false
set_option linter.unusedVariables false
set_option maxRecDepth 100000
namespace Go.W.T
open Go Go.W Go.M Go.Proofs
theorem Kd.kpx(h:Kd m B ρ a b)(k:Kp X b c)(hx:∀i,i<a.heap.size->(i<B\/B+7<=i)->Out X i):Kd m B ρ a c:=
 ⟨k.os.trans h.os,k.tape.trans h.tape,k.output.trans h.output,Nat.le_trans h.size k.size,λi hi ho=>(k.same i (Nat.lt_of_lt_of_le hi h.size) (hx i hi (ho.imp id And.left))).trans (h.same i hi ho)⟩
theorem UI(h:CR B H ρ T w c)(ht:lq H t v)(hN:c.L.length+uX t<=1000000):
  Calls P 109 #[pt (B+6) 0,v] w (Ret λr w'=>r=.tuple #[i64 (c.L.length:Nat),.bool (t==.void)]/\CG B H ρ T w (jV t c) w'):=by
 refine Ret.R λR hR=>?_;refine cf [] Tryz.func109 ?_;unfold uX at hN;obtain⟨vL,cells,o,a1,a2,a3,a4⟩:=h.L;obtain⟨v2,o2,b1,b2,b3⟩:=h.calls;obtain⟨la,lc,rfl⟩:=a2.len;have hl:=h.lt;have ht0:=ht;cases t with
 |basic s=>
  have hv:v=_:=ht;subst hv;refine gg ?_;refine Cl.w (λw9=>Kp [] w w9) kpA ?_;intro w1 k1;refine Cl.ret (lG _ (h.ext k1) ht0 omg) ?_;rintro r w2 ⟨ρ2,D2,k2,r2,h2⟩;refine gg ?_;refine Cl.ret (pI (i:=ins 16) (f:=.map none) (g:=.map none) h2 rfl rfl (by rw[eG];omega)) ?_;rintro r3 w3 ⟨rfl,hg⟩;exact hR _ _ ⟨rfl,CG.pre (Kp.kc0 k1) (CG.trans k2 r2 hg)⟩
 |named s a=>
  obtain⟨b,rfl,hb⟩:=ht;refine gg ?_;refine Cl.w (λw9=>Kp [] w w9) kpA ?_;intro w1 k1;refine Cl.ret (lG _ (h.ext k1) ht0 omg) ?_;rintro r w2 ⟨ρ2,D2,k2,r2,h2⟩;refine gg ?_;refine Cl.ret (pI (i:=ins 16) (f:=.map none) (g:=.map none) h2 rfl rfl (by rw[eG];omega)) ?_;rintro r3 w3 ⟨rfl,hg⟩;exact hR _ _ ⟨rfl,CG.pre (Kp.kc0 k1) (CG.trans k2 r2 hg)⟩
 |bytes a b n=>
  have hv:v=_:=ht;subst hv;refine gg ?_;refine Cl.w (λw9=>Kp [] w w9) kpA ?_;intro w1 k1;refine Cl.ret (lG _ (h.ext k1) ht0 omg) ?_;rintro r w2 ⟨ρ2,D2,k2,r2,h2⟩;refine gg ?_;refine Cl.ret (pI (i:=ins 16) (f:=.map none) (g:=.map none) h2 rfl rfl (by rw[eG];omega)) ?_;rintro r3 w3 ⟨rfl,hg⟩;exact hR _ _ ⟨rfl,CG.pre (Kp.kc0 k1) (CG.trans k2 r2 hg)⟩
 |array t f n=>
  obtain⟨u,rfl,hu⟩:=ht;refine gg ?_;refine Cl.w (λw9=>Kp [] w w9) kpA ?_;intro w1 k1;refine Cl.ret (lG _ (h.ext k1) ht0 omg) ?_;rintro r w2 ⟨ρ2,D2,k2,r2,h2⟩;refine gg ?_;refine Cl.ret (pI (i:=ins 16) (f:=.map none) (g:=.map none) h2 rfl rfl (by rw[eG];omega)) ?_;rintro r3 w3 ⟨rfl,hg⟩;exact hR _ _ ⟨rfl,CG.pre (Kp.kc0 k1) (CG.trans k2 r2 hg)⟩
 |opt t=>
  obtain⟨u,rfl,hu⟩:=ht;refine gg ?_;refine Cl.w (λw9=>Kp [] w w9) kpA ?_;intro w1 k1;refine Cl.ret (lG _ (h.ext k1) ht0 omg) ?_;rintro r w2 ⟨ρ2,D2,k2,r2,h2⟩;refine gg ?_;refine Cl.ret (pI (i:=ins 16) (f:=.map none) (g:=.map none) h2 rfl rfl (by rw[eG];omega)) ?_;rintro r3 w3 ⟨rfl,hg⟩;exact hR _ _ ⟨rfl,CG.pre (Kp.kc0 k1) (CG.trans k2 r2 hg)⟩
 |void=>
  have hv:v=_:=ht;subst hv;refine gg ?_;refine Cl.w (λw9=>Kp [] w w9) kpA ?_;intro w1 k1;refine Cl.ret (lG _ (h.ext k1) ht0 omg) ?_;rintro r w2 ⟨ρ2,D2,k2,r2,h2⟩;refine gg ?_;refine Cl.ret (pI (i:=ins 16) (f:=.map none) (g:=.map none) h2 rfl rfl (by rw[eG];omega)) ?_;rintro r3 w3 ⟨rfl,hg⟩;exact hR _ _ ⟨rfl,CG.pre (Kp.kc0 k1) (CG.trans k2 r2 hg)⟩
theorem CR.Zu(h:CR B H ρ T w c)(k:Kp [(B+1,B+2)] w w')
  (hm:∃es ck,w'.heap[B+1]?=some (.map es ck)/\MK κc es ck (l.map λx=>(x.1,U7 x.2))/\∀x∈l,Xm x.1):CR B H ρ T w' { c with procs:=l }:=by
 have hl:=h.lt;have hB:=h.hB;have hs:∀i,i<B+7->i≠B+1->w'.heap[i]?=w.heap[i]?:=λi hi hn=>k.same i omg ⟨omg,trivial⟩;have hk:∀b,ρ b≠(0,0)->Out [(B+1,B+2)] b:=λb hb=>⟨by have:=h.ge b hb;omega,trivial⟩;obtain⟨v,cells,o,a1,a2,a3,a4⟩:=h.L;obtain⟨v2,o2,b1,b2,b3⟩:=h.calls;obtain⟨es3,ck3,m3,e1,e2,e3⟩:=h.fA;obtain⟨es4,ck4,m4,f1,f2,f3⟩:=h.defs;obtain⟨es5,ck5,g1,g2⟩:=h.start
 exact { gl:=h.gl.kp k (λi hi=>⟨omg,trivial⟩),hB:=hB,sub:=h.sub.kp k (λb x hx=>⟨by have:=h.dom b x hx;omega,trivial⟩),dom:=h.dom,lt:=by have:=k.size;omega,
         free := λb hb => h.free b (by have := k.size; omega), low := h.low,
         L := ⟨v, cells, o, (hs _ omg omg).trans a1, a2.kp k (λb hb => hk b (by rw [a4 b hb]; simp)), a3, a4⟩,
         calls := ⟨v2, o2, (hs _ omg omg).trans b1, b2.kp k (λb hb => hk b (by rw [b3 b hb]; simp)), b3⟩,
         nN := h.nN, tabs := λi b l hb hl => by obtain ⟨x1, x2⟩ := h.tabs i b l hb hl; exact ⟨x1.kp k (hk b (by rw [x2]; simp)), x2⟩,
         types := (by obtain ⟨te, tc, t1, t2⟩ := h.types; exact ⟨te, tc, (hs _ omg omg).trans t1, t2⟩), procs := hm,
         fA := ⟨es3, ck3, m3, (hs _ omg omg).trans e1, e2, e3.kp k (λb hb _ _ => hk b hb)⟩,
         start := ⟨es5, ck5, (hs _ omg omg).trans g1, g2⟩, defs := ⟨es4, ck4, m4, (hs _ omg omg).trans f1, f2, f3⟩, uj := h.uj }
theorem jB.lookup(g:Int):∀{m:List (Int×Value)} {l:List (Int×List Int)},jB w ρ m l ->
  (m.lookup g=none/\l.lookup g=none)\/∃v x,m.lookup g=some v/\l.lookup g=some x/\∃o,Gw w rV 1 v x.length (x.map (Value.int .u32)) o/\∀b,o=some b->ρ b=(4,ie g)
 |[],[],_=>Or.inl ⟨rfl,rfl⟩
 |x::m,y::l,h=>by
  obtain⟨h1,h2,h3⟩:=h;rw[List.lookup_cons,List.lookup_cons,h1];cases hb:g==y.1 with
  |true=>
   have e:g=y.1:=by simpa using hb
   obtain⟨o,q1,q2⟩:=h2;exact Or.inr ⟨_,_,rfl,rfl,o,q1,λb hb=>by rw[e];exact q2 b hb⟩
  |false=>exact jB.lookup g h3
 |[],_::_,h=>h.elim
 |_::_,[],h=>h.elim
theorem jB.keep(k:Kp X w w')(hX:∀b p,p≠g->ρ b=(4,ie p)->Out X b)(hr:∀b,b<w.heap.size->ρ' b=ρ b):∀{m:List (Int×Value)} {l:List (Int×List Int)},jB w ρ m l->(∀x∈m,x.1≠g)->jB w' ρ' m l
 |[],[],_,_=>trivial
 |x::m,y::l,h,hn=>by
  obtain⟨h1,⟨o,h2,h3⟩,h4⟩:=h;have hy:y.1≠g:=by rw[<- h1];exact hn x smp
  exact⟨h1,⟨o,h2.kp k (λb hb=>hX b y.1 hy (h3 b hb)),λb hb=>(hr b (h2.lt b hb)).trans (h3 b hb)⟩,jB.keep k hX hr h4 (λx hx=>hn x (by simp[hx]))⟩
 |[],_::_,h,_=>h.elim
 |_::_,[],h,_=>h.elim
theorem jB.put(k:Kp X w w')(hX:∀b p,p≠g->ρ b=(4,ie p)->Out X b)(hr:∀b,b<w.heap.size->ρ' b=ρ b)
  (hnew:∃o,Gw w' rV 1 v' l'.length (l'.map (Value.int .u32)) o/\∀b,o=some b->ρ' b=(4,ie g)):∀{m:List (Int×Value)} {l:List (Int×List Int)},jB w ρ m l->(m.map (·.1)).Nodup->jB w' ρ' (qW m g v') (bK l g l')
 |[],[],_,_=>⟨rfl,hnew,trivial⟩
 |x::m,y::l,h,hn=>by
  obtain⟨h1,⟨o,h2,h3⟩,h4⟩:=h;simp only[List.map_cons,List.nodup_cons]at hn;unfold qW bK;rw[h1];cases hb:g==y.1 with
  |true=>
   have e:g=y.1:=by simpa using hb
   refine⟨rfl,hnew,jB.keep k hX hr h4 (λz hz e2=>hn.1 ?_)⟩;rw[h1,<- e,<- e2];exact List.mem_map.mpr ⟨z,hz,rfl⟩
  |false=>
   have hy:y.1≠g:=λe=>by rw[e,beq_self_eq_true]at hb;cases hb
   exact⟨h1,⟨o,h2.kp k (λb hb=>hX b y.1 hy (h3 b hb)),λb hb=>(hr b (h2.lt b hb)).trans (h3 b hb)⟩,jB.put k hX hr hnew h4 hn.2⟩
 |[],_::_,h,_=>h.elim
 |_::_,[],h,_=>h.elim
theorem MK.nodup(h:MK (κi k) es ck m):(m.map (·.1)).Nodup:=by
 have h1:=h.2.2.2;have h2:es.toList.map (·.key)=(m.map (·.1)).map (κi k):=by
  have:=congrArg (List.map Prod.fst) h.1;rw[List.map_map,List.map_map]at this;rw[List.map_map];exact this
 rw[h2]at h1;unfold List.Nodup at h1 ⊢;rw[List.pairwise_map]at h1;exact h1.imp λhab e=>hab (by rw[e])
theorem CR.abP(h:CR B H ρ T w c)
  (hm0:w.heap[B+2]?=some (.map es ck)) (hm:MK (κi .u32) es ck m) (hv:jB w ρ m c.fA) (ho:∀b,o=some b->ρ b=(4,ie g))
  (k:Kp ((B+2,B+3)::own o) w w') (hc:w'.heap[B+2]?=some (.map es' ck')) (hm':MK (κi .u32) es' ck' (qW m g v')) (hg':Gw w' rV 1 v' l'.length (l'.map (Value.int .u32)) o')
  (hoo:o'=o\/∃b,o'=some b/\w.heap.size<=b):CR B H (iV ρ o' (4,ie g)) T w' { c with fA:=bK c.fA g l' }:=by
 have hl:=h.lt;have hB:=h.hB;have hz:=k.size;have hge:=h.ge;have hown:∀b,ρ b≠(4,ie g)->Out (own o) b:=λb hb=>aF λe=>hb (ho b e);have hlow:∀b,b<B+7->Out (own o) b:=λb hb=>hown b (by rw[h.low b hb];simp);have hs:∀i,i<B+7->i≠B+2->w'.heap[i]?=w.heap[i]?:=λi hi hn=>k.same i omg ⟨omg,hlow i hi⟩;have hr:Rx ρ (iV ρ o' (4,ie g)) w.heap.size:=rE ho hoo;have hkeep:∀b,B+7<=b->ρ b≠(4,ie g)->Out ((B+2,B+3)::own o) b:=λb hb hn=>⟨omg,hown b hn⟩;obtain⟨v,cells,o1,a1,a2,a3,a4⟩:=h.L;obtain⟨v2,o2,b1,b2,b3⟩:=h.calls;obtain⟨es2,ck2,d1,d2⟩:=h.procs;obtain⟨es4,ck4,m4,f1,f2,f3⟩:=h.defs;obtain⟨es5,ck5,g1,g2⟩:=h.start
 exact { gl:=h.gl.kp k (λi hi=>⟨omg,hlow i omg⟩),hB:=hB,sub:=h.sub.kp k (λb x hx=>by have:=h.dom b x hx;exact⟨omg,hlow b omg⟩),dom:=h.dom,lt:=omg,
         free := λb hb => by
           unfold iV;rw [if_neg (λe => by have := hg'.lt b e; omega)];exact h.free b omg,
         low := λb hb => (hr b omg).trans (h.low b hb),
         L := ⟨v, cells, o1, (hs _ omg omg).trans a1, a2.kp k (λb hb => hkeep b (hge b (by rw [a4 b hb]; simp)) (by rw [a4 b hb]; simp)), a3, λb hb => (hr b (a2.lt b hb)).trans (a4 b hb)⟩,
         calls := ⟨v2, o2, (hs _ omg omg).trans b1, b2.kp k (λb hb => hkeep b (hge b (by rw [b3 b hb]; simp)) (by rw [b3 b hb]; simp)), λb hb => (hr b (b2.lt b hb)).trans (b3 b hb)⟩,
         nN := h.nN,
         tabs := λi b l hb hl => by
           obtain ⟨x1, x2⟩ := h.tabs i b l hb hl;exact ⟨x1.kp k (hkeep b (hge b (by rw [x2]; simp)) (by rw [x2]; simp)), (hr b x1.lt).trans x2⟩,
         types := (by obtain ⟨te, tc, t1, t2⟩ := h.types; exact ⟨te, tc, (hs _ omg omg).trans t1, t2⟩), procs := ⟨es2, ck2, (hs _ omg omg).trans d1, d2⟩,
         fA := ⟨es', ck', _, hc, hm', jB.put k (λb p hp hb => hkeep b (hge b (by rw [hb]; simp)) (by rw [hb]; intro e; exact hp (ie_inj (by simpa using e)))) hr ⟨o', hg', λb hb => wS hb⟩ hv (MK.nodup hm)⟩,
         defs := ⟨es4, ck4, m4, (hs _ omg omg).trans f1, f2, f3⟩, start := ⟨es5, ck5, (hs _ omg omg).trans g1, g2⟩, uj := h.uj }
theorem iT.at:∀{qs:List pG} {l:List Value} (k:Nat) (hk:k<qs.length),iT H qs l ->
  ∃a t,0+k*4+4<=l.length/\(l.drop (0+k*4)).take 4=[.string (bs qs[k].name),.int .u32 qs[k].n,a,t]/\lq H qs[k].arg a/\lq H qs[k].res t
 |q::qs,s::n::a::t::r,0,_,h=>⟨a,t,smp,by rw[h.1,h.2.1];rfl,h.2.2.1,h.2.2.2.1⟩
 |q::qs,s::n::a::t::r,k+1,hk,h=>by
  obtain⟨a',t',h1,h2,h3,h4⟩:=iT.at k (by simpa using hk) h.2.2.2.2;refine⟨a',t',by simp only[List.length_cons];omega,?_,h3,h4⟩;have e:0+(k+1)*4=(0+k*4)+4:=omg;rw[e];exact h2
 |[],_ ,_,hk,_=>absurd hk smp
 |_::_,[],_,_,h=>h.elim
 |_::_,[_],_,_,h=>h.elim
 |_::_,[_,_],_,_,h=>h.elim
 |_::_,[_,_,_],_,_,h=>h.elim
theorem lV.at:∀{vs:List qw} {l:List Value} (k:Nat) (hk:k<vs.length),lV H vs l ->
  ∃q,0+k*3+3<=l.length/\(l.drop (0+k*3)).take 3=[.string (bs vs[k].name),.int .u32 vs[k].n,q]/\∃pl,iT H vs[k].procs pl/\SlF H bJ vs[k].procs.length pl q
 |v::vs,s::n::q::r,0,_,h=>⟨q,smp,by rw[h.1,h.2.1];rfl,h.2.2.1⟩
 |v::vs,s::n::q::r,k+1,hk,h=>by
  obtain⟨q',h1,h2,h3⟩:=lV.at k (by simpa using hk) h.2.2.2;refine⟨q',by simp only[List.length_cons];omega,?_,h3⟩;have e:0+(k+1)*3=(0+k*3)+3:=omg;rw[e];exact h2
 |[],_ ,_,hk,_=>absurd hk smp
 |_::_,[],_,_,h=>h.elim
 |_::_,[_],_,_,h=>h.elim
 |_::_,[_,_],_,_,h=>h.elim
set_option maxHeartbeats 2000000 in
theorem SV(h:CR B H ρ T w c)
  (hg:H gb=some ([.string (bs gn),i64 (gat:Nat),.int .u32 g,sv],dL)) (hv:lV H vs l) (hs:SlF H aJ vs.length l sv) (hgu:inU g)
  (hvl:vs.length<1000000) (hvs:∀v∈vs,v.procs.length<1000000/\inU v.n/\∀q∈v.procs,inU q.n) (hvn:∀x∈c.fA,x.2.length<1000000) (hN:(iU g c vs).L.length<=1000000):
  Calls P 64 #[pt (B+6) 0,pt gb 0] w (Ret λ_ w'=>CG6 B H ρ T w (iU g c vs) w'):=by
 refine Ret.R λR hR=>?_;refine cf [14,48] Tryz.func64 ?_;rw[vG]at hN;obtain⟨sb,sr,sc,rfl,hsb⟩:=hs;have hg0:=h.sub _ _ _ hg;have hgd:=h.dom _ _ hg;have hsd:=h.dom _ _ hsb;refine gg ?_
 refine Lp.nat (n:=vs.length) (λn vals w'=>∃(k:Nat) (vv:Value) (ρ':kG) (D:List Nat),vals=[i64 (k:Nat),vv]/\k+n=vs.length/\Kd 6 B ρ w w'/\Rx ρ ρ' w.heap.size/\CR B H ρ' (T++D) w' (iU g c (vs.take k)) /\
  ∀x∈(iU g c (vs.take k)).fA,x.2.length<1000000+k) ?_ ?_
 .exact⟨0,undef,ρ,[],rfl,omg,Kd.refl _ _ _ _,Rx.refl _ _,by rw[List.append_nil,List.take_zero];exact h,by rw[List.take_zero];exact hvn⟩
 rintro n _ wL jk C ⟨k,vv,ρ',D,rfl,hkn,kL,rL,hL,hvnL⟩ hC;have zL:=kL.size;have hgL:=hL.sub _ _ _ hg;have hsL:=hL.sub _ _ _ hsb;have hlL:=hL.lt;have hsblt:=lt_of_heap hsL;have hgblt:=lt_of_heap hgL;refine gg ?_;refine .split (λhc=>?_) (λhc=>?_)
 .have hlt:k<vs.length:=by have:=of_decide_eq_true hc;omega
  obtain⟨qv,a1,a2,pl,a3,a4⟩:=hv.at k hlt;obtain⟨pb,pr,pc,rfl,hpb⟩:=a4;obtain⟨u1,u2,u3⟩:=hvs vs[k] (List.getElem_mem hlt);obtain⟨xk,hxk⟩:∃X,X=iU g c (vs.take k):=⟨_,rfl⟩;rw[<- hxk]at hL hvnL;have hxl:xk.L.length+mP (vs.drop k)=c.L.length+mP vs:=by
   rw[hxk,vG];have:=Fz vs k;omega
  obtain⟨vL,xy,lo,q1,q2,q3,q4⟩:=hL.L;obtain⟨v2,o2,q5,q6,q7⟩:=hL.calls;obtain⟨es,ck,m,e1,e2,e3⟩:=hL.fA;refine .s ?_;refine LdN.s ?_ hsL (by rw[List.length_append];omega) ((jG a1).trans a2);refine gg ?_;have hlk:∃vx lx ox,(m.lookup g).getD (.slice none 0 0)=vx/\(xk.fA.lookup g).getD []=lx/\Gw wL rV 1 vx lx.length (lx.map (Value.int .u32)) ox/\(∀b,ox=some b->ρ' b=(4,ie g))/\lx.length<1000000+k:=by
   rcases e3.lookup g with⟨x1,x2⟩|⟨v,x,x1,x2,o,x3,x4⟩
   .exact⟨_,_,none,rfl,rfl,by rw[x1,x2];exact Gw.nil _ _ _,smp,by rw[x2];simp;omega⟩
   .refine⟨_,_,o,rfl,rfl,by rw[x1,x2];exact x3,x4,by rw[x2];exact hvnL (g,x) (by
     have:=List.lookup_eq_some_iff.mp x2;obtain⟨l1,l2,hh,_⟩:=this
     rw[hh];simp)⟩
  obtain⟨vx,lx,ox,hvx,hlx,gx,rx,hlxl⟩:=hlk;refine Lk.int0 e2 lookA ?_;rw[hvx];obtain⟨ax,cx,rfl⟩:=gx.len;refine gg ?_;refine⟨Lk.int0 e2 lookA hvx,?_⟩;refine Ap.w (λw9=>Kp [] wL w9/\w9.heap[wL.heap.size]?=some (cl [.string (bs vs[k].name),.int .u32 vs[k].n,.slice (some ⟨pb,0,none⟩) vs[k].procs.length pc] aJ)/\w9.heap[wL.heap.size+1]?=some (cl [.int .u32 vs[k].n] rV)) ⟨kpA,lookA,lookA⟩ ?_;rintro w1 ⟨k1,vb1,n1⟩;have z1:=lt_of_heap n1;refine Ap.g (gx.kp k1 (λ_ _=>trivial)) n1 rfl rfl ?_ omg;intro v' w2 o' g2 ho' k2;have z2:=k2.size;have oge:∀b,ox=some b->B+7<=b/\b<wL.heap.size:=λb hb=>⟨hL.ge b (by rw[rx b hb];simp),gx.lt b hb⟩;have st2:∀b,b<w1.heap.size->(b<B+7\/wL.heap.size<=b)->w2.heap[b]?=w1.heap[b]?:=λb hb hx=>k2.same b hb (aF λe=>by have:=oge b e;omega);have cm2:w2.heap[B+6]?=some (cl [pt (B+3) 0,.map (some (B+4)),.map (some (B+5)),v2] iH):=(st2 _ omg omg).trans ((k1.same _ omg trivial).trans q5);have cd2:w2.heap[B+3]?=some (cl [vL,.map (some B),.map (some (B+1)),.map (some (B+2))] kH):=(st2 _ omg omg).trans ((k1.same _ omg trivial).trans q1);have gb2:w2.heap[gb]?=some (cl [.string (bs gn),i64 (gat:Nat),.int .u32 g,.slice (some ⟨sb,0,none⟩) vs.length sc] dL):=(st2 _ omg omg).trans ((k1.same _ omg trivial).trans hgL);have vb2:w2.heap[wL.heap.size]?=some (cl [.string (bs vs[k].name),.int .u32 vs[k].n,.slice (some ⟨pb,0,none⟩) vs[k].procs.length pc] aJ):=(st2 _ omg omg).trans vb1;have mp2:w2.heap[B+2]?=some (.map es ck):=(st2 _ omg omg).trans ((k1.same _ omg trivial).trans e1);obtain⟨ax',cx',rfl⟩:=g2.len;refine gg ?_;refine Mu.int e2 mp2 λes' ck' hm'=>?_;refine gg ?_;refine(λ(Q:∀w9,Kp [(B+2,B+3)] w2 w9/\w9.heap[B+2]?=some (.map es' ck')->Lp [.int .i64 0] w9 _)=>Q _ ⟨kpA,by exact aC rfl omg⟩) ?_;rintro w3 ⟨k3,mp3⟩;have z3:=k3.size;have vb3:w3.heap[wL.heap.size]?=some (cl [.string (bs vs[k].name),.int .u32 vs[k].n,.slice (some ⟨pb,0,none⟩) vs[k].procs.length pc] aJ):=(k3.same _ omg ⟨omg,trivial⟩).trans vb2;have hoo:o'=ox\/∃b,o'=some b/\wL.heap.size<=b:=ho'.imp id λr=>⟨_,r,k1.size⟩;have kO:Kp ((B+2,B+3)::own ox) wL w3:=by
   have x1:Kp ((B+2,B+3)::own ox) wL w2:=k1.trans k2 (λi _ ho=>⟨trivial,ho.2⟩);exact x1.trans k3 (λi _ ho=>⟨ho,ho.1,trivial⟩)
  have g3:Gw w3 rV 1 (.slice ax' (lx.length+1) cx') (lx++[vs[k].n]).length ((lx++[vs[k].n]).map (Value.int .u32)) o':=by
   have:(lx++[vs[k].n]).length=lx.length+1:=by simp
   rw[this,List.map_append];refine g2.kp k3 (λb hb=>⟨?_,trivial⟩);rcases hoo with r|⟨b',r,hb'⟩
   .have:=oge b (by rw[<- r];exact hb);omega
   .rw[r]at hb;cases hb;omega
  have h3:=hL.abP e1 e2 e3 rx kO mp3 hm' g3 hoo;have r3:Rx ρ' (iV ρ' o' (4,ie g)) wL.heap.size:=rE rx hoo;have vr3:iV ρ' o' (4,ie g) wL.heap.size=(0,0):=by
   unfold iV;rw[if_neg]
   .exact hL.free _ (Nat.le_refl _)
   .intro e;rcases ho' with r|r
    .rw[r]at e;have:=(oge _ e).2;omega
    .rw[r]at e;have:=Option.some.inj e;omega
  generalize iV ρ' o' (4,ie g)=ρ3 at *
  have kd3:Kd 6 B ρ' wL w3:=Kp.kc kO (λi hi hx=>⟨omg,aF λe=>by
   have h2:=rx i e;rcases hx with hx|⟨_,hx⟩
   .have:=oge i e;omega
   .rw[h2]at hx;simp at hx⟩)
  obtain⟨x3,hx3⟩:∃X:CS,X={ xk with fA:=bK xk.fA g (lx++[vs[k].n]) }:=⟨_,rfl⟩;rw[<- hx3]at h3;have hx3L:x3.L=xk.L:=by rw[hx3]
  have hsz:mP (vs.drop k)=je vs[k].procs+mP (vs.drop (k+1)):=by rw[List.drop_eq_getElem_cons hlt,mP]
  have hpd:=hL.dom _ _ hpb;refine Lp.nat (n:=vs[k].procs.length) (λn vals w'=>∃(j:Nat) (ρ4:kG) (D4:List Nat),vals=[i64 (j:Nat)]/\j+n=vs[k].procs.length/\Kd 5 B ρ3 w3 w'/\Rx ρ3 ρ4 w3.heap.size/\CR B H ρ4 (T++D++D4) w' (iW g vs[k].n x3 (vs[k].procs.take j))) ?_ ?_
  .exact⟨0,ρ3,[],rfl,omg,Kd.refl _ _ _ _,Rx.refl _ _,by rw[List.append_nil,List.take_zero];exact h3⟩
  rintro m2 _ w4 jk2 C2 ⟨j,ρ4,D4,rfl,hjm,k4,r4,h4⟩ hC2;have z4:=k4.size;have hpb4:=h4.sub _ _ _ hpb;have hpblt:=lt_of_heap hpb4;have vb4:w4.heap[wL.heap.size]?=some (cl [.string (bs vs[k].name),.int .u32 vs[k].n,.slice (some ⟨pb,0,none⟩) vs[k].procs.length pc] aJ):=(k4.oL omg omg vr3).trans vb3;refine gg ?_;refine .split (λhc3=>?_) (λhc3=>?_)
  .have hjlt:j<vs[k].procs.length:=by have:=of_decide_eq_true hc3;omega
   obtain⟨qa,qt,p1,p2,p3,p4⟩:=a3.at j hjlt;obtain⟨ai,au,rfl⟩:=p3.form;obtain⟨ri,ru,rfl⟩:=p4.form;obtain⟨xj,hxj⟩:∃X,X=iW g vs[k].n x3 (vs[k].procs.take j):=⟨_,rfl⟩;rw[<- hxj]at h4;have hxjl:xj.L.length+je (vs[k].procs.drop j)=xk.L.length+je vs[k].procs:=by
    rw[hxj,BA,hx3L];have:=Dc vs[k].procs j;omega
   have hpsz:je (vs[k].procs.drop j)=uX vs[k].procs[j].res+uX vs[k].procs[j].arg+je (vs[k].procs.drop (j+1)):=by rw[List.drop_eq_getElem_cons hjlt,je]
   refine .s ?_;refine LdN.s ?_ hpb4 (by rw[List.length_append];omega) ((jG p1).trans p2);refine gg ?_;refine Cl.w (λw9=>Kp [] w4 w9/\w9.heap[w4.heap.size]?=some (cl [.string (bs vs[k].procs[j].name),.int .u32 vs[k].procs[j].n,.iface ai au,.iface ri ru] bJ)/\w9.heap[w4.heap.size+1]?=some (cl [i64 0,i64 0,.bool false,.bool false] uq)) ⟨kpA,lookA,lookA⟩ ?_;rintro w5 ⟨k5,qb5,rb5⟩;have z5:=lt_of_heap rb5;refine Cl.ret (UI (h4.ext k5) p4 omg) ?_;rintro _ w6 ⟨rfl,ρ6,D6,k6,r6,h6⟩;have z6:=k6.size;have fq4:=h4.free w4.heap.size (Nat.le_refl _);have fr4:=h4.free (w4.heap.size+1) omg;have hl4:=h4.lt;have qb6:w6.heap[w4.heap.size]?=some (cl [.string (bs vs[k].procs[j].name),.int .u32 vs[k].procs[j].n,.iface ai au,.iface ri ru] bJ):=(k6.oL omg omg fq4).trans qb5;have rb6:w6.heap[w4.heap.size+1]?=some (cl [i64 0,i64 0,.bool false,.bool false] uq):=(k6.oL omg omg fr4).trans rb5;have vr4:ρ4 wL.heap.size=(0,0):=(r4 _ omg).trans vr3;have vb6:w6.heap[wL.heap.size]?=some (cl [.string (bs vs[k].name),.int .u32 vs[k].n,.slice (some ⟨pb,0,none⟩) vs[k].procs.length pc] aJ):=(k6.oL omg omg vr4).trans ((k5.same _ omg trivial).trans vb4);have fq6:ρ6 w4.heap.size=(0,0):=(r6 _ omg).trans fq4;have fr6:ρ6 (w4.heap.size+1)=(0,0):=(r6 _ omg).trans fr4;refine gg ?_;refine Cl.w (λw9=>Kp [(w4.heap.size+1,w4.heap.size+2)] w6 w9/\w9.heap[w4.heap.size+1]?=some (cl [i64 0,i64 (xj.L.length:Nat),.bool false,.bool (vs[k].procs[j].res==.void)] uq)) ⟨kpA,lookA⟩ ?_;rintro w7 ⟨k7,rb7⟩;have z7:=k7.size;have h7:=h6.tmp k7 omg fr6;have hs1:=EG vs[k].procs[j].res xj;refine Cl.ret (UI h7 p3 omg) ?_;rintro _ w8 ⟨rfl,ρ8,D8,k8,r8,h8⟩;have z8:=k8.size;have rb8:w8.heap[w4.heap.size+1]?=some (cl [i64 0,i64 (xj.L.length:Nat),.bool false,.bool (vs[k].procs[j].res==.void)] uq):=(k8.oL omg omg fr6).trans rb7;have qb8:w8.heap[w4.heap.size]?=some (cl [.string (bs vs[k].procs[j].name),.int .u32 vs[k].procs[j].n,.iface ai au,.iface ri ru] bJ):=(k8.oL omg omg fq6).trans ((k7.same _ omg ⟨omg,trivial⟩).trans qb6);have vr6:ρ6 wL.heap.size=(0,0):=(r6 _ omg).trans vr4;have vb8:w8.heap[wL.heap.size]?=some (cl [.string (bs vs[k].name),.int .u32 vs[k].n,.slice (some ⟨pb,0,none⟩) vs[k].procs.length pc] aJ):=(k8.oL omg omg vr6).trans ((k7.same _ omg ⟨omg,trivial⟩).trans vb6);have hg8:=h8.sub _ _ _ hg;obtain⟨vL8,lcells8,lo8,s1,s2,s3,s4⟩:=h8.L;obtain⟨v28,o28,s5,s6,s7⟩:=h8.calls;obtain⟨pes,pck,t1,t2,t3⟩:=h8.procs;have hl8:=h8.lt;refine gg ?_;refine g_mapU (a:=(g,vs[k].n,vs[k].procs[j].n)) t2 (by intro x hx;obtain⟨y,hy,rfl⟩:=List.mem_map.mp hx;exact t3 y hy) ⟨hgu,u2,u3 _ (List.getElem_mem hjlt)⟩ lookA λes9 ck9 hm9=>?_;refine(λ(Q:∀wa,Kp [(w4.heap.size+1,w4.heap.size+2)] w8 wa->∀wb,wb=ag wa (B+1) (.map es9 ck9)->Bi .add (i64 (j:Nat)) (.int .i64 1) λx103=>C2 [x103] wb)=>Q _ kpA _ rfl) ?_;rintro wa ka _ rfl;have za:=ka.size;have fr8:ρ8 (w4.heap.size+1)=(0,0):=(r8 _ omg).trans fr6
   have h9:=(h8.tmp ka omg fr8).Zu (l:=(Lt g vs[k].n xj vs[k].procs[j]).procs) (w':=ag wa (B+1) (.map es9 ck9)) kpA ⟨es9,ck9,aC rfl omg,by
    show MK κc es9 ck9 ((bK (jV vs[k].procs[j].arg (jV vs[k].procs[j].res xj)).procs (g,vs[k].n,vs[k].procs[j].n) ((jV vs[k].procs[j].res xj).L.length,xj.L.length,vs[k].procs[j].arg==.void,vs[k].procs[j].res==.void)).map λx=>(x.1,U7 x.2));rw[<- yY (f:=U7)];exact hm9,by
    intro x hx;rcases Du hx with hx|hx
    .exact t3 x hx
    .rw[hx];exact⟨hgu,u2,u3 _ (List.getElem_mem hjlt)⟩⟩
   refine gg ?_;have ek:vs[k].procs.take j++[vs[k].procs[j]]=vs[k].procs.take (j+1):=by rw[List.take_add_one,List.getElem?_eq_getElem hjlt];rfl
   refine hC2 (m2 - 1) _ _ omg ⟨j+1,ρ8,D4++D6++D8,rfl,omg,?_,λb hb=>(r8 b omg).trans ((r6 b omg).trans (r4 b hb)),?_⟩
   .have c1:Kd 5 B ρ3 w3 w6:=(k4.kp k5).trans k6 r4;have r46:Rx ρ3 ρ6 w3.heap.size:=λb hb=>(r6 b omg).trans (r4 b hb);have c2:Kd 5 B ρ3 w3 w7:=c1.kpx k7 (λi hi _=>⟨omg,trivial⟩);have c3:Kd 5 B ρ3 w3 w8:=c2.trans k8 r46;have c4:Kd 5 B ρ3 w3 wa:=c3.kpx ka (λi hi _=>⟨omg,trivial⟩);exact c4.kpx (X:=[(B+1,B+2)]) kpA (λi hi _=>⟨omg,trivial⟩)
   .have:T++D++(D4++D6++D8)=T++D++D4++D6++D8:=by simp only[List.append_assoc]
    rw[this,<- ek,FP,<- hxj];exact h9
  .have hjge:j=vs[k].procs.length:=by have:=of_decide_eq_false hc3;omega
   subst hjge;rw[List.take_length]at h4;refine gg ?_;have ek:vs.take k++[vs[k]]=vs.take (k+1):=by rw[List.take_add_one,List.getElem?_eq_getElem hlt];rfl
   have ev:iU g c (vs.take (k+1))=iW g vs[k].n x3 vs[k].procs:=by rw[<- ek,Ic,<- hxk,Pm,hx3,hlx]
   refine hC (n - 1) _ _ omg ⟨k+1,_,ρ4,D++D4,rfl,omg,(kL.trans kd3 rL).trans (k4.up omg) (λb hb=>(r3 b omg).trans (rL b hb)),λb hb=>(r4 b omg).trans ((r3 b omg).trans (rL b hb)),by rw[ev,<- List.append_assoc];exact h4,?_⟩;rw[ev,yN,hx3];intro x hx;rcases Du hx with hx|hx
   .have:=hvnL x hx;omega
   .rw[hx,List.length_append];simp only[List.length_cons,List.length_nil];omega
 .have hge:k=vs.length:=by have:=of_decide_eq_false hc;omega
  subst hge;rw[List.take_length]at hL;exact hR _ _ ⟨ρ',D,kL,rL,hL⟩
end Go.W.T
namespace Go.W.T
open Go Go.W Go.M Go.Proofs
def VW{β:Type}(B:Nat)(ρ:kG)(w:World)(m:Res β)(good:β->Value->World->Prop):Ending->World->Prop:=λen w'=>
 Kd 6 B ρ w w'/\match m with
  |.ok b=>∃v,en=.returned v/\good b v w'
  |.no e a=>∃ch,en=.panicked ch/\Flt e a ch w'
theorem VW.R
  (h:∀(R:Ending->World->Prop) (M:Res β),M=m->(∀b v w',M=.ok b->Kd 6 B ρ w w'->good b v w'->R (.returned v) w')->(∀e a ch w',M=.no e a->Kd 6 B ρ w w'->Flt e a ch w'->R (.panicked ch) w')->Calls P f args w R):
  Calls P f args w (VW B ρ w m good):=by
 refine h _ m rfl ?_ ?_
 .intro b v w' h1 h2 h3;refine⟨h2,?_⟩;rw[h1];exact⟨v,rfl,h3⟩
 .intro e a ch w' h1 h2 h3;refine⟨h2,?_⟩;rw[h1];exact⟨ch,rfl,h3⟩
theorem Cl.failD(h:∀ch w',Flt e a ch w'->Kp [] w w'->E ch w'):Cl P 68 #[i64 e,i64 a] w E K:=by
 refine Cl.by (Yi w e a) ?_ ?_ ?_
 .rintro v w' ⟨ch,h,_⟩;cases h
 .rintro ch w' ⟨ch',hc,hf,hk⟩;cases hc;exact h ch w' hf hk
 .rintro w' ⟨ch,h,_⟩;cases h
theorem Uw(l:List (Nat×By×Nat))(k:Nat)(hk:k<l.length):0+k*3+3<=(jZ l).length/\((jZ l).drop (0+k*3)).take 3=[i64 (l[k].1:Nat),κs l[k].2.1,i64 (l[k].2.2:Nat)]:=by
 induction l generalizing k with
 |nil=>exact absurd hk smp
 |cons x r ih=>
  have e:jZ (x::r)=[i64 (x.1:Nat),κs x.2.1,i64 (x.2.2:Nat)]++jZ r:=rfl;cases k with
  |zero=>rw[e];exact⟨smp,rfl⟩
  |succ k=>
   obtain⟨h1,h2⟩:=ih k (by simpa using hk);have e2:0+(k+1)*3=(0+k*3)+3:=omg;rw[e,e2];refine⟨lng,?_⟩;exact h2
theorem Wn(h:CR B H ρ T w c)(hcok:∀x∈c.calls,x.1<c.L.length)(hN:c.L.length<1000000):
  Calls P 66 #[pt (B+6) 0] w (VW B ρ w (gz c.start c.L c.calls) λL' _ w'=>L'.length=c.L.length/\CG6 B H ρ T w { c with L:=L' } w'):=by
 refine VW.R λR M hM hok hno=>?_;refine cf [11] Tryz.func66 ?_;have hl:=h.lt;obtain⟨v2,o2,b1,b2,b3⟩:=h.calls;obtain⟨ca,cc,rfl⟩:=b2.len;refine gg ?_;refine Lp.nat (n:=c.calls.length) (λn vals w'=>∃(k:Nat) (L':List Ins) (ρ':kG),vals=[i64 (k:Nat)]/\k+n=c.calls.length/\Kd 6 B ρ w w'/\Rx ρ ρ' w.heap.size/\CR B H ρ' T w' { c with L:=L' }/\L'.length=c.L.length/\Gw w' qJ 3 (.slice ca c.calls.length cc) c.calls.length (jZ c.calls) o2/\(∀b,o2=some b->ρ' b=(2,0))/\M=gz c.start L' (c.calls.drop k)) ?_ ?_
 .exact⟨0,c.L,ρ,rfl,omg,Kd.refl _ _ _ _,Rx.refl _ _,h,rfl,b2,b3,hM⟩
 rintro n _ wL jk C ⟨k,L',ρ',rfl,hkn,kL,rL,hL,hlen,hG,hGr,hML⟩ hC;have zL:=kL.size;have hlL:=hL.lt;have hcl:=h.uj;refine gg ?_;refine .split (λhc=>?_) (λhc=>?_)
 .have hlt:k<c.calls.length:=by have:=of_decide_eq_true hc;omega
  obtain⟨v3,o3,d1,d2,d3⟩:=hL.calls;obtain⟨vL,xy,lo,q1,q2,q3,q4⟩:=hL.L;obtain⟨es,ck,g1,g2⟩:=hL.start;obtain⟨cb,VJ,ccap,rfl,hcv,hcb⟩:=Gw.some hG omg;cases hcv;have hcr:=hGr cb rfl;have hcB:=hL.ge cb (by rw[hcr];simp);have hcbl:=lt_of_heap hcb;obtain⟨x1,x2⟩:=Uw c.calls k hlt;refine .s ?_;refine LdN.s ?_ hcb (by rw[List.length_append];omega) ((jG x1).trans x2);refine gg ?_;refine Lk.str g2 lookA ?_;rw[sW (λk:Nat=>i64 (k:Nat))];rw[List.drop_eq_getElem_cons hlt]at hML;have hkin:=hcok c.calls[k] (List.getElem_mem hlt);generalize c.calls[k]=kx at *;obtain⟨ka,ks,kf⟩:=kx;dsimp only at hkin hML;rw[gz]at hML;cases hlk:c.start.lookup ks with
  |none=>
   rw[hlk]at hML;refine gg ?_;refine Jn.by (λ_ _=>False) (λJ2 hJ2=>?_) (λ_ _ _ hf=>hf.elim);refine .s ?_;refine If.t ?_ rfl;refine gg ?_;refine(λ(Q:∀w9,Kp [] wL w9->Cl P 68 #[i64 7,i64 (kf:Nat)] w9 (pE R) _)=>Q _ kpA) ?_;intro w9 k9;exact Cl.failD λch w' hf hk=>hno _ _ _ _ hML ((kL.kp k9).kp hk) hf
  |some t=>
   rw[hlk]at hML;refine gg ?_;refine Jn.direct ?_;refine .s ?_;refine If.f ?_ rfl;intro jk2;obtain⟨lb,Vm,lcap,rfl,rfl,hlb⟩:=Gw.some q2 (by show 0<L'.length;omega);have hlbr:=q4 lb rfl;have hlbB:=hL.ge lb (by rw[hlbr];simp);have hlbl:=lt_of_heap hlb;have hka:ka<L'.length:=omg;refine gg ?_;obtain⟨⟨y,hy⟩,hset⟩:=jC.lH (x:=(t:Nat)) q3 hka;have hyl:0+ka*7+2<xy.length:=by
    rcases Nat.lt_or_ge (0+ka*7+2) xy.length with h|h
    .exact h
    .rw[List.getElem?_eq_none h]at hy;cases hy
   refine(λ(Q:∀w9,Kp [] wL w9->St (pt lb (0+ka*7+2)) (i64 (t:Nat)) w9 λw41=>Bi .add (i64 (k:Nat)) (.int .i64 1) λx42=>C [x42] w41)=>Q _ kpA) ?_;intro w9 k9;have hlb9:w9.heap[lb]?=some (cl (xy++Vm) dB):=(k9.same _ hlbl trivial).trans hlb;refine St.set hlb9 (y:=y) (by rw[List.getElem?_append_left hyl];exact hy) rfl ?_;rw[List.set_append_left _ _ hyl];refine(λ(Q:∀wa,Kp [(lb,lb+1)] w9 wa/\wa.heap[lb]?=some (cl (xy.set (0+ka*7+2) (i64 (t:Nat))++Vm) dB)->Bi .add (i64 (k:Nat)) (.int .i64 1) λx42=>C [x42] wa)=>Q _ ⟨kpA,by exact aC rfl (lt_of_heap hlb9)⟩) ?_;rintro wa ⟨ka2,ca2⟩;have h9:=hL.ext k9;have g1':Gw wa dB 7 (.slice (some ⟨lb,0,none⟩) L'.length lcap) (L'.modify ka λi=>{ i with to:=(t:Nat) }).length (xy.set (0+ka*7+2) (i64 (t:Nat))) (some lb):=by
    obtain⟨x1,r2,c2,x2,x3,x4⟩:=q2;rw[List.length_modify];refine⟨by rw[List.length_set];exact x1,Vm,lcap,rfl,ca2,?_⟩;cases x2;rw[hlb]at x3;have:xy++Vm=xy++r2:=by
     have:=Option.some.inj x3;simpa using this
    have:=List.append_cancel_left this;rw[List.length_set,this];exact x4
   have q1':=(ka2.same (B+3) (by have:=k9.size;omega) ⟨omg,trivial⟩).trans ((k9.same _ omg trivial).trans q1);have hfin:=h9.newL (L':=L'.modify ka λi=>{ i with to:=(t:Nat) }) q4 (ka2.mono λi _ ho=>ho.2) q1' g1' hset (Or.inl rfl) (by show c.calls.length<=_;rw[List.length_modify];omega);have hrr:Rx ρ' (iV ρ' (some lb) (1,0)) w9.heap.size:=rE q4 (Or.inl rfl);refine gg ?_;refine hC (n - 1) _ _ omg ⟨k+1,L'.modify ka λi=>{ i with to:=(t:Nat) },iV ρ' (some lb) (1,0),rfl,omg,?_,λb hb=>(hrr b (by have:=k9.size;omega)).trans (rL b hb),hfin,by rw[List.length_modify];exact hlen,?_,?_,hML⟩
   .exact(kL.kp k9).trans (Kp.kc (ρ:=ρ') ka2 (λi hi hx=>⟨by
     by_cases e:i=lb
     .subst e;rcases hx with hx|⟨_,hx⟩
      .omega
      .rw[hlbr]at hx;simp at hx
     .omega,trivial⟩)) rL
   .refine(hG.kp k9 (λ_ _=>trivial)).kp ka2 (λb hb=>⟨?_,trivial⟩);have:=hGr b hb
    by_cases e:b=lb
    .subst e;rw[hlbr]at this;cases this
    .omega
   .intro b hb;rw[hrr b (by cases hb;have:=k9.size;omega)];exact hGr b hb
 .have hge:k=c.calls.length:=by have:=of_decide_eq_false hc;omega
  subst hge;rw[List.drop_length,gz]at hML;exact hok _ _ _ hML kL ⟨hlen,ρ',[],kL,rL,by rw[List.append_nil];exact hL⟩
end Go.W.T
namespace Go.W.T
open Go Go.W Go.M Go.Proofs
structure EW (Dp E mb:Nat) (H:Hp) (goal:By) (defs:List (By×Def)) (w:World) (x:Seen):Prop where
 sub:Sub H w
 dom:∀b z,H b=some z->b<Dp
 hmb:mb<Dp
 hD:Dp<=E
 dm:∃es ck m,w.heap[mb]?=some (.map es ck)/\MK κs es ck m/\wC H m defs
 d:w.heap[Dp]?=some (cl [.map (some mb)] kP)
 g:w.heap[E+1]?=some (cl [.string (bs goal)] oH)
 sm:∃es ck,w.heap[E+2]?=some (.map es ck)/\MK κs es ck (x.seen.map λs=>(s,i64 1))
 s:w.heap[E+3]?=some (cl [.map (some (E+2))] 159)
 f:w.heap[E+4]?=some (cl [.bool x.found] 4)
 t:w.heap[E+5]?=some (cl [.func (.func 113) #[] #[pt (E+1) 0,pt (E+4) 0,pt (E+3) 0,pt (E+6) 0,pt Dp 0,pt (E+5) 0]] 246)
 v:w.heap[E+6]?=some (cl [.func (.func 114) #[] #[pt (E+5) 0]] 174)
 lt:E+7<=w.heap.size
theorem EW.kp(h:EW Dp E mb H goal defs w x)(k:Kp [] w w'):EW Dp E mb H goal defs w' x:=by
 have hl:=h.lt;have hs:∀i,i<E+7->w'.heap[i]?=w.heap[i]?:=λi hi=>k.same i omg trivial;have hm:=h.hmb;have hD:=h.hD;obtain⟨es,ck,m,d1,d2,d3⟩:=h.dm;obtain⟨es2,ck2,s1,s2⟩:=h.sm
 exact⟨h.sub.kp k (λ_ _ _=>trivial),h.dom,h.hmb,h.hD,⟨es,ck,m,(hs _ omg).trans d1,d2,d3⟩,(hs _ omg).trans h.d,(hs _ omg).trans h.g,⟨es2,ck2,(hs _ omg).trans s1,s2⟩,
  (hs _ omg).trans h.s,(hs _ omg).trans h.f,(hs _ omg).trans h.t,(hs _ omg).trans h.v,by have:=k.size;omega⟩
abbrev EX(E:Nat):List (Nat×Nat):=[(E+2,E+3),(E+4,E+5)]
def VV(Dp E mb:Nat)(H:Hp)(goal:By)(defs:List (By×Def))(k:Nat):Prop:=
 ∀(t:Ty) (x y:Seen) (v:Value) (w:World),through defs goal k t x=some y->EW Dp E mb H goal defs w x->lq H t v ->
  Calls P 113 #[v,pt (E+1) 0,pt (E+4) 0,pt (E+3) 0,pt (E+6) 0,pt Dp 0,pt (E+5) 0] w (Ret λ_ w'=>EW Dp E mb H goal defs w' y/\Kp (EX E) w w')
def aaN(Dp E mb:Nat)(H:Hp)(goal:By)(defs:List (By×Def))(k:Nat):Prop:=
 ∀(d:Option Def) (x y:Seen) (v:Value) (w:World),visit defs goal k d x=some y->EW Dp E mb H goal defs w x->(match d with|none=>v=.nilIface|some d=>jH H d v/\kV d=true) ->
  Calls P 114 #[v,pt (E+5) 0] w (Ret λ_ w'=>EW Dp E mb H goal defs w' y/\Kp (EX E) w w')
theorem F6(l:List By)(a:By):(l.map λs=>(s,i64 1)).lookup a=if l.contains a then some (i64 1)else none:=by
 induction l with
 |nil=>rfl
 |cons x r ih=>
  simp only[List.map_cons,List.lookup_cons,List.contains_cons];cases h:a==x with
  |true=>simp
  |false=>simpa using ih
theorem Yx(hsm:∀x∈defs,kV x.2=true)(hT:VV Dp E mb H goal defs k)(hV:aaN Dp E mb H goal defs k):VV Dp E mb H goal defs (k+1):=by
 intro t x y v w hm hw ht;refine Ret.R λR hR=>?_;refine cf [] Tryz.func113 ?_;have hl:=hw.lt;have e1:=hw.g;have e2:=hw.d;have e3:=hw.s;have e4:=hw.f;have e5:=hw.t;have e6:=hw.v;have hmb:=hw.hmb;have hDE:=hw.hD;cases t with
 |basic s=>
  have hv:v=_:=ht;subst hv;have hxy:x=y:=by simpa [through] using hm
  subst hxy;refine gg ?_;exact hR _ _ ⟨hw,Kp.refl _ _⟩
 |bytes a b n=>
  have hv:v=_:=ht;subst hv;have hxy:x=y:=by simpa [through] using hm
  subst hxy;refine gg ?_;exact hR _ _ ⟨hw,Kp.refl _ _⟩
 |opt t=>
  obtain⟨u,rfl,hu⟩:=ht;have hxy:x=y:=by simpa [through] using hm
  subst hxy;refine gg ?_;exact hR _ _ ⟨hw,Kp.refl _ _⟩
 |void=>
  have hv:v=_:=ht;subst hv;have hxy:x=y:=by simpa [through] using hm
  subst hxy;refine gg ?_;exact hR _ _ ⟨hw,Kp.refl _ _⟩
 |array t f n=>
  obtain⟨u,rfl,hu⟩:=ht;obtain⟨ui,uu,rfl⟩:=hu.form;rw[through]at hm;cases f with
  |false=>
   simp only[Bool.false_eq_true,if_false]at hm;cases hm;refine gg ?_;exact hR _ _ ⟨hw.kp kpA,kpA⟩
  |true=>
   rw[if_pos rfl]at hm;refine gg ?_;refine oC.f (by kernel_rfl) ?_;refine(λ(Q:∀w9,Kp [] w w9->Cl P 113 #[.iface ui uu,pt (E+1) 0,pt (E+4) 0,pt (E+3) 0,pt (E+6) 0,pt Dp 0,pt (E+5) 0] w9 (pE R) λx43 w44=>R (.returned (.tuple #[])) w44)=>Q _ kpA) ?_;intro w9 k9;refine Cl.ret (hT t x y _ w9 hm (hw.kp k9) hu) ?_;rintro v2 w2 ⟨hw2,k2⟩;exact hR _ _ ⟨hw2,k9.trans k2 (λi _ ho=>⟨trivial,ho⟩)⟩
 |named s a=>
  obtain⟨b,rfl,hb⟩:=ht;have hb0:=hw.sub _ _ _ hb;have hbd:=hw.dom _ _ hb;obtain⟨es2,ck2,s1,s2⟩:=hw.sm;obtain⟨es,ck,m,d1,d2,d3⟩:=hw.dm
  have hmm:(if(if s==goal then { x with found:=true }else x).seen.contains s then some (if s==goal then { x with found:=true }else x)else
    visit defs goal k (defs.lookup s) { (if s==goal then { x with found:=true }else x)with seen:=(if s==goal then { x with found:=true }else x).seen++[s] })=some y:=by
   rw[through]at hm;exact hm
  clear hm;refine gg ?_;refine Jn.by (λ_ w'=>EW Dp E mb H goal defs w' (if s==goal then { x with found:=true }else x)/\Kp (EX E) w w') (λJ hJ=>?_) ?_
  .refine gg ?_;cases hs:s==goal with
   |true=>
    rw[hs]at hJ;have hsb:(s==goal)=true:=hs;refine gg ?_;refine(λ(Q:∀w9,Kp [(E+4,E+5)] w w9/\w9.heap[E+4]?=some (cl [.bool true] 4)->J [] w9)=>Q _ ⟨kpA,lookA⟩) ?_;rintro w9 ⟨k9,f9⟩;have hs9:∀i,i<E+7->i≠E+4->w9.heap[i]?=w.heap[i]?:=λi hi hn=>k9.same i omg ⟨omg,trivial⟩;refine hJ _ _ ⟨?_,k9.mono λi _ ho=>⟨ho.2.1,trivial⟩⟩;rw[if_pos rfl]
    exact⟨hw.sub.kp k9 (λb z hz=>⟨by have:=hw.dom b z hz;omega,trivial⟩),hw.dom,hw.hmb,hw.hD,⟨es,ck,m,(hs9 _ omg omg).trans d1,d2,d3⟩,(hs9 _ omg omg).trans e2,(hs9 _ omg omg).trans e1,⟨es2,ck2,(hs9 _ omg omg).trans s1,s2⟩,
     (hs9 _ omg omg).trans e3,f9,(hs9 _ omg omg).trans e5,(hs9 _ omg omg).trans e6,by have:=k9.size;omega⟩
   |false=>
    rw[hs]at hJ;have hsb:(s==goal)=false:=hs;refine gg ?_;exact hJ _ _ ⟨by rw[if_neg dcd];exact hw.kp kpA,kpA⟩
  rintro _ w1 jk ⟨hw1,k1⟩;generalize (if s==goal then { x with found:=true }else x)=x1 at *;have hl1:=hw1.lt;have hb1:=hw1.sub _ _ _ hb;obtain⟨es3,ck3,s3,s4⟩:=hw1.sm;obtain⟨es4,ck4,m4,d4,d5,d6⟩:=hw1.dm;have g3:=hw1.s;have g2:=hw1.d;have g6:=hw1.v;have g1:=hw1.g;have g4:=hw1.f;have g5:=hw1.t;have hz1:=k1.size;refine gg ?_;refine Lk.str0 s4 lookA ?_;rw[F6];cases hc:x1.seen.contains s with
  |true=>
   rw[hc,if_pos rfl]at hmm;cases hmm;refine gg ?_;exact hR _ _ ⟨hw1.kp kpA,kpA⟩
  |false=>
   rw[hc,if_neg dcd]at hmm;refine gg ?_;refine Mu.str s4 lookA λes5 ck5 hm5=>?_;have k9:Kp [(E+2,E+3)] w1 (ag w1.drew.drew (E+2) (.map es5 ck5)):=by exact kpA
   have f9:(ag w1.drew.drew (E+2) (.map es5 ck5)).heap[E+2]?=some (.map es5 ck5):=aC rfl (by simp only[size_drew];omega);generalize ag w1.drew.drew (E+2) (.map es5 ck5)=w9 at *;have hs9:∀i,i<E+7->i≠E+2->w9.heap[i]?=w1.heap[i]?:=λi hi hn=>k9.same i omg ⟨omg,trivial⟩;have hm6:MK κs es5 ck5 ((x1.seen++[s]).map λs=>(s,i64 1)):=by
    rw[zY _ (by rw[F6,hc];rfl)]at hm5;rw[List.map_append];exact hm5
   have hw9:EW Dp E mb H goal defs w9 { x1 with seen:=x1.seen++[s] }:=
    ⟨hw1.sub.kp k9 (λb z hz=>⟨by have:=hw1.dom b z hz;omega,trivial⟩),hw1.dom,hw1.hmb,hw1.hD,⟨es4,ck4,m4,(hs9 _ omg omg).trans d4,d5,d6⟩,(hs9 _ omg omg).trans g2,(hs9 _ omg omg).trans g1,⟨es5,ck5,f9,hm6⟩,
     (hs9 _ omg omg).trans g3,(hs9 _ omg omg).trans g4,(hs9 _ omg omg).trans g5,(hs9 _ omg omg).trans g6,by have:=k9.size;omega⟩
   have hb9:=hw9.sub _ _ _ hb;have q2:=hw9.d;have q6:=hw9.v;obtain⟨es7,ck7,m7,d7,d8,d9⟩:=hw9.dm;have hz9:=k9.size;refine gg ?_;refine Lk.str0 d8 lookA ?_;have hdv:match defs.lookup s with|none=>(m7.lookup s).getD .nilIface=.nilIface|some d=>jH H d ((m7.lookup s).getD .nilIface)/\kV d=true:=by
    rcases d9.lookup s with⟨y1,y2⟩|⟨v,d,y1,y2,y3⟩
    .rw[y1,y2];rfl
    .rw[y1,y2];refine⟨y3,?_⟩;obtain⟨l1,l2,hh,_⟩:=List.lookup_eq_some_iff.mp y2;exact hsm (s,d) (by rw[hh];simp)
   refine gg ?_;refine oC.f (by kernel_rfl) ?_;refine Cl.ret (hV (defs.lookup s) _ y _ w9.drew hmm (hw9.kp kpA) hdv) ?_;rintro v2 w2 ⟨hw2,k2⟩;refine hR _ _ ⟨hw2,?_⟩;have y1:Kp (EX E) w w9:=k1.trans k9 (λi _ ho=>⟨ho,ho.1,trivial⟩);exact y1.drew.trans k2 (λi _ ho=>⟨ho,ho⟩)
def VisAll(Dp E mb:Nat)(H:Hp)(goal:By)(defs:List (By×Def))(k:Nat):Prop:=∀j,j<=k->VV Dp E mb H goal defs j
theorem uU(h:fQ defs goal k (t::r) x=some y):∃j z,k=j+1/\through defs goal j t x=some z/\fQ defs goal j r z=some y:=by
 cases k with
 |zero=>rw[fQ]at h;cases h
 |succ j=>
  rw[fQ]at h;cases hz:through defs goal j t x with
  |none=>rw[hz]at h;cases h
  |some z=>rw[hz]at h;exact⟨j,z,rfl,hz,h⟩
theorem wF(h:fQ defs goal k [] x=some y):x=y:=by
 cases k with
 |zero=>rw[fQ]at h;cases h
 |succ j=>rw[fQ]at h;cases h;rfl
theorem Yk(hT:VisAll Dp E mb H goal defs k):aaN Dp E mb H goal defs (k+1):=by
 intro d x y v w hm hw hd;refine Ret.R λR hR=>?_;refine cf [28,45] Tryz.func114 ?_;have hl:=hw.lt;have e5:=hw.t;cases d with
 |none=>
  cases hd;have hxy:x=y:=by simpa [visit] using hm
  subst hxy;refine gg ?_;exact hR _ _ ⟨hw,Kp.refl _ _⟩
 |some d=>
  obtain⟨hd,hsm⟩:=hd;obtain⟨nm,at_,dk⟩:=d;cases dk with
  |const n=>
   obtain⟨b,rfl,h2⟩:=hd;have hxy:x=y:=by simpa [visit] using hm
   subst hxy;refine gg ?_;exact hR _ _ ⟨hw,Kp.refl _ _⟩
  |enum ns is=>
   obtain⟨b,u,z,rfl,h2,_⟩:=hd;have hxy:x=y:=by simpa [visit] using hm
   subst hxy;refine gg ?_;exact hR _ _ ⟨hw,Kp.refl _ _⟩
  |prog n vs=>
   obtain⟨b,u,l,rfl,h2,_⟩:=hd;have hxy:x=y:=by simpa [visit] using hm
   subst hxy;refine gg ?_;exact hR _ _ ⟨hw,Kp.refl _ _⟩
  |alias t=>
   obtain⟨b,u,rfl,h2,ht⟩:=hd;have hb0:=hw.sub _ _ _ h2;rw[visit]at hm;dsimp only at hm;refine gg ?_;refine oC.f (by kernel_rfl) ?_;refine Cl.ret (hT k (Nat.le_refl _) t x y _ w.drew hm (hw.kp kpA) ht) ?_;rintro v2 w2 ⟨hw2,k2⟩;exact hR _ _ ⟨hw2,(by exact kpA:Kp [] w w.drew).trans k2 (λi _ ho=>⟨trivial,ho⟩)⟩
  |struct ds=>
   obtain⟨b,u,l,rfl,h2,hdl,hs1⟩:=hd;obtain⟨pb,pr,pc,rfl,hpb⟩:=hs1;have hb0:=hw.sub _ _ _ h2;have hdsl:ds.length<1000000:=of_decide_eq_true hsm;rw[visit]at hm;dsimp only at hm;refine gg ?_;refine Lp.nat (n:=ds.length) (λn vals w'=>∃(i j:Nat) (z:Seen),vals=[i64 (i:Nat)]/\i+n=ds.length/\j<=k/\fQ defs goal j ((ds.drop i).map (·.ty)) z=some y/\EW Dp E mb H goal defs w' z/\Kp (EX E) w w') ?_ ?_
   .exact⟨0,k,x,rfl,omg,Nat.le_refl _,hm,hw,Kp.refl _ _⟩
   rintro n _ wL jk C ⟨i,j,z,rfl,hin,hj,hz,hwL,kL⟩ hC;have hpL:=hwL.sub _ _ _ hpb;have hpd:=hwL.dom _ _ hpb;have hDE:=hw.hD;have e5L:=hwL.t;have hlL:=hwL.lt;have hpbl:=lt_of_heap hpL;refine gg ?_;refine .split (λhc=>?_) (λhc=>?_)
   .have hlt:i<ds.length:=by have:=of_decide_eq_true hc;omega
    obtain⟨tv,q1,q2,q3⟩:=hdl.at i hlt;obtain⟨ti,tu,rfl⟩:=q3.form;rw[List.drop_eq_getElem_cons hlt,List.map_cons]at hz;obtain⟨j',z',rfl,hz1,hz2⟩:=uU hz;refine .s ?_;refine LdN.s ?_ hpL (by rw[List.length_append];omega) ((jG q1).trans q2);refine gg ?_;refine oC.f (by kernel_rfl) ?_;refine Cl.w (λw9=>Kp [] wL w9) kpA ?_;intro w9 k9;refine Cl.ret (hT j' omg ds[i].ty z z' _ w9 hz1 (hwL.kp k9) q3) ?_;rintro v2 w2 ⟨hw2,k2⟩;refine gg ?_;exact hC (n - 1) _ _ omg ⟨i+1,j',z',rfl,omg,omg,hz2,hw2,(kL.trans k9 (λi _ ho=>⟨ho,trivial⟩):Kp (EX E) w w9).trans k2 (λi _ ho=>⟨ho,ho⟩)⟩
   .have hge:i=ds.length:=by have:=of_decide_eq_false hc;omega
    subst hge;rw[List.drop_length,List.map_nil]at hz;have:=wF hz;subst this;exact hR _ _ ⟨hwL,kL⟩
  |union o nm2 ar els=>
   obtain⟨b,ov,u,l,ev,rfl,h2,ho,ha,hs1,hels⟩:=hd;have Vx:VX H els ev:=by
    cases els with
    |none=>exact hels
    |some x=>exact hels
   obtain⟨pb,pr,pc,rfl,hpb⟩:=hs1;have hb0:=hw.sub _ _ _ h2;have hb0d:=hw.dom _ _ h2;have hdsl:ar.length<1000000:=by
    have:(decide (ar.length<1000000)&&ar.all λa=>decide (a.nums.length<1000000))=true:=hsm;rw[Bool.and_eq_true]at this;exact of_decide_eq_true this.1
   rw[visit]at hm;dsimp only at hm;refine gg ?_;refine Lp.nat (n:=ar.length) (λn vals w'=>∃(i j:Nat) (z:Seen),vals=[i64 (i:Nat)]/\i+n=ar.length/\j<=k/\fQ defs goal j ((ar.drop i).map (·.decl.ty)++(els.map (·.ty)).toList) z=some y/\EW Dp E mb H goal defs w' z/\Kp (EX E) w w') ?_ ?_
   .exact⟨0,k,x,rfl,omg,Nat.le_refl _,hm,hw,Kp.refl _ _⟩
   rintro n _ wL jk C ⟨i,j,z,rfl,hin,hj,hz,hwL,kL⟩ hC;have hpL:=hwL.sub _ _ _ hpb;have hbL:=hwL.sub _ _ _ h2;have hpd:=hwL.dom _ _ hpb;have hDE:=hw.hD;have e5L:=hwL.t;have hlL:=hwL.lt;have hpbl:=lt_of_heap hpL;refine gg ?_;refine .split (λhc=>?_) (λhc=>?_)
   .have hlt:i<ar.length:=by have:=of_decide_eq_true hc;omega
    obtain⟨nsv,tv,q1,q2,q4,q3⟩:=ha.at i hlt;obtain⟨ti,tu,rfl⟩:=q3.form;obtain⟨_,_,_,rfl,_⟩:=q4;rw[List.drop_eq_getElem_cons hlt,List.map_cons,List.cons_append]at hz;obtain⟨j',z',rfl,hz1,hz2⟩:=uU hz;refine .s ?_;refine LdN.s ?_ hpL (by rw[List.length_append];omega) ((jG q1).trans q2);refine gg ?_;refine oC.f (by kernel_rfl) ?_;refine Cl.w (λw9=>Kp [] wL w9) kpA ?_;intro w9 k9;refine Cl.ret (hT j' omg ar[i].decl.ty z z' _ w9 hz1 (hwL.kp k9) q3) ?_;rintro v2 w2 ⟨hw2,k2⟩;refine gg ?_;exact hC (n - 1) _ _ omg ⟨i+1,j',z',rfl,omg,omg,hz2,hw2,(kL.trans k9 (λi _ ho=>⟨ho,trivial⟩):Kp (EX E) w w9).trans k2 (λi _ ho=>⟨ho,ho⟩)⟩
   .have hge:i=ar.length:=by have:=of_decide_eq_false hc;omega
    subst hge;rw[List.drop_length,List.map_nil,List.nil_append]at hz;cases els with
    |none=>
     cases Vx;have:=wF hz;subst this;refine gg ?_;exact hR _ _ ⟨hwL,kL⟩
    |some d=>
     obtain⟨dc,dt,rfl,hdc,hdt⟩:=Vx;have hz':fQ defs goal j [d.ty] z=some y:=hz;obtain⟨j',z',rfl,hz1,hz2⟩:=uU hz';have:=wF hz2;subst this;have hdc0:=hwL.sub _ _ _ hdc;refine vI ?_;refine En.s (b:=false) ?_ rfl;refine gg ?_;refine oC.f (by kernel_rfl) ?_;refine Cl.ret (hT j' omg d.ty z z' _ wL.drew hz1 (hwL.kp kpA) hdt) ?_;rintro v2 w2 ⟨hw2,k2⟩;exact hR _ _ ⟨hw2,(kL.drew:Kp (EX E) w wL.drew).trans k2 (λi _ ho=>⟨ho,ho⟩)⟩
theorem aaL(hsm:∀x∈defs,kV x.2=true):∀k,(∀j,j<=k->VV Dp E mb H goal defs j)/\aaN Dp E mb H goal defs k
 |0=>by
  refine⟨λj hj=>?_,?_⟩
  .have:j=0:=omg;subst this;intro t x y v w hm;rw[through]at hm;cases hm
  .intro d x y v w hm;rw[visit]at hm;cases hm
 |k+1=>by
  obtain⟨h1,h2⟩:=aaL hsm k;refine⟨λj hj=>?_,Yk h1⟩;rcases Nat.lt_or_ge j (k+1)with h|h
  .exact h1 j omg
  .have:j=k+1:=omg;subst this;exact Yx hsm (h1 k (Nat.le_refl _)) h2
theorem Wq(hs:Sub H w)(hdom:∀b z,H b=some z->b<w.heap.size)(hmb:mb<w.heap.size)
  (hdm:∃es ck m,w.heap[mb]?=some (.map es ck)/\MK κs es ck m/\wC H m defs) (hsm:∀x∈defs,kV x.2=true) (hd:jH H d v) (hds:kV d=true) (hm:endless defs d=some b):
  Calls P 67 #[.map (some mb),v] w (Ret λr w'=>r=.bool b/\Kp [] w w'):=by
 refine Ret.R λR hR=>?_;refine cf [] Tryz.func67 ?_;obtain⟨y,hy,rfl⟩:∃y,visit defs d.name 1000 (some d) ⟨[],false⟩=some y/\y.found=b:=by
  unfold endless at hm;cases hx:visit defs d.name 1000 (some d) ⟨[],false⟩with
  |none=>rw[hx]at hm;cases hm
  |some y=>rw[hx]at hm;exact⟨y,rfl,by simpa using hm⟩
 refine gg ?_;refine Ad hd (hs.kp (X:=[]) kpA (λ_ _ _=>trivial)) ?_;refine Cl.ret (GU _ _) ?_;rintro _ w1 ⟨rfl,k1⟩;have z1:=k1.size;rw[size_alloc]at z1;have dd1:w1.heap[w.heap.size]?=some (cl [.map (some mb)] kP):=by exact lookA
 obtain⟨es,ck,m,d1,d2,d3⟩:=hdm;refine gg ?_;obtain⟨E,hE⟩:∃E,w1.heap.size=E+1:=⟨w1.heap.size - 1,omg⟩;refine oC.f (by kernel_rfl) ?_
 refine Cl.w (λw9=>Kp [] w w9/\w9.heap[w.heap.size]?=some (cl [.map (some mb)] kP)/\w9.heap[w1.heap.size]?=some (cl [.string (bs d.name)] oH)/\w9.heap[w1.heap.size+1]?=some (.map #[] 0)/\w9.heap[w1.heap.size+1+1]?=some (cl [.map (some (w1.heap.size+1))] 159) /\
  w9.heap[w1.heap.size+1+1+1]?=some (cl [.bool false] 4)/\w9.heap[w1.heap.size+1+1+1+1]?=some (cl [.func (.func 113) #[] #[pt w1.heap.size 0,pt (w1.heap.size+1+1+1) 0,pt (w1.heap.size+1+1) 0,pt (w1.heap.size+1+1+1+1+1) 0,pt w.heap.size 0,pt (w1.heap.size+1+1+1+1) 0]] 246) /\
  w9.heap[w1.heap.size+1+1+1+1+1]?=some (cl [.func (.func 114) #[] #[pt (w1.heap.size+1+1+1+1) 0]] 174)) ⟨kpA,lookA,lookA,lookA,lookA,lookA,lookA,lookA⟩ ?_
 rintro w2 ⟨k2,f0,f1,f2,f3,f4,f5,f6⟩;rw[hE]at f1 f2 f3 f4 f5 f6;have hw2:EW w.heap.size E mb H d.name defs w2 ⟨[],false⟩:=by
  refine⟨hs.kp k2 (λ_ _ _=>trivial),hdom,hmb,omg,⟨es,ck,m,(k2.same _ hmb trivial).trans d1,d2,d3⟩,f0,f1,⟨#[],0,f2,MK.empty⟩,f3,f4,f5,f6,by have:=lt_of_heap f6;omega⟩
 have eE:(#[]++#[v]++#[pt (w1.heap.size+1+1+1+1) 0]:Array Value)=#[v,pt (E+5) 0]:=by rw[hE];rfl
 rw[eE];refine Cl.ret ((aaL hsm 1000).2 (some d) _ y v w2 hy hw2 ⟨hd,hds⟩) ?_;rintro v3 w3 ⟨hw3,k3⟩;have hf3:=hw3.f;have eF:w1.heap.size+1+1+1=E+4:=omg;rw[eF];refine gg ?_;exact hR _ _ ⟨rfl,k2.trans k3 (λi hi _=>⟨trivial,omg,omg,trivial⟩)⟩
end Go.W.T
set_option maxRecDepth 4000
namespace Go.W.T
open Go Go.W Go.M Go.Proofs
theorem Yq:P.underlying 159=some (.map 9 3):=by kernel_rfl
theorem acy(h:w.heap[b]?=some (.map es ck))(hK:K (pt w.heap.size 0) (w.alloc (.mapIter (some b) ck #[] ck))):fF P (Instr.range 159 (.map (some b))) w K:=by
 refine fF.by (v:=pt w.heap.size 0) (w':=w.alloc (.mapIter (some b) ck #[] ck)) ?_ hK;have hg:(getObj b).run P w=.ok (.map es ck) w:=by simp[getObj,Sem.run,h]
 simp[Instr.range,run_underlying Yq,hg,Result.andThen]
theorem g_next{w:World}{it b:Nat}{es:Array MapEntry}{ck:Nat}{seen:Array Nat}{K:KV}(h:w.heap[b]?=some (.map es ck))(hi:w.heap[it]?=some (.mapIter (some b) ck seen ck))(hs:MapKept.Stamped es ck)
  (hend:(∀e∈es.toList,seen.contains e.born=true)->K (.tuple #[.bool false]) w)
  (hK:∀e∈es.toList,seen.contains e.born=false->∀w1,w1=w\/w1=w.drew->K (.tuple #[.bool true,e.key,e.val]) (ag w1 it (.mapIter (some b) ck (seen.push e.born) ck))):fF P (Instr.next (pt it 0) false 0) w K:=by
 have hg:(getObj b).run P w=.ok (.map es ck) w:=by simp[getObj,Sem.run,h]
 have hgi:(getObj it).run P w=.ok (.mapIter (some b) ck seen ck) w:=by simp[getObj,Sem.run,hi]
 have hun:(!seen.isEmpty&&!es.isEmpty&&es.all λx=>decide (x.born>=ck))=false:=by
  cases he:es.isEmpty with
  |true=>simp
  |false=>
   have:es.all (λx=>decide (x.born>=ck))=false:=by
    rw[Bool.eq_false_iff];intro h1;rw[Array.all_eq_true_iff_forall_mem]at h1;have h2:0<es.size:=by
     rcases Nat.eq_zero_or_pos es.size with h3|h3
     .have:es=#[]:=Array.eq_empty_of_size_eq_zero h3;rw[this]at he;cases he
     .exact h3
    have h3:=of_decide_eq_true (h1 es[0] (Array.getElem_mem h2));have h4:=hs.1 es[0] smp;omega
   rw[this];simp
 have hold:((es.filter λe=>!seen.contains e.born).filter λe=>decide (e.born<ck))=es.filter λe=>!seen.contains e.born:=by
  apply Array.filter_eq_self.mpr;intro x hx;have:=(Array.mem_filter.mp hx).1;exact decide_eq_true (hs.1 x (by simpa using this))
 have hnew:((es.filter λe=>!seen.contains e.born).filter λe=>decide (e.born>=ck))=#[]:=by
  apply Array.filter_eq_empty_iff.mpr;intro x hx;have:=(Array.mem_filter.mp hx).1;have h4:=hs.1 x (by simpa using this);simp;omega
 have hch:∀n:Nat,0<n->∃i w1,i<n/\(w1=w\/w1=w.drew)/\(n=1->w1=w)/\(choose (.mapNext n)).run P w=.ok i w1:=λn hn=>by
  by_cases h1:n<=1
  .refine⟨0,w,hn,Or.inl rfl,λ_=>rfl,?_⟩;have hf:(Question.mapNext n).forced=true:=by simpa [Question.forced] using h1
   simp[choose,Sem.run,hf]
  .refine⟨(w.tape w.drawn (.mapNext n)) % n,w.drew,Nat.mod_lt _ hn,Or.inr rfl,λh=>omg,?_⟩;have hf:(Question.mapNext n).forced=false:=by simpa [Question.forced] using h1
   simp only[choose,Sem.run,hf,Bool.false_eq_true,if_false];rfl
 have hmem:∀e,e∈(es.filter λe=>!seen.contains e.born)↔e∈es.toList/\seen.contains e.born=false:=λe=>by
  rw[Array.mem_filter];simp
 have hset:∀(w1:World) (o:Obj),w1.heap=w.heap->(setObj it o).run P w1=.ok () (ag w1 it o):=λw1 o e=>by
  have:w1.heap[it]?=some (.mapIter (some b) ck seen ck):=by rw[e];exact hi
  simp[setObj,Sem.run,this,ag]
 obtain⟨VO,hcd⟩:∃X,X=(if((es.filter λe=>!seen.contains e.born).filter λe=>decide (e.born<ck)).isEmpty then#[none]else#[])++(((es.filter λe=>!seen.contains e.born).filter λe=>decide (e.born<ck))++((es.filter λe=>!seen.contains e.born).filter λe=>decide (e.born>=ck))).map some:=⟨_,rfl⟩;have hcd2:=hcd;rw[hold,hnew,Array.append_empty]at hcd2;generalize hL:(es.filter λe=>!seen.contains e.born)=left at *;have hpos:0<VO.size:=by
  rw[hcd2];cases he:left.isEmpty with
  |true=>simp;omega
  |false=>
   have:0<left.size:=by
    rcases Nat.eq_zero_or_pos left.size with h3|h3
    .rw[Array.eq_empty_of_size_eq_zero h3]at he;cases he
    .exact h3
   simp;omega
 obtain⟨i,w1,hi1,hw1,hw2,hrun⟩:=hch VO.size hpos;refine⟨?_⟩;unfold SH Instr.next;simp only[Sem.run_bind,hgi,hg,Result.andThen];rw[hun];simp only[Bool.false_eq_true,if_false,hL,<- hcd,hrun,Sem.run_bind,Sem.run_pure,Result.andThen];cases he:left.isEmpty with
 |true=>
  have hl0:left=#[]:=by
   have:left.size=0:=by simpa [Array.isEmpty] using he
   exact Array.eq_empty_of_size_eq_zero this
  rw[he,hl0]at hcd2;have hc1:VO=#[none]:=by rw[hcd2];simp
  subst hc1;have hi0:i=0:=by simpa using hi1
  subst hi0;have hww:=hw2 rfl;subst hww;have hx0:(#[none]:Array (Option MapEntry))[0]?=some none:=rfl;rw[hx0];show K (.tuple #[.bool false]) w1;refine hend λe hee=>?_;cases hx:seen.contains e.born with
  |true=>rfl
  |false=>
   have:=(hmem e).mpr ⟨hee,hx⟩;rw[hl0]at this;simp at this
 |false=>
  rw[he]at hcd2;have hc1:VO=left.map some:=by rw[hcd2];simp
  subst hc1;have hil:i<left.size:=by simpa using hi1
  have hx:(left.map some)[i]?=some (some left[i]):=by simp[hil]
  rw[hx];have hm:=(hmem left[i]).mp (Array.getElem_mem hil);have hheap:w1.heap=w.heap:=by
   rcases hw1 with r|r<;>rw[r];rfl
  simp only[Sem.run_bind,hset w1 _ hheap,Result.andThen,Sem.run_pure];exact hK _ hm.1 hm.2 w1 hw1
theorem find_born:∀{l:List MapEntry},(l.map (·.born)).Nodup->e∈l->l.find? (λx=>x.born==e.born)=some e
 |[],_,h=>by cases h
 |x::r,hn,h=>by
  simp only[List.map_cons,List.nodup_cons]at hn;rw[List.find?_cons];cases hb:x.born==e.born with
  |true=>
   rcases List.mem_cons.mp h with h|h
   .rw[h]
   .exact absurd (by rw[beq_iff_eq.mp hb];exact List.mem_map.mpr ⟨e,h,rfl⟩) hn.1
  |false=>
   rcases List.mem_cons.mp h with h|h
   .rw[h,beq_self_eq_true]at hb;cases hb
   .exact find_born hn.2 h
theorem acA{w:World}{it b:Nat}{es:Array MapEntry}{ck:Nat}{seen:Array Nat}{e:MapEntry}{K:KV}(h:w.heap[b]?=some (.map es ck))(hi:w.heap[it]?=some (.mapIter (some b) ck (seen.push e.born) ck))(hs:MapKept.Stamped es ck)(he:e∈es.toList)
  (hK:K (.tuple #[e.key,e.val]) w):fF P (Instr.entry (pt it 0)) w K:=by
 refine fF.by (v:=.tuple #[e.key,e.val]) (w':=w) ?_ hK;have hg:(getObj b).run P w=.ok (.map es ck) w:=by simp[getObj,Sem.run,h]
 have hgi:(getObj it).run P w=.ok (.mapIter (some b) ck (seen.push e.born) ck) w:=by simp[getObj,Sem.run,hi]
 have hf:es.find? (λx=>x.born==e.born)=some e:=by
  rw[<- Array.find?_toList];exact find_born hs.2.1 he
 simp[Instr.entry,hg,hgi,hf,Result.andThen]
theorem CR.Zt(h:CR B H ρ T w c)(k:Kp [(B,B+1)] w w')(hm:∃es ck,w'.heap[B]?=some (.map es ck)/\MK κs es ck (l.map λx=>(x.1,i64 (x.2:Nat)))):
  CR B H ρ T w' { c with types:=l }:=by
 have hl:=h.lt;have hB:=h.hB;have hs:∀i,i<B+7->i≠B->w'.heap[i]?=w.heap[i]?:=λi hi hn=>k.same i omg ⟨omg,trivial⟩;have hk:∀b,ρ b≠(0,0)->Out [(B,B+1)] b:=λb hb=>⟨by have:=h.ge b hb;omega,trivial⟩;obtain⟨v,cells,o,a1,a2,a3,a4⟩:=h.L;obtain⟨v2,o2,b1,b2,b3⟩:=h.calls;obtain⟨es,ck,d1,d2⟩:=h.procs;obtain⟨es3,ck3,m3,e1,e2,e3⟩:=h.fA;obtain⟨es4,ck4,m4,f1,f2,f3⟩:=h.defs;obtain⟨es5,ck5,g1,g2⟩:=h.start
 exact { gl:=h.gl.kp k (λi hi=>⟨omg,trivial⟩),hB:=hB,sub:=h.sub.kp k (λb x hx=>⟨by have:=h.dom b x hx;omega,trivial⟩),dom:=h.dom,lt:=by have:=k.size;omega,
         free := λb hb => h.free b (by have := k.size; omega), low := h.low,
         L := ⟨v, cells, o, (hs _ omg omg).trans a1, a2.kp k (λb hb => hk b (by rw [a4 b hb]; simp)), a3, a4⟩,
         calls := ⟨v2, o2, (hs _ omg omg).trans b1, b2.kp k (λb hb => hk b (by rw [b3 b hb]; simp)), b3⟩,
         nN := h.nN, tabs := λi b l hb hl => by obtain ⟨x1, x2⟩ := h.tabs i b l hb hl; exact ⟨x1.kp k (hk b (by rw [x2]; simp)), x2⟩,
         types := hm, procs := ⟨es, ck, (hs _ omg omg).trans d1, d2⟩,
         fA := ⟨es3, ck3, m3, (hs _ omg omg).trans e1, e2, e3.kp k (λb hb _ _ => hk b hb)⟩,
         defs := ⟨es4, ck4, m4, (hs _ omg omg).trans f1, f2, f3⟩, start := ⟨es5, ck5, (hs _ omg omg).trans g1, g2⟩, uj := h.uj }
def QY:Value->By
 |.string s=>s.data.toList
 |_=>[]
theorem ZB(l:By):QY (κs l)=l:=rfl
end Go.W.T
set_option maxRecDepth 100000
namespace Go.W.T
open Go Go.W Go.M Go.Proofs
def CodeIn(n:Nat)(w:World)(c:CS)(v:Value):Prop:=∃B H ρ T,n<=B/\v=pt (B+3) 0/\CR B H ρ T w c
theorem wf_at:∀{c:CS} (k:Nat),kK c ds=true->kK (aP c (ds.take k)) (ds.drop k)=true:=by
 induction ds with
 |nil=>intro c k h;simp[aP,kK]
 |cons d r ih=>
  intro c k h;cases k with
  |zero=>exact h
  |succ k=>
   rw[kK,Bool.and_eq_true]at h;exact ih k h.2
theorem lW.at:∀{ds:List Def} {l:List Value} (k:Nat) (hk:k<ds.length),lW H ds l->∃v,l[0+k*1]?=some v/\jH H ds[k] v
 |d::ds,v::r,0,_,h=>⟨v,rfl,h.1⟩
 |d::ds,v::r,k+1,hk,h=>by
  obtain⟨v',h1,h2⟩:=lW.at k (by simpa using hk) h.2;exact⟨v',by simpa using h1,h2⟩
 |[],_,_,hk,_=>absurd hk smp
 |_::_,[],_,_,h=>h.elim
theorem lW.len:∀{ds:List Def} {l:List Value},lW H ds l->l.length=ds.length
 |[],[],_=>rfl
 |_::_,_::_,h=>by simp[lW.len h.2]
 |[],_::_,h=>h.elim
 |_::_,[],h=>h.elim
theorem born_inj{l:List MapEntry}(h:(l.map (·.born)).Nodup){a b:MapEntry}(ha:a∈l)(hb:b∈l)(e:a.born=b.born):a=b:=by
 have h1:=find_born h ha;have h2:=find_born h hb;rw[e]at h1;rw[h1]at h2;exact Option.some.inj h2
theorem AA{l:List MapEntry}(h:(l.map (·.born)).Nodup):l.Nodup:=by
 unfold List.Nodup at h ⊢;rw[List.pairwise_map]at h;exact h.imp λhab e=>hab (by rw[e])
theorem Xd{d l:List MapEntry}(hd:(d.map (·.born)).Nodup)(hl:(l.map (·.born)).Nodup)(hs:∀e∈d,e∈l)(ha:∀e∈l,∃x∈d,x.born=e.born):d.Perm l:=by
 rw[List.perm_ext_iff_of_nodup (AA hd) (AA hl)];intro a;refine⟨hs a,λh=>?_⟩;obtain⟨x,hx,hb⟩:=ha a h;rw[<- born_inj hl (hs x hx) h hb];exact hx
set_option maxHeartbeats 2000000 in
theorem Wu{n0:Nat}{w:World}{ds:List Def}{v:Value}(hg:Gl w)(hd:UE n0 w ds v)(hf:fine ds=true):
  Calls P 38 #[v] w (Post w (compile ds) [] λc v' w'=>Gl w'/\∃names:List By,names.Perm (c.start.map (·.1))/\CodeIn w.heap.size w' (kY c names) v'):=by
 refine Post.R λR M hM hok hno=>?_;refine cf [28,60] Tryz.func38 ?_;obtain⟨H,l,o,hsub,hge,hds,hgw,ho⟩:=hd;have hdom:∀b x,H b=some x->b<w.heap.size:=λb x hx=>lt_of_heap (hsub b x.1 x.2 hx);obtain⟨va,vc,rfl⟩:=hgw.len;have hN0:=hg.size
 -- what is asked of the definitions
 have hfine:kK CS.empty ds=true/\(aP CS.empty ds).L.length+2*(aP CS.empty ds).start.length<1000000/\(∀x∈(aP CS.empty ds).calls,x.1<(aP CS.empty ds).L.length)/\(∀x∈(aP CS.empty ds).defs,kV x.2=true) /\
   (∀d∈ds,(endless (aP CS.empty ds).defs d).isSome=true)/\ds.length<1000000:=by
  unfold fine at hf;simp only[Bool.and_eq_true,decide_eq_true_eq,List.all_eq_true]at hf;obtain⟨⟨⟨⟨⟨f1,f2⟩,f3⟩,f4⟩,f5⟩,f6⟩:=hf;refine⟨f1,f2,f3,f4,?_,f6⟩;unfold Jw at f5
  rwa [List.all_eq_true]at f5
 obtain⟨f1,f2,f3,f4,f5,f6⟩:=hfine;rw[compile]at hM;obtain⟨cF,hcF⟩:∃X,X=aP CS.empty ds:=⟨_,rfl⟩;rw[<- hcF]at f2 f3 f4 f5 hM;refine gg ?_;have hsl:∀w',Kd 6 w.heap.size (λ_=>(0,0)) w w'->∀b,b<w.heap.size->w'.heap[b]?=w.heap[b]?:=λw' k b hb=>k.same b hb (Or.inl hb)
 refine(λ(Q:∀w9,Kp [] w w9/\w9.heap[w.heap.size]?=some (.map #[] 0)/\w9.heap[w.heap.size+1]?=some (.map #[] 0)/\w9.heap[w.heap.size+2]?=some (.map #[] 0) /\
  w9.heap[w.heap.size+3]?=some (cl [.slice none 0 0,.map (some w.heap.size),.map (some (w.heap.size+1)),.map (some (w.heap.size+1+1))] kH)/\w9.heap[w.heap.size+4]?=some (.map #[] 0)/\w9.heap[w.heap.size+5]?=some (.map #[] 0) /\
  w9.heap[w.heap.size+6]?=some (cl [pt (w.heap.size+1+1+1) 0,.map (some (w.heap.size+1+1+1+1)),.map (some (w.heap.size+1+1+1+1+1)),.slice none 0 0] iH)/\w9.heap.size=w.heap.size+7->Lp [.int .i64 0] w9 _)=>Q _ ⟨kpA,lookA,lookA,lookA,lookA,lookA,lookA,lookA,by simp only[size_alloc]⟩) ?_
 rintro w1 ⟨k1,p0,p1,p2,p3,p4,p5,p6,p7⟩;have h1:CR w.heap.size H (λ_=>(0,0)) [] w1 CS.empty:=
  {gl:=hg.kp k1 (λ_ _=>trivial),hB:=hN0,sub:=hsub.kp k1 (λ_ _ _=>trivial),dom:=hdom,lt:=omg,free:=λ_ _=>rfl,low:=λ_ _=>rfl,
   L:=⟨.slice none 0 0,[],none,p3,Gw.nil _ _ _,trivial,smp⟩,calls:=⟨.slice none 0 0,none,p6,Gw.nil _ _ _,smp⟩,nN:=rfl,tabs:=λi b l hb _=>by simp at hb,
   types:=⟨#[],0,p0,MK.empty⟩,procs:=⟨#[],0,p1,MK.empty,by simp[CS.empty]⟩,fA:=⟨#[],0,[],p2,MK.empty,trivial⟩,defs:=⟨#[],0,[],p4,MK.empty,trivial⟩,start:=⟨#[],0,p5,MK.empty⟩,uj:=Nat.le_refl _ }
 obtain⟨B,hB⟩:∃B,B=w.heap.size:=⟨_,rfl⟩;have hB3:w.heap.size+1+1+1=B+3:=omg;have hB6:w.heap.size+1+1+1+1+1+1=B+6:=omg;rw[hB6];rw[<- hB]at h1;have kd1:Kd 6 B (λ_=>(0,0)) w w1:=Kp.kc0 k1;have hsame:∀w' (ρ:kG),Kd 6 B (λ_=>(0,0)) w w'->∀b,b<w.heap.size->w'.heap[b]?=w.heap[b]?:=λw' _ k b hb=>k.same b hb (Or.inl omg);have ZP:∀w' (k:Nat) (hk:k<ds.length),Kd 6 B (λ_=>(0,0)) w w'->∃sb v rest,va=some ⟨sb,0,none⟩/\w'.heap[sb]?=some (cl (l++rest) rD)/\(l++rest)[0+k*1]?=some v/\jH H ds[k] v:=by
  intro w' k hk kd;obtain⟨sb,rest,cap,e1,e2,e3⟩:=Gw.some hgw omg;cases e2;obtain⟨v,q1,q2⟩:=hds.at k hk;refine⟨sb,v,rest,rfl,(kd.same sb (lt_of_heap e3) (Or.inl (by rw[hB];exact lt_of_heap e3))).trans e3,?_,q2⟩;rw[List.getElem?_append_left (by rw[hds.len];omega)];exact q1
 refine Lp.nat (n:=ds.length) (λn vals w'=>∃(k:Nat) (ρ:kG) (T:List Nat),vals=[i64 (k:Nat)]/\k+n=ds.length/\Kd 6 B (λ_=>(0,0)) w w'/\CR B H ρ T w' (aP CS.empty (ds.take k))) ?_ ?_
 .exact⟨0,_,_,rfl,omg,kd1,h1⟩
 rintro n _ wL jk C ⟨k,ρ,T,rfl,hkn,kL,hL⟩ hC;have hwf:=wf_at k f1;have hlL:=hL.lt;refine gJ ?_;refine .split (λhc=>?_) (λhc=>?_)
 .have hlt:k<ds.length:=by have:=of_decide_eq_true hc;omega
  obtain⟨sb,dv,rest,rfl,hsb,hsx,hdv⟩:=ZP wL k hlt kL;rw[List.drop_eq_getElem_cons hlt,kK,Bool.and_eq_true,Bool.and_eq_true,Bool.and_eq_true]at hwf;obtain⟨⟨⟨g1,g2⟩,g3⟩,g4⟩:=hwf;have ek:ds.take k++[ds[k]]=ds.take (k+1):=by rw[List.take_add_one,List.getElem?_eq_getElem hlt];rfl
  have eC:aP CS.empty (ds.take (k+1))=nV (aP CS.empty (ds.take k)) ds[k]:=by rw[<- ek,jb]
  have hmono:(aP CS.empty (ds.take (k+1))).L.length<=cF.L.length:=by
   have:ds=ds.take (k+1)++ds.drop (k+1):=(List.take_append_drop _ _).symm;rw[hcF]
   conv=>rhs;rw[this,Md]
   exact JI _ _
  obtain⟨cK,hcK⟩:∃X,X=aP CS.empty (ds.take k):=⟨_,rfl⟩;rw[<- hcK]at hL g1 g3 eC;rw[eC]at hmono;refine Jn.by (λvals w'=>∃ρ' T',Kd 6 B (λ_=>(0,0)) w w'/\CR B H ρ' T' w' (nV cK ds[k])) (λJ hJ=>?_) ?_
  .refine .s ?_;refine Ld.s ?_ hsb hsx;refine Ad hdv hL.sub ?_;refine Cl.ret (GU _ _) ?_;rintro _ w2 ⟨rfl,k2⟩;have h2:=hL.ext k2;obtain⟨v2,o2,b1,b2,b3⟩:=h2.calls;obtain⟨es,ck,m,d1,d2,d3⟩:=h2.defs;have hl2:=h2.lt;refine gg ?_;refine Mu.str d2 lookA λes' ck' hm'=>?_;generalize ds[k]=d at *;have h3:=h2.abQ (l:=bK cK.defs d.name d) (w':=ag w2 (B+4) (.map es' ck')) kpA ⟨es',ck',_,aC rfl omg,hm',wC.put hdv d3⟩;have k3:Kd 6 B (λ_=>(0,0)) w (ag w2 (B+4) (.map es' ck')):=(kL.kp k2).kpx (X:=[(B+4,B+5)]) kpA (λi hi hx=>⟨omg,trivial⟩);generalize ag w2 (B+4) (.map es' ck')=w3 at *;have fin:∀cX w4,CG6 B H ρ T w3 cX w4->∃ρ' T',Kd 6 B (λ_=>(0,0)) w w4/\CR B H ρ' T' w4 cX:=by
    rintro cX w4 ⟨ρ4,D4,q1,q2,q3⟩;refine⟨ρ4,T++D4,?_,q3⟩;refine⟨q1.os.trans k3.os,q1.tape.trans k3.tape,q1.output.trans k3.output,Nat.le_trans k3.size q1.size,λi hi ho=>?_⟩;have hiB:i<B:=omg;exact(q1.same i (Nat.lt_of_lt_of_le hi k3.size) (Or.inl hiB)).trans (k3.same i hi ho)
   have other:(∀n vs,d.k≠.prog n vs)->(∀o nm ar els,d.k=.union o nm ar els->nH { cK with defs:=bK cK.defs d.name d } o=true)->Cl P 65 #[pt (B+6) 0,dv] w3 (pE R) λx39 w40=>J [] w40:=by
    intro hnp hun;have eD:nV cK d=gy d { cK with defs:=bK cK.defs d.name d }:=by
     obtain⟨nm,at_,dk⟩:=d;cases dk with
     |prog n vs=>exact absurd rfl (hnp n vs)
     |_=>rfl
    refine Cl.ret (Ye h3 hdv hnp (by simpa using g3) hun g2 (by rw[<- eD];omega) (by have:=Me d cK;show cK.L.length<_;omega)) ?_;intro v4 w4 hg4;rw[<- eD]at hg4;exact hJ _ _ (fin _ _ hg4)
   obtain⟨nm,at_,dk⟩:=d;cases dk with
   |prog n vs=>
    obtain⟨gb,u,l2,rfl,q1,q2,q3⟩:=hdv;have g2':vs.length<1000000/\inU n/\∀v∈vs,v.procs.length<1000000/\inU v.n/\∀q∈v.procs,inU q.n:=by
     have:(decide (vs.length<1000000)&&inRange n&&vs.all λv=>decide (v.procs.length<1000000)&&inRange v.n&&v.procs.all λq=>inRange q.n)=true:=g2;simp only[Bool.and_eq_true,List.all_eq_true,decide_eq_true_eq,inRange]at this;exact⟨this.1.1,this.1.2,λv hv=>⟨(this.2 v hv).1.1,(this.2 v hv).1.2,(this.2 v hv).2⟩⟩
    refine gg ?_
    refine Cl.ret (SV h3 q1 q2 q3 g2'.2.1 g2'.1 g2'.2.2 (by
     have:(cK.fA.all λx=>decide (x.2.length<1000000))=true:=g1;rw[List.all_eq_true]at this
     exact λx hx=>of_decide_eq_true (this x hx)) (by
     have:(iU n { cK with defs:=bK cK.defs nm ⟨nm,at_,.prog n vs⟩ } vs).L.length<=cF.L.length:=hmono
     exact Nat.le_trans this omg)) ?_
    intro v4 w4 hg4;exact hJ _ _ (fin _ _ hg4)
   |const n=>
    obtain⟨b,rfl,q1⟩:=hdv;refine gg ?_;exact other (λ_ _ e=>by cases e) (λ_ _ _ _ e=>by cases e)
   |alias t=>
    obtain⟨b,u,rfl,q1⟩:=hdv;refine gg ?_;exact other (λ_ _ e=>by cases e) (λ_ _ _ _ e=>by cases e)
   |enum ns is=>
    obtain⟨b,u,x,rfl,q1⟩:=hdv;refine gg ?_;exact other (λ_ _ e=>by cases e) (λ_ _ _ _ e=>by cases e)
   |struct dd=>
    obtain⟨b,u,l2,rfl,q1⟩:=hdv;refine gg ?_;exact other (λ_ _ e=>by cases e) (λ_ _ _ _ e=>by cases e)
   |union o2 nm2 ar els=>
    obtain⟨b,ov,u,l2,e,rfl,q1⟩:=hdv;refine gg ?_;exact other (λ_ _ e=>by cases e) (λ_ _ _ _ e=>by cases e;exact g1)
  .rintro _ w3 jk3 ⟨ρ',T',k3,h3⟩;refine gg ?_;exact hC (n - 1) _ _ omg ⟨k+1,ρ',T',rfl,omg,k3,by rw[eC];exact h3⟩
 .have hge':k=ds.length:=by have:=of_decide_eq_false hc;omega
  subst hge';rw[List.take_length,<- hcF]at hL;have hz0:=kL.size;have Kpw:∀{w':World},Kd 6 B (λ_=>(0,0)) w w'->Kp [] w w':=λk=>⟨k.os,k.tape,k.output,k.size,λb hb _=>hsame _ ρ k b hb⟩;have glk:∀{w':World},Kd 6 B (λ_=>(0,0)) w w'->Gl w':=λk=>hg.kp (Kpw k) (λ_ _=>trivial);have tr:∀{w1 w2:World} {ρ:kG},Kd 6 B (λ_=>(0,0)) w w1->Kd 6 B ρ w1 w2->Kd 6 B (λ_=>(0,0)) w w2:=λk3 q1=>
   ⟨q1.os.trans k3.os,q1.tape.trans k3.tape,q1.output.trans k3.output,Nat.le_trans k3.size q1.size,λi hi ho=>(q1.same i (Nat.lt_of_lt_of_le hi k3.size) (Or.inl omg)).trans (k3.same i hi ho)⟩
  refine Cl.by (Wn hL f3 omg) ?_ ?_ ?_
  rotate_left
  .rintro ch w2 ⟨k2,h2⟩;cases hr:gz cF.start cF.L cF.calls with
   |ok L'=>rw[hr]at h2;obtain⟨_,hv,_⟩:=h2;cases hv
   |no e a=>rw[hr]at h2 hM;obtain⟨_,hv,hfl⟩:=h2;cases hv;exact hno _ _ _ _ hM (Kpw (tr kL k2)) hfl
  .rintro w2 ⟨k2,h2⟩;cases hr:gz cF.start cF.L cF.calls with
   |ok L'=>rw[hr]at h2;obtain⟨_,hv,_⟩:=h2;cases hv
   |no e a=>rw[hr]at h2;obtain⟨_,hv,_⟩:=h2;cases hv
  rintro v2 w2 ⟨k2,h2⟩;cases hr:gz cF.start cF.L cF.calls with
  |no e a=>rw[hr]at h2;obtain⟨_,hv,_⟩:=h2;cases hv
  |ok L'=>
  rw[hr]at h2 hM;obtain⟨_,hv,hlen',ρ2,D2,_,_,hC2⟩:=h2;cases hv;simp only[Res.aS]at hM;have kd2:=tr kL k2;obtain⟨c2,hc2⟩:∃X:CS,X={ cF with L:=L' }:=⟨_,rfl⟩;rw[<- hc2]at hC2 hM;have e21:c2.start=cF.start:=by rw[hc2]
  have e22:c2.defs=cF.defs:=by rw[hc2]
  have e23:c2.L.length=cF.L.length:=by rw[hc2];exact hlen'
  have e24:ik cF ds=ik c2 ds:=by
   have:∀l:List Def,ik cF l=ik c2 l:=by
    intro l;induction l with
    |nil=>rfl
    |cons d r ih=>rw[ik,ik,ih,e21,e22]
   exact this ds
  rw[e24]at hM;refine gg ?_;refine Lp.nat (n:=ds.length) (λn vals w'=>∃(k:Nat),vals=[i64 (k:Nat)]/\k+n=ds.length/\Kd 6 B (λ_=>(0,0)) w w'/\CR B H ρ2 (T++D2) w' c2/\M=(ik c2 (ds.drop k)).andThen λ_=>.ok c2) ?_ ?_
  .exact⟨0,rfl,omg,kd2,hC2,hM⟩
  rintro n _ w3 jk3 C3 ⟨k,rfl,hkn3,kd3,h3,hM3⟩ hC3;have hl3:=h3.lt;refine gJ ?_;refine .split (λhc3=>?_) (λhc3=>?_)
  .have hlt:k<ds.length:=by have:=of_decide_eq_true hc3;omega
   obtain⟨sb,dv,rest,rfl,hsb,hsx,hdv⟩:=ZP w3 k hlt kd3;rw[List.drop_eq_getElem_cons hlt,ik]at hM3;have hfu:=f5 ds[k] (List.getElem_mem hlt);rw[<- e22]at hfu;obtain⟨bb,hbb⟩:=Option.isSome_iff_exists.mp hfu;have hwfk:=wf_at k f1;rw[List.drop_eq_getElem_cons hlt,kK,Bool.and_eq_true,Bool.and_eq_true,Bool.and_eq_true]at hwfk;have hsmk:=hwfk.1.1.2;rw[hbb]at hM3;generalize ds[k]=d at *;refine Jn.by (λvals w'=>((c2.start.lookup d.name).isSome&&bb)=false/\Kp [] w3 w') (λJ hJ=>?_) ?_
   .refine .s ?_;refine Ld.s ?_ hsb hsx;refine Ad hdv h3.sub ?_;refine Cl.ret (GU _ _) ?_;rintro _ w4 ⟨rfl,k4⟩;have h4:=h3.ext k4;obtain⟨v4,o4,b1,b2,b3⟩:=h4.calls;obtain⟨es,ck,g1,g2⟩:=h4.start;have hl4:=h4.lt;refine gg ?_;refine Lk.str g2 lookA ?_;rw[sW (λk:Nat=>i64 (k:Nat))];cases hlk:c2.start.lookup d.name with
    |none=>
     rw[hlk]at hJ;refine gJ ?_;have hfalse:(Option.map (λk:Nat=>i64 (k:Nat)) (none:Option Nat)).isSome=false:=rfl;rw[hfalse];refine gg ?_;exact hJ _ _ ⟨rfl,k4⟩
    |some t=>
     rw[hlk]at hJ hM3;refine gJ ?_;have htrue:(Option.map (λk:Nat=>i64 (k:Nat)) (some t)).isSome=true:=rfl;rw[htrue];refine gg ?_;refine Cl.ret (Wq h4.sub (λb z hz=>by have:=h4.dom b z hz;omega) (mb:=B+4) omg h4.defs (by rw[e22];exact f4) hdv hsmk hbb) ?_;rintro _ w5 ⟨rfl,k5⟩;have k45:=k4.trans k5 (Z:=[]) (λ_ _ _=>⟨trivial,trivial⟩);cases bb with
     |true=>
      refine gg ?_;have hM4:M=.no 9 d.at_:=by rw[hM3];rfl
      exact Cl.failD λch w' hf hk=>hno _ _ _ _ hM4 ((Kpw kd3).trans (k45.trans hk (Z:=[]) (λ_ _ _=>⟨trivial,trivial⟩)) (λ_ _ _=>⟨trivial,trivial⟩)) hf
     |false=>
      refine gg ?_;exact hJ _ _ ⟨rfl,k45⟩
   .rintro _ w4 jk4 ⟨hb4,k4⟩;have hb5:((c2.start.lookup d.name).isSome&&(some bb).getD true)=false:=hb4;rw[hb5,if_neg dcd]at hM3;refine gg ?_;exact hC3 (n - 1) _ _ omg ⟨k+1,rfl,omg,kd3.kp k4,h3.ext k4,hM3⟩
  .have hge3:k=ds.length:=by have:=of_decide_eq_false hc3;omega
   subst hge3;rw[List.drop_length,ik]at hM3;simp only[Res.aS]at hM3;obtain⟨v4,o4,b1,b2,b3⟩:=h3.calls;obtain⟨es,ck,g1,g2⟩:=h3.start;refine gg ?_;refine acy g1 ?_;have hkeys:∀e∈es.toList,∃s,e.key=κs s:=by
    intro e he;have:(e.key,e.val)∈es.toList.map (λe=>(e.key,e.val)):=List.mem_map.mpr ⟨e,he,rfl⟩;rw[g2.1]at this;obtain⟨x,_,hx⟩:=List.mem_map.mp this;exact⟨x.1,(congrArg Prod.fst hx).symm⟩
   refine(λ(Q:∀w9,Kp [] w3 w9/\w9.heap[w3.heap.size]?=some (.mapIter (some (B+5)) ck #[] ck)->Lp [] w9 _)=>Q _ ⟨kpA,lookA⟩) ?_;rintro w4 ⟨k4,it4⟩;have zit:=lt_of_heap it4;have fit:ρ2 w3.heap.size=(0,0):=h3.free _ (Nat.le_refl _);have e25:c2.start.length=cF.start.length:=by rw[e21]
   have ZQ:es.size=c2.start.length:=by have:=MK.len g2;simpa using this
   refine Lp.nat (n:=es.size) (λn vals w'=>∃(done:List MapEntry) (ρ':kG) (T':List Nat),vals=[]/\done.length+n=es.size/\(done.map (·.born)).Nodup/\(∀e∈done,e∈es.toList) /\
    w'.heap[w3.heap.size]?=some (.mapIter (some (B+5)) ck (done.map (·.born)).toArray ck)/\w'.heap[B+5]?=some (.map es ck)/\ρ' w3.heap.size=(0,0)/\w3.heap.size<w'.heap.size/\Kd 6 B (λ_=>(0,0)) w w'/\CR B H ρ' T' w' (kY c2 (done.map λe=>QY e.key))) ?_ ?_
   .exact⟨[],ρ2,_,rfl,smp,smp,smp,it4,(k4.same _ omg trivial).trans g1,fit,zit,kd3.kp k4,h3.ext k4⟩
   rintro n _ w5 jk5 C5 ⟨done,ρ',T',rfl,hdn,hnd,ZO,it5,st5,fit5,zit5,kd5,h5⟩ hC5;have hl5:=h5.lt;refine g_next st5 it5 g2.2 ?_ ?_
   .intro hall;obtain⟨v6,o6,b6,b7,b8⟩:=h5.calls;refine gg ?_;have hperm:done.Perm es.toList:=Xd hnd g2.2.2.1 ZO λe he=>by
     have:=hall e he;simpa using this
    refine hok _ _ _ hM3 (Kpw kd5) ⟨glk kd5,done.map (λe=>QY e.key),?_,B,H,ρ',T',omg,by rw[hB],h5⟩;have:=hperm.map (λe=>QY e.key);refine this.trans ?_;have e1:es.toList.map (λe=>QY e.key)=c2.start.map (·.1):=by
     have:=congrArg (List.map λx:Value×Value=>QY x.1) g2.1;rw[List.map_map,List.map_map,List.map_map]at this;exact this
    rw[e1]
   .intro e he hse wa hwa;obtain⟨nm,hnm⟩:=hkeys e he;have hnb:e.born ∉ done.map (·.born):=by
     intro hb;rw[Bool.eq_false_iff]at hse;apply hse;simpa using hb
    have kwa:Kp [] w5 wa:=by
     rcases hwa with r|r<;>rw[r]
     .exact Kp.refl _ _
     .exact(Kp.refl _ _).drew
    have AQ:(done.map (·.born)).toArray.push e.born=((done++[e]).map (·.born)).toArray:=by simp
    rw[AQ];have hz5:=kwa.size;have k6:Kp [(w3.heap.size,w3.heap.size+1)] w5 (ag wa w3.heap.size (.mapIter (some (B+5)) ck ((done++[e]).map (·.born)).toArray ck)):=Kp.yS kwa.any (by simp only[Out,and_true,true_and];omega) _;have it6:(ag wa w3.heap.size (.mapIter (some (B+5)) ck ((done++[e]).map (·.born)).toArray ck)).heap[w3.heap.size]?=some (.mapIter (some (B+5)) ck ((done++[e]).map (·.born)).toArray ck):=aC rfl omg;generalize ag wa w3.heap.size (.mapIter (some (B+5)) ck ((done++[e]).map (·.born)).toArray ck)=w6 at *;have h6:=h5.tmp k6 omg fit5;have hl6:=h6.lt;have st6:w6.heap[B+5]?=some (.map es ck):=(k6.same _ omg ⟨omg,trivial⟩).trans st5;have kd6:Kd 6 B (λ_=>(0,0)) w w6:=kd5.kpx k6 (λi hi hx=>⟨omg,trivial⟩);have z6:=k6.size;refine gg ?_;refine acA st6 (seen:=(done.map (·.born)).toArray) (by rw[it6,<- AQ]) g2.2 he ?_;rw[hnm];obtain⟨v7,o7,b7,b8,b9⟩:=h6.calls;obtain⟨vL7,cells7,lo7,q1,q2,q3,q4⟩:=h6.L;obtain⟨la7,lc7,rfl⟩:=q2.len;obtain⟨tes,tck,t1,t2⟩:=h6.types;refine gg ?_;refine Mu.str t2 lookA λes7 ck7 hm7=>?_;rw[QC]at hm7;obtain⟨cT,hcT⟩:∃X,X=kY c2 (done.map λe=>QY e.key):=⟨_,rfl⟩;rw[<- hcT]at h6 q2 hm7;have h7:=(h6.ext (w':=w6.drew) kpA).Zt (l:=bK cT.types nm cT.L.length) (w':=ag w6.drew B (.map es7 ck7)) kpA ⟨es7,ck7,aC rfl (by rw[size_drew];omega),hm7⟩;have k7:Kp [(B,B+1)] w6 (ag w6.drew B (.map es7 ck7)):=by exact kpA
    generalize ag w6.drew B (.map es7 ck7)=w7 at *;have st7:w7.heap[B+5]?=some (.map es ck):=(k7.same _ omg ⟨omg,trivial⟩).trans st6;have cm7:w7.heap[B+6]?=_:=(k7.same _ omg ⟨omg,trivial⟩).trans b7;have z7:=k7.size;have kd7:Kd 6 B (λ_=>(0,0)) w w7:=kd6.kpx k7 (λi hi hx=>⟨omg,trivial⟩);refine gg ?_;refine Lk.str0 g2 st7 ?_;rw[sW (λk:Nat=>i64 (k:Nat))];have epos:((c2.start.lookup nm).map λk:Nat=>i64 (k:Nat)).getD (.int .i64 0)=i64 (((c2.start.lookup nm).getD 0:Nat)):=by cases c2.start.lookup nm<;>rfl
    rw[epos];have hTl:cT.L.length=c2.L.length+2*done.length:=by rw[hcT,Ig,List.length_map]
    have hnd2:((done++[e]).map (·.born)).Nodup:=by
     rw[List.map_append,List.nodup_append]
     exact⟨hnd,smp,by
      intro a ha b hb;simp at hb;subst hb
      intro e2;subst e2;exact hnb ha⟩
    have hdl:done.length<es.size:=by
     have h1:((done++[e]).map (·.born)) ⊆ es.toList.map (·.born):=by
      intro x hx;obtain⟨y,hy,rfl⟩:=List.mem_map.mp hx;rcases List.mem_append.mp hy with h|h
      .exact List.mem_map.mpr ⟨y,ZO y h,rfl⟩
      .simp at h;subst h;exact List.mem_map.mpr ⟨_,he,rfl⟩
     have h2:=hnd2.length_le_of_subset h1;have h3:done.length+1<=es.size:=by simpa using h2
     exact h3
    refine gg ?_;refine Cl.ret (SS (i:={ ins 6 with to:=((c2.start.lookup nm).getD 0:Nat) }) (f:=.map none) (g:=.map none) h7 rfl rfl (by show cT.L.length<_;omega)) ?_;rintro v8 w8 ⟨rfl,⟨ρ8,D8,k8,r8,h8⟩,s8⟩;refine gg ?_;refine Cl.ret (SS (i:=ins 16) (f:=.map none) (g:=.map none) h8 rfl rfl (by rw[dF];show cT.L.length+1<_;omega)) ?_;rintro v9 w9 ⟨rfl,⟨ρ9,D9,k9,r9,h9⟩,s9⟩;have z8:=k8.size;have z9:=k9.size;have it7:w7.heap[w3.heap.size]?=_:=(k7.same _ omg ⟨omg,trivial⟩).trans it6;have fit8:=(r8 w3.heap.size omg).trans fit5
    refine hC5 (n - 1) _ _ omg ⟨done++[e],ρ9,T'++D8++D9,rfl,by rw[List.length_append];simp only[List.length_cons,List.length_nil];omega,?_,?_,(k9.oL omg omg fit8).trans ((k8.oL omg omg fit5).trans it7),
     (s9 _ omg omg).trans ((s8 _ omg omg).trans st7),(r9 _ omg).trans fit8,omg,tr (tr kd7 (k8.up omg)) (k9.up omg),?_⟩
    .exact hnd2
    .intro x hx;rcases List.mem_append.mp hx with h|h
     .exact ZO x h
     .simp at h;subst h;exact he
    .have:kY c2 ((done++[e]).map λe=>QY e.key)=(({ cT with types:=bK cT.types nm cT.L.length }.put { ins 6 with to:=((c2.start.lookup nm).getD 0:Nat) }).put (ins 16)):=by
      rw[List.map_append,List.map_cons,List.map_nil,FI,<- hcT,hnm,ZB,kY,kY];have:cT.start=c2.start:=by rw[hcT,BX]
      rw[this];simp[CS.put]
     rw[this];exact h9
end Go.W.T
namespace Go.W.T
open Go Go.W Go.M Go.Proofs
def TabsAt(w:World)(T:List Nat)(tabs:List Tab):Prop:=T.length=tabs.length/\∀(i:Nat) b l,T[i]?=some b->tabs[i]?=some l->TabAt w b l
end Go.W.T
namespace Go.W.T
open Go Go.W Go.M Go.Proofs
structure Kf (F:Nat->Prop) (w w':World):Prop where
 os:w'.os=w.os
 tape:w'.tape=w.tape
 output:w'.output=w.output
 size:w.heap.size<=w'.heap.size
 same:∀b,b<w.heap.size->¬ F b->w'.heap[b]?=w.heap[b]?
theorem Kf.refl(F:Nat->Prop)(w:World):Kf F w w:=⟨rfl,rfl,rfl,Nat.le_refl _,λ_ _ _=>rfl⟩
theorem Kf.trans(h:Kf F a b)(k:Kf G b c)(hs:∀i,G i->F i\/a.heap.size<=i):Kf F a c:=
 ⟨k.os.trans h.os,k.tape.trans h.tape,k.output.trans h.output,Nat.le_trans h.size k.size,λi hi ho=>(k.same i (Nat.lt_of_lt_of_le hi h.size) (λg=>(hs i g).elim ho (λe=>by omega))).trans (h.same i hi ho)⟩
def qY(n:Nd):List Value:=[.int .i64 n.kind,.int .i64 n.n,κs n.s,.int .i64 n.at_,.int .i64 n.len]
def dG(l:List Nd):List Value:=l.flatMap qY
end Go.W.T
namespace Go.W.T
open Go Go.W Go.M Go.Proofs
theorem mZ(l:List Nd):(dG l).length=l.length*5:=by
 induction l with
 |nil=>rfl
 |cons a r ih=>rw[dG,List.flatMap_cons,List.length_append];rw[dG]at ih;rw[ih];simp[qY];omega
end Go.W.T
namespace Go.W.T
open Go Go.W Go.M Go.Proofs
structure MC (w:World) (cp:Value) (T:List Nat) (L:List Ins) (tabs:List Tab):Prop where
 c:∃cb lb m1 m2 m3 cells rest cap,cp=pt cb 0/\w.heap[cb]?=some (cl [.slice (some ⟨lb,0,none⟩) L.length cap,m1,m2,m3] kH)/\w.heap[lb]?=some (cl (cells++rest) dB)/\jC T L cells
 t:TabsAt w T tabs
 n:L.length<1000000
end Go.W.T
namespace Go.W.T
open Go Go.W Go.M Go.Proofs
end Go.W.T
namespace Go.W.T
open Go Go.W Go.M Go.Proofs
theorem _root_.Go.W.Kp.tt(h:Kp [] a b)(k:Kp [] b c):Kp [] a c:=h.trans k (λ_ _ _=>⟨trivial,trivial⟩)
def Ho{σ:Type}(w0:World)(Inv:(Nat->Prop)->World->σ->Prop)(r:Res (MS σ)):Ending->World->Prop:=λen w'=>Kp [] w0 w'/\match r with
 |.ok s'=>∃F',en=.returned (.tuple #[])/\Inv F' w' s'.d
 |.no e a=>∃ch,en=.panicked ch/\Flt e a ch w'
theorem Ho.ok{σ:Type}{w0 w':World}{Inv:(Nat->Prop)->World->σ->Prop}{r:Res (MS σ)}{s':MS σ}{F':Nat->Prop}(h0:r=.ok s')(h1:Kp [] w0 w')(h2:Inv F' w' s'.d):Ho w0 Inv r (.returned (.tuple #[])) w':=by
 subst h0;exact⟨h1,F',rfl,h2⟩
theorem Ho.no{σ:Type}{w0 w':World}{Inv:(Nat->Prop)->World->σ->Prop}{r:Res (MS σ)}{e a:Nat}{ch:List PanicEntry}(h0:r=.no e a)(h1:Kp [] w0 w')(h2:Flt e a ch w'):Ho w0 Inv r (.panicked ch) w':=by
 subst h0;exact⟨h1,ch,rfl,h2⟩
end Go.W.T
