/- Texts of mine, one behind the other; nothing is assumed. -/
import Derived.Test.YtbfcgbhhgnnglaaGreatDoorB32
import Derived.Test.YtbfcgbhhgnnglaaGreatDoorB37
import Derived.Lib.ItoaNum
import Derived.Test.YtbfcgbhhgnnglaaGreatDoorB27
set_option autoImplicit true
set_option relaxedAutoImplicit true
set_option linter.unusedSimpArgs false
set_option linter.unusedVariables false
set_option maxRecDepth 100000
namespace Go.W.T
open Go Go.W Go.M Go.Proofs
theorem G8{α:Type}{f:α->List Value}{m:Nat}(hf:∀x,(f x).length=m):∀{l:List α} {i:Nat} {x:α} {j:Nat} {v:Value},l[i]?=some x->(f x)[j]?=some v->(l.flatMap f)[i*m+j]?=some v
 |[],i,x,j,v,h,_=>by simp at h
 |a::l,0,x,j,v,h,hj=>by
  obtain rfl:a=x:=by simpa using h
  have hl:=(List.getElem?_eq_some_iff.mp hj).1;rw[List.flatMap_cons,Nat.zero_mul,Nat.zero_add,List.getElem?_append_left hl];exact hj
 |a::l,i+1,x,j,v,h,hj=>by
  have h':l[i]?=some x:=by simpa using h
  rw[List.flatMap_cons,List.getElem?_append_right (by rw[hf,Nat.succ_mul];omega),hf,show (i+1)*m+j - m=i*m+j by rw[Nat.succ_mul];omega];exact G8 hf h' hj
theorem vW{α:Type}{f:α->List Value}{m:Nat}(hf:∀x,(f x).length=m):∀l:List α,(l.flatMap f).length=l.length*m
 |[]=>by simp
 |a::l=>by rw[List.flatMap_cons,List.length_append,hf,vW hf l,List.length_cons,Nat.succ_mul];omega
theorem uK{α:Type}{f:α->List Value}{w:World}{e:TypeId}{m:Nat}{v:Value}{l:List α}{o:Option Nat}(hf:∀x,(f x).length=m)(h:Gw w e m v l.length (l.flatMap f) o){i:Nat}{x:α}(hi:l[i]?=some x):
  ∃b rest cap,o=some b/\v=.slice (some ⟨b,0,none⟩) l.length cap/\w.heap[b]?=some (cl (l.flatMap f++rest) e)/\∀j u,(f x)[j]?=some u->(l.flatMap f++rest)[0+i*m+j]?=some u:=by
 obtain⟨b,rest,cap,h1,h2,h3⟩:=Gw.some h (by have:=(List.getElem?_eq_some_iff.mp hi).1;omega);refine⟨b,rest,cap,h1,h2,h3,λj u hj=>?_⟩;have h4:=G8 hf hi hj;rw[Nat.zero_add,List.getElem?_append_left (List.getElem?_eq_some_iff.mp h4).1];exact h4
theorem qV(x:NmR):(nmV x).length=4:=rfl
theorem EP:∀{l:List NmR} {k:Nat},nix s l=some k->k<l.length
 |[],k,h=>by cases h
 |x::l,k,h=>by
  rw[nix]at h;split at h
  .cases h;simp
  .rw[Option.map_eq_some_iff]at h;obtain⟨m,hm,rfl⟩:=h;have:=EP hm;simp only[List.length_cons];omega
section
variable {B M pb:Nat} {w:World} {p:RS}
theorem Bz{v:Value}{l:List NmR}{o:Option Nat}(h:Gw w 117 4 v l.length (bV l) o)(s:By)(hl:l.length<=1000000):Calls P 80 #[v,κs s] w (Ret λr w'=>r=.int .i64 (oD s l)/\w'=w):=by
 refine Ret.R λR hR=>?_;refine cf [5] Tryz.func80 ?_;obtain⟨va,vc,rfl⟩:=h.len;have hR':∀n,n=oD s l->R (.returned (.int .i64 n)) w:=λn hn=>hR _ _ ⟨by rw[hn],rfl⟩;clear hR;refine Lp.nat (λm vals w'=>∃i:Nat,m+i=l.length/\vals=[i64 i]/\nix s l=(nix s (l.drop i)).map (·+i)/\w'=w) (n:=l.length) ⟨0,omg,rfl,smp,rfl⟩ ?_;rintro m _ w' jk C ⟨i,hi,rfl,hx,rfl⟩ hC;refine gg ?_;refine .split (λhh=>?_) (λhh=>?_)
 .have hlt:i<l.length:=by have:=of_decide_eq_true hh;omega
  obtain⟨x,hxi⟩:∃x,l[i]?=some x:=⟨_,List.getElem?_eq_getElem hlt⟩;have hd:l.drop i=x::l.drop (i+1):=by rw[List.drop_eq_getElem_cons hlt];rw[List.getElem?_eq_getElem hlt]at hxi;cases hxi;rfl
  obtain⟨b,rest,cap,rfl,hv,hb,hcell⟩:=uK qV h hxi;cases hv;have c0:=hcell 0 _ rfl;rw[hd,nix]at hx;cases hs:x.s==s with
  |true=>
   rw[hs,if_pos rfl]at hx;refine gg ?_;exact hR' _ (by unfold oD;rw[hx];simp)
  |false=>
   rw[hs,if_neg smp]at hx;refine gg ?_;refine hC (m - 1) _ _ omg ⟨i+1,omg,smp,?_,rfl⟩;rw[hx];cases nix s (l.drop (i+1))with
   |none=>rfl
   |some k=>simp only[Option.map_some,Option.some.injEq];omega
 .have hge:¬ i<l.length:=by have:=of_decide_eq_false hh;omega
  rw[List.drop_eq_nil_of_le omg]at hx;exact hR' _ (by unfold oD;rw[hx];rfl)
def aA(x:WR):List Value:=[.int .i64 x.kind,κs x.s,.int .i64 x.at_,.int .i64 x.en,.int .i64 x.n,.int .i64 x.e]
theorem Qk.ld{B b:Nat}{w w':World}{l:List Value}(k:Qk B w w')(h:w.heap[b]?=some (cl l 110)):w'.heap[b]?=some (cl l 110):=k.same _ _ _ h dcd dcd dcd
theorem Qk.tmp(h:Qk B w a)(k:Kp [(b,b+1)] a c)(hb:w.heap.size<=b):Qk B w c:=
 ⟨k.os.trans h.os,k.tape.trans h.tape,k.output.trans h.output,Nat.le_trans h.size k.size,λi hi hs=>(k.same i (by have:=h.size;omega) ⟨omg,trivial⟩).trans (h.low i hi hs),λi l t hi h1 h2 h3=>(k.same i (by have:=h.size;have:=lt_of_heap hi;omega) ⟨by have:=lt_of_heap hi;omega,trivial⟩).trans (h.same i l t hi h1 h2 h3)⟩
theorem QXG.tmp(h:QX B M pb w p x)(hb:w.heap[b]?=some (cl l 110))(k:Kp [(b,b+1)] w w'):QX B M pb w' p x:=by
 have ho:∀{e:TypeId} {m:Nat} {v:Value} {n:Nat} {l:List Value} {o:Option Nat},Gw w e m v n l o->e≠110->Gw w' e m v n l o:=λhg hne=>hg.kp k λc hc=>⟨by
  have:c≠b:=λe=>fP hg hb hne (hc.trans (by rw[e]))
  omega,trivial⟩
 have hI:∀{v:Value} {l:List Int},IsI M w v l->IsI M w' v l:=λ⟨o,hi,hm⟩=>⟨o,ho hi dcd,hm⟩;have hR:∀{l:List eU} {c:List Value},eQ M w l c->eQ M w' l c:=by
  intro l;induction l with
  |nil=>intro c h;exact h
  |cons r l ih=>rintro c ⟨nv,pv,rest,h1,h2,h3,h4⟩;exact⟨nv,pv,rest,h1,hI h2,hI h3,ih h4⟩
 refine⟨(k.same _ (lt_of_heap h.hp) ⟨?_,trivial⟩).trans h.hp,ho h.rows dcd,hR h.rat,ho h.names dcd,ho h.procs dcd,ho h.aj dcd,h.b0,h.b1,h.b2,h.b3,h.b4,h.m3,h.m4,h.d4,h.gh,h.ok,h.tl⟩;have:pb≠b:=by
  rintro rfl;have:=h.hp;rw[hb]at this;exact absurd (AZ (Option.some.inj this)) dcd
 omega
theorem QSG.tmp(h:QS B M pb w p)(hb:w.heap[b]?=some (cl l 110))(k:Kp [(b,b+1)] w w'):QS B M pb w' p:=by
 obtain⟨x,h⟩:=h;exact⟨x,h.tmp hb k⟩
abbrev z6:List Value:=[.int .i64 0,.string ⟨#[]⟩,.int .i64 0,.int .i64 0,.int .i64 0,.int .i64 0]
theorem TG(h:QS B M pb w p):Calls P 131 #[pt pb 0] w (Ret λv w'=>v=.agg (List.toArray (aA (fD p).1))/\QT B M pb w (fD p).2 w'):=by
 refine Ret.R λR hR=>?_;refine cf [] Tryz.func131 ?_;have h0:=h;obtain⟨x,h⟩:=h;have hp:=h.hp;unfold aN at hp;have hlt:=lt_of_heap hp;unfold fD at hR;cases he:p.e != 0 with
 |true=>
  rw[he,if_pos rfl]at hR;refine gg ?_;exact hR _ _ ⟨rfl,h0.ext kpA,Qk.kp kpA⟩
 |false=>
  rw[he,if_neg smp]at hR;cases hk:p.w.kind != 1 with
  |true=>
   rw[hk,if_pos rfl]at hR;refine gg ?_;refine Cl.w (λw9=>Kp [] w w9/\w.heap.size+1<w9.heap.size/\w9.heap[w.heap.size]?=some (cl z6 110)) ⟨kpA,by simp only[size_alloc,ah];omega,lookA⟩ ?_;rintro w15 ⟨k15,z15,n1⟩;refine Cl.ret (Au (h0.ext k15)) ?_;rintro _ w20 ⟨rfl,t,k⟩;have n1':=k.ld n1;have l1:=lt_of_heap n1';refine gg ?_;exact hR _ _ ⟨rfl,t.tmp n1' kpA,((Qk.kp k15).trans k).tmp (b:=w.heap.size) kpA (Nat.le_refl _)⟩
  |false=>
   rw[hk,if_neg smp]at hR;refine gg ?_;refine Cl.w (λw9=>Kp [] w w9/\w.heap.size+1<w9.heap.size/\w9.heap[w.heap.size]?=some (cl z6 110)/\w9.heap[w.heap.size+1]?=some (cl (aA p.w) 110)) ⟨kpA,by simp only[size_alloc,ah];omega,lookA,by unfold aA;exact lookA⟩ ?_;rintro w15 ⟨k15,z15,n1,n13⟩;refine Cl.ret (jh (h0.ext k15)) ?_;rintro _ w20 ⟨rfl,t,k⟩;have n1':=k.ld n1;have n13':=k.ld n13;unfold aA at n13';have l1:=lt_of_heap n1';refine gg ?_;exact hR _ _ ⟨rfl,t.tmp n1' kpA,((Qk.kp k15).trans k).tmp (b:=w.heap.size) kpA (Nat.le_refl _)⟩
theorem Uh(h:Gw w e 1 v n c o)(hi:c[i]?=some u):
  ∃b rest cap,o=some b/\v=.slice (some ⟨b,0,none⟩) n cap/\w.heap[b]?=some (cl (c++rest) e)/\(c++rest)[0+i*1]?=some u/\i<n:=by
 have hlt:=(List.getElem?_eq_some_iff.mp hi).1;have hl:=h.1;obtain⟨b,rest,cap,h1,h2,h3⟩:=Gw.some h omg;refine⟨b,rest,cap,h1,h2,h3,?_,omg⟩;rw[Nat.zero_add,Nat.mul_one,List.getElem?_append_left hlt];exact hi
theorem U5(h:Gw w 3 1 v l.length (ints l) o)(n:Int)(hl:l.length<=1000000):Calls P 128 #[v,.int .i64 n] w (Ret λr w'=>r=.bool (l.contains n)/\w'=w):=by
 refine Ret.R λR hR=>?_;refine cf [5] Tryz.func128 ?_;obtain⟨va,vc,rfl⟩:=h.len;have hR':∀b,b=l.contains n->R (.returned (.bool b)) w:=λb hb=>hR _ _ ⟨by rw[hb],rfl⟩;clear hR;refine Lp.nat (λm vals w'=>∃i:Nat,m+i=l.length/\vals=[i64 i]/\l.contains n=(l.drop i).contains n/\w'=w) (n:=l.length) ⟨0,omg,rfl,smp,rfl⟩ ?_;rintro m _ w' jk C ⟨i,hi,rfl,hx,rfl⟩ hC;refine gg ?_;refine .split (λhh=>?_) (λhh=>?_)
 .have hlt:i<l.length:=by have:=of_decide_eq_true hh;omega
  have hd:l.drop i=l[i]::l.drop (i+1):=List.drop_eq_getElem_cons hlt;have hci:(ints l)[i]?=some (.int .i64 l[i]):=by unfold ints;rw[List.getElem?_map,List.getElem?_eq_getElem hlt];rfl
  obtain⟨b,rest,cap,rfl,hv,hb,hcell,_⟩:=Uh h hci;cases hv;rw[hd,List.contains_cons]at hx;cases hs:l[i]==n with
  |true=>
   refine gg ?_;have:(n==l[i])=true:=by rw[BEq.comm];exact hs
   exact hR' _ (by rw[hx,this];rfl)
  |false=>
   refine gg ?_;have:(n==l[i])=false:=by rw[BEq.comm];exact hs
   exact hC (m - 1) _ _ omg ⟨i+1,omg,smp,by rw[hx,this];rfl,rfl⟩
 .have hge:¬ i<l.length:=by have:=of_decide_eq_false hh;omega
  rw[List.drop_eq_nil_of_le omg]at hx;exact hR' _ (by rw[hx];rfl)
def strs(l:List By):List Value:=l.map λx=>κs x
theorem W9(h:Gw w 9 1 v l.length (strs l) o)(s:By)(hl:l.length<=1000000):Calls P 216 #[v,κs s] w (Ret λr w'=>r=.bool (l.contains s)/\w'=w):=by
 refine Ret.R λR hR=>?_;refine cf [5] Tryz.func216 ?_;obtain⟨va,vc,rfl⟩:=h.len;have hR':∀b,b=l.contains s->R (.returned (.bool b)) w:=λb hb=>hR _ _ ⟨by rw[hb],rfl⟩;clear hR;refine Lp.nat (λm vals w'=>∃i:Nat,m+i=l.length/\vals=[i64 i]/\l.contains s=(l.drop i).contains s/\w'=w) (n:=l.length) ⟨0,omg,rfl,smp,rfl⟩ ?_;rintro m _ w' jk C ⟨i,hi,rfl,hx,rfl⟩ hC;refine gg ?_;refine .split (λhh=>?_) (λhh=>?_)
 .have hlt:i<l.length:=by have:=of_decide_eq_true hh;omega
  have hd:l.drop i=l[i]::l.drop (i+1):=List.drop_eq_getElem_cons hlt;have hci:(strs l)[i]?=some (κs l[i]):=by unfold strs;rw[List.getElem?_map,List.getElem?_eq_getElem hlt];rfl
  obtain⟨b,rest,cap,rfl,hv,hb,hcell,_⟩:=Uh h hci;cases hv;rw[hd,List.contains_cons]at hx;cases hs:l[i]==s with
  |true=>
   refine gg ?_;have:(s==l[i])=true:=by rw[BEq.comm];exact hs
   exact hR' _ (by rw[hx,this];rfl)
  |false=>
   refine gg ?_;have:(s==l[i])=false:=by rw[BEq.comm];exact hs
   exact hC (m - 1) _ _ omg ⟨i+1,omg,smp,by rw[hx,this];rfl,rfl⟩
 .have hge:¬ i<l.length:=by have:=of_decide_eq_false hh;omega
  rw[List.drop_eq_nil_of_le omg]at hx;exact hR' _ (by rw[hx];rfl)
theorem Qk.own(h:Gw w e m v n l o)(he:e=115\/e=117)(hB:∀b,o=some b->B<=b)(k:Kp (own o) w w'):Qk B w w':=
 ⟨k.os,k.tape,k.output,k.size,λi hi hs=>k.same i hs (aF λe=>by have:=hB i e;omega),λi l t hi h1 h2 h3=>(k.same i (lt_of_heap hi) (aF (fP h hi (by rcases he with rfl|rfl;exact λe=>h2 e.symm;exact λe=>h3 e.symm)))).trans hi⟩
theorem eQ.app(hn:IsI M w nv r.nums)(hp:IsI M w pv r.parts):∀{l:List eU} {c:List Value},eQ M w l c->eQ M w (l++[r]) (c++nR r nv pv)
 |[],c,h=>by
  obtain rfl:c=[]:=h;exact⟨nv,pv,[],smp,hn,hp,rfl⟩
 |a::l,c,⟨nv',pv',rest,h1,h2,h3,h4⟩=>⟨nv',pv',rest++nR r nv pv,by rw[h1,List.append_assoc],h2,h3,eQ.app hn hp h4⟩
theorem bP(h:Gw w e m v n l o)(g:Gw w e' m' v' n' l' o')(hne:e≠e')(k:Kp (own o') w w'):Gw w' e m v n l o:=
 h.kp k λb hb=>aF λe2=>by
  obtain⟨_,r,cp,_,y,_⟩:=show Gw w e' m' v' n' l' (some b)from e2▸g
  exact fP h y hne hb
def Lc(M N:Nat)(w:World)(v:Value)(l:List Int):Prop:=∃o,Gw w 3 1 v l.length (ints l) o/\∀b,o=some b->M<=b/\b<N
theorem Lc.isI(h:Lc M N w v l):IsI N w v l:=by
 obtain⟨o,g,h⟩:=h;exact⟨o,g,λb hb=>(h b hb).2⟩
theorem Lc.kt(h:Lc M N w v l)(k:Qk B w w'):Lc M N w' v l:=by
 obtain⟨o,h,hm⟩:=h;exact⟨o,dZ h k dcd dcd dcd,hm⟩
theorem Lc.off(h:Lc M N w v l)(hb:b<M):∀a n k,v≠.slice (some ⟨b,a,none⟩) n k:=by
 obtain⟨o,g,h⟩:=h;intro a n k e;subst e;obtain⟨_,g⟩:=g;cases o with
 |none=>obtain⟨g,_⟩:=g;cases g
 |some ob=>
  obtain⟨_,_,g,_⟩:=g;cases g;have:=h _ rfl;omega
theorem abo(hn:Lc M N w nv r.nums)(hp:Lc M N w pv r.parts)(hb:b<M):Off b (nR r nv pv):=by
 intro v hv a n k;unfold nR at hv;simp only[List.mem_cons,List.not_mem_nil,or_false]at hv;rcases hv with rfl|rfl|rfl|rfl|rfl|rfl|rfl|rfl
 .intro e;cases e
 .intro e;cases e
 .intro e;cases e
 .exact hn.off hb a n k
 .exact hp.off hb a n k
 .intro e;cases e
 .intro e;cases e
 .intro e;cases e
theorem QXG.addRow(h:QX B M pb w p x)(k9:Kp [] w w9)(k10:Kp (own x.o1) w9 w10)(g:Gw w10 115 8 v' (p.rows.length+1) (x.rc++nR r nv pv) o')(ho':o'=x.o1\/o'=some w9.heap.size)
  (k11:Kp [(pb,pb+1)] w10 w11) (Uc:w11.heap[pb]?=some (cl (aN p { x with rv:=v' }) 112)) (hn:IsI M w nv r.nums) (hpp:IsI M w pv r.parts) (hoff:∀b,x.o4=some b->Off b (nR r nv pv)):
  QX B M pb w11 { p with rows:=p.rows++[r] } { x with rv:=v',rc:=x.rc++nR r nv pv,o1:=o' }/\Qk B w w11:=by
 have h9:=h.ext k9;have q9:Qk B w w9:=Qk.kp k9;have q10:Qk B w9 w10:=Qk.own h9.rows (Or.inl rfl) h.b1 k10;have hpb:w10.heap[pb]?=some (cl (aN p x) 112):=(k10.same _ (lt_of_heap h9.hp) (aF (fP h9.rows h9.hp dcd))).trans h9.hp;have q11:Qk B w10 w11:=Qk.out hpb h.b0 (Or.inl rfl) k11;have q:=(q9.trans q10).trans q11
 have ho:∀{e:TypeId} {m:Nat} {v:Value} {n:Nat} {l:List Value} {o:Option Nat},Gw w10 e m v n l o->e≠112->Gw w11 e m v n l o:=λhg hne=>hg.kp k11 λb hb=>⟨by
  have:b≠pb:=λe=>fP hg hpb hne (hb.trans (by rw[e]))
  omega,trivial⟩
 refine⟨⟨Uc,?_,?_,ho (bP h9.names h9.rows dcd k10) dcd,ho (bP h9.procs h9.rows dcd k10) dcd,ho (bP h9.aj h9.rows dcd k10) dcd,h.b0,?_,h.b2,h.b3,h.b4,h.m3,h.m4,λb hb v hv=>(List.mem_append.mp hv).elim (h.d4 b hb v) (hoff b hb v),trivial,⟨h.ok.len,h.ok.en0,h.ok.en1,h.ok.we⟩,h.tl⟩,q⟩
 .show Gw w11 115 8 v' (p.rows++[r]).length _ o';rw[List.length_append];exact ho g dcd
 .exact eQ.app (hn.kt q) (hpp.kt q) (h.rat.kt q)
 .intro b hb;rcases ho' with e|e
  .exact h.b1 b (e▸hb)
  .rw[show o'=some b from hb]at e;cases e;have:=h.b0;have:=lt_of_heap h9.hp;omega
theorem Ar(h:QS B M pb w p)(hl:p.rows.length<=1000000)(hn:Lc M N w nv r.nums)(hpp:Lc M N w pv r.parts)(hMN:M<=N:=by omega):Calls P 39 #[pt pb 0,.agg (List.toArray (nR r nv pv))] w (Ret λv w'=>v=.int .i64 (dh p r).1/\QT B N pb w (dh p r).2 w'):=by
 refine Ret.R λR hR=>?_;refine cf [] Tryz.func39 ?_;obtain⟨x,h⟩:=h;have hoff:∀b,x.o4=some b->Off b (nR r nv pv):=λb hb=>abo hn hpp (h.m4 b hb);have h:=h.mono hMN;have hn:=hn.isI;have hpp:=hpp.isI;have hp:=h.hp;unfold aN at hp;have hlt:=lt_of_heap hp;obtain⟨va,vc,hv⟩:=h.rows.len;rw[hv]at hp;have hrows:=h.rows;rw[hv]at hrows;unfold nR;refine gg ?_;refine Ap.w (λw9=>Kp [] w w9/\w.heap.size+1<w9.heap.size/\w9.heap[w.heap.size+1]?=some (cl (nR r nv pv) 115)) ⟨kpA,by simp only[size_alloc,ah,size_drew];omega,by unfold nR;exact lookA⟩ ?_;rintro w9 ⟨k9,z9,n9⟩;have hone:(nR r nv pv).all (·.oneCell')=true:=by
  obtain⟨_,hn,_⟩:=hn;obtain⟨_,hpp,_⟩:=hpp;obtain⟨_,_,rfl⟩:=hn.len;obtain⟨_,_,rfl⟩:=hpp.len;rfl
 refine Ap.g (hrows.kp k9 (λ_ _=>trivial)) n9 rfl hone ?_ omg;intro v' w10 o' g10 ho' k10;obtain⟨aa',ca',rfl⟩:=g10.len;have h9:=h.ext k9;have c10:w10.heap[pb]?=some (cl [κs p.txt,.int .i64 p.w.kind,κs p.w.s,.int .i64 p.w.at_,.int .i64 p.w.en,.int .i64 p.w.n,.int .i64 p.w.e,.slice va p.rows.length vc,x.nv,x.pv,κs p.out,.int .i64 p.e,.int .i64 p.at_,.int .i64 p.consts,.int .i64 p.types,x.gv] 112):=(k10.same _ (lt_of_heap h9.hp) (aF (fP h9.rows h9.hp dcd))).trans ((k9.same _ hlt trivial).trans hp);have hl10:=lt_of_heap c10;refine gg ?_;refine(λ(Q:∀w11,Kp [(pb,pb+1)] w10 w11/\w11.heap[pb]?=some (cl (aN p { x with rv:=.slice aa' (p.rows.length+1) ca' }) 112)->R (.returned (.int .i64 (((p.rows.length+1:Nat):Int) - 1))) w11)=>Q _ ⟨kpA,?_⟩) ?_
 .refine look_eq lookA ?_;rfl
 .rintro w11 ⟨k11,c11⟩;obtain⟨r1,r2⟩:=h.addRow k9 k10 g10 ho' k11 c11 hn hpp hoff;refine hR _ _ ⟨?_,⟨_,r1⟩,r2⟩;show Value.int .i64 _=.int .i64 ((p.rows.length:Nat):Int);congr 1;omega
end
end Go.W.T
namespace Go.W.T
open Go Go.W Go.M Go.Proofs
section
variable {B M pb:Nat} {w:World} {p:RS}
theorem NZ(l:List NmR)(x:NmR):bV (l++[x])=bV l++nmV x:=by simp[bV]
theorem QXG.VT(h:QX B M pb w p x)(k9:Kp [] w w9)(k10:Kp (own x.o2) w9 w10)(g:Gw w10 117 4 v' (p.names.length+1) (bV p.names++nmV r) o')(ho':o'=x.o2\/o'=some w9.heap.size)
  (k11:Kp [(pb,pb+1)] w10 w11) (Uc:w11.heap[pb]?=some (cl (aN p { x with nv:=v' }) 112)):
  QX B M pb w11 { p with names:=p.names++[r] } { x with nv:=v',o2:=o' }/\Qk B w w11:=by
 have h9:=h.ext k9;have q9:Qk B w w9:=Qk.kp k9;have q10:Qk B w9 w10:=Qk.own h9.names (Or.inr rfl) h.b2 k10;have hpb:w10.heap[pb]?=some (cl (aN p x) 112):=(k10.same _ (lt_of_heap h9.hp) (aF (fP h9.names h9.hp dcd))).trans h9.hp;have q11:Qk B w10 w11:=Qk.out hpb h.b0 (Or.inl rfl) k11;have q:=(q9.trans q10).trans q11
 have ho:∀{e:TypeId} {m:Nat} {v:Value} {n:Nat} {l:List Value} {o:Option Nat},Gw w10 e m v n l o->e≠112->Gw w11 e m v n l o:=λhg hne=>hg.kp k11 λb hb=>⟨by
  have:b≠pb:=λe=>fP hg hpb hne (hb.trans (by rw[e]))
  omega,trivial⟩
 refine⟨⟨Uc,ho (bP h9.rows h9.names dcd k10) dcd,h.rat.kt q,?_,ho (bP h9.procs h9.names dcd k10) dcd,ho (bP h9.aj h9.names dcd k10) dcd,h.b0,h.b1,?_,h.b3,h.b4,h.m3,h.m4,h.d4,h.gh,⟨h.ok.len,h.ok.en0,h.ok.en1,h.ok.we⟩,h.tl⟩,q⟩
 .show Gw w11 117 4 v' (p.names++[r]).length (bV (p.names++[r])) o';rw[List.length_append,NZ];exact ho g dcd
 .intro b hb;rcases ho' with e|e
  .exact h.b2 b (e▸hb)
  .rw[show o'=some b from hb]at e;cases e;have:=h.b0;have:=lt_of_heap h9.hp;omega
theorem rQ(h:QS B M pb w p)(what:Int)(hl:p.names.length<=900000):Calls P 121 #[pt pb 0,.int .i64 what] w (Ret λv w'=>v=.agg (List.toArray (aA (az p what).1))/\QT B M pb w (az p what).2 w'):=by
 refine Ret.R λR hR=>?_;refine cf [] Tryz.func121 ?_;refine .s ?_;refine Cl.w (λw9=>Kp [] w w9/\w9.heap[w.heap.size]?=some (cl z6 110)) ⟨kpA,lookA⟩ ?_;rintro w2 ⟨k2,n1⟩;refine Cl.ret (TG (h.ext k2)) ?_;rintro _ w4 ⟨rfl,t4,q4⟩;have n1:=q4.ld n1;have l1:=lt_of_heap n1;have sb:=uy p;unfold az at hR;generalize fD p=y at *;have hln:y.2.names.length<=900000:=by rw[sb.names];exact hl
 obtain⟨x,t⟩:=t4;have hp:=t.hp;unfold aN at hp;have hlt:=lt_of_heap hp;have l2:=lt_of_heap n1;simp only at hR;unfold aA;cases he:y.2.e != 0 with
 |true=>
  rw[he,if_pos rfl]at hR;refine gg ?_;exact hR _ _ ⟨rfl,QSG.tmp ⟨x,t⟩ n1 kpA,((Qk.kp k2).trans q4).tmp (b:=w.heap.size) kpA (Nat.le_refl _)⟩
 |false=>
  rw[he,if_neg smp]at hR;refine gg ?_;refine Cl.w (λw9=>Kp [] w4 w9/\w9.heap[w4.heap.size]?=some (cl (aA y.1) 110)) ⟨kpA,by unfold aA;exact lookA⟩ ?_;rintro w7 ⟨k7,n5⟩;have t7:=t.ext k7;have n17:=(k7.same _ l2 trivial).trans n1;have hz7:=k7.size;have hz4:=q4.size;have l5:=lt_of_heap n5;have l17:=lt_of_heap n17;refine Cl.ret (Bz t7.names y.1.s omg) ?_;rintro _ w22 ⟨rfl,rfl⟩;have hp7:=t7.hp;unfold aN at hp7;have hlt7:=lt_of_heap hp7;unfold aA at n5;cases hn:nix y.1.s y.2.names with
  |some k=>
   have d0:decide (oD y.1.s y.2.names>=0)=true:=by unfold oD;rw[hn];exact decide_eq_true (by simp only;omega)
   simp only[hn]at hR;refine gg ?_;refine Cl.ret (kZ (p:=y.2) ⟨x,t7⟩ 6 y.1.at_) ?_;rintro _ w27 ⟨rfl,t27,q27⟩;have n5:=q27.ld n5;have n17:=q27.ld n17;have l17:=lt_of_heap n17;have hz27:=q27.size;refine gg ?_;exact hR _ _ ⟨rfl,QSG.tmp t27 n17 kpA,((((Qk.kp k2).trans q4).trans (Qk.kp k7)).trans q27).tmp (b:=w.heap.size) kpA (Nat.le_refl _)⟩
  |none=>
   have d0:decide (oD y.1.s y.2.names>=0)=false:=by unfold oD;rw[hn];rfl
   simp only[hn]at hR;obtain⟨va,vc,hv⟩:=t7.names.len;rw[hv]at hp7;have ja:=t7.names;rw[hv]at ja;refine gg ?_;refine Ap.w (λw9=>Kp [] w22 w9/\w22.heap.size<w9.heap.size/\w9.heap[w22.heap.size]?=some (cl (nmV ⟨y.1.s,what,-1,y.1.at_⟩) 117)) ⟨kpA,by simp only[size_alloc,ah,size_drew];omega,by unfold nmV;exact lookA⟩ ?_;rintro w9 ⟨k9,z9,n9⟩;refine Ap.g (ja.kp k9 (λ_ _=>trivial)) n9 rfl rfl ?_ omg;intro v' w10 o' g10 ho' k10;obtain⟨aa',ca',rfl⟩:=g10.len;have h9:=t7.ext k9;have c10:w10.heap[pb]?=some (cl [κs y.2.txt,.int .i64 y.2.w.kind,κs y.2.w.s,.int .i64 y.2.w.at_,.int .i64 y.2.w.en,.int .i64 y.2.w.n,.int .i64 y.2.w.e,x.rv,.slice va y.2.names.length vc,x.pv,κs y.2.out,.int .i64 y.2.e,.int .i64 y.2.at_,.int .i64 y.2.consts,.int .i64 y.2.types,x.gv] 112):=(k10.same _ (lt_of_heap h9.hp) (aF (fP h9.names h9.hp dcd))).trans ((k9.same _ hlt7 trivial).trans hp7);have hl10:=lt_of_heap c10;have q10:Qk B w9 w10:=Qk.own h9.names (Or.inr rfl) h9.b2 k10;have n5:=q10.ld ((Qk.kp (B:=B) k9).ld n5);have n17:=q10.ld ((Qk.kp (B:=B) k9).ld n17);have l5:=lt_of_heap n5;have l17:=lt_of_heap n17;have hne5:pb≠w4.heap.size:=omg;have hne:pb≠w.heap.size:=by
    rintro e;rw[<- e,c10]at n17;exact absurd (AZ (Option.some.inj n17)) dcd
   have fin:∀w11 w12,Kp [(pb,pb+1)] w10 w11->w11.heap[pb]?=some (cl (aN y.2 { x with nv:=.slice aa' (y.2.names.length+1) ca' }) 112)->Kp [(w.heap.size,w.heap.size+1)] w11 w12->R (.returned (.agg (List.toArray (aA y.1)))) w12:=λw11 w12 k11 c11 k12=>by
    obtain⟨r1,r2⟩:=t7.VT k9 k10 g10 ho' k11 c11;have n11:=(k11.same _ l17 ⟨omg,trivial⟩).trans n17;exact hR _ _ ⟨rfl,QSG.tmp ⟨_,r1⟩ n11 k12,((((Qk.kp k2).trans q4).trans (Qk.kp k7)).trans r2).tmp (b:=w.heap.size) k12 (Nat.le_refl _)⟩
   refine gg ?_;refine fin _ _ ?_ ?_ (Kp.yS (Kp.refl _ _) (by simp only[Out,and_true];omega) _)
   .exact kpA
   .refine look_eq lookA ?_;rfl
theorem qg(h:k<l.length):l[k]?=some (cO l k):=by
 unfold cO;rw[List.getD_eq_getElem?_getD,List.getElem?_eq_getElem h];rfl
theorem zS(h:QSG G B M pb w p)(lo hi:Int)(hl:p.names.length<=1000000):Calls P 122 #[pt pb 0,.int .i64 lo,.int .i64 hi] w (Ret λv w'=>v=.tuple #[.int .i64 (ak p lo hi).1,.int .i64 (ak p lo hi).2.1]/\QTG G B M pb w (ak p lo hi).2.2 w'):=by
 refine Ret.R λR hR=>?_;refine cf [9] Tryz.func122 ?_;have h0:=h;obtain⟨x,h⟩:=h;have hp:=h.hp;unfold aN at hp;have hlt:=lt_of_heap hp;unfold ak at hR;cases he:p.e != 0 with
 |true=>
  rw[he,if_pos rfl]at hR;refine gg ?_;exact hR _ _ ⟨rfl,h0,Qk.refl _ _⟩
 |false=>
  rw[he,if_neg smp]at hR;refine gg ?_;refine Cl.w (λw9=>Kp [] w w9/\w9.heap[w.heap.size]?=some (cl (aA p.w) 110)) ⟨kpA,by unfold aA;exact lookA⟩ ?_;rintro w10 ⟨k10,n8⟩;have h10:=h0.ext k10;have hx10:=h.ext k10;have Xr:=hx10.hp;unfold aN at Xr;have l8:=lt_of_heap n8;refine Cl.ret (rF h10 2 [84,82,85,69]) ?_;rintro _ w14 ⟨rfl,rfl⟩;refine Cl.ret (rF h10 2 [70,65,76,83,69]) ?_;rintro _ w16 ⟨rfl,rfl⟩;have q10:Qk B w w16:=Qk.kp k10;unfold aA at n8;refine Jn.by (λvals w'=>∃n,IM p=.inl (some n)/\vals=[.int .i64 n]/\Kp [] w16 w') (λJ hJ=>?_) ?_
  .unfold IM at hR hJ;cases hk3:p.w.kind==3 with
   |true=>
    rw[hk3,if_pos rfl]at hJ;refine gg ?_;exact hJ _ _ ⟨_,rfl,rfl,kpA⟩
   |false=>
   rw[hk3,if_neg smp]at hJ hR;cases hT:is_ p 2 [84,82,85,69]with
   |true=>
    rw[hT,if_pos rfl]at hJ;refine gg ?_;exact hJ _ _ ⟨_,rfl,rfl,kpA⟩
   |false=>
   rw[hT,if_neg smp]at hJ hR;cases hF:is_ p 2 [70,65,76,83,69]with
   |true=>
    rw[hF,if_pos rfl]at hJ;refine gg ?_;exact hJ _ _ ⟨_,rfl,rfl,kpA⟩
   |false=>
   rw[hF,if_neg smp]at hJ hR;cases hk1:p.w.kind==1 with
   |false=>
    rw[hk1,if_neg smp]at hR;refine gg ?_;refine Cl.ret (Au h10) ?_;rintro _ w' ⟨rfl,t,k⟩;refine gg ?_;exact hR _ _ ⟨rfl,t,q10.trans k⟩
   |true=>
    rw[hk1,if_pos rfl]at hJ hR;refine gg ?_;refine Cl.w (λw9=>w9=w16.drew) rfl ?_;rintro w17 rfl;have hxd:=hx10.ext (w':=w16.drew) kpA;refine Cl.ret (Bz hxd.names p.w.s omg) ?_;rintro _ w31 ⟨rfl,rfl⟩;unfold He at hJ hR;cases hn:nix p.w.s p.names with
    |none=>
     have d0:decide (oD p.w.s p.names<0)=true:=by unfold oD;rw[hn];rfl
     simp only[hn]at hR;refine gg ?_;refine Cl.ret (kZ (p:=p) ⟨x,hxd⟩ 7 p.w.at_) ?_;rintro _ w' ⟨rfl,t,k⟩;refine gg ?_;exact hR _ _ ⟨rfl,t,(q10.trans (Qk.kp kpA)).trans k⟩
    |some k=>
     have hnk:oD p.w.s p.names=(k:Int):=by unfold oD;rw[hn]
     have d0:decide ((k:Int)<0)=false:=decide_eq_false omg;have hkl:=EP hn;rw[hnk];obtain⟨b,rest,cap,ho2,hv,hb,hcell⟩:=uK qV hx10.names (qg hkl);rw[hv]at Xr;have c1:=hcell 1 _ rfl;have c2:=hcell 2 _ rfl;simp only[hn]at hR hJ;cases hw:(cO p.names k).what==0 with
     |false=>
      have hw':((cO p.names k).what != 0)=true:=by rw[bne,hw];rfl
      rw[hw]at hR;refine gg ?_;refine Cl.ret (kZ (p:=p) ⟨x,hxd⟩ 7 p.w.at_) ?_;rintro _ w' ⟨rfl,t,k⟩;refine gg ?_;exact hR _ _ ⟨rfl,t,(q10.trans (Qk.kp kpA)).trans k⟩
     |true=>
      have hw':((cO p.names k).what != 0)=false:=by rw[bne,hw];rfl
      rw[hw]at hJ;refine gg ?_;exact hJ _ _ ⟨_,rfl,rfl,kpA⟩
  .rintro _ w86 jk ⟨n,hraw,rfl,k86⟩;simp only[hraw]at hR;have h86:=h10.ext k86;have n8:=(k86.same _ l8 trivial).trans n8;have q86:Qk B w w86:=q10.trans (Qk.kp k86)
   by_cases hlo:n<lo
   .have d1:decide (n<lo)=true:=decide_eq_true hlo;rw[if_pos (Or.inl hlo)]at hR;refine gg ?_;refine Cl.ret (kZ h86 8 p.w.at_) ?_;rintro _ w' ⟨rfl,t,k⟩;refine gg ?_;exact hR _ _ ⟨rfl,t,q86.trans k⟩
   .have d1:decide (n<lo)=false:=decide_eq_false hlo
    by_cases hhi:n>hi
    .have d2:decide (n>hi)=true:=decide_eq_true hhi;rw[if_pos (Or.inr hhi)]at hR;refine gg ?_;refine Cl.ret (kZ h86 8 p.w.at_) ?_;rintro _ w' ⟨rfl,t,k⟩;refine gg ?_;exact hR _ _ ⟨rfl,t,q86.trans k⟩
    .have d2:decide (n>hi)=false:=decide_eq_false hhi;rw[if_neg (by rintro(e|e);exact hlo e;exact hhi e)]at hR;refine gg ?_;refine Cl.ret (jh h86) ?_;rintro _ w' ⟨rfl,t,k⟩;have n8:=k.ld n8;refine gg ?_;exact hR _ _ ⟨rfl,t.ext kpA,(q86.trans k).trans (Qk.kp kpA)⟩
theorem NP(h:QS B M pb w p)(hg:Gw w 9 1 lv l.length (strs l) o)(all:Bool)(hl:p.names.length<=1000000)(hl2:l.length<=1000000):Calls P 186 #[pt pb 0,lv,.bool all] w (Ret λv w'=>v=.agg (List.toArray (aA (dS p l all).1))/\QT B M pb w (dS p l all).2 w'):=by
 refine Ret.R λR hR=>?_;refine cf [8] Tryz.func186 ?_;refine .s ?_;refine Cl.w (λw9=>Kp [] w w9/\w9.heap[w.heap.size]?=some (cl z6 110)) ⟨kpA,lookA⟩ ?_;rintro w2 ⟨k2,n1⟩;refine Cl.ret (TG (h.ext k2)) ?_;rintro _ w4 ⟨rfl,t4,q4⟩;have n1:=q4.ld n1;have l1:=lt_of_heap n1;have hg4:=dZ (hg.kp k2 λ_ _=>trivial) q4 dcd dcd dcd;have sb:=uy p;have hR':∀y:WR×RS,y=fD p->∀w',QT B M pb w (if y.2.e==0&&(if all then(nix y.1.s y.2.names).isSome else l.contains y.1.s)then aK y.2 6 y.1.at_ else y.2) w'->R (.returned (.agg (List.toArray (aA y.1)))) w':=λy hy w' t=>hR _ _ ⟨by rw[hy];rfl,by rw[hy]at t;exact t⟩;replace hR':=hR' (fD p) rfl;clear hR;generalize fD p=y at *;have hln:y.2.names.length<=1000000:=by rw[sb.names];exact hl
 have q04:Qk B w w4:=(Qk.kp k2).trans q4;obtain⟨x,t⟩:=t4;unfold aA;refine gg ?_;refine Cl.w (λw9=>Kp [] w4 w9/\w9.heap[w4.heap.size]?=some (cl (aA y.1) 110)) ⟨kpA,by unfold aA;exact lookA⟩ ?_;rintro w7 ⟨k7,n5⟩;have t7:=t.ext k7;have hz4:=q04.size;have n17:=(k7.same _ l1 trivial).trans n1;have l5:=lt_of_heap n5;have hz2:=k2.size;have hz7:=k7.size;refine Cl.ret (W9 (hg4.kp k7 λ_ _=>trivial) y.1.s hl2) ?_;rintro _ w11 ⟨rfl,rfl⟩;have q07:Qk B w w11:=q04.trans (Qk.kp k7);have hp7:=t7.hp;unfold aN at hp7;unfold aA at n5;refine Jn.by (λvals w'=>vals=[.bool (if all then(nix y.1.s y.2.names).isSome else l.contains y.1.s)]/\Kp [] w11 w') (λJ hJ=>?_) ?_
 .cases all with
  |false=>
   refine gg ?_;exact hJ _ _ ⟨rfl,Kp.refl _ _⟩
  |true=>
   refine gg ?_;refine Cl.w (λw9=>w9=w11.drew) rfl ?_;rintro w17 rfl;refine Cl.ret (Bz (t7.ext (w':=w11.drew) kpA).names y.1.s hln) ?_;rintro _ w20 ⟨rfl,rfl⟩;have d0:decide (oD y.1.s y.2.names>=0)=(nix y.1.s y.2.names).isSome:=by
    unfold oD;cases nix y.1.s y.2.names with
    |none=>rfl
    |some k=>exact decide_eq_true (by simp only;omega)
   refine gg ?_;rw[d0];exact hJ _ _ ⟨rfl,kpA⟩
 rintro _ w23 jk ⟨rfl,k23⟩;refine .s ?_;have t23:=t7.ext k23;have hp23:=t23.hp;unfold aN at hp23;have n5:=(k23.same _ l5 trivial).trans n5;have n17:=(k23.same _ (lt_of_heap n17) trivial).trans n17;have q23:Qk B w w23:=q07.trans (Qk.kp k23);have hz23:=k23.size;generalize (if all then(nix y.1.s y.2.names).isSome else l.contains y.1.s)=tw at *;refine Jn.by (λ_ w'=>QT B M pb w (if y.2.e==0&&tw then aK y.2 6 y.1.at_ else y.2) w'/\Qk B w23 w') (λJ hJ=>?_) ?_
 .cases he:y.2.e==0 with
  |false=>
   refine gg ?_;exact hJ _ _ (by rw[he];exact⟨⟨⟨x,t23⟩,q23⟩,Qk.refl _ _⟩)
  |true=>
   cases tw with
   |false=>
    refine gg ?_;exact hJ _ _ (by rw[he];exact⟨⟨⟨x,t23⟩,q23⟩,Qk.refl _ _⟩)
   |true=>
    refine gg ?_;refine Cl.ret (kZ (p:=y.2) ⟨x,t23⟩ 6 y.1.at_) ?_;rintro _ w' ⟨rfl,t,k⟩;exact hJ _ _ (by rw[he];exact⟨⟨t,q23.trans k⟩,k⟩)
 rintro _ w38 jk2 ⟨⟨t38,q38⟩,k38⟩;have n5:=k38.ld n5;have n17:=k38.ld n17;have l17:=lt_of_heap n17;have hz38:=k38.size;refine gg ?_;exact hR' _ ⟨QSG.tmp t38 n17 kpA,q38.tmp (b:=w.heap.size) kpA (Nat.le_refl _)⟩
theorem NS(h:QS B M pb w p)(fixed:Bool)(hl:p.names.length<=1000000):Calls P 187 #[pt pb 0,.bool fixed] w (Ret λv w'=>v=.int .i64 (bC p fixed).1/\QT B M pb w (bC p fixed).2 w'):=by
 refine Ret.R λR hR=>?_;refine cf [8] Tryz.func187 ?_;unfold bC at hR;cases fixed with
 |true=>
  simp only[if_true]at hR;refine .t ?_;refine Cl.ret (dM h 4 [91]) ?_;rintro _ w2 ⟨rfl,t2,q2⟩;have s2:=aT p 4 [91];refine Cl.ret (zS t2 1 1000 (by rw[s2.names];exact hl)) ?_;rintro _ w4 ⟨rfl,t4,q4⟩;refine gg ?_;refine Cl.ret (dM t4 4 [93]) ?_;rintro _ w8 ⟨rfl,t8,q8⟩;exact hR _ _ ⟨rfl,t8,(q2.trans q4).trans q8⟩
 |false=>
  simp only[Bool.false_eq_true,if_false]at hR;refine .f ?_;refine Cl.ret (dM h 4 [60]) ?_;rintro _ w10 ⟨rfl,t10,q10⟩;have s10:=aT p 4 [60];generalize af p 4 [60]=p10 at *;refine Cl.ret (rF t10 4 [62]) ?_;rintro _ w12 ⟨rfl,rfl⟩;refine Jn.by (λvals w'=>vals=[.int .i64 (if is_ p10 4 [62]then(4294967295,p10)else((ak p10 0 4294967295).1,(ak p10 0 4294967295).2.2)).1]/\QT B M pb w (if is_ p10 4 [62]then(4294967295,p10)else((ak p10 0 4294967295).1,(ak p10 0 4294967295).2.2)).2 w') (λJ hJ=>?_) ?_
  .cases hi:is_ p10 4 [62]with
   |true=>
    rw[hi,if_pos rfl]at hJ;refine gg ?_;exact hJ _ _ ⟨rfl,t10,q10⟩
   |false=>
    rw[hi,if_neg smp]at hJ;refine gg ?_;refine Cl.ret (zS t10 0 4294967295 (by rw[s10.names];exact hl)) ?_;rintro _ w16 ⟨rfl,t16,q16⟩;refine gg ?_;exact hJ _ _ ⟨rfl,t16,q10.trans q16⟩
  rintro _ w20 jk ⟨rfl,t20,q20⟩;refine .s ?_;refine Cl.ret (dM t20 4 [62]) ?_;rintro _ w23 ⟨rfl,t23,q23⟩;exact hR _ _ ⟨rfl,t23,q20.trans q23⟩
end
end Go.W.T
namespace Go.W.T
open Go Go.W Go.M Go.Proofs
section
variable {B M pb:Nat} {w:World} {p:RS}
theorem lD:Lc M M w (.slice none 0 0) []:=⟨none,Gw.nil _ _ _,λ_ h=>by cases h⟩
theorem Zy:Lc M N w (.slice none 0 0) []:=⟨none,Gw.nil _ _ _,λ_ h=>by cases h⟩
theorem Y4(h:QS B M pb w p)(hl:p.rows.length<=1000000):Calls P 188 #[pt pb 0] w (Ret λv w'=>v=.tuple #[.int .i64 (fO p).1,κs (fO p).2.1]/\QT B M pb w (fO p).2.2 w'):=by
 refine Ret.R λR hR=>?_;refine cf [] Tryz.func188 ?_;have h0:=h;obtain⟨x,h⟩:=h;have hp:=h.hp;unfold aN at hp;have hlt:=lt_of_heap hp;unfold fO at hR;cases he:p.e != 0 with
 |true=>
  rw[he,if_pos rfl]at hR;refine gg ?_;exact hR _ _ ⟨rfl,h0,Qk.refl _ _⟩
 |false=>
  rw[he,if_neg smp]at hR;cases hk1:p.w.kind==1 with
  |true=>
   rw[hk1,if_pos rfl]at hR;refine gg ?_;refine Cl.w (λw9=>Kp [] w w9/\w9.heap[w.heap.size]?=some (cl (aA p.w) 110)) ⟨kpA,by unfold aA;exact lookA⟩ ?_;rintro w10 ⟨k10,n8⟩;refine Cl.ret (jh (h0.ext k10)) ?_;rintro _ w15 ⟨rfl,t15,q15⟩;have n8:=q15.ld n8;have l8:=lt_of_heap n8;unfold aA at n8;have s15:=iC p;refine gg ?_;refine Cl.ret (Ar (r:={ row0 with kind:=14,name:=p.w.s,at_:=p.w.at_,of := -1 }) t15 (by rw[s15.rows];exact hl) lD lD) ?_;rintro _ w22 ⟨rfl,t22,q22⟩;have n8:=q22.ld n8;refine gg ?_;exact hR _ _ ⟨rfl,t22.ext kpA,(((Qk.kp k10).trans q15).trans q22).trans (Qk.kp kpA)⟩
  |false=>
  rw[hk1,if_neg smp]at hR;cases hk2:p.w.kind==2 with
  |false=>
   simp only[hk2,Bool.false_and,Bool.false_eq_true,if_false]at hR;refine gg ?_;refine Jn.by (λ_ w'=>Kp [] w w') (λJ hJ=>?_) ?_
   .refine gg ?_;exact hJ _ _ kpA
   rintro _ w54 jk k54;refine Cl.ret (Au (h0.ext k54)) ?_;rintro _ w57 ⟨rfl,t,k⟩;refine gg ?_;exact hR _ _ ⟨rfl,t,(Qk.kp k54).trans k⟩
  |true=>
  simp only[hk2,Bool.true_and]at hR;refine gg ?_;refine Jn.by (λ_ w'=>(p.w.s==[105,110,116])=false/\(p.w.s==[104,121,112,101,114])=false/\(p.w.s==[98,111,111,108])=false/\(p.w.s==[117,110,115,105,103,110,101,100])=false/\Kp [] w w') (λJ hJ=>?_) ?_
  .cases h1:p.w.s==[105,110,116]with
   |true=>
    rw[h1,if_pos rfl]at hR;refine gg ?_;refine Cl.w (λw9=>Kp [] w w9/\w9.heap[w.heap.size]?=some (cl (aA p.w) 110)) ⟨kpA,by unfold aA;exact lookA⟩ ?_;rintro w10 ⟨k10,n8⟩;refine Cl.ret (jh (h0.ext k10)) ?_;rintro _ w15 ⟨rfl,t15,q15⟩;refine gg ?_;exact hR _ _ ⟨rfl,t15,(Qk.kp k10).trans q15⟩
   |false=>
   rw[h1,if_neg smp]at hR;cases h2:p.w.s==[104,121,112,101,114]with
   |true=>
    rw[h2,if_pos rfl]at hR;refine gg ?_;refine Cl.w (λw9=>Kp [] w w9/\w9.heap[w.heap.size]?=some (cl (aA p.w) 110)) ⟨kpA,by unfold aA;exact lookA⟩ ?_;rintro w10 ⟨k10,n8⟩;refine Cl.ret (jh (h0.ext k10)) ?_;rintro _ w15 ⟨rfl,t15,q15⟩;refine gg ?_;exact hR _ _ ⟨rfl,t15,(Qk.kp k10).trans q15⟩
   |false=>
   rw[h2,if_neg smp]at hR;cases h3:p.w.s==[98,111,111,108]with
   |true=>
    rw[h3,if_pos rfl]at hR;refine gg ?_;refine Cl.w (λw9=>Kp [] w w9/\w9.heap[w.heap.size]?=some (cl (aA p.w) 110)) ⟨kpA,by unfold aA;exact lookA⟩ ?_;rintro w10 ⟨k10,n8⟩;refine Cl.ret (jh (h0.ext k10)) ?_;rintro _ w15 ⟨rfl,t15,q15⟩;refine gg ?_;exact hR _ _ ⟨rfl,t15,(Qk.kp k10).trans q15⟩
   |false=>
   rw[h3,if_neg smp]at hR;cases h4:p.w.s==[117,110,115,105,103,110,101,100]with
   |false=>
    refine gg ?_;exact hJ _ _ ⟨h1,h2,h3,h4,kpA⟩
   |true=>
    rw[h4,if_pos rfl]at hR;refine gg ?_;refine Cl.w (λw9=>Kp [] w w9/\w9.heap[w.heap.size]?=some (cl (aA p.w) 110)) ⟨kpA,by unfold aA;exact lookA⟩ ?_;rintro w10 ⟨k10,n8⟩;refine Cl.ret (jh (h0.ext k10)) ?_;rintro _ w42 ⟨rfl,t42,q42⟩;have q042:Qk B w w42:=(Qk.kp k10).trans q42;refine Cl.ret (rF t42 2 [104,121,112,101,114]) ?_;rintro _ w44 ⟨rfl,rfl⟩;refine Cl.ret (rF t42 2 [105,110,116]) ?_;rintro _ w46 ⟨rfl,rfl⟩;generalize aB p=p2 at *;cases hh:is_ p2 2 [104,121,112,101,114]with
    |true=>
     rw[hh,if_pos rfl]at hR;refine gg ?_;refine Cl.ret (jh t42) ?_;rintro _ w48 ⟨rfl,t48,q48⟩;refine gg ?_;exact hR _ _ ⟨rfl,t48,q042.trans q48⟩
    |false=>
     rw[hh,if_neg smp]at hR;refine gg ?_;refine Jn.by (λ_ w'=>QT B M pb w (if is_ p2 2 [105,110,116]then aB p2 else p2) w') (λJ2 hJ2=>?_) ?_
     .cases hi:is_ p2 2 [105,110,116]with
      |true=>
       refine gg ?_;refine Cl.ret (jh t42) ?_;rintro _ w48 ⟨rfl,t48,q48⟩;refine gg ?_;exact hJ2 _ _ (by rw[hi];exact⟨t48,q042.trans q48⟩)
      |false=>
       refine gg ?_;exact hJ2 _ _ (by rw[hi];exact⟨t42,q042⟩)
     rintro _ w52 jk ⟨t52,q52⟩;exact hR _ _ ⟨rfl,t52,q52⟩
  rintro _ w54 jk ⟨h1,h2,h3,h4,k54⟩;simp only[h1,h2,h3,h4,Bool.false_eq_true,if_false]at hR;refine Cl.ret (Au (h0.ext k54)) ?_;rintro _ w57 ⟨rfl,t,k⟩;refine gg ?_;exact hR _ _ ⟨rfl,t,(Qk.kp k54).trans k⟩
end
end Go.W.T
namespace Go.W.T
open Go Go.W Go.M Go.Proofs
open Go.Lib (decDigits itoa)
theorem xK(h:u<10):decDigits u=[UInt8.ofNat (48+u)]:=by rw[decDigits,dif_pos h]
theorem RG(h:¬ u<10):decDigits u=decDigits (u / 10)++[UInt8.ofNat (48+u % 10)]:=by rw[decDigits,dif_neg h]
theorem DY(k:Nat):∀u:Nat,u<10 ^ (k+1)->(decDigits u).length<=k+1:=by
 induction k with
 |zero=>intro u h;rw[xK omg];simp
 |succ k ih=>
  intro u h
  by_cases h10:u<10
  .rw[xK h10];simp
  .rw[RG h10,List.length_append];have:=ih (u / 10) (by rw[Nat.pow_succ]at h;omega);exact lng
theorem nC(h : -10000000000<n/\n<10000000000):(itoa n).length<=11:=by
 unfold itoa;split
 .have:=DY 9 n.natAbs omg;simp only[List.length_cons];omega
 .have:=DY 9 n.toNat omg;omega
theorem acO(h:w.heap[b]?=some (cl [.int .u8 c.toNat] t))(hK:K (κs [c])):CvB (.slice (some ⟨b,0,none⟩) 1 1) w K:=by
 refine⟨?_⟩;unfold XT;simp only[kR h 1 0 smp];have:UInt8.ofNat ((c.toNat:Int)).toNat=c:=by rw[Int.toNat_natCast];exact UInt8.ofNat_toNat
 simp only[List.drop_zero,List.take_succ_cons,List.take_zero,bytesOf,Option.map_some,this];exact hK
theorem Uk{n:Nat}(h:n<10):IntKind.u8.wrap (48+(n:Int))=((UInt8.ofNat (48+n)).toNat:Int):=by
 have hh:((List.range 10).all λn=>IntKind.u8.wrap (48+(n:Int))==((UInt8.ofNat (48+n)).toNat:Int))=true:=by decide +kernel
 simpa using List.all_eq_true.mp hh n (List.mem_range.mpr h)
theorem Lm(k:Nat):∀(w:World) (n:Nat),n<10 ^ (k+1)->k<=12->Calls P 123 #[.int .i64 (n:Nat)] w (Ret λv w'=>v=κs (decDigits n)/\Kp [] w w'):=by
 induction k with
 |zero=>
  intro w n h hk;have h:n<10:=omg;refine Ret.R λR hR=>?_;refine cf [] Tryz.func123 ?_;have d1:decide ((n:Int)<0)=false:=decide_eq_false omg;have d2:decide ((n:Int)>9)=false:=decide_eq_false omg;refine .s ?_;refine .f ?_;refine .s ?_;refine .f ?_;refine .a ?_;refine .s ?_;rw[Uk h];refine .s ?_;refine acO (c:=UInt8.ofNat (48+n)) lookA ?_;exact hR _ _ ⟨by rw[xK h],kpA⟩
 |succ k ih=>
  intro w n h hk
  by_cases h10:n<10
  .exact(ih w n (by have:10 ^ 1<=10 ^ (k+1):=Nat.pow_le_pow_right omg omg;omega) omg)
  .refine Ret.R λR hR=>?_;refine cf [] Tryz.func123 ?_;have hn:n<100000000000000:=by
    have:10 ^ (k+1+1)<=10 ^ 14:=Nat.pow_le_pow_right omg omg;omega
   have d1:decide ((n:Int)<0)=false:=decide_eq_false omg;have d2:decide ((n:Int)>9)=true:=decide_eq_true omg;refine .s ?_;refine .f ?_;refine .s ?_;refine .t ?_;have e1:IntKind.i64.wrap ((n:Int).tdiv 10)=((n / 10:Nat):Int):=by
    rw[Int.tdiv_eq_ediv_of_nonneg omg,rq omg omg];omega
   have e2:(n:Int).tmod 10=((n % 10:Nat):Int):=by
    rw[Int.tmod_eq_emod_of_nonneg omg];omega
   refine Bi.s (v:=.int .i64 (IntKind.i64.wrap ((n:Int).tdiv 10))) ?_ (by rfl);rw[e1];refine Cl.ret (ih w (n / 10) (by rw[Nat.pow_succ]at h;omega) omg) ?_;rintro _ w9 ⟨rfl,k9⟩;refine Bi.s (v:=.int .i64 ((n:Int).tmod 10)) ?_ (by rfl);rw[e2];refine Cl.ret (ih w9 (n % 10) (by have:10 ^ 1<=10 ^ (k+1):=Nat.pow_le_pow_right omg omg;omega) omg) ?_;rintro _ w12 ⟨rfl,k12⟩;have l1:=DY k (n / 10) (by rw[Nat.pow_succ]at h;omega);rw[xK (show n % 10<10 by omega)];refine .a ?_;exact hR _ _ ⟨by rw[RG h10],k9.tt k12⟩
theorem oN(n:Int)(h : -10000000000<n/\n<10000000000):Calls P 123 #[.int .i64 n] w (Ret λv w'=>v=κs (nI_ n)/\Kp [] w w'):=by
 unfold nI_
 by_cases h0:n<0
 .refine Ret.R λR hR=>?_;refine cf [] Tryz.func123 ?_;have d1:decide (n<0)=true:=decide_eq_true h0;refine .s ?_;refine .t ?_;refine Ng.s ?_;rw[rq (by omega) (by omega),Int.zero_sub,show -n=((n.natAbs:Nat):Int)by omega];refine Cl.ret (Lm 9 w n.natAbs (by omega) (by omega)) ?_;rintro _ w4 ⟨rfl,k4⟩;have l1:=DY 9 n.natAbs (by omega);have e:itoa n=45::decDigits n.natAbs:=by unfold itoa;rw[if_pos h0]
  refine Bs.a (a:=[45]) ?_ (by simp only[List.length_cons,List.length_nil];omega);exact hR _ _ ⟨by rw[e];rfl,k4⟩
 .have e:itoa n=decDigits n.toNat:=by unfold itoa;rw[if_neg h0]
  rw[e];have:=Lm 9 w n.toNat (by omega) (by omega);rw[show ((n.toNat:Nat):Int)=n by omega]at this;exact this
theorem gd_or{o s:Bool}{w:World}{K:KV}(h:K (.bool (o||s)) w):Gd (.bool o) false w (λK7=>K7 (.bool s) w) λx8 w9=>Pk (.bool o) (.bool true) x8 λx10=>K x10 w9:=by
 cases o with
 |true=>
  refine gg ?_;exact h
 |false=>
  refine gg ?_;exact h
theorem Oo{o s:Bool}{w:World}{K:KV}(h:K (.bool (o&&s)) w):Gd (.bool o) true w (λK7=>K7 (.bool s) w) λx8 w9=>Pk (.bool o) x8 (.bool false) λx10=>K x10 w9:=by
 cases o with
 |true=>
  refine gg ?_;exact h
 |false=>
  refine gg ?_;exact h
section
variable {B M pb:Nat} {w:World} {p:RS}
theorem value_num(p:RS)(h1 : -10000000000<lo)(h2:hi<10000000000) : -10000000000<(ak p lo hi).1/\(ak p lo hi).1<10000000000:=by
 unfold ak;split
 .simp only;omega
 .split
  .simp only;omega
  .simp only;omega
  .split
   .simp only;omega
   .simp only;omega
theorem Af(p:RS)(f:Bool) : -10000000000<(bC p f).1/\(bC p f).1<10000000000:=by
 unfold bC;split
 .exact value_num _ omg omg
 .simp only;split
  .simp only;omega
  .exact value_num _ omg omg
theorem abn(p:RS):(fO p).2.2.names=p.names/\(fO p).2.2.rows.length<=p.rows.length+1/\(fO p).2.2.txt=p.txt/\(fO p).2.1.length<=p.w.s.length+14:=by
 unfold fO;split
 .exact⟨rfl,Nat.le_succ _,rfl,by simp only[List.length_nil];omega⟩
 split
 .have s:=iC p;refine⟨s.names,?_,s.txt,by simp only;omega⟩;simp only[dh];rw[List.length_append,s.rows];exact Nat.le_refl _
 have s:=iC p;split
 .exact⟨s.names,by rw[s.rows];omega,s.txt,lng⟩
 split
 .exact⟨s.names,by rw[s.rows];omega,s.txt,lng⟩
 split
 .exact⟨s.names,by rw[s.rows];omega,s.txt,lng⟩
 split
 .simp only;have s2:=s.trans (iC (aB p));split
  .exact⟨s2.names,by rw[s2.rows];omega,s2.txt,lng⟩
  .split
   .exact⟨s2.names,by rw[s2.rows];omega,s2.txt,lng⟩
   .exact⟨s.names,by rw[s.rows];omega,s.txt,lng⟩
 .have s3:=sF p;exact⟨s3.names,by rw[s3.rows];omega,s3.txt,by simp only[List.length_nil];omega⟩
theorem TK(h:QS B M pb w p)(hg:Gw w 9 1 lv l.length (strs l) o)(all:Bool)(hl:p.names.length<=1000000)(hr:p.rows.length<=900000)(hl2:l.length<=1000000):
  Calls P 127 #[pt pb 0,lv,.bool all] w (Ret λv w'=>v=.tuple #[.int .i64 (dD p l all).1,κs (dD p l all).2.1,κs (dD p l all).2.2.1,.agg (List.toArray (aA (dD p l all).2.2.2.1))]/\QT B M pb w (dD p l all).2.2.2.2 w'):=by
 refine Ret.R λR hR=>?_;refine cf [20] Tryz.func127 ?_;refine .s ?_;refine Cl.w (λw9=>Kp [] w w9/\w9.heap[w.heap.size]?=some (cl z6 110)) ⟨kpA,lookA⟩ ?_;rintro w2 ⟨k2,n1⟩;have h2:=h.ext k2;have hg2:=hg.kp k2 λ_ _=>trivial;have z2:=k2.size;have q02:Qk B w w2:=Qk.kp k2;refine Cl.ret (rF h2 2 [111,112,97,113,117,101]) ?_;rintro _ w4 ⟨rfl,rfl⟩;refine Cl.ret (rF h2 2 [115,116,114,105,110,103]) ?_;rintro _ w6 ⟨rfl,rfl⟩;have h2':=h2;obtain⟨x,hx⟩:=h2';have hp:=hx.hp;unfold aN at hp;have hwl:=hx.ok.len;have htl:=hx.tl;unfold dD at hR;simp only at hR;have fin:∀(r:Int) (fr be:By) (y:WR) (p':RS) (w8 w9:World),(r,fr,be,y,p')=dD p l all->QT B M pb w p' w8->w8.heap[w.heap.size]?=some (cl z6 110)->Kp [(w.heap.size,w.heap.size+1)] w8 w9->R (.returned (.tuple #[.int .i64 r,κs fr,κs be,.agg (List.toArray (aA y))])) w9:=by
  intro r fr be y p' w8 w9 e t n k;refine hR _ _ ⟨?_,?_⟩
  .show _=Value.tuple #[.int .i64 (dD p l all).1,κs (dD p l all).2.1,κs (dD p l all).2.2.1,.agg (List.toArray (aA (dD p l all).2.2.2.1))];rw[<- e]
  .show QT B M pb w (dD p l all).2.2.2.2 w9;rw[<- e];exact⟨t.1.tmp n k,t.2.tmp k (Nat.le_refl _)⟩
 clear hR;generalize hd:dD p l all=D at *;unfold dD at hd;simp only at hd;generalize is_ p 2 [111,112,97,113,117,101]=oo at *;generalize is_ p 2 [115,116,114,105,110,103]=ss at *;refine gd_or ?_;cases hos:oo||ss with
 |true=>
  rw[hos,if_pos rfl]at hd;refine gg ?_;refine Cl.ret (jh h2) ?_;rintro _ w17 ⟨rfl,t17,q17⟩;have s17:=iC p;have n1:=q17.ld n1;have hg17:=dZ hg2 q17 dcd dcd dcd;generalize aB p=p17 at *;refine Cl.ret (NP t17 hg17 all (by rw[s17.names];exact hl) hl2) ?_;rintro _ w19 ⟨rfl,t19,q19⟩;have s19:=oJ p17 l all;have n1:=q19.ld n1;generalize dS p17 l all=y at *;have q019:=(q02.trans q17).trans q19;have z19:=q019.size;unfold aA;refine gg ?_;refine Cl.w (λw9=>Kp [] w19 w9/\w9.heap[w19.heap.size]?=some (cl (aA y.1) 110)) ⟨kpA,by unfold aA;exact lookA⟩ ?_;rintro w21 ⟨k21,n20⟩;have l1:=lt_of_heap n1;have n1:=(k21.same _ l1 trivial).trans n1;have t21:=t19.ext k21;have q021:Qk B w w21:=q019.trans (Qk.kp k21);refine Cl.ret (rF t21 4 [91]) ?_;rintro _ w24 ⟨rfl,rfl⟩;refine Oo ?_;cases hf:is_ y.2 4 [91]&&oo with
  |true=>
   rw[hf,if_pos rfl]at hd;refine .t ?_;refine Cl.ret (NS t21 true (by rw[s19.names,s17.names];exact hl)) ?_;rintro _ w30 ⟨rfl,t30,q30⟩;have s30:=mX y.2 true;have bn:=Af y.2 true;generalize bC y.2 true=m at *;have n1:=q30.ld n1;have n20:=q30.ld n20;refine Cl.ret (oN m.1 bn) ?_;rintro _ w32 ⟨rfl,k32⟩;have t32:=t30.ext k32;have n1:=(k32.same _ (lt_of_heap n1) trivial).trans n1;have n20:=(k32.same _ (lt_of_heap n20) trivial).trans n20;have il:=nC bn;refine .s ?_;refine Cl.ret (Ar (r:={ row0 with kind:=6,n:=m.1 }) t32 (by rw[s30.rows,s19.rows,s17.rows];omega) lD lD) ?_;rintro _ w35 ⟨rfl,t35,q35⟩;have n1:=q35.ld n1;have n20:=q35.ld n20;have l1:=lt_of_heap n1;have l20:=lt_of_heap n20;unfold aA at n20;refine Bs.a (a:=[91]) (b:=nI_ m.1) ?_ (by unfold nI_;simp only[List.length_cons,List.length_nil];omega);refine Bs.a (a:=[91]++nI_ m.1) (b:=[93]) ?_ (by unfold nI_;simp only[List.length_append,List.length_cons,List.length_nil];omega);refine gg ?_;exact fin _ _ _ _ _ w35.drew _ hd ⟨t35.ext kpA,((((q021.trans q30).trans (Qk.kp k32)).trans q35).trans (Qk.kp kpA))⟩ n1 kpA
  |false=>
   rw[hf,if_neg smp]at hd;refine .f ?_;refine Cl.ret (NS t21 false (by rw[s19.names,s17.names];exact hl)) ?_;rintro _ w30 ⟨rfl,t30,q30⟩;have s30:=mX y.2 false;have bn:=Af y.2 false;generalize bC y.2 false=m at *;have n1:=q30.ld n1;have n20:=q30.ld n20;refine Cl.ret (oN m.1 bn) ?_;rintro _ w32 ⟨rfl,k32⟩;have t32:=t30.ext k32;have n1:=(k32.same _ (lt_of_heap n1) trivial).trans n1;have n20:=(k32.same _ (lt_of_heap n20) trivial).trans n20;have il:=nC bn;refine Jn.by (λvals w'=>vals=[.int .i64 (if ss then 8 else 7)]/\w'=w32) (λJ hJ=>?_) ?_
   .cases ss with
    |true=>
     refine .t ?_;exact hJ _ _ ⟨rfl,rfl⟩
    |false=>
     refine .f ?_;exact hJ _ _ ⟨rfl,rfl⟩
   rintro _ w47 jk ⟨rfl,rfl⟩;refine gg ?_;refine Cl.ret (Ar (r:={ row0 with kind:=if ss then 8 else 7,n:=m.1 }) t32 (by rw[s30.rows,s19.rows,s17.rows];omega) lD lD) ?_;rintro _ w35 ⟨rfl,t35,q35⟩;have n1:=q35.ld n1;have n20:=q35.ld n20;have l1:=lt_of_heap n1;have l20:=lt_of_heap n20;unfold aA at n20;refine Bs.a (a:=[60]) (b:=nI_ m.1) ?_ (by unfold nI_;simp only[List.length_cons,List.length_nil];omega);refine Bs.a (a:=[60]++nI_ m.1) (b:=[62]) ?_ (by unfold nI_;simp only[List.length_append,List.length_cons,List.length_nil];omega);refine gg ?_;exact fin _ _ _ _ _ w35.drew _ hd ⟨t35.ext kpA,((((q021.trans q30).trans (Qk.kp k32)).trans q35).trans (Qk.kp kpA))⟩ n1 kpA
 |false=>
  rw[hos,if_neg smp]at hd;refine .f ?_;refine Cl.ret (Y4 h2 omg) ?_;rintro _ w58 ⟨rfl,t58,q58⟩;obtain⟨s58n,s58r,s58t,s58l⟩:=abn p;have n1:=q58.ld n1;have hg58:=dZ hg2 q58 dcd dcd dcd;have q058:=q02.trans q58;have z58:=q058.size;generalize fO p=k at *;refine gg ?_;refine Cl.ret (rF t58 4 [42]) ?_;rintro _ w62 ⟨rfl,rfl⟩;cases hst:is_ k.2.2 4 [42]with
  |true=>
   rw[hst,if_pos rfl]at hd;refine .t ?_;refine Cl.ret (jh t58) ?_;rintro _ w64 ⟨rfl,t64,q64⟩;have s64:=iC k.2.2;have n1:=q64.ld n1;have hg64:=dZ hg58 q64 dcd dcd dcd;generalize aB k.2.2=p64 at *;refine Cl.ret (NP t64 hg64 all (by rw[s64.names,s58n];exact hl) hl2) ?_;rintro _ w66 ⟨rfl,t66,q66⟩;have s66:=oJ p64 l all;have n1:=q66.ld n1;generalize dS p64 l all=y at *;have q066:=(q058.trans q64).trans q66;have z66:=q066.size;unfold aA;refine gg ?_;refine Cl.w (λw9=>Kp [] w66 w9/\w9.heap[w66.heap.size]?=some (cl (aA y.1) 110)) ⟨kpA,by unfold aA;exact lookA⟩ ?_;rintro w69 ⟨k69,n20⟩;have l1:=lt_of_heap n1;have n1:=(k69.same _ l1 trivial).trans n1;have t69:=t66.ext k69;refine Cl.ret (Ar (r:={ row0 with kind:=11,of:=k.1 }) t69 (by rw[s66.rows,s64.rows];omega) lD lD) ?_;rintro _ w35 ⟨rfl,t35,q35⟩;have n1:=q35.ld n1;have n20:=q35.ld n20;have l1:=lt_of_heap n1;have l20:=lt_of_heap n20;unfold aA at n20;refine Bs.a (a:=k.2.1) (b:=[32,42]) ?_ lng;refine gg ?_;exact fin _ _ _ _ _ w35.drew _ hd ⟨t35.ext kpA,(((q066.trans (Qk.kp k69)).trans q35).trans (Qk.kp kpA))⟩ n1 kpA
  |false=>
   rw[hst,if_neg smp]at hd;refine .f ?_;refine Cl.ret (NP t58 hg58 all (by rw[s58n];exact hl) hl2) ?_;rintro _ w78 ⟨rfl,t78,q78⟩;have s78:=oJ k.2.2 l all;have n1:=q78.ld n1;generalize dS k.2.2 l all=y at *;have Za:=q058.trans q78;have z78:=Za.size;unfold aA;refine gg ?_;refine Cl.w (λw9=>Kp [] w78 w9/\w9.heap[w78.heap.size]?=some (cl (aA y.1) 110)) ⟨kpA,by unfold aA;exact lookA⟩ ?_;rintro w81 ⟨k81,n20⟩;have l1:=lt_of_heap n1;have n1:=(k81.same _ l1 trivial).trans n1;have t81:=t78.ext k81;have Qb:Qk B w w81:=Za.trans (Qk.kp k81);refine Cl.ret (rF t81 4 [91]) ?_;rintro _ w83 ⟨rfl,rfl⟩;refine Cl.ret (rF t81 4 [60]) ?_;rintro _ w85 ⟨rfl,rfl⟩;generalize is_ y.2 4 [91]=fx at *;generalize is_ y.2 4 [60]=op at *;refine gd_or ?_;cases hfo:fx||op with
   |true=>
    rw[hfo,if_pos rfl]at hd;refine .t ?_;refine Cl.ret (NS t81 fx (by rw[s78.names,s58n];exact hl)) ?_;rintro _ w91 ⟨rfl,t91,q91⟩;have s91:=mX y.2 fx;have bn:=Af y.2 fx;generalize bC y.2 fx=m at *;have n1:=q91.ld n1;have n20:=q91.ld n20;refine Cl.ret (oN m.1 bn) ?_;rintro _ w93 ⟨rfl,k93⟩;have t93:=t91.ext k93;have n1:=(k93.same _ (lt_of_heap n1) trivial).trans n1;have n20:=(k93.same _ (lt_of_heap n20) trivial).trans n20;have il:=nC bn;cases fx with
    |true=>
     simp only[if_true]at hd;refine gg ?_;refine Cl.ret (Ar (r:={ row0 with kind:=9,of:=k.1,n:=m.1 }) t93 (by rw[s91.rows,s78.rows];omega) lD lD) ?_;rintro _ w35 ⟨rfl,t35,q35⟩;have n1:=q35.ld n1;have n20:=q35.ld n20;have l1:=lt_of_heap n1;have l20:=lt_of_heap n20;unfold aA at n20;refine Bs.a (a:=k.2.1) (b:=[32]) ?_ lng;refine Bs.a (a:=[91]) (b:=nI_ m.1) ?_ (by unfold nI_;simp only[List.length_cons,List.length_nil];omega);refine Bs.a (a:=[91]++nI_ m.1) (b:=[93]) ?_ (by unfold nI_;simp only[List.length_append,List.length_cons,List.length_nil];omega);refine gg ?_;exact fin _ _ _ _ _ w35.drew _ hd ⟨t35.ext kpA,((((Qb.trans q91).trans (Qk.kp k93)).trans q35).trans (Qk.kp kpA))⟩ n1 kpA
    |false=>
     simp only[Bool.false_eq_true,if_false]at hd;refine gg ?_;refine Cl.ret (Ar (r:={ row0 with kind:=10,of:=k.1,n:=m.1 }) t93 (by rw[s91.rows,s78.rows];omega) lD lD) ?_;rintro _ w35 ⟨rfl,t35,q35⟩;have n1:=q35.ld n1;have n20:=q35.ld n20;have l1:=lt_of_heap n1;have l20:=lt_of_heap n20;unfold aA at n20;refine Bs.a (a:=k.2.1) (b:=[32]) ?_ lng;refine Bs.a (a:=[60]) (b:=nI_ m.1) ?_ (by unfold nI_;simp only[List.length_cons,List.length_nil];omega);refine Bs.a (a:=[60]++nI_ m.1) (b:=[62]) ?_ (by unfold nI_;simp only[List.length_append,List.length_cons,List.length_nil];omega);refine gg ?_;exact fin _ _ _ _ _ w35.drew _ hd ⟨t35.ext kpA,((((Qb.trans q91).trans (Qk.kp k93)).trans q35).trans (Qk.kp kpA))⟩ n1 kpA
   |false=>
    rw[hfo,if_neg smp]at hd;refine .f ?_;have l1:=lt_of_heap n1;have l20:=lt_of_heap n20;unfold aA at n20;refine Bs.a (a:=k.2.1) (b:=[32]) ?_ lng;refine gg ?_;exact fin _ _ _ _ _ w85.drew _ hd ⟨t81.ext kpA,Qb.trans (Qk.kp kpA)⟩ n1 kpA
end
end Go.W.T
namespace Go.W.T
open Go Go.W Go.M Go.Proofs
theorem CQ{α:Type}{l:List α}{i:Nat}{a:α}(h:i<l.length):l.take i++[a]++l.drop (i+1)=l.set i a:=by
 rw[List.set_eq_take_append_cons_drop,if_pos h,List.append_assoc];rfl
theorem JB{α:Type}{f:α->List Value}{m j:Nat}{v:Value}{g:α->α}(hf:∀x,(f x).length=m)(hj:j<m)(hg:∀x,f (g x)=(f x).set j v):∀{l:List α} {k:Nat},k<l.length->(l.flatMap f).set (k*m+j) v=(l.modify k g).flatMap f
 |[],k,h=>by simp at h
 |a::l,0,h=>by
  rw[List.flatMap_cons,Nat.zero_mul,Nat.zero_add,List.set_append_left _ _ (by rw[hf];exact hj),List.modify_zero_cons,List.flatMap_cons,hg]
 |a::l,k+1,h=>by
  have h':k<l.length:=by simpa using h
  rw[List.flatMap_cons,List.set_append_right _ _ (by rw[hf,Nat.succ_mul];omega),hf,show (k+1)*m+j - m=k*m+j by rw[Nat.succ_mul];omega,JB hf hj hg h',List.modify_succ_cons,List.flatMap_cons]
section
variable {B M pb:Nat} {w:World} {p:RS}
theorem QXG.CU(h:QX B M pb w p x)(ho:x.o2=some b)(hlen:l'.length=p.names.length)(k:Kp [(b,b+1)] w w')(g:Gw w' 117 4 x.nv l'.length (bV l') x.o2):QX B M pb w' { p with names:=l' } x/\Qk B w w':=by
 obtain⟨rest,cap,hb⟩:∃rest cap,w.heap[b]?=some (cl (bV p.names++rest) 117):=by
  obtain⟨_,r,cp,_,y,_⟩:=show Gw w 117 4 x.nv p.names.length (bV p.names) (some b)from ho▸h.names
  exact⟨r,cp,y⟩
 have q:Qk B w w':=Qk.out hb (h.b2 b ho) (Or.inr (Or.inr rfl)) k
 have hne:∀{e:TypeId} {m:Nat} {v:Value} {n:Nat} {l:List Value} {o:Option Nat},Gw w e m v n l o->e≠117->Gw w' e m v n l o:=λhg hne=>hg.kp k λc hc=>⟨by
  have:c≠b:=λe=>fP hg hb hne (hc.trans (by rw[e]))
  omega,trivial⟩
 have hpb:pb≠b:=by
  rintro rfl;have:=h.hp;rw[hb]at this;exact absurd (AZ (Option.some.inj this)) dcd
 exact⟨⟨(k.same _ (lt_of_heap h.hp) ⟨omg,trivial⟩).trans h.hp,hne h.rows dcd,h.rat.kt q,g,hne h.procs dcd,hne h.aj dcd,h.b0,h.b1,h.b2,h.b3,h.b4,h.m3,h.m4,h.d4,h.gh,⟨h.ok.len,h.ok.en0,h.ok.en1,h.ok.we⟩,h.tl⟩,q⟩
theorem Oi{v:Value}{l:List NmR}{b j:Nat}{u:Value}{g:NmR->NmR}(h:Gw w 117 4 v l.length (bV l) (some b)){k:Nat}(hk:k<l.length)(hj:j<4)(hg:∀x,nmV (g x)=(nmV x).set j u):
  ∃rest,w.heap[b]?=some (cl (bV l++rest) 117)/\0+k*4+j<(bV l++rest).length/\(bV l++rest).take (0+k*4+j)++[u]++(bV l++rest).drop (0+k*4+j+1)=bV (l.modify k g)++rest /\
   ∀w',w'.heap[b]?=some (cl (bV (l.modify k g)++rest) 117)->Gw w' 117 4 v (l.modify k g).length (bV (l.modify k g)) (some b):=by
 obtain⟨h1,rest,cap,h2,h3,h4⟩:=h;have hlen:(bV l).length=l.length*4:=vW qV l;have hlt:k*4+j<(bV l).length:=by rw[hlen];omega
 refine⟨rest,h3,by rw[List.length_append];omega,?_,λw' hw=>?_⟩
 .rw[Nat.zero_add,CQ (by rw[List.length_append];omega),List.set_append_left _ _ hlt];congr 1;exact JB qV hj hg hk
 .have hl2:(bV (l.modify k g)).length=l.length*4:=by
   have:=vW qV (l.modify k g);rw[List.length_modify]at this;exact this
  rw[List.length_modify];exact⟨hl2,rest,cap,h2,hw,by rw[hl2,<- hlen];exact h4⟩
theorem NL(h:QS B M pb w p)(s:By)(r:Int)(hl:p.names.length<=1000000):Calls P 129 #[pt pb 0,κs s,.int .i64 r] w (Ret λv w'=>v=.tuple #[]/\QT B M pb w (dI p s r) w'):=by
 refine Ret.R λR hR=>?_;refine cf [] Tryz.func129 ?_;have h0:=h;obtain⟨x,h⟩:=h;have hp:=h.hp;unfold aN at hp;have hlt:=lt_of_heap hp;unfold dI at hR;refine nO ?_;refine Cl.ret (Bz h.names s hl) ?_;rintro _ w6 ⟨rfl,rfl⟩;cases hn:nix s p.names with
 |none=>
  have d0:decide (oD s p.names>=0)=false:=by unfold oD;rw[hn];rfl
  simp only[hn]at hR;refine gg ?_;exact hR _ _ ⟨rfl,h0,Qk.refl _ _⟩
 |some k=>
  have hnk:oD s p.names=(k:Int):=by unfold oD;rw[hn]
  have d0:decide ((k:Int)>=0)=true:=decide_eq_true omg;have hkl:=EP hn;rw[hnk];simp only[hn]at hR;obtain⟨va,vc,hv⟩:=h.names.len;obtain⟨b,ho⟩:∃b,x.o2=some b:=by
   obtain⟨b,_,_,h1,_⟩:=uK qV h.names (qg hkl);exact⟨b,h1⟩
  have hg:=h.names;rw[ho]at hg;obtain⟨rest,hb,hlt1,hset,hgw⟩:=Oi (g:=λy=>{ y with what:=1 }) (u:=.int .i64 1) (j:=1) hg hkl omg (λy=>rfl);have hv2:x.nv=.slice (some ⟨b,0,none⟩) p.names.length vc:=by
   obtain⟨_,_,cap,h2,_,_⟩:=hg;rw[hv]at h2 ⊢;cases h2;rfl
  rw[hv2]at hp;have hbl:=lt_of_heap hb;have hpb:pb≠b:=by
   rintro rfl;rw[hp]at hb;exact absurd (AZ (Option.some.inj hb)) dcd
  refine .s ?_;refine .t ?_;refine nO ?_;refine gJ ?_;refine St.s ?_ hb rfl hlt1 hset;have k14:Kp [(b,b+1)] w6 (ag w6 b (cl (bV (p.names.modify k λy=>{ y with what:=1 })++rest) 117)):=by exact kpA
  have hb14:(ag w6 b (cl (bV (p.names.modify k λy=>{ y with what:=1 })++rest) 117)).heap[b]?=some (cl (bV (p.names.modify k λy=>{ y with what:=1 })++rest) 117):=by exact lookA
  generalize ag w6 b (cl (bV (p.names.modify k λy=>{ y with what:=1 })++rest) 117)=w14 at *;obtain⟨h14,q14⟩:=h.CU ho (List.length_modify ..) k14 (by rw[ho];exact hgw w14 hb14);have vP:=(k14.same _ hlt ⟨omg,trivial⟩).trans hp;have hg14:=h14.names;rw[ho]at hg14;obtain⟨uz,hb2,hlt2,Dy,hgw2⟩:=Oi (g:=λy=>{ y with n:=r }) (u:=.int .i64 r) (j:=2) hg14 (by show k<(p.names.modify k _).length;rw[List.length_modify];exact hkl) omg (λy=>rfl);refine nO ?_;refine gJ ?_;refine St.s ?_ hb2 rfl hlt2 Dy;have hb2l:=lt_of_heap hb2;have k21:Kp [(b,b+1)] w14 (ag w14 b (cl (bV ((p.names.modify k λy=>{ y with what:=1 }).modify k λy=>{ y with n:=r })++uz) 117)):=by exact kpA
  have hb21:(ag w14 b (cl (bV ((p.names.modify k λy=>{ y with what:=1 }).modify k λy=>{ y with n:=r })++uz) 117)).heap[b]?=some (cl (bV ((p.names.modify k λy=>{ y with what:=1 }).modify k λy=>{ y with n:=r })++uz) 117):=by exact lookA
  generalize ag w14 b (cl (bV ((p.names.modify k λy=>{ y with what:=1 }).modify k λy=>{ y with n:=r })++uz) 117)=w21 at *;obtain⟨h21,q21⟩:=h14.CU ho (List.length_modify ..) k21 (by rw[ho];exact hgw2 w21 hb21);refine hR _ _ ⟨rfl,⟨x,?_⟩,q14.trans q21⟩;have e:(p.names.modify k λy=>{ y with what:=1,n:=r })=(p.names.modify k λy=>{ y with what:=1 }).modify k λy=>{ y with n:=r }:=by
   rw[List.modify_modify_eq];rfl
  rw[e];exact h21
theorem U4(h:QS B M pb w p)(s:By)(n:Int)(hl:p.names.length<=1000000)(hc:0<=p.consts/\p.consts<=1000000):Calls P 124 #[pt pb 0,κs s,.int .i64 n] w (Ret λv w'=>v=.tuple #[]/\QT B M pb w (bG p s n) w'):=by
 refine Ret.R λR hR=>?_;refine cf [] Tryz.func124 ?_;have h0:=h;obtain⟨x,h⟩:=h;have hp:=h.hp;unfold aN at hp;have hlt:=lt_of_heap hp;have hR:∀w',QT B M pb w { kn_ p s n with consts:=(kn_ p s n).consts+1 } w'->R (.returned (.tuple #[])) w':=λw' t=>hR _ _ ⟨rfl,t⟩;have kc:(kn_ p s n).consts=p.consts:=by unfold kn_;split<;>rfl
 refine nO ?_;refine Cl.ret (Bz h.names s hl) ?_;rintro _ w6 ⟨rfl,rfl⟩;refine Jn.by (λ_ w'=>QT B M pb w6 (kn_ p s n) w') (λJ hJ=>?_) ?_
 .unfold kn_ at hJ;cases hn:nix s p.names with
  |none=>
   have d0:decide (oD s p.names>=0)=false:=by unfold oD;rw[hn];rfl
   simp only[hn]at hJ;refine gg ?_;exact hJ _ _ ⟨h0,Qk.refl _ _⟩
  |some k=>
   have hnk:oD s p.names=(k:Int):=by unfold oD;rw[hn]
   have d0:decide ((k:Int)>=0)=true:=decide_eq_true omg;have hkl:=EP hn;rw[hnk];simp only[hn]at hJ;obtain⟨va,vc,hv⟩:=h.names.len;obtain⟨b,ho⟩:∃b,x.o2=some b:=by
    obtain⟨b,_,_,h1,_⟩:=uK qV h.names (qg hkl);exact⟨b,h1⟩
   have hg:=h.names;rw[ho]at hg;obtain⟨rest,hb,hlt1,hset,hgw⟩:=Oi (g:=λy=>{ y with what:=0 }) (u:=.int .i64 0) (j:=1) hg hkl omg (λy=>rfl);have hv2:x.nv=.slice (some ⟨b,0,none⟩) p.names.length vc:=by
    obtain⟨_,_,cap,h2,_,_⟩:=hg;rw[hv]at h2 ⊢;cases h2;rfl
   rw[hv2]at hp;have hbl:=lt_of_heap hb;have hpb:pb≠b:=by
    rintro rfl;rw[hp]at hb;exact absurd (AZ (Option.some.inj hb)) dcd
   refine .s ?_;refine .t ?_;refine nO ?_;refine gJ ?_;refine St.s ?_ hb rfl hlt1 hset;have k14:Kp [(b,b+1)] w6 (ag w6 b (cl (bV (p.names.modify k λy=>{ y with what:=0 })++rest) 117)):=by exact kpA
   have hb14:(ag w6 b (cl (bV (p.names.modify k λy=>{ y with what:=0 })++rest) 117)).heap[b]?=some (cl (bV (p.names.modify k λy=>{ y with what:=0 })++rest) 117):=by exact lookA
   generalize ag w6 b (cl (bV (p.names.modify k λy=>{ y with what:=0 })++rest) 117)=w14 at *;obtain⟨h14,q14⟩:=h.CU ho (List.length_modify ..) k14 (by rw[ho];exact hgw w14 hb14);have vP:=(k14.same _ hlt ⟨omg,trivial⟩).trans hp;have hg14:=h14.names;rw[ho]at hg14;obtain⟨uz,hb2,hlt2,Dy,hgw2⟩:=Oi (g:=λy=>{ y with n:=n }) (u:=.int .i64 n) (j:=2) hg14 (by show k<(p.names.modify k _).length;rw[List.length_modify];exact hkl) omg (λy=>rfl);refine nO ?_;refine gJ ?_;refine St.s ?_ hb2 rfl hlt2 Dy;have hb2l:=lt_of_heap hb2;have k21:Kp [(b,b+1)] w14 (ag w14 b (cl (bV ((p.names.modify k λy=>{ y with what:=0 }).modify k λy=>{ y with n:=n })++uz) 117)):=by exact kpA
   have hb21:(ag w14 b (cl (bV ((p.names.modify k λy=>{ y with what:=0 }).modify k λy=>{ y with n:=n })++uz) 117)).heap[b]?=some (cl (bV ((p.names.modify k λy=>{ y with what:=0 }).modify k λy=>{ y with n:=n })++uz) 117):=by exact lookA
   generalize ag w14 b (cl (bV ((p.names.modify k λy=>{ y with what:=0 }).modify k λy=>{ y with n:=n })++uz) 117)=w21 at *;obtain⟨h21,q21⟩:=h14.CU ho (List.length_modify ..) k21 (by rw[ho];exact hgw2 w21 hb21);refine hJ _ _ ⟨⟨x,?_⟩,q14.trans q21⟩;have e:(p.names.modify k λy=>{ y with what:=0,n:=n })=(p.names.modify k λy=>{ y with what:=0 }).modify k λy=>{ y with n:=n }:=by
    rw[List.modify_modify_eq];rfl
   rw[e];exact h21
 .rintro _ w23 jk ⟨⟨x2,t⟩,q23⟩;generalize kn_ p s n=p2 at *;have hp2:=t.hp;unfold aN at hp2;have hlt2:=lt_of_heap hp2;refine gg ?_;refine t.fin (R:=R) (p':={ p2 with consts:=p2.consts+1 }) (λw' t2=>hR w' ⟨t2.1,q23.trans t2.2⟩) rfl rfl rfl rfl ⟨t.ok.len,t.ok.en0,t.ok.en1,t.ok.we⟩ t.tl _ ?_ ?_
  .exact kpA
  .refine look_eq lookA ?_;rfl
end
end Go.W.T
namespace Go.W.T
open Go Go.W Go.M Go.Proofs
section
variable {B M pb:Nat} {w:World} {p:RS}
theorem Nr(h:Sz p n)(l:List By)(a:Bool):Sz (dD p l a).2.2.2.2 (n+2)/\(dD p l a).2.1.length<=p.txt.length+16/\(dD p l a).2.2.1.length<=13/\(dD p l a).2.2.2.1.s.length<=p.txt.length:=
 abh h l a (λm hm=>nC hm) λq f=>Af q f
theorem TL(h:QS B M pb w p)(hs:Sz p n)(hn:n<=100000):Calls P 72 #[pt pb 0] w (Ret λv w'=>v=.tuple #[]/\QT B M pb w (fZ p) w'/\Sz (fZ p) (n+150)):=by
 refine Ret.R λR hR=>?_;refine cf [] Tryz.func72 ?_;have hR:∀w',QT B M pb w (fZ p) w'/\Sz (fZ p) (n+150)->R (.returned (.tuple #[])) w':=λw' t=>hR _ _ ⟨rfl,t⟩;unfold fZ at hR;simp only at hR;have h':=h;obtain⟨x,hx⟩:=h';have hp:=hx.hp;unfold aN at hp;refine vI ?_;refine Cl.ret (wV h p.consts 40) ?_;rintro _ w5 ⟨rfl,t5,q5⟩;have s5:=uw hs p.consts 40;generalize aG p p.consts 40=p5 at *;refine Cl.ret (dM t5 2 [99,111,110,115,116]) ?_;rintro _ w7 ⟨rfl,t7,q7⟩;have s7:=dJ s5 2 [99,111,110,115,116];generalize af p5 2 [99,111,110,115,116]=p7 at *;refine Cl.ret (rQ t7 2 (by have:=s7.names;omega)) ?_;rintro _ w9 ⟨rfl,t9,q9⟩;obtain⟨s9,l9⟩:=pW s7 2;have tl:=s7.tl;generalize az p7 2=d at *;have q09:=(q5.trans q7).trans q9;unfold aA;refine gJ ?_;refine Cl.w (λw12=>Kp [] w9 w12/\w12.heap[w9.heap.size]?=some (cl (aA d.1) 110)) ⟨kpA,by unfold aA;exact lookA⟩ ?_;rintro w12 ⟨k12,n10⟩;refine Cl.ret (dM (t9.ext k12) 4 [61]) ?_;rintro _ w14 ⟨rfl,t14,q14⟩;have n10:=q14.ld n10;have s14:=dJ s9 4 [61];generalize af d.2 4 [61]=p14 at *;refine Cl.ret (zS t14 (-2147483648) 4294967295 (by have:=s14.names;omega)) ?_;rintro _ w16 ⟨rfl,t16,q16⟩;have n10:=q16.ld n10;have s16:=PH s14 (-2147483648) 4294967295;have vn:=value_num p14 (lo := -2147483648) (hi:=4294967295) omg omg;generalize ak p14 (-2147483648) 4294967295=v at *;refine gJ ?_;refine Cl.ret (dM t16 4 [59]) ?_;rintro _ w20 ⟨rfl,t20,q20⟩;have n10:=q20.ld n10;have s20:=dJ s16 4 [59];generalize af v.2.2 4 [59]=p20 at *;have q020:=(((q09.trans (Qk.kp k12)).trans q14).trans q16).trans q20;have t20':=t20;obtain⟨x20,hx20⟩:=t20';have Xq:=hx20.hp;unfold aN at Xq;cases he:p20.e != 0 with
 |true=>
  rw[he,if_pos rfl]at hR;refine gg ?_;exact hR _ ⟨⟨t20,q020⟩,s20.mono omg⟩
 |false=>
  rw[he,if_neg smp]at hR;refine nO ?_;refine .f ?_;refine Cl.ret (oN v.1 vn) ?_;rintro _ w26 ⟨rfl,k26⟩;have n10:=(k26.same _ (lt_of_heap n10) trivial).trans n10;have il:=nC vn;unfold aA at n10;refine gJ ?_;refine Cl.ret (U4 (t20.ext k26) d.1.s v.1 (by have:=s20.names;omega) (by have:=s20.consts;omega)) ?_;rintro _ w30 ⟨rfl,t30,q30⟩;have n10:=q30.ld n10;have s30:=PK s20 d.1.s v.1;have ol:=s30.out;generalize bG p20 d.1.s v.1=p30 at *;obtain⟨x30,hx30⟩:=t30;have ZX:=hx30.hp;unfold aN at ZX;have hl30:=lt_of_heap ZX;refine nO ?_;refine Bs.a (a:=p30.out) (b:=[99,111,110,115,116,32]) ?_ lng;refine gJ ?_;refine Bs.a (a:=p30.out++[99,111,110,115,116,32]) (b:=d.1.s) ?_ lng;refine Bs.a (a:=p30.out++[99,111,110,115,116,32]++d.1.s) (b:=[32,61,32]) ?_ lng;refine Bs.a (a:=p30.out++[99,111,110,115,116,32]++d.1.s++[32,61,32]) (b:=nI_ v.1) ?_ (by unfold nI_;simp only[List.length_append,List.length_cons,List.length_nil];omega);refine Bs.a (a:=p30.out++[99,111,110,115,116,32]++d.1.s++[32,61,32]++nI_ v.1) (b:=[59,10]) ?_ (by unfold nI_;simp only[List.length_append,List.length_cons,List.length_nil];omega);refine gg ?_;refine hx30.fin (R:=R) (p':={ p30 with out:=p30.out++[99,111,110,115,116,32]++d.1.s++[32,61,32]++nI_ v.1++[59,10] }) (λw' t=>hR w' ⟨⟨t.1,((q020.trans (Qk.kp k26)).trans q30).trans t.2⟩,(ED s30 (m:=1) (by unfold nI_;simp only[List.length_append,List.length_cons,List.length_nil];omega)).mono omg⟩) rfl rfl rfl rfl ⟨s30.ok.len,s30.ok.en0,s30.ok.en1,s30.ok.we⟩ s30.tl _ ?_ ?_
  .exact kpA
  .refine look_eq lookA ?_;rfl
theorem WX(h:QS B M pb w p)(hs:Sz p n)(hn:n<=100000):Calls P 76 #[pt pb 0] w (Ret λv w'=>v=.tuple #[]/\QT B M pb w (iK p) w'/\Sz (iK p) (n+150)):=by
 refine Ret.R λR hR=>?_;refine cf [] Tryz.func76 ?_;have hR:∀w',QT B M pb w (iK p) w'/\Sz (iK p) (n+150)->R (.returned (.tuple #[])) w':=λw' t=>hR _ _ ⟨rfl,t⟩;unfold iK at hR;simp only at hR;refine Cl.ret (dM h 2 [116,121,112,101,100,101,102]) ?_;rintro _ w2 ⟨rfl,t2,q2⟩;have s2:=dJ hs 2 [116,121,112,101,100,101,102];generalize af p 2 [116,121,112,101,100,101,102]=p2 at *;refine Cl.ret (TK t2 (l:=[]) (Gw.nil _ _ _) true (by have:=s2.names;omega) (by have:=s2.rows;omega) smp) ?_;rintro _ w4 ⟨rfl,t4,q4⟩;obtain⟨s4,l1,l2,l3⟩:=Nr s2 [] true;have tl:=s2.tl;generalize dD p2 [] true=d at *;have q04:=q2.trans q4;unfold aA;refine nO ?_;refine gJ ?_;have n9:(ag (w4.alloc (cl z6 110)) w4.heap.size (cl (aA d.2.2.2.1) 110)).heap[w4.heap.size]?=some (cl (aA d.2.2.2.1) 110):=by exact lookA
 have k11:Kp [] w4 (ag (w4.alloc (cl z6 110)) w4.heap.size (cl (aA d.2.2.2.1) 110)):=by exact kpA
 unfold aA at n9 k11;generalize ag (w4.alloc (cl z6 110)) w4.heap.size (cl [.int .i64 d.2.2.2.1.kind,κs d.2.2.2.1.s,.int .i64 d.2.2.2.1.at_,.int .i64 d.2.2.2.1.en,.int .i64 d.2.2.2.1.n,.int .i64 d.2.2.2.1.e] 110)=w11 at *;have t11:=t4.ext k11;have q011:Qk B w w11:=q04.trans (Qk.kp k11);have t11':=t11;obtain⟨x,hx⟩:=t11;have hp:=hx.hp;unfold aN at hp;have hlt:=lt_of_heap hp;have l9:=lt_of_heap n9;cases he:d.2.2.2.2.e != 0 with
 |true=>
  rw[he,if_pos rfl]at hR;refine gg ?_;exact hR _ ⟨⟨t11',q011⟩,s4.mono omg⟩
 |false=>
  rw[he,if_neg smp]at hR;obtain⟨va,vc,hv⟩:=hx.names.len;rw[hv]at hp;have ja:=hx.names;rw[hv]at ja;have nl:=s4.names;refine gg ?_;refine Ap.w (λw9=>Kp [] w11 w9/\w11.heap.size<w9.heap.size/\w9.heap[w11.heap.size]?=some (cl (nmV ⟨d.2.2.2.1.s,1,d.1,d.2.2.2.1.at_⟩) 117)) ⟨kpA,by simp only[size_alloc,ah,size_drew];omega,by unfold nmV;exact lookA⟩ ?_;rintro w9 ⟨k9,z9,nn9⟩;refine Ap.g (ja.kp k9 (λ_ _=>trivial)) nn9 rfl rfl ?_ omg;intro v' w10 o' g10 ho' k10;obtain⟨aa',ca',rfl⟩:=g10.len;have h9:=hx.ext k9;have c10:w10.heap[pb]?=some (cl [κs d.2.2.2.2.txt,.int .i64 d.2.2.2.2.w.kind,κs d.2.2.2.2.w.s,.int .i64 d.2.2.2.2.w.at_,.int .i64 d.2.2.2.2.w.en,.int .i64 d.2.2.2.2.w.n,.int .i64 d.2.2.2.2.w.e,x.rv,.slice va d.2.2.2.2.names.length vc,x.pv,κs d.2.2.2.2.out,.int .i64 d.2.2.2.2.e,.int .i64 d.2.2.2.2.at_,.int .i64 d.2.2.2.2.consts,.int .i64 d.2.2.2.2.types,x.gv] 112):=(k10.same _ (lt_of_heap h9.hp) (aF (fP h9.names h9.hp dcd))).trans ((k9.same _ hlt trivial).trans hp);have hl10:=lt_of_heap c10;have q10:Qk B w9 w10:=Qk.own h9.names (Or.inr rfl) h9.b2 k10;have n9:=q10.ld ((Qk.kp (B:=B) k9).ld n9);refine gg ?_;refine Cl.w (λw33=>Kp [(pb,pb+1)] w10 w33/\w33.heap[pb]?=some (cl (aN d.2.2.2.2 { x with nv:=.slice aa' (d.2.2.2.2.names.length+1) ca' }) 112)) ⟨kpA,?_⟩ ?_
  .refine look_eq lookA ?_;rfl
  rintro w33 ⟨k33,c33⟩;obtain⟨r1,r2⟩:=hx.VT k9 k10 g10 ho' k33 c33;have q33:=q011.trans r2;have t33:QS B M pb w33 { d.2.2.2.2 with names:=d.2.2.2.2.names++[⟨d.2.2.2.1.s,1,d.1,d.2.2.2.1.at_⟩] }:=⟨_,r1⟩;have hne:w4.heap.size≠pb:=by
   rintro e;rw[e,c10]at n9;exact absurd (AZ (Option.some.inj n9)) dcd
  have n9:=(k33.same _ (lt_of_heap n9) ⟨omg,trivial⟩).trans n9;have s33:=Io s4 ⟨d.2.2.2.1.s,1,d.1,d.2.2.2.1.at_⟩;refine Cl.ret (dM t33 4 [59]) ?_;rintro _ w35 ⟨rfl,t35,q35⟩;have n9:=q35.ld n9;have s35:=dJ s33 4 [59];have ol:=s35.out;generalize af { d.2.2.2.2 with names:=d.2.2.2.2.names++[⟨d.2.2.2.1.s,1,d.1,d.2.2.2.1.at_⟩] } 4 [59]=p35 at *;obtain⟨x35,hx35⟩:=t35;have hp35:=hx35.hp;unfold aN at hp35;have hl35:=lt_of_heap hp35;unfold aA at n9;refine nO ?_;refine Bs.a (a:=p35.out) (b:=[116,121,112,101,100,101,102,32]) ?_ lng;refine Bs.a (a:=p35.out++[116,121,112,101,100,101,102,32]) (b:=d.2.1) ?_ lng;refine gJ ?_;refine Bs.a (a:=p35.out++[116,121,112,101,100,101,102,32]++d.2.1) (b:=d.2.2.2.1.s) ?_ lng;refine Bs.a (a:=p35.out++[116,121,112,101,100,101,102,32]++d.2.1++d.2.2.2.1.s) (b:=d.2.2.1) ?_ lng;refine Bs.a (a:=p35.out++[116,121,112,101,100,101,102,32]++d.2.1++d.2.2.2.1.s++d.2.2.1) (b:=[59,10]) ?_ lng;refine gg ?_;refine hx35.fin (R:=R) (p':={ p35 with out:=p35.out++[116,121,112,101,100,101,102,32]++d.2.1++d.2.2.2.1.s++d.2.2.1++[59,10] }) (λw' t=>hR w' ⟨⟨t.1,(q33.trans q35).trans t.2⟩,(ED s35 (m:=1) lng).mono omg⟩) rfl rfl rfl rfl ⟨s35.ok.len,s35.ok.en0,s35.ok.en1,s35.ok.we⟩ s35.tl _ ?_ ?_
  .exact kpA
  .refine look_eq lookA ?_;rfl
end
end Go.W.T
namespace Go.W.T
open Go Go.W Go.M Go.Proofs
theorem IsI.up(h:IsI M w v l):IsI w.heap.size w v l:=by
 obtain⟨o,h,hm⟩:=h;exact⟨o,h,h.lt⟩
theorem eQ.up:∀{l:List eU} {c:List Value},eQ M w l c->eQ w.heap.size w l c
 |[],c,h=>h
 |r::l,c,⟨nv,pv,rest,h1,h2,h3,h4⟩=>⟨nv,pv,rest,h1,h2.up,h3.up,eQ.up h4⟩
section
variable {B M pb:Nat} {w:World} {p:RS}
theorem QSG.up(h:QS B M pb w p):QS B w.heap.size pb w p:=by
 obtain⟨x,h⟩:=h;exact⟨x,h.hp,h.rows,h.rat.up,h.names,h.procs,h.aj,h.b0,h.b1,h.b2,h.b3,h.b4,h.procs.lt,h.aj.lt,h.d4,h.gh,h.ok,h.tl⟩
abbrev QU(B pb:Nat)(w:World)(p':RS)(w':World):Prop:=QS B w'.heap.size pb w' p'/\Qk B w w'
theorem QXG.loc(h:QX B M pb w p x)(g:Gw w e m v n l o)(h1:e≠112)(h2:e≠115)(h3:e≠117)(hM:∀b,o=some b->M<=b)(k:Kp (own o) w w'):QX B M pb w' p x:=by
 have far:∀{b:Nat},b<M->o≠some b:=λhb e=>by have:=hM _ e;omega
 have hI:∀{v:Value} {l:List Int},IsI M w v l->IsI M w' v l:=λ⟨o2,hi,hm⟩=>⟨o2,hi.kp k λb hb=>aF (far (hm b hb)),hm⟩;have hR:∀{l:List eU} {c:List Value},eQ M w l c->eQ M w' l c:=by
  intro l;induction l with
  |nil=>intro c h;exact h
  |cons r l ih=>rintro c ⟨nv,pv,rest,h1,h2,h3,h4⟩;exact⟨nv,pv,rest,h1,hI h2,hI h3,ih h4⟩
 exact⟨(k.same _ (lt_of_heap h.hp) (aF (fP g h.hp h1))).trans h.hp,bP h.rows g h2.symm k,hR h.rat,bP h.names g h3.symm k,h.procs.kp k λb hb=>aF (far (h.m3 b hb)),h.aj.kp k λb hb=>aF (far (h.m4 b hb)),h.b0,h.b1,h.b2,h.b3,h.b4,h.m3,h.m4,h.d4,h.gh,h.ok,h.tl⟩
theorem QSG.loc(h:QS B M pb w p)(g:Gw w e m v n l o)(h1:e≠112)(h2:e≠115)(h3:e≠117)(hM:∀b,o=some b->M<=b)(k:Kp (own o) w w'):QS B M pb w' p:=by
 obtain⟨x,h⟩:=h;exact⟨x,h.loc g h1 h2 h3 hM k⟩
structure Qe (o:Option Nat) (B:Nat) (w w':World):Prop where
 os:w'.os=w.os
 tape:w'.tape=w.tape
 output:w'.output=w.output
 size:w.heap.size<=w'.heap.size
 low:∀b,b<B->b<w.heap.size->o≠some b->w'.heap[b]?=w.heap[b]?
 same:∀(b:Nat) (l:List Value) (t:TypeId),w.heap[b]?=some (cl l t)->t≠112->t≠115->t≠117->o≠some b->w'.heap[b]?=some (cl l t)
theorem Qe.of(k:Qk B w w'):Qe o B w w':=⟨k.os,k.tape,k.output,k.size,λb hb hs _=>k.low b hb hs,λb l t h h1 h2 h3 _=>k.same b l t h h1 h2 h3⟩
theorem Qe.own(k:Kp (Go.W.own o) w w'):Qe o B w w':=⟨k.os,k.tape,k.output,k.size,λb hb hs hn=>k.same b hs (aF hn),λb l t h _ _ _ hn=>(k.same b (lt_of_heap h) (aF hn)).trans h⟩
theorem Qe.trans(h:Qe o B a b)(k:Qe o' B b c)(hh:∀i,o'=some i->o=some i\/a.heap.size<=i):Qe o B a c:=
 ⟨k.os.trans h.os,k.tape.trans h.tape,k.output.trans h.output,Nat.le_trans h.size k.size,
  λi hi hs hn=>(k.low i hi (Nat.lt_of_lt_of_le hs h.size) λe=>(hh i e).elim hn omg).trans (h.low i hi hs hn),
  λi l t hi h1 h2 h3 hn=>k.same i l t (h.same i l t hi h1 h2 h3 hn) h1 h2 h3 λe=>(hh i e).elim hn (by have:=lt_of_heap hi;omega)⟩
theorem Qe.qk(h:Qk B w a)(k:Qe o B a c)(ho:∀b,o=some b->w.heap.size<=b):Qk B w c:=
 ⟨k.os.trans h.os,k.tape.trans h.tape,k.output.trans h.output,Nat.le_trans h.size k.size,
  λi hi hs=>(k.low i hi (Nat.lt_of_lt_of_le hs h.size) λe=>by have:=ho i e;omega).trans (h.low i hi hs),
  λi l t hi h1 h2 h3=>k.same i l t (h.same i l t hi h1 h2 h3) h1 h2 h3 λe=>by have:=ho i e;have:=lt_of_heap hi;omega⟩
theorem Qe.ld(k:Qe o B w w')(h:w.heap[b]?=some (cl l 110))(hn:o≠some b):w'.heap[b]?=some (cl l 110):=k.same _ _ _ h dcd dcd dcd hn
theorem Qe.gw(k:Qe o B w w')(h:Gw w e m v n l o2)(h1:e≠112)(h2:e≠115)(h3:e≠117)(hn:∀b,o2=some b->o≠some b):Gw w' e m v n l o2:=by
 obtain⟨a,b⟩:=h;refine⟨a,?_⟩;cases o2 with
 |none=>exact b
 |some ob=>obtain⟨r,c,x,y,z⟩:=b;exact⟨r,c,x,k.same _ _ _ y h1 h2 h3 (hn ob rfl),z⟩
theorem Qk.I4(h:Qk B w a)(k:Kp (Go.W.own o) a c)(ho:∀b,o=some b->w.heap.size<=b):Qk B w c:=(Qe.own k).qk h ho
def Mv(w:World)(o o':Option Nat):Prop:=∀b,o'=some b->o=some b\/w.heap.size<=b
theorem Mv.refl(w:World)(o:Option Nat):Mv w o o:=λb h=>Or.inl h
theorem Mv.trans(h:Mv a o o')(k:Mv b o' o'')(hs:a.heap.size<=b.heap.size):Mv a o o'':=λi hi=>(k i hi).elim (h i) omg
theorem Mv.geN(h:Mv w o o')(ho:∀b,o=some b->N<=b)(hs:N<=w.heap.size):∀b,o'=some b->N<=b:=λb hb=>(h b hb).elim (ho b) omg
theorem FY(k:Kp [] w w9)(h:o'=o\/o'=some w9.heap.size):Mv w o o':=λb hb=>by
 rcases h with e|e
 .exact Or.inl (e▸hb)
 .rw[hb]at e;cases e;exact Or.inr k.size
theorem Ag(g:Gw w 3 1 v l.length (ints l) o)(hl:l.length<=1000000)
  (hC:∀v' w' o',Gw w' 3 1 v' (l++[n]).length (ints (l++[n])) o'->Mv w o o'->Kp (own o) w w'->C v' w'):BuS 3 1 [.int .i64 n] w λx w1=>Ap 3 1 8 (.int .i64 0) v x w1 C:=by
 refine .s ?_;refine Ap.w (λw9=>Kp [] w w9/\w9.heap[w.heap.size]?=some (cl [.int .i64 n] 3)) ⟨kpA,lookA⟩ ?_;rintro w9 ⟨k9,n9⟩;refine Ap.g (g.kp k9 (λ_ _=>trivial)) n9 rfl rfl ?_ omg;intro v' w10 o' g10 ho' k10;refine hC v' w10 o' ?_ (FY k9 ho') (k9.trans k10 λi _ h=>⟨trivial,h⟩);have e:ints (l++[n])=ints l++[.int .i64 n]:=by simp[ints]
 rw[List.length_append,e];exact g10
theorem OV(g:Gw w 9 1 v l.length (strs l) o)(hl:l.length<=1000000)
  (hC:∀v' w' o',Gw w' 9 1 v' (l++[s]).length (strs (l++[s])) o'->Mv w o o'->Kp (own o) w w'->C v' w'):BuS 9 1 [κs s] w λx w1=>Ap 9 1 16 (.string ⟨#[]⟩) v x w1 C:=by
 refine .s ?_;refine Ap.w (λw9=>Kp [] w w9/\w9.heap[w.heap.size]?=some (cl [κs s] 9)) ⟨kpA,lookA⟩ ?_;rintro w9 ⟨k9,n9⟩;refine Ap.g (g.kp k9 (λ_ _=>trivial)) n9 rfl rfl ?_ omg;intro v' w10 o' g10 ho' k10;refine hC v' w10 o' ?_ (FY k9 ho') (k9.trans k10 λi _ h=>⟨trivial,h⟩);have e:strs (l++[s])=strs l++[κs s]:=by simp[strs]
 rw[List.length_append,e];exact g10
theorem app_pc(g:Gw w 287 5 v l.length (bU l) o)(hl:l.length<=1000000)
  (hC:∀v' w' o',Gw w' 287 5 v' (l++[x]).length (bU (l++[x])) o'->Mv w o o'->Kp (own o) w w'->C v' w'):BuS 287 5 [.agg (List.toArray (pcV x))] w λx w1=>Ap 287 5 40 (.agg #[.int .i64 0,.int .i64 0,.int .i64 0,.int .i64 0,.int .i64 0]) v x w1 C:=by
 unfold pcV;refine .s ?_;refine Ap.w (λw9=>Kp [] w w9/\w9.heap[w.heap.size]?=some (cl (pcV x) 287)) ⟨kpA,by unfold pcV;exact lookA⟩ ?_;rintro w9 ⟨k9,n9⟩;refine Ap.g (g.kp k9 (λ_ _=>trivial)) n9 rfl rfl ?_ omg;intro v' w10 o' g10 ho' k10;refine hC v' w10 o' ?_ (FY k9 ho') (k9.trans k10 λi _ h=>⟨trivial,h⟩);have e:bU (l++[x])=bU l++pcV x:=by simp[bU]
 rw[List.length_append,e];exact g10
end
end Go.W.T
namespace Go.W.T
open Go Go.W Go.M Go.Proofs
section
variable {B M pb:Nat} {w:World} {p:RS}
theorem OU{a:Int}(h:(a != 0)=false):a=0:=by simpa using h
theorem J6(h:QS B M pb w p){n:Nat}(hs:Sz p n)(hn:n<=90000):Calls P 77 #[pt pb 0] w (Ret λv w'=>v=.tuple #[]/\QU B pb w (bZ p) w'/\Sz (bZ p) (n+150)):=by
 refine Ret.R λR hR=>?_;refine cf [3,4] Tryz.func77 ?_;have hR:∀w',QU B pb w (bZ p) w'/\Sz (bZ p) (n+150)->R (.returned (.tuple #[])) w':=λw' t=>hR _ _ ⟨rfl,t⟩;unfold bZ at hR;simp only at hR;have h:=h.up;refine Cl.ret (dM h 2 [101,110,117,109]) ?_;rintro _ w2 ⟨rfl,t2,q2⟩;have s2:=dJ hs 2 [101,110,117,109];generalize af p 2 [101,110,117,109]=p2 at *;refine Cl.ret (rQ t2 2 (by have:=s2.names;omega)) ?_;rintro _ w4 ⟨rfl,t4,q4⟩;obtain⟨s4,l4⟩:=pW s2 2;have tl:=s2.tl;generalize az p2 2=d at *;unfold aA;refine gJ ?_;refine Cl.w (λw12=>Kp [] w4 w12/\w12.heap[w4.heap.size]?=some (cl (aA d.1) 110)) ⟨kpA,by unfold aA;exact lookA⟩ ?_;rintro w7 ⟨k7,n5⟩;refine Cl.ret (dM (t4.ext k7) 4 [123]) ?_;rintro _ w9 ⟨rfl,t9,q9⟩;have n5:=q9.ld n5;have s9:=dJ s4 4 [123];have q09:Qk B w w9:=((q2.trans q4).trans (Qk.kp k7)).trans q9;generalize af d.2 4 [123]=p9 at *;have z9:=q09.size;unfold aA at n5;refine gJ ?_;refine Bs.a (a:=[101,110,117,109,32]) (b:=d.1.s) ?_ lng;refine Bs.a (a:=[101,110,117,109,32]++d.1.s) (b:=[32,123,32]) ?_ lng;have ol:([101,110,117,109,32]++d.1.s++[32,123,32]).length<=1300:=by simp only[List.length_append,List.length_cons,List.length_nil];omega
 generalize ([101,110,117,109,32]++d.1.s++[32,123,32])=Dh at *;generalize hL:cu 14 p9 Dh []=L at *;refine Jn.by (λvals w'=>∃q out nums v o,vals=[κs out,v]/\nums.length<=13/\out.length<=30000/\Gw w' 3 1 v nums.length (ints nums) o/\(∀b,o=some b->w9.heap.size<=b)/\QS B w.heap.size pb w' q/\Qk B w9 w'/\Sz q (n+30)/\L=.inr (q,out,nums)) (λJ hJ=>?_) ?_
 .refine Lp.nat (λm vals w'=>∃q out nums v o,vals=[κs out,v]/\m+nums.length=14/\nums.length<=12/\out.length<=1300+nums.length*1300/\Gw w' 3 1 v nums.length (ints nums) o/\(∀b,o=some b->w9.heap.size<=b)/\QS B w.heap.size pb w' q/\Qk B w9 w'/\Sz q (n+1+2*nums.length)/\L=cu m q out nums) (n:=14) ⟨p9,Dh,[],_,_,rfl,rfl,smp,by simpa using ol,Gw.nil _ _ _,(λb hb=>by cases hb),t9,Qk.refl _ _,s9.mono smp,hL.symm⟩ ?_;rintro m _ w16 jk C ⟨q,out,nums,v,o,rfl,hm,hnl,hol,g,ho,t,k16,sq,hx⟩ hC;obtain⟨k,rfl⟩:∃k,m=k+1:=⟨m - 1,omg⟩;rw[cu]at hx;obtain⟨va,vc,rfl⟩:=g.len;have t':=t;obtain⟨x,hx16⟩:=t';have hp:=hx16.hp;unfold aN at hp;refine nO ?_;refine .s ?_;cases he:q.e==0 with
  |false=>
   rw[he,if_neg smp]at hx;refine gg ?_;exact hJ _ _ ⟨q,out,nums,_,o,rfl,omg,omg,g,ho,t,k16,sq.mono omg,hx⟩
  |true=>
   rw[he,if_pos rfl]at hx;simp only at hx;refine .t ?_;refine .t ?_;refine Cl.ret (wV t (nums.length:Nat) 12) ?_;rintro _ w26 ⟨rfl,t26,q26⟩;have s26:=uw sq (nums.length:Nat) 12;have hit:12<=nums.length->(aG q (nums.length:Nat) 12).e≠0:=λhh=>tH q omg;generalize aG q (nums.length:Nat) 12=p26 at *;have g:=dZ g q26 dcd dcd dcd;obtain⟨x26,hx26⟩:=id t26;have hp26:=hx26.hp;unfold aN at hp26;refine vI ?_;refine Cl.ret (wV t26 p26.consts 40) ?_;rintro _ w31 ⟨rfl,t31,q31⟩;have s31:=uw s26 p26.consts 40;have f31:=mG p26 p26.consts 40;generalize aG p26 p26.consts 40=p31 at *;refine Cl.ret (rQ t31 2 (by have:=s31.names;omega)) ?_;rintro _ w33 ⟨rfl,t33,q33⟩;obtain⟨s33,l33⟩:=pW s31 2;have f33:=f31.trans (ig p31 2);have tl3:=s31.tl;generalize az p31 2=y at *;have q1633:=(q26.trans q31).trans q33;unfold aA;refine gJ ?_;refine Cl.w (λw12=>Kp [] w33 w12/\w12.heap[w33.heap.size]?=some (cl (aA y.1) 110)) ⟨kpA,by unfold aA;exact lookA⟩ ?_;rintro w36 ⟨k36,n34⟩;refine Cl.ret (dM (t33.ext k36) 4 [61]) ?_;rintro _ w38 ⟨rfl,t38,q38⟩;have n34:=q38.ld n34;have s38:=dJ s33 4 [61];have f38:=f33.trans (ay y.2 4 [61]);generalize af y.2 4 [61]=p38 at *;refine Cl.ret (zS t38 (-2147483648) 2147483647 (by have:=s38.names;omega)) ?_;rintro _ w40 ⟨rfl,t40,q40⟩;have n34:=q40.ld n34;have s40:=PH s38 (-2147483648) 2147483647;have f40:=f38.trans (fB p38 (-2147483648) 2147483647);have vn:=value_num p38 (lo := -2147483648) (hi:=2147483647) omg omg;generalize ak p38 (-2147483648) 2147483647=u at *;have q1640:=((q1633.trans (Qk.kp k36)).trans q38).trans q40;have g:=dZ g (((q31.trans q33).trans (Qk.kp (B:=B) k36)).trans (q38.trans q40)) dcd dcd dcd;refine gJ ?_;refine Cl.ret (U5 g u.1 omg) ?_;rintro _ w44 ⟨rfl,rfl⟩;refine Jn.by (λvals w'=>vals=[]/\QT B w.heap.size pb w44 (if u.2.2.e==0&&nums.contains u.1 then aK u.2.2 6 u.2.1 else u.2.2) w') (λJ2 hJ2=>?_) ?_
   .obtain⟨x40,hx40⟩:=id t40;have hp40:=hx40.hp;unfold aN at hp40;refine nO ?_;refine Oo ?_;cases hb:(u.2.2.e==0&&nums.contains u.1)with
    |true=>
     refine .t ?_;refine Cl.ret (kZ t40 6 u.2.1) ?_;rintro _ w55 ⟨rfl,t55⟩;refine hJ2 _ _ ⟨rfl,?_⟩;rw[hb,if_pos rfl];exact t55
    |false=>
     refine .f ?_;refine hJ2 _ _ ⟨rfl,?_⟩;rw[hb,if_neg smp];exact⟨t40,Qk.refl _ _⟩
   .rintro _ w56 jk ⟨rfl,t56,q56⟩;have s56:Sz (if u.2.2.e==0&&nums.contains u.1 then aK u.2.2 6 u.2.1 else u.2.2) (n+1+2*nums.length+1):=by
     split
     .exact UW s40 _ _
     .exact s40
    have f56:Fs p26 (if u.2.2.e==0&&nums.contains u.1 then aK u.2.2 6 u.2.1 else u.2.2):=by
     split
     .exact f40.trans (jf _ _ _)
     .exact f40
    generalize (if u.2.2.e==0&&nums.contains u.1 then aK u.2.2 6 u.2.1 else u.2.2)=p56 at *;have n34:=q56.ld n34;have q956:=(k16.trans q1640).trans q56;have g:=dZ g q56 dcd dcd dcd;obtain⟨x56,hx56⟩:=id t56;have hp56:=hx56.hp;unfold aN at hp56;refine nO ?_;cases he5:p56.e != 0 with
    |true=>
     rw[he5,if_pos rfl]at hx;refine .t ?_;rw[hx]at hR;exact hR _ ⟨⟨t56.up,q09.trans q956⟩,s56.mono omg⟩
    |false=>
     rw[he5,if_neg smp]at hx;refine .f ?_;have hlt:nums.length<12:=by
      rcases Nat.lt_or_ge nums.length 12 with hh|hh
      .exact hh
      .exact absurd (OU he5) (f56.ne (hit hh))
     unfold aA at n34;refine gJ ?_;refine Cl.ret (U4 t56 y.1.s u.1 (by have:=s56.names;omega) (by have:=s56.consts;omega)) ?_;rintro _ w65 ⟨rfl,t65,q65⟩;have n34:=q65.ld n34;have s65:=PK s56 y.1.s u.1;generalize bG p56 y.1.s u.1=p65 at *;have g:=dZ g q65 dcd dcd dcd;refine Ag (n:=u.1) g omg ?_;intro v' w69 o' g69 mv69 k69;have q965:=q956.trans q65;have z65:=q965.size;have q969:=q965.I4 k69 ho;have t69:=t65.loc g dcd dcd dcd (λb hb=>by have:=ho b hb;omega) k69;have n34:=(k69.same _ (lt_of_heap n34) (aF (fP g n34 dcd))).trans n34;have ho:=mv69.geN ho z65;refine Cl.ret (oN u.1 vn) ?_;rintro _ w71 ⟨rfl,k71⟩;have n34:=(k71.same _ (lt_of_heap n34) trivial).trans n34;have g69:=g69.kp k71 (λ_ _=>trivial);have t71:=t69.ext k71;have q971:=q969.trans (Qk.kp k71);have il:=nC vn;rw[show out++(y.1.s++[32,61,32]++nI_ u.1)=out++y.1.s++[32,61,32]++nI_ u.1 by simp only[List.append_assoc]]at hx;refine gJ ?_;refine Bs.a (a:=out) (b:=y.1.s) ?_ omg;refine Bs.a (a:=out++y.1.s) (b:=[32,61,32]) ?_ lng;refine Bs.a (a:=out++y.1.s++[32,61,32]) (b:=nI_ u.1) ?_ (by unfold nI_;simp only[List.length_append,List.length_cons,List.length_nil];omega);have ol2:(out++y.1.s++[32,61,32]++nI_ u.1).length<=1300+nums.length*1300+1290:=by unfold nI_;simp only[List.length_append,List.length_cons,List.length_nil];omega
     generalize (out++y.1.s++[32,61,32]++nI_ u.1)=qL at *;have ln2:(nums++[u.1]).length=nums.length+1:=by simp
     refine Cl.ret (rF t71 4 [44]) ?_;rintro _ w78 ⟨rfl,rfl⟩;refine .s ?_;cases hi:is_ p65 4 [44]with
     |false=>
      rw[hi,if_neg smp]at hx;refine .t ?_;exact hJ _ _ ⟨p65,qL,nums++[u.1],_,_,rfl,omg,omg,g69,ho,t71,q971,s65.mono omg,hx⟩
     |true=>
      rw[hi,if_pos rfl]at hx;refine .f ?_;refine Cl.ret (jh t71) ?_;rintro _ w81 ⟨rfl,t81,q81⟩;have s81:=jJ s65;refine Bs.a (a:=qL) (b:=[44,32]) ?_ lng;refine hC k _ _ omg ⟨aB p65,qL++[44,32],nums++[u.1],_,_,rfl,omg,omg,lng,dZ g69 q81 dcd dcd dcd,ho,t81,q971.trans q81,s81.mono omg,hx⟩
 .rintro _ w85 jk ⟨q,out,nums,v,o,rfl,hnl,hol,g,ho,t,Y5,sq,rfl⟩;have n5:=Y5.ld n5;simp only at hR;refine .s ?_;obtain⟨va,vc,rfl⟩:=g.len;have iI:Lc w.heap.size w85.heap.size w85 (.slice va nums.length vc) nums:=⟨o,g,λb hb=>⟨by have:=ho b hb;omega,g.lt b hb⟩⟩;have Y9:=q09.trans Y5;refine Cl.ret (dM t 4 [125]) ?_;rintro _ w88 ⟨rfl,t88,q88⟩;have s88:=dJ sq 4 [125];generalize af q 4 [125]=p88 at *;refine Cl.ret (dM t88 4 [59]) ?_;rintro _ w90 ⟨rfl,t90,q90⟩;have s90:=dJ s88 4 [59];generalize af p88 4 [59]=p90 at *;have iI:=iI.kt (q88.trans q90);have n5:=(q88.trans q90).ld n5;refine .s ?_;refine Cl.ret (Ar (r:={ row0 with kind:=5,nums:=nums }) t90 (by have:=s90.rows;omega) iI Zy (by have:=Y9.size;omega)) ?_;rintro _ w93 ⟨rfl,t93,q93⟩;have s93:=wJ s90 { row0 with kind:=5,nums:=nums };have n5:=q93.ld n5;generalize dh p90 { row0 with kind:=5,nums:=nums }=r at *;refine gJ ?_;refine Cl.ret (NL t93 d.1.s r.1 (by have:=s93.names;omega)) ?_;rintro _ w97 ⟨rfl,t97,q97⟩;have s97:=Ik s93 d.1.s r.1;generalize dI r.2 d.1.s r.1=p97 at *;have q097:=(((Y9.trans q88).trans q90).trans q93).trans q97;have oz:=s97.out;obtain⟨x97,ZK⟩:=t97;have ZW:=ZK.hp;unfold aN at ZW;have hl97:=lt_of_heap ZW;refine nO ?_;refine Bs.a (a:=p97.out) (b:=out) ?_ omg;refine Bs.a (a:=p97.out++out) (b:=[32,125,59,10]) ?_ lng;refine gg ?_;refine ZK.fin (R:=R) (p':={ p97 with out:=p97.out++out++[32,125,59,10] }) (λw' t=>hR w' ⟨⟨t.1.up,q097.trans t.2⟩,(ED s97 (m:=5) lng).mono omg⟩) rfl rfl rfl rfl ⟨s97.ok.len,s97.ok.en0,s97.ok.en1,s97.ok.we⟩ s97.tl _ ?_ ?_
  .exact kpA
  .refine look_eq lookA ?_;rfl
end
end Go.W.T
