/- Texts of mine, one behind the other; nothing is assumed. -/
import Derived.Test.YtbfcgbhhgnnglaaGreatDoorB31
import Derived.Test.YtbfcgbhhgnnglaaGreatDoorB27
import Derived.Test.YtbfcgbhhgnnglaaGreatDoorB24
set_option autoImplicit true
set_option relaxedAutoImplicit true
set_option linter.unusedSimpArgs false
set_option linter.unusedVariables false
set_option maxRecDepth 100000
namespace Go.W.T
open Go Go.W Go.M Go.Proofs
def ints(l:List Int):List Value:=l.map λx=>.int .i64 x
def IsI(M:Nat)(w:World)(v:Value)(l:List Int):Prop:=∃o,Gw w 3 1 v l.length (ints l) o/\∀b,o=some b->b<M
def nR(r:eU)(nv pv:Value):List Value:=[.int .i64 r.kind,.int .i64 r.n,.int .i64 r.of,nv,pv,.int .i64 r.els,κs r.name,.int .i64 r.at_]
def eQ(M:Nat)(w:World):List eU->List Value->Prop
 |[],c=>c=[]
 |r::rs,c=>∃nv pv rest,c=nR r nv pv++rest/\IsI M w nv r.nums/\IsI M w pv r.parts/\eQ M w rs rest
def Off(b:Nat)(c:List Value):Prop:=∀v∈c,∀a n k,v≠.slice (some ⟨b,a,none⟩) n k
def nmV(x:NmR):List Value:=[κs x.s,.int .i64 x.what,.int .i64 x.n,.int .i64 x.at_]
def bV(l:List NmR):List Value:=l.flatMap nmV
def pcV(x:PcR):List Value:=[.int .i64 x.prog,.int .i64 x.fA,.int .i64 x.proc,.int .i64 x.arg,.int .i64 x.res]
def bU(l:List PcR):List Value:=l.flatMap pcV
structure Bd where
 rv:Value
 nv:Value
 pv:Value
 gv:Value
 rc:List Value
 o1:Option Nat
 o2:Option Nat
 o3:Option Nat
 o4:Option Nat
def aN(p:RS)(x:Bd):List Value:=[κs p.txt,.int .i64 p.w.kind,κs p.w.s,.int .i64 p.w.at_,.int .i64 p.w.en,.int .i64 p.w.n,.int .i64 p.w.e,x.rv,x.nv,x.pv,κs p.out,.int .i64 p.e,.int .i64 p.at_,.int .i64 p.consts,.int .i64 p.types,x.gv]
structure QXG (G:Option Nat->List Value->Prop) (B M pb:Nat) (w:World) (p:RS) (x:Bd):Prop where
 hp:w.heap[pb]?=some (cl (aN p x) 112)
 rows:Gw w 115 8 x.rv p.rows.length x.rc x.o1
 rat:eQ M w p.rows x.rc
 names:Gw w 117 4 x.nv p.names.length (bV p.names) x.o2
 procs:Gw w 287 5 x.pv p.procs.length (bU p.procs) x.o3
 aj:Gw w 3 1 x.gv p.aj.length (ints p.aj) x.o4
 b0:B<=pb
 b1:∀b,x.o1=some b->B<=b
 b2:∀b,x.o2=some b->B<=b
 b3:∀b,x.o3=some b->B<=b
 b4:∀b,x.o4=some b->B<=b
 m3:∀b,x.o3=some b->b<M
 m4:∀b,x.o4=some b->b<M
 d4:∀b,x.o4=some b->Off b x.rc
 gh:G x.o4 x.rc
 ok:Ok p
 tl:p.txt.length<=1200
theorem IsI.mono(h:IsI M w v l)(hM:M<=N):IsI N w v l:=by
 obtain⟨o,h,hm⟩:=h;exact⟨o,h,λb hb=>Nat.lt_of_lt_of_le (hm b hb) hM⟩
theorem eQ.mono(hM:M<=N):∀{l:List eU} {c:List Value},eQ M w l c->eQ N w l c
 |[],c,h=>h
 |r::l,c,⟨nv,pv,rest,h1,h2,h3,h4⟩=>⟨nv,pv,rest,h1,h2.mono hM,h3.mono hM,eQ.mono hM h4⟩
theorem QXG.mono(h:QXG G B M pb w p x)(hM:M<=N):QXG G B N pb w p x:=
 ⟨h.hp,h.rows,h.rat.mono hM,h.names,h.procs,h.aj,h.b0,h.b1,h.b2,h.b3,h.b4,λb hb=>Nat.lt_of_lt_of_le (h.m3 b hb) hM,λb hb=>Nat.lt_of_lt_of_le (h.m4 b hb) hM,h.d4,h.gh,h.ok,h.tl⟩
def T2(_:Option Nat)(_:List Value):Prop:=True
abbrev QX(B M pb:Nat)(w:World)(p:RS)(x:Bd):Prop:=QXG T2 B M pb w p x
def QSG(G:Option Nat->List Value->Prop)(B M pb:Nat)(w:World)(p:RS):Prop:=∃x,QXG G B M pb w p x
abbrev QS(B M pb:Nat)(w:World)(p:RS):Prop:=QSG T2 B M pb w p
structure Qk (B:Nat) (w w':World):Prop where
 os:w'.os=w.os
 tape:w'.tape=w.tape
 output:w'.output=w.output
 size:w.heap.size<=w'.heap.size
 low:∀b,b<B->b<w.heap.size->w'.heap[b]?=w.heap[b]?
 same:∀(b:Nat) (l:List Value) (t:TypeId),w.heap[b]?=some (cl l t)->t≠112->t≠115->t≠117->w'.heap[b]?=some (cl l t)
theorem Qk.refl(B:Nat)(w:World):Qk B w w:=⟨rfl,rfl,rfl,Nat.le_refl _,λ_ _ _=>rfl,λ_ _ _ h _ _ _=>h⟩
theorem Qk.trans(h:Qk B a b)(k:Qk B b c):Qk B a c:=
 ⟨k.os.trans h.os,k.tape.trans h.tape,k.output.trans h.output,Nat.le_trans h.size k.size,λi hi hs=>(k.low i hi (Nat.lt_of_lt_of_le hs h.size)).trans (h.low i hi hs),λi l t hi h1 h2 h3=>k.same i l t (h.same i l t hi h1 h2 h3) h1 h2 h3⟩
theorem Qk.kp(k:Kp [] w w'):Qk B w w':=
 ⟨k.os,k.tape,k.output,k.size,λb _ hs=>k.same b hs trivial,λb l t h _ _ _=>(k.same b (lt_of_heap h) trivial).trans h⟩
theorem AZ(e:cl a t=cl b u):t=u:=by
 simp only[cl,Obj.cells.injEq]at e;exact e.2.1
theorem Qk.out(hb:w.heap[b]?=some (cl l t))(hB:B<=b)(ht:t=112\/t=115\/t=117)(k:Kp [(b,b+1)] w w'):Qk B w w':=
 ⟨k.os,k.tape,k.output,k.size,λi hi hs=>k.same i hs ⟨omg,trivial⟩,λi m u hi h1 h2 h3=>(k.same i (lt_of_heap hi) ⟨by
  have:i≠b:=by
   rintro rfl;rw[hb]at hi;have:=AZ (Option.some.inj hi);rcases ht with rfl|rfl|rfl
   .exact h1 this.symm
   .exact h2 this.symm
   .exact h3 this.symm
  omega,trivial⟩).trans hi⟩
theorem dZ(h:Gw w e m v n l o)(k:Qk B w w')(h1:e≠112)(h2:e≠115)(h3:e≠117):Gw w' e m v n l o:=by
 obtain⟨a,b⟩:=h;refine⟨a,?_⟩;cases o with
 |none=>exact b
 |some ob=>obtain⟨r,c,x,y,z⟩:=b;exact⟨r,c,x,k.same _ _ _ y h1 h2 h3,z⟩
theorem IsI.kt(h:IsI M w v l)(k:Qk B w w'):IsI M w' v l:=by
 obtain⟨o,h,hm⟩:=h;exact⟨o,dZ h k dcd dcd dcd,hm⟩
theorem eQ.kt(k:Qk B w w'):∀{l:List eU} {c:List Value},eQ M w l c->eQ M w' l c
 |[],c,h=>h
 |r::l,c,⟨nv,pv,rest,h1,h2,h3,h4⟩=>⟨nv,pv,rest,h1,h2.kt k,h3.kt k,eQ.kt k h4⟩
theorem fP(h:Gw w e m v n l o)(hb:w.heap[b]?=some (cl c t))(hne:e≠t):o≠some b:=by
 rintro rfl;obtain⟨_,r,cp,_,y,_⟩:=h;rw[hb]at y;exact hne (AZ (Option.some.inj y)).symm
theorem QXG.put(h:QXG G B M pb w p x)(k:Kp [(pb,pb+1)] w w')(hp':w'.heap[pb]?=some (cl (aN p' x) 112))
  (er:p'.rows=p.rows) (en:p'.names=p.names) (ec:p'.procs=p.procs) (eg:p'.aj=p.aj) (ok:Ok p') (tl:p'.txt.length<=1200):QXG G B M pb w' p' x/\Qk B w w':=by
 have kt:=Qk.out h.hp h.b0 (Or.inl rfl) k
 have ho:∀{e:TypeId} {m:Nat} {v:Value} {n:Nat} {l:List Value} {o:Option Nat},Gw w e m v n l o->e≠112->Gw w' e m v n l o:=λhg hne=>hg.kp k λb hb=>⟨by
  have:b≠pb:=λe=>fP hg h.hp hne (hb.trans (by rw[e]))
  omega,trivial⟩
 exact⟨⟨hp',er▸ho h.rows dcd,er▸h.rat.kt kt,en▸ho h.names dcd,ec▸ho h.procs dcd,eg▸ho h.aj dcd,h.b0,h.b1,h.b2,h.b3,h.b4,h.m3,h.m4,h.d4,h.gh,ok,tl⟩,kt⟩
theorem QXG.ext(h:QXG G B M pb w p x)(k:Kp [] w w'):QXG G B M pb w' p x:=
 ⟨(k.same _ (lt_of_heap h.hp) trivial).trans h.hp,h.rows.kp k λ_ _=>trivial,h.rat.kt (B:=0) (Qk.kp k),h.names.kp k λ_ _=>trivial,h.procs.kp k λ_ _=>trivial,h.aj.kp k λ_ _=>trivial,h.b0,h.b1,h.b2,h.b3,h.b4,h.m3,h.m4,h.d4,h.gh,h.ok,h.tl⟩
theorem QSG.ext(h:QSG G B M pb w p)(k:Kp [] w w'):QSG G B M pb w' p:=by
 obtain⟨x,h⟩:=h;exact⟨x,h.ext k⟩
abbrev QTG(G:Option Nat->List Value->Prop)(B M pb:Nat)(w:World)(p':RS)(w':World):Prop:=QSG G B M pb w' p'/\Qk B w w'
abbrev QT(B M pb:Nat)(w:World)(p':RS)(w':World):Prop:=QTG T2 B M pb w p' w'
section
variable {G:Option Nat->List Value->Prop} {B M pb:Nat} {w:World} {p:RS}
theorem look_eq{w:World}{b:Nat}{o o':Obj}(h:w.heap[b]?=some o)(e:o=o'):w.heap[b]?=some o':=e▸h
theorem QXG.fin{x:Bd}(h:QXG G B M pb w p x){p':RS}{R:Ending->World->Prop}{v:Value}(hR:∀w',QTG G B M pb w p' w'->R (.returned v) w')(er:p'.rows=p.rows)(en:p'.names=p.names)(ec:p'.procs=p.procs)(eg:p'.aj=p.aj)(ok:Ok p')(tl:p'.txt.length<=1200)
  (w':World) (k:Kp [(pb,pb+1)] w w') (hp':w'.heap[pb]?=some (cl (aN p' x) 112)):R (.returned v) w':=by
 obtain⟨r1,r2⟩:=h.put k hp' er en ec eg ok tl;exact hR _ ⟨⟨x,r1⟩,r2⟩
theorem kZ(h:QSG G B M pb w p)(e a:Int):Calls P 44 #[pt pb 0,.int .i64 e,.int .i64 a] w (Ret λv w'=>v=.tuple #[]/\QTG G B M pb w (aK p e a) w'):=by
 obtain⟨x,h⟩:=h;refine Ret.R λR hR=>?_;refine cf [] Tryz.func44 ?_;have hp:=h.hp;unfold aN at hp;have hlt:=lt_of_heap hp;cases he:p.e==0 with
 |true=>
  have ef:aK p e a={ p with e:=e,at_:=a }:=by unfold aK;rw[if_pos he]
  rw[ef]at hR;refine gg ?_;refine h.fin (R:=R) (λw' t=>hR _ w' ⟨rfl,t⟩) rfl rfl rfl rfl ⟨h.ok.len,h.ok.en0,h.ok.en1,h.ok.we⟩ h.tl _ ?_ ?_
  .exact kpA
  .refine look_eq lookA ?_;rfl
 |false=>
  have ef:aK p e a=p:=by unfold aK;rw[if_neg (by rw[he];simp)]
  rw[ef]at hR;refine gg ?_;exact hR _ _ ⟨rfl,⟨x,h⟩,Qk.refl _ _⟩
theorem Au(h:QSG G B M pb w p):Calls P 74 #[pt pb 0] w (Ret λv w'=>v=.tuple #[]/\QTG G B M pb w (iQ p) w'):=by
 have h0:=h;obtain⟨x,h⟩:=h;refine Ret.R λR hR=>?_;refine cf [] Tryz.func74 ?_;have hp:=h.hp;unfold aN at hp;have hlt:=lt_of_heap hp;cases hk:p.w.kind==5 with
 |true=>
  have ef:iQ p=aK p p.w.e p.w.at_:=by unfold iQ;rw[if_pos hk]
  rw[ef]at hR;refine gg ?_;refine Cl.ret (kZ (h0.ext kpA) _ _) ?_;rintro _ w' ⟨rfl,t,k⟩;exact hR _ _ ⟨rfl,t,(Qk.kp kpA).trans k⟩
 |false=>
  have ef:iQ p=aK p 3 p.w.at_:=by unfold iQ;rw[if_neg (by rw[hk];simp)]
  rw[ef]at hR;refine gg ?_;refine Cl.ret (kZ h0 _ _) ?_;rintro _ w' ⟨rfl,t,k⟩;exact hR _ _ ⟨rfl,t,k⟩
theorem jh(h:QSG G B M pb w p):Calls P 40 #[pt pb 0] w (Ret λv w'=>v=.tuple #[]/\QTG G B M pb w (aB p) w'):=by
 obtain⟨x,h⟩:=h;refine Ret.R λR hR=>?_;refine cf [] Tryz.func40 ?_;have hp:=h.hp;unfold aN at hp;have hlt:=lt_of_heap hp;have e0:=h.ok.en0;have e1:=h.ok.en1;have htl:=h.tl;have hen:p.w.en=((p.w.en.toNat:Nat):Int):=omg;rw[hen]at hp;refine gg ?_;refine Cl.ret (q_Next _ p.txt p.w.en.toNat omg omg) ?_;rintro _ w9 ⟨rfl,k9⟩;have hp9:=(k9.same _ (lt_of_heap hp) trivial).trans hp;have hx:Ya (next p.txt p.w.en.toNat)=[.int .i64 (aB p).w.kind,κs (aB p).w.s,.int .i64 (aB p).w.at_,.int .i64 (aB p).w.en,.int .i64 (aB p).w.n,.int .i64 (aB p).w.e]:=by
  unfold aB;cases next p.txt p.w.en.toNat with
  |ok y=>rfl
  |no e a=>rfl
 rw[hx];have hp9':w9.heap[pb]?=some (cl [κs p.txt,.int .i64 p.w.kind,κs p.w.s,.int .i64 p.w.at_,.int .i64 p.w.en.toNat,.int .i64 p.w.n,.int .i64 p.w.e,x.rv,x.nv,x.pv,κs p.out,.int .i64 p.e,.int .i64 p.at_,.int .i64 p.consts,.int .i64 p.types,x.gv] 112):=hp9;refine gg ?_;have hlt9:=lt_of_heap hp9';refine h.fin (R:=R) (λw' t=>hR _ w' ⟨rfl,t⟩) rfl rfl rfl rfl (Di h.ok) h.tl _ ?_ ?_
 .exact kpA
 .refine look_eq lookA ?_;rfl
theorem rF(h:QSG G B M pb w p)(k:Int)(s:By):Calls P 71 #[pt pb 0,.int .i64 k,κs s] w (Ret λv w'=>v=.bool (is_ p k s)/\w'=w):=by
 obtain⟨x,h⟩:=h;refine Ret.R λR hR=>?_;refine cf [] Tryz.func71 ?_;have hp:=h.hp;unfold aN at hp;have hlt:=lt_of_heap hp;have hR':∀b,b=is_ p k s->R (.returned (.bool b)) w:=λb hb=>hR _ _ ⟨by rw[hb],rfl⟩;unfold is_ at hR';cases he:p.e==0 with
 |false=>(repeat' first|refine .q ?_|refine .r ?_|refine .g ?_|fail);exact hR' _ (by rw[he];rfl)
 |true=>
  cases hk:p.w.kind==k with
  |false=>(repeat' first|refine .q ?_|refine .r ?_|refine .g ?_|fail);exact hR' _ (by rw[he,hk];rfl)
  |true=>(repeat' first|refine .q ?_|refine .r ?_|refine .g ?_|fail);exact hR' _ (by rw[he,hk];rfl)
theorem dM(h:QSG G B M pb w p)(k:Int)(s:By):Calls P 120 #[pt pb 0,.int .i64 k,κs s] w (Ret λv w'=>v=.tuple #[]/\QTG G B M pb w (af p k s) w'):=by
 refine Ret.R λR hR=>?_;refine cf [] Tryz.func120 ?_;refine Cl.ret (rF h k s) ?_;rintro _ w2 ⟨rfl,rfl⟩;unfold af at hR;cases hi:is_ p k s with
 |true=>
  rw[hi,if_pos rfl]at hR;refine gg ?_;refine Cl.ret (jh h) ?_;rintro _ w' ⟨rfl,t⟩;exact hR _ _ ⟨rfl,t⟩
 |false=>
  rw[hi,if_neg smp]at hR;refine gg ?_;refine Cl.ret (Au h) ?_;rintro _ w' ⟨rfl,t⟩;exact hR _ _ ⟨rfl,t⟩
theorem wV(h:QSG G B M pb w p)(n m:Int):Calls P 75 #[pt pb 0,.int .i64 n,.int .i64 m] w (Ret λv w'=>v=.tuple #[]/\QTG G B M pb w (aG p n m) w'):=by
 refine Ret.R λR hR=>?_;refine cf [] Tryz.func75 ?_;unfold aG at hR;refine Jn.by (λ_ w'=>QTG G B M pb w (if(p.e==0&&p.w.kind==5)=true then iQ p else p) w') (λJ hJ=>?_) ?_
 .have h0:=h;obtain⟨x,h⟩:=h;have hp:=h.hp;unfold aN at hp;have hlt:=lt_of_heap hp;cases he:p.e==0 with
  |false=>
   refine gg ?_;exact hJ _ _ (by rw[he];exact⟨h0,Qk.refl _ _⟩)
  |true=>
   cases hk:p.w.kind==5 with
   |false=>
    refine gg ?_;exact hJ _ _ (by rw[he,hk];exact⟨h0,Qk.refl _ _⟩)
   |true=>
    refine gg ?_;refine Cl.ret (Au h0) ?_;rintro _ w' ⟨rfl,t⟩;exact hJ _ _ (by rw[he,hk];exact t)
 .rintro _ w1 jk ⟨t,k⟩;generalize (if(p.e==0&&p.w.kind==5)=true then iQ p else p)=q at *;have t0:=t;obtain⟨x,t⟩:=t;have hp:=t.hp;unfold aN at hp;have hlt:=lt_of_heap hp;simp only at hR;cases he:q.e==0 with
  |false=>
   rw[he,if_neg smp]at hR;refine gg ?_;exact hR _ _ ⟨rfl,t0,k⟩
  |true=>
   cases hn:decide (n>=m)with
   |false=>
    rw[he,hn,if_neg smp]at hR;refine gg ?_;exact hR _ _ ⟨rfl,t0,k⟩
   |true=>
    rw[he,hn,if_pos (by rfl)]at hR;refine gg ?_;refine Cl.ret (kZ t0 _ _) ?_;rintro _ w' ⟨rfl,t1,k1⟩;exact hR _ _ ⟨rfl,t1,k.trans k1⟩
end
end Go.W.T
